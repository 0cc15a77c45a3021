/- A carpet that is done has the knots of its plan but for the deviations that are agreed. -/
import Derived.Test.YtebljeaeoedgjaaDFnWeaving
set_option linter.unusedVariables false
set_option linter.unusedSimpArgs false
set_option maxRecDepth 100000
namespace Go.Proofs.Ytebljeaeoedgjaa.DFnWeaving
open Go Go.Proofs.YtebljeaeoedgjaaD
theorem succ_of {k : Nat} (h : 0 < k) : ∃ j, k = j + 1 := ⟨k - 1, by omega⟩
theorem w64_id {x : Int} (h : -9223372036854775808 ≤ x ∧ x ≤ 9223372036854775807) : w64 x = x := by
  unfold w64 IntKind.wrap
  simp [IntKind.signed, IntKind.bits]
  omega
theorem chk_nat {n j : Nat} (h : j < n) : chk n (j : Int) = some j := by unfold chk; rw [if_pos (by omega)]; simp
theorem chk_int {n : Nat} {i : Int} (h : 0 ≤ i ∧ i < n) : chk n i = some i.toNat := by unfold chk; rw [if_pos h]
theorem cut_int {n : Nat} {i j : Int} (h : 0 ≤ i ∧ i ≤ j ∧ j ≤ n) : cut n i j = some (i.toNat, j.toNat - i.toNat) := by unfold cut; rw [if_pos h]
theorem cutTo_int {n : Nat} {j : Int} (h : 0 ≤ j ∧ j ≤ n) : cutTo n j = some j.toNat := by unfold cutTo; rw [if_pos h]
theorem cut3_int {n : Nat} {i j m : Int} (h : 0 ≤ i ∧ i ≤ j ∧ j ≤ m ∧ m ≤ n) : cut3 n i j m = some () := by unfold cut3; rw [if_pos h]
theorem mkl_int {L : Nat} {n c : Int} (h : 0 ≤ n ∧ n ≤ c ∧ c ≤ L) : mkl L n c = some n.toNat := by unfold mkl; rw [if_pos h]
theorem selfApp_nat {i lo m : Nat} (h : i ≤ lo) : selfApp i lo m = some (i + m) := by unfold selfApp; rw [if_pos h]
section
variable {β : Type}
theorem app_ok {L : Nat} {xs ys : List β} (h : xs.length + ys.length ≤ L) : app L xs ys = some (xs ++ ys) := by unfold app; rw [if_pos h]
theorem chk_mid (p : List β) (a : β) (q : List β) : chk (p ++ a :: q).length (p.length : Int) = some p.length := chk_nat (by simp)
theorem getD_mid (p : List β) (a : β) (q : List β) (d : β) : (p ++ a :: q).getD p.length d = a := by
  rw [List.getD_eq_getElem?_getD, List.getElem?_append_right (Nat.le_refl _)]; simp
theorem set_mid (p : List β) (a b : β) (q : List β) : (p ++ a :: q).set p.length b = p ++ b :: q := by
  rw [List.set_append_right _ _ (Nat.le_refl _)]; simp
theorem upd_mid (p : List β) (a : β) (q : List β) (d : β) (f : β → β) : upd (p ++ a :: q) p.length d f = p ++ f a :: q := by
  unfold upd; rw [getD_mid, set_mid]
theorem upd_len (xs : List β) (j : Nat) (d : β) (f : β → β) : (upd xs j d f).length = xs.length := by unfold upd; simp
theorem upd_of {xs : List β} {j : Nat} {d : β} {f : β → β} : upd xs j d f = xs.set j (f (xs.getD j d)) := rfl
theorem lt_mid (p : List β) (a : β) (q : List β) : (p.length : Int) < ((p ++ a :: q).length : Nat) := by simp; omega
theorem next_mid {p : List β} {a : β} {q : List β} (h : (p ++ a :: q).length ≤ 1152921504606846976) : w64 ((p.length : Int) + 1) = ((p ++ [a]).length : Nat) := by
  rw [w64_id (by simp at h; omega)]; simp
theorem snoc_app (p : List β) (a : β) (q : List β) : p ++ a :: q = (p ++ [a]) ++ q := by simp
theorem getD_lt {xs : List β} {i : Nat} {d : β} (h : i < xs.length) : xs.getD i d = xs[i] := by
  rw [List.getD_eq_getElem?_getD, List.getElem?_eq_getElem h]; rfl
theorem getD_set {xs : List β} {i j : Nat} {a d : β} (h : i < xs.length) : (xs.set i a).getD j d = if i = j then a else xs.getD j d := by
  rw [List.getD_eq_getElem?_getD, List.getD_eq_getElem?_getD, List.getElem?_set]
  split
  · rename_i e; subst e; simp [h]
  · rfl
theorem some_bind {γ : Type} (x : β) (f : β → Option γ) : (some x).bind f = f x := rfl
end
def inB (n lo hi : Int) : Bool := decide (lo ≤ n) && decide (n ≤ hi)
theorem inB_iff {n lo hi : Int} : inB n lo hi = true ↔ lo ≤ n ∧ n ≤ hi := by unfold inB; simp
theorem inB_of {n lo hi : Int} (h : lo ≤ n ∧ n ≤ hi) : inB n lo hi = true := inB_iff.2 h
theorem notB {b : Bool} (h : ¬ b = true) : b = false := by cases b <;> simp_all
theorem all_loop {β : Type} {L : Nat → Nat → Option β} {n K0 : Nat} {ok : Nat → Bool} {f : Option β} (hs : ∀ k i, K0 ≤ k → i < n → L (k + 1) i = if ok i = true then L k (i + 1) else f) :
    ∀ (d k i : Nat), i + d = n → K0 + d < k → (∀ e, (∀ k, K0 ≤ k → L (k + 1) n = e) → (∀ j, i ≤ j → j < n → ok j = true) → L k i = e) ∧ ((∃ j, i ≤ j ∧ j < n ∧ ok j = false) → L k i = f) := by
  intro d
  induction d with
  | zero =>
    intro k i h1 h2
    obtain ⟨k, rfl⟩ := succ_of (show 0 < k by omega)
    have : i = n := by omega
    subst this
    exact ⟨fun e he _ => he k (by omega), fun ⟨j, a, b, _⟩ => by omega⟩
  | succ d ih =>
    intro k i h1 h2
    obtain ⟨k, rfl⟩ := succ_of (show 0 < k by omega)
    have := ih k (i + 1) (by omega) (by omega)
    rw [hs k i (by omega) (by omega)]
    refine ⟨fun e he h => ?_, fun ⟨j, a, b, c⟩ => ?_⟩
    · rw [if_pos (h i (Nat.le_refl _) (by omega))]; exact this.1 e he fun j a b => h j (by omega) b
    · by_cases e : ok i = true
      · rw [if_pos e]
        refine this.2 ⟨j, ?_, b, c⟩
        rcases Nat.lt_or_ge i j with h | h
        · exact h
        · have : j = i := by omega
          subst this; rw [e] at c; cases c
      · rw [if_neg e]
theorem exists_bad {n : Nat} {ok : Nat → Bool} (h : ¬ ∀ i, i < n → ok i = true) : ∃ j, 0 ≤ j ∧ j < n ∧ ok j = false := by
  apply Classical.byContradiction; intro hn
  refine h fun j hj => ?_
  cases hc : ok j with
  | true => rfl
  | false => exact absurd ⟨j, Nat.zero_le _, hj, hc⟩ hn
theorem first_bad {n : Nat} {ok : Nat → Bool} (h : ¬ ∀ i, i < n → ok i = true) : ∃ j, j < n ∧ ok j = false ∧ ∀ i, i < j → ok i = true := by
  induction n with
  | zero => exact absurd (fun i hi => by omega) h
  | succ n ih =>
    by_cases h1 : ∀ i, i < n → ok i = true
    · refine ⟨n, by omega, ?_, h1⟩
      cases hc : ok n with
      | false => rfl
      | true => exact absurd (fun i hi => by
          rcases Nat.lt_or_ge i n with h' | h'
          · exact h1 i h'
          · have : i = n := by omega
            rw [this]; exact hc) h
    · obtain ⟨j, a, b, c⟩ := ih h1
      exact ⟨j, by omega, b, c⟩
theorem find_loop {L : Nat → Nat → Option Int} {n K0 : Nat} {ok : Nat → Bool} (hs : ∀ k i, K0 ≤ k → i < n → L (k + 1) i = if ok i = true then some (i : Int) else L k (i + 1)) (he : ∀ k, K0 ≤ k → L (k + 1) n = some (-1)) :
    ∀ (d k i : Nat), i + d = n → K0 + d < k → ((∀ j, i ≤ j → j < n → ok j = false) → L k i = some (-1)) ∧ (∀ m, i ≤ m → m < n → ok m = true → (∀ j, i ≤ j → j < m → ok j = false) → L k i = some (m : Int)) := by
  intro d
  induction d with
  | zero =>
    intro k i h1 h2
    obtain ⟨k, rfl⟩ := succ_of (show 0 < k by omega)
    have : i = n := by omega
    subst this
    exact ⟨fun _ => he k (by omega), fun m a b _ _ => by omega⟩
  | succ d ih =>
    intro k i h1 h2
    obtain ⟨k, rfl⟩ := succ_of (show 0 < k by omega)
    have := ih k (i + 1) (by omega) (by omega)
    rw [hs k i (by omega) (by omega)]
    refine ⟨fun h => ?_, fun m a b c h => ?_⟩
    · rw [if_neg (by rw [h i (Nat.le_refl _) (by omega)]; simp)]; exact this.1 fun j a b => h j (by omega) b
    · by_cases e : ok i = true
      · rw [if_pos e]
        rcases Nat.lt_or_ge i m with h' | h'
        · have := h i (Nat.le_refl _) h'; rw [e] at this; cases this
        · have : m = i := by omega
          rw [this]
      · rw [if_neg e]
        refine this.2 m ?_ b c fun j a b => h j (by omega) b
        rcases Nat.lt_or_ge i m with h' | h'
        · exact h'
        · have : m = i := by omega
          subst this; exact absurd c e
theorem stepb {α γ : Type} {a : Option α} {x : α} {f : α → Option γ} {r : Option γ} (h : a = some x) (g : f x = r) : a.bind f = r := by rw [h]; exact g
theorem ifn {γ : Type} {c : Prop} {i : Decidable c} {t e r : γ} (h : ¬ c) (g : e = r) : @ite γ c i t e = r := by rw [if_neg h]; exact g
theorem condt {γ : Type} {a b r : γ} (g : b = r) : cond (!true) a b = r := g
def Yl {α : Type} (x : Option α) (P : α → Prop) : Prop := ∃ a, x = some a ∧ P a
theorem Yl.bind {α β : Type} {x : Option α} {f : α → Option β} {P : α → Prop} {Q : β → Prop} (h : Yl x P) (g : ∀ a, P a → Yl (f a) Q) : Yl (x.bind f) Q := by
  obtain ⟨a, rfl, ha⟩ := h; exact g a ha
theorem Yl.mono {α : Type} {x : Option α} {P Q : α → Prop} (h : Yl x P) (g : ∀ a, P a → Q a) : Yl x Q := by
  obtain ⟨a, e, ha⟩ := h; exact ⟨a, e, g a ha⟩
theorem Yl.ret {α : Type} {a : α} {P : α → Prop} (h : P a) : Yl (some a) P := ⟨a, rfl, h⟩
theorem Yl.ite {α : Type} {c : Prop} [i : Decidable c] {t e : Option α} {P : α → Prop} (ht : c → Yl t P) (he : ¬ c → Yl e P) : Yl (@ite _ c i t e) P := by
  by_cases h : c
  · rw [if_pos h]; exact ht h
  · rw [if_neg h]; exact he h
theorem Yl.cond {α : Type} {c : Bool} {t e : Option α} {P : α → Prop} (ht : c = true → Yl t P) (he : c = false → Yl e P) : Yl (cond c t e) P := by
  cases c
  · exact he rfl
  · exact ht rfl
def By (l : List Int) : Prop := ∀ y ∈ l, 0 ≤ y ∧ y ≤ 255
theorem By.of {l : List Int} (h : ∀ y ∈ l, (Lit.int .u8 y).wf = true) : By l := by
  intro y hy; have h := h y hy
  unfold Lit.wf at h; rw [Bool.and_eq_true] at h
  have h1 := of_decide_eq_true h.1; have h2 := of_decide_eq_true h.2
  exact ⟨h1, h2⟩
theorem byteBits (q : Int) : 0 ≤ band .u64 q 255 ∧ band .u64 q 255 ≤ 255 := by
  have h : (BitVec.ofInt 64 q &&& BitVec.ofInt 64 255).toNat ≤ 255 := by
    rw [BitVec.toNat_and]
    exact Nat.le_trans Nat.and_le_right (by decide)
  change 0 ≤ IntKind.wrap .u64 ((((BitVec.ofInt 64 q &&& BitVec.ofInt 64 255).toNat : Nat)) : Int) ∧ IntKind.wrap .u64 ((((BitVec.ofInt 64 q &&& BitVec.ofInt 64 255).toNat : Nat)) : Int) ≤ 255
  generalize (BitVec.ofInt 64 q &&& BitVec.ofInt 64 255).toNat = n at *
  unfold IntKind.wrap
  simp [IntKind.signed, IntKind.bits]
  omega
theorem next_ok (k : Nat) {l : List Int} {a : Int} (s : Int) (hb : By l) (h : 0 ≤ a ∧ a ≤ 1000000000000000) (hk : 5 ≤ k) : Yl (spec_l1Cur_next.f k l a s) fun r => r.2.1 = l ∧ r.2.2.1 = a + 1 ∧ 0 ≤ r.1 ∧ r.1 ≤ 255 := by
  obtain ⟨k, rfl⟩ := succ_of (show 0 < k by omega)
  have key : ∀ b : Int, 0 ≤ b ∧ b ≤ 255 → Yl (spec_l1Cur_next.l2 (k + 1) l a s b) fun r => r.2.1 = l ∧ r.2.2.1 = a + 1 ∧ 0 ≤ r.1 ∧ r.1 ≤ 255 := fun b hbb => by
    simp only [spec_l1Cur_next.l2, spec_l1Cur_next.b2]
    rw [w64_id (x := a + 1) (by omega)]
    refine Yl.ite (fun _ => Yl.ret ⟨rfl, rfl, hbb⟩) fun _ => ?_
    unfold shr; rw [if_neg (by omega)]; simp only [Option.bind_some]
    refine Yl.ret ⟨rfl, rfl, ?_⟩
    have := byteBits ((IntKind.u64.wrap (IntKind.u64.wrap (IntKind.u64.wrap (s * 6364136223846793005) + IntKind.u64.wrap b) + 102323)).fdiv (2 ^ min (Int.toNat 40) IntKind.u64.bits))
    rw [w64_id (by omega)]; exact this
  unfold spec_l1Cur_next.f spec_l1Cur_next.m
  refine Yl.ite (fun hlt => ?_) fun _ => key 0 (by omega)
  rw [chk_int (by omega)]; simp only [Option.bind_some]
  have hi : a.toNat < l.length := by omega
  have := hb _ (List.getElem_mem hi)
  rw [getD_lt hi, w64_id (by omega)]
  exact key _ this
theorem pick_ok (k : Nat) {l : List Int} {a : Int} (s n : Int) (hb : By l) (h : 0 ≤ a ∧ a ≤ 1000000000000) (hk : 5 ≤ k) : Yl (spec_l1Cur_pick.f k l a s n) fun r => r.2.1 = l ∧ a ≤ r.2.2.1 ∧ r.2.2.1 ≤ a + 2 ∧ 0 ≤ r.1 ∧ (r.1 = 0 ∨ r.1 < n) ∧ r.1 ≤ 65535 := by
  unfold spec_l1Cur_pick.f spec_l1Cur_pick.m
  refine Yl.ite (fun _ => Yl.ret ⟨rfl, by simp, by dsimp only; omega, by simp⟩) fun hn => ?_
  refine Yl.bind (next_ok k s hb (by omega) hk) ?_
  rintro ⟨b, l', a', s'⟩ ⟨e1, e2, e3, e4⟩
  dsimp only at *; subst e1; subst e2
  refine Yl.ite (fun hn2 => ?_) fun _ => ?_
  · refine Yl.bind (next_ok k s' hb (by omega) hk) ?_
    rintro ⟨c, l2, a2, s2⟩ ⟨f1, f2, f3, f4⟩
    dsimp only at *; subst f1; subst f2
    rw [w64_id (x := b * 256) (by omega), w64_id (by omega)]
    unfold rem; rw [if_neg (by omega)]; simp only [Option.bind_some]
    rw [Int.tmod_eq_emod_of_nonneg (by omega)]
    have := Int.emod_nonneg (b * 256 + c) (show n ≠ 0 by omega)
    have := Int.emod_lt_of_pos (b * 256 + c) (show 0 < n by omega)
    have : (b * 256 + c) % n ≤ b * 256 + c := by
      rcases Int.lt_or_le (b * 256 + c) n with h | h
      · rw [Int.emod_eq_of_lt (by omega) h]; omega
      · omega
    exact Yl.ret ⟨rfl, by dsimp only; omega, by dsimp only; omega, by omega, by omega, by dsimp only; omega⟩
  · unfold rem; rw [if_neg (by omega)]; simp only [Option.bind_some]
    rw [Int.tmod_eq_emod_of_nonneg (by omega)]
    have := Int.emod_nonneg b (show n ≠ 0 by omega)
    have := Int.emod_lt_of_pos b (show 0 < n by omega)
    exact Yl.ret ⟨rfl, by dsimp only; omega, by dsimp only; omega, by omega, by omega, by dsimp only; omega⟩
theorem one_ok (k : Nat) {l : List Int} {a : Int} (s n : Int) (hb : By l) (h : 0 ≤ a ∧ a ≤ 1000000000000) (hk : 5 ≤ k) : Yl (spec_l1Cur_one.f k l a s n) fun r => r.2.1 = l ∧ a ≤ r.2.2.1 ∧ r.2.2.1 ≤ a + 2 := by
  unfold spec_l1Cur_one.f spec_l1Cur_one.m
  refine Yl.bind (pick_ok k s n hb h hk) ?_
  rintro ⟨b, l', a', s'⟩ ⟨e1, e2, e3, e4⟩
  exact Yl.ret ⟨e1, e2, e3⟩
theorem among_ok (k : Nat) {l : List Int} {a : Int} (s : Int) {xs : List Int} (lo hi : Int) (hx : 0 < xs.length ∧ xs.length ≤ 60000) (hm : ∀ x ∈ xs, lo ≤ x ∧ x ≤ hi) (hb : By l) (h : 0 ≤ a ∧ a ≤ 1000000000000) (hk : 5 ≤ k) : Yl (spec_l1Cur_among_2.f k l a s xs) fun r => r.2.1 = l ∧ r.2.2.2.2 = xs ∧ a ≤ r.2.2.1 ∧ r.2.2.1 ≤ a + 2 ∧ lo ≤ r.1 ∧ r.1 ≤ hi := by
  unfold spec_l1Cur_among_2.f spec_l1Cur_among_2.m
  refine Yl.bind (pick_ok k s _ hb h hk) ?_
  rintro ⟨b, l', a', s'⟩ ⟨e1, e2, e3, e4, e5, e6⟩
  dsimp only at *
  rw [chk_int (by omega)]; simp only [Option.bind_some]
  have hi : b.toNat < xs.length := by omega
  have := hm _ (List.getElem_mem hi)
  rw [getD_lt hi]
  exact Yl.ret ⟨e1, rfl, e2, e3, this⟩
theorem among_any (k : Nat) {l : List Int} {a : Int} (s : Int) {xs : List Int} (hx : 0 < xs.length ∧ xs.length ≤ 60000) (hb : By l) (h : 0 ≤ a ∧ a ≤ 1000000000000) (hk : 5 ≤ k) : Yl (spec_l1Cur_among_2.f k l a s xs) fun r => r.2.1 = l ∧ r.2.2.2.2 = xs ∧ a ≤ r.2.2.1 ∧ r.2.2.1 ≤ a + 2 := by
  unfold spec_l1Cur_among_2.f spec_l1Cur_among_2.m
  refine Yl.bind (pick_ok k s _ hb h hk) ?_
  rintro ⟨b, l', a', s'⟩ ⟨e1, e2, e3, e4, e5, e6⟩
  dsimp only at *
  rw [chk_int (by omega)]; simp only [Option.bind_some]
  exact Yl.ret ⟨e1, rfl, e2, e3⟩
theorem quo2 {x : Int} {β : Type} {f : Int → Option β} {P : β → Prop} (h : ∀ q, Yl (f q) P) : Yl ((quo .i64 x 2).bind f) P := by
  unfold quo; rw [if_neg (by omega)]; exact h _
theorem most_ok (k : Nat) (a b : Int) : Yl (spec_l1Most.f k a b) fun r => a ≤ r ∧ b ≤ r ∧ (r = a ∨ r = b) := by
  unfold spec_l1Most.f spec_l1Most.m
  exact Yl.ite (fun h => Yl.ret ⟨by omega, by omega, by omega⟩) fun h => Yl.ret ⟨by omega, by omega, by omega⟩
def colorB (x : Int) : Bool := inB x 0 5
def goodB (w h : Int) (l : List Int) : Bool := inB w 1 8 && inB h 1 8 && decide ((l.length : Int) = w * h) && l.all colorB
theorem mul_bd {w h : Int} (hw : 1 ≤ w ∧ w ≤ 8) (hh : 1 ≤ h ∧ h ≤ 8) : 1 ≤ w * h ∧ w * h ≤ 64 := by
  obtain ⟨a, b⟩ := hw; obtain ⟨c, d⟩ := hh
  have h1 : w = 1 ∨ w = 2 ∨ w = 3 ∨ w = 4 ∨ w = 5 ∨ w = 6 ∨ w = 7 ∨ w = 8 := by omega
  rcases h1 with rfl | rfl | rfl | rfl | rfl | rfl | rfl | rfl <;> omega
theorem good_of {w h : Int} {l : List Int} (hg : goodB w h l = true) : (1 ≤ w ∧ w ≤ 8) ∧ (1 ≤ h ∧ h ≤ 8) ∧ (l.length : Int) = w * h ∧ ∀ x ∈ l, 0 ≤ x ∧ x ≤ 5 := by
  unfold goodB at hg
  simp only [Bool.and_eq_true, decide_eq_true_eq, List.all_eq_true, inB_iff] at hg
  exact ⟨hg.1.1.1, hg.1.1.2, hg.1.2, fun x hx => inB_iff.1 (hg.2 x hx)⟩
theorem allI_iff (p : Int → Bool) (xs : List Int) : xs.all p = true ↔ ∀ i, i < xs.length → p (xs.getD i 0) = true := by
  rw [List.all_eq_true]
  constructor
  · intro h i hi; rw [getD_lt hi]; exact h _ (List.getElem_mem hi)
  · intro h x hx
    obtain ⟨i, hi, rfl⟩ := List.mem_iff_getElem.1 hx
    rw [← getD_lt (d := 0) hi]; exact h i hi
theorem specIn_eq (k : Nat) (n lo hi : Int) : spec_l1In.f k n lo hi = some (inB n lo hi) := by
  unfold spec_l1In.f spec_l1In.m inB; by_cases h : lo ≤ n <;> simp [h]
theorem implIn_eq (k : Nat) (n lo hi : Int) : impl_in.f k n lo hi = some (inB n lo hi) := by
  unfold impl_in.f impl_in.m inB; by_cases h : lo ≤ n <;> simp [h]
theorem l2Color_eq (k : Nat) (n : Int) : spec_l2Color.f k n = some (colorB n) := by unfold spec_l2Color.f spec_l2Color.m; rw [specIn_eq]; rfl
theorem l2Side_eq (k : Nat) (n : Int) : spec_l2Side.f k n = some (inB n 1 8) := by unfold spec_l2Side.f spec_l2Side.m; rw [specIn_eq]; rfl
theorem isColor_eq (k : Nat) (n : Int) : impl_isColor.f k n = some (colorB n) := by unfold impl_isColor.f impl_isColor.m; rw [implIn_eq]; rfl
theorem isSide_eq (k : Nat) (n : Int) : impl_isSide.f k n = some (inB n 1 8) := by unfold impl_isSide.f impl_isSide.m; rw [implIn_eq]; rfl
theorem l2Good_eq (k : Nat) (w h : Int) (l : List Int) (hl : l.length ≤ 100000000000000) (hk : l.length + 50 ≤ k) : spec_l2Good.f k w h l = some (goodB w h l) := by
  unfold spec_l2Good.f spec_l2Good.m
  have hq := (all_loop (L := fun k i => spec_l2Good.l3 k w h l (i : Int)) (n := l.length) (K0 := 20) (ok := fun i => colorB (l.getD i 0)) (f := some false) (fun k i hk hi => ?_)) l.length k 0 (by omega) (by omega)
  · rw [show ((0 : Nat) : Int) = 0 from rfl] at hq
    by_cases hc : l.all colorB = true
    · rw [hq.1 _ (fun k hk => ?_) (fun j _ hj => (allI_iff _ _).1 hc j hj)]
      simp (disch := omega) only [spec_l2Good.l3, spec_l2Good.b3, if_neg, l2Side_eq, Option.bind_some]
      unfold goodB
      cases e1 : inB w 1 8 <;> simp only [Bool.not_true, Bool.not_false, cond_true, cond_false, Bool.true_and, Bool.false_and, Bool.and_true, Bool.and_false, Bool.false_eq_true, Bool.true_or, Bool.or_true, Bool.false_or, Bool.or_false, Bool.or_self, Bool.and_self, decide_true, decide_false, if_true, if_false, not_true, not_false_eq_true, not_true_eq_false, false_or, or_false, true_and, and_true, Bool.not_eq_true, Bool.true_eq_false, reduceCtorEq]
      cases e2 : inB h 1 8 <;> simp only [Bool.not_true, Bool.not_false, cond_true, cond_false, Bool.true_and, Bool.false_and, Bool.and_true, Bool.and_false, Bool.false_eq_true, Bool.true_or, Bool.or_true, Bool.false_or, Bool.or_false, Bool.or_self, Bool.and_self, decide_true, decide_false, if_true, if_false, not_true, not_false_eq_true, not_true_eq_false, false_or, or_false, true_and, and_true, Bool.not_eq_true, Bool.true_eq_false, reduceCtorEq, hc, Option.bind_some]
      have := mul_bd (inB_iff.1 e1) (inB_iff.1 e2)
      rw [w64_id (by omega)]
    · rw [hq.2 (exists_bad fun hn => hc ((allI_iff _ _).2 hn))]
      unfold goodB; rw [notB hc]; simp
  · simp (disch := omega) only [spec_l2Good.l3, spec_l2Good.b3, if_pos, chk_nat, Option.bind_some, w64_id, l2Color_eq, Int.natCast_add, Int.cast_ofNat_Int]
    cases colorB (l.getD i 0) <;> simp only [Bool.not_true, Bool.not_false, cond_true, cond_false, Bool.true_and, Bool.false_and, Bool.and_true, Bool.and_false, Bool.false_eq_true, Bool.true_or, Bool.or_true, Bool.false_or, Bool.or_false, Bool.or_self, Bool.and_self, decide_true, decide_false, if_true, if_false, not_true, not_false_eq_true, not_true_eq_false, false_or, or_false, true_and, and_true, Bool.not_eq_true, Bool.true_eq_false, reduceCtorEq]
theorem areColors_eq (k : Nat) (l : List Int) (hl : l.length ≤ 100000000000000) (hk : l.length + 50 ≤ k) : impl_areAll_int__impl_isColor.f k l = some (l.all colorB) := by
  unfold impl_areAll_int__impl_isColor.f impl_areAll_int__impl_isColor.m slices_ContainsFunc_int_int__impl_areAll_int_1__impl_isColor.f slices_ContainsFunc_int_int__impl_areAll_int_1__impl_isColor.m slices_IndexFunc_int_int__impl_areAll_int_1__impl_isColor.f slices_IndexFunc_int_int__impl_areAll_int_1__impl_isColor.m
  have h := (find_loop (L := fun k i => slices_IndexFunc_int_int__impl_areAll_int_1__impl_isColor.l3 k l l.length (i : Int)) (n := l.length) (K0 := 20) (ok := fun i => !colorB (l.getD i 0)) (fun k i hk hi => ?_) (fun k hk => ?_)) l.length k 0 (by omega) (by omega)
  · rw [show ((0 : Nat) : Int) = 0 from rfl] at h
    by_cases ha : l.all colorB = true
    · rw [h.1 (fun j _ hj => by rw [(allI_iff _ _).1 ha j hj]; rfl), ha]; rfl
    · obtain ⟨m, h1, h2, h3⟩ := first_bad (n := l.length) (ok := fun i => colorB (l.getD i 0)) (fun hn => ha ((allI_iff _ _).2 hn))
      rw [h.2 m (Nat.zero_le _) h1 (by rw [h2]; rfl) (fun j _ hj => by rw [h3 j hj]; rfl), notB ha]
      simp
  · simp (disch := omega) only [slices_IndexFunc_int_int__impl_areAll_int_1__impl_isColor.l3, slices_IndexFunc_int_int__impl_areAll_int_1__impl_isColor.b3, impl_areAll_int_1__impl_isColor.f, impl_areAll_int_1__impl_isColor.m, isColor_eq, if_pos, chk_nat, Option.bind_some, w64_id, Int.natCast_add, Int.cast_ofNat_Int]
    cases colorB (l.getD i 0) <;> simp only [Bool.not_true, Bool.not_false, cond_true, cond_false, Bool.true_and, Bool.false_and, Bool.and_true, Bool.and_false, Bool.false_eq_true, Bool.true_or, Bool.or_true, Bool.false_or, Bool.or_false, Bool.or_self, Bool.and_self, decide_true, decide_false, if_true, if_false, not_true, not_false_eq_true, not_true_eq_false, false_or, or_false, true_and, and_true, Bool.not_eq_true, Bool.true_eq_false, reduceCtorEq]
  · simp (disch := omega) only [slices_IndexFunc_int_int__impl_areAll_int_1__impl_isColor.l3, slices_IndexFunc_int_int__impl_areAll_int_1__impl_isColor.b3, if_neg]
theorem isChart_eq (k : Nat) (w h : Int) (l : List Int) (hl : l.length ≤ 100000000000000) (hk : l.length + 50 ≤ k) : impl_IsChart.f k w h l = some (goodB w h l) := by
  unfold impl_IsChart.f impl_IsChart.m goodB
  rw [isSide_eq, isSide_eq, areColors_eq k l hl hk]
  simp only [Option.bind_some]
  cases e1 : inB w 1 8 <;> simp only [Bool.not_true, Bool.not_false, cond_true, cond_false, Bool.true_and, Bool.false_and, Bool.and_true, Bool.and_false, Bool.false_eq_true, Bool.true_or, Bool.or_true, Bool.false_or, Bool.or_false, Bool.or_self, Bool.and_self, decide_true, decide_false, if_true, if_false, not_true, not_false_eq_true, not_true_eq_false, false_or, or_false, true_and, and_true, Bool.not_eq_true, Bool.true_eq_false, reduceCtorEq]
  cases e2 : inB h 1 8 <;> simp only [Bool.not_true, Bool.not_false, cond_true, cond_false, Bool.true_and, Bool.false_and, Bool.and_true, Bool.and_false, Bool.false_eq_true, Bool.true_or, Bool.or_true, Bool.false_or, Bool.or_false, Bool.or_self, Bool.and_self, decide_true, decide_false, if_true, if_false, not_true, not_false_eq_true, not_true_eq_false, false_or, or_false, true_and, and_true, Bool.not_eq_true, Bool.true_eq_false, reduceCtorEq]
  have := mul_bd (inB_iff.1 e1) (inB_iff.1 e2)
  rw [w64_id (by omega)]
  by_cases e : (l.length : Int) = w * h <;> simp [e]
theorem cloneI_eq (k : Nat) (cs : List Int) (hl : cs.length ≤ 5000000) : slices_Clone_int_int.f k cs = some cs := by unfold slices_Clone_int_int.f; rw [app_ok (by simp; omega)]; rfl
theorem ownI_eq (k : Nat) (cs : List Int) (hl : cs.length ≤ 5000000) : spec_l1Own.f k cs = some cs := by unfold spec_l1Own.f spec_l1Own.m; rw [app_ok (by simp; omega)]; rfl
theorem copied_eq (k : Nat) (w h : Int) (l : List Int) (hl : l.length ≤ 5000000) : impl_Chart_copied.f k w h l = some (w, h, l) := by unfold impl_Chart_copied.f impl_Chart_copied.m; rw [cloneI_eq k l hl]; rfl
theorem l2Own_eq (k : Nat) (w h : Int) (l : List Int) (hl : l.length ≤ 5000000) : spec_l2Own.f k w h l = some (w, h, l) := by unfold spec_l2Own.f spec_l2Own.m; rw [ownI_eq k l hl]; rfl
theorem l8Colors_eq (k : Nat) (l : List Int) (hl : l.length ≤ 100000000000000) (hk : l.length + 50 ≤ k) : spec_l8Colors.f k l = some (l.all colorB) := by
  unfold spec_l8Colors.f spec_l8Colors.m
  have hq := (all_loop (L := fun k i => spec_l8Colors.l3 k l (i : Int)) (n := l.length) (K0 := 20) (ok := fun i => colorB (l.getD i 0)) (f := some false) (fun k i hk hi => ?_)) l.length k 0 (by omega) (by omega)
  · rw [show ((0 : Nat) : Int) = 0 from rfl] at hq
    by_cases hc : l.all colorB = true
    · rw [hq.1 (some true) (fun k hk => by simp (disch := omega) only [spec_l8Colors.l3, spec_l8Colors.b3, if_neg]) (fun j _ hj => (allI_iff _ _).1 hc j hj), hc]
    · rw [hq.2 (exists_bad fun hn => hc ((allI_iff _ _).2 hn)), notB hc]
  · simp (disch := omega) only [spec_l8Colors.l3, spec_l8Colors.b3, if_pos, chk_nat, Option.bind_some, w64_id, l2Color_eq, Int.natCast_add, Int.cast_ofNat_Int]
    cases colorB (l.getD i 0) <;> simp only [Bool.not_true, Bool.not_false, cond_true, cond_false, Bool.true_and, Bool.false_and, Bool.and_true, Bool.and_false, Bool.false_eq_true, Bool.true_or, Bool.or_true, Bool.false_or, Bool.or_false, Bool.or_self, Bool.and_self, decide_true, decide_false, if_true, if_false, not_true, not_false_eq_true, not_true_eq_false, false_or, or_false, true_and, and_true, Bool.not_eq_true, Bool.true_eq_false, reduceCtorEq]
abbrev V2 := Int × Int
/-- Is a place agreed? -/
def agr (ag : List V2) (p : Int) : Bool := ag.any fun d => decide (d.1 = p)
theorem agr_iff {ag : List V2} {p : Int} : agr ag p = true ↔ ∃ i, i < ag.length ∧ (ag.getD i (0, 0)).1 = p := by
  unfold agr
  rw [List.any_eq_true]
  constructor
  · rintro ⟨d, hd, h⟩
    obtain ⟨i, hi, rfl⟩ := List.mem_iff_getElem.1 hd
    exact ⟨i, hi, by rw [getD_lt hi]; simpa using h⟩
  · rintro ⟨i, hi, h⟩
    exact ⟨ag[i], List.getElem_mem hi, by rw [getD_lt hi] at h; simpa using h⟩
def misFrom (pl kn : List Int) (ag : List V2) : Nat → Nat → List Int
  | _, 0 => []
  | i, d + 1 => if kn.getD i 0 = pl.getD i 0 then misFrom pl kn ag (i + 1) d else if agr ag (i : Int) = true then misFrom pl kn ag (i + 1) d else (i : Int) :: misFrom pl kn ag (i + 1) d
def misL (pl kn : List Int) (ag : List V2) : List Int := misFrom pl kn ag 0 kn.length
theorem misFrom_len (pl kn : List Int) (ag : List V2) : ∀ (d i : Nat), (misFrom pl kn ag i d).length ≤ d := by
  intro d
  induction d with
  | zero => intro i; simp [misFrom]
  | succ d ih =>
    intro i
    have := ih (i + 1)
    unfold misFrom
    split
    · omega
    · split
      · omega
      · simp; omega
def devB (pl kn : List Int) (d : V2) : Bool := inB d.1 0 ((kn.length : Int) - 1) && decide (kn.getD d.1.toNat 0 = d.2) && !decide (d.2 = pl.getD d.1.toNat 0)
def ascD (ag : List V2) (i : Nat) : Bool := decide (i = 0) || decide ((ag.getD (i - 1) (0, 0)).1 < (ag.getD i (0, 0)).1)
def agOk (pl kn : List Int) (ag : List V2) (i : Nat) : Bool := devB pl kn (ag.getD i (0, 0)) && ascD ag i
def weaveB (pw ph : Int) (pl kn : List Int) (wf : Int) (ag : List V2) (dn : Bool) : Bool :=
  goodB pw ph pl && inB wf 0 ph && kn.all colorB && inB kn.length (wf * pw) (min (wf * pw + pw) pl.length) && decide (ag.length ≤ 10) && (List.range ag.length).all (agOk pl kn ag) && (!dn || (decide (wf = ph) && decide (misL pl kn ag = [])))
structure WOk (pw ph : Int) (pl kn : List Int) (wf : Int) (ag : List V2) : Prop where
  g : goodB pw ph pl = true
  wfs : 0 ≤ wf ∧ wf ≤ ph
  col : kn.all colorB = true
  len : wf * pw ≤ kn.length ∧ (kn.length : Int) ≤ wf * pw + pw ∧ kn.length ≤ pl.length
  ag10 : ag.length ≤ 10
  ag : ∀ i, i < ag.length → agOk pl kn ag i = true
theorem weaveB_iff {pw ph : Int} {pl kn : List Int} {wf : Int} {ag : List V2} {dn : Bool} : weaveB pw ph pl kn wf ag dn = true ↔ WOk pw ph pl kn wf ag ∧ (dn = true → wf = ph ∧ misL pl kn ag = []) := by
  unfold weaveB
  simp only [Bool.and_eq_true, inB_iff, decide_eq_true_eq, Bool.or_eq_true, Bool.not_eq_true', List.all_eq_true (l := List.range ag.length), List.mem_range]
  constructor
  · rintro ⟨⟨⟨⟨⟨⟨h1, h2⟩, h3⟩, h4⟩, h5⟩, h6⟩, h7⟩
    refine ⟨⟨h1, h2, h3, by omega, h5, h6⟩, fun hd => ?_⟩
    rcases h7 with h | h
    · rw [hd] at h; cases h
    · exact h
  · rintro ⟨⟨h1, h2, h3, h4, h5, h6⟩, h7⟩
    refine ⟨⟨⟨⟨⟨⟨h1, h2⟩, h3⟩, by omega⟩, h5⟩, h6⟩, ?_⟩
    cases dn with
    | false => exact .inl rfl
    | true => exact .inr (h7 rfl)
theorem mul_bd0 {w h : Int} (hw : 1 ≤ w ∧ w ≤ 8) (hh : 0 ≤ h ∧ h ≤ 9) : 0 ≤ h * w ∧ h * w ≤ 72 := by
  obtain ⟨a, b⟩ := hw; obtain ⟨c, d⟩ := hh
  have h1 : w = 1 ∨ w = 2 ∨ w = 3 ∨ w = 4 ∨ w = 5 ∨ w = 6 ∨ w = 7 ∨ w = 8 := by omega
  rcases h1 with rfl | rfl | rfl | rfl | rfl | rfl | rfl | rfl <;> omega
theorem devB_of {pl kn : List Int} {d : V2} (h : devB pl kn d = true) : (0 ≤ d.1 ∧ d.1 ≤ (kn.length : Int) - 1) ∧ kn.getD d.1.toNat 0 = d.2 ∧ d.2 ≠ pl.getD d.1.toNat 0 := by
  unfold devB at h
  simp only [Bool.and_eq_true, inB_iff, decide_eq_true_eq, Bool.not_eq_true', decide_eq_false_iff_not] at h
  exact ⟨h.1.1, h.1.2, h.2⟩
/-! ### Evaluation -/
theorem sagreed_eq (k : Nat) (pw ph : Int) (pl kn : List Int) (wf : Int) (ag : List V2) (dn : Bool) (p : Int) (hl : ag.length ≤ 100000000000000) (hk : ag.length + 50 ≤ k) : spec_l19Agreed.f k pw ph pl kn wf ag dn p = some (agr ag p) := by
  unfold spec_l19Agreed.f spec_l19Agreed.m
  have hq := (all_loop (L := fun k i => spec_l19Agreed.l3 k p pw ph pl kn wf ag dn (i : Int)) (n := ag.length) (K0 := 20) (ok := fun i => !decide ((ag.getD i (0, 0)).1 = p)) (f := some true) (fun k i hk hi => ?_)) ag.length k 0 (by omega) (by omega)
  · rw [show ((0 : Nat) : Int) = 0 from rfl] at hq
    by_cases hc : agr ag p = true
    · obtain ⟨i, hi, h⟩ := agr_iff.1 hc
      rw [hq.2 ⟨i, Nat.zero_le _, hi, by simp only [h, Bool.not_true, Bool.not_false, cond_true, cond_false, Bool.true_and, Bool.false_and, Bool.and_true, Bool.and_false, Bool.false_eq_true, Bool.true_or, Bool.or_true, Bool.false_or, Bool.or_false, Bool.or_self, Bool.and_self, decide_true, decide_false, if_true, if_false, not_true, not_false_eq_true, not_true_eq_false, false_or, or_false, true_and, and_true, Bool.not_eq_true, Bool.true_eq_false, reduceCtorEq]⟩, hc]
    · rw [hq.1 (some false) (fun k hk => by simp (disch := omega) only [spec_l19Agreed.l3, spec_l19Agreed.b3, if_neg]) (fun j _ hj => ?_), notB hc]
      have : ¬ (ag.getD j (0, 0)).1 = p := fun h => hc (agr_iff.2 ⟨j, hj, h⟩)
      simp only [this, Bool.not_true, Bool.not_false, cond_true, cond_false, Bool.true_and, Bool.false_and, Bool.and_true, Bool.and_false, Bool.false_eq_true, Bool.true_or, Bool.or_true, Bool.false_or, Bool.or_false, Bool.or_self, Bool.and_self, decide_true, decide_false, if_true, if_false, not_true, not_false_eq_true, not_true_eq_false, false_or, or_false, true_and, and_true, Bool.not_eq_true, Bool.true_eq_false, reduceCtorEq]
  · simp (disch := omega) only [spec_l19Agreed.l3, spec_l19Agreed.b3, if_pos, chk_nat, Option.bind_some, w64_id, Int.natCast_add, Int.cast_ofNat_Int]
    by_cases e : (ag.getD i (0, 0)).1 = p <;> simp only [e, Bool.not_true, Bool.not_false, cond_true, cond_false, Bool.true_and, Bool.false_and, Bool.and_true, Bool.and_false, Bool.false_eq_true, Bool.true_or, Bool.or_true, Bool.false_or, Bool.or_false, Bool.or_self, Bool.and_self, decide_true, decide_false, if_true, if_false, not_true, not_false_eq_true, not_true_eq_false, false_or, or_false, true_and, and_true, Bool.not_eq_true, Bool.true_eq_false, reduceCtorEq]
theorem iagreed_eq (k : Nat) (pw ph : Int) (pl kn : List Int) (wf : Int) (ag : List V2) (dn : Bool) (p : Int) (hl : ag.length ≤ 100000000000000) (hk : ag.length + 50 ≤ k) : impl_Weaving_isAgreed.f k pw ph pl kn wf ag dn p = some (agr ag p) := by
  unfold impl_Weaving_isAgreed.f impl_Weaving_isAgreed.m slices_ContainsFunc_impl_Deviation_impl_Deviation__impl_Weaving_isAgreed_1.f slices_ContainsFunc_impl_Deviation_impl_Deviation__impl_Weaving_isAgreed_1.m slices_IndexFunc_impl_Deviation_impl_Deviation__impl_Weaving_isAgreed_1.f slices_IndexFunc_impl_Deviation_impl_Deviation__impl_Weaving_isAgreed_1.m
  have h := (find_loop (L := fun k i => slices_IndexFunc_impl_Deviation_impl_Deviation__impl_Weaving_isAgreed_1.l3 k ag p ag.length (i : Int)) (n := ag.length) (K0 := 20) (ok := fun i => decide ((ag.getD i (0, 0)).1 = p)) (fun k i hk hi => ?_) (fun k hk => ?_)) ag.length k 0 (by omega) (by omega)
  · rw [show ((0 : Nat) : Int) = 0 from rfl] at h
    by_cases hc : agr ag p = true
    · obtain ⟨i, hi, he⟩ := agr_iff.1 hc
      obtain ⟨m, h1, h2, h3⟩ := first_bad (n := ag.length) (ok := fun i => !decide ((ag.getD i (0, 0)).1 = p)) (fun hn => by have := hn i hi; simp only [he, Bool.not_true, Bool.not_false, cond_true, cond_false, Bool.true_and, Bool.false_and, Bool.and_true, Bool.and_false, Bool.false_eq_true, Bool.true_or, Bool.or_true, Bool.false_or, Bool.or_false, Bool.or_self, Bool.and_self, decide_true, decide_false, if_true, if_false, not_true, not_false_eq_true, not_true_eq_false, false_or, or_false, true_and, and_true, Bool.not_eq_true, Bool.true_eq_false, reduceCtorEq] at this)
      rw [h.2 m (Nat.zero_le _) h1 (by simpa using h2) (fun j _ hj => by simpa using h3 j hj), hc]
      simp
    · rw [h.1 (fun j _ hj => decide_eq_false fun hx => hc (agr_iff.2 ⟨j, hj, hx⟩)), notB hc]; rfl
  · simp (disch := omega) only [slices_IndexFunc_impl_Deviation_impl_Deviation__impl_Weaving_isAgreed_1.l3, slices_IndexFunc_impl_Deviation_impl_Deviation__impl_Weaving_isAgreed_1.b3, impl_Weaving_isAgreed_1.f, impl_Weaving_isAgreed_1.m, if_pos, chk_nat, Option.bind_some, w64_id, Int.natCast_add, Int.cast_ofNat_Int]
    by_cases e : (ag.getD i (0, 0)).1 = p <;> simp only [e, Bool.not_true, Bool.not_false, cond_true, cond_false, Bool.true_and, Bool.false_and, Bool.and_true, Bool.and_false, Bool.false_eq_true, Bool.true_or, Bool.or_true, Bool.false_or, Bool.or_false, Bool.or_self, Bool.and_self, decide_true, decide_false, if_true, if_false, not_true, not_false_eq_true, not_true_eq_false, false_or, or_false, true_and, and_true, Bool.not_eq_true, Bool.true_eq_false, reduceCtorEq]
  · simp (disch := omega) only [slices_IndexFunc_impl_Deviation_impl_Deviation__impl_Weaving_isAgreed_1.l3, slices_IndexFunc_impl_Deviation_impl_Deviation__impl_Weaving_isAgreed_1.b3, if_neg]
theorem smis_eq (k : Nat) (pw ph : Int) (pl kn : List Int) (wf : Int) (ag : List V2) (dn : Bool) (hkp : kn.length ≤ pl.length) (hl : pl.length ≤ 1000) (ha : ag.length ≤ 1000) (hk : 3000 ≤ k) : spec_l19Mistakes.f k pw ph pl kn wf ag dn = some (misL pl kn ag) := by
  have go : ∀ (d k i : Nat) (acc : List Int), i + d = kn.length → d + 1100 < k → acc.length ≤ i → spec_l19Mistakes.l4 k pw ph pl kn wf ag dn acc (i : Int) = some (acc ++ misFrom pl kn ag i d) := by
    intro d
    induction d with
    | zero =>
      intro k i acc h1 h2 h3
      obtain ⟨k, rfl⟩ := succ_of (show 0 < k by omega)
      simp (disch := omega) only [spec_l19Mistakes.l4, spec_l19Mistakes.b4, if_neg, misFrom, List.append_nil]
    | succ d ih =>
      intro k i acc h1 h2 h3
      obtain ⟨k, rfl⟩ := succ_of (show 0 < k by omega)
      simp (disch := omega) only [spec_l19Mistakes.l4, spec_l19Mistakes.b4, if_pos, chk_nat, Option.bind_some, w64_id, sagreed_eq]
      rw [show ((i : Int) + 1) = ((i + 1 : Nat) : Int) by omega]
      unfold misFrom
      by_cases e : kn.getD i 0 = pl.getD i 0
      · simp only [e, Bool.not_true, Bool.not_false, cond_true, cond_false, Bool.true_and, Bool.false_and, Bool.and_true, Bool.and_false, Bool.false_eq_true, Bool.true_or, Bool.or_true, Bool.false_or, Bool.or_false, Bool.or_self, Bool.and_self, decide_true, decide_false, if_true, if_false, not_true, not_false_eq_true, not_true_eq_false, false_or, or_false, true_and, and_true, Bool.not_eq_true, Bool.true_eq_false, reduceCtorEq]; exact ih k (i + 1) acc (by omega) (by omega) (by omega)
      · simp only [e, Bool.not_true, Bool.not_false, cond_true, cond_false, Bool.true_and, Bool.false_and, Bool.and_true, Bool.and_false, Bool.false_eq_true, Bool.true_or, Bool.or_true, Bool.false_or, Bool.or_false, Bool.or_self, Bool.and_self, decide_true, decide_false, if_true, if_false, not_true, not_false_eq_true, not_true_eq_false, false_or, or_false, true_and, and_true, Bool.not_eq_true, Bool.true_eq_false, reduceCtorEq]
        cases hc : agr ag (i : Int)
        · simp only [Bool.not_true, Bool.not_false, cond_true, cond_false, Bool.true_and, Bool.false_and, Bool.and_true, Bool.and_false, Bool.false_eq_true, Bool.true_or, Bool.or_true, Bool.false_or, Bool.or_false, Bool.or_self, Bool.and_self, decide_true, decide_false, if_true, if_false, not_true, not_false_eq_true, not_true_eq_false, false_or, or_false, true_and, and_true, Bool.not_eq_true, Bool.true_eq_false, reduceCtorEq]
          rw [app_ok (by simp; omega)]; simp only [Option.bind_some]
          rw [ih k (i + 1) (acc ++ [(i : Int)]) (by omega) (by omega) (by simp; omega), List.append_assoc]; rfl
        · simp only [Bool.not_true, Bool.not_false, cond_true, cond_false, Bool.true_and, Bool.false_and, Bool.and_true, Bool.and_false, Bool.false_eq_true, Bool.true_or, Bool.or_true, Bool.false_or, Bool.or_false, Bool.or_self, Bool.and_self, decide_true, decide_false, if_true, if_false, not_true, not_false_eq_true, not_true_eq_false, false_or, or_false, true_and, and_true, Bool.not_eq_true, Bool.true_eq_false, reduceCtorEq]; exact ih k (i + 1) acc (by omega) (by omega) (by omega)
  unfold spec_l19Mistakes.f spec_l19Mistakes.m misL
  exact go kn.length k 0 [] (by omega) (by omega) (by simp)
theorem imis_eq (k : Nat) (pw ph : Int) (pl kn : List Int) (wf : Int) (ag : List V2) (dn : Bool) (hkp : kn.length ≤ pl.length) (hl : pl.length ≤ 1000) (ha : ag.length ≤ 1000) (hk : 3000 ≤ k) : impl_Weaving_mistakes.f k pw ph pl kn wf ag dn = some (misL pl kn ag) := by
  have go : ∀ (d k i : Nat) (acc : List Int), i + d = kn.length → d + 1100 < k → acc.length ≤ i → impl_Weaving_mistakes.l4 k pw ph pl kn wf ag dn acc kn kn.length (i : Int) = some (acc ++ misFrom pl kn ag i d) := by
    intro d
    induction d with
    | zero =>
      intro k i acc h1 h2 h3
      obtain ⟨k, rfl⟩ := succ_of (show 0 < k by omega)
      simp (disch := omega) only [impl_Weaving_mistakes.l4, impl_Weaving_mistakes.b4, if_neg, misFrom, List.append_nil]
    | succ d ih =>
      intro k i acc h1 h2 h3
      obtain ⟨k, rfl⟩ := succ_of (show 0 < k by omega)
      simp (disch := omega) only [impl_Weaving_mistakes.l4, impl_Weaving_mistakes.b4, if_pos, chk_nat, Option.bind_some, w64_id, iagreed_eq]
      rw [show ((i : Int) + 1) = ((i + 1 : Nat) : Int) by omega]
      unfold misFrom
      by_cases e : kn.getD i 0 = pl.getD i 0
      · simp only [e, Bool.not_true, Bool.not_false, cond_true, cond_false, Bool.true_and, Bool.false_and, Bool.and_true, Bool.and_false, Bool.false_eq_true, Bool.true_or, Bool.or_true, Bool.false_or, Bool.or_false, Bool.or_self, Bool.and_self, decide_true, decide_false, if_true, if_false, not_true, not_false_eq_true, not_true_eq_false, false_or, or_false, true_and, and_true, Bool.not_eq_true, Bool.true_eq_false, reduceCtorEq]; exact ih k (i + 1) acc (by omega) (by omega) (by omega)
      · simp only [e, Bool.not_true, Bool.not_false, cond_true, cond_false, Bool.true_and, Bool.false_and, Bool.and_true, Bool.and_false, Bool.false_eq_true, Bool.true_or, Bool.or_true, Bool.false_or, Bool.or_false, Bool.or_self, Bool.and_self, decide_true, decide_false, if_true, if_false, not_true, not_false_eq_true, not_true_eq_false, false_or, or_false, true_and, and_true, Bool.not_eq_true, Bool.true_eq_false, reduceCtorEq]
        cases hc : agr ag (i : Int)
        · simp only [Bool.not_true, Bool.not_false, cond_true, cond_false, Bool.true_and, Bool.false_and, Bool.and_true, Bool.and_false, Bool.false_eq_true, Bool.true_or, Bool.or_true, Bool.false_or, Bool.or_false, Bool.or_self, Bool.and_self, decide_true, decide_false, if_true, if_false, not_true, not_false_eq_true, not_true_eq_false, false_or, or_false, true_and, and_true, Bool.not_eq_true, Bool.true_eq_false, reduceCtorEq]
          rw [app_ok (by simp; omega)]; simp only [Option.bind_some]
          rw [ih k (i + 1) (acc ++ [(i : Int)]) (by omega) (by omega) (by simp; omega), List.append_assoc]; rfl
        · simp only [Bool.not_true, Bool.not_false, cond_true, cond_false, Bool.true_and, Bool.false_and, Bool.and_true, Bool.and_false, Bool.false_eq_true, Bool.true_or, Bool.or_true, Bool.false_or, Bool.or_false, Bool.or_self, Bool.and_self, decide_true, decide_false, if_true, if_false, not_true, not_false_eq_true, not_true_eq_false, false_or, or_false, true_and, and_true, Bool.not_eq_true, Bool.true_eq_false, reduceCtorEq]; exact ih k (i + 1) acc (by omega) (by omega) (by omega)
  unfold impl_Weaving_mistakes.f impl_Weaving_mistakes.m misL
  exact go kn.length k 0 [] (by omega) (by omega) (by simp)
theorem len0 {l : List Int} : decide ((l.length : Int) = 0) = decide (l = []) := by
  cases l with
  | nil => rfl
  | cons a r => simp; omega
theorem allR_iff {n : Nat} {p : Nat → Bool} : (List.range n).all p = true ↔ ∀ i, i < n → p i = true := by simp [List.all_eq_true]
theorem sgood_eq (k : Nat) (pw ph : Int) (pl kn : List Int) (wf : Int) (ag : List V2) (dn : Bool) (hl : pl.length ≤ 100000000000000) (hn : kn.length ≤ 100000000000000) (hk : pl.length + kn.length + 5000 ≤ k) : spec_l19Good.f k pw ph pl kn wf ag dn = some (weaveB pw ph pl kn wf ag dn) := by
  unfold spec_l19Good.f spec_l19Good.m weaveB
  rw [l2Good_eq k pw ph pl hl (by omega), l8Colors_eq k kn hn (by omega)]; simp only [Option.bind_some, specIn_eq]
  cases h1 : goodB pw ph pl <;> simp only [Bool.not_true, Bool.not_false, cond_true, cond_false, Bool.true_and, Bool.false_and, Bool.and_true, Bool.and_false, Bool.false_eq_true, Bool.true_or, Bool.or_true, Bool.false_or, Bool.or_false, Bool.or_self, Bool.and_self, decide_true, decide_false, if_true, if_false, not_true, not_false_eq_true, not_true_eq_false, false_or, or_false, true_and, and_true, Bool.not_eq_true, Bool.true_eq_false, reduceCtorEq]
  obtain ⟨gw, gh, gl, _⟩ := good_of h1
  have hpl := mul_bd gw gh
  cases h3 : kn.all colorB <;> simp only [Bool.not_true, Bool.not_false, cond_true, cond_false, Bool.true_and, Bool.false_and, Bool.and_true, Bool.and_false, Bool.false_eq_true, Bool.true_or, Bool.or_true, Bool.false_or, Bool.or_false, Bool.or_self, Bool.and_self, decide_true, decide_false, if_true, if_false, not_true, not_false_eq_true, not_true_eq_false, false_or, or_false, true_and, and_true, Bool.not_eq_true, Bool.true_eq_false, reduceCtorEq]
  by_cases h5 : (pl.length : Int) < (kn.length : Int)
  · rw [if_pos h5]
    have : inB (kn.length : Int) (wf * pw) (min (wf * pw + pw) (pl.length : Int)) = false := by
      rw [← Bool.not_eq_true, inB_iff]; omega
    rw [this]; simp only [Bool.not_true, Bool.not_false, cond_true, cond_false, Bool.true_and, Bool.false_and, Bool.and_true, Bool.and_false, Bool.false_eq_true, Bool.true_or, Bool.or_true, Bool.false_or, Bool.or_false, Bool.or_self, Bool.and_self, decide_true, decide_false, if_true, if_false, not_true, not_false_eq_true, not_true_eq_false, false_or, or_false, true_and, and_true, Bool.not_eq_true, Bool.true_eq_false, reduceCtorEq]
  rw [if_neg h5]
  cases h2 : inB wf 0 ph <;> simp only [Bool.not_true, Bool.not_false, cond_true, cond_false, Bool.true_and, Bool.false_and, Bool.and_true, Bool.and_false, Bool.false_eq_true, Bool.true_or, Bool.or_true, Bool.false_or, Bool.or_false, Bool.or_self, Bool.and_self, decide_true, decide_false, if_true, if_false, not_true, not_false_eq_true, not_true_eq_false, false_or, or_false, true_and, and_true, Bool.not_eq_true, Bool.true_eq_false, reduceCtorEq]
  have hwf := inB_iff.1 h2
  have hm := mul_bd0 gw (show 0 ≤ wf ∧ wf ≤ 9 by omega)
  have hm1 : (wf + 1) * pw = wf * pw + pw := by rw [Int.add_mul, Int.one_mul]
  rw [w64_id (x := wf + 1) (by omega), hm1, w64_id (x := wf * pw) (by omega), w64_id (x := wf * pw + pw) (by omega)]
  have h4 : inB (kn.length : Int) (wf * pw) (min (wf * pw + pw) (pl.length : Int)) = inB (kn.length : Int) (wf * pw) (wf * pw + pw) := by
    rw [Bool.eq_iff_iff, inB_iff, inB_iff]; omega
  rw [h4]
  cases h6 : inB (kn.length : Int) (wf * pw) (wf * pw + pw) <;> simp only [Bool.not_true, Bool.not_false, cond_true, cond_false, Bool.true_and, Bool.false_and, Bool.and_true, Bool.and_false, Bool.false_eq_true, Bool.true_or, Bool.or_true, Bool.false_or, Bool.or_false, Bool.or_self, Bool.and_self, decide_true, decide_false, if_true, if_false, not_true, not_false_eq_true, not_true_eq_false, false_or, or_false, true_and, and_true, Bool.not_eq_true, Bool.true_eq_false, reduceCtorEq]
  by_cases h7 : 10 < (ag.length : Int)
  · rw [if_pos h7, decide_eq_false (show ¬ ag.length ≤ 10 by omega)]; simp only [Bool.not_true, Bool.not_false, cond_true, cond_false, Bool.true_and, Bool.false_and, Bool.and_true, Bool.and_false, Bool.false_eq_true, Bool.true_or, Bool.or_true, Bool.false_or, Bool.or_false, Bool.or_self, Bool.and_self, decide_true, decide_false, if_true, if_false, not_true, not_false_eq_true, not_true_eq_false, false_or, or_false, true_and, and_true, Bool.not_eq_true, Bool.true_eq_false, reduceCtorEq]
  rw [if_neg h7, decide_eq_true (show ag.length ≤ 10 by omega)]; simp only [Bool.not_true, Bool.not_false, cond_true, cond_false, Bool.true_and, Bool.false_and, Bool.and_true, Bool.and_false, Bool.false_eq_true, Bool.true_or, Bool.or_true, Bool.false_or, Bool.or_false, Bool.or_self, Bool.and_self, decide_true, decide_false, if_true, if_false, not_true, not_false_eq_true, not_true_eq_false, false_or, or_false, true_and, and_true, Bool.not_eq_true, Bool.true_eq_false, reduceCtorEq]
  have hq := (all_loop (L := fun k i => spec_l19Good.l6 k pw ph pl kn wf ag dn (i : Int)) (n := ag.length) (K0 := 4000) (ok := agOk pl kn ag) (f := some false) (fun k i hk hi => ?_)) ag.length k 0 (by omega) (by omega)
  · rw [show ((0 : Nat) : Int) = 0 from rfl] at hq
    by_cases hc : (List.range ag.length).all (agOk pl kn ag) = true
    · rw [hq.1 _ (fun k hk => ?_) (fun j _ hj => allR_iff.1 hc j hj), hc]
      simp (disch := omega) only [spec_l19Good.l6, spec_l19Good.b6, if_neg, smis_eq, Option.bind_some, len0]
      cases dn <;> simp only [Bool.not_true, Bool.not_false, cond_true, cond_false, Bool.true_and, Bool.false_and, Bool.and_true, Bool.and_false, Bool.false_eq_true, Bool.true_or, Bool.or_true, Bool.false_or, Bool.or_false, Bool.or_self, Bool.and_self, decide_true, decide_false, if_true, if_false, not_true, not_false_eq_true, not_true_eq_false, false_or, or_false, true_and, and_true, Bool.not_eq_true, Bool.true_eq_false, reduceCtorEq]
      by_cases h8 : wf = ph <;> simp only [h8, Bool.not_true, Bool.not_false, cond_true, cond_false, Bool.true_and, Bool.false_and, Bool.and_true, Bool.and_false, Bool.false_eq_true, Bool.true_or, Bool.or_true, Bool.false_or, Bool.or_false, Bool.or_self, Bool.and_self, decide_true, decide_false, if_true, if_false, not_true, not_false_eq_true, not_true_eq_false, false_or, or_false, true_and, and_true, Bool.not_eq_true, Bool.true_eq_false, reduceCtorEq]
    · rw [hq.2 (exists_bad fun hn' => hc (allR_iff.2 hn')), notB hc]; simp only [Bool.not_true, Bool.not_false, cond_true, cond_false, Bool.true_and, Bool.false_and, Bool.and_true, Bool.and_false, Bool.false_eq_true, Bool.true_or, Bool.or_true, Bool.false_or, Bool.or_false, Bool.or_self, Bool.and_self, decide_true, decide_false, if_true, if_false, not_true, not_false_eq_true, not_true_eq_false, false_or, or_false, true_and, and_true, Bool.not_eq_true, Bool.true_eq_false, reduceCtorEq]
  · simp (disch := omega) only [spec_l19Good.l6, spec_l19Good.b6, if_pos, chk_nat, Option.bind_some, w64_id, specIn_eq, Int.natCast_add, Int.cast_ofNat_Int]
    unfold agOk devB ascD
    cases q1 : inB (ag.getD i (0, 0)).1 0 ((kn.length : Int) - 1) <;> simp only [Bool.not_true, Bool.not_false, cond_true, cond_false, Bool.true_and, Bool.false_and, Bool.and_true, Bool.and_false, Bool.false_eq_true, Bool.true_or, Bool.or_true, Bool.false_or, Bool.or_false, Bool.or_self, Bool.and_self, decide_true, decide_false, if_true, if_false, not_true, not_false_eq_true, not_true_eq_false, false_or, or_false, true_and, and_true, Bool.not_eq_true, Bool.true_eq_false, reduceCtorEq]
    rw [inB_iff] at q1
    rw [chk_int (n := kn.length) (by omega), chk_int (n := pl.length) (by omega)]
    simp only [Option.bind_some]
    have e1 : i ≠ 0 → chk ag.length ((i : Int) - 1) = some (i - 1) := fun h => by rw [chk_int (by omega)]; congr 1; omega
    generalize kn.getD (ag.getD i (0, 0)).1.toNat 0 = x
    generalize pl.getD (ag.getD i (0, 0)).1.toNat 0 = y
    generalize (ag.getD i (0, 0)).2 = c
    have ec : decide (x = c) = decide (c = x) := by rw [Bool.eq_iff_iff]; simp [eq_comm]
    rw [ec]
    by_cases h0 : i = 0
    · rw [if_neg (by omega)]
      by_cases a1 : c = x
      · by_cases a2 : c = y
        · rw [if_neg (fun h => h a1), if_pos a2]; simp only [decide_eq_true a1, decide_eq_true a2, Bool.not_true, Bool.not_false, cond_true, cond_false, Bool.true_and, Bool.false_and, Bool.and_true, Bool.and_false, Bool.false_eq_true, Bool.true_or, Bool.or_true, Bool.false_or, Bool.or_false, Bool.or_self, Bool.and_self, decide_true, decide_false, if_true, if_false, not_true, not_false_eq_true, not_true_eq_false, false_or, or_false, true_and, and_true, Bool.not_eq_true, Bool.true_eq_false, reduceCtorEq]
        · rw [if_neg (fun h => h a1), if_neg a2]; simp only [decide_eq_true a1, decide_eq_false a2, decide_eq_true h0, Bool.not_true, Bool.not_false, cond_true, cond_false, Bool.true_and, Bool.false_and, Bool.and_true, Bool.and_false, Bool.false_eq_true, Bool.true_or, Bool.or_true, Bool.false_or, Bool.or_false, Bool.or_self, Bool.and_self, decide_true, decide_false, if_true, if_false, not_true, not_false_eq_true, not_true_eq_false, false_or, or_false, true_and, and_true, Bool.not_eq_true, Bool.true_eq_false, reduceCtorEq]
      · rw [if_pos a1]; simp only [decide_eq_false a1, Bool.not_true, Bool.not_false, cond_true, cond_false, Bool.true_and, Bool.false_and, Bool.and_true, Bool.and_false, Bool.false_eq_true, Bool.true_or, Bool.or_true, Bool.false_or, Bool.or_false, Bool.or_self, Bool.and_self, decide_true, decide_false, if_true, if_false, not_true, not_false_eq_true, not_true_eq_false, false_or, or_false, true_and, and_true, Bool.not_eq_true, Bool.true_eq_false, reduceCtorEq]
    · rw [if_pos (by omega), e1 h0]; simp only [Option.bind_some]
      have e3 : decide ((ag.getD (i - 1) (0, 0)).1 < (ag.getD i (0, 0)).1) = !decide ((ag.getD i (0, 0)).1 ≤ (ag.getD (i - 1) (0, 0)).1) := by
        rw [Bool.eq_iff_iff]; simp
      rw [e3]
      by_cases a3 : (ag.getD i (0, 0)).1 ≤ (ag.getD (i - 1) (0, 0)).1
      · rw [if_pos a3]; simp only [a3, h0, Bool.not_true, Bool.not_false, cond_true, cond_false, Bool.true_and, Bool.false_and, Bool.and_true, Bool.and_false, Bool.false_eq_true, Bool.true_or, Bool.or_true, Bool.false_or, Bool.or_false, Bool.or_self, Bool.and_self, decide_true, decide_false, if_true, if_false, not_true, not_false_eq_true, not_true_eq_false, false_or, or_false, true_and, and_true, Bool.not_eq_true, Bool.true_eq_false, reduceCtorEq]
      · rw [if_neg a3]; simp only [a3, h0, Bool.not_true, Bool.not_false, cond_true, cond_false, Bool.true_and, Bool.false_and, Bool.and_true, Bool.and_false, Bool.false_eq_true, Bool.true_or, Bool.or_true, Bool.false_or, Bool.or_false, Bool.or_self, Bool.and_self, decide_true, decide_false, if_true, if_false, not_true, not_false_eq_true, not_true_eq_false, false_or, or_false, true_and, and_true, Bool.not_eq_true, Bool.true_eq_false, reduceCtorEq]
        by_cases a1 : c = x
        · by_cases a2 : c = y
          · rw [if_neg (fun h => h a1), if_pos a2]; simp only [decide_eq_true a1, decide_eq_true a2, Bool.not_true, Bool.not_false, cond_true, cond_false, Bool.true_and, Bool.false_and, Bool.and_true, Bool.and_false, Bool.false_eq_true, Bool.true_or, Bool.or_true, Bool.false_or, Bool.or_false, Bool.or_self, Bool.and_self, decide_true, decide_false, if_true, if_false, not_true, not_false_eq_true, not_true_eq_false, false_or, or_false, true_and, and_true, Bool.not_eq_true, Bool.true_eq_false, reduceCtorEq]
          · rw [if_neg (fun h => h a1), if_neg a2]; simp only [decide_eq_true a1, decide_eq_false a2, Bool.not_true, Bool.not_false, cond_true, cond_false, Bool.true_and, Bool.false_and, Bool.and_true, Bool.and_false, Bool.false_eq_true, Bool.true_or, Bool.or_true, Bool.false_or, Bool.or_false, Bool.or_self, Bool.and_self, decide_true, decide_false, if_true, if_false, not_true, not_false_eq_true, not_true_eq_false, false_or, or_false, true_and, and_true, Bool.not_eq_true, Bool.true_eq_false, reduceCtorEq]
        · rw [if_pos a1]; simp only [decide_eq_false a1, Bool.not_true, Bool.not_false, cond_true, cond_false, Bool.true_and, Bool.false_and, Bool.and_true, Bool.and_false, Bool.false_eq_true, Bool.true_or, Bool.or_true, Bool.false_or, Bool.or_false, Bool.or_self, Bool.and_self, decide_true, decide_false, if_true, if_false, not_true, not_false_eq_true, not_true_eq_false, false_or, or_false, true_and, and_true, Bool.not_eq_true, Bool.true_eq_false, reduceCtorEq]
theorem ascD_asc : ∀ (ag : List V2), (∀ i, i < ag.length → ascD ag i = true) → ∀ i j, i < j → j < ag.length → (ag.getD i (0, 0)).1 < (ag.getD j (0, 0)).1 := by
  intro ag h i j hij hj
  induction j with
  | zero => omega
  | succ j ih =>
    have h1 := h (j + 1) hj
    unfold ascD at h1
    simp only [Nat.add_one_ne_zero, decide_false, Bool.false_or, decide_eq_true_eq, Nat.add_sub_cancel] at h1
    rcases Nat.lt_or_ge i j with h2 | h2
    · have := ih h2 (by omega); omega
    · have : i = j := by omega
      subst this; exact h1
theorem iasc_eq (k : Nat) (xs : List V2) (hl : xs.length ≤ 100000000000000) (hk : xs.length + 100 < k) : impl_isAscending_impl_Deviation__impl_IsWeaving_1.f k xs = some (decide (∀ i, i < xs.length → ascD xs i = true)) := by
  unfold impl_isAscending_impl_Deviation__impl_IsWeaving_1.f impl_isAscending_impl_Deviation__impl_IsWeaving_1.m
  by_cases hz : xs.length = 0
  · have : xs = [] := List.eq_nil_of_length_eq_zero hz
    subst this
    obtain ⟨k, rfl⟩ := succ_of (show 0 < k by omega)
    simp [impl_isAscending_impl_Deviation__impl_IsWeaving_1.l3, impl_isAscending_impl_Deviation__impl_IsWeaving_1.b3]
  have h := (all_loop (L := fun k i => impl_isAscending_impl_Deviation__impl_IsWeaving_1.l3 k xs ((i + 1 : Nat) : Int)) (n := xs.length - 1) (K0 := 20) (ok := fun i => ascD xs (i + 1)) (f := some false) (fun k i hk hi => ?_)) (xs.length - 1) k 0 (by omega) (by omega)
  · rw [show ((0 + 1 : Nat) : Int) = 1 from rfl] at h
    by_cases ha : ∀ i, i < xs.length → ascD xs i = true
    · rw [h.1 (some true) (fun k hk => ?_) (fun j _ hj => ha (j + 1) (by omega)), decide_eq_true ha]
      simp (disch := omega) only [impl_isAscending_impl_Deviation__impl_IsWeaving_1.l3, impl_isAscending_impl_Deviation__impl_IsWeaving_1.b3, if_neg]
    · obtain ⟨j, _, hj, hb⟩ := exists_bad (n := xs.length) (ok := ascD xs) ha
      have hj0 : j ≠ 0 := by rintro rfl; simp [ascD] at hb
      rw [h.2 ⟨j - 1, by omega, by omega, by rw [show j - 1 + 1 = j by omega]; exact hb⟩, decide_eq_false ha]
  · have e1 : chk xs.length ((i : Int) + 1 - 1) = some i := by rw [chk_int (by omega)]; congr 1; omega
    have e2 : chk xs.length ((i : Int) + 1) = some (i + 1) := by rw [chk_int (by omega)]; congr 1
    simp (disch := omega) only [impl_isAscending_impl_Deviation__impl_IsWeaving_1.l3, impl_isAscending_impl_Deviation__impl_IsWeaving_1.b3, impl_IsWeaving_1.f, impl_IsWeaving_1.m, if_pos, Option.bind_some, w64_id, e1, e2, Int.natCast_add, Int.cast_ofNat_Int]
    unfold ascD
    simp only [Nat.add_one_ne_zero, decide_false, Bool.false_or, decide_eq_true_eq, Nat.add_sub_cancel]
    by_cases h1 : (xs.getD (i + 1) (0, 0)).1 ≤ (xs.getD i (0, 0)).1
    · rw [if_pos h1, if_neg (by omega)]
    · rw [if_neg h1, if_pos (by omega)]
theorem idev_eq (k : Nat) (pw ph : Int) (pl kn : List Int) (wf : Int) (ag : List V2) (dn : Bool) (d : V2) (hkp : kn.length ≤ pl.length) (hl : pl.length ≤ 1000) : impl_Weaving_isDeviation.f k pw ph pl kn wf ag dn d.1 d.2 = some (devB pl kn d) := by
  unfold impl_Weaving_isDeviation.f impl_Weaving_isDeviation.m devB
  rw [w64_id (by omega), implIn_eq]; simp only [Option.bind_some]
  cases q1 : inB d.1 0 ((kn.length : Int) - 1) <;> simp only [Bool.not_true, Bool.not_false, cond_true, cond_false, Bool.true_and, Bool.false_and, Bool.and_true, Bool.and_false, Bool.false_eq_true, Bool.true_or, Bool.or_true, Bool.false_or, Bool.or_false, Bool.or_self, Bool.and_self, decide_true, decide_false, if_true, if_false, not_true, not_false_eq_true, not_true_eq_false, false_or, or_false, true_and, and_true, Bool.not_eq_true, Bool.true_eq_false, reduceCtorEq]
  rw [inB_iff] at q1
  rw [chk_int (n := kn.length) (by omega), chk_int (n := pl.length) (by omega)]; simp only [Option.bind_some]
  by_cases a1 : kn.getD d.1.toNat 0 = d.2
  · rw [if_pos a1, decide_eq_true a1]; simp only [Bool.not_true, Bool.not_false, cond_true, cond_false, Bool.true_and, Bool.false_and, Bool.and_true, Bool.and_false, Bool.false_eq_true, Bool.true_or, Bool.or_true, Bool.false_or, Bool.or_false, Bool.or_self, Bool.and_self, decide_true, decide_false, if_true, if_false, not_true, not_false_eq_true, not_true_eq_false, false_or, or_false, true_and, and_true, Bool.not_eq_true, Bool.true_eq_false, reduceCtorEq]; congr 1; rw [Bool.eq_iff_iff]; simp
  · rw [if_neg a1, decide_eq_false a1]; rfl
theorem idevs_eq (k : Nat) (pw ph : Int) (pl kn : List Int) (wf : Int) (ag : List V2) (dn : Bool) (hkp : kn.length ≤ pl.length) (hl : pl.length ≤ 1000) (ha : ag.length ≤ 1000) (hk : 2000 ≤ k) : impl_areAll_impl_Deviation__impl_Weaving_isDeviation.f k ag pw ph pl kn wf ag dn = some (decide (∀ i, i < ag.length → devB pl kn (ag.getD i (0, 0)) = true)) := by
  unfold impl_areAll_impl_Deviation__impl_Weaving_isDeviation.f impl_areAll_impl_Deviation__impl_Weaving_isDeviation.m slices_ContainsFunc_impl_Deviation_impl_Deviation__impl_areAll_impl_Deviation_1__impl_Weaving_isDeviation.f slices_ContainsFunc_impl_Deviation_impl_Deviation__impl_areAll_impl_Deviation_1__impl_Weaving_isDeviation.m slices_IndexFunc_impl_Deviation_impl_Deviation__impl_areAll_impl_Deviation_1__impl_Weaving_isDeviation.f slices_IndexFunc_impl_Deviation_impl_Deviation__impl_areAll_impl_Deviation_1__impl_Weaving_isDeviation.m
  have h := (find_loop (L := fun k i => slices_IndexFunc_impl_Deviation_impl_Deviation__impl_areAll_impl_Deviation_1__impl_Weaving_isDeviation.l3 k ag pw ph pl kn wf ag dn ag.length (i : Int)) (n := ag.length) (K0 := 20) (ok := fun i => !devB pl kn (ag.getD i (0, 0))) (fun k i hk hi => ?_) (fun k hk => ?_)) ag.length k 0 (by omega) (by omega)
  · rw [show ((0 : Nat) : Int) = 0 from rfl] at h
    by_cases hc : ∀ i, i < ag.length → devB pl kn (ag.getD i (0, 0)) = true
    · rw [h.1 (fun j _ hj => by rw [hc j hj]; rfl), decide_eq_true hc]; rfl
    · obtain ⟨m, h1, h2, h3⟩ := first_bad (n := ag.length) (ok := fun i => devB pl kn (ag.getD i (0, 0))) hc
      rw [h.2 m (Nat.zero_le _) h1 (by rw [h2]; rfl) (fun j _ hj => by rw [h3 j hj]; rfl), decide_eq_false hc]
      simp
  · simp (disch := omega) only [slices_IndexFunc_impl_Deviation_impl_Deviation__impl_areAll_impl_Deviation_1__impl_Weaving_isDeviation.l3, slices_IndexFunc_impl_Deviation_impl_Deviation__impl_areAll_impl_Deviation_1__impl_Weaving_isDeviation.b3, impl_areAll_impl_Deviation_1__impl_Weaving_isDeviation.f, impl_areAll_impl_Deviation_1__impl_Weaving_isDeviation.m, idev_eq k pw ph pl kn wf ag dn _ hkp hl, if_pos, chk_nat, Option.bind_some, w64_id, Int.natCast_add, Int.cast_ofNat_Int]
    cases devB pl kn (ag.getD i (0, 0)) <;> simp only [Bool.not_true, Bool.not_false, cond_true, cond_false, Bool.true_and, Bool.false_and, Bool.and_true, Bool.and_false, Bool.false_eq_true, Bool.true_or, Bool.or_true, Bool.false_or, Bool.or_false, Bool.or_self, Bool.and_self, decide_true, decide_false, if_true, if_false, not_true, not_false_eq_true, not_true_eq_false, false_or, or_false, true_and, and_true, Bool.not_eq_true, Bool.true_eq_false, reduceCtorEq]
  · simp (disch := omega) only [slices_IndexFunc_impl_Deviation_impl_Deviation__impl_areAll_impl_Deviation_1__impl_Weaving_isDeviation.l3, slices_IndexFunc_impl_Deviation_impl_Deviation__impl_areAll_impl_Deviation_1__impl_Weaving_isDeviation.b3, if_neg]
theorem igood_eq (k : Nat) (pw ph : Int) (pl kn : List Int) (wf : Int) (ag : List V2) (dn : Bool) (hl : pl.length ≤ 100000000000000) (hn : kn.length ≤ 100000000000000) (ha : ag.length ≤ 100000000000000) (hk : pl.length + kn.length + ag.length + 5000 ≤ k) : impl_IsWeaving.f k pw ph pl kn wf ag dn = some (weaveB pw ph pl kn wf ag dn) := by
  unfold impl_IsWeaving.f impl_IsWeaving.m weaveB
  rw [isChart_eq k pw ph pl hl (by omega), areColors_eq k kn hn (by omega)]; simp only [Option.bind_some, implIn_eq]
  cases h1 : goodB pw ph pl <;> simp only [Bool.not_true, Bool.not_false, cond_true, cond_false, Bool.true_and, Bool.false_and, Bool.and_true, Bool.and_false, Bool.false_eq_true, Bool.true_or, Bool.or_true, Bool.false_or, Bool.or_false, Bool.or_self, Bool.and_self, decide_true, decide_false, if_true, if_false, not_true, not_false_eq_true, not_true_eq_false, false_or, or_false, true_and, and_true, Bool.not_eq_true, Bool.true_eq_false, reduceCtorEq]
  obtain ⟨gw, gh, gl, _⟩ := good_of h1
  have hpl := mul_bd gw gh
  cases h2 : inB wf 0 ph <;> simp only [Bool.not_true, Bool.not_false, cond_true, cond_false, Bool.true_and, Bool.false_and, Bool.and_true, Bool.and_false, Bool.false_eq_true, Bool.true_or, Bool.or_true, Bool.false_or, Bool.or_false, Bool.or_self, Bool.and_self, decide_true, decide_false, if_true, if_false, not_true, not_false_eq_true, not_true_eq_false, false_or, or_false, true_and, and_true, Bool.not_eq_true, Bool.true_eq_false, reduceCtorEq]
  have hwf := inB_iff.1 h2
  cases h3 : kn.all colorB <;> simp only [Bool.not_true, Bool.not_false, cond_true, cond_false, Bool.true_and, Bool.false_and, Bool.and_true, Bool.and_false, Bool.false_eq_true, Bool.true_or, Bool.or_true, Bool.false_or, Bool.or_false, Bool.or_self, Bool.and_self, decide_true, decide_false, if_true, if_false, not_true, not_false_eq_true, not_true_eq_false, false_or, or_false, true_and, and_true, Bool.not_eq_true, Bool.true_eq_false, reduceCtorEq]
  have hm := mul_bd0 gw (show 0 ≤ wf ∧ wf ≤ 9 by omega)
  rw [w64_id (x := wf * pw) (by omega), w64_id (x := wf * pw + pw) (by omega)]
  cases h6 : inB (kn.length : Int) (wf * pw) (min (wf * pw + pw) (pl.length : Int)) <;> simp only [Bool.not_true, Bool.not_false, cond_true, cond_false, Bool.true_and, Bool.false_and, Bool.and_true, Bool.and_false, Bool.false_eq_true, Bool.true_or, Bool.or_true, Bool.false_or, Bool.or_false, Bool.or_self, Bool.and_self, decide_true, decide_false, if_true, if_false, not_true, not_false_eq_true, not_true_eq_false, false_or, or_false, true_and, and_true, Bool.not_eq_true, Bool.true_eq_false, reduceCtorEq]
  rw [inB_iff] at h6
  rw [iasc_eq k ag ha (by omega)]; simp only [Option.bind_some]
  by_cases h7 : (ag.length : Int) ≤ 10
  · rw [if_pos h7, decide_eq_true (show ag.length ≤ 10 by omega), idevs_eq k pw ph pl kn wf ag dn (by omega) (by omega) (by omega) (by omega)]; simp only [Bool.not_true, Bool.not_false, cond_true, cond_false, Bool.true_and, Bool.false_and, Bool.and_true, Bool.and_false, Bool.false_eq_true, Bool.true_or, Bool.or_true, Bool.false_or, Bool.or_false, Bool.or_self, Bool.and_self, decide_true, decide_false, if_true, if_false, not_true, not_false_eq_true, not_true_eq_false, false_or, or_false, true_and, and_true, Bool.not_eq_true, Bool.true_eq_false, reduceCtorEq, Option.bind_some]
    unfold impl_Weaving_canBeDone.f impl_Weaving_canBeDone.m
    rw [imis_eq k pw ph pl kn wf ag dn (by omega) (by omega) (by omega) (by omega)]; simp only [Option.bind_some, len0]
    have hall : (List.range ag.length).all (agOk pl kn ag) = (decide (∀ i, i < ag.length → ascD ag i = true) && decide (∀ i, i < ag.length → devB pl kn (ag.getD i (0, 0)) = true)) := by
      rw [Bool.eq_iff_iff, allR_iff]; simp only [Bool.and_eq_true, decide_eq_true_eq, agOk]
      exact ⟨fun h => ⟨fun i hi => (h i hi).2, fun i hi => (h i hi).1⟩, fun h i hi => ⟨h.2 i hi, h.1 i hi⟩⟩
    rw [hall]
    cases decide (∀ i, i < ag.length → ascD ag i = true) <;> simp only [Bool.not_true, Bool.not_false, cond_true, cond_false, Bool.true_and, Bool.false_and, Bool.and_true, Bool.and_false, Bool.false_eq_true, Bool.true_or, Bool.or_true, Bool.false_or, Bool.or_false, Bool.or_self, Bool.and_self, decide_true, decide_false, if_true, if_false, not_true, not_false_eq_true, not_true_eq_false, false_or, or_false, true_and, and_true, Bool.not_eq_true, Bool.true_eq_false, reduceCtorEq]
    cases decide (∀ i, i < ag.length → devB pl kn (ag.getD i (0, 0)) = true) <;> simp only [Bool.not_true, Bool.not_false, cond_true, cond_false, Bool.true_and, Bool.false_and, Bool.and_true, Bool.and_false, Bool.false_eq_true, Bool.true_or, Bool.or_true, Bool.false_or, Bool.or_false, Bool.or_self, Bool.and_self, decide_true, decide_false, if_true, if_false, not_true, not_false_eq_true, not_true_eq_false, false_or, or_false, true_and, and_true, Bool.not_eq_true, Bool.true_eq_false, reduceCtorEq]
    cases dn <;> simp only [Bool.not_true, Bool.not_false, cond_true, cond_false, Bool.true_and, Bool.false_and, Bool.and_true, Bool.and_false, Bool.false_eq_true, Bool.true_or, Bool.or_true, Bool.false_or, Bool.or_false, Bool.or_self, Bool.and_self, decide_true, decide_false, if_true, if_false, not_true, not_false_eq_true, not_true_eq_false, false_or, or_false, true_and, and_true, Bool.not_eq_true, Bool.true_eq_false, reduceCtorEq]
    by_cases h8 : wf = ph <;> simp only [h8, Bool.not_true, Bool.not_false, cond_true, cond_false, Bool.true_and, Bool.false_and, Bool.and_true, Bool.and_false, Bool.false_eq_true, Bool.true_or, Bool.or_true, Bool.false_or, Bool.or_false, Bool.or_self, Bool.and_self, decide_true, decide_false, if_true, if_false, not_true, not_false_eq_true, not_true_eq_false, false_or, or_false, true_and, and_true, Bool.not_eq_true, Bool.true_eq_false, reduceCtorEq, Option.bind_some]
  · rw [if_neg h7, decide_eq_false (show ¬ ag.length ≤ 10 by omega)]; simp only [Bool.not_true, Bool.not_false, cond_true, cond_false, Bool.true_and, Bool.false_and, Bool.and_true, Bool.and_false, Bool.false_eq_true, Bool.true_or, Bool.or_true, Bool.false_or, Bool.or_false, Bool.or_self, Bool.and_self, decide_true, decide_false, if_true, if_false, not_true, not_false_eq_true, not_true_eq_false, false_or, or_false, true_and, and_true, Bool.not_eq_true, Bool.true_eq_false, reduceCtorEq]
theorem cloneV_eq (k : Nat) (cs : List V2) (hl : cs.length ≤ 5000000) : slices_Clone_impl_Deviation_impl_Deviation.f k cs = some cs := by unfold slices_Clone_impl_Deviation_impl_Deviation.f; rw [app_ok (by simp; omega)]; rfl
theorem wcopied_eq (k : Nat) (pw ph : Int) (pl kn : List Int) (wf : Int) (ag : List V2) (dn : Bool) (h1 : pl.length ≤ 5000000) (h2 : kn.length ≤ 5000000) (h3 : ag.length ≤ 5000000) : impl_Weaving_copied.f k pw ph pl kn wf ag dn = some (pw, ph, pl, kn, wf, ag, dn) := by
  unfold impl_Weaving_copied.f impl_Weaving_copied.m
  rw [copied_eq k pw ph pl h1, cloneI_eq k kn h2, cloneV_eq k ag h3]; rfl
theorem wown_eq (k : Nat) (pw ph : Int) (pl kn : List Int) (wf : Int) (ag : List V2) (dn : Bool) (h1 : pl.length ≤ 5000000) (h2 : kn.length ≤ 5000000) (h3 : ag.length ≤ 5000000) : spec_l19Own.f k pw ph pl kn wf ag dn = some (pw, ph, pl, kn, wf, ag, dn) := by
  unfold spec_l19Own.f spec_l19Own.m
  rw [l2Own_eq k pw ph pl h1, ownI_eq k kn h2]; simp only [Option.bind_some]
  rw [app_ok (by simp; omega)]; rfl
/-! ### Unpicking -/
def agUn (n : Nat) (ag : List V2) : List V2 := if 0 < ag.length ∧ (ag.getD (ag.length - 1) (0, 0)).1 = (n : Int) - 1 then ag.take (ag.length - 1) else ag
def unW (pw : Int) (kn : List Int) (wf : Int) (ag : List V2) : Option (List Int × Int × List V2) :=
  if (kn.length : Int) = wf * pw then (if 0 < wf then some (kn, wf - 1, ag) else none) else some (kn.take (kn.length - 1), wf, agUn kn.length ag)
theorem filter_un {n : Nat} {pl kn : List Int} {ag : List V2} (hn : kn.length = n) (h : ∀ i, i < ag.length → agOk pl kn ag i = true) : ag.filter (fun d => !decide ((n : Int) - 1 ≤ d.1)) = agUn n ag := by
  have hasc := ascD_asc ag (fun i hi => by have := h i hi; unfold agOk at this; simp only [Bool.and_eq_true] at this; exact this.2)
  have hdev : ∀ i, i < ag.length → (ag.getD i (0, 0)).1 ≤ (n : Int) - 1 := fun i hi => by
    have := h i hi; unfold agOk at this; simp only [Bool.and_eq_true] at this
    have := (devB_of this.1).1.2; omega
  have hlt : ∀ i, i + 1 < ag.length → (ag.getD i (0, 0)).1 < (n : Int) - 1 := fun i hi => by
    have h1 := hasc i (ag.length - 1) (by omega) (by omega)
    have h2 := hdev (ag.length - 1) (by omega)
    omega
  unfold agUn
  by_cases hz : ag.length = 0
  · have : ag = [] := List.eq_nil_of_length_eq_zero hz
    subst this; rfl
  have hsplit : ag = ag.take (ag.length - 1) ++ [ag[ag.length - 1]'(by omega)] := by
    have := List.take_succ_eq_append_getElem (l := ag) (i := ag.length - 1) (by omega)
    rw [← this, List.take_of_length_le (by omega)]
  have hfront : (ag.take (ag.length - 1)).filter (fun d => !decide ((n : Int) - 1 ≤ d.1)) = ag.take (ag.length - 1) := by
    rw [List.filter_eq_self]
    intro d hd
    obtain ⟨i, hi, rfl⟩ := List.mem_iff_getElem.1 hd
    rw [List.length_take] at hi
    have := hlt i (by omega)
    rw [getD_lt (by omega)] at this
    rw [List.getElem_take]
    simp; omega
  by_cases e : (ag.getD (ag.length - 1) (0, 0)).1 = (n : Int) - 1
  · rw [if_pos ⟨by omega, e⟩]
    conv => lhs; rw [hsplit]
    rw [List.filter_append, hfront]
    rw [getD_lt (by omega)] at e
    simp [e]
  · rw [if_neg (fun h => e h.2)]
    have h2 := hdev (ag.length - 1) (by omega)
    conv => lhs; rw [hsplit]
    rw [List.filter_append, hfront]
    rw [getD_lt (by omega)] at e h2
    have : [ag[ag.length - 1]'(by omega)].filter (fun d => !decide ((n : Int) - 1 ≤ d.1)) = [ag[ag.length - 1]'(by omega)] := by
      rw [List.filter_cons, if_pos (by simp; omega)]; rfl
    rw [this]; exact hsplit.symm
theorem wipe_take {β : Type} {xs : List β} {lo n m : Nat} {d : β} (h : m ≤ lo) (hl : lo ≤ xs.length) : (wipe xs lo n d).take m = xs.take m := by
  unfold wipe
  rw [List.take_append_of_le_length (by rw [List.length_take]; omega), List.take_take, Nat.min_eq_left h]
theorem wipe_len {β : Type} {xs : List β} {lo n : Nat} {d : β} (h : lo + n ≤ xs.length) : (wipe xs lo n d).length = xs.length := by
  unfold wipe; simp; omega
theorem wdel_l (q : Int) : ∀ (d k i j : Nat) (xs : List V2), xs.length ≤ 1000 → i + d = xs.length → d + 10 < k → j ≤ i → slices_DeleteFunc_impl_Deviation_impl_Deviation__impl_Weaving_unpick_1.l7 k xs q (j : Int) (i : Int) = some (xs.take j ++ (xs.drop i).filter (fun d => !decide (q ≤ d.1))) := by
  intro d
  induction d with
  | zero =>
    intro k i j xs hl h1 h2 h3
    obtain ⟨k, rfl⟩ := succ_of (show 0 < k by omega)
    simp (disch := omega) only [slices_DeleteFunc_impl_Deviation_impl_Deviation__impl_Weaving_unpick_1.l7, slices_DeleteFunc_impl_Deviation_impl_Deviation__impl_Weaving_unpick_1.b7, if_neg, cut_int, Option.bind_some]
    rw [wipe_len (by omega), cutTo_int (by omega)]
    simp only [Option.bind_some]
    rw [wipe_take (by omega) (by omega), List.drop_eq_nil_of_le (by omega)]
    simp
  | succ d ih =>
    intro k i j xs hl h1 h2 h3
    obtain ⟨k, rfl⟩ := succ_of (show 0 < k by omega)
    have hi : i < xs.length := by omega
    simp (disch := omega) only [slices_DeleteFunc_impl_Deviation_impl_Deviation__impl_Weaving_unpick_1.l7, slices_DeleteFunc_impl_Deviation_impl_Deviation__impl_Weaving_unpick_1.b7, impl_Weaving_unpick_1.f, impl_Weaving_unpick_1.m, if_pos, chk_nat, Option.bind_some, w64_id]
    rw [show ((i : Int) + 1) = ((i + 1 : Nat) : Int) by omega, List.drop_eq_getElem_cons hi]
    by_cases e : q ≤ (xs.getD i (0, 0)).1
    · have h := ih k (i + 1) j xs hl (by omega) (by omega) (by omega)
      simp only [e, Bool.not_true, Bool.not_false, cond_true, cond_false, Bool.true_and, Bool.false_and, Bool.and_true, Bool.and_false, Bool.false_eq_true, Bool.true_or, Bool.or_true, Bool.false_or, Bool.or_false, Bool.or_self, Bool.and_self, decide_true, decide_false, if_true, if_false, not_true, not_false_eq_true, not_true_eq_false, false_or, or_false, true_and, and_true, Bool.not_eq_true, Bool.true_eq_false, reduceCtorEq]
      rw [h]
      rw [List.filter_cons, if_neg]
      rw [getD_lt hi] at e; simpa using e
    · simp only [e, Bool.not_true, Bool.not_false, cond_true, cond_false, Bool.true_and, Bool.false_and, Bool.and_true, Bool.and_false, Bool.false_eq_true, Bool.true_or, Bool.or_true, Bool.false_or, Bool.or_false, Bool.or_self, Bool.and_self, decide_true, decide_false, if_true, if_false, not_true, not_false_eq_true, not_true_eq_false, false_or, or_false, true_and, and_true, Bool.not_eq_true, Bool.true_eq_false, reduceCtorEq]
      rw [show ((j : Int) + 1) = ((j + 1 : Nat) : Int) by omega, ih k (i + 1) (j + 1) _ (by rw [upd_len]; exact hl) (by rw [upd_len]; omega) (by omega) (by omega)]
      unfold upd
      rw [List.drop_set_of_lt (show j < i + 1 by omega)]
      rw [getD_lt hi] at e ⊢
      have : (xs.set j xs[i]).take (j + 1) = xs.take j ++ [xs[i]] := by
        rw [List.take_succ_eq_append_getElem (by rw [List.length_set]; omega), List.getElem_set_self, List.take_set_of_le (Nat.le_refl j)]
      rw [show (xs[i].1, xs[i].2) = xs[i] from rfl, this, List.filter_cons]; simp [e]
theorem wdel_eq (k : Nat) (q : Int) (xs : List V2) (hl : xs.length ≤ 1000) (hk : 1100 < k) : slices_DeleteFunc_impl_Deviation_impl_Deviation__impl_Weaving_unpick_1.f k xs q = some (xs.filter (fun d => !decide (q ≤ d.1))) := by
  unfold slices_DeleteFunc_impl_Deviation_impl_Deviation__impl_Weaving_unpick_1.f slices_DeleteFunc_impl_Deviation_impl_Deviation__impl_Weaving_unpick_1.m slices_IndexFunc_impl_Deviation_impl_Deviation__impl_Weaving_unpick_1.f slices_IndexFunc_impl_Deviation_impl_Deviation__impl_Weaving_unpick_1.m
  have h := (find_loop (L := fun k i => slices_IndexFunc_impl_Deviation_impl_Deviation__impl_Weaving_unpick_1.l3 k xs q xs.length (i : Int)) (n := xs.length) (K0 := 20) (ok := fun i => decide (q ≤ (xs.getD i (0, 0)).1)) (fun k i hk hi => ?_) (fun k hk => ?_)) xs.length k 0 (by omega) (by omega)
  · rw [show ((0 : Nat) : Int) = 0 from rfl] at h
    by_cases ha : ∀ i, i < xs.length → (!decide (q ≤ (xs.getD i (0, 0)).1)) = true
    · rw [h.1 (fun j _ hj => by simpa using ha j hj)]; simp only [Option.bind_some]
      rw [if_pos trivial]; congr 1; symm
      rw [List.filter_eq_self]
      intro c hc
      obtain ⟨i, hi, rfl⟩ := List.mem_iff_getElem.1 hc
      have := ha i hi
      rwa [getD_lt hi] at this
    · obtain ⟨t, h1, h2, h3⟩ := first_bad ha
      rw [h.2 t (Nat.zero_le _) h1 (by simpa using h2) (fun j _ hj => by simpa using h3 j hj)]; simp only [Option.bind_some]
      rw [if_neg (by omega), w64_id (by omega), show ((t : Int) + 1) = ((t + 1 : Nat) : Int) by omega, wdel_l q (xs.length - (t + 1)) k (t + 1) t xs hl (by omega) (by omega) (by omega)]
      congr 1
      conv => rhs; rw [← List.take_append_drop t xs]
      rw [List.filter_append]
      congr 1
      · symm; rw [List.filter_eq_self]
        intro c hc
        obtain ⟨i, hi, rfl⟩ := List.mem_iff_getElem.1 hc
        have hi' : i < t := by rw [List.length_take] at hi; omega
        have := h3 i hi'
        rw [getD_lt (by omega)] at this
        rw [List.getElem_take]; exact this
      · rw [List.drop_eq_getElem_cons h1, List.filter_cons, if_neg]
        rw [getD_lt h1] at h2; simpa using h2
  · simp (disch := omega) only [slices_IndexFunc_impl_Deviation_impl_Deviation__impl_Weaving_unpick_1.l3, slices_IndexFunc_impl_Deviation_impl_Deviation__impl_Weaving_unpick_1.b3, impl_Weaving_unpick_1.f, impl_Weaving_unpick_1.m, if_pos, chk_nat, Option.bind_some, w64_id, Int.natCast_add, Int.cast_ofNat_Int]
    by_cases e : q ≤ (xs.getD i (0, 0)).1 <;> simp only [e, Bool.not_true, Bool.not_false, cond_true, cond_false, Bool.true_and, Bool.false_and, Bool.and_true, Bool.and_false, Bool.false_eq_true, Bool.true_or, Bool.or_true, Bool.false_or, Bool.or_false, Bool.or_self, Bool.and_self, decide_true, decide_false, if_true, if_false, not_true, not_false_eq_true, not_true_eq_false, false_or, or_false, true_and, and_true, Bool.not_eq_true, Bool.true_eq_false, reduceCtorEq]
  · simp (disch := omega) only [slices_IndexFunc_impl_Deviation_impl_Deviation__impl_Weaving_unpick_1.l3, slices_IndexFunc_impl_Deviation_impl_Deviation__impl_Weaving_unpick_1.b3, if_neg]
theorem WOk.bds {pw ph : Int} {pl kn : List Int} {wf : Int} {ag : List V2} (h : WOk pw ph pl kn wf ag) : (1 ≤ pw ∧ pw ≤ 8) ∧ (1 ≤ ph ∧ ph ≤ 8) ∧ (pl.length : Int) ≤ 64 ∧ kn.length ≤ pl.length ∧ (0 ≤ wf * pw ∧ wf * pw ≤ 72) ∧ (0 ≤ wf ∧ wf ≤ 8) := by
  obtain ⟨gw, gh, gl, _⟩ := good_of h.g
  have := mul_bd gw gh
  have h2 := h.wfs
  exact ⟨gw, gh, by omega, h.len.2.2, mul_bd0 gw (by omega), by omega⟩
theorem agUn_len (n : Nat) (ag : List V2) : (agUn n ag).length ≤ ag.length := by
  unfold agUn; split
  · rw [List.length_take]; omega
  · omega
def unO (pw ph : Int) (pl kn : List Int) (wf : Int) (ag : List V2) (dn : Bool) : Int × Int × List Int × List Int × Int × List V2 × Bool × Bool :=
  match unW pw kn wf ag with | some (k', w', a') => (pw, ph, pl, k', w', a', dn, true) | none => (pw, ph, pl, kn, wf - 1, ag, dn, false)
theorem sunpick_eq (k : Nat) {pw ph : Int} {pl kn : List Int} {wf : Int} {ag : List V2} (dn : Bool) (h : WOk pw ph pl kn wf ag) : spec_l19Unpick.f k pw ph pl kn wf ag dn = some (unO pw ph pl kn wf ag dn) := by
  obtain ⟨b1, b2, b3, b4, b5, b6⟩ := h.bds
  have hag := h.ag10
  have hlen := h.len
  unfold spec_l19Unpick.f spec_l19Unpick.m unO unW
  rw [wown_eq k pw ph pl kn wf ag dn (by omega) (by omega) (by omega)]; simp only [Option.bind_some]
  rw [w64_id (x := wf * pw) (by omega), w64_id (x := wf - 1) (by omega)]
  by_cases e : (kn.length : Int) = wf * pw
  · rw [if_pos e, if_pos e]
    by_cases e2 : 0 < wf <;> simp only [e2, Bool.not_true, Bool.not_false, cond_true, cond_false, Bool.true_and, Bool.false_and, Bool.and_true, Bool.and_false, Bool.false_eq_true, Bool.true_or, Bool.or_true, Bool.false_or, Bool.or_false, Bool.or_self, Bool.and_self, decide_true, decide_false, if_true, if_false, not_true, not_false_eq_true, not_true_eq_false, false_or, or_false, true_and, and_true, Bool.not_eq_true, Bool.true_eq_false, reduceCtorEq]
  · rw [if_neg e, if_neg e, w64_id (x := (kn.length : Int) - 1) (by omega), cutTo_int (by omega)]; simp only [Option.bind_some]
    have hkn : ((kn.length : Int) - 1).toNat = kn.length - 1 := by omega
    rw [hkn]
    unfold agUn
    by_cases e3 : 0 < ag.length
    · rw [if_pos (show (0 : Int) < ag.length by omega), w64_id (x := (ag.length : Int) - 1) (by omega), chk_int (by omega)]; simp only [Option.bind_some]
      have hkn2 : ((ag.length : Int) - 1).toNat = ag.length - 1 := by omega
      rw [hkn2]
      by_cases e4 : (ag.getD (ag.length - 1) (0, 0)).1 = (kn.length : Int) - 1
      · rw [if_pos e4, cutTo_int (by omega), if_pos ⟨e3, e4⟩, hkn2]; rfl
      · rw [if_neg e4, if_neg (fun h => e4 h.2)]
    · rw [if_neg (show ¬ (0 : Int) < ag.length by omega), if_neg (fun h => e3 h.1)]
theorem iunpick_eq (k : Nat) {pw ph : Int} {pl kn : List Int} {wf : Int} {ag : List V2} (dn : Bool) (h : WOk pw ph pl kn wf ag) (hk : 1200 ≤ k) : impl_Weaving_unpick.f k pw ph pl kn wf ag dn = match unW pw kn wf ag with | some (k', w', a') => some (true, pw, ph, pl, k', w', a', dn) | none => some (false, pw, ph, pl, kn, wf, ag, dn) := by
  obtain ⟨b1, b2, b3, b4, b5, b6⟩ := h.bds
  have hag := h.ag10
  have hlen := h.len
  unfold impl_Weaving_unpick.f impl_Weaving_unpick.m unW
  rw [w64_id (x := wf * pw) (by omega), w64_id (x := (kn.length : Int) - 1) (by omega)]
  by_cases e : (kn.length : Int) = wf * pw
  · rw [if_neg (by omega), if_pos e]
    by_cases e2 : 0 < wf
    · rw [if_pos e2, if_pos e2, w64_id (x := wf - 1) (by omega)]
    · rw [if_neg e2, if_neg e2]
  · rw [if_pos (by omega), if_neg e, cutTo_int (by omega), wdel_eq k _ ag (by omega) (by omega), filter_un rfl h.ag]; simp only [Option.bind_some]
    rw [show ((kn.length : Int) - 1).toNat = kn.length - 1 by omega]
theorem agUn_get {n : Nat} {ag : List V2} {i : Nat} (hi : i < (agUn n ag).length) : (agUn n ag).getD i (0, 0) = ag.getD i (0, 0) := by
  unfold agUn at hi ⊢
  split
  · rename_i h
    rw [if_pos h, List.length_take] at hi
    rw [getD_lt (by rw [List.length_take]; omega), getD_lt (by omega), List.getElem_take]
  · rfl
theorem un_good {pw ph : Int} {pl kn kn' : List Int} {wf wf' : Int} {ag ag' : List V2} (h : WOk pw ph pl kn wf ag) (hu : unW pw kn wf ag = some (kn', wf', ag')) : WOk pw ph pl kn' wf' ag' ∧ kn'.length + wf'.toNat + 1 = kn.length + wf.toNat := by
  obtain ⟨b1, b2, b3, b4, b5, b6⟩ := h.bds
  have hlen := h.len
  have hwf := h.wfs
  unfold unW at hu
  by_cases e : (kn.length : Int) = wf * pw
  · rw [if_pos e] at hu
    by_cases e2 : 0 < wf
    · rw [if_pos e2] at hu
      simp only [Option.some.injEq, Prod.mk.injEq] at hu
      obtain ⟨rfl, rfl, rfl⟩ := hu
      have hm : (wf - 1) * pw = wf * pw - pw := by rw [Int.sub_mul, Int.one_mul]
      exact ⟨⟨h.g, by omega, h.col, by rw [hm]; omega, h.ag10, h.ag⟩, by omega⟩
    · rw [if_neg e2] at hu; cases hu
  · rw [if_neg e] at hu
    simp only [Option.some.injEq, Prod.mk.injEq] at hu
    obtain ⟨rfl, rfl, rfl⟩ := hu
    have hn : 1 ≤ kn.length := by omega
    refine ⟨⟨h.g, h.wfs, ?_, ?_, Nat.le_trans (agUn_len _ _) h.ag10, fun i hi => ?_⟩, by rw [List.length_take]; omega⟩
    · rw [List.all_eq_true]; intro x hx; exact List.all_eq_true.1 h.col x (List.mem_of_mem_take hx)
    · rw [List.length_take]; omega
    · have hi' : i < ag.length := Nat.lt_of_lt_of_le hi (agUn_len _ _)
      have ho := h.ag i hi'
      have hlt : (ag.getD i (0, 0)).1 < (kn.length : Int) - 1 := by
        have hm : (agUn kn.length ag).getD i (0, 0) ∈ ag.filter (fun d => !decide ((kn.length : Int) - 1 ≤ d.1)) := by
          rw [filter_un rfl h.ag, getD_lt hi]; exact List.getElem_mem hi
        have := (List.mem_filter.1 hm).2
        rw [agUn_get hi] at this
        simp only [Bool.not_eq_true', decide_eq_false_iff_not] at this; omega
      unfold agOk at ho ⊢
      simp only [Bool.and_eq_true] at ho ⊢
      rw [agUn_get hi]
      refine ⟨?_, ?_⟩
      · obtain ⟨d1, d2, d3⟩ := devB_of ho.1
        unfold devB
        simp only [Bool.and_eq_true, inB_iff, decide_eq_true_eq, Bool.not_eq_true', decide_eq_false_iff_not]
        refine ⟨⟨by rw [List.length_take]; omega, ?_⟩, d3⟩
        rw [getD_lt (by rw [List.length_take]; omega), List.getElem_take, ← getD_lt (d := 0)]; exact d2
      · have h2 := ho.2
        unfold ascD at h2 ⊢
        by_cases h0 : i = 0
        · subst h0; rfl
        · rw [agUn_get hi, agUn_get (by omega)]; exact h2
theorem mis_nil {pl : List Int} {ag : List V2} : misL pl [] ag = [] := rfl
theorem un_some {pw ph : Int} {pl kn : List Int} {wf : Int} {ag : List V2} (h : WOk pw ph pl kn wf ag) (hm : misL pl kn ag ≠ []) : ∃ kn' wf' ag', unW pw kn wf ag = some (kn', wf', ag') := by
  unfold unW
  by_cases e : (kn.length : Int) = wf * pw
  · rw [if_pos e]
    by_cases e2 : 0 < wf
    · exact ⟨_, _, _, if_pos e2⟩
    · have h0 := h.wfs
      have : wf = 0 := by omega
      rw [this, Int.zero_mul] at e
      have : kn = [] := List.eq_nil_of_length_eq_zero (by omega)
      rw [this] at hm; exact absurd mis_nil hm
  · rw [if_neg e]; exact ⟨_, _, _, rfl⟩
/-! ### Steps -/
def okStep (kind color : Int) : Bool := if kind = 1 then colorB color else inB kind 2 5 && decide (color = 0)
theorem sokStep_eq (k : Nat) (kind color : Int) : spec_l19Step.f k kind color = some (okStep kind color) := by
  unfold spec_l19Step.f spec_l19Step.m okStep
  rw [l2Color_eq, specIn_eq]; simp only [Option.bind_some]
  by_cases h : kind = 1
  · rw [if_pos h, if_pos h]
  · rw [if_neg h, if_neg h]; cases inB kind 2 5 <;> rfl
theorem iokStep_eq (k : Nat) (kind color : Int) : impl_WeaveStep_isValid.f k kind color = some (okStep kind color) := by
  unfold impl_WeaveStep_isValid.f impl_WeaveStep_isValid.m okStep
  rw [isColor_eq, implIn_eq]; simp only [Option.bind_some]
  by_cases h : kind = 1
  · subst h; rw [show inB 1 1 5 = true from rfl]; simp only [Bool.not_true, Bool.not_false, cond_true, cond_false, Bool.true_and, Bool.false_and, Bool.and_true, Bool.and_false, Bool.false_eq_true, Bool.true_or, Bool.or_true, Bool.false_or, Bool.or_false, Bool.or_self, Bool.and_self, decide_true, decide_false, if_true, if_false, not_true, not_false_eq_true, not_true_eq_false, false_or, or_false, true_and, and_true, Bool.not_eq_true, Bool.true_eq_false, reduceCtorEq]; cases colorB color <;> rfl
  · simp only [h, Bool.not_true, Bool.not_false, cond_true, cond_false, Bool.true_and, Bool.false_and, Bool.and_true, Bool.and_false, Bool.false_eq_true, Bool.true_or, Bool.or_true, Bool.false_or, Bool.or_false, Bool.or_self, Bool.and_self, decide_true, decide_false, if_true, if_false, not_true, not_false_eq_true, not_true_eq_false, false_or, or_false, true_and, and_true, Bool.not_eq_true, Bool.true_eq_false, reduceCtorEq]
    have h1 : inB kind 1 5 = inB kind 2 5 := by rw [Bool.eq_iff_iff, inB_iff, inB_iff]; omega
    rw [h1]
    cases inB kind 2 5 <;> simp only [Bool.not_true, Bool.not_false, cond_true, cond_false, Bool.true_and, Bool.false_and, Bool.and_true, Bool.and_false, Bool.false_eq_true, Bool.true_or, Bool.or_true, Bool.false_or, Bool.or_false, Bool.or_self, Bool.and_self, decide_true, decide_false, if_true, if_false, not_true, not_false_eq_true, not_true_eq_false, false_or, or_false, true_and, and_true, Bool.not_eq_true, Bool.true_eq_false, reduceCtorEq]
    by_cases h2 : color = 0
    · subst h2; rfl
    · rw [decide_eq_false h2]; cases colorB color <;> rfl
def candW (pw : Int) (kn : List Int) (wf : Int) (ag : List V2) (dn : Bool) (kind color : Int) : Option (List Int × Int × List V2 × Bool) :=
  if kind = 1 then some (kn ++ [color], wf, ag, dn) else if kind = 2 then some (kn, wf + 1, ag, dn) else if kind = 3 then (unW pw kn wf ag).map (fun r => (r.1, r.2.1, r.2.2, dn))
  else if kind = 4 then (if kn.length = 0 then none else if agr ag ((kn.length : Int) - 1) = true then none else some (kn, wf, ag ++ [((kn.length : Int) - 1, kn.getD (kn.length - 1) 0)], dn)) else some (kn, wf, ag, true)
def stepW (pw ph : Int) (pl kn : List Int) (wf : Int) (ag : List V2) (dn : Bool) (kind color : Int) : Option (List Int × Int × List V2 × Bool) :=
  if dn = true then none else if okStep kind color = true then (match candW pw kn wf ag dn kind color with | some (k, w, a, d) => if weaveB pw ph pl k w a d = true then some (k, w, a, d) else none | none => none) else none
def outW (pw ph : Int) (pl : List Int) (r : Option (List Int × Int × List V2 × Bool)) : Int × Int × List Int × List Int × Int × List V2 × Bool × Bool :=
  match r with | some (k, w, a, d) => (pw, ph, pl, k, w, a, d, true) | none => (0, 0, [], [], 0, [], false, false)
theorem step_good {pw ph : Int} {pl kn : List Int} {wf : Int} {ag : List V2} {dn : Bool} {kind color : Int} {k : List Int} {w : Int} {a : List V2} {d : Bool} (h : stepW pw ph pl kn wf ag dn kind color = some (k, w, a, d)) : weaveB pw ph pl k w a d = true := by
  unfold stepW at h
  split at h
  · cases h
  split at h
  · split at h
    · split at h
      · rename_i hg
        simp only [Option.some.injEq, Prod.mk.injEq] at h
        obtain ⟨rfl, rfl, rfl, rfl⟩ := h
        exact hg
      · cases h
    · cases h
  · cases h
theorem cand_bd {pw ph : Int} {pl kn : List Int} {wf : Int} {ag : List V2} {dn : Bool} {kind color : Int} (h : WOk pw ph pl kn wf ag) {k : List Int} {w : Int} {a : List V2} {d : Bool} (hc : candW pw kn wf ag dn kind color = some (k, w, a, d)) : k.length ≤ 65 ∧ a.length ≤ 11 := by
  obtain ⟨b1, b2, b3, b4, b5, b6⟩ := h.bds
  have hag := h.ag10
  unfold candW at hc
  split at hc
  · simp only [Option.some.injEq, Prod.mk.injEq] at hc; obtain ⟨rfl, rfl, rfl, rfl⟩ := hc; simp; omega
  split at hc
  · simp only [Option.some.injEq, Prod.mk.injEq] at hc; obtain ⟨rfl, rfl, rfl, rfl⟩ := hc; omega
  split at hc
  · cases hu : unW pw kn wf ag with
    | none => rw [hu] at hc; cases hc
    | some r =>
      obtain ⟨k', w', a'⟩ := r
      rw [hu] at hc
      simp only [Option.map_some, Option.some.injEq, Prod.mk.injEq] at hc
      obtain ⟨rfl, rfl, rfl, rfl⟩ := hc
      obtain ⟨h1, _⟩ := un_good h hu
      have := h1.ag10
      obtain ⟨_, _, c3, c4, _⟩ := h1.bds
      omega
  split at hc
  · split at hc
    · cases hc
    split at hc
    · cases hc
    simp only [Option.some.injEq, Prod.mk.injEq] at hc; obtain ⟨rfl, rfl, rfl, rfl⟩ := hc; simp; omega
  simp only [Option.some.injEq, Prod.mk.injEq] at hc; obtain ⟨rfl, rfl, rfl, rfl⟩ := hc; omega
theorem implDo_eq (K : Nat) {pw ph : Int} {pl kn : List Int} {wf : Int} {ag : List V2} (dn : Bool) (kind color : Int) (h : WOk pw ph pl kn wf ag) (hv : okStep kind color = true) (hK : 1300 ≤ K) : ∃ r, impl_Weaving_do.f K pw ph pl kn wf ag dn kind color = some r ∧ (match candW pw kn wf ag dn kind color with | some (k, w, a, d) => r = (true, pw, ph, pl, k, w, a, d) | none => r.1 = false) := by
  obtain ⟨b1, b2, b3, b4, b5, b6⟩ := h.bds
  have hag := h.ag10
  unfold impl_Weaving_do.f impl_Weaving_do.m candW
  by_cases k1 : kind = 1
  · simp only [k1, Bool.not_true, Bool.not_false, cond_true, cond_false, Bool.true_and, Bool.false_and, Bool.and_true, Bool.and_false, Bool.false_eq_true, Bool.true_or, Bool.or_true, Bool.false_or, Bool.or_false, Bool.or_self, Bool.and_self, decide_true, decide_false, if_true, if_false, not_true, not_false_eq_true, not_true_eq_false, false_or, or_false, true_and, and_true, Bool.not_eq_true, Bool.true_eq_false, reduceCtorEq]
    rw [app_ok (by simp; omega)]
    exact ⟨_, rfl, rfl⟩
  by_cases k2 : kind = 2
  · simp only [k2, show ¬ (2 : Int) = 1 by omega, Bool.not_true, Bool.not_false, cond_true, cond_false, Bool.true_and, Bool.false_and, Bool.and_true, Bool.and_false, Bool.false_eq_true, Bool.true_or, Bool.or_true, Bool.false_or, Bool.or_false, Bool.or_self, Bool.and_self, decide_true, decide_false, if_true, if_false, not_true, not_false_eq_true, not_true_eq_false, false_or, or_false, true_and, and_true, Bool.not_eq_true, Bool.true_eq_false, reduceCtorEq]
    rw [w64_id (by omega)]
    exact ⟨_, rfl, rfl⟩
  by_cases k3 : kind = 3
  · simp only [k3, show ¬ (3 : Int) = 1 by omega, show ¬ (3 : Int) = 2 by omega, Bool.not_true, Bool.not_false, cond_true, cond_false, Bool.true_and, Bool.false_and, Bool.and_true, Bool.and_false, Bool.false_eq_true, Bool.true_or, Bool.or_true, Bool.false_or, Bool.or_false, Bool.or_self, Bool.and_self, decide_true, decide_false, if_true, if_false, not_true, not_false_eq_true, not_true_eq_false, false_or, or_false, true_and, and_true, Bool.not_eq_true, Bool.true_eq_false, reduceCtorEq]
    rw [iunpick_eq K dn h (by omega)]
    cases unW pw kn wf ag with
    | none => exact ⟨_, rfl, rfl⟩
    | some r => exact ⟨_, rfl, rfl⟩
  by_cases k4 : kind = 4
  · simp only [k4, show ¬ (4 : Int) = 1 by omega, show ¬ (4 : Int) = 2 by omega, show ¬ (4 : Int) = 3 by omega, Bool.not_true, Bool.not_false, cond_true, cond_false, Bool.true_and, Bool.false_and, Bool.and_true, Bool.and_false, Bool.false_eq_true, Bool.true_or, Bool.or_true, Bool.false_or, Bool.or_false, Bool.or_self, Bool.and_self, decide_true, decide_false, if_true, if_false, not_true, not_false_eq_true, not_true_eq_false, false_or, or_false, true_and, and_true, Bool.not_eq_true, Bool.true_eq_false, reduceCtorEq]
    rw [w64_id (x := (kn.length : Int) - 1) (by omega)]
    by_cases e0 : kn.length = 0
    · rw [if_pos (by omega), if_pos e0]; exact ⟨_, rfl, rfl⟩
    · rw [if_neg (by omega), if_neg e0, iagreed_eq K pw ph pl kn wf ag dn _ (by omega) (by omega)]; simp only [Option.bind_some]
      cases hc : agr ag ((kn.length : Int) - 1)
      · simp only [Bool.not_true, Bool.not_false, cond_true, cond_false, Bool.true_and, Bool.false_and, Bool.and_true, Bool.and_false, Bool.false_eq_true, Bool.true_or, Bool.or_true, Bool.false_or, Bool.or_false, Bool.or_self, Bool.and_self, decide_true, decide_false, if_true, if_false, not_true, not_false_eq_true, not_true_eq_false, false_or, or_false, true_and, and_true, Bool.not_eq_true, Bool.true_eq_false, reduceCtorEq]
        rw [chk_int (by omega)]; simp only [Option.bind_some]
        rw [app_ok (by simp; omega), show ((kn.length : Int) - 1).toNat = kn.length - 1 by omega]
        exact ⟨_, rfl, rfl⟩
      · simp only [Bool.not_true, Bool.not_false, cond_true, cond_false, Bool.true_and, Bool.false_and, Bool.and_true, Bool.and_false, Bool.false_eq_true, Bool.true_or, Bool.or_true, Bool.false_or, Bool.or_false, Bool.or_self, Bool.and_self, decide_true, decide_false, if_true, if_false, not_true, not_false_eq_true, not_true_eq_false, false_or, or_false, true_and, and_true, Bool.not_eq_true, Bool.true_eq_false, reduceCtorEq]; exact ⟨_, rfl, rfl⟩
  · simp only [k1, k2, k3, k4, Bool.not_true, Bool.not_false, cond_true, cond_false, Bool.true_and, Bool.false_and, Bool.and_true, Bool.and_false, Bool.false_eq_true, Bool.true_or, Bool.or_true, Bool.false_or, Bool.or_false, Bool.or_self, Bool.and_self, decide_true, decide_false, if_true, if_false, not_true, not_false_eq_true, not_true_eq_false, false_or, or_false, true_and, and_true, Bool.not_eq_true, Bool.true_eq_false, reduceCtorEq]; exact ⟨_, rfl, rfl⟩
theorem implStepW_eq (K : Nat) {pw ph : Int} {pl kn : List Int} {wf : Int} {ag : List V2} (dn : Bool) (kind color : Int) (h : WOk pw ph pl kn wf ag) (hK : 6000 ≤ K) : impl_Weaving_step.f K pw ph pl kn wf ag dn kind color = some (outW pw ph pl (stepW pw ph pl kn wf ag dn kind color)) := by
  obtain ⟨b1, b2, b3, b4, b5, b6⟩ := h.bds
  have hag := h.ag10
  unfold impl_Weaving_step.f impl_Weaving_step.m stepW
  rw [wcopied_eq K pw ph pl kn wf ag dn (by omega) (by omega) (by omega), iokStep_eq]; simp only [Option.bind_some]
  cases dn with
  | true => simp only [Bool.not_true, Bool.not_false, cond_true, cond_false, Bool.true_and, Bool.false_and, Bool.and_true, Bool.and_false, Bool.false_eq_true, Bool.true_or, Bool.or_true, Bool.false_or, Bool.or_false, Bool.or_self, Bool.and_self, decide_true, decide_false, if_true, if_false, not_true, not_false_eq_true, not_true_eq_false, false_or, or_false, true_and, and_true, Bool.not_eq_true, Bool.true_eq_false, reduceCtorEq, outW]
  | false =>
    simp only [Bool.not_true, Bool.not_false, cond_true, cond_false, Bool.true_and, Bool.false_and, Bool.and_true, Bool.and_false, Bool.false_eq_true, Bool.true_or, Bool.or_true, Bool.false_or, Bool.or_false, Bool.or_self, Bool.and_self, decide_true, decide_false, if_true, if_false, not_true, not_false_eq_true, not_true_eq_false, false_or, or_false, true_and, and_true, Bool.not_eq_true, Bool.true_eq_false, reduceCtorEq]
    cases hv : okStep kind color with
    | false => simp only [Bool.not_true, Bool.not_false, cond_true, cond_false, Bool.true_and, Bool.false_and, Bool.and_true, Bool.and_false, Bool.false_eq_true, Bool.true_or, Bool.or_true, Bool.false_or, Bool.or_false, Bool.or_self, Bool.and_self, decide_true, decide_false, if_true, if_false, not_true, not_false_eq_true, not_true_eq_false, false_or, or_false, true_and, and_true, Bool.not_eq_true, Bool.true_eq_false, reduceCtorEq, outW]
    | true =>
      simp only [Bool.not_true, Bool.not_false, cond_true, cond_false, Bool.true_and, Bool.false_and, Bool.and_true, Bool.and_false, Bool.false_eq_true, Bool.true_or, Bool.or_true, Bool.false_or, Bool.or_false, Bool.or_self, Bool.and_self, decide_true, decide_false, if_true, if_false, not_true, not_false_eq_true, not_true_eq_false, false_or, or_false, true_and, and_true, Bool.not_eq_true, Bool.true_eq_false, reduceCtorEq]
      obtain ⟨r, e1, e2⟩ := implDo_eq K false kind color h hv (by omega)
      rw [e1]; simp only [Option.bind_some]
      cases hc : candW pw kn wf ag false kind color with
      | none =>
        rw [hc] at e2
        dsimp only at e2
        rw [e2]; simp only [Bool.not_true, Bool.not_false, cond_true, cond_false, Bool.true_and, Bool.false_and, Bool.and_true, Bool.and_false, Bool.false_eq_true, Bool.true_or, Bool.or_true, Bool.false_or, Bool.or_false, Bool.or_self, Bool.and_self, decide_true, decide_false, if_true, if_false, not_true, not_false_eq_true, not_true_eq_false, false_or, or_false, true_and, and_true, Bool.not_eq_true, Bool.true_eq_false, reduceCtorEq, outW]
      | some c =>
        obtain ⟨k, w, a, d⟩ := c
        rw [hc] at e2
        dsimp only at e2
        have hb := cand_bd h hc
        subst e2
        simp only [Bool.not_true, Bool.not_false, cond_true, cond_false, Bool.true_and, Bool.false_and, Bool.and_true, Bool.and_false, Bool.false_eq_true, Bool.true_or, Bool.or_true, Bool.false_or, Bool.or_false, Bool.or_self, Bool.and_self, decide_true, decide_false, if_true, if_false, not_true, not_false_eq_true, not_true_eq_false, false_or, or_false, true_and, and_true, Bool.not_eq_true, Bool.true_eq_false, reduceCtorEq]
        rw [igood_eq K pw ph pl k w a d (by omega) (by omega) (by omega) (by omega)]; simp only [Option.bind_some]
        cases weaveB pw ph pl k w a d <;> simp only [Bool.not_true, Bool.not_false, cond_true, cond_false, Bool.true_and, Bool.false_and, Bool.and_true, Bool.and_false, Bool.false_eq_true, Bool.true_or, Bool.or_true, Bool.false_or, Bool.or_false, Bool.or_self, Bool.and_self, decide_true, decide_false, if_true, if_false, not_true, not_false_eq_true, not_true_eq_false, false_or, or_false, true_and, and_true, Bool.not_eq_true, Bool.true_eq_false, reduceCtorEq, outW]
theorem specMake_eq (K : Nat) {pw ph : Int} {pl kn : List Int} {wf : Int} {ag : List V2} (dn : Bool) (kind color : Int) (h : WOk pw ph pl kn wf ag) (hv : okStep kind color = true) (hK : 6000 ≤ K) : ∃ (ys : Int × Int × List Int × List Int × Int × List V2 × Bool) (c : Bool), spec_l19Make.f K pw ph pl kn wf ag dn kind color = some (ys.1, ys.2.1, ys.2.2.1, ys.2.2.2.1, ys.2.2.2.2.1, ys.2.2.2.2.2.1, ys.2.2.2.2.2.2, c) ∧ (match stepW pw ph pl kn wf ag dn kind color with | some (k, w, a, d) => c = true ∧ ys = (pw, ph, pl, k, w, a, d) | none => c = false) := by
  obtain ⟨b1, b2, b3, b4, b5, b6⟩ := h.bds
  have hag := h.ag10
  obtain ⟨K, rfl⟩ := succ_of (show 0 < K by omega)
  have join : ∀ (k : List Int) (w : Int) (a : List V2) (d : Bool), candW pw kn wf ag dn kind color = some (k, w, a, d) → ∃ (ys : Int × Int × List Int × List Int × Int × List V2 × Bool) (c : Bool), spec_l19Make.l3 (K + 1) pw ph pl kn wf ag dn 0 0 [] [] 0 [] false pw ph pl k w a d true = some (ys.1, ys.2.1, ys.2.2.1, ys.2.2.2.1, ys.2.2.2.2.1, ys.2.2.2.2.2.1, ys.2.2.2.2.2.2, c) ∧ (match stepW pw ph pl kn wf ag dn kind color with | some (k, w, a, d) => c = true ∧ ys = (pw, ph, pl, k, w, a, d) | none => c = false) := by
    intro k w a d hc
    have hb := cand_bd h hc
    simp only [spec_l19Make.l3, spec_l19Make.b3, Bool.not_true, Bool.not_false, cond_true, cond_false, Bool.true_and, Bool.false_and, Bool.and_true, Bool.and_false, Bool.false_eq_true, Bool.true_or, Bool.or_true, Bool.false_or, Bool.or_false, Bool.or_self, Bool.and_self, decide_true, decide_false, if_true, if_false, not_true, not_false_eq_true, not_true_eq_false, false_or, or_false, true_and, and_true, Bool.not_eq_true, Bool.true_eq_false, reduceCtorEq]
    unfold stepW
    rw [hc, hv]
    cases dn with
    | true => simp only [Bool.not_true, Bool.not_false, cond_true, cond_false, Bool.true_and, Bool.false_and, Bool.and_true, Bool.and_false, Bool.false_eq_true, Bool.true_or, Bool.or_true, Bool.false_or, Bool.or_false, Bool.or_self, Bool.and_self, decide_true, decide_false, if_true, if_false, not_true, not_false_eq_true, not_true_eq_false, false_or, or_false, true_and, and_true, Bool.not_eq_true, Bool.true_eq_false, reduceCtorEq]; exact ⟨(pw, ph, pl, k, w, a, d), false, rfl, rfl⟩
    | false =>
      simp only [Bool.not_true, Bool.not_false, cond_true, cond_false, Bool.true_and, Bool.false_and, Bool.and_true, Bool.and_false, Bool.false_eq_true, Bool.true_or, Bool.or_true, Bool.false_or, Bool.or_false, Bool.or_self, Bool.and_self, decide_true, decide_false, if_true, if_false, not_true, not_false_eq_true, not_true_eq_false, false_or, or_false, true_and, and_true, Bool.not_eq_true, Bool.true_eq_false, reduceCtorEq]
      rw [sgood_eq K pw ph pl k w a d (by omega) (by omega) (by omega)]; simp only [Option.bind_some]
      cases weaveB pw ph pl k w a d
      · exact ⟨(pw, ph, pl, k, w, a, d), false, rfl, by simp only [Bool.not_true, Bool.not_false, cond_true, cond_false, Bool.true_and, Bool.false_and, Bool.and_true, Bool.and_false, Bool.false_eq_true, Bool.true_or, Bool.or_true, Bool.false_or, Bool.or_false, Bool.or_self, Bool.and_self, decide_true, decide_false, if_true, if_false, not_true, not_false_eq_true, not_true_eq_false, false_or, or_false, true_and, and_true, Bool.not_eq_true, Bool.true_eq_false, reduceCtorEq]⟩
      · exact ⟨(pw, ph, pl, k, w, a, d), true, rfl, by simp only [Bool.not_true, Bool.not_false, cond_true, cond_false, Bool.true_and, Bool.false_and, Bool.and_true, Bool.and_false, Bool.false_eq_true, Bool.true_or, Bool.or_true, Bool.false_or, Bool.or_false, Bool.or_self, Bool.and_self, decide_true, decide_false, if_true, if_false, not_true, not_false_eq_true, not_true_eq_false, false_or, or_false, true_and, and_true, Bool.not_eq_true, Bool.true_eq_false, reduceCtorEq]⟩
  have fail : ∀ (k : List Int) (w : Int) (a : List V2) (d : Bool), candW pw kn wf ag dn kind color = none → ∃ (ys : Int × Int × List Int × List Int × Int × List V2 × Bool) (c : Bool), (some (pw, ph, pl, k, w, a, d, false) : Option (Int × Int × List Int × List Int × Int × List V2 × Bool × Bool)) = some (ys.1, ys.2.1, ys.2.2.1, ys.2.2.2.1, ys.2.2.2.2.1, ys.2.2.2.2.2.1, ys.2.2.2.2.2.2, c) ∧ (match stepW pw ph pl kn wf ag dn kind color with | some (k, w, a, d) => c = true ∧ ys = (pw, ph, pl, k, w, a, d) | none => c = false) := by
    intro k w a d hc
    refine ⟨(pw, ph, pl, k, w, a, d), false, rfl, ?_⟩
    unfold stepW
    rw [hc]
    cases dn <;> cases okStep kind color <;> simp only [Bool.not_true, Bool.not_false, cond_true, cond_false, Bool.true_and, Bool.false_and, Bool.and_true, Bool.and_false, Bool.false_eq_true, Bool.true_or, Bool.or_true, Bool.false_or, Bool.or_false, Bool.or_self, Bool.and_self, decide_true, decide_false, if_true, if_false, not_true, not_false_eq_true, not_true_eq_false, false_or, or_false, true_and, and_true, Bool.not_eq_true, Bool.true_eq_false, reduceCtorEq]
  unfold spec_l19Make.f spec_l19Make.m
  rw [wown_eq (K + 1) pw ph pl kn wf ag dn (by omega) (by omega) (by omega)]; simp only [Option.bind_some]
  by_cases k1 : kind = 1
  · rw [if_pos k1, app_ok (by simp; omega)]
    exact join _ _ _ _ (by unfold candW; rw [if_pos k1])
  rw [if_neg k1]
  by_cases k2 : kind = 2
  · rw [if_pos k2, w64_id (by omega)]
    exact join _ _ _ _ (by unfold candW; rw [if_neg k1, if_pos k2])
  rw [if_neg k2]
  by_cases k3 : kind = 3
  · rw [if_pos k3, sunpick_eq (K + 1) dn h]; simp only [Option.bind_some]
    unfold unO
    cases hu : unW pw kn wf ag with
    | none =>
      simp only [spec_l19Make.l3, spec_l19Make.b3, Bool.not_true, Bool.not_false, cond_true, cond_false, Bool.true_and, Bool.false_and, Bool.and_true, Bool.and_false, Bool.false_eq_true, Bool.true_or, Bool.or_true, Bool.false_or, Bool.or_false, Bool.or_self, Bool.and_self, decide_true, decide_false, if_true, if_false, not_true, not_false_eq_true, not_true_eq_false, false_or, or_false, true_and, and_true, Bool.not_eq_true, Bool.true_eq_false, reduceCtorEq]
      exact fail _ _ _ _ (by unfold candW; rw [if_neg k1, if_neg k2, if_pos k3, hu]; rfl)
    | some r =>
      obtain ⟨k', w', a'⟩ := r
      exact join k' w' a' dn (by unfold candW; rw [if_neg k1, if_neg k2, if_pos k3, hu]; rfl)
  rw [if_neg k3]
  by_cases k4 : kind = 4
  · rw [if_pos k4, w64_id (x := (kn.length : Int) - 1) (by omega)]
    by_cases e0 : kn.length = 0
    · rw [if_pos (show (kn.length : Int) = 0 by omega)]
      exact fail _ _ _ _ (by unfold candW; rw [if_neg k1, if_neg k2, if_neg k3, if_pos k4, if_pos e0])
    · rw [if_neg (by omega), sagreed_eq (K + 1) pw ph pl kn wf ag dn _ (by omega) (by omega)]; simp only [Option.bind_some]
      cases hc : agr ag ((kn.length : Int) - 1)
      · simp only [Bool.not_true, Bool.not_false, cond_true, cond_false, Bool.true_and, Bool.false_and, Bool.and_true, Bool.and_false, Bool.false_eq_true, Bool.true_or, Bool.or_true, Bool.false_or, Bool.or_false, Bool.or_self, Bool.and_self, decide_true, decide_false, if_true, if_false, not_true, not_false_eq_true, not_true_eq_false, false_or, or_false, true_and, and_true, Bool.not_eq_true, Bool.true_eq_false, reduceCtorEq]
        rw [chk_int (by omega)]; simp only [Option.bind_some]
        rw [app_ok (by simp; omega), show ((kn.length : Int) - 1).toNat = kn.length - 1 by omega]
        exact join _ _ _ _ (by unfold candW; rw [if_neg k1, if_neg k2, if_neg k3, if_pos k4, if_neg e0, hc]; rfl)
      · simp only [Bool.not_true, Bool.not_false, cond_true, cond_false, Bool.true_and, Bool.false_and, Bool.and_true, Bool.and_false, Bool.false_eq_true, Bool.true_or, Bool.or_true, Bool.false_or, Bool.or_false, Bool.or_self, Bool.and_self, decide_true, decide_false, if_true, if_false, not_true, not_false_eq_true, not_true_eq_false, false_or, or_false, true_and, and_true, Bool.not_eq_true, Bool.true_eq_false, reduceCtorEq]
        exact fail _ _ _ _ (by unfold candW; rw [if_neg k1, if_neg k2, if_neg k3, if_pos k4, if_neg e0, if_pos hc])
  · rw [if_neg k4]
    exact join _ _ _ _ (by unfold candW; rw [if_neg k1, if_neg k2, if_neg k3, if_neg k4])
theorem outW_len {pw ph : Int} {pl kn : List Int} {wf : Int} {ag : List V2} {dn : Bool} {kind color : Int} (h : WOk pw ph pl kn wf ag) : (outW pw ph pl (stepW pw ph pl kn wf ag dn kind color)).2.2.1.length ≤ 64 ∧ (outW pw ph pl (stepW pw ph pl kn wf ag dn kind color)).2.2.2.1.length ≤ 64 ∧ (outW pw ph pl (stepW pw ph pl kn wf ag dn kind color)).2.2.2.2.2.1.length ≤ 64 := by
  cases hc : stepW pw ph pl kn wf ag dn kind color with
  | none => simp [outW]
  | some r =>
    obtain ⟨k, w, a, d⟩ := r
    have hg := (weaveB_iff.1 (step_good hc)).1
    have h10 := hg.ag10
    obtain ⟨b1, b2, b3, b4, _⟩ := hg.bds
    simp only [outW]; omega
theorem specStepW_eq (K : Nat) {pw ph : Int} {pl kn : List Int} {wf : Int} {ag : List V2} {dn : Bool} (kind color : Int) (hg : weaveB pw ph pl kn wf ag dn = true) (hK : 6000 ≤ K) : spec_StepWeaving.f K pw ph pl kn wf ag dn kind color = some (outW pw ph pl (stepW pw ph pl kn wf ag dn kind color)) := by
  have h := (weaveB_iff.1 hg).1
  obtain ⟨b1, b2, b3, b4, b5, b6⟩ := h.bds
  unfold spec_StepWeaving.f spec_StepWeaving.m
  rw [sgood_eq K pw ph pl kn wf ag dn (by omega) (by omega) (by omega), hg, sokStep_eq]; simp only [Option.bind_some, Bool.not_true, Bool.not_false, cond_true, cond_false, Bool.true_and, Bool.false_and, Bool.and_true, Bool.and_false, Bool.false_eq_true, Bool.true_or, Bool.or_true, Bool.false_or, Bool.or_false, Bool.or_self, Bool.and_self, decide_true, decide_false, if_true, if_false, not_true, not_false_eq_true, not_true_eq_false, false_or, or_false, true_and, and_true, Bool.not_eq_true, Bool.true_eq_false, reduceCtorEq]
  cases hv : okStep kind color with
  | false => unfold stepW; rw [hv]; cases dn <;> simp only [Bool.not_true, Bool.not_false, cond_true, cond_false, Bool.true_and, Bool.false_and, Bool.and_true, Bool.and_false, Bool.false_eq_true, Bool.true_or, Bool.or_true, Bool.false_or, Bool.or_false, Bool.or_self, Bool.and_self, decide_true, decide_false, if_true, if_false, not_true, not_false_eq_true, not_true_eq_false, false_or, or_false, true_and, and_true, Bool.not_eq_true, Bool.true_eq_false, reduceCtorEq, outW]
  | true =>
    simp only [Bool.not_true, Bool.not_false, cond_true, cond_false, Bool.true_and, Bool.false_and, Bool.and_true, Bool.and_false, Bool.false_eq_true, Bool.true_or, Bool.or_true, Bool.false_or, Bool.or_false, Bool.or_self, Bool.and_self, decide_true, decide_false, if_true, if_false, not_true, not_false_eq_true, not_true_eq_false, false_or, or_false, true_and, and_true, Bool.not_eq_true, Bool.true_eq_false, reduceCtorEq]
    obtain ⟨ys, c, e1, e2⟩ := specMake_eq K dn kind color h hv hK
    rw [e1]; simp only [Option.bind_some]
    cases hc : stepW pw ph pl kn wf ag dn kind color with
    | none => rw [hc] at e2; dsimp only at e2; rw [e2]; simp only [Bool.not_true, Bool.not_false, cond_true, cond_false, Bool.true_and, Bool.false_and, Bool.and_true, Bool.and_false, Bool.false_eq_true, Bool.true_or, Bool.or_true, Bool.false_or, Bool.or_false, Bool.or_self, Bool.and_self, decide_true, decide_false, if_true, if_false, not_true, not_false_eq_true, not_true_eq_false, false_or, or_false, true_and, and_true, Bool.not_eq_true, Bool.true_eq_false, reduceCtorEq, outW]
    | some r => obtain ⟨k, w, a, d⟩ := r; rw [hc] at e2; dsimp only at e2; obtain ⟨rfl, rfl⟩ := e2; simp only [Bool.not_true, Bool.not_false, cond_true, cond_false, Bool.true_and, Bool.false_and, Bool.and_true, Bool.and_false, Bool.false_eq_true, Bool.true_or, Bool.or_true, Bool.false_or, Bool.or_false, Bool.or_self, Bool.and_self, decide_true, decide_false, if_true, if_false, not_true, not_false_eq_true, not_true_eq_false, false_or, or_false, true_and, and_true, Bool.not_eq_true, Bool.true_eq_false, reduceCtorEq, outW]
theorem implSW_eq (K : Nat) {pw ph : Int} {pl kn : List Int} {wf : Int} {ag : List V2} {dn : Bool} (kind color : Int) (hg : weaveB pw ph pl kn wf ag dn = true) (hK : 6000 ≤ K) : impl_StepWeaving.f K pw ph pl kn wf ag dn kind color = some (outW pw ph pl (stepW pw ph pl kn wf ag dn kind color)) := by
  have h := (weaveB_iff.1 hg).1
  obtain ⟨b1, b2, b3, b4, b5, b6⟩ := h.bds
  have h10 := h.ag10
  unfold impl_StepWeaving.f impl_StepWeaving.m
  rw [igood_eq K pw ph pl kn wf ag dn (by omega) (by omega) (by omega) (by omega), hg]; simp only [Option.bind_some, Bool.not_true, Bool.not_false, cond_true, cond_false, Bool.true_and, Bool.false_and, Bool.and_true, Bool.and_false, Bool.false_eq_true, Bool.true_or, Bool.or_true, Bool.false_or, Bool.or_false, Bool.or_self, Bool.and_self, decide_true, decide_false, if_true, if_false, not_true, not_false_eq_true, not_true_eq_false, false_or, or_false, true_and, and_true, Bool.not_eq_true, Bool.true_eq_false, reduceCtorEq]
  rw [implStepW_eq K dn kind color h hK]; rfl
abbrev RW := Int × Int × List Int × List Int × Int × List V2 × Bool × Int × Bool
def runW (pw ph : Int) (pl : List Int) : List V2 → List Int → Int → List V2 → Bool → Int → List Int × Int × List V2 × Bool × Int
  | [], kn, wf, ag, dn, n => (kn, wf, ag, dn, n)
  | x :: xs, kn, wf, ag, dn, n => match stepW pw ph pl kn wf ag dn x.1 x.2 with | some (k, w, a, d) => runW pw ph pl xs k w a d (n + 1) | none => runW pw ph pl xs kn wf ag dn n
def runWO (pw ph : Int) (pl : List Int) (r : List Int × Int × List V2 × Bool × Int) : RW := (pw, ph, pl, r.1, r.2.1, r.2.2.1, r.2.2.2.1, r.2.2.2.2, true)
theorem runW_good {pw ph : Int} {pl : List Int} : ∀ (xs : List V2) {kn : List Int} {wf : Int} {ag : List V2} {dn : Bool} (n : Int), weaveB pw ph pl kn wf ag dn = true → weaveB pw ph pl (runW pw ph pl xs kn wf ag dn n).1 (runW pw ph pl xs kn wf ag dn n).2.1 (runW pw ph pl xs kn wf ag dn n).2.2.1 (runW pw ph pl xs kn wf ag dn n).2.2.2.1 = true := by
  intro xs
  induction xs with
  | nil => intro kn wf ag dn n hs; exact hs
  | cons x xs ih =>
    intro kn wf ag dn n hs
    simp only [runW]
    cases h : stepW pw ph pl kn wf ag dn x.1 x.2 with
    | none => exact ih n hs
    | some r => obtain ⟨k, w, a, d⟩ := r; exact ih (n + 1) (step_good h)
theorem implRunW_l {steps : List V2} {pw ph : Int} {pl : List Int} (hl : steps.length ≤ 40) : ∀ (e K i : Nat) (kn : List Int) (wf : Int) (ag : List V2) (dn : Bool) (n : Int), i + e = steps.length → weaveB pw ph pl kn wf ag dn = true → 0 ≤ n → n + e ≤ 1000 → 7000 + e ≤ K → impl_RunWeaving.l7 K 0 0 [] [] 0 [] false pw ph pl kn wf ag dn n steps steps.length (i : Int) = some (runWO pw ph pl (runW pw ph pl (steps.drop i) kn wf ag dn n)) := by
  intro e
  induction e with
  | zero =>
    intro K i kn wf ag dn n h1 hs h2 h3 h4
    obtain ⟨K, rfl⟩ := succ_of (show 0 < K by omega)
    simp (disch := omega) only [impl_RunWeaving.l7, impl_RunWeaving.b7, if_neg]; rw [List.drop_of_length_le (by omega)]; rfl
  | succ e ih =>
    intro K i kn wf ag dn n h1 hs h2 h3 h4
    obtain ⟨K, rfl⟩ := succ_of (show 0 < K by omega)
    have hi : i < steps.length := by omega
    have hd : steps.drop i = steps[i] :: steps.drop (i + 1) := List.drop_eq_getElem_cons hi
    have hw := (weaveB_iff.1 hs).1
    simp (disch := omega) only [impl_RunWeaving.l7, impl_RunWeaving.b7, if_pos, chk_nat, Option.bind_some, getD_lt hi, implStepW_eq K dn _ _ hw, w64_id]
    rw [hd]; simp only [runW]
    rw [show ((i : Int) + 1) = ((i + 1 : Nat) : Int) by omega]
    cases h : stepW pw ph pl kn wf ag dn steps[i].1 steps[i].2 with
    | none => simp only [outW, Bool.not_true, Bool.not_false, cond_true, cond_false, Bool.true_and, Bool.false_and, Bool.and_true, Bool.and_false, Bool.false_eq_true, Bool.true_or, Bool.or_true, Bool.false_or, Bool.or_false, Bool.or_self, Bool.and_self, decide_true, decide_false, if_true, if_false, not_true, not_false_eq_true, not_true_eq_false, false_or, or_false, true_and, and_true, Bool.not_eq_true, Bool.true_eq_false, reduceCtorEq]; exact ih K (i + 1) kn wf ag dn n (by omega) hs h2 (by omega) (by omega)
    | some r =>
      obtain ⟨k, w, a, d⟩ := r
      simp only [outW, Bool.not_true, Bool.not_false, cond_true, cond_false, Bool.true_and, Bool.false_and, Bool.and_true, Bool.and_false, Bool.false_eq_true, Bool.true_or, Bool.or_true, Bool.false_or, Bool.or_false, Bool.or_self, Bool.and_self, decide_true, decide_false, if_true, if_false, not_true, not_false_eq_true, not_true_eq_false, false_or, or_false, true_and, and_true, Bool.not_eq_true, Bool.true_eq_false, reduceCtorEq]
      exact ih K (i + 1) k w a d (n + 1) (by omega) (step_good h) (by omega) (by omega) (by omega)
theorem specRunW_l {steps : List V2} {pw ph : Int} {pl : List Int} (hl : steps.length ≤ 40) : ∀ (e K i : Nat) (kn : List Int) (wf : Int) (ag : List V2) (dn : Bool) (n : Int), i + e = steps.length → weaveB pw ph pl kn wf ag dn = true → 0 ≤ n → n + e ≤ 1000 → 7000 + e ≤ K → spec_RunWeaving.l7 K steps 0 0 [] [] 0 [] false pw ph pl kn wf ag dn n (i : Int) = some (runWO pw ph pl (runW pw ph pl (steps.drop i) kn wf ag dn n)) := by
  intro e
  induction e with
  | zero =>
    intro K i kn wf ag dn n h1 hs h2 h3 h4
    obtain ⟨K, rfl⟩ := succ_of (show 0 < K by omega)
    simp (disch := omega) only [spec_RunWeaving.l7, spec_RunWeaving.b7, if_neg]; rw [List.drop_of_length_le (by omega)]; rfl
  | succ e ih =>
    intro K i kn wf ag dn n h1 hs h2 h3 h4
    obtain ⟨K, rfl⟩ := succ_of (show 0 < K by omega)
    have hi : i < steps.length := by omega
    have hd : steps.drop i = steps[i] :: steps.drop (i + 1) := List.drop_eq_getElem_cons hi
    have hw := (weaveB_iff.1 hs).1
    simp (disch := omega) only [spec_RunWeaving.l7, spec_RunWeaving.b7, if_pos, chk_nat, Option.bind_some, getD_lt hi, sokStep_eq, w64_id]
    rw [hd]; simp only [runW]
    rw [show ((i : Int) + 1) = ((i + 1 : Nat) : Int) by omega]
    have hno := ih K (i + 1) kn wf ag dn n (by omega) hs h2 (by omega) (by omega)
    cases hv : okStep steps[i].1 steps[i].2 with
    | false =>
      have hn : stepW pw ph pl kn wf ag dn steps[i].1 steps[i].2 = none := by unfold stepW; rw [hv]; cases dn <;> rfl
      rw [hn]; simp only [Bool.not_true, Bool.not_false, cond_true, cond_false, Bool.true_and, Bool.false_and, Bool.and_true, Bool.and_false, Bool.false_eq_true, Bool.true_or, Bool.or_true, Bool.false_or, Bool.or_false, Bool.or_self, Bool.and_self, decide_true, decide_false, if_true, if_false, not_true, not_false_eq_true, not_true_eq_false, false_or, or_false, true_and, and_true, Bool.not_eq_true, Bool.true_eq_false, reduceCtorEq]; exact hno
    | true =>
      obtain ⟨ys, c, e1, e2⟩ := specMake_eq K dn _ _ hw hv (by omega)
      simp only [Bool.not_true, Bool.not_false, cond_true, cond_false, Bool.true_and, Bool.false_and, Bool.and_true, Bool.and_false, Bool.false_eq_true, Bool.true_or, Bool.or_true, Bool.false_or, Bool.or_false, Bool.or_self, Bool.and_self, decide_true, decide_false, if_true, if_false, not_true, not_false_eq_true, not_true_eq_false, false_or, or_false, true_and, and_true, Bool.not_eq_true, Bool.true_eq_false, reduceCtorEq]
      rw [e1]; simp only [Option.bind_some]
      cases h : stepW pw ph pl kn wf ag dn steps[i].1 steps[i].2 with
      | none => rw [h] at e2; dsimp only at e2; rw [e2]; simp only [Bool.not_true, Bool.not_false, cond_true, cond_false, Bool.true_and, Bool.false_and, Bool.and_true, Bool.and_false, Bool.false_eq_true, Bool.true_or, Bool.or_true, Bool.false_or, Bool.or_false, Bool.or_self, Bool.and_self, decide_true, decide_false, if_true, if_false, not_true, not_false_eq_true, not_true_eq_false, false_or, or_false, true_and, and_true, Bool.not_eq_true, Bool.true_eq_false, reduceCtorEq]; exact hno
      | some r =>
        obtain ⟨k, w, a, d⟩ := r
        rw [h] at e2; dsimp only at e2; obtain ⟨rfl, rfl⟩ := e2
        simp only [Bool.not_true, Bool.not_false, cond_true, cond_false, Bool.true_and, Bool.false_and, Bool.and_true, Bool.and_false, Bool.false_eq_true, Bool.true_or, Bool.or_true, Bool.false_or, Bool.or_false, Bool.or_self, Bool.and_self, decide_true, decide_false, if_true, if_false, not_true, not_false_eq_true, not_true_eq_false, false_or, or_false, true_and, and_true, Bool.not_eq_true, Bool.true_eq_false, reduceCtorEq]
        exact ih K (i + 1) k w a d (n + 1) (by omega) (step_good h) (by omega) (by omega) (by omega)
theorem runW_both (pw ph : Int) (pl kn : List Int) (wf : Int) (ag : List V2) (dn : Bool) (steps : List V2) (h1 : pl.length ≤ 100000000000000) (h2 : kn.length ≤ 100000000000000) (h3 : ag.length ≤ 100000000000000) : (weaveB pw ph pl kn wf ag dn = true ∧ steps.length ≤ 40 ∧ (∀ k, pl.length + kn.length + ag.length + 10000 ≤ k → spec_RunWeaving.f k pw ph pl kn wf ag dn steps = some (runWO pw ph pl (runW pw ph pl steps kn wf ag dn 0))) ∧ (∀ k, pl.length + kn.length + ag.length + 10000 ≤ k → impl_RunWeaving.f k pw ph pl kn wf ag dn steps = some (runWO pw ph pl (runW pw ph pl steps kn wf ag dn 0)))) ∨ ((∀ k, pl.length + kn.length + ag.length + 10000 ≤ k → spec_RunWeaving.f k pw ph pl kn wf ag dn steps = some (0, 0, [], [], 0, [], false, 0, false)) ∧ (∀ k, pl.length + kn.length + ag.length + 10000 ≤ k → impl_RunWeaving.f k pw ph pl kn wf ag dn steps = some (0, 0, [], [], 0, [], false, 0, false))) := by
  have hS : ∀ k, pl.length + kn.length + ag.length + 10000 ≤ k → spec_l19Good.f k pw ph pl kn wf ag dn = some (weaveB pw ph pl kn wf ag dn) := fun k hk => sgood_eq k pw ph pl kn wf ag dn h1 h2 (by omega)
  have hI : ∀ k, pl.length + kn.length + ag.length + 10000 ≤ k → impl_IsWeaving.f k pw ph pl kn wf ag dn = some (weaveB pw ph pl kn wf ag dn) := fun k hk => igood_eq k pw ph pl kn wf ag dn h1 h2 h3 (by omega)
  by_cases hs : weaveB pw ph pl kn wf ag dn = true
  · have hw := (weaveB_iff.1 hs).1
    obtain ⟨b1, b2, b3, b4, b5, b6⟩ := hw.bds
    have h10 := hw.ag10
    by_cases h40 : steps.length ≤ 40
    · refine .inl ⟨hs, h40, fun k hk => ?_, fun k hk => ?_⟩
      · unfold spec_RunWeaving.f spec_RunWeaving.m; rw [hS k hk, hs]
        simp (disch := omega) only [Option.bind_some, Bool.not_true, Bool.not_false, cond_true, cond_false, Bool.true_and, Bool.false_and, Bool.and_true, Bool.and_false, Bool.false_eq_true, Bool.true_or, Bool.or_true, Bool.false_or, Bool.or_false, Bool.or_self, Bool.and_self, decide_true, decide_false, if_true, if_false, not_true, not_false_eq_true, not_true_eq_false, false_or, or_false, true_and, and_true, Bool.not_eq_true, Bool.true_eq_false, reduceCtorEq, if_neg, wown_eq]
        exact specRunW_l h40 steps.length k 0 _ _ _ _ 0 (by omega) hs (by omega) (by omega) (by omega)
      · unfold impl_RunWeaving.f impl_RunWeaving.m; rw [hI k hk, hs]
        simp (disch := omega) only [Option.bind_some, Bool.not_true, Bool.not_false, cond_true, cond_false, Bool.true_and, Bool.false_and, Bool.and_true, Bool.and_false, Bool.false_eq_true, Bool.true_or, Bool.or_true, Bool.false_or, Bool.or_false, Bool.or_self, Bool.and_self, decide_true, decide_false, if_true, if_false, not_true, not_false_eq_true, not_true_eq_false, false_or, or_false, true_and, and_true, Bool.not_eq_true, Bool.true_eq_false, reduceCtorEq, if_neg, wcopied_eq]
        exact implRunW_l h40 steps.length k 0 _ _ _ _ 0 (by omega) hs (by omega) (by omega) (by omega)
    · refine .inr ⟨fun k hk => ?_, fun k hk => ?_⟩
      · unfold spec_RunWeaving.f spec_RunWeaving.m; rw [hS k hk, hs]
        simp (disch := omega) only [Option.bind_some, Bool.not_true, Bool.not_false, cond_true, cond_false, Bool.true_and, Bool.false_and, Bool.and_true, Bool.and_false, Bool.false_eq_true, Bool.true_or, Bool.or_true, Bool.false_or, Bool.or_false, Bool.or_self, Bool.and_self, decide_true, decide_false, if_true, if_false, not_true, not_false_eq_true, not_true_eq_false, false_or, or_false, true_and, and_true, Bool.not_eq_true, Bool.true_eq_false, reduceCtorEq, if_pos]
      · unfold impl_RunWeaving.f impl_RunWeaving.m; rw [hI k hk, hs]
        simp (disch := omega) only [Option.bind_some, Bool.not_true, Bool.not_false, cond_true, cond_false, Bool.true_and, Bool.false_and, Bool.and_true, Bool.and_false, Bool.false_eq_true, Bool.true_or, Bool.or_true, Bool.false_or, Bool.or_false, Bool.or_self, Bool.and_self, decide_true, decide_false, if_true, if_false, not_true, not_false_eq_true, not_true_eq_false, false_or, or_false, true_and, and_true, Bool.not_eq_true, Bool.true_eq_false, reduceCtorEq, if_pos]
  · refine .inr ⟨fun k hk => ?_, fun k hk => ?_⟩
    · unfold spec_RunWeaving.f spec_RunWeaving.m; rw [hS k hk, notB hs]; rfl
    · unfold impl_RunWeaving.f impl_RunWeaving.m; rw [hI k hk, notB hs]; rfl
theorem runW_len {pw ph : Int} {pl : List Int} (xs : List V2) {kn : List Int} {wf : Int} {ag : List V2} {dn : Bool} (n : Int) (hs : weaveB pw ph pl kn wf ag dn = true) : pl.length ≤ 64 ∧ (runW pw ph pl xs kn wf ag dn n).1.length ≤ 64 ∧ (runW pw ph pl xs kn wf ag dn n).2.2.1.length ≤ 64 := by
  have hw := (weaveB_iff.1 (runW_good xs n hs)).1
  obtain ⟨b1, b2, b3, b4, b5, b6⟩ := hw.bds
  have h10 := hw.ag10
  omega
theorem wovenChart_eq (k : Nat) {pw ph : Int} {pl kn : List Int} {wf : Int} {ag : List V2} (hg : weaveB pw ph pl kn wf ag true = true) (hk : 6000 ≤ k) : impl_WovenChart.f k pw ph pl kn wf ag true = some (pw, ph, kn, true) := by
  have hw := (weaveB_iff.1 hg).1
  obtain ⟨b1, b2, b3, b4, b5, b6⟩ := hw.bds
  have h10 := hw.ag10
  unfold impl_WovenChart.f impl_WovenChart.m
  rw [igood_eq k pw ph pl kn wf ag true (by omega) (by omega) (by omega) (by omega), hg]; simp only [Option.bind_some, Bool.not_true, Bool.not_false, cond_true, cond_false, Bool.true_and, Bool.false_and, Bool.and_true, Bool.and_false, Bool.false_eq_true, Bool.true_or, Bool.or_true, Bool.false_or, Bool.or_false, Bool.or_self, Bool.and_self, decide_true, decide_false, if_true, if_false, not_true, not_false_eq_true, not_true_eq_false, false_or, or_false, true_and, and_true, Bool.not_eq_true, Bool.true_eq_false, reduceCtorEq]
  rw [cloneI_eq k kn (by omega)]; rfl
/-! ### A carpet that is done -/
theorem mis_of_nil {pl kn : List Int} {ag : List V2} : ∀ (d i : Nat), misFrom pl kn ag i d = [] → ∀ j, i ≤ j → j < i + d → kn.getD j 0 = pl.getD j 0 ∨ agr ag (j : Int) = true := by
  intro d
  induction d with
  | zero => intro i _ j h1 h2; omega
  | succ d ih =>
    intro i h j h1 h2
    unfold misFrom at h
    by_cases e : kn.getD i 0 = pl.getD i 0
    · rw [if_pos e] at h
      rcases Nat.lt_or_ge i j with h3 | h3
      · exact ih (i + 1) h j h3 (by omega)
      · have : j = i := by omega
        subst this; exact .inl e
    · rw [if_neg e] at h
      by_cases e2 : agr ag (i : Int) = true
      · rw [if_pos e2] at h
        rcases Nat.lt_or_ge i j with h3 | h3
        · exact ih (i + 1) h j h3 (by omega)
        · have : j = i := by omega
          subst this; exact .inr e2
      · rw [if_neg e2] at h; cases h
theorem vInts_self (k : Nat) (c : List Int) (hl : c.length ≤ 1000) (hk : 1100 ≤ k) : laws_vInts.f k c c = some true := by
  unfold laws_vInts.f laws_vInts.m
  have h := (all_loop (L := fun k i => laws_vInts.l6 k c c (i : Int)) (n := c.length) (K0 := 20) (ok := fun _ => true) (f := some false) (fun k i hk hi => ?_)) c.length k 0 (by omega) (by omega)
  · rw [show ((0 : Nat) : Int) = 0 from rfl] at h
    simp only [Bool.not_true, Bool.not_false, cond_true, cond_false, Bool.true_and, Bool.false_and, Bool.and_true, Bool.and_false, Bool.false_eq_true, Bool.true_or, Bool.or_true, Bool.false_or, Bool.or_false, Bool.or_self, Bool.and_self, decide_true, decide_false, if_true, if_false, not_true, not_false_eq_true, not_true_eq_false, false_or, or_false, true_and, and_true, Bool.not_eq_true, Bool.true_eq_false, reduceCtorEq]
    exact h.1 (some true) (fun k hk => by simp (disch := omega) only [laws_vInts.l6, laws_vInts.b6, if_neg]) (fun _ _ _ => rfl)
  · simp (disch := omega) only [laws_vInts.l6, laws_vInts.b6, if_pos, chk_nat, Option.bind_some, w64_id, Bool.not_true, Bool.not_false, cond_true, cond_false, Bool.true_and, Bool.false_and, Bool.and_true, Bool.and_false, Bool.false_eq_true, Bool.true_or, Bool.or_true, Bool.false_or, Bool.or_false, Bool.or_self, Bool.and_self, decide_true, decide_false, if_true, if_false, not_true, not_false_eq_true, not_true_eq_false, false_or, or_false, true_and, and_true, Bool.not_eq_true, Bool.true_eq_false, reduceCtorEq, Int.natCast_add, Int.cast_ofNat_Int]
theorem spec_l1Cur_weaveStep_215 (k : Nat) {l : List Int} {a : Int} (s pw ph : Int) (pl kn : List Int) (wf : Int) (ag : List V2) (dn : Bool) (hb : By l) (h : 0 ≤ a ∧ a ≤ 200000000000) (hk : 10 ≤ k) : Yl (spec_l1Cur_weaveStep_2.l15 k l a s pw ph pl kn wf ag dn pw ph wf dn 0 0 (kn.length : Int)) fun r => r.2.2.1 = l ∧ r.2.2.2.2.2 = (pl, kn, ag) ∧ (a ≤ r.2.2.2.1 ∧ r.2.2.2.1 ≤ a + 2) := by
  obtain ⟨k, rfl⟩ := succ_of (show 0 < k by omega)
  simp only [spec_l1Cur_weaveStep_2.l15, spec_l1Cur_weaveStep_2.b15]
  refine Yl.ite (fun _ => ?_) fun _ => Yl.ret ⟨rfl, rfl, by dsimp only; omega⟩
  rw [chk_nat (by omega)]; simp only [Option.bind_some]
  refine Yl.bind (most_ok _ _ _) ?_
  rintro r _
  exact Yl.ret ⟨rfl, rfl, by dsimp only; omega⟩
theorem spec_l1Cur_weaveStep_212 (k : Nat) {l : List Int} {a : Int} (s pw ph : Int) (pl kn : List Int) (wf : Int) (ag : List V2) (dn : Bool) (hb : By l) (h : 0 ≤ a ∧ a ≤ 100000000000) (hk : 12 ≤ k) : Yl (spec_l1Cur_weaveStep_2.l12 k l a s pw ph pl kn wf ag dn pw ph wf dn 0 0 (kn.length : Int)) fun r => r.2.2.1 = l ∧ r.2.2.2.2.2 = (pl, kn, ag) ∧ (a ≤ r.2.2.2.1 ∧ r.2.2.2.1 ≤ a + 8) := by
  obtain ⟨k, rfl⟩ := succ_of (show 0 < k by omega)
  simp only [spec_l1Cur_weaveStep_2.l12, spec_l1Cur_weaveStep_2.b12]
  (refine Yl.bind (pick_ok _ _ _ (by assumption) (by omega) (by omega)) ?_; rintro ⟨vq, lq, aq, sq⟩ ⟨eq1, eq2, eq3, eq4, eq5, eq6⟩; dsimp only at *; subst eq1)
  refine Yl.ite (fun _ => ?_) fun _ => ?_
  · (refine Yl.bind (among_any _ _ (by simp) (by assumption) (by omega) (by omega)) ?_; rintro ⟨vq, lq, aq, sq, xq⟩ ⟨eq1, eq2, eq3, eq4⟩; dsimp only at *; subst eq1; subst eq2)
    exact Yl.ret ⟨rfl, rfl, by dsimp only; omega⟩
  refine Yl.ite (fun _ => ?_) fun _ => ?_
  · refine Yl.ite (fun _ => ?_) fun _ => ?_
    · (refine Yl.bind (pick_ok _ _ _ (by assumption) (by omega) (by omega)) ?_; rintro ⟨vq, lq, aq, sq⟩ ⟨eq1, eq2, eq3, eq4, eq5, eq6⟩; dsimp only at *; subst eq1)
      exact Yl.ret ⟨rfl, rfl, by dsimp only; omega⟩
    · exact (spec_l1Cur_weaveStep_215 k _ pw ph pl kn wf ag dn (by assumption) (by omega) (by omega)).mono fun r hr => ⟨hr.1, hr.2.1, by omega⟩
  refine Yl.ite (fun _ => ?_) fun _ => ?_
  · (refine Yl.bind (pick_ok _ _ _ (by assumption) (by omega) (by omega)) ?_; rintro ⟨vq, lq, aq, sq⟩ ⟨eq1, eq2, eq3, eq4, eq5, eq6⟩; dsimp only at *; subst eq1)
    exact Yl.ret ⟨rfl, rfl, by dsimp only; omega⟩
  · exact (spec_l1Cur_weaveStep_215 k _ pw ph pl kn wf ag dn (by assumption) (by omega) (by omega)).mono fun r hr => ⟨hr.1, hr.2.1, by omega⟩
theorem spec_l1Cur_weaveStep_29 (k : Nat) {l : List Int} {a : Int} (s pw ph : Int) (pl kn : List Int) (wf : Int) (ag : List V2) (dn : Bool) (b : Bool) (hb : By l) (h : 0 ≤ a ∧ a ≤ 10000000000) (hk : 14 ≤ k) : Yl (spec_l1Cur_weaveStep_2.l9 k l a s pw ph pl kn wf ag dn pw ph wf dn 0 0 (kn.length : Int) b) fun r => r.2.2.1 = l ∧ r.2.2.2.2.2 = (pl, kn, ag) ∧ (a ≤ r.2.2.2.1 ∧ r.2.2.2.1 ≤ a + 12) := by
  obtain ⟨k, rfl⟩ := succ_of (show 0 < k by omega)
  simp only [spec_l1Cur_weaveStep_2.l9, spec_l1Cur_weaveStep_2.b9]
  refine Yl.cond (fun _ => ?_) fun _ => ?_
  · (refine Yl.bind (one_ok _ _ _ (by assumption) (by omega) (by omega)) ?_; rintro ⟨vq, lq, aq, sq⟩ ⟨eq1, eq2, eq3⟩; dsimp only at *; subst eq1)
    refine Yl.cond (fun _ => Yl.ret ⟨rfl, rfl, by dsimp only; omega⟩) fun _ => ?_
    exact (spec_l1Cur_weaveStep_212 k _ pw ph pl kn wf ag dn (by assumption) (by omega) (by omega)).mono fun r hr => ⟨hr.1, hr.2.1, by omega⟩
  · exact (spec_l1Cur_weaveStep_212 k _ pw ph pl kn wf ag dn (by assumption) (by omega) (by omega)).mono fun r hr => ⟨hr.1, hr.2.1, by omega⟩
theorem spec_l1Cur_weaveStep_26 (k : Nat) {l : List Int} {a : Int} (s pw ph : Int) (pl kn : List Int) (wf : Int) (ag : List V2) (dn : Bool) (b : Bool) (hb : By l) (h : 0 ≤ a ∧ a ≤ 1000000000) (hkn : kn.length ≤ 1000000) (hk : 16 ≤ k) : Yl (spec_l1Cur_weaveStep_2.l6 k l a s pw ph pl kn wf ag dn pw ph wf dn 0 0 (kn.length : Int) b) fun r => r.2.2.1 = l ∧ r.2.2.2.2.2 = (pl, kn, ag) ∧ (a ≤ r.2.2.2.1 ∧ r.2.2.2.1 ≤ a + 16) := by
  obtain ⟨k, rfl⟩ := succ_of (show 0 < k by omega)
  simp only [spec_l1Cur_weaveStep_2.l6, spec_l1Cur_weaveStep_2.b6]
  have fin : ∀ {l : List Int} {a : Int} (s : Int), By l → 0 ≤ a ∧ a ≤ 2000000000 → Yl (spec_l1Cur_weaveStep_2.l9 k l a s pw ph pl kn wf ag dn pw ph wf dn 0 0 (kn.length : Int) b) fun r => r.2.2.1 = l ∧ r.2.2.2.2.2 = (pl, kn, ag) ∧ (a ≤ r.2.2.2.1 ∧ r.2.2.2.1 ≤ a + 12) := fun s hb h => spec_l1Cur_weaveStep_29 k s pw ph pl kn wf ag dn b hb (by omega) (by omega)
  refine Yl.ite (fun _ => ?_) fun _ => (fin _ (by assumption) (by omega)).mono fun r hr => ⟨hr.1, hr.2.1, by omega⟩
  refine Yl.ite (fun _ => ?_) fun _ => (fin _ (by assumption) (by omega)).mono fun r hr => ⟨hr.1, hr.2.1, by omega⟩
  rw [w64_id (by omega), chk_int (by omega), chk_int (by omega)]; simp only [Option.bind_some]
  refine Yl.ite (fun _ => ?_) fun _ => (fin _ (by assumption) (by omega)).mono fun r hr => ⟨hr.1, hr.2.1, by omega⟩
  (refine Yl.bind (one_ok _ _ _ (by assumption) (by omega) (by omega)) ?_; rintro ⟨vq, lq, aq, sq⟩ ⟨eq1, eq2, eq3⟩; dsimp only at *; subst eq1)
  refine Yl.cond (fun _ => ?_) fun _ => (fin _ (by assumption) (by omega)).mono fun r hr => ⟨hr.1, hr.2.1, by omega⟩
  (refine Yl.bind (among_any _ _ (by simp) (by assumption) (by omega) (by omega)) ?_; rintro ⟨vq, lq, aq, sq, xq⟩ ⟨eq1, eq2, eq3, eq4⟩; dsimp only at *; subst eq1; subst eq2)
  exact Yl.ret ⟨rfl, rfl, by dsimp only; omega⟩
theorem spec_l1Cur_weaveStep_22 (k : Nat) {l : List Int} {a : Int} (s pw ph : Int) (pl kn : List Int) (wf : Int) (ag : List V2) (dn : Bool) (b : Bool) (hb : By l) (h : 0 ≤ a ∧ a ≤ 100000000) (hkn : kn.length ≤ 1000000) (hk : 18 ≤ k) : Yl (spec_l1Cur_weaveStep_2.l2 k l a s pw ph pl kn wf ag dn pw ph wf dn 0 0 (kn.length : Int) b) fun r => r.2.2.1 = l ∧ r.2.2.2.2.2 = (pl, kn, ag) ∧ (a ≤ r.2.2.2.1 ∧ r.2.2.2.1 ≤ a + 30) := by
  obtain ⟨k, rfl⟩ := succ_of (show 0 < k by omega)
  simp only [spec_l1Cur_weaveStep_2.l2, spec_l1Cur_weaveStep_2.b2]
  (refine Yl.bind (one_ok _ _ _ (by assumption) (by omega) (by omega)) ?_; rintro ⟨vq, lq, aq, sq⟩ ⟨eq1, eq2, eq3⟩; dsimp only at *; subst eq1)
  refine Yl.cond (fun _ => ?_) fun _ => ?_
  · (refine Yl.bind (among_any _ _ (by simp) (by assumption) (by omega) (by omega)) ?_; rintro ⟨vq, lq, aq, sq, xq⟩ ⟨eq1, eq2, eq3, eq4⟩; dsimp only at *; subst eq1; subst eq2)
    (refine Yl.bind (among_any _ _ (by simp) (by assumption) (by omega) (by omega)) ?_; rintro ⟨vq, lq, aq, sq, xq⟩ ⟨eq1, eq2, eq3, eq4⟩; dsimp only at *; subst eq1; subst eq2)
    exact Yl.ret ⟨rfl, rfl, by dsimp only; omega⟩
  have fin : ∀ {l : List Int} {a : Int} (s : Int), By l → 0 ≤ a ∧ a ≤ 200000000 → Yl (spec_l1Cur_weaveStep_2.l6 k l a s pw ph pl kn wf ag dn pw ph wf dn 0 0 (kn.length : Int) b) fun r => r.2.2.1 = l ∧ r.2.2.2.2.2 = (pl, kn, ag) ∧ (a ≤ r.2.2.2.1 ∧ r.2.2.2.1 ≤ a + 16) := fun s hb h => spec_l1Cur_weaveStep_26 k s pw ph pl kn wf ag dn b hb (by omega) hkn (by omega)
  refine Yl.ite (fun _ => ?_) fun _ => (fin _ (by assumption) (by omega)).mono fun r hr => ⟨hr.1, hr.2.1, by omega⟩
  refine Yl.ite (fun _ => ?_) fun _ => (fin _ (by assumption) (by omega)).mono fun r hr => ⟨hr.1, hr.2.1, by omega⟩
  (refine Yl.bind (one_ok _ _ _ (by assumption) (by omega) (by omega)) ?_; rintro ⟨vq, lq, aq, sq⟩ ⟨eq1, eq2, eq3⟩; dsimp only at *; subst eq1)
  refine Yl.cond (fun _ => Yl.ret ⟨rfl, rfl, by dsimp only; omega⟩) fun _ => (fin _ (by assumption) (by omega)).mono fun r hr => ⟨hr.1, hr.2.1, by omega⟩
theorem spec_l1Cur_weaveStep_2_ok (k : Nat) {l : List Int} {a : Int} (s pw ph : Int) (pl kn : List Int) (wf : Int) (ag : List V2) (dn : Bool) (hb : By l) (h : 0 ≤ a ∧ a ≤ 100000000) (hkn : kn.length ≤ 1000000) (hk : 20 ≤ k) : Yl (spec_l1Cur_weaveStep_2.f k l a s pw ph pl kn wf ag dn) fun r => r.2.2.1 = l ∧ r.2.2.2.2.2 = (pl, kn, ag) ∧ (a ≤ r.2.2.2.1 ∧ r.2.2.2.1 ≤ a + 30) := by
  unfold spec_l1Cur_weaveStep_2.f spec_l1Cur_weaveStep_2.m
  refine Yl.ite (fun _ => ?_) fun _ => ?_ <;> exact spec_l1Cur_weaveStep_22 k s pw ph pl kn wf ag dn _ hb h hkn (by omega)
theorem spec_l1Cur_weaveStep15 (k : Nat) {l : List Int} {a : Int} (s pw ph : Int) (pl kn : List Int) (wf : Int) (ag : List V2) (dn : Bool) (hb : By l) (h : 0 ≤ a ∧ a ≤ 200000000000) (hk : 10 ≤ k) : Yl (spec_l1Cur_weaveStep.l15 k l a s pw ph pl kn wf ag dn  0 0 (kn.length : Int)) fun r => r.2.2.1 = l ∧  (a ≤ r.2.2.2.1 ∧ r.2.2.2.1 ≤ a + 2) := by
  obtain ⟨k, rfl⟩ := succ_of (show 0 < k by omega)
  simp only [spec_l1Cur_weaveStep.l15, spec_l1Cur_weaveStep.b15]
  refine Yl.ite (fun _ => ?_) fun _ => Yl.ret ⟨rfl,  by dsimp only; omega⟩
  rw [chk_nat (by omega)]; simp only [Option.bind_some]
  refine Yl.bind (most_ok _ _ _) ?_
  rintro r _
  exact Yl.ret ⟨rfl,  by dsimp only; omega⟩
theorem spec_l1Cur_weaveStep12 (k : Nat) {l : List Int} {a : Int} (s pw ph : Int) (pl kn : List Int) (wf : Int) (ag : List V2) (dn : Bool) (hb : By l) (h : 0 ≤ a ∧ a ≤ 100000000000) (hk : 12 ≤ k) : Yl (spec_l1Cur_weaveStep.l12 k l a s pw ph pl kn wf ag dn  0 0 (kn.length : Int)) fun r => r.2.2.1 = l ∧  (a ≤ r.2.2.2.1 ∧ r.2.2.2.1 ≤ a + 8) := by
  obtain ⟨k, rfl⟩ := succ_of (show 0 < k by omega)
  simp only [spec_l1Cur_weaveStep.l12, spec_l1Cur_weaveStep.b12]
  (refine Yl.bind (pick_ok _ _ _ (by assumption) (by omega) (by omega)) ?_; rintro ⟨vq, lq, aq, sq⟩ ⟨eq1, eq2, eq3, eq4, eq5, eq6⟩; dsimp only at *; subst eq1)
  refine Yl.ite (fun _ => ?_) fun _ => ?_
  · (refine Yl.bind (among_any _ _ (by simp) (by assumption) (by omega) (by omega)) ?_; rintro ⟨vq, lq, aq, sq, xq⟩ ⟨eq1, eq2, eq3, eq4⟩; dsimp only at *; subst eq1; subst eq2)
    exact Yl.ret ⟨rfl,  by dsimp only; omega⟩
  refine Yl.ite (fun _ => ?_) fun _ => ?_
  · refine Yl.ite (fun _ => ?_) fun _ => ?_
    · (refine Yl.bind (pick_ok _ _ _ (by assumption) (by omega) (by omega)) ?_; rintro ⟨vq, lq, aq, sq⟩ ⟨eq1, eq2, eq3, eq4, eq5, eq6⟩; dsimp only at *; subst eq1)
      exact Yl.ret ⟨rfl,  by dsimp only; omega⟩
    · exact (spec_l1Cur_weaveStep15 k _ pw ph pl kn wf ag dn (by assumption) (by omega) (by omega)).mono fun r hr => ⟨hr.1,  by omega⟩
  refine Yl.ite (fun _ => ?_) fun _ => ?_
  · (refine Yl.bind (pick_ok _ _ _ (by assumption) (by omega) (by omega)) ?_; rintro ⟨vq, lq, aq, sq⟩ ⟨eq1, eq2, eq3, eq4, eq5, eq6⟩; dsimp only at *; subst eq1)
    exact Yl.ret ⟨rfl,  by dsimp only; omega⟩
  · exact (spec_l1Cur_weaveStep15 k _ pw ph pl kn wf ag dn (by assumption) (by omega) (by omega)).mono fun r hr => ⟨hr.1,  by omega⟩
theorem spec_l1Cur_weaveStep9 (k : Nat) {l : List Int} {a : Int} (s pw ph : Int) (pl kn : List Int) (wf : Int) (ag : List V2) (dn : Bool) (b : Bool) (hb : By l) (h : 0 ≤ a ∧ a ≤ 10000000000) (hk : 14 ≤ k) : Yl (spec_l1Cur_weaveStep.l9 k l a s pw ph pl kn wf ag dn  0 0 (kn.length : Int) b) fun r => r.2.2.1 = l ∧  (a ≤ r.2.2.2.1 ∧ r.2.2.2.1 ≤ a + 12) := by
  obtain ⟨k, rfl⟩ := succ_of (show 0 < k by omega)
  simp only [spec_l1Cur_weaveStep.l9, spec_l1Cur_weaveStep.b9]
  refine Yl.cond (fun _ => ?_) fun _ => ?_
  · (refine Yl.bind (one_ok _ _ _ (by assumption) (by omega) (by omega)) ?_; rintro ⟨vq, lq, aq, sq⟩ ⟨eq1, eq2, eq3⟩; dsimp only at *; subst eq1)
    refine Yl.cond (fun _ => Yl.ret ⟨rfl,  by dsimp only; omega⟩) fun _ => ?_
    exact (spec_l1Cur_weaveStep12 k _ pw ph pl kn wf ag dn (by assumption) (by omega) (by omega)).mono fun r hr => ⟨hr.1,  by omega⟩
  · exact (spec_l1Cur_weaveStep12 k _ pw ph pl kn wf ag dn (by assumption) (by omega) (by omega)).mono fun r hr => ⟨hr.1,  by omega⟩
theorem spec_l1Cur_weaveStep6 (k : Nat) {l : List Int} {a : Int} (s pw ph : Int) (pl kn : List Int) (wf : Int) (ag : List V2) (dn : Bool) (b : Bool) (hb : By l) (h : 0 ≤ a ∧ a ≤ 1000000000) (hkn : kn.length ≤ 1000000) (hk : 16 ≤ k) : Yl (spec_l1Cur_weaveStep.l6 k l a s pw ph pl kn wf ag dn  0 0 (kn.length : Int) b) fun r => r.2.2.1 = l ∧  (a ≤ r.2.2.2.1 ∧ r.2.2.2.1 ≤ a + 16) := by
  obtain ⟨k, rfl⟩ := succ_of (show 0 < k by omega)
  simp only [spec_l1Cur_weaveStep.l6, spec_l1Cur_weaveStep.b6]
  have fin : ∀ {l : List Int} {a : Int} (s : Int), By l → 0 ≤ a ∧ a ≤ 2000000000 → Yl (spec_l1Cur_weaveStep.l9 k l a s pw ph pl kn wf ag dn  0 0 (kn.length : Int) b) fun r => r.2.2.1 = l ∧  (a ≤ r.2.2.2.1 ∧ r.2.2.2.1 ≤ a + 12) := fun s hb h => spec_l1Cur_weaveStep9 k s pw ph pl kn wf ag dn b hb (by omega) (by omega)
  refine Yl.ite (fun _ => ?_) fun _ => (fin _ (by assumption) (by omega)).mono fun r hr => ⟨hr.1,  by omega⟩
  refine Yl.ite (fun _ => ?_) fun _ => (fin _ (by assumption) (by omega)).mono fun r hr => ⟨hr.1,  by omega⟩
  rw [w64_id (by omega), chk_int (by omega), chk_int (by omega)]; simp only [Option.bind_some]
  refine Yl.ite (fun _ => ?_) fun _ => (fin _ (by assumption) (by omega)).mono fun r hr => ⟨hr.1,  by omega⟩
  (refine Yl.bind (one_ok _ _ _ (by assumption) (by omega) (by omega)) ?_; rintro ⟨vq, lq, aq, sq⟩ ⟨eq1, eq2, eq3⟩; dsimp only at *; subst eq1)
  refine Yl.cond (fun _ => ?_) fun _ => (fin _ (by assumption) (by omega)).mono fun r hr => ⟨hr.1,  by omega⟩
  (refine Yl.bind (among_any _ _ (by simp) (by assumption) (by omega) (by omega)) ?_; rintro ⟨vq, lq, aq, sq, xq⟩ ⟨eq1, eq2, eq3, eq4⟩; dsimp only at *; subst eq1; subst eq2)
  exact Yl.ret ⟨rfl,  by dsimp only; omega⟩
theorem spec_l1Cur_weaveStep2 (k : Nat) {l : List Int} {a : Int} (s pw ph : Int) (pl kn : List Int) (wf : Int) (ag : List V2) (dn : Bool) (b : Bool) (hb : By l) (h : 0 ≤ a ∧ a ≤ 100000000) (hkn : kn.length ≤ 1000000) (hk : 18 ≤ k) : Yl (spec_l1Cur_weaveStep.l2 k l a s pw ph pl kn wf ag dn  0 0 (kn.length : Int) b) fun r => r.2.2.1 = l ∧  (a ≤ r.2.2.2.1 ∧ r.2.2.2.1 ≤ a + 30) := by
  obtain ⟨k, rfl⟩ := succ_of (show 0 < k by omega)
  simp only [spec_l1Cur_weaveStep.l2, spec_l1Cur_weaveStep.b2]
  (refine Yl.bind (one_ok _ _ _ (by assumption) (by omega) (by omega)) ?_; rintro ⟨vq, lq, aq, sq⟩ ⟨eq1, eq2, eq3⟩; dsimp only at *; subst eq1)
  refine Yl.cond (fun _ => ?_) fun _ => ?_
  · (refine Yl.bind (among_any _ _ (by simp) (by assumption) (by omega) (by omega)) ?_; rintro ⟨vq, lq, aq, sq, xq⟩ ⟨eq1, eq2, eq3, eq4⟩; dsimp only at *; subst eq1; subst eq2)
    (refine Yl.bind (among_any _ _ (by simp) (by assumption) (by omega) (by omega)) ?_; rintro ⟨vq, lq, aq, sq, xq⟩ ⟨eq1, eq2, eq3, eq4⟩; dsimp only at *; subst eq1; subst eq2)
    exact Yl.ret ⟨rfl,  by dsimp only; omega⟩
  have fin : ∀ {l : List Int} {a : Int} (s : Int), By l → 0 ≤ a ∧ a ≤ 200000000 → Yl (spec_l1Cur_weaveStep.l6 k l a s pw ph pl kn wf ag dn  0 0 (kn.length : Int) b) fun r => r.2.2.1 = l ∧  (a ≤ r.2.2.2.1 ∧ r.2.2.2.1 ≤ a + 16) := fun s hb h => spec_l1Cur_weaveStep6 k s pw ph pl kn wf ag dn b hb (by omega) hkn (by omega)
  refine Yl.ite (fun _ => ?_) fun _ => (fin _ (by assumption) (by omega)).mono fun r hr => ⟨hr.1,  by omega⟩
  refine Yl.ite (fun _ => ?_) fun _ => (fin _ (by assumption) (by omega)).mono fun r hr => ⟨hr.1,  by omega⟩
  (refine Yl.bind (one_ok _ _ _ (by assumption) (by omega) (by omega)) ?_; rintro ⟨vq, lq, aq, sq⟩ ⟨eq1, eq2, eq3⟩; dsimp only at *; subst eq1)
  refine Yl.cond (fun _ => Yl.ret ⟨rfl,  by dsimp only; omega⟩) fun _ => (fin _ (by assumption) (by omega)).mono fun r hr => ⟨hr.1,  by omega⟩
theorem spec_l1Cur_weaveStep_ok (k : Nat) {l : List Int} {a : Int} (s pw ph : Int) (pl kn : List Int) (wf : Int) (ag : List V2) (dn : Bool) (hb : By l) (h : 0 ≤ a ∧ a ≤ 100000000) (hkn : kn.length ≤ 1000000) (hk : 20 ≤ k) : Yl (spec_l1Cur_weaveStep.f k l a s pw ph pl kn wf ag dn) fun r => r.2.2.1 = l ∧  (a ≤ r.2.2.2.1 ∧ r.2.2.2.1 ≤ a + 30) := by
  unfold spec_l1Cur_weaveStep.f spec_l1Cur_weaveStep.m
  refine Yl.ite (fun _ => ?_) fun _ => ?_ <;> exact spec_l1Cur_weaveStep2 k s pw ph pl kn wf ag dn _ hb h hkn (by omega)
theorem plain_l (w h : Nat) (hw : w ≤ 16) (hh : h ≤ 16) : ∀ (d k i : Nat) (l : List Int) (a s : Int) (kn : List Int), i + d = w * h → kn.length = i → (∀ x ∈ kn, 0 ≤ x ∧ x ≤ 5) → By l → 0 ≤ a ∧ a + 4 * d ≤ 1000000000 → 20 + d ≤ k → Yl (spec_l1Cur_plain.l4 k l a s w h 0 0 [] w h kn (i : Int)) fun r => r.1 = (w : Int) ∧ r.2.1 = (h : Int) ∧ r.2.2.2.1 = l ∧ (∀ x ∈ r.2.2.1, 0 ≤ x ∧ x ≤ 5) ∧ (r.2.2.1.length = w * h ∧ a ≤ r.2.2.2.2.1 ∧ r.2.2.2.2.1 ≤ a + 4 * d) := by
  have hN : w * h ≤ 256 := Nat.le_trans (Nat.mul_le_mul hw hh) (by decide)
  have hc : ((w : Int) * (h : Int)) = ((w * h : Nat) : Int) := by rw [Int.natCast_mul]
  intro d
  induction d with
  | zero =>
    intro k i l a s kn h1 h2 hx hb h3 h4
    obtain ⟨k, rfl⟩ := succ_of (show 0 < k by omega)
    simp only [spec_l1Cur_plain.l4, spec_l1Cur_plain.b4]
    rw [hc, w64_id (by omega), if_neg (by omega)]
    exact Yl.ret ⟨rfl, rfl, rfl, hx, by dsimp only; omega⟩
  | succ d ih =>
    intro k i l a s kn h1 h2 hx hb h3 h4
    obtain ⟨k, rfl⟩ := succ_of (show 0 < k by omega)
    simp only [spec_l1Cur_plain.l4, spec_l1Cur_plain.b4]
    have hsnoc : ∀ x : Int, 0 ≤ x ∧ x ≤ 5 → ∀ y ∈ kn ++ [x], 0 ≤ y ∧ y ≤ 5 := fun x hx0 y hy => by
      rcases List.mem_append.1 hy with h | h
      · exact hx y h
      · rw [List.mem_singleton] at h; subst h; exact hx0
    rw [hc, w64_id (by omega), if_pos (by omega), w64_id (x := (i : Int) + 1) (by omega), show ((i : Int) + 1) = ((i + 1 : Nat) : Int) by omega]
    (refine Yl.bind (among_ok _ _ 0 5 (by simp) (by intro x hx; simp at hx; omega) (by assumption) (by omega) (by omega)) ?_; rintro ⟨vq, lq, aq, sq, xq⟩ ⟨eq1, eq2, eq3, eq4, eq5, eq6⟩; dsimp only at *; subst eq1; subst eq2)
    refine Yl.ite (fun hwi => ?_) fun _ => ?_
    · (refine Yl.bind (one_ok _ _ _ (by assumption) (by omega) (by omega)) ?_; rintro ⟨vq, lq, aq, sq⟩ ⟨eq1, eq2, eq3⟩; dsimp only at *; subst eq1)
      refine Yl.cond (fun _ => ?_) fun _ => ?_
      · have hw1 : 1 ≤ w := by
          rcases Nat.eq_zero_or_pos w with h | h
          · subst h; rw [Nat.zero_mul] at h1; omega
          · exact h
        rw [w64_id (by omega), chk_int (by omega)]; simp only [Option.bind_some]
        rw [app_ok (by simp; omega)]; simp only [Option.bind_some]
        refine (ih k (i + 1) _ _ _ _ (by omega) (by simp; omega) (hsnoc _ ?_) (by assumption) (by omega) (by omega)).mono fun r hr => ⟨hr.1, hr.2.1, hr.2.2.1, hr.2.2.2.1, by omega⟩
        rw [getD_lt (by omega)]; exact hx _ (List.getElem_mem _)
      · rw [app_ok (by simp; omega)]; simp only [Option.bind_some]
        exact (ih k (i + 1) _ _ _ _ (by omega) (by simp; omega) (hsnoc _ (by omega)) (by assumption) (by omega) (by omega)).mono fun r hr => ⟨hr.1, hr.2.1, hr.2.2.1, hr.2.2.2.1, by omega⟩
    · rw [app_ok (by simp; omega)]; simp only [Option.bind_some]
      exact (ih k (i + 1) _ _ _ _ (by omega) (by simp; omega) (hsnoc _ (by omega)) (by assumption) (by omega) (by omega)).mono fun r hr => ⟨hr.1, hr.2.1, hr.2.2.1, hr.2.2.2.1, by omega⟩
theorem plain_ok (k : Nat) {l : List Int} {a : Int} (s : Int) {w h : Int} (hw : 0 ≤ w ∧ w ≤ 16) (hh : 0 ≤ h ∧ h ≤ 16) (hb : By l) (ha : 0 ≤ a ∧ a ≤ 100000000) (hk : 1000 ≤ k) : Yl (spec_l1Cur_plain.f k l a s w h) fun r => r.1 = w ∧ r.2.1 = h ∧ r.2.2.2.1 = l ∧ (∀ x ∈ r.2.2.1, 0 ≤ x ∧ x ≤ 5) ∧ (r.2.2.1.length : Int) = w * h ∧ (r.2.2.1.length ≤ 256 ∧ a ≤ r.2.2.2.2.1 ∧ r.2.2.2.2.1 ≤ a + 1100) := by
  obtain ⟨w, rfl⟩ := Int.eq_ofNat_of_zero_le hw.1
  obtain ⟨h, rfl⟩ := Int.eq_ofNat_of_zero_le hh.1
  have hN : w * h ≤ 256 := Nat.le_trans (Nat.mul_le_mul (show w ≤ 16 by omega) (show h ≤ 16 by omega)) (by decide)
  unfold spec_l1Cur_plain.f spec_l1Cur_plain.m
  refine (plain_l w h (by omega) (by omega) (w * h) k 0 l a s [] (by omega) rfl (by simp) hb (by omega) (by omega)).mono fun r hr => ⟨hr.1, hr.2.1, hr.2.2.1, hr.2.2.2.1, ?_, by omega⟩
  have := hr.2.2.2.2.1
  rw [this, Int.natCast_mul]
theorem good_plain {w h : Int} {kn : List Int} (hw : 1 ≤ w ∧ w ≤ 8) (hh : 1 ≤ h ∧ h ≤ 8) (hx : ∀ x ∈ kn, 0 ≤ x ∧ x ≤ 5) (hl : (kn.length : Int) = w * h) : goodB w h kn = true := by
  unfold goodB
  simp only [Bool.and_eq_true, decide_eq_true_eq, List.all_eq_true, inB_iff]
  exact ⟨⟨⟨hw, hh⟩, hl⟩, fun x h => inB_of (hx x h)⟩
def WeavD (l : List Int) (a b : Int) (r : Int × Int × List Int × List Int × Int × List V2 × Bool × List Int × Int × Int) : Prop := r.2.2.2.2.2.2.2.1 = l ∧ (r.2.2.1.length ≤ 100 ∧ r.2.2.2.1.length ≤ 100 ∧ r.2.2.2.2.2.1.length ≤ 100 ∧ a ≤ r.2.2.2.2.2.2.2.2.1 ∧ r.2.2.2.2.2.2.2.2.1 ≤ b)
theorem weaving_l (l : List Int) (hb : By l) : ∀ (n K : Nat) (a s pw ph : Int) (pl kn : List Int) (wf : Int) (ag : List V2) (dn : Bool), 0 ≤ a → a + 50 * n ≤ 50000000 → n ≤ 40 → 6500 + n ≤ K → weaveB pw ph pl kn wf ag dn = true → Yl (spec_l1Cur_weaving.l7 K l a s 0 0 [] [] 0 [] false pw ph pl kn wf ag dn (n : Int)) (WeavD l a (a + 50 * n + 20)) := by
  intro n
  induction n with
  | zero =>
    intro K a s pw ph pl kn wf ag dn h1 h2 h3 h4 hs
    obtain ⟨K, rfl⟩ := succ_of (show 0 < K by omega)
    have h := (weaveB_iff.1 hs).1
    obtain ⟨b1, b2, b3, b4, b5, b6⟩ := h.bds
    have h10 := h.ag10
    simp only [spec_l1Cur_weaving.l7, spec_l1Cur_weaving.b7]
    rw [if_neg (by omega)]
    unfold WeavD
    (refine Yl.bind (pick_ok _ _ _ (by assumption) (by omega) (by omega)) ?_; rintro ⟨vq, lq, aq, sq⟩ ⟨eq1, eq2, eq3, eq4, eq5, eq6⟩; dsimp only at *; subst eq1)
    refine Yl.ite (fun _ => ?_) fun _ => ?_
    · (refine Yl.bind (among_any _ _ (by simp) (by assumption) (by omega) (by omega)) ?_; rintro ⟨vq, lq, aq, sq, xq⟩ ⟨eq1, eq2, eq3, eq4⟩; dsimp only at *; subst eq1; subst eq2)
      exact Yl.ret ⟨rfl, by dsimp only; omega⟩
    refine Yl.ite (fun _ => ?_) fun _ => ?_
    · (refine Yl.bind (among_any _ _ (by simp) (by assumption) (by omega) (by omega)) ?_; rintro ⟨vq, lq, aq, sq, xq⟩ ⟨eq1, eq2, eq3, eq4⟩; dsimp only at *; subst eq1; subst eq2)
      (refine Yl.bind (pick_ok _ _ _ (by assumption) (by omega) (by omega)) ?_; rintro ⟨vq, lq, aq, sq⟩ ⟨eq1, eq2, eq3, eq4, eq5, eq6⟩; dsimp only at *; subst eq1)
      rw [app_ok (by simp; omega)]; simp only [Option.bind_some]
      exact Yl.ret ⟨rfl, by simp; omega⟩
    refine Yl.ite (fun _ => Yl.ret ⟨rfl, by dsimp only; omega⟩) fun _ => ?_
    refine Yl.ite (fun _ => ?_) fun _ => ?_
    · (refine Yl.bind (among_any _ _ (by simp) (by assumption) (by omega) (by omega)) ?_; rintro ⟨vq, lq, aq, sq, xq⟩ ⟨eq1, eq2, eq3, eq4⟩; dsimp only at *; subst eq1; subst eq2)
      rw [app_ok (by simp; omega)]; simp only [Option.bind_some]
      exact Yl.ret ⟨rfl, by simp; omega⟩
    exact Yl.ret ⟨rfl, by dsimp only; omega⟩
  | succ n ih =>
    intro K a s pw ph pl kn wf ag dn h1 h2 h3 h4 hs
    obtain ⟨K, rfl⟩ := succ_of (show 0 < K by omega)
    have h := (weaveB_iff.1 hs).1
    obtain ⟨b1, b2, b3, b4, b5, b6⟩ := h.bds
    simp only [spec_l1Cur_weaving.l7, spec_l1Cur_weaving.b7]
    rw [if_pos (by omega), w64_id (x := ((n + 1 : Nat) : Int) - 1) (by omega), show ((n + 1 : Nat) : Int) - 1 = n by omega]
    refine Yl.bind (spec_l1Cur_weaveStep_2_ok K s pw ph pl kn wf ag dn hb (by omega) (by omega) (by omega)) ?_
    rintro ⟨kind, color, l', a', s', pl', kn', ag'⟩ ⟨e1, e2, e3, e4⟩
    simp only [Prod.mk.injEq] at e2
    obtain ⟨rfl, rfl, rfl⟩ := e2
    dsimp only at *
    subst e1
    rw [specStepW_eq K _ _ hs (by omega)]; simp only [Option.bind_some]
    cases hc : stepW pw ph pl' kn' wf ag' dn kind color with
    | none =>
      simp only [outW, cond_false]
      refine (ih K a' s' pw ph pl' kn' wf ag' dn (by omega) (by omega) (by omega) (by omega) hs).mono fun r hr => ?_
      unfold WeavD at *
      exact ⟨hr.1, by omega⟩
    | some q =>
      obtain ⟨k, w, ag2, d⟩ := q
      simp only [outW, cond_true]
      refine (ih K a' s' pw ph pl' k w ag2 d (by omega) (by omega) (by omega) (by omega) (step_good hc)).mono fun r hr => ?_
      unfold WeavD at *
      exact ⟨hr.1, by omega⟩
theorem newW_eq (k : Nat) (w h : Int) (l : List Int) (hl : l.length ≤ 1000) (hk : 2000 ≤ k) : spec_NewWeaving.f k w h l = some (if goodB w h l = true then (w, h, l, [], 0, [], false, true) else (0, 0, [], [], 0, [], false, false)) := by
  unfold spec_NewWeaving.f spec_NewWeaving.m
  rw [l2Good_eq k w h l (by omega) (by omega), l2Own_eq k w h l (by omega)]; simp only [Option.bind_some]
  cases goodB w h l <;> rfl
theorem weave_new {w h : Int} {l : List Int} (hg : goodB w h l = true) : weaveB w h l [] 0 [] false = true := by
  obtain ⟨h1, h2, h3, h4⟩ := good_of hg
  exact weaveB_iff.2 ⟨⟨hg, by omega, rfl, by simp; omega, by simp, by simp⟩, by simp⟩
theorem weaving_ok (k : Nat) {l : List Int} {a : Int} (s : Int) (hb : By l) (ha : 0 ≤ a ∧ a ≤ 1000000) (hk : 7000 ≤ k) : Yl (spec_l1Cur_weaving.f k l a s) (WeavD l a (a + 4000)) := by
  unfold spec_l1Cur_weaving.f spec_l1Cur_weaving.m
  refine Yl.bind (among_ok _ _ 1 4 (by simp) (by intro x hx; simp at hx; omega) hb (by omega) (by omega)) ?_
  rintro ⟨w, l', a', s', x'⟩ ⟨e1, e2, e3, e4, e5, e6⟩
  dsimp only at *; subst e1
  refine Yl.bind (among_ok _ _ 1 3 (by simp) (by intro x hx; simp at hx; omega) hb (by omega) (by omega)) ?_
  rintro ⟨h, l', a2, s2, x2⟩ ⟨e1, f2, f3, f4, f5, f6⟩
  dsimp only at *; subst e1
  refine Yl.bind (plain_ok k s2 (w := w) (h := h) (by omega) (by omega) hb (by omega) (by omega)) ?_
  rintro ⟨w', h', kn, l', a3, s3⟩ ⟨g1, g2, e1, g3, g4, g5⟩
  dsimp only at *; subst e1; subst g1; subst g2
  have hg := good_plain (w := w') (h := h') (kn := kn) (by omega) (by omega) g3 g4
  rw [newW_eq k _ _ kn (by omega) (by omega), if_pos hg]; simp only [Option.bind_some, Bool.not_true, cond_false]
  refine Yl.bind (pick_ok _ _ _ hb (by omega) (by omega)) ?_
  rintro ⟨n, l', a4, s4⟩ ⟨e1, i2, i3, i4, i5, i6⟩
  dsimp only at *; subst e1
  obtain ⟨n, rfl⟩ := Int.eq_ofNat_of_zero_le i4
  refine (weaving_l _ hb n k a4 s4 _ _ kn [] 0 [] false (by omega) (by omega) (by omega) (by omega) (weave_new hg)).mono fun r hr => ?_
  unfold WeavD at *
  exact ⟨hr.1, by omega⟩
def WD (r : Int × Int × List Int × List Int × Int × List V2 × Bool) : Prop := r.2.2.1.length ≤ 100 ∧ r.2.2.2.1.length ≤ 100 ∧ r.2.2.2.2.2.1.length ≤ 100
theorem drawIs_ok (k : Nat) {l : List Int} (hb : By l) (hk : 7000 ≤ k) : Yl (spec_DrawIsWeaving.f k l) WD := by
  unfold spec_DrawIsWeaving.f spec_DrawIsWeaving.m
  refine Yl.bind (weaving_ok k 0 hb (by omega) hk) ?_
  rintro ⟨pw, ph, pl, kn, wf, ag, dn, l', a, s⟩ ⟨e1, e2, e3, e4, e5, e6⟩
  exact Yl.ret ⟨e2, e3, e4⟩
theorem chart_ok (k : Nat) {l : List Int} {a : Int} (s : Int) (hb : By l) (ha : 0 ≤ a ∧ a ≤ 1000000) (hk : 2000 ≤ k) : Yl (spec_l1Cur_chart.f k l a s) fun r => r.2.2.2.1 = l ∧ (r.2.2.1.length ≤ 300 ∧ -1 ≤ r.1 ∧ r.1 ≤ 9 ∧ -1 ≤ r.2.1 ∧ r.2.1 ≤ 9 ∧ a ≤ r.2.2.2.2.1 ∧ r.2.2.2.2.1 ≤ a + 3000) := by
  unfold spec_l1Cur_chart.f spec_l1Cur_chart.m
  refine Yl.bind (among_ok _ _ 1 8 (by simp) (by intro x hx; simp at hx; omega) hb (by omega) (by omega)) ?_
  rintro ⟨w, l', a', s', x'⟩ ⟨e1, e2, e3, e4, e5, e6⟩
  dsimp only at *; subst e1
  refine Yl.bind (among_ok _ _ 1 8 (by simp) (by intro x hx; simp at hx; omega) hb (by omega) (by omega)) ?_
  rintro ⟨h, l', a2, s2, x2⟩ ⟨e1, f2, f3, f4, f5, f6⟩
  dsimp only at *; subst e1
  refine Yl.bind (plain_ok k s2 (w := w) (h := h) (by omega) (by omega) hb (by omega) (by omega)) ?_
  rintro ⟨w', h', kn, l', a3, s3⟩ ⟨g1, g2, e1, g3, g4, g5⟩
  dsimp only at *; subst e1; subst g1; subst g2
  have hm := mul_bd (w := w') (h := h') (by omega) (by omega)
  refine Yl.bind (pick_ok _ _ _ hb (by omega) (by omega)) ?_
  rintro ⟨n, l', a4, s4⟩ ⟨e1, i2, i3, i4, i5, i6⟩
  dsimp only at *; subst e1
  refine Yl.ite (fun _ => ?_) fun _ => ?_
  · refine Yl.bind (pick_ok _ _ _ hb (by omega) (by omega)) ?_
    rintro ⟨m, l', a5, s5⟩ ⟨e1, j2, j3, j4, j5, j6⟩
    dsimp only at *; subst e1
    (refine Yl.bind (among_any _ _ (by simp) (by assumption) (by omega) (by omega)) ?_; rintro ⟨vq, lq, aq, sq, xq⟩ ⟨eq1, eq2, eq3, eq4⟩; dsimp only at *; subst eq1; subst eq2)
    rw [chk_int (by omega)]; simp only [Option.bind_some]
    exact Yl.ret ⟨rfl, by dsimp only; rw [List.length_set]; omega⟩
  refine Yl.ite (fun _ => ?_) fun _ => ?_
  · rw [app_ok (by simp; omega)]; simp only [Option.bind_some]
    exact Yl.ret ⟨rfl, by dsimp only; rw [List.length_append, List.length_singleton]; omega⟩
  refine Yl.ite (fun _ => ?_) fun _ => ?_
  · refine Yl.bind (among_ok _ _ 0 9 (by simp) (by intro x hx; simp at hx; omega) hb (by omega) (by omega)) ?_
    rintro ⟨w2, l', a6, s6, x6⟩ ⟨e1, n2, n3, n4, n5, n6⟩
    dsimp only at *; subst e1
    refine Yl.bind (plain_ok k s6 (w := w2) (h := 1) (by omega) (by omega) hb (by omega) (by omega)) ?_
    rintro ⟨w', h', kn, l', a3, s3⟩ ⟨p1, p2, e1, p3, p4, p5⟩
    dsimp only at *; subst e1; subst p1; subst p2
    exact Yl.ret ⟨rfl, by dsimp only; omega⟩
  exact Yl.ret ⟨rfl, by dsimp only; omega⟩
theorem drawIsChart_ok (k : Nat) {l : List Int} (hb : By l) (hk : 2000 ≤ k) : Yl (spec_DrawIsChart.f k l) fun r => r.2.2.length ≤ 300 := by
  unfold spec_DrawIsChart.f spec_DrawIsChart.m
  refine Yl.bind (chart_ok k 0 hb (by omega) hk) ?_
  rintro ⟨w, h, kn, l', a, s⟩ ⟨e1, e2, e3⟩
  exact Yl.ret e2
theorem drawStep_ok (k : Nat) {l : List Int} (hb : By l) (hk : 7000 ≤ k) : Yl (spec_DrawStepWeaving.f k l) fun r => r.2.2.1.length ≤ 100 ∧ r.2.2.2.1.length ≤ 100 ∧ r.2.2.2.2.2.1.length ≤ 100 := by
  unfold spec_DrawStepWeaving.f spec_DrawStepWeaving.m
  refine Yl.bind (weaving_ok k 0 hb (by omega) hk) ?_
  rintro ⟨pw, ph, pl, kn, wf, ag, dn, l', a, s⟩ ⟨e1, e2, e3, e4, e5, e6⟩
  dsimp only at *; subst e1
  refine Yl.bind (spec_l1Cur_weaveStep_2_ok k s pw ph pl kn wf ag dn hb (by omega) (by omega) (by omega)) ?_
  rintro ⟨kind, color, l', a', s', pl', kn', ag'⟩ ⟨f1, f2, f3, f4⟩
  simp only [Prod.mk.injEq] at f2
  obtain ⟨rfl, rfl, rfl⟩ := f2
  dsimp only at *
  exact Yl.ret ⟨e2, e3, e4⟩
def RunWD (r : Int × Int × List Int × List Int × Int × List V2 × Bool × List V2) : Prop := r.2.2.1.length ≤ 100 ∧ r.2.2.2.1.length ≤ 100 ∧ r.2.2.2.2.2.1.length ≤ 100 ∧ r.2.2.2.2.2.2.2.length ≤ 1000
theorem run17 (l : List Int) (hb : By l) (pw ph : Int) (pl kn : List Int) (wf : Int) (ag : List V2) (dn : Bool) (hw : pl.length ≤ 100 ∧ kn.length ≤ 100 ∧ ag.length ≤ 100) : ∀ (e K : Nat) (a s : Int) (steps : List V2), 42 ≤ steps.length + e → steps.length ≤ 60 → 0 ≤ a → a + 10 * e ≤ 1000000 → 100 + e ≤ K → Yl (spec_DrawRunWeaving.l17 K 0 0 [] [] 0 [] false l a s pw ph pl kn wf ag dn steps) RunWD := by
  intro e
  induction e with
  | zero =>
    intro K a s steps h1 h2 h3 h4 h5
    obtain ⟨K, rfl⟩ := succ_of (show 0 < K by omega)
    simp only [spec_DrawRunWeaving.l17, spec_DrawRunWeaving.b17]
    (refine Yl.bind (pick_ok _ _ _ (by assumption) (by omega) (by omega)) ?_; rintro ⟨vq, lq, aq, sq⟩ ⟨eq1, eq2, eq3, eq4, eq5, eq6⟩; dsimp only at *; subst eq1)
    rw [w64_id (by omega), if_neg (by omega)]
    exact Yl.ret ⟨hw.1, hw.2.1, hw.2.2, by dsimp only; omega⟩
  | succ e ih =>
    intro K a s steps h1 h2 h3 h4 h5
    obtain ⟨K, rfl⟩ := succ_of (show 0 < K by omega)
    simp only [spec_DrawRunWeaving.l17, spec_DrawRunWeaving.b17]
    refine Yl.bind (pick_ok _ _ _ hb (by omega) (by omega)) ?_
    rintro ⟨v, l', a', s'⟩ ⟨e1, e2, e3, e4, e5, e6⟩
    dsimp only at *; subst e1
    rw [w64_id (by omega)]
    refine Yl.ite (fun _ => ?_) fun _ => Yl.ret ⟨hw.1, hw.2.1, hw.2.2, by dsimp only; omega⟩
    rw [app_ok (by simp; omega)]; simp only [Option.bind_some]
    exact ih K a' s' _ (by simp; omega) (by simp; omega) (by omega) (by omega) (by omega)
theorem specStepAny (K : Nat) {pw ph : Int} {pl kn : List Int} {wf : Int} {ag : List V2} {dn : Bool} (kind color : Int) (h1 : pl.length ≤ 100) (h2 : kn.length ≤ 100) (h3 : ag.length ≤ 100) (hK : 7000 ≤ K) : spec_StepWeaving.f K pw ph pl kn wf ag dn kind color = some (if weaveB pw ph pl kn wf ag dn = true then outW pw ph pl (stepW pw ph pl kn wf ag dn kind color) else (0, 0, [], [], 0, [], false, false)) := by
  by_cases hg : weaveB pw ph pl kn wf ag dn = true
  · rw [if_pos hg]; exact specStepW_eq K _ _ hg (by omega)
  · unfold spec_StepWeaving.f spec_StepWeaving.m
    rw [sgood_eq K pw ph pl kn wf ag dn (by omega) (by omega) (by omega), notB hg]; rfl
theorem implStepAny (K : Nat) {pw ph : Int} {pl kn : List Int} {wf : Int} {ag : List V2} {dn : Bool} (kind color : Int) (h1 : pl.length ≤ 100) (h2 : kn.length ≤ 100) (h3 : ag.length ≤ 100) (hK : 7000 ≤ K) : impl_StepWeaving.f K pw ph pl kn wf ag dn kind color = some (if weaveB pw ph pl kn wf ag dn = true then outW pw ph pl (stepW pw ph pl kn wf ag dn kind color) else (0, 0, [], [], 0, [], false, false)) := by
  by_cases hg : weaveB pw ph pl kn wf ag dn = true
  · rw [if_pos hg]; exact implSW_eq K _ _ hg (by omega)
  · unfold impl_StepWeaving.f impl_StepWeaving.m
    rw [igood_eq K pw ph pl kn wf ag dn (by omega) (by omega) (by omega) (by omega), notB hg]; rfl
theorem run7 (l : List Int) (hb : By l) (pw ph : Int) (pl kn : List Int) (wf : Int) (ag : List V2) (dn : Bool) (hw : pl.length ≤ 100 ∧ kn.length ≤ 100 ∧ ag.length ≤ 100) : ∀ (m K : Nat) (a s pw' ph' : Int) (pl' kn' : List Int) (wf' : Int) (ag' : List V2) (dn' : Bool) (steps : List V2), steps.length + m ≤ 20 → 0 ≤ a → a + 50 * m ≤ 500000 → 8000 + m ≤ K → pl'.length ≤ 100 ∧ kn'.length ≤ 100 ∧ ag'.length ≤ 100 → Yl (spec_DrawRunWeaving.l7 K 0 0 [] [] 0 [] false l a s pw ph pl kn wf ag dn steps pw' ph' pl' kn' wf' ag' dn' (m : Int)) RunWD := by
  intro m
  induction m with
  | zero =>
    intro K a s pw' ph' pl' kn' wf' ag' dn' steps h1 h2 h3 h4 h5
    obtain ⟨K, rfl⟩ := succ_of (show 0 < K by omega)
    simp only [spec_DrawRunWeaving.l7, spec_DrawRunWeaving.b7]
    rw [if_neg (by omega)]
    refine Yl.bind (one_ok _ _ _ hb (by omega) (by omega)) ?_
    rintro ⟨v, l', a', s'⟩ ⟨e1, e2, e3⟩
    dsimp only at *; subst e1
    refine Yl.cond (fun _ => ?_) fun _ => Yl.ret ⟨hw.1, hw.2.1, hw.2.2, by dsimp only; omega⟩
    exact run17 l' hb pw ph pl kn wf ag dn hw 60 K a' s' steps (by omega) (by omega) (by omega) (by omega) (by omega)
  | succ m ih =>
    intro K a s pw' ph' pl' kn' wf' ag' dn' steps h1 h2 h3 h4 h5
    obtain ⟨K, rfl⟩ := succ_of (show 0 < K by omega)
    simp only [spec_DrawRunWeaving.l7, spec_DrawRunWeaving.b7]
    rw [if_pos (by omega), w64_id (x := ((m + 1 : Nat) : Int) - 1) (by omega), show ((m + 1 : Nat) : Int) - 1 = m by omega]
    refine Yl.bind (spec_l1Cur_weaveStep_ok K s pw' ph' pl' kn' wf' ag' dn' hb (by omega) (by omega) (by omega)) ?_
    rintro ⟨kind, color, l', a', s'⟩ ⟨e1, e3, e4⟩
    dsimp only at *
    subst e1
    rw [app_ok (by simp; omega)]; simp only [Option.bind_some]
    rw [specStepAny K _ _ (by omega) (by omega) (by omega) (by omega)]; simp only [Option.bind_some]
    by_cases hs : weaveB pw' ph' pl' kn' wf' ag' dn' = true
    · rw [if_pos hs]
      cases h : stepW pw' ph' pl' kn' wf' ag' dn' kind color with
      | none =>
        simp only [outW, cond_false]
        exact ih K a' s' pw' ph' pl' kn' wf' ag' dn' _ (by simp; omega) (by omega) (by omega) (by omega) h5
      | some q =>
        obtain ⟨k, w, a2, d⟩ := q
        simp only [outW, cond_true]
        have hw' := (weaveB_iff.1 (step_good h)).1
        obtain ⟨b1, b2, b3, b4, b5, b6⟩ := hw'.bds
        have h10 := hw'.ag10
        exact ih K a' s' pw' ph' pl' k w a2 d _ (by simp; omega) (by omega) (by omega) (by omega) (by omega)
    · rw [if_neg hs]
      simp only [cond_false]
      exact ih K a' s' pw' ph' pl' kn' wf' ag' dn' _ (by simp; omega) (by omega) (by omega) (by omega) h5
theorem drawRun_ok (k : Nat) {l : List Int} (hb : By l) (hk : 9000 ≤ k) : Yl (spec_DrawRunWeaving.f k l) RunWD := by
  unfold spec_DrawRunWeaving.f spec_DrawRunWeaving.m
  refine Yl.bind (weaving_ok k 0 hb (by omega) (by omega)) ?_
  rintro ⟨pw, ph, pl, kn, wf, ag, dn, l', a, s⟩ ⟨e1, e2, e3, e4, e5, e6⟩
  dsimp only at *; subst e1
  refine Yl.bind (pick_ok _ _ _ hb (by omega) (by omega)) ?_
  rintro ⟨m, l', a', s'⟩ ⟨e1, f2, f3, f4, f5, f6⟩
  dsimp only at *; subst e1
  obtain ⟨m, rfl⟩ := Int.eq_ofNat_of_zero_le f4
  exact run7 l' hb pw ph pl kn wf ag dn ⟨e2, e3, e4⟩ m k a' s' pw ph pl kn wf ag dn [] (by simp; omega) (by omega) (by omega) (by omega) ⟨e2, e3, e4⟩
theorem vDev_self (k : Nat) (c : List V2) (hl : c.length ≤ 1000) (hk : 1100 ≤ k) : laws_vDeviations.f k c c = some true := by
  unfold laws_vDeviations.f laws_vDeviations.m
  have h := (all_loop (L := fun k i => laws_vDeviations.l6 k c c (i : Int)) (n := c.length) (K0 := 20) (ok := fun _ => true) (f := some false) (fun k i hk hi => ?_)) c.length k 0 (by omega) (by omega)
  · rw [show ((0 : Nat) : Int) = 0 from rfl] at h
    simp only [Bool.not_true, Bool.not_false, cond_true, cond_false, Bool.true_and, Bool.false_and, Bool.and_true, Bool.and_false, Bool.false_eq_true, Bool.true_or, Bool.or_true, Bool.false_or, Bool.or_false, Bool.or_self, Bool.and_self, decide_true, decide_false, if_true, if_false, not_true, not_false_eq_true, not_true_eq_false, false_or, or_false, true_and, and_true, Bool.not_eq_true, Bool.true_eq_false, reduceCtorEq]
    exact h.1 (some true) (fun k hk => by simp (disch := omega) only [laws_vDeviations.l6, laws_vDeviations.b6, if_neg]) (fun _ _ _ => rfl)
  · simp (disch := omega) only [laws_vDeviations.l6, laws_vDeviations.b6, if_pos, chk_nat, Option.bind_some, w64_id, Bool.not_true, Bool.not_false, cond_true, cond_false, Bool.true_and, Bool.false_and, Bool.and_true, Bool.and_false, Bool.false_eq_true, Bool.true_or, Bool.or_true, Bool.false_or, Bool.or_false, Bool.or_self, Bool.and_self, decide_true, decide_false, if_true, if_false, not_true, not_false_eq_true, not_true_eq_false, false_or, or_false, true_and, and_true, Bool.not_eq_true, Bool.true_eq_false, reduceCtorEq, Int.natCast_add, Int.cast_ofNat_Int]
theorem vChart_self (k : Nat) (w h : Int) (l : List Int) (hl : l.length ≤ 1000) (hk : 1100 ≤ k) : laws_vChart.f k w h l w h l = some true := by
  unfold laws_vChart.f laws_vChart.m
  rw [vInts_self k l hl hk]; simp only [Bool.not_true, Bool.not_false, cond_true, cond_false, Bool.true_and, Bool.false_and, Bool.and_true, Bool.and_false, Bool.false_eq_true, Bool.true_or, Bool.or_true, Bool.false_or, Bool.or_false, Bool.or_self, Bool.and_self, decide_true, decide_false, if_true, if_false, not_true, not_false_eq_true, not_true_eq_false, false_or, or_false, true_and, and_true, Bool.not_eq_true, Bool.true_eq_false, reduceCtorEq, Option.bind_some]
theorem vW_self (k : Nat) (pw ph : Int) (pl kn : List Int) (wf : Int) (ag : List V2) (dn : Bool) (h1 : pl.length ≤ 1000) (h2 : kn.length ≤ 1000) (h3 : ag.length ≤ 1000) (hk : 1100 ≤ k) : laws_vWeaving.f k pw ph pl kn wf ag dn pw ph pl kn wf ag dn = some true := by
  unfold laws_vWeaving.f laws_vWeaving.m
  rw [vChart_self k pw ph pl h1 hk, vInts_self k kn h2 hk, vDev_self k ag h3 hk]; simp only [Bool.not_true, Bool.not_false, cond_true, cond_false, Bool.true_and, Bool.false_and, Bool.and_true, Bool.and_false, Bool.false_eq_true, Bool.true_or, Bool.or_true, Bool.false_or, Bool.or_false, Bool.or_self, Bool.and_self, decide_true, decide_false, if_true, if_false, not_true, not_false_eq_true, not_true_eq_false, false_or, or_false, true_and, and_true, Bool.not_eq_true, Bool.true_eq_false, reduceCtorEq, Option.bind_some]
theorem iNewW_eq (k : Nat) (w h : Int) (l : List Int) (hl : l.length ≤ 1000) (hk : 2000 ≤ k) : impl_NewWeaving.f k w h l = some (if goodB w h l = true then (w, h, l, [], 0, [], false, true) else (0, 0, [], [], 0, [], false, false)) := by
  unfold impl_NewWeaving.f impl_NewWeaving.m
  rw [isChart_eq k w h l (by omega) (by omega), copied_eq k w h l (by omega)]; simp only [Option.bind_some]
  cases goodB w h l <;> rfl
theorem woven_any (k : Nat) {pw ph : Int} {pl kn : List Int} {wf : Int} {ag : List V2} {dn : Bool} (h1 : pl.length ≤ 100) (h2 : kn.length ≤ 100) (h3 : ag.length ≤ 100) (hk : 7000 ≤ k) : ∃ (a b : Int) (l : List Int) (c : Bool), l.length ≤ 100 ∧ impl_WovenChart.f k pw ph pl kn wf ag dn = some (a, b, l, c) ∧ spec_WovenChart.f k pw ph pl kn wf ag dn = some (a, b, l, c) := by
  unfold impl_WovenChart.f impl_WovenChart.m spec_WovenChart.f spec_WovenChart.m
  rw [sgood_eq k pw ph pl kn wf ag dn (by omega) (by omega) (by omega), igood_eq k pw ph pl kn wf ag dn (by omega) (by omega) (by omega) (by omega), cloneI_eq k kn (by omega), ownI_eq k kn (by omega)]
  simp only [Option.bind_some]
  cases weaveB pw ph pl kn wf ag dn
  · exact ⟨0, 0, [], false, by simp, rfl, rfl⟩
  · cases dn
    · exact ⟨0, 0, [], false, by simp, rfl, rfl⟩
    · exact ⟨pw, ph, kn, true, h2, rfl, rfl⟩
theorem newTail (k : Nat) {l : List Int} (hb : By l) (hk : 9000 ≤ k) : ((spec_DrawNewWeaving.f k l).bind fun r15 => ((impl_NewWeaving.f k r15.1 r15.2.1 r15.2.2).bind fun r16 => ((spec_NewWeaving.f k r15.1 r15.2.1 r15.2.2).bind fun r17 => (if ¬ r16.2.2.2.2.2.2.2 = r17.2.2.2.2.2.2.2 then (some false) else ((laws_vWeaving.f k r16.1 r16.2.1 r16.2.2.1 r16.2.2.2.1 r16.2.2.2.2.1 r16.2.2.2.2.2.1 r16.2.2.2.2.2.2.1 r17.1 r17.2.1 r17.2.2.1 r17.2.2.2.1 r17.2.2.2.2.1 r17.2.2.2.2.2.1 r17.2.2.2.2.2.2.1).bind fun r18 => (cond (!r18) (some false) ((spec_DrawWovenChart.f k l).bind fun r19 => ((impl_WovenChart.f k r19.1 r19.2.1 r19.2.2.1 r19.2.2.2.1 r19.2.2.2.2.1 r19.2.2.2.2.2.1 r19.2.2.2.2.2.2).bind fun r20 => ((spec_WovenChart.f k r19.1 r19.2.1 r19.2.2.1 r19.2.2.2.1 r19.2.2.2.2.1 r19.2.2.2.2.2.1 r19.2.2.2.2.2.2).bind fun r21 => (if r20.2.2.2 = r21.2.2.2 then ((laws_vChart.f k r20.1 r20.2.1 r20.2.2.1 r21.1 r21.2.1 r21.2.2.1).bind fun r22 => (some r22)) else (some false))))))))))) = some true := by
  obtain ⟨⟨w, h, kn⟩, e, h1⟩ := drawIsChart_ok k hb (by omega)
  dsimp only at h1
  unfold spec_DrawNewWeaving.f spec_DrawNewWeaving.m
  rw [e]; simp only [Option.bind_some]
  rw [newW_eq k w h kn (by omega) (by omega), iNewW_eq k w h kn (by omega) (by omega)]; simp only [Option.bind_some]
  have hv : ∀ r : Int × Int × List Int × List Int × Int × List V2 × Bool × Bool, r = (if goodB w h kn = true then (w, h, kn, [], 0, [], false, true) else (0, 0, [], [], 0, [], false, false)) → laws_vWeaving.f k r.1 r.2.1 r.2.2.1 r.2.2.2.1 r.2.2.2.2.1 r.2.2.2.2.2.1 r.2.2.2.2.2.2.1 r.1 r.2.1 r.2.2.1 r.2.2.2.1 r.2.2.2.2.1 r.2.2.2.2.2.1 r.2.2.2.2.2.2.1 = some true := by
    intro r hr; subst hr
    cases goodB w h kn
    · exact vW_self k _ _ _ _ _ _ _ (by simp) (by simp) (by simp) (by omega)
    · exact vW_self k _ _ _ _ _ _ _ (by simp only [if_true]; omega) (by simp) (by simp) (by omega)
  rw [hv _ rfl]; simp only [Option.bind_some, Bool.not_true, Bool.not_false, cond_true, cond_false, Bool.true_and, Bool.false_and, Bool.and_true, Bool.and_false, Bool.false_eq_true, Bool.true_or, Bool.or_true, Bool.false_or, Bool.or_false, Bool.or_self, Bool.and_self, decide_true, decide_false, if_true, if_false, not_true, not_false_eq_true, not_true_eq_false, false_or, or_false, true_and, and_true, Bool.not_eq_true, Bool.true_eq_false, reduceCtorEq]
  obtain ⟨⟨pw, ph, pl, kn2, wf, ag, dn⟩, e2, q1, q2, q3⟩ := drawIs_ok k hb (by omega)
  dsimp only at q1 q2 q3
  unfold spec_DrawWovenChart.f spec_DrawWovenChart.m
  rw [e2]; simp only [Option.bind_some]
  obtain ⟨a, b, lq, c, t0, t1, t2⟩ := woven_any (pw := pw) (ph := ph) (pl := pl) (kn := kn2) (wf := wf) (ag := ag) (dn := dn) k q1 q2 q3 (by omega)
  rw [t1, t2]; simp only [Option.bind_some, if_true]
  rw [vChart_self k a b lq (by omega) (by omega)]; rfl
theorem w_l27 {l : List Int} (hb : By l) {pw ph : Int} {pl : List Int} {steps : List V2} (hl : steps.length ≤ 40) (KN : List Int) (WF : Int) (AG : List V2) (DN : Bool) (N : Int) : ∀ (e K i : Nat) (kn : List Int) (wf : Int) (ag : List V2) (dn : Bool) (n : Int), i + e = steps.length → weaveB pw ph pl kn wf ag dn = true → 0 ≤ n → n + e ≤ 1000 → 10000 + e ≤ K → runW pw ph pl (steps.drop i) kn wf ag dn n = (KN, WF, AG, DN, N) → laws_FnWeaving.l27 K l steps pw ph pl KN WF AG DN N pw ph pl kn wf ag dn n (i : Int) = some true := by
  intro e
  induction e with
  | zero =>
    intro K i kn wf ag dn n h1 hs h2 h3 h4 h5
    obtain ⟨K, rfl⟩ := succ_of (show 0 < K by omega)
    rw [List.drop_of_length_le (by omega)] at h5
    simp only [runW, Prod.mk.injEq] at h5
    obtain ⟨rfl, rfl, rfl, rfl, rfl⟩ := h5
    have hw := (weaveB_iff.1 hs).1
    obtain ⟨b1, b2, b3, b4, b5, b6⟩ := hw.bds
    have h10 := hw.ag10
    simp (disch := omega) only [laws_FnWeaving.l27, laws_FnWeaving.b27, if_neg, vW_self, Option.bind_some, Bool.not_true, Bool.not_false, cond_true, cond_false, Bool.true_and, Bool.false_and, Bool.and_true, Bool.and_false, Bool.false_eq_true, Bool.true_or, Bool.or_true, Bool.false_or, Bool.or_false, Bool.or_self, Bool.and_self, decide_true, decide_false, if_true, if_false, not_true, not_false_eq_true, not_true_eq_false, false_or, or_false, true_and, and_true, Bool.not_eq_true, Bool.true_eq_false, reduceCtorEq]
    exact newTail K hb (by omega)
  | succ e ih =>
    intro K i kn wf ag dn n h1 hs h2 h3 h4 h5
    obtain ⟨K, rfl⟩ := succ_of (show 0 < K by omega)
    have hi : i < steps.length := by omega
    have hd : steps.drop i = steps[i] :: steps.drop (i + 1) := List.drop_eq_getElem_cons hi
    rw [hd] at h5; simp only [runW] at h5
    simp (disch := omega) only [laws_FnWeaving.l27, laws_FnWeaving.b27, if_pos, chk_nat, Option.bind_some, getD_lt hi, implSW_eq K _ _ hs, w64_id]
    rw [show ((i : Int) + 1) = ((i + 1 : Nat) : Int) by omega]
    cases h : stepW pw ph pl kn wf ag dn steps[i].1 steps[i].2 with
    | none =>
      rw [h] at h5
      simp only [outW, Bool.not_true, Bool.not_false, cond_true, cond_false, Bool.true_and, Bool.false_and, Bool.and_true, Bool.and_false, Bool.false_eq_true, Bool.true_or, Bool.or_true, Bool.false_or, Bool.or_false, Bool.or_self, Bool.and_self, decide_true, decide_false, if_true, if_false, not_true, not_false_eq_true, not_true_eq_false, false_or, or_false, true_and, and_true, Bool.not_eq_true, Bool.true_eq_false, reduceCtorEq]
      exact ih K (i + 1) kn wf ag dn n (by omega) hs h2 (by omega) (by omega) h5
    | some r =>
      obtain ⟨k, w, a, d⟩ := r
      rw [h] at h5
      simp only [outW, Bool.not_true, Bool.not_false, cond_true, cond_false, Bool.true_and, Bool.false_and, Bool.and_true, Bool.and_false, Bool.false_eq_true, Bool.true_or, Bool.or_true, Bool.false_or, Bool.or_false, Bool.or_self, Bool.and_self, decide_true, decide_false, if_true, if_false, not_true, not_false_eq_true, not_true_eq_false, false_or, or_false, true_and, and_true, Bool.not_eq_true, Bool.true_eq_false, reduceCtorEq]
      exact ih K (i + 1) k w a d (n + 1) (by omega) (step_good h) (by omega) (by omega) (by omega) h5
theorem runTail (k : Nat) {l : List Int} (hb : By l) (hk : 20000 ≤ k) : laws_FnWeaving.l10 (k + 1) l = some true := by
  simp only [laws_FnWeaving.l10, laws_FnWeaving.b10]
  obtain ⟨⟨pw, ph, pl, kn, wf, ag, dn, steps⟩, e, h1, h2, h3, h4⟩ := drawRun_ok k hb (by omega)
  dsimp only at h1 h2 h3 h4
  rw [e]; simp only [Option.bind_some]
  rcases runW_both pw ph pl kn wf ag dn steps (by omega) (by omega) (by omega) with ⟨hs, h40, hS, hI⟩ | ⟨hS, hI⟩
  · have hl := runW_len steps 0 hs
    rw [hI k (by omega), hS k (by omega)]; simp only [runWO, Option.bind_some, Bool.not_true, Bool.not_false, cond_true, cond_false, Bool.true_and, Bool.false_and, Bool.and_true, Bool.and_false, Bool.false_eq_true, Bool.true_or, Bool.or_true, Bool.false_or, Bool.or_false, Bool.or_self, Bool.and_self, decide_true, decide_false, if_true, if_false, not_true, not_false_eq_true, not_true_eq_false, false_or, or_false, true_and, and_true, Bool.not_eq_true, Bool.true_eq_false, reduceCtorEq]
    rw [vW_self _ _ _ _ _ _ _ _ (by omega) (by omega) (by omega) (by omega)]; simp only [Option.bind_some, Bool.not_true, Bool.not_false, cond_true, cond_false, Bool.true_and, Bool.false_and, Bool.and_true, Bool.and_false, Bool.false_eq_true, Bool.true_or, Bool.or_true, Bool.false_or, Bool.or_false, Bool.or_self, Bool.and_self, decide_true, decide_false, if_true, if_false, not_true, not_false_eq_true, not_true_eq_false, false_or, or_false, true_and, and_true, Bool.not_eq_true, Bool.true_eq_false, reduceCtorEq]
    exact w_l27 hb h40 _ _ _ _ _ steps.length k 0 kn wf ag dn 0 (by omega) hs (by omega) (by omega) (by omega) rfl
  · rw [hI k (by omega), hS k (by omega)]; simp only [Option.bind_some, Bool.not_true, Bool.not_false, cond_true, cond_false, Bool.true_and, Bool.false_and, Bool.and_true, Bool.and_false, Bool.false_eq_true, Bool.true_or, Bool.or_true, Bool.false_or, Bool.or_false, Bool.or_self, Bool.and_self, decide_true, decide_false, if_true, if_false, not_true, not_false_eq_true, not_true_eq_false, false_or, or_false, true_and, and_true, Bool.not_eq_true, Bool.true_eq_false, reduceCtorEq]
    rw [vW_self _ 0 0 [] [] 0 [] false (by simp) (by simp) (by simp) (by omega)]; simp only [Option.bind_some, Bool.not_true, Bool.not_false, cond_true, cond_false, Bool.true_and, Bool.false_and, Bool.and_true, Bool.and_false, Bool.false_eq_true, Bool.true_or, Bool.or_true, Bool.false_or, Bool.or_false, Bool.or_self, Bool.and_self, decide_true, decide_false, if_true, if_false, not_true, not_false_eq_true, not_true_eq_false, false_or, or_false, true_and, and_true, Bool.not_eq_true, Bool.true_eq_false, reduceCtorEq]
    exact newTail k hb (by omega)
/-! ### How many knots differ -/
def cntD (pl kn : List Int) : Nat → Nat → Nat
  | _, 0 => 0
  | p, d + 1 => (if pl.getD p 0 = kn.getD p 0 then 0 else 1) + cntD pl kn (p + 1) d
theorem cntD_add (pl kn : List Int) : ∀ (a p b : Nat), cntD pl kn p (a + b) = cntD pl kn p a + cntD pl kn (p + a) b := by
  intro a
  induction a with
  | zero => intro p b; simp [cntD]
  | succ a ih =>
    intro p b
    rw [show a + 1 + b = (a + b) + 1 by omega, cntD, cntD, ih (p + 1) b, show p + 1 + a = p + (a + 1) by omega]; omega
theorem cntD_ag {pl kn : List Int} {ag : List V2} {N : Nat} (hasc : ∀ i j, i < j → j < ag.length → (ag.getD i (0, 0)).1 < (ag.getD j (0, 0)).1) (hin : ∀ i, i < ag.length → 0 ≤ (ag.getD i (0, 0)).1 ∧ (ag.getD i (0, 0)).1 < N) (hD : ∀ p, p < N → (¬ pl.getD p 0 = kn.getD p 0 ↔ ∃ i, i < ag.length ∧ (ag.getD i (0, 0)).1 = (p : Int))) : ∀ (d p j : Nat), p + d = N → j ≤ ag.length → (∀ i, i < j → (ag.getD i (0, 0)).1 < (p : Int)) → (∀ i, j ≤ i → i < ag.length → (p : Int) ≤ (ag.getD i (0, 0)).1) → cntD pl kn p d + j = ag.length := by
  intro d
  induction d with
  | zero =>
    intro p j h1 h2 h3 h4
    rcases Nat.lt_or_ge j ag.length with h | h
    · have a := h4 j (Nat.le_refl _) h
      have b := hin j h
      omega
    · simp only [cntD]; omega
  | succ d ih =>
    intro p j h1 h2 h3 h4
    simp only [cntD]
    by_cases e : pl.getD p 0 = kn.getD p 0
    · rw [if_pos e]
      have := ih (p + 1) j (by omega) h2 (fun i hi => by have := h3 i hi; omega) (fun i hi hl => by
        have a := h4 i hi hl
        by_cases e2 : (ag.getD i (0, 0)).1 = (p : Int)
        · exact absurd e ((hD p (by omega)).2 ⟨i, hl, e2⟩)
        · omega)
      omega
    · rw [if_neg e]
      obtain ⟨i, hi, hp⟩ := (hD p (by omega)).1 e
      have hij : i = j := by
        rcases Nat.lt_trichotomy i j with h | h | h
        · have := h3 i h; omega
        · exact h
        · have a := h4 j (Nat.le_refl _) (by omega)
          have b := hasc j i h hi
          omega
      subst hij
      have := ih (p + 1) (i + 1) (by omega) (by omega) (fun t ht => by
        rcases Nat.lt_or_ge t i with h | h
        · have := h3 t h; omega
        · have : t = i := by omega
          subst this; omega) (fun t ht hl => by
        have b := hasc i t (by omega) hl
        omega)
      omega
theorem done_cnt {pw ph : Int} {pl kn : List Int} {wf : Int} {ag : List V2} (hg : weaveB pw ph pl kn wf ag true = true) : kn.length = pl.length ∧ cntD pl kn 0 pl.length = ag.length := by
  obtain ⟨h, hd⟩ := weaveB_iff.1 hg
  obtain ⟨m1, m2⟩ := hd rfl
  obtain ⟨b1, b2, b3, b4, b5, b6⟩ := h.bds
  obtain ⟨gw, gh, gl, _⟩ := good_of h.g
  have hlen := h.len
  have hlen2 : kn.length = pl.length := by
    have : wf * pw = pw * ph := by rw [m1, Int.mul_comm]
    omega
  refine ⟨hlen2, ?_⟩
  have hdev : ∀ i, i < ag.length → (0 ≤ (ag.getD i (0, 0)).1 ∧ (ag.getD i (0, 0)).1 ≤ (kn.length : Int) - 1) ∧ kn.getD (ag.getD i (0, 0)).1.toNat 0 = (ag.getD i (0, 0)).2 ∧ (ag.getD i (0, 0)).2 ≠ pl.getD (ag.getD i (0, 0)).1.toNat 0 := fun i hi => by
    have ho := h.ag i hi
    unfold agOk at ho; rw [Bool.and_eq_true] at ho
    exact devB_of ho.1
  have := cntD_ag (pl := pl) (kn := kn) (ag := ag) (N := pl.length) (ascD_asc ag fun i hi => by have ho := h.ag i hi; unfold agOk at ho; rw [Bool.and_eq_true] at ho; exact ho.2) (fun i hi => by have := hdev i hi; omega) (fun p hp => by
    constructor
    · intro hne
      rcases mis_of_nil kn.length 0 m2 p (by omega) (by omega) with e | e
      · exact absurd e.symm hne
      · exact agr_iff.1 e
    · rintro ⟨i, hi, e⟩ heq
      obtain ⟨d1, d2, d3⟩ := hdev i hi
      rw [e, Int.toNat_natCast] at d2 d3
      rw [← d2, heq] at d3
      exact d3 rfl) pl.length 0 0 (by omega) (by omega) (fun i hi => by omega) (fun i _ hl => by have := hdev i hl; omega)
  omega
theorem wr10 {pl kn : List Int} (pw ph : Nat) (hpw : 1 ≤ pw ∧ pw ≤ 8) (hph : 1 ≤ ph ∧ ph ≤ 8) (hpl : pl.length = pw * ph) (hkn : kn.length = pw * ph) (i : Nat) (hi : i < ph) : ∀ (d K j : Nat) (rows : List V2) (x : Int), j + d = pw → d + 10 ≤ K → rows.length + d ≤ 1000 → ∃ (K' : Nat) (rows' : List V2) (y : Int), K = K' + d + 1 ∧ rows'.length = rows.length + cntD pl kn (i * pw + j) d ∧ impl_wrong.l10 K 0 0 pw ph pl pw ph kn rows x (i : Int) ph (i : Int) pw (j : Int) = impl_wrong.l4 K' 0 0 pw ph pl pw ph kn rows' y ph ((i + 1 : Nat) : Int) := by
  have hN : pw * ph ≤ 64 := Nat.le_trans (Nat.mul_le_mul hpw.2 hph.2) (by decide)
  intro d
  induction d with
  | zero =>
    intro K j rows x h1 h2 h3
    obtain ⟨K, rfl⟩ := succ_of (show 0 < K by omega)
    refine ⟨K, rows, x, rfl, by simp [cntD], ?_⟩
    simp only [impl_wrong.l10, impl_wrong.b10]
    rw [if_neg (by omega), w64_id (by omega)]; rfl
  | succ d ih =>
    intro K j rows x h1 h2 h3
    obtain ⟨K, rfl⟩ := succ_of (show 0 < K by omega)
    have hp : i * pw + j < pw * ph := by
      have h5 : (i + 1) * pw ≤ ph * pw := Nat.mul_le_mul_right _ hi
      rw [Nat.mul_comm ph pw, Nat.succ_mul] at h5
      omega
    have hcast : ((i : Int) * (pw : Int)) = ((i * pw : Nat) : Int) := by rw [Int.natCast_mul]
    simp only [impl_wrong.l10, impl_wrong.b10]
    unfold impl_Chart_hasPlace.f impl_Chart_hasPlace.m impl_Chart_at.f impl_Chart_at.m
    rw [if_pos (by omega), Int.add_zero, Int.add_zero, w64_id (x := (i : Int)) (by omega), w64_id (x := (j : Int)) (by omega), w64_id (x := (ph : Int) - 1) (by omega), w64_id (x := (pw : Int) - 1) (by omega), implIn_eq, inB_of (by omega)]
    simp only [Option.bind_some, cond_true]
    rw [implIn_eq, inB_of (by omega)]
    simp only [Option.bind_some, Bool.not_true, Bool.not_false, cond_true, cond_false, Bool.true_and, Bool.false_and, Bool.and_true, Bool.and_false, Bool.false_eq_true, Bool.true_or, Bool.or_true, Bool.false_or, Bool.or_false, Bool.or_self, Bool.and_self, decide_true, decide_false, if_true, if_false, not_true, not_false_eq_true, not_true_eq_false, false_or, or_false, true_and, and_true, Bool.not_eq_true, Bool.true_eq_false, reduceCtorEq]
    rw [hcast, w64_id (x := ((i * pw : Nat) : Int)) (by omega), w64_id (x := ((i * pw : Nat) : Int) + (j : Int)) (by omega), show ((i * pw : Nat) : Int) + (j : Int) = ((i * pw + j : Nat) : Int) by omega, chk_nat (by omega), chk_nat (by omega)]
    simp only [Option.bind_some]
    rw [w64_id (x := (j : Int) + 1) (by omega), show ((j : Int) + 1) = ((j + 1 : Nat) : Int) by omega]
    by_cases e : pl.getD (i * pw + j) 0 = kn.getD (i * pw + j) 0
    · rw [if_neg (fun h => h e)]
      obtain ⟨K', rows', y, e1, e2, e3⟩ := ih K (j + 1) rows (w64 (x + 1)) (by omega) (by omega) (by omega)
      refine ⟨K', rows', y, by omega, ?_, e3⟩
      rw [e2, cntD, if_pos e, show i * pw + j + 1 = i * pw + (j + 1) by omega]; omega
    · rw [if_pos e, app_ok (by simp; omega)]
      simp only [Option.bind_some]
      obtain ⟨K', rows', y, e1, e2, e3⟩ := ih K (j + 1) (rows ++ [((i : Int), (j : Int))]) (w64 (x + 1)) (by omega) (by omega) (by simp; omega)
      refine ⟨K', rows', y, by omega, ?_, e3⟩
      rw [e2, cntD, if_neg e, show i * pw + j + 1 = i * pw + (j + 1) by omega]
      simp; omega
theorem wr4 {pl kn : List Int} (pw ph : Nat) (hpw : 1 ≤ pw ∧ pw ≤ 8) (hph : 1 ≤ ph ∧ ph ≤ 8) (hpl : pl.length = pw * ph) (hkn : kn.length = pw * ph) : ∀ (d K i : Nat) (rows : List V2) (x : Int), i + d = ph → 30 * d + 10 ≤ K → rows.length + 8 * d ≤ 900 → ∃ (rows' : List V2) (y : Int), rows'.length = rows.length + cntD pl kn (i * pw) (d * pw) ∧ impl_wrong.l4 K 0 0 pw ph pl pw ph kn rows x ph (i : Int) = some (rows', y) := by
  have hcb : ∀ d p, cntD pl kn p d ≤ d := by
    intro d
    induction d with
    | zero => intro p; simp [cntD]
    | succ d ih => intro p; have := ih (p + 1); simp only [cntD]; split <;> omega
  intro d
  induction d with
  | zero =>
    intro K i rows x h1 h2 h3
    obtain ⟨K, rfl⟩ := succ_of (show 0 < K by omega)
    refine ⟨rows, x, by simp [cntD], ?_⟩
    simp only [impl_wrong.l4, impl_wrong.b4]
    rw [if_neg (by omega)]
  | succ d ih =>
    intro K i rows x h1 h2 h3
    obtain ⟨K, rfl⟩ := succ_of (show 0 < K by omega)
    simp only [impl_wrong.l4, impl_wrong.b4]
    rw [if_pos (by omega)]
    obtain ⟨K', rows', y, e1, e2, e3⟩ := wr10 pw ph hpw hph hpl hkn i (by omega) pw K 0 rows x (by omega) (by omega) (by omega)
    rw [show ((0 : Nat) : Int) = 0 from rfl] at e3
    rw [e3]
    have hb := hcb pw (i * pw + 0)
    obtain ⟨rows2, y2, f1, f2⟩ := ih K' (i + 1) rows' y (by omega) (by omega) (by omega)
    refine ⟨rows2, y2, ?_, f2⟩
    rw [f1, e2, show (d + 1) * pw = pw + d * pw by rw [Nat.succ_mul]; omega, cntD_add, Nat.succ_mul, Nat.add_zero]; omega
theorem diff_done (k : Nat) {pw ph : Int} {pl kn : List Int} {wf : Int} {ag : List V2} (hg : weaveB pw ph pl kn wf ag true = true) (hk : 3000 ≤ k) : ∃ y, impl_DifferencesAt.f k pw ph pl pw ph kn 0 0 = some ((ag.length : Int), y, true) := by
  obtain ⟨hlen, hcnt⟩ := done_cnt hg
  have h := (weaveB_iff.1 hg).1
  obtain ⟨b1, b2, b3, b4, b5, b6⟩ := h.bds
  obtain ⟨gw, gh, gl, _⟩ := good_of h.g
  have hgk : goodB pw ph kn = true := by
    have hc := h.col
    unfold goodB; rw [inB_of gw, inB_of gh, decide_eq_true (show (kn.length : Int) = pw * ph by omega), hc]; rfl
  obtain ⟨pw, rfl⟩ := Int.eq_ofNat_of_zero_le (show 0 ≤ pw by omega)
  obtain ⟨ph, rfl⟩ := Int.eq_ofNat_of_zero_le (show 0 ≤ ph by omega)
  have hpl : pl.length = pw * ph := by rw [← Int.natCast_mul] at gl; omega
  obtain ⟨rows', y, e1, e2⟩ := wr4 (pl := pl) (kn := kn) pw ph (by omega) (by omega) hpl (by omega) ph k 0 [] 0 (by omega) (by omega) (by simp; omega)
  refine ⟨y, ?_⟩
  unfold impl_DifferencesAt.f impl_DifferencesAt.m impl_arePhotos.f impl_arePhotos.m impl_isShift.f impl_isShift.m impl_wrong.f impl_wrong.m
  rw [isChart_eq k pw ph pl (by omega) (by omega), isChart_eq k pw ph kn (by omega) (by omega), h.g, hgk]
  simp only [Option.bind_some, Bool.not_true, Bool.not_false, cond_true, cond_false, Bool.true_and, Bool.false_and, Bool.and_true, Bool.and_false, Bool.false_eq_true, Bool.true_or, Bool.or_true, Bool.false_or, Bool.or_false, Bool.or_self, Bool.and_self, decide_true, decide_false, if_true, if_false, not_true, not_false_eq_true, not_true_eq_false, false_or, or_false, true_and, and_true, Bool.not_eq_true, Bool.true_eq_false, reduceCtorEq, implIn_eq]
  rw [show inB 0 (-2) 2 = true from rfl]
  simp only [Option.bind_some, Bool.not_true, Bool.not_false, cond_true, cond_false, Bool.true_and, Bool.false_and, Bool.and_true, Bool.and_false, Bool.false_eq_true, Bool.true_or, Bool.or_true, Bool.false_or, Bool.or_false, Bool.or_self, Bool.and_self, decide_true, decide_false, if_true, if_false, not_true, not_false_eq_true, not_true_eq_false, false_or, or_false, true_and, and_true, Bool.not_eq_true, Bool.true_eq_false, reduceCtorEq]
  rw [show ((0 : Nat) : Int) = 0 from rfl] at e2
  rw [e2]; simp only [Option.bind_some]
  rw [e1, Nat.zero_mul, show ph * pw = pl.length by rw [hpl, Nat.mul_comm], hcnt]
  simp
theorem pure_holds : Pure := by
  intro l _ hw
  have hb := By.of hw
  refine ⟨40000, ?_⟩
  unfold laws_FnWeaving.f laws_FnWeaving.m laws_vBig.f laws_vBig.m
  simp only [Option.bind_some]
  cases decide (65536 < (l.length : Int)) with
  | true => rfl
  | false =>
  simp only [Bool.not_true, Bool.not_false, cond_true, cond_false, Bool.true_and, Bool.false_and, Bool.and_true, Bool.and_false, Bool.false_eq_true, Bool.true_or, Bool.or_true, Bool.false_or, Bool.or_false, Bool.or_self, Bool.and_self, decide_true, decide_false, if_true, if_false, not_true, not_false_eq_true, not_true_eq_false, false_or, or_false, true_and, and_true, Bool.not_eq_true, Bool.true_eq_false, reduceCtorEq]
  obtain ⟨⟨pw, ph, pl, kn, wf, ag, dn, kind, color⟩, e, h1, h2, h3⟩ := drawStep_ok 40000 hb (by omega)
  dsimp only at h1 h2 h3
  rw [e]; simp only [Option.bind_some]
  rw [specStepAny 40000 _ _ h1 h2 h3 (by omega), implStepAny 40000 _ _ h1 h2 h3 (by omega)]; simp only [Option.bind_some]
  have hspec : spec_IsWeaving.f 40000 pw ph pl kn wf ag dn = some (weaveB pw ph pl kn wf ag dn) := by
    unfold spec_IsWeaving.f spec_IsWeaving.m; rw [sgood_eq _ _ _ _ _ _ _ _ (by omega) (by omega) (by omega)]; rfl
  have himpl := igood_eq 40000 pw ph pl kn wf ag dn (by omega) (by omega) (by omega) (by omega)
  have hl6f : ∀ (x8 x9 : Int) (l10 l11 : List Int) (x12 : Int) (l13 : List V2) (x14 : Bool), laws_FnWeaving.l6 40000 l pw ph pl kn wf ag dn x8 x9 l10 l11 x12 l13 x14 false = some true := fun _ _ _ _ _ _ _ => runTail 39997 hb (by omega)
  by_cases hs : weaveB pw ph pl kn wf ag dn = true
  · rw [if_pos hs]
    cases h : stepW pw ph pl kn wf ag dn kind color with
    | none =>
      simp only [outW, Bool.not_true, Bool.not_false, cond_true, cond_false, Bool.true_and, Bool.false_and, Bool.and_true, Bool.and_false, Bool.false_eq_true, Bool.true_or, Bool.or_true, Bool.false_or, Bool.or_false, Bool.or_self, Bool.and_self, decide_true, decide_false, if_true, if_false, not_true, not_false_eq_true, not_true_eq_false, false_or, or_false, true_and, and_true, Bool.not_eq_true, Bool.true_eq_false, reduceCtorEq]
      rw [vW_self _ 0 0 [] [] 0 [] false (by simp) (by simp) (by simp) (by omega), hspec, himpl]; simp only [Option.bind_some, Bool.not_true, Bool.not_false, cond_true, cond_false, Bool.true_and, Bool.false_and, Bool.and_true, Bool.and_false, Bool.false_eq_true, Bool.true_or, Bool.or_true, Bool.false_or, Bool.or_false, Bool.or_self, Bool.and_self, decide_true, decide_false, if_true, if_false, not_true, not_false_eq_true, not_true_eq_false, false_or, or_false, true_and, and_true, Bool.not_eq_true, Bool.true_eq_false, reduceCtorEq]
      exact hl6f _ _ _ _ _ _ _
    | some r =>
      obtain ⟨k', w', a', d'⟩ := r
      have hg := step_good h
      have hw' := (weaveB_iff.1 hg).1
      obtain ⟨b1, b2, b3, b4, b5, b6⟩ := hw'.bds
      have h10 := hw'.ag10
      rw [show outW pw ph pl (some (k', w', a', d')) = (pw, ph, pl, k', w', a', d', true) from rfl]
      simp only [Bool.not_true, Bool.not_false, cond_true, cond_false, Bool.true_and, Bool.false_and, Bool.and_true, Bool.and_false, Bool.false_eq_true, Bool.true_or, Bool.or_true, Bool.false_or, Bool.or_false, Bool.or_self, Bool.and_self, decide_true, decide_false, if_true, if_false, not_true, not_false_eq_true, not_true_eq_false, false_or, or_false, true_and, and_true, Bool.not_eq_true, Bool.true_eq_false, reduceCtorEq]
      rw [vW_self _ _ _ _ _ _ _ _ (by omega) (by omega) (by omega) (by omega), hspec, himpl, igood_eq 40000 pw ph pl k' w' a' d' (by omega) (by omega) (by omega) (by omega), hg]; simp only [Option.bind_some, Bool.not_true, Bool.not_false, cond_true, cond_false, Bool.true_and, Bool.false_and, Bool.and_true, Bool.and_false, Bool.false_eq_true, Bool.true_or, Bool.or_true, Bool.false_or, Bool.or_false, Bool.or_self, Bool.and_self, decide_true, decide_false, if_true, if_false, not_true, not_false_eq_true, not_true_eq_false, false_or, or_false, true_and, and_true, Bool.not_eq_true, Bool.true_eq_false, reduceCtorEq]
      have hdn : dn = false := by
        cases dn with
        | false => rfl
        | true => unfold stepW at h; rw [if_pos rfl] at h; cases h
      cases d' with
      | false => exact runTail 39997 hb (by omega)
      | true =>
        obtain ⟨y, hdf⟩ := diff_done 39998 hg (by omega)
        have h11 : laws_FnWeaving.l11 39999 l pw ph pl kn wf ag dn pw ph pl k' w' a' true true = some true := by
          show laws_FnWeaving.b11 (laws_FnWeaving.l10 39998) 39998 l pw ph pl kn wf ag dn pw ph pl k' w' a' true true = some true
          unfold laws_FnWeaving.b11
          rw [cond_true, wovenChart_eq 39998 hg (by omega)]; simp only [Option.bind_some]
          rw [hdf]; simp only [Option.bind_some, Bool.not_true, Bool.not_false, cond_true, cond_false, Bool.true_and, Bool.false_and, Bool.and_true, Bool.and_false, Bool.false_eq_true, Bool.true_or, Bool.or_true, Bool.false_or, Bool.or_false, Bool.or_self, Bool.and_self, decide_true, decide_false, if_true, if_false, not_true, not_false_eq_true, not_true_eq_false, false_or, or_false, true_and, and_true, Bool.not_eq_true, Bool.true_eq_false, reduceCtorEq, hdn]
          exact runTail 39997 hb (by omega)
        exact h11
  · rw [if_neg hs]; simp only [Bool.not_true, Bool.not_false, cond_true, cond_false, Bool.true_and, Bool.false_and, Bool.and_true, Bool.and_false, Bool.false_eq_true, Bool.true_or, Bool.or_true, Bool.false_or, Bool.or_false, Bool.or_self, Bool.and_self, decide_true, decide_false, if_true, if_false, not_true, not_false_eq_true, not_true_eq_false, false_or, or_false, true_and, and_true, Bool.not_eq_true, Bool.true_eq_false, reduceCtorEq]
    rw [vW_self _ 0 0 [] [] 0 [] false (by simp) (by simp) (by simp) (by omega), hspec, himpl]; simp only [Option.bind_some, Bool.not_true, Bool.not_false, cond_true, cond_false, Bool.true_and, Bool.false_and, Bool.and_true, Bool.and_false, Bool.false_eq_true, Bool.true_or, Bool.or_true, Bool.false_or, Bool.or_false, Bool.or_self, Bool.and_self, decide_true, decide_false, if_true, if_false, not_true, not_false_eq_true, not_true_eq_false, false_or, or_false, true_and, and_true, Bool.not_eq_true, Bool.true_eq_false, reduceCtorEq]
    exact hl6f _ _ _ _ _ _ _
end Go.Proofs.Ytebljeaeoedgjaa.DFnWeaving
