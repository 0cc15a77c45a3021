/- No yarn is made up, and all that is gone is used or wasted. -/
import Derived.Test.YtahglcpndiadnaaDFnYarnStores
set_option linter.unusedVariables false
set_option linter.unusedSimpArgs false
set_option maxRecDepth 100000
namespace Go.Proofs.Ytahglcpndiadnaa.DFnYarnStores
open Go Go.Proofs.YtahglcpndiadnaaD
theorem succ_of {k : Nat} (h : 0 < k) : ∃ j, k = j + 1 := ⟨k - 1, by omega⟩
theorem w64_id {x : Int} (h : -9223372036854775808 ≤ x ∧ x ≤ 9223372036854775807) : w64 x = x := by
  unfold w64 IntKind.wrap
  simp [IntKind.signed, IntKind.bits]
  omega
theorem chk_nat {n j : Nat} (h : j < n) : chk n (j : Int) = some j := by unfold chk; rw [if_pos (by omega)]; simp
theorem chk_int {n : Nat} {i : Int} (h : 0 ≤ i ∧ i < n) : chk n i = some i.toNat := by unfold chk; rw [if_pos h]
theorem cut_int {n : Nat} {i j : Int} (h : 0 ≤ i ∧ i ≤ j ∧ j ≤ n) : cut n i j = some (i.toNat, j.toNat - i.toNat) := by unfold cut; rw [if_pos h]
theorem cutTo_int {n : Nat} {j : Int} (h : 0 ≤ j ∧ j ≤ n) : cutTo n j = some j.toNat := by unfold cutTo; rw [if_pos h]
theorem cut3_int {n : Nat} {i j m : Int} (h : 0 ≤ i ∧ i ≤ j ∧ j ≤ m ∧ m ≤ n) : cut3 n i j m = some () := by unfold cut3; rw [if_pos h]
theorem mkl_int {L : Nat} {n c : Int} (h : 0 ≤ n ∧ n ≤ c ∧ c ≤ L) : mkl L n c = some n.toNat := by unfold mkl; rw [if_pos h]
theorem selfApp_nat {i lo m : Nat} (h : i ≤ lo) : selfApp i lo m = some (i + m) := by unfold selfApp; rw [if_pos h]
section
variable {β : Type}
theorem app_ok {L : Nat} {xs ys : List β} (h : xs.length + ys.length ≤ L) : app L xs ys = some (xs ++ ys) := by unfold app; rw [if_pos h]
theorem chk_mid (p : List β) (a : β) (q : List β) : chk (p ++ a :: q).length (p.length : Int) = some p.length := chk_nat (by simp)
theorem getD_mid (p : List β) (a : β) (q : List β) (d : β) : (p ++ a :: q).getD p.length d = a := by
  rw [List.getD_eq_getElem?_getD, List.getElem?_append_right (Nat.le_refl _)]; simp
theorem set_mid (p : List β) (a b : β) (q : List β) : (p ++ a :: q).set p.length b = p ++ b :: q := by
  rw [List.set_append_right _ _ (Nat.le_refl _)]; simp
theorem upd_mid (p : List β) (a : β) (q : List β) (d : β) (f : β → β) : upd (p ++ a :: q) p.length d f = p ++ f a :: q := by
  unfold upd; rw [getD_mid, set_mid]
theorem upd_len (xs : List β) (j : Nat) (d : β) (f : β → β) : (upd xs j d f).length = xs.length := by unfold upd; simp
theorem upd_of {xs : List β} {j : Nat} {d : β} {f : β → β} : upd xs j d f = xs.set j (f (xs.getD j d)) := rfl
theorem lt_mid (p : List β) (a : β) (q : List β) : (p.length : Int) < ((p ++ a :: q).length : Nat) := by simp; omega
theorem next_mid {p : List β} {a : β} {q : List β} (h : (p ++ a :: q).length ≤ 1152921504606846976) : w64 ((p.length : Int) + 1) = ((p ++ [a]).length : Nat) := by
  rw [w64_id (by simp at h; omega)]; simp
theorem snoc_app (p : List β) (a : β) (q : List β) : p ++ a :: q = (p ++ [a]) ++ q := by simp
theorem getD_lt {xs : List β} {i : Nat} {d : β} (h : i < xs.length) : xs.getD i d = xs[i] := by
  rw [List.getD_eq_getElem?_getD, List.getElem?_eq_getElem h]; rfl
theorem getD_set {xs : List β} {i j : Nat} {a d : β} (h : i < xs.length) : (xs.set i a).getD j d = if i = j then a else xs.getD j d := by
  rw [List.getD_eq_getElem?_getD, List.getD_eq_getElem?_getD, List.getElem?_set]
  split
  · rename_i e; subst e; simp [h]
  · rfl
theorem some_bind {γ : Type} (x : β) (f : β → Option γ) : (some x).bind f = f x := rfl
end
def inB (n lo hi : Int) : Bool := decide (lo ≤ n) && decide (n ≤ hi)
theorem inB_iff {n lo hi : Int} : inB n lo hi = true ↔ lo ≤ n ∧ n ≤ hi := by unfold inB; simp
theorem inB_of {n lo hi : Int} (h : lo ≤ n ∧ n ≤ hi) : inB n lo hi = true := inB_iff.2 h
theorem notB {b : Bool} (h : ¬ b = true) : b = false := by cases b <;> simp_all
theorem all_loop {β : Type} {L : Nat → Nat → Option β} {n K0 : Nat} {ok : Nat → Bool} {f : Option β} (hs : ∀ k i, K0 ≤ k → i < n → L (k + 1) i = if ok i = true then L k (i + 1) else f) :
    ∀ (d k i : Nat), i + d = n → K0 + d < k → (∀ e, (∀ k, K0 ≤ k → L (k + 1) n = e) → (∀ j, i ≤ j → j < n → ok j = true) → L k i = e) ∧ ((∃ j, i ≤ j ∧ j < n ∧ ok j = false) → L k i = f) := by
  intro d
  induction d with
  | zero =>
    intro k i h1 h2
    obtain ⟨k, rfl⟩ := succ_of (show 0 < k by omega)
    have : i = n := by omega
    subst this
    exact ⟨fun e he _ => he k (by omega), fun ⟨j, a, b, _⟩ => by omega⟩
  | succ d ih =>
    intro k i h1 h2
    obtain ⟨k, rfl⟩ := succ_of (show 0 < k by omega)
    have := ih k (i + 1) (by omega) (by omega)
    rw [hs k i (by omega) (by omega)]
    refine ⟨fun e he h => ?_, fun ⟨j, a, b, c⟩ => ?_⟩
    · rw [if_pos (h i (Nat.le_refl _) (by omega))]; exact this.1 e he fun j a b => h j (by omega) b
    · by_cases e : ok i = true
      · rw [if_pos e]
        refine this.2 ⟨j, ?_, b, c⟩
        rcases Nat.lt_or_ge i j with h | h
        · exact h
        · have : j = i := by omega
          subst this; rw [e] at c; cases c
      · rw [if_neg e]
theorem exists_bad {n : Nat} {ok : Nat → Bool} (h : ¬ ∀ i, i < n → ok i = true) : ∃ j, 0 ≤ j ∧ j < n ∧ ok j = false := by
  apply Classical.byContradiction; intro hn
  refine h fun j hj => ?_
  cases hc : ok j with
  | true => rfl
  | false => exact absurd ⟨j, Nat.zero_le _, hj, hc⟩ hn
theorem first_bad {n : Nat} {ok : Nat → Bool} (h : ¬ ∀ i, i < n → ok i = true) : ∃ j, j < n ∧ ok j = false ∧ ∀ i, i < j → ok i = true := by
  induction n with
  | zero => exact absurd (fun i hi => by omega) h
  | succ n ih =>
    by_cases h1 : ∀ i, i < n → ok i = true
    · refine ⟨n, by omega, ?_, h1⟩
      cases hc : ok n with
      | false => rfl
      | true => exact absurd (fun i hi => by
          rcases Nat.lt_or_ge i n with h' | h'
          · exact h1 i h'
          · have : i = n := by omega
            rw [this]; exact hc) h
    · obtain ⟨j, a, b, c⟩ := ih h1
      exact ⟨j, by omega, b, c⟩
theorem find_loop {L : Nat → Nat → Option Int} {n K0 : Nat} {ok : Nat → Bool} (hs : ∀ k i, K0 ≤ k → i < n → L (k + 1) i = if ok i = true then some (i : Int) else L k (i + 1)) (he : ∀ k, K0 ≤ k → L (k + 1) n = some (-1)) :
    ∀ (d k i : Nat), i + d = n → K0 + d < k → ((∀ j, i ≤ j → j < n → ok j = false) → L k i = some (-1)) ∧ (∀ m, i ≤ m → m < n → ok m = true → (∀ j, i ≤ j → j < m → ok j = false) → L k i = some (m : Int)) := by
  intro d
  induction d with
  | zero =>
    intro k i h1 h2
    obtain ⟨k, rfl⟩ := succ_of (show 0 < k by omega)
    have : i = n := by omega
    subst this
    exact ⟨fun _ => he k (by omega), fun m a b _ _ => by omega⟩
  | succ d ih =>
    intro k i h1 h2
    obtain ⟨k, rfl⟩ := succ_of (show 0 < k by omega)
    have := ih k (i + 1) (by omega) (by omega)
    rw [hs k i (by omega) (by omega)]
    refine ⟨fun h => ?_, fun m a b c h => ?_⟩
    · rw [if_neg (by rw [h i (Nat.le_refl _) (by omega)]; simp)]; exact this.1 fun j a b => h j (by omega) b
    · by_cases e : ok i = true
      · rw [if_pos e]
        rcases Nat.lt_or_ge i m with h' | h'
        · have := h i (Nat.le_refl _) h'; rw [e] at this; cases this
        · have : m = i := by omega
          rw [this]
      · rw [if_neg e]
        refine this.2 m ?_ b c fun j a b => h j (by omega) b
        rcases Nat.lt_or_ge i m with h' | h'
        · exact h'
        · have : m = i := by omega
          subst this; exact absurd c e
theorem stepb {α γ : Type} {a : Option α} {x : α} {f : α → Option γ} {r : Option γ} (h : a = some x) (g : f x = r) : a.bind f = r := by rw [h]; exact g
theorem ifn {γ : Type} {c : Prop} {i : Decidable c} {t e r : γ} (h : ¬ c) (g : e = r) : @ite γ c i t e = r := by rw [if_neg h]; exact g
theorem condt {γ : Type} {a b r : γ} (g : b = r) : cond (!true) a b = r := g
def Yl {α : Type} (x : Option α) (P : α → Prop) : Prop := ∃ a, x = some a ∧ P a
theorem Yl.bind {α β : Type} {x : Option α} {f : α → Option β} {P : α → Prop} {Q : β → Prop} (h : Yl x P) (g : ∀ a, P a → Yl (f a) Q) : Yl (x.bind f) Q := by
  obtain ⟨a, rfl, ha⟩ := h; exact g a ha
theorem Yl.mono {α : Type} {x : Option α} {P Q : α → Prop} (h : Yl x P) (g : ∀ a, P a → Q a) : Yl x Q := by
  obtain ⟨a, e, ha⟩ := h; exact ⟨a, e, g a ha⟩
theorem Yl.ret {α : Type} {a : α} {P : α → Prop} (h : P a) : Yl (some a) P := ⟨a, rfl, h⟩
theorem Yl.ite {α : Type} {c : Prop} [i : Decidable c] {t e : Option α} {P : α → Prop} (ht : c → Yl t P) (he : ¬ c → Yl e P) : Yl (@ite _ c i t e) P := by
  by_cases h : c
  · rw [if_pos h]; exact ht h
  · rw [if_neg h]; exact he h
theorem Yl.cond {α : Type} {c : Bool} {t e : Option α} {P : α → Prop} (ht : c = true → Yl t P) (he : c = false → Yl e P) : Yl (cond c t e) P := by
  cases c
  · exact he rfl
  · exact ht rfl
def By (l : List Int) : Prop := ∀ y ∈ l, 0 ≤ y ∧ y ≤ 255
theorem By.of {l : List Int} (h : ∀ y ∈ l, (Lit.int .u8 y).wf = true) : By l := by
  intro y hy; have h := h y hy
  unfold Lit.wf at h; rw [Bool.and_eq_true] at h
  have h1 := of_decide_eq_true h.1; have h2 := of_decide_eq_true h.2
  exact ⟨h1, h2⟩
theorem byteBits (q : Int) : 0 ≤ band .u64 q 255 ∧ band .u64 q 255 ≤ 255 := by
  have h : (BitVec.ofInt 64 q &&& BitVec.ofInt 64 255).toNat ≤ 255 := by
    rw [BitVec.toNat_and]
    exact Nat.le_trans Nat.and_le_right (by decide)
  change 0 ≤ IntKind.wrap .u64 ((((BitVec.ofInt 64 q &&& BitVec.ofInt 64 255).toNat : Nat)) : Int) ∧ IntKind.wrap .u64 ((((BitVec.ofInt 64 q &&& BitVec.ofInt 64 255).toNat : Nat)) : Int) ≤ 255
  generalize (BitVec.ofInt 64 q &&& BitVec.ofInt 64 255).toNat = n at *
  unfold IntKind.wrap
  simp [IntKind.signed, IntKind.bits]
  omega
theorem next_ok (k : Nat) {l : List Int} {a : Int} (s : Int) (hb : By l) (h : 0 ≤ a ∧ a ≤ 1000000000000000) (hk : 5 ≤ k) : Yl (spec_l1Cur_next.f k l a s) fun r => r.2.1 = l ∧ r.2.2.1 = a + 1 ∧ 0 ≤ r.1 ∧ r.1 ≤ 255 := by
  obtain ⟨k, rfl⟩ := succ_of (show 0 < k by omega)
  have key : ∀ b : Int, 0 ≤ b ∧ b ≤ 255 → Yl (spec_l1Cur_next.l2 (k + 1) l a s b) fun r => r.2.1 = l ∧ r.2.2.1 = a + 1 ∧ 0 ≤ r.1 ∧ r.1 ≤ 255 := fun b hbb => by
    simp only [spec_l1Cur_next.l2, spec_l1Cur_next.b2]
    rw [w64_id (x := a + 1) (by omega)]
    refine Yl.ite (fun _ => Yl.ret ⟨rfl, rfl, hbb⟩) fun _ => ?_
    unfold shr; rw [if_neg (by omega)]; simp only [Option.bind_some]
    refine Yl.ret ⟨rfl, rfl, ?_⟩
    have := byteBits ((IntKind.u64.wrap (IntKind.u64.wrap (IntKind.u64.wrap (s * 6364136223846793005) + IntKind.u64.wrap b) + 102323)).fdiv (2 ^ min (Int.toNat 40) IntKind.u64.bits))
    rw [w64_id (by omega)]; exact this
  unfold spec_l1Cur_next.f spec_l1Cur_next.m
  refine Yl.ite (fun hlt => ?_) fun _ => key 0 (by omega)
  rw [chk_int (by omega)]; simp only [Option.bind_some]
  have hi : a.toNat < l.length := by omega
  have := hb _ (List.getElem_mem hi)
  rw [getD_lt hi, w64_id (by omega)]
  exact key _ this
theorem pick_ok (k : Nat) {l : List Int} {a : Int} (s n : Int) (hb : By l) (h : 0 ≤ a ∧ a ≤ 1000000000000) (hk : 5 ≤ k) : Yl (spec_l1Cur_pick.f k l a s n) fun r => r.2.1 = l ∧ a ≤ r.2.2.1 ∧ r.2.2.1 ≤ a + 2 ∧ 0 ≤ r.1 ∧ (r.1 = 0 ∨ r.1 < n) ∧ r.1 ≤ 65535 := by
  unfold spec_l1Cur_pick.f spec_l1Cur_pick.m
  refine Yl.ite (fun _ => Yl.ret ⟨rfl, by simp, by dsimp only; omega, by simp⟩) fun hn => ?_
  refine Yl.bind (next_ok k s hb (by omega) hk) ?_
  rintro ⟨b, l', a', s'⟩ ⟨e1, e2, e3, e4⟩
  dsimp only at *; subst e1; subst e2
  refine Yl.ite (fun hn2 => ?_) fun _ => ?_
  · refine Yl.bind (next_ok k s' hb (by omega) hk) ?_
    rintro ⟨c, l2, a2, s2⟩ ⟨f1, f2, f3, f4⟩
    dsimp only at *; subst f1; subst f2
    rw [w64_id (x := b * 256) (by omega), w64_id (by omega)]
    unfold rem; rw [if_neg (by omega)]; simp only [Option.bind_some]
    rw [Int.tmod_eq_emod_of_nonneg (by omega)]
    have := Int.emod_nonneg (b * 256 + c) (show n ≠ 0 by omega)
    have := Int.emod_lt_of_pos (b * 256 + c) (show 0 < n by omega)
    have : (b * 256 + c) % n ≤ b * 256 + c := by
      rcases Int.lt_or_le (b * 256 + c) n with h | h
      · rw [Int.emod_eq_of_lt (by omega) h]; omega
      · omega
    exact Yl.ret ⟨rfl, by dsimp only; omega, by dsimp only; omega, by omega, by omega, by dsimp only; omega⟩
  · unfold rem; rw [if_neg (by omega)]; simp only [Option.bind_some]
    rw [Int.tmod_eq_emod_of_nonneg (by omega)]
    have := Int.emod_nonneg b (show n ≠ 0 by omega)
    have := Int.emod_lt_of_pos b (show 0 < n by omega)
    exact Yl.ret ⟨rfl, by dsimp only; omega, by dsimp only; omega, by omega, by omega, by dsimp only; omega⟩
theorem one_ok (k : Nat) {l : List Int} {a : Int} (s n : Int) (hb : By l) (h : 0 ≤ a ∧ a ≤ 1000000000000) (hk : 5 ≤ k) : Yl (spec_l1Cur_one.f k l a s n) fun r => r.2.1 = l ∧ a ≤ r.2.2.1 ∧ r.2.2.1 ≤ a + 2 := by
  unfold spec_l1Cur_one.f spec_l1Cur_one.m
  refine Yl.bind (pick_ok k s n hb h hk) ?_
  rintro ⟨b, l', a', s'⟩ ⟨e1, e2, e3, e4⟩
  exact Yl.ret ⟨e1, e2, e3⟩
theorem among_ok (k : Nat) {l : List Int} {a : Int} (s : Int) {xs : List Int} (lo hi : Int) (hx : 0 < xs.length ∧ xs.length ≤ 60000) (hm : ∀ x ∈ xs, lo ≤ x ∧ x ≤ hi) (hb : By l) (h : 0 ≤ a ∧ a ≤ 1000000000000) (hk : 5 ≤ k) : Yl (spec_l1Cur_among_2.f k l a s xs) fun r => r.2.1 = l ∧ r.2.2.2.2 = xs ∧ a ≤ r.2.2.1 ∧ r.2.2.1 ≤ a + 2 ∧ lo ≤ r.1 ∧ r.1 ≤ hi := by
  unfold spec_l1Cur_among_2.f spec_l1Cur_among_2.m
  refine Yl.bind (pick_ok k s _ hb h hk) ?_
  rintro ⟨b, l', a', s'⟩ ⟨e1, e2, e3, e4, e5, e6⟩
  dsimp only at *
  rw [chk_int (by omega)]; simp only [Option.bind_some]
  have hi : b.toNat < xs.length := by omega
  have := hm _ (List.getElem_mem hi)
  rw [getD_lt hi]
  exact Yl.ret ⟨e1, rfl, e2, e3, this⟩
theorem among_any (k : Nat) {l : List Int} {a : Int} (s : Int) {xs : List Int} (hx : 0 < xs.length ∧ xs.length ≤ 60000) (hb : By l) (h : 0 ≤ a ∧ a ≤ 1000000000000) (hk : 5 ≤ k) : Yl (spec_l1Cur_among_2.f k l a s xs) fun r => r.2.1 = l ∧ r.2.2.2.2 = xs ∧ a ≤ r.2.2.1 ∧ r.2.2.1 ≤ a + 2 := by
  unfold spec_l1Cur_among_2.f spec_l1Cur_among_2.m
  refine Yl.bind (pick_ok k s _ hb h hk) ?_
  rintro ⟨b, l', a', s'⟩ ⟨e1, e2, e3, e4, e5, e6⟩
  dsimp only at *
  rw [chk_int (by omega)]; simp only [Option.bind_some]
  exact Yl.ret ⟨e1, rfl, e2, e3⟩
theorem quo2 {x : Int} {β : Type} {f : Int → Option β} {P : β → Prop} (h : ∀ q, Yl (f q) P) : Yl ((quo .i64 x 2).bind f) P := by
  unfold quo; rw [if_neg (by omega)]; exact h _
theorem most_ok (k : Nat) (a b : Int) : Yl (spec_l1Most.f k a b) fun r => a ≤ r ∧ b ≤ r ∧ (r = a ∨ r = b) := by
  unfold spec_l1Most.f spec_l1Most.m
  exact Yl.ite (fun h => Yl.ret ⟨by omega, by omega, by omega⟩) fun h => Yl.ret ⟨by omega, by omega, by omega⟩
abbrev B := Int × Int × Int
def rdB (xs : List B) (i : Int) : B := xs.getD i.toNat (0, 0, 0)
theorem rdB_nat (xs : List B) (i : Nat) : rdB xs (i : Int) = xs.getD i (0, 0, 0) := by unfold rdB; rw [Int.toNat_natCast]
def bobB (next : Int) (b : B) : Bool := inB b.1 1 (next - 1) && inB b.2.1 0 5 && inB b.2.2 1 100000
def ascB : List B → Bool
  | [] => true
  | [_] => true
  | a :: b :: r => decide (a.1 < b.1) && ascB (b :: r)
def sumB : List B → Int
  | [] => 0
  | a :: r => a.2.2 + sumB r
def yarnB (bs : List B) (next bought used wasted : Int) : Bool := inB next 1 999 && inB bought 0 100000 && inB used 0 100000 && inB wasted 0 100000 && decide (bs.length ≤ 8) && bs.all (bobB next) && ascB bs && decide (bought = sumB bs + used + wasted)
theorem yarnB_of {bs : List B} {next bought used wasted : Int} (h : yarnB bs next bought used wasted = true) : (1 ≤ next ∧ next ≤ 999) ∧ (0 ≤ bought ∧ bought ≤ 100000) ∧ (0 ≤ used ∧ used ≤ 100000) ∧ (0 ≤ wasted ∧ wasted ≤ 100000) ∧ bs.length ≤ 8 ∧ (∀ b ∈ bs, bobB next b = true) ∧ ascB bs = true ∧ bought = sumB bs + used + wasted := by
  unfold yarnB at h; simp only [Bool.and_eq_true, inB_iff, decide_eq_true_eq, List.all_eq_true] at h
  obtain ⟨⟨⟨⟨⟨⟨⟨h1, h2⟩, h3⟩, h4⟩, h5⟩, h6⟩, h7⟩, h8⟩ := h
  exact ⟨h1, h2, h3, h4, h5, h6, h7, h8⟩
theorem bobB_of {next : Int} {b : B} (h : bobB next b = true) : (1 ≤ b.1 ∧ b.1 ≤ next - 1) ∧ (0 ≤ b.2.1 ∧ b.2.1 ≤ 5) ∧ (1 ≤ b.2.2 ∧ b.2.2 ≤ 100000) := by
  unfold bobB at h; simp only [Bool.and_eq_true, inB_iff] at h; exact ⟨h.1.1, h.1.2, h.2⟩
def idxB (bs : List B) (num : Int) : Int := match bs.findIdx? (fun b => decide (b.1 = num)) with | some i => (i : Int) | none => -1
theorem idxB_eq {cs : List B} {num : Int} {i : Nat} {c : B} (hc : cs[i]? = some c) (h1 : c.1 = num) (hall : ∀ (j : Nat) (d : B), j < i → cs[j]? = some d → ¬ d.1 = num) : idxB cs num = (i : Int) := by
  have hi := (List.getElem?_eq_some_iff.1 hc).1
  have hg := (List.getElem?_eq_some_iff.1 hc).2
  unfold idxB
  split
  · next k h =>
    rw [List.findIdx?_eq_some_iff_getElem] at h
    obtain ⟨hk, hp, hq⟩ := h
    rcases Nat.lt_trichotomy k i with hlt | e | hgt
    · exact absurd (by simpa using hp) (hall k _ hlt (List.getElem?_eq_getElem hk))
    · rw [e]
    · have := hq i hgt
      rw [hg] at this; simp [h1] at this
  · next h =>
    rw [List.findIdx?_eq_none_iff] at h
    have := h c (List.mem_of_getElem? hc)
    simp [h1] at this
theorem idxB_none {cs : List B} {num : Int} (h : ∀ c ∈ cs, ¬ c.1 = num) : idxB cs num = -1 := by
  unfold idxB
  have : cs.findIdx? (fun b => decide (b.1 = num)) = none := by
    rw [List.findIdx?_eq_none_iff]; intro c hc; simpa using h c hc
  rw [this]
/-- Where a bobbin stands. -/
theorem idxB_cases (cs : List B) (num : Int) : idxB cs num = -1 ∨ ∃ (i : Nat) (c : B), idxB cs num = (i : Int) ∧ i < cs.length ∧ cs[i]? = some c ∧ rdB cs (i : Int) = c ∧ c.1 = num ∧ ∀ (j : Nat) (d : B), j < i → cs[j]? = some d → ¬ d.1 = num := by
  unfold idxB
  split
  · next k h =>
    rw [List.findIdx?_eq_some_iff_getElem] at h
    obtain ⟨hk, hp, hq⟩ := h
    refine .inr ⟨k, cs[k], rfl, hk, List.getElem?_eq_getElem hk, ?_, by simpa using hp, fun j d hj hd => ?_⟩
    · unfold rdB; rw [Int.toNat_natCast, List.getD_eq_getElem?_getD, List.getElem?_eq_getElem hk]; rfl
    · have := hq j hj
      rw [(List.getElem?_eq_some_iff.1 hd).2] at this; simpa using this
  · exact .inl rfl
def noneB (l : List B) : List B := l.filter fun b => !decide (b.2.2 = 0)
theorem noneB_set {bs : List B} {i : Nat} {b : B} (hi : i < bs.length) (hall : ∀ c ∈ bs, c.2.2 ≠ 0) : noneB (bs.set i b) = if b.2.2 = 0 then bs.eraseIdx i else bs.set i b := by
  unfold noneB
  have h1 : ∀ c ∈ bs.take i, (!decide (c.2.2 = 0)) = true := fun c hc => by simpa using hall c (List.mem_of_mem_take hc)
  have h2 : ∀ c ∈ bs.drop (i + 1), (!decide (c.2.2 = 0)) = true := fun c hc => by simpa using hall c (List.mem_of_mem_drop hc)
  rw [List.set_eq_take_append_cons_drop, if_pos hi, List.filter_append, List.filter_cons, List.filter_eq_self.2 h1, List.filter_eq_self.2 h2, List.eraseIdx_eq_take_drop_succ]
  by_cases h : b.2.2 = 0
  · simp [h]
  · simp [h]
def lessB (bs : List B) (i m : Int) : List B := if (rdB bs i).2.2 = m then bs.eraseIdx i.toNat else bs.set i.toNat ⟨(rdB bs i).1, (rdB bs i).2.1, (rdB bs i).2.2 - m⟩
def putY (c : Bool) (bs : List B) (n b u w : Int) : Option (List B × Int × Int × Int × Int) := if c then some (bs, n, b, u, w) else none
def tieB (bs : List B) (i k : Int) : List B := (bs.set i.toNat ⟨(rdB bs i).1, (rdB bs i).2.1, (rdB bs i).2.2 + ((rdB bs k).2.2 - 1)⟩).eraseIdx k.toNat
/-- A step, if the store is valid. -/
def stepY (bs : List B) (next bought used wasted kind number other meters : Int) : Option (List B × Int × Int × Int × Int) :=
  if kind = 1 then putY (decide (number = 0) && inB other 0 5 && inB meters 1 100000 && yarnB (bs ++ [⟨next, other, meters⟩]) (next + 1) (bought + meters) used wasted) (bs ++ [⟨next, other, meters⟩]) (next + 1) (bought + meters) used wasted
  else if idxB bs number < 0 then none
  else if kind = 2 then putY (decide (other = 0) && inB meters 1 100000 && decide (meters < (rdB bs (idxB bs number)).2.2) && yarnB (lessB bs (idxB bs number) meters ++ [⟨next, (rdB bs (idxB bs number)).2.1, meters⟩]) (next + 1) bought used wasted) (lessB bs (idxB bs number) meters ++ [⟨next, (rdB bs (idxB bs number)).2.1, meters⟩]) (next + 1) bought used wasted
  else if kind = 3 then putY (decide (meters = 0) && decide (number ≠ other) && decide (idxB bs other ≥ 0) && decide ((rdB bs (idxB bs number)).2.1 = (rdB bs (idxB bs other)).2.1) && yarnB (tieB bs (idxB bs number) (idxB bs other)) next bought used (wasted + 1)) (tieB bs (idxB bs number) (idxB bs other)) next bought used (wasted + 1)
  else if kind = 4 then putY (decide (other = 0) && inB meters 1 100000 && decide (meters ≤ (rdB bs (idxB bs number)).2.2) && yarnB (lessB bs (idxB bs number) meters) next bought (used + meters) wasted) (lessB bs (idxB bs number) meters) next bought (used + meters) wasted
  else if kind = 5 then putY (decide (other = 0) && inB meters 1 100000 && decide (meters ≤ (rdB bs (idxB bs number)).2.2) && yarnB (lessB bs (idxB bs number) meters) next bought used (wasted + meters)) (lessB bs (idxB bs number) meters) next bought used (wasted + meters)
  else none
def outY (r : Option (List B × Int × Int × Int × Int)) : List B × Int × Int × Int × Int × Bool := match r with | some (a, b, c, d, e) => (a, b, c, d, e, true) | none => ([], 0, 0, 0, 0, false)
theorem putY_some {c : Bool} {bs bs' : List B} {n b u w n' b' u' w' : Int} (h : putY c bs n b u w = some (bs', n', b', u', w')) : c = true ∧ bs = bs' ∧ n = n' ∧ b = b' ∧ u = u' ∧ w = w' := by
  unfold putY at h
  cases c with
  | false => simp at h
  | true => simp only [if_true, Option.some.injEq, Prod.mk.injEq] at h; exact ⟨rfl, h⟩
theorem stepY_good {bs bs' : List B} {n b u w n' b' u' w' kind number other meters : Int} (h : stepY bs n b u w kind number other meters = some (bs', n', b', u', w')) : yarnB bs' n' b' u' w' = true := by
  unfold stepY at h
  split at h
  · obtain ⟨h1, rfl, rfl, rfl, rfl, rfl⟩ := putY_some h
    simp only [Bool.and_eq_true] at h1; exact h1.2
  · split at h
    · exact absurd h (by simp)
    · split at h
      · obtain ⟨h1, rfl, rfl, rfl, rfl, rfl⟩ := putY_some h
        simp only [Bool.and_eq_true] at h1; exact h1.2
      · split at h
        · obtain ⟨h1, rfl, rfl, rfl, rfl, rfl⟩ := putY_some h
          simp only [Bool.and_eq_true] at h1; exact h1.2
        · split at h
          · obtain ⟨h1, rfl, rfl, rfl, rfl, rfl⟩ := putY_some h
            simp only [Bool.and_eq_true] at h1; exact h1.2
          · split at h
            · obtain ⟨h1, rfl, rfl, rfl, rfl, rfl⟩ := putY_some h
              simp only [Bool.and_eq_true] at h1; exact h1.2
            · exact absurd h (by simp)
theorem implIn_eq (k : Nat) (n lo hi : Int) : impl_in.f k n lo hi = some (inB n lo hi) := by
  unfold impl_in.f impl_in.m inB; by_cases h : lo ≤ n <;> simp [h]
theorem specIn_eq (k : Nat) (n lo hi : Int) : spec_l1In.f k n lo hi = some (inB n lo hi) := by
  unfold spec_l1In.f spec_l1In.m inB; by_cases h : lo ≤ n <;> simp [h]
theorem implColor_eq (k : Nat) (n : Int) : impl_isColor.f k n = some (inB n 0 5) := by unfold impl_isColor.f impl_isColor.m; rw [implIn_eq]; rfl
theorem specColor_eq (k : Nat) (n : Int) : spec_l2Color.f k n = some (inB n 0 5) := by unfold spec_l2Color.f spec_l2Color.m; rw [specIn_eq]; rfl
theorem implMeters_eq (k : Nat) (n : Int) : impl_isMeters.f k n = some (inB n 1 100000) := by unfold impl_isMeters.f impl_isMeters.m; rw [implIn_eq]; rfl
theorem specMeters_eq (k : Nat) (n : Int) : spec_l21Meters.f k n = some (inB n 1 100000) := by unfold spec_l21Meters.f spec_l21Meters.m; rw [specIn_eq]; rfl
theorem implTally_eq (k : Nat) (n : Int) : impl_isTally.f k n = some (inB n 0 100000) := by unfold impl_isTally.f impl_isTally.m; rw [implIn_eq]; rfl
theorem implNumber_eq (k : Nat) (n : Int) : impl_isNumber.f k n = some (inB n 1 999) := by unfold impl_isNumber.f impl_isNumber.m; rw [implIn_eq]; rfl
theorem ssum_l (xs : List B) (n b u w : Int) (hl : xs.length ≤ 8) (hb : ∀ i, i < xs.length → 1 ≤ (xs.getD i (0, 0, 0)).2.2 ∧ (xs.getD i (0, 0, 0)).2.2 ≤ 100000) : ∀ (d k i : Nat) (acc : Int), i + d = xs.length → d < k → 0 ≤ acc → acc + 100000 * d ≤ 10000000 → spec_l21Sum.l4 k (-1) xs n b u w acc (i : Int) = some (acc + sumB (xs.drop i)) := by
  intro d
  induction d with
  | zero =>
    intro k i acc h1 h2 h3 h4
    obtain ⟨k, rfl⟩ := succ_of h2
    simp (disch := omega) only [spec_l21Sum.l4, spec_l21Sum.b4, if_neg]
    rw [List.drop_of_length_le (by omega)]; simp [sumB]
  | succ d ih =>
    intro k i acc h1 h2 h3 h4
    obtain ⟨k, rfl⟩ := succ_of (show 0 < k by omega)
    have hi : i < xs.length := by omega
    have := hb i hi
    have h := ih k (i + 1) (acc + (xs.getD i (0, 0, 0)).2.2) (by omega) (by omega) (by omega) (by omega)
    simp (disch := omega) only [spec_l21Sum.l4, spec_l21Sum.b4, if_pos, if_true, chk_nat, Option.bind_some, w64_id]
    rw [show ((i : Int) + 1) = ((i + 1 : Nat) : Int) by omega, h, List.drop_eq_getElem_cons hi, getD_lt hi]
    simp only [sumB, Int.add_assoc]
theorem isum_l (xs : List B) (hl : xs.length ≤ 8) (hb : ∀ i, i < xs.length → 1 ≤ (xs.getD i (0, 0, 0)).2.2 ∧ (xs.getD i (0, 0, 0)).2.2 ≤ 100000) : ∀ (d k i : Nat) (acc : Int), i + d = xs.length → d < k → 0 ≤ acc → acc + 100000 * d ≤ 10000000 → impl_YarnStore_sum.l4 k acc xs xs.length (i : Int) = some (acc + sumB (xs.drop i)) := by
  intro d
  induction d with
  | zero =>
    intro k i acc h1 h2 h3 h4
    obtain ⟨k, rfl⟩ := succ_of h2
    simp (disch := omega) only [impl_YarnStore_sum.l4, impl_YarnStore_sum.b4, if_neg]
    rw [List.drop_of_length_le (by omega)]; simp [sumB]
  | succ d ih =>
    intro k i acc h1 h2 h3 h4
    obtain ⟨k, rfl⟩ := succ_of (show 0 < k by omega)
    have hi : i < xs.length := by omega
    have := hb i hi
    have h := ih k (i + 1) (acc + (xs.getD i (0, 0, 0)).2.2) (by omega) (by omega) (by omega) (by omega)
    simp (disch := omega) only [impl_YarnStore_sum.l4, impl_YarnStore_sum.b4, if_pos, chk_nat, Option.bind_some, w64_id]
    rw [show ((i : Int) + 1) = ((i + 1 : Nat) : Int) by omega, h, List.drop_eq_getElem_cons hi, getD_lt hi]
    simp only [sumB, Int.add_assoc]
theorem sumB_bd : ∀ (xs : List B), (∀ b ∈ xs, 1 ≤ b.2.2 ∧ b.2.2 ≤ 100000) → 0 ≤ sumB xs ∧ sumB xs ≤ 100000 * xs.length
  | [], _ => by simp [sumB]
  | a :: r, h => by
    have h1 := h a List.mem_cons_self
    have h2 := sumB_bd r (fun b hb => h b (List.mem_cons_of_mem _ hb))
    simp only [sumB, List.length_cons]; omega
/-- Is a bobbin in its place? -/
def ascAt (xs : List B) (i : Nat) : Bool := decide (i = 0) || decide ((xs.getD (i - 1) (0, 0, 0)).1 < (xs.getD i (0, 0, 0)).1)
theorem ascB_iff : ∀ (xs : List B), ascB xs = true ↔ ∀ i, i < xs.length → ascAt xs i = true
  | [] => by simp [ascB]
  | [a] => by simp [ascB, ascAt]
  | a :: b :: r => by
    have ih := ascB_iff (b :: r)
    simp only [ascB, Bool.and_eq_true, decide_eq_true_eq, ih]
    constructor
    · rintro ⟨h1, h2⟩ i hi
      rcases i with _ | _ | i
      · simp [ascAt]
      · simp [ascAt]; exact h1
      · have := h2 (i + 1) (by simpa using hi)
        simpa [ascAt] using this
    · intro h
      refine ⟨by simpa [ascAt] using h 1 (by simp), fun i hi => ?_⟩
      rcases i with _ | i
      · simp [ascAt]
      · have := h (i + 2) (by simp at hi ⊢; omega)
        simpa [ascAt] using this
theorem all_iff (p : B → Bool) (xs : List B) : xs.all p = true ↔ ∀ i, i < xs.length → p (xs.getD i (0, 0, 0)) = true := by
  rw [List.all_eq_true]
  constructor
  · intro h i hi; rw [getD_lt hi]; exact h _ (List.getElem_mem hi)
  · intro h x hx
    obtain ⟨i, hi, rfl⟩ := List.mem_iff_getElem.1 hx
    rw [← getD_lt (d := (0, 0, 0)) hi]; exact h i hi
theorem bools {b : Bool} {c : Prop} [Decidable c] (h1 : c → b = true) (h2 : ¬ c → b = false) : b = decide c := by
  by_cases h : c <;> simp [h, h1, h2]
theorem good_eq (k : Nat) (xs : List B) (n b u w : Int) (hk : 100 ≤ k) : spec_l21Good.f k xs n b u w = some (yarnB xs n b u w) := by
  unfold spec_l21Good.f spec_l21Good.m yarnB
  simp only [specIn_eq, Option.bind_some]
  cases h1 : inB n 1 999 <;> simp
  cases h2 : inB b 0 100000 <;> simp
  cases h3 : inB u 0 100000 <;> simp
  cases h4 : inB w 0 100000 <;> simp
  by_cases h5 : 8 < (xs.length : Int)
  · rw [if_pos h5]; have : ¬ xs.length ≤ 8 := by omega
    simp [this]
  · have h5' : xs.length ≤ 8 := by omega
    rw [if_neg h5]; simp only [h5', decide_true, Bool.true_and]
    rw [inB_iff] at h1 h2 h3 h4
    have hl := (all_loop (L := fun k i => spec_l21Good.l6 k xs n b u w (i : Int)) (n := xs.length) (K0 := 20) (ok := fun i => bobB n (xs.getD i (0, 0, 0)) && ascAt xs i) (f := some false) (fun k i hk hi => ?_)) xs.length k 0 (by omega) (by omega)
    · rw [show ((0 : Nat) : Int) = 0 from rfl] at hl
      by_cases h : xs.all (bobB n) = true ∧ ascB xs = true
      · have ha := (all_iff (bobB n) xs).1 h.1
        have hb := (ascB_iff xs).1 h.2
        have hm := fun i hi => (bobB_of (ha i hi)).2.2
        have hbd := sumB_bd xs (fun c hc => (bobB_of (List.all_eq_true.1 h.1 c hc)).2.2)
        rw [hl.1 _ (fun k hk => ?_) (fun j _ hj => by simp only [ha j hj, hb j hj, Bool.and_self]), h.1, h.2]
        simp (disch := omega) only [spec_l21Good.l6, spec_l21Good.b6, if_neg]
        unfold spec_l21Sum.f spec_l21Sum.m
        have hs := ssum_l xs n b u w h5' hm xs.length k 0 0 (by omega) (by omega) (by omega) (by omega)
        rw [show ((0 : Nat) : Int) = 0 from rfl] at hs
        rw [hs]
        simp (disch := omega) only [Option.bind_some, w64_id, List.drop_zero, Int.zero_add, Bool.true_and]
      · rw [hl.2 (exists_bad fun hn' => h (by
          simp only [Bool.and_eq_true] at hn'
          exact ⟨(all_iff _ _).2 fun i hi => (hn' i hi).1, (ascB_iff _).2 fun i hi => (hn' i hi).2⟩))]
        congr 1; symm
        rw [← Bool.not_eq_true]; simp only [Bool.and_eq_true]; rintro ⟨⟨q1, q2⟩, _⟩
        exact h ⟨q1, q2⟩
    · simp (disch := omega) only [spec_l21Good.l6, spec_l21Good.b6, if_pos, chk_nat, Option.bind_some, w64_id, specIn_eq, specColor_eq, specMeters_eq, Int.natCast_add, Int.cast_ofNat_Int]
      unfold bobB ascAt
      cases q1 : inB (xs.getD i (0, 0, 0)).1 1 (n - 1) <;> simp only [Bool.not_true, Bool.not_false, cond_true, cond_false, Bool.true_and, Bool.false_and, Bool.and_true, Bool.and_false, Bool.false_eq_true, Bool.true_or, Bool.or_true, Bool.false_or, Bool.or_false, Bool.or_self, Bool.and_self, decide_true, decide_false, if_true, if_false, not_true, not_false_eq_true, not_true_eq_false, false_or, or_false, true_and, and_true, Bool.not_eq_true, Bool.true_eq_false, reduceCtorEq]
      cases q2 : inB (xs.getD i (0, 0, 0)).2.1 0 5 <;> simp only [Bool.not_true, Bool.not_false, cond_true, cond_false, Bool.true_and, Bool.false_and, Bool.and_true, Bool.and_false, Bool.false_eq_true, Bool.true_or, Bool.or_true, Bool.false_or, Bool.or_false, Bool.or_self, Bool.and_self, decide_true, decide_false, if_true, if_false, not_true, not_false_eq_true, not_true_eq_false, false_or, or_false, true_and, and_true, Bool.not_eq_true, Bool.true_eq_false, reduceCtorEq]
      cases q3 : inB (xs.getD i (0, 0, 0)).2.2 1 100000 <;> simp only [Bool.not_true, Bool.not_false, cond_true, cond_false, Bool.true_and, Bool.false_and, Bool.and_true, Bool.and_false, Bool.false_eq_true, Bool.true_or, Bool.or_true, Bool.false_or, Bool.or_false, Bool.or_self, Bool.and_self, decide_true, decide_false, if_true, if_false, not_true, not_false_eq_true, not_true_eq_false, false_or, or_false, true_and, and_true, Bool.not_eq_true, Bool.true_eq_false, reduceCtorEq]
      by_cases h0 : i = 0
      · subst h0; simp
      · have e1 : chk xs.length ((i : Int) - 1) = some (i - 1) := by rw [chk_int (by omega)]; congr 1; omega
        rw [if_pos (by omega), e1]
        simp only [Option.bind_some, h0, Bool.not_true, Bool.not_false, cond_true, cond_false, Bool.true_and, Bool.false_and, Bool.and_true, Bool.and_false, Bool.false_eq_true, Bool.true_or, Bool.or_true, Bool.false_or, Bool.or_false, Bool.or_self, Bool.and_self, decide_true, decide_false, if_true, if_false, not_true, not_false_eq_true, not_true_eq_false, false_or, or_false, true_and, and_true, Bool.not_eq_true, Bool.true_eq_false, reduceCtorEq, decide_eq_true_eq]
        by_cases h1 : (xs.getD i (0, 0, 0)).1 ≤ (xs.getD (i - 1) (0, 0, 0)).1
        · rw [if_pos h1, if_neg (by omega)]
        · rw [if_neg h1, if_pos (by omega)]
theorem asc_eq (k : Nat) (xs : List B) (hl : xs.length ≤ 100000000000000) (hk : xs.length + 100 < k) : impl_isAscending_impl_Bobbin__impl_IsYarnStore_2.f k xs = some (ascB xs) := by
  unfold impl_isAscending_impl_Bobbin__impl_IsYarnStore_2.f impl_isAscending_impl_Bobbin__impl_IsYarnStore_2.m
  by_cases hz : xs.length = 0
  · have : xs = [] := List.eq_nil_of_length_eq_zero hz
    subst this
    obtain ⟨k, rfl⟩ := succ_of (show 0 < k by omega)
    simp [impl_isAscending_impl_Bobbin__impl_IsYarnStore_2.l3, impl_isAscending_impl_Bobbin__impl_IsYarnStore_2.b3, ascB]
  have h := (all_loop (L := fun k i => impl_isAscending_impl_Bobbin__impl_IsYarnStore_2.l3 k xs ((i + 1 : Nat) : Int)) (n := xs.length - 1) (K0 := 20) (ok := fun i => ascAt xs (i + 1)) (f := some false) (fun k i hk hi => ?_)) (xs.length - 1) k 0 (by omega) (by omega)
  · rw [show ((0 + 1 : Nat) : Int) = 1 from rfl] at h
    by_cases ha : ascB xs = true
    · rw [h.1 (some true) (fun k hk => ?_) (fun j _ hj => (ascB_iff xs).1 ha (j + 1) (by omega)), ha]
      simp (disch := omega) only [impl_isAscending_impl_Bobbin__impl_IsYarnStore_2.l3, impl_isAscending_impl_Bobbin__impl_IsYarnStore_2.b3, if_neg]
    · obtain ⟨j, _, hj, hb⟩ := exists_bad (n := xs.length) (ok := ascAt xs) (fun hn => ha ((ascB_iff xs).2 hn))
      have hj0 : j ≠ 0 := by rintro rfl; simp [ascAt] at hb
      rw [h.2 ⟨j - 1, by omega, by omega, by rw [show j - 1 + 1 = j by omega]; exact hb⟩, notB ha]
  · have e1 : chk xs.length ((i : Int) + 1 - 1) = some i := by rw [chk_int (by omega)]; congr 1; omega
    have e2 : chk xs.length ((i : Int) + 1) = some (i + 1) := by rw [chk_int (by omega)]; congr 1
    simp (disch := omega) only [impl_isAscending_impl_Bobbin__impl_IsYarnStore_2.l3, impl_isAscending_impl_Bobbin__impl_IsYarnStore_2.b3, impl_IsYarnStore_2.f, impl_IsYarnStore_2.m, if_pos, Option.bind_some, w64_id, e1, e2, Int.natCast_add, Int.cast_ofNat_Int]
    unfold ascAt
    simp only [Nat.add_one_ne_zero, decide_false, Bool.false_or, decide_eq_true_eq, Nat.add_sub_cancel]
    by_cases h1 : (xs.getD (i + 1) (0, 0, 0)).1 ≤ (xs.getD i (0, 0, 0)).1
    · rw [if_pos h1, if_neg (by omega)]
    · rw [if_neg h1, if_pos (by omega)]
theorem areAll_eq (k : Nat) (xs ys : List B) (n b u w : Int) (hn : 1 ≤ n ∧ n ≤ 999) (hl : xs.length ≤ 100000000000000) (hk : xs.length + 100 < k) : impl_areAll_impl_Bobbin__impl_IsYarnStore_1.f k xs ys n b u w = some (xs.all (bobB n)) := by
  unfold impl_areAll_impl_Bobbin__impl_IsYarnStore_1.f impl_areAll_impl_Bobbin__impl_IsYarnStore_1.m slices_ContainsFunc_impl_Bobbin_impl_Bobbin__impl_areAll_impl_Bobbin_1__impl_IsYarnStore_1.f slices_ContainsFunc_impl_Bobbin_impl_Bobbin__impl_areAll_impl_Bobbin_1__impl_IsYarnStore_1.m slices_IndexFunc_impl_Bobbin_impl_Bobbin__impl_areAll_impl_Bobbin_1__impl_IsYarnStore_1.f slices_IndexFunc_impl_Bobbin_impl_Bobbin__impl_areAll_impl_Bobbin_1__impl_IsYarnStore_1.m
  have h := (find_loop (L := fun k i => slices_IndexFunc_impl_Bobbin_impl_Bobbin__impl_areAll_impl_Bobbin_1__impl_IsYarnStore_1.l3 k xs ys n b u w xs.length (i : Int)) (n := xs.length) (K0 := 20) (ok := fun i => !bobB n (xs.getD i (0, 0, 0))) (fun k i hk hi => ?_) (fun k hk => ?_)) xs.length k 0 (by omega) (by omega)
  · rw [show ((0 : Nat) : Int) = 0 from rfl] at h
    by_cases ha : xs.all (bobB n) = true
    · rw [h.1 (fun j _ hj => by rw [(all_iff _ _).1 ha j hj]; rfl), ha]; rfl
    · obtain ⟨m, h1, h2, h3⟩ := first_bad (n := xs.length) (ok := fun i => bobB n (xs.getD i (0, 0, 0))) (fun hn => ha ((all_iff _ _).2 hn))
      rw [h.2 m (Nat.zero_le _) h1 (by rw [h2]; rfl) (fun j _ hj => by rw [h3 j hj]; rfl), notB ha]
      simp
  · simp (disch := omega) only [slices_IndexFunc_impl_Bobbin_impl_Bobbin__impl_areAll_impl_Bobbin_1__impl_IsYarnStore_1.l3, slices_IndexFunc_impl_Bobbin_impl_Bobbin__impl_areAll_impl_Bobbin_1__impl_IsYarnStore_1.b3, impl_areAll_impl_Bobbin_1__impl_IsYarnStore_1.f, impl_areAll_impl_Bobbin_1__impl_IsYarnStore_1.m, impl_IsYarnStore_1.f, impl_IsYarnStore_1.m, implIn_eq, implColor_eq, implMeters_eq, if_pos, chk_nat, Option.bind_some, w64_id, Int.natCast_add, Int.cast_ofNat_Int]
    unfold bobB
    cases q1 : inB (xs.getD i (0, 0, 0)).1 1 (n - 1) <;> simp only [Bool.not_true, Bool.not_false, cond_true, cond_false, Bool.true_and, Bool.false_and, Bool.and_true, Bool.and_false, Bool.false_eq_true, Bool.true_or, Bool.or_true, Bool.false_or, Bool.or_false, Bool.or_self, Bool.and_self, decide_true, decide_false, if_true, if_false, not_true, not_false_eq_true, not_true_eq_false, false_or, or_false, true_and, and_true, Bool.not_eq_true, Bool.true_eq_false, reduceCtorEq, Option.bind_some]
    cases q2 : inB (xs.getD i (0, 0, 0)).2.1 0 5 <;> simp only [Bool.not_true, Bool.not_false, cond_true, cond_false, Bool.true_and, Bool.false_and, Bool.and_true, Bool.and_false, Bool.false_eq_true, Bool.true_or, Bool.or_true, Bool.false_or, Bool.or_false, Bool.or_self, Bool.and_self, decide_true, decide_false, if_true, if_false, not_true, not_false_eq_true, not_true_eq_false, false_or, or_false, true_and, and_true, Bool.not_eq_true, Bool.true_eq_false, reduceCtorEq, Option.bind_some]
    cases q3 : inB (xs.getD i (0, 0, 0)).2.2 1 100000 <;> simp only [Bool.not_true, Bool.not_false, cond_true, cond_false, Bool.true_and, Bool.false_and, Bool.and_true, Bool.and_false, Bool.false_eq_true, Bool.true_or, Bool.or_true, Bool.false_or, Bool.or_false, Bool.or_self, Bool.and_self, decide_true, decide_false, if_true, if_false, not_true, not_false_eq_true, not_true_eq_false, false_or, or_false, true_and, and_true, Bool.not_eq_true, Bool.true_eq_false, reduceCtorEq, Option.bind_some]
  · simp (disch := omega) only [slices_IndexFunc_impl_Bobbin_impl_Bobbin__impl_areAll_impl_Bobbin_1__impl_IsYarnStore_1.l3, slices_IndexFunc_impl_Bobbin_impl_Bobbin__impl_areAll_impl_Bobbin_1__impl_IsYarnStore_1.b3, if_neg]
theorem isYarn_eq (k : Nat) (xs : List B) (n b u w : Int) (hl : xs.length ≤ 100000000000000) (hk : xs.length + 200 < k) : impl_IsYarnStore.f k xs n b u w = some (yarnB xs n b u w) := by
  unfold impl_IsYarnStore.f impl_IsYarnStore.m yarnB
  simp only [asc_eq k xs hl (by omega), implNumber_eq, Option.bind_some]
  cases h1 : inB n 1 999 <;> simp only [Bool.not_true, Bool.not_false, cond_true, cond_false, Bool.true_and, Bool.false_and, Bool.and_true, Bool.and_false, Bool.false_eq_true, Bool.true_or, Bool.or_true, Bool.false_or, Bool.or_false, Bool.or_self, Bool.and_self, decide_true, decide_false, if_true, if_false, not_true, not_false_eq_true, not_true_eq_false, false_or, or_false, true_and, and_true, Bool.not_eq_true, Bool.true_eq_false, reduceCtorEq]
  by_cases h5 : 8 < (xs.length : Int)
  · rw [if_pos h5, decide_eq_false (show ¬ xs.length ≤ 8 by omega)]; simp only [Bool.not_true, Bool.not_false, cond_true, cond_false, Bool.true_and, Bool.false_and, Bool.and_true, Bool.and_false, Bool.false_eq_true, Bool.true_or, Bool.or_true, Bool.false_or, Bool.or_false, Bool.or_self, Bool.and_self, decide_true, decide_false, if_true, if_false, not_true, not_false_eq_true, not_true_eq_false, false_or, or_false, true_and, and_true, Bool.not_eq_true, Bool.true_eq_false, reduceCtorEq]
  · have h5' : xs.length ≤ 8 := by omega
    rw [if_neg h5, decide_eq_true h5', areAll_eq k xs xs n b u w (inB_iff.1 h1) hl (by omega)]
    simp only [Option.bind_some, implTally_eq]
    cases h6 : xs.all (bobB n) <;> simp only [Bool.not_true, Bool.not_false, cond_true, cond_false, Bool.true_and, Bool.false_and, Bool.and_true, Bool.and_false, Bool.false_eq_true, Bool.true_or, Bool.or_true, Bool.false_or, Bool.or_false, Bool.or_self, Bool.and_self, decide_true, decide_false, if_true, if_false, not_true, not_false_eq_true, not_true_eq_false, false_or, or_false, true_and, and_true, Bool.not_eq_true, Bool.true_eq_false, reduceCtorEq]
    cases h7 : ascB xs <;> simp only [Bool.not_true, Bool.not_false, cond_true, cond_false, Bool.true_and, Bool.false_and, Bool.and_true, Bool.and_false, Bool.false_eq_true, Bool.true_or, Bool.or_true, Bool.false_or, Bool.or_false, Bool.or_self, Bool.and_self, decide_true, decide_false, if_true, if_false, not_true, not_false_eq_true, not_true_eq_false, false_or, or_false, true_and, and_true, Bool.not_eq_true, Bool.true_eq_false, reduceCtorEq]
    cases h2 : inB b 0 100000 <;> simp only [Bool.not_true, Bool.not_false, cond_true, cond_false, Bool.true_and, Bool.false_and, Bool.and_true, Bool.and_false, Bool.false_eq_true, Bool.true_or, Bool.or_true, Bool.false_or, Bool.or_false, Bool.or_self, Bool.and_self, decide_true, decide_false, if_true, if_false, not_true, not_false_eq_true, not_true_eq_false, false_or, or_false, true_and, and_true, Bool.not_eq_true, Bool.true_eq_false, reduceCtorEq]
    cases h3 : inB u 0 100000 <;> simp only [Bool.not_true, Bool.not_false, cond_true, cond_false, Bool.true_and, Bool.false_and, Bool.and_true, Bool.and_false, Bool.false_eq_true, Bool.true_or, Bool.or_true, Bool.false_or, Bool.or_false, Bool.or_self, Bool.and_self, decide_true, decide_false, if_true, if_false, not_true, not_false_eq_true, not_true_eq_false, false_or, or_false, true_and, and_true, Bool.not_eq_true, Bool.true_eq_false, reduceCtorEq, Option.bind_some]
    cases h4 : inB w 0 100000 <;> simp only [Bool.not_true, Bool.not_false, cond_true, cond_false, Bool.true_and, Bool.false_and, Bool.and_true, Bool.and_false, Bool.false_eq_true, Bool.true_or, Bool.or_true, Bool.false_or, Bool.or_false, Bool.or_self, Bool.and_self, decide_true, decide_false, if_true, if_false, not_true, not_false_eq_true, not_true_eq_false, false_or, or_false, true_and, and_true, Bool.not_eq_true, Bool.true_eq_false, reduceCtorEq, Option.bind_some]
    have ha := (all_iff (bobB n) xs).1 h6
    have hbd := sumB_bd xs (fun c hc => (bobB_of (List.all_eq_true.1 h6 c hc)).2.2)
    rw [inB_iff] at h1 h2 h3 h4
    unfold impl_YarnStore_sum.f impl_YarnStore_sum.m
    have hs := isum_l xs h5' (fun i hi => (bobB_of (ha i hi)).2.2) xs.length k 0 0 (by omega) (by omega) (by omega) (by omega)
    rw [show ((0 : Nat) : Int) = 0 from rfl] at hs
    rw [hs]
    simp (disch := omega) only [Option.bind_some, w64_id, List.drop_zero, Int.zero_add, Bool.true_and]
theorem find_eq (k : Nat) (xs : List B) (n b u w num : Int) (hl : xs.length ≤ 100000000000000) (hk : xs.length + 50 < k) : impl_YarnStore_find.f k xs n b u w num = some (idxB xs num) := by
  unfold impl_YarnStore_find.f impl_YarnStore_find.m slices_IndexFunc_impl_Bobbin_impl_Bobbin__impl_YarnStore_find_1.f slices_IndexFunc_impl_Bobbin_impl_Bobbin__impl_YarnStore_find_1.m
  have h := (find_loop (L := fun k i => slices_IndexFunc_impl_Bobbin_impl_Bobbin__impl_YarnStore_find_1.l3 k xs num xs.length (i : Int)) (n := xs.length) (K0 := 20) (ok := fun i => decide ((xs.getD i (0, 0, 0)).1 = num)) (fun k i hk hi => ?_) (fun k hk => ?_)) xs.length k 0 (by omega) (by omega)
  · rw [show ((0 : Nat) : Int) = 0 from rfl] at h
    rcases idxB_cases xs num with e | ⟨i, c, e, hi, hc, _, h1, h2⟩
    · rw [h.1 (fun j _ hj => decide_eq_false fun hx => ?_), e]
      · rfl
      · unfold idxB at e
        split at e
        · omega
        · rename_i hn
          rw [List.findIdx?_eq_none_iff] at hn
          have := hn (xs.getD j (0, 0, 0)) (by rw [getD_lt hj]; exact List.getElem_mem hj)
          rw [hx] at this; simp at this
    · rw [h.2 i (Nat.zero_le _) hi (decide_eq_true (by rw [getD_lt hi, (List.getElem?_eq_some_iff.1 hc).2]; exact h1)) (fun j _ hj => decide_eq_false (by rw [getD_lt (by omega)]; exact h2 j _ hj (List.getElem?_eq_getElem (by omega)))), e]
      rfl
  · simp (disch := omega) only [slices_IndexFunc_impl_Bobbin_impl_Bobbin__impl_YarnStore_find_1.l3, slices_IndexFunc_impl_Bobbin_impl_Bobbin__impl_YarnStore_find_1.b3, impl_YarnStore_find_1.f, impl_YarnStore_find_1.m, if_pos, chk_nat, Option.bind_some, w64_id, Int.natCast_add, Int.cast_ofNat_Int]
    by_cases e : (xs.getD i (0, 0, 0)).1 = num <;> simp only [e, Bool.not_true, Bool.not_false, cond_true, cond_false, Bool.true_and, Bool.false_and, Bool.and_true, Bool.and_false, Bool.false_eq_true, Bool.true_or, Bool.or_true, Bool.false_or, Bool.or_false, Bool.or_self, Bool.and_self, decide_true, decide_false, if_true, if_false, not_true, not_false_eq_true, not_true_eq_false, false_or, or_false, true_and, and_true, Bool.not_eq_true, Bool.true_eq_false, reduceCtorEq]
  · simp (disch := omega) only [slices_IndexFunc_impl_Bobbin_impl_Bobbin__impl_YarnStore_find_1.l3, slices_IndexFunc_impl_Bobbin_impl_Bobbin__impl_YarnStore_find_1.b3, if_neg]
theorem sfind_eq (k : Nat) (xs : List B) (n b u w num : Int) (hl : xs.length ≤ 100000000000000) (hk : xs.length + 50 < k) : spec_l21Find.f k xs n b u w num = some (idxB xs num) := by
  unfold spec_l21Find.f spec_l21Find.m
  have h := (find_loop (L := fun k i => spec_l21Find.l3 k num xs n b u w (i : Int)) (n := xs.length) (K0 := 20) (ok := fun i => decide ((xs.getD i (0, 0, 0)).1 = num)) (fun k i hk hi => ?_) (fun k hk => ?_)) xs.length k 0 (by omega) (by omega)
  · rw [show ((0 : Nat) : Int) = 0 from rfl] at h
    rcases idxB_cases xs num with e | ⟨i, c, e, hi, hc, _, h1, h2⟩
    · rw [h.1 (fun j _ hj => decide_eq_false fun hx => ?_), e]
      unfold idxB at e
      split at e
      · omega
      · rename_i hn
        rw [List.findIdx?_eq_none_iff] at hn
        have := hn (xs.getD j (0, 0, 0)) (by rw [getD_lt hj]; exact List.getElem_mem hj)
        rw [hx] at this; simp at this
    · rw [h.2 i (Nat.zero_le _) hi (decide_eq_true (by rw [getD_lt hi, (List.getElem?_eq_some_iff.1 hc).2]; exact h1)) (fun j _ hj => decide_eq_false (by rw [getD_lt (by omega)]; exact h2 j _ hj (List.getElem?_eq_getElem (by omega)))), e]
  · simp (disch := omega) only [spec_l21Find.l3, spec_l21Find.b3, if_pos, chk_nat, Option.bind_some, w64_id, Int.natCast_add, Int.cast_ofNat_Int]
    by_cases e : (xs.getD i (0, 0, 0)).1 = num <;> simp only [e, Bool.not_true, Bool.not_false, cond_true, cond_false, Bool.true_and, Bool.false_and, Bool.and_true, Bool.and_false, Bool.false_eq_true, Bool.true_or, Bool.or_true, Bool.false_or, Bool.or_false, Bool.or_self, Bool.and_self, decide_true, decide_false, if_true, if_false, not_true, not_false_eq_true, not_true_eq_false, false_or, or_false, true_and, and_true, Bool.not_eq_true, Bool.true_eq_false, reduceCtorEq]
  · simp (disch := omega) only [spec_l21Find.l3, spec_l21Find.b3, if_neg]
/-- slices.DeleteFunc: the first that goes, then the rest. -/
theorem delI_l (xs : List B) (hl : xs.length ≤ 100000000000000) (k : Nat) (hk : xs.length + 50 < k) : (slices_IndexFunc_impl_Bobbin_impl_Bobbin__impl_YarnStore_take_1.l3 k xs xs.length 0 = some (-1) ∧ noneB xs = xs) ∨ ∃ t : Nat, slices_IndexFunc_impl_Bobbin_impl_Bobbin__impl_YarnStore_take_1.l3 k xs xs.length 0 = some (t : Int) ∧ t < xs.length ∧ noneB (xs.take t) = xs.take t ∧ noneB (xs.drop t) = noneB (xs.drop (t + 1)) := by
  have h := (find_loop (L := fun k i => slices_IndexFunc_impl_Bobbin_impl_Bobbin__impl_YarnStore_take_1.l3 k xs xs.length (i : Int)) (n := xs.length) (K0 := 20) (ok := fun i => decide ((xs.getD i (0, 0, 0)).2.2 = 0)) (fun k i hk hi => ?_) (fun k hk => ?_)) xs.length k 0 (by omega) (by omega)
  · rw [show ((0 : Nat) : Int) = 0 from rfl] at h
    by_cases ha : ∀ i, i < xs.length → (!decide ((xs.getD i (0, 0, 0)).2.2 = 0)) = true
    · refine .inl ⟨h.1 (fun j _ hj => by simpa using ha j hj), ?_⟩
      unfold noneB
      rw [List.filter_eq_self]
      intro c hc
      obtain ⟨i, hi, rfl⟩ := List.mem_iff_getElem.1 hc
      have := ha i hi
      rwa [getD_lt hi] at this
    · obtain ⟨t, h1, h2, h3⟩ := first_bad ha
      refine .inr ⟨t, h.2 t (Nat.zero_le _) h1 (by simpa using h2) (fun j _ hj => by simpa using h3 j hj), h1, ?_, ?_⟩
      · unfold noneB
        rw [List.filter_eq_self]
        intro c hc
        obtain ⟨i, hi, rfl⟩ := List.mem_iff_getElem.1 hc
        have hi' : i < t := by rw [List.length_take] at hi; omega
        have := h3 i hi'
        rw [getD_lt (by omega)] at this
        rw [List.getElem_take]; exact this
      · rw [List.drop_eq_getElem_cons h1]
        unfold noneB
        rw [List.filter_cons, if_neg]
        rw [getD_lt h1] at h2
        simpa using h2
  · simp (disch := omega) only [slices_IndexFunc_impl_Bobbin_impl_Bobbin__impl_YarnStore_take_1.l3, slices_IndexFunc_impl_Bobbin_impl_Bobbin__impl_YarnStore_take_1.b3, impl_YarnStore_take_1.f, impl_YarnStore_take_1.m, if_pos, chk_nat, Option.bind_some, w64_id, Int.natCast_add, Int.cast_ofNat_Int]
    by_cases e : (xs.getD i (0, 0, 0)).2.2 = 0 <;> simp only [e, Bool.not_true, Bool.not_false, cond_true, cond_false, Bool.true_and, Bool.false_and, Bool.and_true, Bool.and_false, Bool.false_eq_true, Bool.true_or, Bool.or_true, Bool.false_or, Bool.or_false, Bool.or_self, Bool.and_self, decide_true, decide_false, if_true, if_false, not_true, not_false_eq_true, not_true_eq_false, false_or, or_false, true_and, and_true, Bool.not_eq_true, Bool.true_eq_false, reduceCtorEq]
  · simp (disch := omega) only [slices_IndexFunc_impl_Bobbin_impl_Bobbin__impl_YarnStore_take_1.l3, slices_IndexFunc_impl_Bobbin_impl_Bobbin__impl_YarnStore_take_1.b3, if_neg]
theorem wipe_take {β : Type} {xs : List β} {lo n m : Nat} {d : β} (h : m ≤ lo) (hl : lo ≤ xs.length) : (wipe xs lo n d).take m = xs.take m := by
  unfold wipe
  rw [List.take_append_of_le_length (by rw [List.length_take]; omega), List.take_take, Nat.min_eq_left h]
theorem wipe_len {β : Type} {xs : List β} {lo n : Nat} {d : β} (h : lo + n ≤ xs.length) : (wipe xs lo n d).length = xs.length := by
  unfold wipe; simp; omega
theorem del_l : ∀ (d k i j : Nat) (xs : List B), xs.length ≤ 100000000000000 → i + d = xs.length → d + 10 < k → j ≤ i → slices_DeleteFunc_impl_Bobbin_impl_Bobbin__impl_YarnStore_take_1.l7 k xs (j : Int) (i : Int) = some (xs.take j ++ noneB (xs.drop i)) := by
  intro d
  induction d with
  | zero =>
    intro k i j xs hl h1 h2 h3
    obtain ⟨k, rfl⟩ := succ_of (show 0 < k by omega)
    simp (disch := omega) only [slices_DeleteFunc_impl_Bobbin_impl_Bobbin__impl_YarnStore_take_1.l7, slices_DeleteFunc_impl_Bobbin_impl_Bobbin__impl_YarnStore_take_1.b7, if_neg, cut_int, Option.bind_some]
    rw [wipe_len (by omega), cutTo_int (by omega)]
    simp only [Option.bind_some]
    rw [wipe_take (by omega) (by omega), List.drop_eq_nil_of_le (by omega)]
    simp [noneB]
  | succ d ih =>
    intro k i j xs hl h1 h2 h3
    obtain ⟨k, rfl⟩ := succ_of (show 0 < k by omega)
    have hi : i < xs.length := by omega
    simp (disch := omega) only [slices_DeleteFunc_impl_Bobbin_impl_Bobbin__impl_YarnStore_take_1.l7, slices_DeleteFunc_impl_Bobbin_impl_Bobbin__impl_YarnStore_take_1.b7, impl_YarnStore_take_1.f, impl_YarnStore_take_1.m, if_pos, chk_nat, Option.bind_some, w64_id]
    rw [show ((i : Int) + 1) = ((i + 1 : Nat) : Int) by omega, List.drop_eq_getElem_cons hi]
    by_cases e : (xs.getD i (0, 0, 0)).2.2 = 0
    · have h := ih k (i + 1) j xs hl (by omega) (by omega) (by omega)
      simp only [e, Bool.not_true, Bool.not_false, cond_true, cond_false, Bool.true_and, Bool.false_and, Bool.and_true, Bool.and_false, Bool.false_eq_true, Bool.true_or, Bool.or_true, Bool.false_or, Bool.or_false, Bool.or_self, Bool.and_self, decide_true, decide_false, if_true, if_false, not_true, not_false_eq_true, not_true_eq_false, false_or, or_false, true_and, and_true, Bool.not_eq_true, Bool.true_eq_false, reduceCtorEq]
      rw [h]
      unfold noneB; rw [List.filter_cons, if_neg]
      rw [getD_lt hi] at e; simpa using e
    · simp only [e, Bool.not_true, Bool.not_false, cond_true, cond_false, Bool.true_and, Bool.false_and, Bool.and_true, Bool.and_false, Bool.false_eq_true, Bool.true_or, Bool.or_true, Bool.false_or, Bool.or_false, Bool.or_self, Bool.and_self, decide_true, decide_false, if_true, if_false, not_true, not_false_eq_true, not_true_eq_false, false_or, or_false, true_and, and_true, Bool.not_eq_true, Bool.true_eq_false, reduceCtorEq]
      rw [show ((j : Int) + 1) = ((j + 1 : Nat) : Int) by omega, ih k (i + 1) (j + 1) _ (by rw [upd_len]; exact hl) (by rw [upd_len]; omega) (by omega) (by omega)]
      unfold upd
      rw [List.drop_set_of_lt (show j < i + 1 by omega)]
      rw [getD_lt hi] at e ⊢
      have : (xs.set j xs[i]).take (j + 1) = xs.take j ++ [xs[i]] := by
        rw [List.take_succ_eq_append_getElem (by rw [List.length_set]; omega), List.getElem_set_self, List.take_set_of_le (Nat.le_refl j)]
      rw [show (xs[i].1, xs[i].2.1, xs[i].2.2) = xs[i] from rfl, this]; unfold noneB; rw [List.filter_cons]; simp [e]
theorem del_eq (k : Nat) (xs : List B) (hl : xs.length ≤ 100000000000000) (hk : xs.length + 60 < k) : slices_DeleteFunc_impl_Bobbin_impl_Bobbin__impl_YarnStore_take_1.f k xs = some (noneB xs) := by
  unfold slices_DeleteFunc_impl_Bobbin_impl_Bobbin__impl_YarnStore_take_1.f slices_DeleteFunc_impl_Bobbin_impl_Bobbin__impl_YarnStore_take_1.m slices_IndexFunc_impl_Bobbin_impl_Bobbin__impl_YarnStore_take_1.f slices_IndexFunc_impl_Bobbin_impl_Bobbin__impl_YarnStore_take_1.m
  rcases delI_l xs hl k (by omega) with ⟨h1, h2⟩ | ⟨t, h1, ht, h2, h3⟩
  · rw [h1]; simp only [Option.bind_some]; rw [if_pos trivial, h2]
  · rw [h1]; simp only [Option.bind_some]; rw [if_neg (by omega), w64_id (by omega), show ((t : Int) + 1) = ((t + 1 : Nat) : Int) by omega, del_l (xs.length - (t + 1)) k (t + 1) t xs hl (by omega) (by omega) (by omega)]
    congr 1
    rw [← h2, ← h3]
    unfold noneB; rw [← List.filter_append, List.take_append_drop]
theorem take_eq (k : Nat) {xs : List B} {i : Nat} {c : B} {m : Int} (n b u w : Int) (hi : i < xs.length) (hc : rdB xs (i : Int) = c) (hl : xs.length ≤ 100000000000000) (hk : xs.length + 60 < k) (hb : 1 ≤ c.2.2 ∧ c.2.2 ≤ 100000) (hm : 1 ≤ m ∧ m ≤ 100000) : impl_YarnStore_take.f k xs n b u w i m = some (decide (c.2.2 - m ≥ 0), noneB (xs.set i ⟨c.1, c.2.1, c.2.2 - m⟩), n, b, u, w) := by
  rw [rdB_nat] at hc
  unfold impl_YarnStore_take.f impl_YarnStore_take.m
  simp (disch := omega) only [chk_nat, Option.bind_some, upd_len, hc, w64_id, upd_of]
  rw [del_eq k _ (by rw [List.length_set]; exact hl) (by rw [List.length_set]; exact hk)]; simp only [Option.bind_some]
  rw [chk_nat (by rw [List.length_set]; exact hi)]; simp only [Option.bind_some]
  rw [getD_set hi]
  simp only [if_true]
theorem cutB_eq (k : Nat) {xs : List B} {j : Nat} (hj : j < xs.length) (hl : xs.length ≤ 100000000000000) : slices_Delete_impl_Bobbin_impl_Bobbin.f k xs (j : Int) ((j : Int) + 1) = some (xs.eraseIdx j) := by
  unfold slices_Delete_impl_Bobbin_impl_Bobbin.f slices_Delete_impl_Bobbin_impl_Bobbin.m
  simp (disch := omega) only [cut3_int, Option.bind_some, if_neg, cutTo_int, cut_int, selfApp_nat, Int.toNat_natCast]
  have hn : ((j : Int) + 1).toNat = j + 1 := by omega
  rw [hn]
  have hll : (lay xs j (xs.length - (j + 1)) ((xs.drop (j + 1)).take (xs.length - (j + 1)))) = xs.take j ++ (xs.drop (j + 1) ++ xs.drop (j + (xs.length - (j + 1)))) := by
    unfold lay
    have h1 : (xs.drop (j + 1)).length = xs.length - (j + 1) := List.length_drop
    rw [← h1, List.take_length, List.take_length, Nat.min_self]
  rw [hll]
  have hlen : (xs.take j ++ (xs.drop (j + 1) ++ xs.drop (j + (xs.length - (j + 1))))).length = xs.length := by simp; omega
  rw [hlen, cut_int (by omega)]
  simp only [Option.bind_some]
  rw [wipe_take (by omega) (by omega), ← List.append_assoc, List.take_left' (by simp; omega), List.eraseIdx_eq_take_drop_succ]
theorem tie_eq (k : Nat) {xs : List B} {i j : Nat} {a c : B} (n b u : Int) {w : Int} (hi : i < xs.length) (hj : j < xs.length) (ha : rdB xs (i : Int) = a) (hc : rdB xs (j : Int) = c) (hl : xs.length ≤ 1000) (h1 : 1 ≤ a.2.2 ∧ a.2.2 ≤ 100000) (h2 : 1 ≤ c.2.2 ∧ c.2.2 ≤ 100000) (hw : 0 ≤ w ∧ w ≤ 100000) : impl_YarnStore_tie.f k xs n b u w i j = if a.2.1 = c.2.1 then some (true, tieB xs i j, n, b, u, w + 1) else some (false, xs, n, b, u, w) := by
  have ha' := ha
  have hc' := hc
  rw [rdB_nat] at ha' hc'
  unfold impl_YarnStore_tie.f impl_YarnStore_tie.m
  simp (disch := omega) only [if_neg, chk_nat, Option.bind_some, ha', hc']
  by_cases e : a.2.1 = c.2.1
  · simp (disch := omega) only [e, w64_id, not_true, if_true, if_false, upd_of]
    rw [cutB_eq k (by rw [List.length_set]; exact hj) (by rw [List.length_set]; omega)]
    simp only [Option.bind_some]
    unfold tieB
    rw [ha, hc, Int.toNat_natCast, Int.toNat_natCast, ha']
  · simp only [e, not_false_eq_true, if_true, if_false]
theorem add_eq (k : Nat) {xs : List B} {n : Int} (b u w o m : Int) (hl : xs.length ≤ 1000) (hn : 1 ≤ n ∧ n ≤ 999) : impl_YarnStore_add.f k xs n b u w o m = some (xs ++ [⟨n, o, m⟩], n + 1, b, u, w) := by
  unfold impl_YarnStore_add.f impl_YarnStore_add.m; rw [app_ok (by simp; omega), w64_id (by omega)]; rfl
def validY (kind number other meters : Int) : Bool :=
  if kind = 1 then decide (number = 0) && inB other 0 5 && inB meters 1 100000 else if kind = 3 then decide (meters = 0) && decide (number ≠ other) else
  (decide (kind = 2) || decide (kind = 4) || decide (kind = 5)) && decide (other = 0) && inB meters 1 100000
theorem valid_eq (k : Nat) (hk : 2 ≤ k) (kind number other meters : Int) : impl_BobbinStep_isValid.f k kind number other meters = some (validY kind number other meters) := by
  obtain ⟨k, rfl⟩ := succ_of (show 0 < k by omega)
  unfold impl_BobbinStep_isValid.f impl_BobbinStep_isValid.m validY
  simp only [implColor_eq, implMeters_eq, Option.bind_some, impl_BobbinStep_isValid.l7, impl_BobbinStep_isValid.b7]
  by_cases k1 : kind = 1
  · subst k1; by_cases h : number = 0 <;> simp [h] <;> (cases inB other 0 5 <;> simp)
  · by_cases k3 : kind = 3
    · subst k3; by_cases h : meters = 0 <;> simp [h]
    · by_cases k2 : kind = 2
      · subst k2; by_cases h : other = 0 <;> simp [h]
      · by_cases k4 : kind = 4
        · subst k4; by_cases h : other = 0 <;> simp [h]
        · by_cases k5 : kind = 5
          · subst k5; by_cases h : other = 0 <;> simp [h]
          · simp [k1, k2, k3, k4, k5]
theorem own_eq (k : Nat) (xs : List B) (n b u w : Int) (hl : xs.length ≤ 5000000) : spec_l21Own.f k xs n b u w = some (xs, n, b, u, w) := by
  unfold spec_l21Own.f spec_l21Own.m; rw [app_ok (by simp; omega)]; rfl
theorem new_eq (k : Nat) {xs : List B} {n : Int} (b u w o m : Int) (hl : xs.length ≤ 1000) (hn : 1 ≤ n ∧ n ≤ 999) : spec_l21New.f k xs n b u w o m = some (xs ++ [⟨n, o, m⟩], n + 1, b, u, w) := by
  unfold spec_l21New.f spec_l21New.m; rw [own_eq k xs n b u w (by omega)]; simp only [Option.bind_some]; rw [app_ok (by simp; omega), w64_id (by omega)]; rfl
theorem less_eq (k : Nat) {xs : List B} {i : Nat} {c : B} {num m : Int} (n b u w : Int) (hf : idxB xs num = (i : Int)) (hi : i < xs.length) (hc : rdB xs (i : Int) = c) (hl : xs.length ≤ 1000) (hk : xs.length + 60 < k) (hb : 1 ≤ c.2.2 ∧ c.2.2 ≤ 100000) (hm : 1 ≤ m ∧ m ≤ 100000) : spec_l21Less.f k xs n b u w num m = some (lessB xs i m, n, b, u, w) := by
  have hc' := hc
  rw [rdB_nat] at hc'
  unfold spec_l21Less.f spec_l21Less.m
  rw [own_eq k xs n b u w (by omega), sfind_eq k xs n b u w num (by omega) (by omega), hf]
  simp (disch := omega) only [Option.bind_some, chk_nat, hc', w64_id, upd_of, cutTo_int, cut_int, Int.toNat_natCast]
  unfold lessB; rw [hc, Int.toNat_natCast]
  by_cases e : c.2.2 = m
  · rw [if_pos e, if_pos e, app_ok (by simp; omega)]
    simp only [Option.bind_some]
    have ht : (xs.drop (i + 1)).take (xs.length - (i + 1)) = xs.drop (i + 1) := List.take_of_length_le (by simp)
    rw [app_ok (by simp; omega), List.eraseIdx_eq_take_drop_succ, show ((i : Int) + 1).toNat = i + 1 by omega, ht]; rfl
  · rw [if_neg e, if_neg e]
theorem idxB_erase {xs : List B} {i j : Nat} {num : Int} {a : B} (hij : i ≠ j) (hj : j < xs.length) (ha : xs[i]? = some a) (h0 : a.1 = num) (hall : ∀ (t : Nat) (d : B), t < i → xs[t]? = some d → ¬ d.1 = num) : idxB (xs.eraseIdx j) num = (((if i < j then i else i - 1 : Nat)) : Int) := by
  refine idxB_eq (c := a) ?_ h0 ?_
  · rw [List.getElem?_eraseIdx]
    by_cases h : i < j
    · rw [if_pos h, if_pos h]; exact ha
    · rw [if_neg h, if_neg (by omega), show i - 1 + 1 = i by omega]; exact ha
  · intro t d ht hd
    rw [List.getElem?_eraseIdx] at hd
    by_cases h : i < j
    · rw [if_pos h] at ht; rw [if_pos (by omega)] at hd; exact hall t d ht hd
    · rw [if_neg h] at ht
      split at hd
      · exact hall t d (by omega) hd
      · exact hall (t + 1) d (by omega) hd
theorem set_erase {xs : List B} {i j : Nat} (hij : i ≠ j) (v : B) : (xs.eraseIdx j).set (if i < j then i else i - 1) v = (xs.set i v).eraseIdx j := by
  by_cases h : i < j
  · rw [if_pos h, List.eraseIdx_set_gt h]
  · rw [if_neg h, List.eraseIdx_set_lt (show j < i by omega)]
theorem stie_eq (k : Nat) {xs : List B} {i j : Nat} {a c : B} {num oth : Int} (n b u : Int) {w : Int} (hfi : idxB xs num = (i : Int)) (hfj : idxB xs oth = (j : Int)) (hi : i < xs.length) (hj : j < xs.length) (hga : xs[i]? = some a) (ha : rdB xs (i : Int) = a) (hc : rdB xs (j : Int) = c) (ha0 : a.1 = num) (hij : i ≠ j) (hall : ∀ (t : Nat) (d : B), t < i → xs[t]? = some d → ¬ d.1 = num) (hl : xs.length ≤ 1000) (hk : xs.length + 60 < k) (h1 : 1 ≤ a.2.2 ∧ a.2.2 ≤ 100000) (h2 : 1 ≤ c.2.2 ∧ c.2.2 ≤ 100000) (hw : 0 ≤ w ∧ w ≤ 100000) : spec_l21Tie.f k xs n b u w num oth = some (tieB xs i j, n, b, u, w + 1, decide (a.2.1 = c.2.1)) := by
  have ha' := ha
  have hc' := hc
  rw [rdB_nat] at ha' hc'
  have e : lessB xs j c.2.2 = xs.eraseIdx j := by unfold lessB; rw [hc, if_pos rfl, Int.toNat_natCast]
  have hle := List.length_eraseIdx_of_lt hj
  unfold spec_l21Tie.f spec_l21Tie.m
  rw [sfind_eq k xs n b u w num (by omega) (by omega), hfi, sfind_eq k xs n b u w oth (by omega) (by omega), hfj]
  simp (disch := omega) only [Option.bind_some, chk_nat, ha', hc']
  rw [less_eq k n b u w hfj hj hc hl hk h2 h2]; simp only [Option.bind_some]
  rw [e, sfind_eq k _ n b u w num (by omega) (by omega), idxB_erase hij hj hga ha0 hall]; simp only [Option.bind_some]
  rw [chk_nat (by split <;> omega)]
  simp (disch := omega) only [Option.bind_some, w64_id, upd_of]
  rw [set_erase hij]
  unfold tieB; rw [ha, hc, Int.toNat_natCast, Int.toNat_natCast, ha0, show a.2.2 + c.2.2 - 1 = a.2.2 + (c.2.2 - 1) by omega]
theorem lessB_eq {xs : List B} {i : Nat} {c : B} {m : Int} (hi : i < xs.length) (hc : rdB xs (i : Int) = c) (hall : ∀ b ∈ xs, b.2.2 ≠ 0) : noneB (xs.set i ⟨c.1, c.2.1, c.2.2 - m⟩) = lessB xs i m := by
  rw [noneB_set hi hall]; unfold lessB; rw [hc, Int.toNat_natCast]
  by_cases e : c.2.2 = m
  · rw [if_pos (by show c.2.2 - m = 0; omega), if_pos e]
  · rw [if_neg (by show ¬ c.2.2 - m = 0; omega), if_neg e]
theorem lessB_len (xs : List B) (i m : Int) : (lessB xs i m).length ≤ xs.length := by
  unfold lessB; split
  · rw [List.length_eraseIdx]; split <;> omega
  · rw [List.length_set]; omega
theorem tieB_len (xs : List B) (i j : Int) : (tieB xs i j).length ≤ xs.length := by
  unfold tieB; rw [List.length_eraseIdx, List.length_set]; split <;> omega
theorem wf_bd {x : Int} (h : (Lit.int .i64 x).wf = true) : -9223372036854775808 ≤ x ∧ x ≤ 9223372036854775807 := by
  unfold Lit.wf at h; rw [Bool.and_eq_true] at h
  have h1 := of_decide_eq_true h.1; have h2 := of_decide_eq_true h.2
  exact ⟨h1, h2⟩
theorem clone_eq (k : Nat) (cs : List B) (hl : cs.length ≤ 5000000) : slices_Clone_impl_Bobbin_impl_Bobbin.f k cs = some cs := by unfold slices_Clone_impl_Bobbin_impl_Bobbin.f; rw [app_ok (by simp; omega)]; rfl
/-- What the program makes of a valid step. -/
theorem implStep_eq (k : Nat) {xs : List B} {next bo u w : Int} (kind number other meters : Int) (hs : yarnB xs next bo u w = true) (hk : 2000 ≤ k) : impl_YarnStore_step.f k xs next bo u w kind number other meters = some (outY (stepY xs next bo u w kind number other meters)) := by
  obtain ⟨a1, a2, a3, a4, a5, a6, a7, a8⟩ := yarnB_of hs
  have hb : ∀ b ∈ xs, 1 ≤ b.2.2 ∧ b.2.2 ≤ 100000 := fun b h => (bobB_of (a6 b h)).2.2
  have h0 : ∀ b ∈ xs, b.2.2 ≠ 0 := fun b h => by have := hb b h; omega
  unfold impl_YarnStore_step.f impl_YarnStore_step.m stepY impl_YarnStore_copied.f impl_YarnStore_copied.m
  rw [clone_eq k xs (by omega)]; simp only [Option.bind_some]
  rw [valid_eq k (by omega)]; simp only [Option.bind_some]
  have key : ∀ (ys : List B) (n' b' u' w' : Int), ys.length ≤ 9 → ((impl_IsYarnStore.f k ys n' b' u' w').bind fun t => cond (!t) (some (([] : List B), (0 : Int), (0 : Int), (0 : Int), (0 : Int), false)) (some (ys, n', b', u', w', true))) = some (outY (putY (yarnB ys n' b' u' w') ys n' b' u' w')) := by
    intro ys n' b' u' w' hy
    rw [isYarn_eq k ys n' b' u' w' (by omega) (by omega)]; simp only [Option.bind_some]
    cases yarnB ys n' b' u' w' <;> rfl
  have no : ∀ (ys : List B) (n' b' u' w' : Int), outY (putY false ys n' b' u' w') = ([], 0, 0, 0, 0, false) := fun _ _ _ _ _ => rfl
  unfold impl_YarnStore_do.f impl_YarnStore_do.m
  rw [find_eq k xs _ _ _ _ number (by omega) (by omega)]; simp only [Option.bind_some]
  obtain ⟨k', rfl⟩ := succ_of (show 0 < k by omega)
  simp only [impl_YarnStore_do.l2, impl_YarnStore_do.b2]
  by_cases k1 : kind = 1
  · subst k1
    simp only [validY, Bool.not_true, Bool.not_false, cond_true, cond_false, Bool.true_and, Bool.false_and, Bool.and_true, Bool.and_false, Bool.false_eq_true, Bool.true_or, Bool.or_true, Bool.false_or, Bool.or_false, Bool.or_self, Bool.and_self, decide_true, decide_false, if_true, if_false, not_true, not_false_eq_true, not_true_eq_false, false_or, or_false, true_and, and_true, Bool.not_eq_true, Bool.true_eq_false, reduceCtorEq]
    cases hv : (decide (number = 0) && inB other 0 5 && inB meters 1 100000) with
    | false => simp only [Bool.not_true, Bool.not_false, cond_true, cond_false, Bool.true_and, Bool.false_and, Bool.and_true, Bool.and_false, Bool.false_eq_true, Bool.true_or, Bool.or_true, Bool.false_or, Bool.or_false, Bool.or_self, Bool.and_self, decide_true, decide_false, if_true, if_false, not_true, not_false_eq_true, not_true_eq_false, false_or, or_false, true_and, and_true, Bool.not_eq_true, Bool.true_eq_false, reduceCtorEq, no]
    | true =>
      simp only [Bool.and_eq_true, inB_iff, decide_eq_true_eq] at hv
      simp only [Bool.not_true, Bool.not_false, cond_true, cond_false, Bool.true_and, Bool.false_and, Bool.and_true, Bool.and_false, Bool.false_eq_true, Bool.true_or, Bool.or_true, Bool.false_or, Bool.or_false, Bool.or_self, Bool.and_self, decide_true, decide_false, if_true, if_false, not_true, not_false_eq_true, not_true_eq_false, false_or, or_false, true_and, and_true, Bool.not_eq_true, Bool.true_eq_false, reduceCtorEq]
      rw [add_eq _ bo u w other meters (by omega) a1]; simp only [Option.bind_some, Bool.not_true, Bool.not_false, cond_true, cond_false, Bool.true_and, Bool.false_and, Bool.and_true, Bool.and_false, Bool.false_eq_true, Bool.true_or, Bool.or_true, Bool.false_or, Bool.or_false, Bool.or_self, Bool.and_self, decide_true, decide_false, if_true, if_false, not_true, not_false_eq_true, not_true_eq_false, false_or, or_false, true_and, and_true, Bool.not_eq_true, Bool.true_eq_false, reduceCtorEq]
      rw [w64_id (x := bo + meters) (by omega)]
      exact key _ _ _ _ _ (by simp; omega)
  · simp only [k1, Bool.not_true, Bool.not_false, cond_true, cond_false, Bool.true_and, Bool.false_and, Bool.and_true, Bool.and_false, Bool.false_eq_true, Bool.true_or, Bool.or_true, Bool.false_or, Bool.or_false, Bool.or_self, Bool.and_self, decide_true, decide_false, if_true, if_false, not_true, not_false_eq_true, not_true_eq_false, false_or, or_false, true_and, and_true, Bool.not_eq_true, Bool.true_eq_false, reduceCtorEq]
    rcases idxB_cases xs number with hi | ⟨i, a, hi, hil, hga, ha, ha0, hall⟩
    · rw [hi]
      simp only [show ((-1 : Int) < 0) = True from eq_true (by omega), Bool.not_true, Bool.not_false, cond_true, cond_false, Bool.true_and, Bool.false_and, Bool.and_true, Bool.and_false, Bool.false_eq_true, Bool.true_or, Bool.or_true, Bool.false_or, Bool.or_false, Bool.or_self, Bool.and_self, decide_true, decide_false, if_true, if_false, not_true, not_false_eq_true, not_true_eq_false, false_or, or_false, true_and, and_true, Bool.not_eq_true, Bool.true_eq_false, reduceCtorEq, Option.bind_some, outY]
      cases validY kind number other meters <;> rfl
    · rw [hi]
      have hba := hb a (List.mem_of_getElem? hga)
      have ha' := ha
      rw [rdB_nat] at ha'
      simp only [show ((i : Int) < 0) = False from eq_false (by omega), Bool.not_true, Bool.not_false, cond_true, cond_false, Bool.true_and, Bool.false_and, Bool.and_true, Bool.and_false, Bool.false_eq_true, Bool.true_or, Bool.or_true, Bool.false_or, Bool.or_false, Bool.or_self, Bool.and_self, decide_true, decide_false, if_true, if_false, not_true, not_false_eq_true, not_true_eq_false, false_or, or_false, true_and, and_true, Bool.not_eq_true, Bool.true_eq_false, reduceCtorEq]
      by_cases k2 : kind = 2
      · subst k2
        simp only [validY, k1, show ¬ (2 : Int) = 3 by omega, Bool.not_true, Bool.not_false, cond_true, cond_false, Bool.true_and, Bool.false_and, Bool.and_true, Bool.and_false, Bool.false_eq_true, Bool.true_or, Bool.or_true, Bool.false_or, Bool.or_false, Bool.or_self, Bool.and_self, decide_true, decide_false, if_true, if_false, not_true, not_false_eq_true, not_true_eq_false, false_or, or_false, true_and, and_true, Bool.not_eq_true, Bool.true_eq_false, reduceCtorEq]
        cases hv : (decide (other = 0) && inB meters 1 100000) with
        | false => simp only [Bool.not_true, Bool.not_false, cond_true, cond_false, Bool.true_and, Bool.false_and, Bool.and_true, Bool.and_false, Bool.false_eq_true, Bool.true_or, Bool.or_true, Bool.false_or, Bool.or_false, Bool.or_self, Bool.and_self, decide_true, decide_false, if_true, if_false, not_true, not_false_eq_true, not_true_eq_false, false_or, or_false, true_and, and_true, Bool.not_eq_true, Bool.true_eq_false, reduceCtorEq, no]
        | true =>
          simp only [Bool.and_eq_true, inB_iff, decide_eq_true_eq] at hv
          simp only [Bool.not_true, Bool.not_false, cond_true, cond_false, Bool.true_and, Bool.false_and, Bool.and_true, Bool.and_false, Bool.false_eq_true, Bool.true_or, Bool.or_true, Bool.false_or, Bool.or_false, Bool.or_self, Bool.and_self, decide_true, decide_false, if_true, if_false, not_true, not_false_eq_true, not_true_eq_false, false_or, or_false, true_and, and_true, Bool.not_eq_true, Bool.true_eq_false, reduceCtorEq, chk_nat hil, Option.bind_some, ha', ha]
          by_cases e : a.2.2 = meters
          · simp only [e, Bool.not_true, Bool.not_false, cond_true, cond_false, Bool.true_and, Bool.false_and, Bool.and_true, Bool.and_false, Bool.false_eq_true, Bool.true_or, Bool.or_true, Bool.false_or, Bool.or_false, Bool.or_self, Bool.and_self, decide_true, decide_false, if_true, if_false, not_true, not_false_eq_true, not_true_eq_false, false_or, or_false, true_and, and_true, Bool.not_eq_true, Bool.true_eq_false, reduceCtorEq, Option.bind_some, Int.lt_irrefl, no]
          · simp only [e, Bool.not_true, Bool.not_false, cond_true, cond_false, Bool.true_and, Bool.false_and, Bool.and_true, Bool.and_false, Bool.false_eq_true, Bool.true_or, Bool.or_true, Bool.false_or, Bool.or_false, Bool.or_self, Bool.and_self, decide_true, decide_false, if_true, if_false, not_true, not_false_eq_true, not_true_eq_false, false_or, or_false, true_and, and_true, Bool.not_eq_true, Bool.true_eq_false, reduceCtorEq]
            rw [take_eq k' _ _ _ _ hil ha (by omega) (by omega) hba hv.2]; simp only [Option.bind_some]
            by_cases e2 : meters < a.2.2
            · rw [decide_eq_true (show a.2.2 - meters ≥ 0 by omega)]; simp only [e2, Bool.not_true, Bool.not_false, cond_true, cond_false, Bool.true_and, Bool.false_and, Bool.and_true, Bool.and_false, Bool.false_eq_true, Bool.true_or, Bool.or_true, Bool.false_or, Bool.or_false, Bool.or_self, Bool.and_self, decide_true, decide_false, if_true, if_false, not_true, not_false_eq_true, not_true_eq_false, false_or, or_false, true_and, and_true, Bool.not_eq_true, Bool.true_eq_false, reduceCtorEq]
              rw [lessB_eq hil ha h0]
              have hlen := lessB_len xs (i : Int) meters
              rw [add_eq _ bo u w a.2.1 meters (by omega) a1]; simp only [Option.bind_some, Bool.not_true, Bool.not_false, cond_true, cond_false, Bool.true_and, Bool.false_and, Bool.and_true, Bool.and_false, Bool.false_eq_true, Bool.true_or, Bool.or_true, Bool.false_or, Bool.or_false, Bool.or_self, Bool.and_self, decide_true, decide_false, if_true, if_false, not_true, not_false_eq_true, not_true_eq_false, false_or, or_false, true_and, and_true, Bool.not_eq_true, Bool.true_eq_false, reduceCtorEq]
              exact key _ _ _ _ _ (by simp; omega)
            · rw [decide_eq_false (show ¬ a.2.2 - meters ≥ 0 by omega)]; simp only [e2, Bool.not_true, Bool.not_false, cond_true, cond_false, Bool.true_and, Bool.false_and, Bool.and_true, Bool.and_false, Bool.false_eq_true, Bool.true_or, Bool.or_true, Bool.false_or, Bool.or_false, Bool.or_self, Bool.and_self, decide_true, decide_false, if_true, if_false, not_true, not_false_eq_true, not_true_eq_false, false_or, or_false, true_and, and_true, Bool.not_eq_true, Bool.true_eq_false, reduceCtorEq, no, Option.bind_some]
      · by_cases k3 : kind = 3
        · subst k3
          simp only [validY, k1, k2, Bool.not_true, Bool.not_false, cond_true, cond_false, Bool.true_and, Bool.false_and, Bool.and_true, Bool.and_false, Bool.false_eq_true, Bool.true_or, Bool.or_true, Bool.false_or, Bool.or_false, Bool.or_self, Bool.and_self, decide_true, decide_false, if_true, if_false, not_true, not_false_eq_true, not_true_eq_false, false_or, or_false, true_and, and_true, Bool.not_eq_true, Bool.true_eq_false, reduceCtorEq]
          cases hv : (decide (meters = 0) && decide (number ≠ other)) with
          | false => simp only [Bool.not_true, Bool.not_false, cond_true, cond_false, Bool.true_and, Bool.false_and, Bool.and_true, Bool.and_false, Bool.false_eq_true, Bool.true_or, Bool.or_true, Bool.false_or, Bool.or_false, Bool.or_self, Bool.and_self, decide_true, decide_false, if_true, if_false, not_true, not_false_eq_true, not_true_eq_false, false_or, or_false, true_and, and_true, Bool.not_eq_true, Bool.true_eq_false, reduceCtorEq, no]
          | true =>
            simp only [Bool.and_eq_true, decide_eq_true_eq] at hv
            simp only [Bool.not_true, Bool.not_false, cond_true, cond_false, Bool.true_and, Bool.false_and, Bool.and_true, Bool.and_false, Bool.false_eq_true, Bool.true_or, Bool.or_true, Bool.false_or, Bool.or_false, Bool.or_self, Bool.and_self, decide_true, decide_false, if_true, if_false, not_true, not_false_eq_true, not_true_eq_false, false_or, or_false, true_and, and_true, Bool.not_eq_true, Bool.true_eq_false, reduceCtorEq]
            rw [find_eq k' xs _ _ _ _ other (by omega) (by omega)]; simp only [Option.bind_some]
            rcases idxB_cases xs other with hj | ⟨j, c, hj, hjl, hgc, hc, hc0, _⟩
            · rw [hj]
              unfold impl_YarnStore_tie.f impl_YarnStore_tie.m
              simp only [show ((-1 : Int) < 0) = True from eq_true (by omega), show ((-1 : Int) ≥ 0) = False from eq_false (by omega), Bool.not_true, Bool.not_false, cond_true, cond_false, Bool.true_and, Bool.false_and, Bool.and_true, Bool.and_false, Bool.false_eq_true, Bool.true_or, Bool.or_true, Bool.false_or, Bool.or_false, Bool.or_self, Bool.and_self, decide_true, decide_false, if_true, if_false, not_true, not_false_eq_true, not_true_eq_false, false_or, or_false, true_and, and_true, Bool.not_eq_true, Bool.true_eq_false, reduceCtorEq, Option.bind_some, no]
            · have hbc := hb c (List.mem_of_getElem? hgc)
              rw [hj, tie_eq k' _ _ _ hil hjl ha hc (by omega) hba hbc a4, ha, hc]
              simp only [show ((j : Int) ≥ 0) = True from eq_true (by omega), Bool.not_true, Bool.not_false, cond_true, cond_false, Bool.true_and, Bool.false_and, Bool.and_true, Bool.and_false, Bool.false_eq_true, Bool.true_or, Bool.or_true, Bool.false_or, Bool.or_false, Bool.or_self, Bool.and_self, decide_true, decide_false, if_true, if_false, not_true, not_false_eq_true, not_true_eq_false, false_or, or_false, true_and, and_true, Bool.not_eq_true, Bool.true_eq_false, reduceCtorEq]
              by_cases e : a.2.1 = c.2.1
              · simp only [e, Bool.not_true, Bool.not_false, cond_true, cond_false, Bool.true_and, Bool.false_and, Bool.and_true, Bool.and_false, Bool.false_eq_true, Bool.true_or, Bool.or_true, Bool.false_or, Bool.or_false, Bool.or_self, Bool.and_self, decide_true, decide_false, if_true, if_false, not_true, not_false_eq_true, not_true_eq_false, false_or, or_false, true_and, and_true, Bool.not_eq_true, Bool.true_eq_false, reduceCtorEq, Option.bind_some]
                have hlen := tieB_len xs (i : Int) (j : Int)
                exact key _ _ _ _ _ (by omega)
              · simp only [e, Bool.not_true, Bool.not_false, cond_true, cond_false, Bool.true_and, Bool.false_and, Bool.and_true, Bool.and_false, Bool.false_eq_true, Bool.true_or, Bool.or_true, Bool.false_or, Bool.or_false, Bool.or_self, Bool.and_self, decide_true, decide_false, if_true, if_false, not_true, not_false_eq_true, not_true_eq_false, false_or, or_false, true_and, and_true, Bool.not_eq_true, Bool.true_eq_false, reduceCtorEq, Option.bind_some, no]
        · by_cases k4 : kind = 4
          · subst k4
            simp only [validY, k1, k2, k3, Bool.not_true, Bool.not_false, cond_true, cond_false, Bool.true_and, Bool.false_and, Bool.and_true, Bool.and_false, Bool.false_eq_true, Bool.true_or, Bool.or_true, Bool.false_or, Bool.or_false, Bool.or_self, Bool.and_self, decide_true, decide_false, if_true, if_false, not_true, not_false_eq_true, not_true_eq_false, false_or, or_false, true_and, and_true, Bool.not_eq_true, Bool.true_eq_false, reduceCtorEq]
            cases hv : (decide (other = 0) && inB meters 1 100000) with
            | false => simp only [Bool.not_true, Bool.not_false, cond_true, cond_false, Bool.true_and, Bool.false_and, Bool.and_true, Bool.and_false, Bool.false_eq_true, Bool.true_or, Bool.or_true, Bool.false_or, Bool.or_false, Bool.or_self, Bool.and_self, decide_true, decide_false, if_true, if_false, not_true, not_false_eq_true, not_true_eq_false, false_or, or_false, true_and, and_true, Bool.not_eq_true, Bool.true_eq_false, reduceCtorEq, no]
            | true =>
              simp only [Bool.and_eq_true, inB_iff, decide_eq_true_eq] at hv
              simp only [Bool.not_true, Bool.not_false, cond_true, cond_false, Bool.true_and, Bool.false_and, Bool.and_true, Bool.and_false, Bool.false_eq_true, Bool.true_or, Bool.or_true, Bool.false_or, Bool.or_false, Bool.or_self, Bool.and_self, decide_true, decide_false, if_true, if_false, not_true, not_false_eq_true, not_true_eq_false, false_or, or_false, true_and, and_true, Bool.not_eq_true, Bool.true_eq_false, reduceCtorEq]
              rw [w64_id (x := u + meters) (by omega), take_eq k' _ _ _ _ hil ha (by omega) (by omega) hba hv.2, ha]; simp only [Option.bind_some]
              by_cases e2 : meters ≤ a.2.2
              · rw [decide_eq_true (show a.2.2 - meters ≥ 0 by omega)]; simp only [e2, Bool.not_true, Bool.not_false, cond_true, cond_false, Bool.true_and, Bool.false_and, Bool.and_true, Bool.and_false, Bool.false_eq_true, Bool.true_or, Bool.or_true, Bool.false_or, Bool.or_false, Bool.or_self, Bool.and_self, decide_true, decide_false, if_true, if_false, not_true, not_false_eq_true, not_true_eq_false, false_or, or_false, true_and, and_true, Bool.not_eq_true, Bool.true_eq_false, reduceCtorEq]
                rw [lessB_eq hil ha h0]
                have hlen := lessB_len xs (i : Int) meters
                exact key _ _ _ _ _ (by omega)
              · rw [decide_eq_false (show ¬ a.2.2 - meters ≥ 0 by omega)]; simp only [e2, Bool.not_true, Bool.not_false, cond_true, cond_false, Bool.true_and, Bool.false_and, Bool.and_true, Bool.and_false, Bool.false_eq_true, Bool.true_or, Bool.or_true, Bool.false_or, Bool.or_false, Bool.or_self, Bool.and_self, decide_true, decide_false, if_true, if_false, not_true, not_false_eq_true, not_true_eq_false, false_or, or_false, true_and, and_true, Bool.not_eq_true, Bool.true_eq_false, reduceCtorEq, no]
          · by_cases k5 : kind = 5
            · subst k5
              simp only [validY, k1, k2, k3, k4, Bool.not_true, Bool.not_false, cond_true, cond_false, Bool.true_and, Bool.false_and, Bool.and_true, Bool.and_false, Bool.false_eq_true, Bool.true_or, Bool.or_true, Bool.false_or, Bool.or_false, Bool.or_self, Bool.and_self, decide_true, decide_false, if_true, if_false, not_true, not_false_eq_true, not_true_eq_false, false_or, or_false, true_and, and_true, Bool.not_eq_true, Bool.true_eq_false, reduceCtorEq]
              cases hv : (decide (other = 0) && inB meters 1 100000) with
              | false => simp only [Bool.not_true, Bool.not_false, cond_true, cond_false, Bool.true_and, Bool.false_and, Bool.and_true, Bool.and_false, Bool.false_eq_true, Bool.true_or, Bool.or_true, Bool.false_or, Bool.or_false, Bool.or_self, Bool.and_self, decide_true, decide_false, if_true, if_false, not_true, not_false_eq_true, not_true_eq_false, false_or, or_false, true_and, and_true, Bool.not_eq_true, Bool.true_eq_false, reduceCtorEq, no]
              | true =>
                simp only [Bool.and_eq_true, inB_iff, decide_eq_true_eq] at hv
                simp only [Bool.not_true, Bool.not_false, cond_true, cond_false, Bool.true_and, Bool.false_and, Bool.and_true, Bool.and_false, Bool.false_eq_true, Bool.true_or, Bool.or_true, Bool.false_or, Bool.or_false, Bool.or_self, Bool.and_self, decide_true, decide_false, if_true, if_false, not_true, not_false_eq_true, not_true_eq_false, false_or, or_false, true_and, and_true, Bool.not_eq_true, Bool.true_eq_false, reduceCtorEq]
                rw [w64_id (x := w + meters) (by omega), take_eq k' _ _ _ _ hil ha (by omega) (by omega) hba hv.2, ha]; simp only [Option.bind_some]
                by_cases e2 : meters ≤ a.2.2
                · rw [decide_eq_true (show a.2.2 - meters ≥ 0 by omega)]; simp only [e2, Bool.not_true, Bool.not_false, cond_true, cond_false, Bool.true_and, Bool.false_and, Bool.and_true, Bool.and_false, Bool.false_eq_true, Bool.true_or, Bool.or_true, Bool.false_or, Bool.or_false, Bool.or_self, Bool.and_self, decide_true, decide_false, if_true, if_false, not_true, not_false_eq_true, not_true_eq_false, false_or, or_false, true_and, and_true, Bool.not_eq_true, Bool.true_eq_false, reduceCtorEq]
                  rw [lessB_eq hil ha h0]
                  have hlen := lessB_len xs (i : Int) meters
                  exact key _ _ _ _ _ (by omega)
                · rw [decide_eq_false (show ¬ a.2.2 - meters ≥ 0 by omega)]; simp only [e2, Bool.not_true, Bool.not_false, cond_true, cond_false, Bool.true_and, Bool.false_and, Bool.and_true, Bool.and_false, Bool.false_eq_true, Bool.true_or, Bool.or_true, Bool.false_or, Bool.or_false, Bool.or_self, Bool.and_self, decide_true, decide_false, if_true, if_false, not_true, not_false_eq_true, not_true_eq_false, false_or, or_false, true_and, and_true, Bool.not_eq_true, Bool.true_eq_false, reduceCtorEq, no]
            · simp only [validY, k1, k2, k3, k4, k5, Bool.not_true, Bool.not_false, cond_true, cond_false, Bool.true_and, Bool.false_and, Bool.and_true, Bool.and_false, Bool.false_eq_true, Bool.true_or, Bool.or_true, Bool.false_or, Bool.or_false, Bool.or_self, Bool.and_self, decide_true, decide_false, if_true, if_false, not_true, not_false_eq_true, not_true_eq_false, false_or, or_false, true_and, and_true, Bool.not_eq_true, Bool.true_eq_false, reduceCtorEq, outY]
def validS (bs : List B) (kind number other meters : Int) : Bool :=
  if kind = 1 then decide (number = 0) && inB other 0 5 && inB meters 1 100000 else !decide (idxB bs number < 0) && (if kind = 3 then decide (idxB bs other ≥ 0) && (!decide (other = number) && decide (meters = 0)) else inB kind 2 5 && decide (other = 0) && inB meters 1 100000)
theorem sstep_eq (k : Nat) (xs : List B) (n b u w kind number other meters : Int) (hl : xs.length ≤ 1000) (hk : xs.length + 60 < k) : spec_l21Step.f k xs n b u w kind number other meters = some (validS xs kind number other meters) := by
  unfold spec_l21Step.f spec_l21Step.m validS
  simp only [specIn_eq, specColor_eq, specMeters_eq, Option.bind_some]
  by_cases k1 : kind = 1
  · subst k1; by_cases h : number = 0 <;> simp [h] <;> (cases inB other 0 5 <;> simp)
  · rw [if_neg k1, if_neg k1, sfind_eq k xs n b u w number (by omega) (by omega)]; simp only [Option.bind_some]
    by_cases h0 : idxB xs number < 0
    · simp only [h0, Bool.not_true, Bool.not_false, cond_true, cond_false, Bool.true_and, Bool.false_and, Bool.and_true, Bool.and_false, Bool.false_eq_true, Bool.true_or, Bool.or_true, Bool.false_or, Bool.or_false, Bool.or_self, Bool.and_self, decide_true, decide_false, if_true, if_false, not_true, not_false_eq_true, not_true_eq_false, false_or, or_false, true_and, and_true, Bool.not_eq_true, Bool.true_eq_false, reduceCtorEq]
    · simp only [h0, Bool.not_true, Bool.not_false, cond_true, cond_false, Bool.true_and, Bool.false_and, Bool.and_true, Bool.and_false, Bool.false_eq_true, Bool.true_or, Bool.or_true, Bool.false_or, Bool.or_false, Bool.or_self, Bool.and_self, decide_true, decide_false, if_true, if_false, not_true, not_false_eq_true, not_true_eq_false, false_or, or_false, true_and, and_true, Bool.not_eq_true, Bool.true_eq_false, reduceCtorEq]
      by_cases k3 : kind = 3
      · rw [if_pos k3, if_pos k3, sfind_eq k xs n b u w other (by omega) (by omega)]; simp only [Option.bind_some]
        by_cases h1 : idxB xs other ≥ 0
        · rw [if_pos h1, decide_eq_true h1]
          by_cases h2 : other = number
          · simp only [h2, Bool.not_true, Bool.not_false, cond_true, cond_false, Bool.true_and, Bool.false_and, Bool.and_true, Bool.and_false, Bool.false_eq_true, Bool.true_or, Bool.or_true, Bool.false_or, Bool.or_false, Bool.or_self, Bool.and_self, decide_true, decide_false, if_true, if_false, not_true, not_false_eq_true, not_true_eq_false, false_or, or_false, true_and, and_true, Bool.not_eq_true, Bool.true_eq_false, reduceCtorEq]
          · simp only [h2, Bool.not_true, Bool.not_false, cond_true, cond_false, Bool.true_and, Bool.false_and, Bool.and_true, Bool.and_false, Bool.false_eq_true, Bool.true_or, Bool.or_true, Bool.false_or, Bool.or_false, Bool.or_self, Bool.and_self, decide_true, decide_false, if_true, if_false, not_true, not_false_eq_true, not_true_eq_false, false_or, or_false, true_and, and_true, Bool.not_eq_true, Bool.true_eq_false, reduceCtorEq]
        · rw [if_neg h1, decide_eq_false h1]; rfl
      · rw [if_neg k3, if_neg k3]
        cases inB kind 2 5 with
        | false => simp
        | true => by_cases h : other = 0 <;> simp [h]
/-- What the reference makes of a valid step. -/
theorem smake_eq (k : Nat) {xs : List B} {next bo u w kind number other meters : Int} (hs : yarnB xs next bo u w = true) (hv : validS xs kind number other meters = true) (hk : 2000 ≤ k) : ∃ (ys : List B) (n' b' u' w' : Int) (c : Bool), spec_l21Make.f k xs next bo u w kind number other meters = some (ys, n', b', u', w', c) ∧ stepY xs next bo u w kind number other meters = putY c ys n' b' u' w' := by
  obtain ⟨a1, a2, a3, a4, a5, a6, a7, a8⟩ := yarnB_of hs
  have hb : ∀ b ∈ xs, 1 ≤ b.2.2 ∧ b.2.2 ≤ 100000 := fun b h => (bobB_of (a6 b h)).2.2
  unfold spec_l21Make.f spec_l21Make.m stepY
  unfold validS at hv
  rw [own_eq k xs _ _ _ _ (by omega)]; simp only [Option.bind_some]
  by_cases k1 : kind = 1
  · rw [if_pos k1] at hv ⊢; rw [if_pos k1]
    have hv' := hv
    simp only [Bool.and_eq_true, inB_iff, decide_eq_true_eq] at hv'
    rw [new_eq k bo u w other meters (by omega) a1]; simp only [Option.bind_some]
    rw [w64_id (x := bo + meters) (by omega), good_eq k _ _ _ _ _ (by omega)]; simp only [Option.bind_some]
    refine ⟨_, _, _, _, _, _, rfl, ?_⟩
    rw [hv, Bool.true_and]
  · rw [if_neg k1] at hv ⊢; rw [if_neg k1]
    simp only [Bool.and_eq_true, Bool.not_eq_true', decide_eq_false_iff_not] at hv
    obtain ⟨hv0, hv⟩ := hv
    rw [if_neg hv0]
    rcases idxB_cases xs number with hi | ⟨i, a, hi, hil, hga, ha, ha0, hall⟩
    · omega
    · have hba := hb a (List.mem_of_getElem? hga)
      have ha' := ha
      rw [rdB_nat] at ha'
      rw [hi, ha]
      by_cases k3 : kind = 3
      · subst k3
        rw [if_pos rfl] at hv
        simp only [Bool.and_eq_true, Bool.not_eq_true', decide_eq_true_eq, decide_eq_false_iff_not] at hv
        rw [if_neg (show ¬ (3 : Int) = 2 by omega), if_neg (show ¬ (3 : Int) = 2 by omega), if_pos rfl, if_pos rfl]
        rcases idxB_cases xs other with hj | ⟨j, c, hj, hjl, hgc, hc, hc0, _⟩
        · omega
        · have hbc := hb c (List.mem_of_getElem? hgc)
          have hij : i ≠ j := by
            intro e; subst e; rw [hga] at hgc; injection hgc with e; subst e; omega
          rw [hj, hc, stie_eq k next bo u hi hj hil hjl hga ha hc ha0 hij hall (by omega) (by omega) hba hbc a4]; simp only [Option.bind_some]
          rw [show decide (meters = 0) = true from decide_eq_true hv.2.2, show decide (number ≠ other) = true from decide_eq_true (fun e => hv.2.1 e.symm), show decide ((j : Int) ≥ 0) = true from decide_eq_true (by omega)]
          by_cases e : a.2.1 = c.2.1
          · simp only [e, Bool.not_true, Bool.not_false, cond_true, cond_false, Bool.true_and, Bool.false_and, Bool.and_true, Bool.and_false, Bool.false_eq_true, Bool.true_or, Bool.or_true, Bool.false_or, Bool.or_false, Bool.or_self, Bool.and_self, decide_true, decide_false, if_true, if_false, not_true, not_false_eq_true, not_true_eq_false, false_or, or_false, true_and, and_true, Bool.not_eq_true, Bool.true_eq_false, reduceCtorEq]
            rw [good_eq k _ _ _ _ _ (by omega)]; simp only [Option.bind_some]
            exact ⟨_, _, _, _, _, _, rfl, by simp⟩
          · simp only [e, Bool.not_true, Bool.not_false, cond_true, cond_false, Bool.true_and, Bool.false_and, Bool.and_true, Bool.and_false, Bool.false_eq_true, Bool.true_or, Bool.or_true, Bool.false_or, Bool.or_false, Bool.or_self, Bool.and_self, decide_true, decide_false, if_true, if_false, not_true, not_false_eq_true, not_true_eq_false, false_or, or_false, true_and, and_true, Bool.not_eq_true, Bool.true_eq_false, reduceCtorEq]
            exact ⟨_, _, _, _, _, _, rfl, by simp [putY]⟩
      · rw [if_neg k3] at hv
        simp only [Bool.and_eq_true, inB_iff, decide_eq_true_eq] at hv
        obtain ⟨⟨hk2, ho⟩, hm⟩ := hv
        have hm' : inB meters 1 100000 = true := inB_iff.2 hm
        have hless := less_eq k next bo u w hi hil ha (by omega) (by omega) hba hm
        have hlen := lessB_len xs (i : Int) meters
        rw [show decide (other = 0) = true from decide_eq_true ho, hm']
        by_cases k2 : kind = 2
        · rw [if_pos k2, if_pos k2, sfind_eq k xs _ _ _ _ number (by omega) (by omega), hi]
          simp only [Option.bind_some, chk_nat hil, ha']
          rw [hless]; simp only [Option.bind_some]
          rw [new_eq k bo u w a.2.1 meters (by omega) a1]; simp only [Option.bind_some]
          by_cases e : meters < a.2.2
          · rw [if_pos e, decide_eq_true e, good_eq k _ _ _ _ _ (by omega)]; simp only [Option.bind_some]
            exact ⟨_, _, _, _, _, _, rfl, by simp⟩
          · rw [if_neg e, decide_eq_false e]
            exact ⟨_, _, _, _, _, _, rfl, by simp [putY]⟩
        · rw [if_neg k2, if_neg k2, if_neg k3, if_neg k3]
          have hneg : ∀ (n' b' u' w' : Int), ¬ meters ≤ a.2.2 → yarnB (lessB xs i meters) n' b' u' w' = false := by
            intro n' b' u' w' hlt
            rw [← Bool.not_eq_true]; intro hy
            have h6 := (yarnB_of hy).2.2.2.2.2.1
            have := (bobB_of (h6 ⟨a.1, a.2.1, a.2.2 - meters⟩ (by
              unfold lessB; rw [ha, if_neg (by omega), Int.toNat_natCast]
              exact List.mem_of_getElem? (i := i) (by rw [List.getElem?_set]; simp [hil])))).2.2
            simp only at this; omega
          by_cases k4 : kind = 4
          · rw [if_pos k4, if_pos k4, hless]; simp only [Option.bind_some]
            rw [w64_id (x := u + meters) (by omega), good_eq k _ _ _ _ _ (by omega)]; simp only [Option.bind_some]
            refine ⟨_, _, _, _, _, _, rfl, ?_⟩
            by_cases e : meters ≤ a.2.2
            · rw [decide_eq_true e]; simp
            · rw [hneg _ _ _ _ e]; simp [putY]
          · rw [if_neg k4, if_neg k4, if_pos (by omega), hless]; simp only [Option.bind_some]
            rw [w64_id (x := w + meters) (by omega), good_eq k _ _ _ _ _ (by omega)]; simp only [Option.bind_some]
            refine ⟨_, _, _, _, _, _, rfl, ?_⟩
            by_cases e : meters ≤ a.2.2
            · rw [decide_eq_true e]; simp
            · rw [hneg _ _ _ _ e]; simp [putY]
theorem stepY_no {xs : List B} {next bo u w kind number other meters : Int} (hv : validS xs kind number other meters = false) : stepY xs next bo u w kind number other meters = none := by
  unfold validS at hv; unfold stepY
  by_cases k1 : kind = 1
  · rw [if_pos k1] at hv ⊢; rw [hv]; rfl
  · rw [if_neg k1] at hv ⊢
    by_cases h0 : idxB xs number < 0
    · rw [if_pos h0]
    · rw [if_neg h0]
      rw [decide_eq_false h0] at hv; simp only [Bool.not_false, Bool.true_and] at hv
      by_cases k3 : kind = 3
      · subst k3
        rw [if_pos rfl] at hv
        rw [if_neg (show ¬ (3 : Int) = 2 by omega), if_pos rfl]
        have : (decide (meters = 0) && decide (number ≠ other) && decide (idxB xs other ≥ 0)) = false := by
          rw [← hv]
          by_cases e1 : meters = 0 <;> by_cases e2 : other = number <;> by_cases e3 : idxB xs other ≥ 0 <;> simp [e1, e2, e3] <;> (try omega)
        rw [this]; simp [putY]
      · rw [if_neg k3] at hv
        have hv' : ∀ k' : Int, kind = k' → 2 ≤ k' → k' ≤ 5 → (decide (other = 0) && inB meters 1 100000) = false := by
          intro k' e h2 h5
          rw [e, inB_iff.2 ⟨h2, h5⟩, Bool.true_and] at hv; exact hv
        by_cases k2 : kind = 2
        · rw [if_pos k2, hv' 2 k2 (by omega) (by omega)]; simp [putY]
        · rw [if_neg k2, if_neg k3]
          by_cases k4 : kind = 4
          · rw [if_pos k4, hv' 4 k4 (by omega) (by omega)]; simp [putY]
          · rw [if_neg k4]
            by_cases k5 : kind = 5
            · rw [if_pos k5, hv' 5 k5 (by omega) (by omega)]; simp [putY]
            · rw [if_neg k5]
abbrev X := Int × Int × Int × Int
def runY : List X → List B → Int → Int → Int → Int → Int → List B × Int × Int × Int × Int × Int
  | [], c, a, b, u, w, n => (c, a, b, u, w, n)
  | x :: xs, c, a, b, u, w, n => match stepY c a b u w x.1 x.2.1 x.2.2.1 x.2.2.2 with | some (c', a', b', u', w') => runY xs c' a' b' u' w' (n + 1) | none => runY xs c a b u w n
def runO (r : List B × Int × Int × Int × Int × Int) : List B × Int × Int × Int × Int × Int × Bool := (r.1, r.2.1, r.2.2.1, r.2.2.2.1, r.2.2.2.2.1, r.2.2.2.2.2, true)
theorem runY_good : ∀ (xs : List X) {c : List B} {a b u w : Int} (n : Int), yarnB c a b u w = true → yarnB (runY xs c a b u w n).1 (runY xs c a b u w n).2.1 (runY xs c a b u w n).2.2.1 (runY xs c a b u w n).2.2.2.1 (runY xs c a b u w n).2.2.2.2.1 = true := by
  intro xs
  induction xs with
  | nil => intro c a b u w n hs; exact hs
  | cons x xs ih =>
    intro c a b u w n hs
    simp only [runY]
    cases h : stepY c a b u w x.1 x.2.1 x.2.2.1 x.2.2.2 with
    | none => exact ih n hs
    | some r => obtain ⟨c', a', b', u', w'⟩ := r; exact ih (n + 1) (stepY_good h)
theorem implRun_l {steps : List X} (hl : steps.length ≤ 30) : ∀ (e K i : Nat) (c : List B) (a b u w n : Int), i + e = steps.length → yarnB c a b u w = true → 0 ≤ n → n + e ≤ 1000 → 3000 + e ≤ K → impl_RunYarnStore.l7 K [] 0 0 0 0 c a b u w n steps steps.length (i : Int) = some (runO (runY (steps.drop i) c a b u w n)) := by
  intro e
  induction e with
  | zero =>
    intro K i c a b u w n h1 hs h2 h3 h4
    obtain ⟨K, rfl⟩ := succ_of (show 0 < K by omega)
    simp (disch := omega) only [impl_RunYarnStore.l7, impl_RunYarnStore.b7, if_neg]; rw [List.drop_of_length_le (by omega)]; rfl
  | succ e ih =>
    intro K i c a b u w n h1 hs h2 h3 h4
    obtain ⟨K, rfl⟩ := succ_of (show 0 < K by omega)
    have hi : i < steps.length := by omega
    have hd : steps.drop i = steps[i] :: steps.drop (i + 1) := List.drop_eq_getElem_cons hi
    simp (disch := omega) only [impl_RunYarnStore.l7, impl_RunYarnStore.b7, if_pos, chk_nat, Option.bind_some, getD_lt hi, implStep_eq K _ _ _ _ hs, w64_id]
    rw [hd]; simp only [runY]
    rw [show ((i : Int) + 1) = ((i + 1 : Nat) : Int) by omega]
    cases h : stepY c a b u w steps[i].1 steps[i].2.1 steps[i].2.2.1 steps[i].2.2.2 with
    | none => simp only [outY, Bool.not_true, Bool.not_false, cond_true, cond_false, Bool.true_and, Bool.false_and, Bool.and_true, Bool.and_false, Bool.false_eq_true, Bool.true_or, Bool.or_true, Bool.false_or, Bool.or_false, Bool.or_self, Bool.and_self, decide_true, decide_false, if_true, if_false, not_true, not_false_eq_true, not_true_eq_false, false_or, or_false, true_and, and_true, Bool.not_eq_true, Bool.true_eq_false, reduceCtorEq]; exact ih K (i + 1) c a b u w n (by omega) hs h2 (by omega) (by omega)
    | some r =>
      obtain ⟨c', a', b', u', w'⟩ := r
      simp only [outY, Bool.not_true, Bool.not_false, cond_true, cond_false, Bool.true_and, Bool.false_and, Bool.and_true, Bool.and_false, Bool.false_eq_true, Bool.true_or, Bool.or_true, Bool.false_or, Bool.or_false, Bool.or_self, Bool.and_self, decide_true, decide_false, if_true, if_false, not_true, not_false_eq_true, not_true_eq_false, false_or, or_false, true_and, and_true, Bool.not_eq_true, Bool.true_eq_false, reduceCtorEq]
      exact ih K (i + 1) c' a' b' u' w' (n + 1) (by omega) (stepY_good h) (by omega) (by omega) (by omega)
theorem specRun_l {steps : List X} (hl : steps.length ≤ 30) : ∀ (e K i : Nat) (c : List B) (a b u w n : Int), i + e = steps.length → yarnB c a b u w = true → 0 ≤ n → n + e ≤ 1000 → 3000 + e ≤ K → spec_RunYarnStore.l7 K steps [] 0 0 0 0 c a b u w n (i : Int) = some (runO (runY (steps.drop i) c a b u w n)) := by
  intro e
  induction e with
  | zero =>
    intro K i c a b u w n h1 hs h2 h3 h4
    obtain ⟨K, rfl⟩ := succ_of (show 0 < K by omega)
    simp (disch := omega) only [spec_RunYarnStore.l7, spec_RunYarnStore.b7, if_neg]; rw [List.drop_of_length_le (by omega)]; rfl
  | succ e ih =>
    intro K i c a b u w n h1 hs h2 h3 h4
    obtain ⟨K, rfl⟩ := succ_of (show 0 < K by omega)
    have hi : i < steps.length := by omega
    have hd : steps.drop i = steps[i] :: steps.drop (i + 1) := List.drop_eq_getElem_cons hi
    have a5 := (yarnB_of hs).2.2.2.2.1
    simp (disch := omega) only [spec_RunYarnStore.l7, spec_RunYarnStore.b7, if_pos, chk_nat, Option.bind_some, getD_lt hi, sstep_eq, w64_id]
    rw [hd]; simp only [runY]
    rw [show ((i : Int) + 1) = ((i + 1 : Nat) : Int) by omega]
    have hno := ih K (i + 1) c a b u w n (by omega) hs h2 (by omega) (by omega)
    cases hok : validS c steps[i].1 steps[i].2.1 steps[i].2.2.1 steps[i].2.2.2 with
    | false => rw [stepY_no hok]; simp only [Bool.not_true, Bool.not_false, cond_true, cond_false, Bool.true_and, Bool.false_and, Bool.and_true, Bool.and_false, Bool.false_eq_true, Bool.true_or, Bool.or_true, Bool.false_or, Bool.or_false, Bool.or_self, Bool.and_self, decide_true, decide_false, if_true, if_false, not_true, not_false_eq_true, not_true_eq_false, false_or, or_false, true_and, and_true, Bool.not_eq_true, Bool.true_eq_false, reduceCtorEq]; exact hno
    | true =>
      obtain ⟨c', a', b', u', w', q, e1, e2⟩ := smake_eq K hs hok (by omega)
      simp only [Bool.not_true, Bool.not_false, cond_true, cond_false, Bool.true_and, Bool.false_and, Bool.and_true, Bool.and_false, Bool.false_eq_true, Bool.true_or, Bool.or_true, Bool.false_or, Bool.or_false, Bool.or_self, Bool.and_self, decide_true, decide_false, if_true, if_false, not_true, not_false_eq_true, not_true_eq_false, false_or, or_false, true_and, and_true, Bool.not_eq_true, Bool.true_eq_false, reduceCtorEq]
      rw [e1, e2]; simp only [Option.bind_some]
      cases q with
      | false => simp only [putY, Bool.not_true, Bool.not_false, cond_true, cond_false, Bool.true_and, Bool.false_and, Bool.and_true, Bool.and_false, Bool.false_eq_true, Bool.true_or, Bool.or_true, Bool.false_or, Bool.or_false, Bool.or_self, Bool.and_self, decide_true, decide_false, if_true, if_false, not_true, not_false_eq_true, not_true_eq_false, false_or, or_false, true_and, and_true, Bool.not_eq_true, Bool.true_eq_false, reduceCtorEq]; exact hno
      | true =>
        have h' : stepY c a b u w steps[i].1 steps[i].2.1 steps[i].2.2.1 steps[i].2.2.2 = some (c', a', b', u', w') := by rw [e2]; rfl
        simp only [putY, Bool.not_true, Bool.not_false, cond_true, cond_false, Bool.true_and, Bool.false_and, Bool.and_true, Bool.and_false, Bool.false_eq_true, Bool.true_or, Bool.or_true, Bool.false_or, Bool.or_false, Bool.or_self, Bool.and_self, decide_true, decide_false, if_true, if_false, not_true, not_false_eq_true, not_true_eq_false, false_or, or_false, true_and, and_true, Bool.not_eq_true, Bool.true_eq_false, reduceCtorEq]
        exact ih K (i + 1) c' a' b' u' w' (n + 1) (by omega) (stepY_good h') (by omega) (by omega) (by omega)
theorem run_both (xs : List B) (a b u w : Int) (steps : List X) (hl : xs.length ≤ 100000000000000) : (yarnB xs a b u w = true ∧ steps.length ≤ 30 ∧ (∀ k, xs.length + 10000 ≤ k → spec_RunYarnStore.f k xs a b u w steps = some (runO (runY steps xs a b u w 0))) ∧ (∀ k, xs.length + 10000 ≤ k → impl_RunYarnStore.f k xs a b u w steps = some (runO (runY steps xs a b u w 0)))) ∨ (¬ (yarnB xs a b u w = true ∧ steps.length ≤ 30) ∧ (∀ k, xs.length + 10000 ≤ k → spec_RunYarnStore.f k xs a b u w steps = some ([], 0, 0, 0, 0, 0, false)) ∧ (∀ k, xs.length + 10000 ≤ k → impl_RunYarnStore.f k xs a b u w steps = some ([], 0, 0, 0, 0, 0, false))) := by
  have hS : ∀ k, xs.length + 10000 ≤ k → spec_l21Good.f k xs a b u w = some (yarnB xs a b u w) := fun k hk => good_eq k xs a b u w (by omega)
  have hI : ∀ k, xs.length + 10000 ≤ k → impl_IsYarnStore.f k xs a b u w = some (yarnB xs a b u w) := fun k hk => isYarn_eq k xs a b u w (by omega) (by omega)
  by_cases hs : yarnB xs a b u w = true
  · have a4 := (yarnB_of hs).2.2.2.2.1
    by_cases h40 : steps.length ≤ 30
    · refine .inl ⟨hs, h40, fun k hk => ?_, fun k hk => ?_⟩
      · unfold spec_RunYarnStore.f spec_RunYarnStore.m; rw [hS k hk, hs]
        simp (disch := omega) only [Option.bind_some, Bool.not_true, Bool.not_false, cond_true, cond_false, Bool.true_and, Bool.false_and, Bool.and_true, Bool.and_false, Bool.false_eq_true, Bool.true_or, Bool.or_true, Bool.false_or, Bool.or_false, Bool.or_self, Bool.and_self, decide_true, decide_false, if_true, if_false, not_true, not_false_eq_true, not_true_eq_false, false_or, or_false, true_and, and_true, Bool.not_eq_true, Bool.true_eq_false, reduceCtorEq, if_neg, own_eq]
        exact specRun_l h40 steps.length k 0 _ _ _ _ _ 0 (by omega) hs (by omega) (by omega) (by omega)
      · unfold impl_RunYarnStore.f impl_RunYarnStore.m impl_YarnStore_copied.f impl_YarnStore_copied.m; rw [hI k hk, hs]
        simp (disch := omega) only [Option.bind_some, Bool.not_true, Bool.not_false, cond_true, cond_false, Bool.true_and, Bool.false_and, Bool.and_true, Bool.and_false, Bool.false_eq_true, Bool.true_or, Bool.or_true, Bool.false_or, Bool.or_false, Bool.or_self, Bool.and_self, decide_true, decide_false, if_true, if_false, not_true, not_false_eq_true, not_true_eq_false, false_or, or_false, true_and, and_true, Bool.not_eq_true, Bool.true_eq_false, reduceCtorEq, if_neg, clone_eq]
        exact implRun_l h40 steps.length k 0 _ _ _ _ _ 0 (by omega) hs (by omega) (by omega) (by omega)
    · refine .inr ⟨fun h => h40 h.2, fun k hk => ?_, fun k hk => ?_⟩
      · unfold spec_RunYarnStore.f spec_RunYarnStore.m; rw [hS k hk, hs]
        simp (disch := omega) only [Option.bind_some, Bool.not_true, Bool.not_false, cond_true, cond_false, Bool.true_and, Bool.false_and, Bool.and_true, Bool.and_false, Bool.false_eq_true, Bool.true_or, Bool.or_true, Bool.false_or, Bool.or_false, Bool.or_self, Bool.and_self, decide_true, decide_false, if_true, if_false, not_true, not_false_eq_true, not_true_eq_false, false_or, or_false, true_and, and_true, Bool.not_eq_true, Bool.true_eq_false, reduceCtorEq, if_pos]
      · unfold impl_RunYarnStore.f impl_RunYarnStore.m; rw [hI k hk, hs]
        simp (disch := omega) only [Option.bind_some, Bool.not_true, Bool.not_false, cond_true, cond_false, Bool.true_and, Bool.false_and, Bool.and_true, Bool.and_false, Bool.false_eq_true, Bool.true_or, Bool.or_true, Bool.false_or, Bool.or_false, Bool.or_self, Bool.and_self, decide_true, decide_false, if_true, if_false, not_true, not_false_eq_true, not_true_eq_false, false_or, or_false, true_and, and_true, Bool.not_eq_true, Bool.true_eq_false, reduceCtorEq, if_pos]
  · refine .inr ⟨fun h => hs h.1, fun k hk => ?_, fun k hk => ?_⟩
    · unfold spec_RunYarnStore.f spec_RunYarnStore.m; rw [hS k hk, notB hs]; rfl
    · unfold impl_RunYarnStore.f impl_RunYarnStore.m; rw [hI k hk, notB hs]; rfl
theorem runY_len (xs : List X) {c : List B} {a b u w : Int} (n : Int) (hs : yarnB c a b u w = true) : (runY xs c a b u w n).1.length ≤ 8 := (yarnB_of (runY_good xs n hs)).2.2.2.2.1
theorem stepY_law {c c' : List B} {a b u w a' b' u' w' kind number other meters : Int} (h : stepY c a b u w kind number other meters = some (c', a', b', u', w')) : (kind = 1 → b' = b + meters ∧ 1 ≤ meters ∧ meters ≤ 100000) ∧ (kind ≠ 1 → b' = b) ∧ u ≤ u' ∧ w ≤ w' := by
  unfold stepY at h
  split at h
  · next k1 =>
    obtain ⟨h1, rfl, rfl, rfl, rfl, rfl⟩ := putY_some h
    simp only [Bool.and_eq_true, inB_iff] at h1
    exact ⟨fun _ => ⟨rfl, h1.1.2.1, h1.1.2.2⟩, fun e => absurd k1 e, Int.le_refl _, Int.le_refl _⟩
  · next k1 =>
    split at h
    · exact absurd h (by simp)
    · split at h
      · obtain ⟨h1, rfl, rfl, rfl, rfl, rfl⟩ := putY_some h
        exact ⟨fun e => absurd e k1, fun _ => rfl, Int.le_refl _, Int.le_refl _⟩
      · split at h
        · obtain ⟨h1, rfl, rfl, rfl, rfl, rfl⟩ := putY_some h
          exact ⟨fun e => absurd e k1, fun _ => rfl, Int.le_refl _, by omega⟩
        · split at h
          · obtain ⟨h1, rfl, rfl, rfl, rfl, rfl⟩ := putY_some h
            simp only [Bool.and_eq_true, inB_iff] at h1
            exact ⟨fun e => absurd e k1, fun _ => rfl, by omega, Int.le_refl _⟩
          · split at h
            · obtain ⟨h1, rfl, rfl, rfl, rfl, rfl⟩ := putY_some h
              simp only [Bool.and_eq_true, inB_iff] at h1
              exact ⟨fun e => absurd e k1, fun _ => rfl, Int.le_refl _, by omega⟩
            · exact absurd h (by simp)
theorem specStepYarn_eq (k : Nat) {xs : List B} {n b u w : Int} (kind number other meters : Int) (hs : yarnB xs n b u w = true) (hk : 3000 ≤ k) : spec_StepYarnStore.f k xs n b u w kind number other meters = some (outY (stepY xs n b u w kind number other meters)) := by
  have := (yarnB_of hs).2.2.2.2.1
  unfold spec_StepYarnStore.f spec_StepYarnStore.m
  rw [good_eq k xs n b u w (by omega), hs]; simp only [Option.bind_some, Bool.not_true, Bool.not_false, cond_true, cond_false, Bool.true_and, Bool.false_and, Bool.and_true, Bool.and_false, Bool.false_eq_true, Bool.true_or, Bool.or_true, Bool.false_or, Bool.or_false, Bool.or_self, Bool.and_self, decide_true, decide_false, if_true, if_false, not_true, not_false_eq_true, not_true_eq_false, false_or, or_false, true_and, and_true, Bool.not_eq_true, Bool.true_eq_false, reduceCtorEq]
  rw [sstep_eq k xs n b u w kind number other meters (by omega) (by omega)]; simp only [Option.bind_some]
  cases hv : validS xs kind number other meters with
  | false => rw [stepY_no hv]; rfl
  | true =>
    simp only [Bool.not_true, Bool.not_false, cond_true, cond_false, Bool.true_and, Bool.false_and, Bool.and_true, Bool.and_false, Bool.false_eq_true, Bool.true_or, Bool.or_true, Bool.false_or, Bool.or_false, Bool.or_self, Bool.and_self, decide_true, decide_false, if_true, if_false, not_true, not_false_eq_true, not_true_eq_false, false_or, or_false, true_and, and_true, Bool.not_eq_true, Bool.true_eq_false, reduceCtorEq]
    obtain ⟨ys, n', b', u', w', c, e1, e2⟩ := smake_eq k hs hv (by omega)
    rw [e1, e2]; simp only [Option.bind_some]
    cases c <;> rfl
theorem implStepYarn_eq (k : Nat) {xs : List B} {n b u w : Int} (kind number other meters : Int) (hs : yarnB xs n b u w = true) (hk : 3000 ≤ k) : impl_StepYarnStore.f k xs n b u w kind number other meters = some (outY (stepY xs n b u w kind number other meters)) := by
  have := (yarnB_of hs).2.2.2.2.1
  unfold impl_StepYarnStore.f impl_StepYarnStore.m
  rw [isYarn_eq k xs n b u w (by omega) (by omega), hs]; simp only [Option.bind_some, Bool.not_true, Bool.not_false, cond_true, cond_false, Bool.true_and, Bool.false_and, Bool.and_true, Bool.and_false, Bool.false_eq_true, Bool.true_or, Bool.or_true, Bool.false_or, Bool.or_false, Bool.or_self, Bool.and_self, decide_true, decide_false, if_true, if_false, not_true, not_false_eq_true, not_true_eq_false, false_or, or_false, true_and, and_true, Bool.not_eq_true, Bool.true_eq_false, reduceCtorEq]
  rw [implStep_eq k kind number other meters hs (by omega)]; rfl
theorem stepNo (k : Nat) {xs : List B} {n b u w : Int} (kind number other meters : Int) (hl : xs.length ≤ 4194304) (hs : ¬ yarnB xs n b u w = true) (hk : 4300000 ≤ k) : spec_StepYarnStore.f k xs n b u w kind number other meters = some ([], 0, 0, 0, 0, false) ∧ impl_StepYarnStore.f k xs n b u w kind number other meters = some ([], 0, 0, 0, 0, false) := by
  unfold impl_StepYarnStore.f spec_StepYarnStore.f impl_StepYarnStore.m spec_StepYarnStore.m
  rw [isYarn_eq k xs n b u w (by omega) (by omega), good_eq k xs n b u w (by omega), notB hs]
  exact ⟨rfl, rfl⟩
theorem outY_len {xs : List B} {n b u w kind number other meters : Int} : (outY (stepY xs n b u w kind number other meters)).1.length ≤ 8 := by
  cases h : stepY xs n b u w kind number other meters with
  | none => simp [outY]
  | some r =>
    obtain ⟨ys, n', b', u', w'⟩ := r
    exact (yarnB_of (stepY_good h)).2.2.2.2.1
theorem both (xs : List B) (n b u w kind number other meters : Int) (hl : xs.length ≤ 4194304) : ∃ r0 r1 r2 r3 r4 r5 k0, (∀ k, k0 ≤ k → spec_StepYarnStore.f k xs n b u w kind number other meters = some (r0, r1, r2, r3, r4, r5)) ∧ (∀ k, k0 ≤ k → impl_StepYarnStore.f k xs n b u w kind number other meters = some (r0, r1, r2, r3, r4, r5)) ∧ r0.length ≤ 4194304 := by
  by_cases hs : yarnB xs n b u w = true
  · have := outY_len (xs := xs) (n := n) (b := b) (u := u) (w := w) (kind := kind) (number := number) (other := other) (meters := meters)
    generalize hR : outY (stepY xs n b u w kind number other meters) = R at this
    obtain ⟨r0, r1, r2, r3, r4, r5⟩ := R
    exact ⟨r0, r1, r2, r3, r4, r5, 4300000, fun k hk => by rw [specStepYarn_eq k kind number other meters hs (by omega), hR], fun k hk => by rw [implStepYarn_eq k kind number other meters hs (by omega), hR], Nat.le_trans this (by omega)⟩
  · exact ⟨_, _, _, _, _, _, 4300000, fun k hk => (stepNo k kind number other meters hl hs hk).1, fun k hk => (stepNo k kind number other meters hl hs hk).2, by simp⟩
theorem spec_l1Cur_bobbinStep_221 (k : Nat) {l : List Int} {a : Int} (s a1 a2 a3 a4 : Int) (cs : List B) (num oth v kind : Int) (b : Bool) (hb : By l) (h : 0 ≤ a ∧ a ≤ 100000000000) (hk : 10 ≤ k) : Yl (spec_l1Cur_bobbinStep_2.l21 k l a s cs a1 a2 a3 a4 0 0 0 0 num oth v kind b) fun r => r.2.2.2.2.1 = l ∧ r.2.2.2.2.2.2.2 = cs ∧ (a ≤ r.2.2.2.2.2.1 ∧ r.2.2.2.2.2.1 ≤ a + 20) := by
  obtain ⟨k, rfl⟩ := succ_of (show 0 < k by omega)
  simp only [spec_l1Cur_bobbinStep_2.l21, spec_l1Cur_bobbinStep_2.b21]
  refine Yl.cond (fun _ => Yl.ret ⟨rfl, rfl, by dsimp only; omega⟩) fun _ => ?_
  refine Yl.ite (fun _ => Yl.ret ⟨rfl, rfl, by dsimp only; omega⟩) fun _ => ?_
  refine Yl.ite (fun _ => Yl.ret ⟨rfl, rfl, by dsimp only; omega⟩) fun _ => ?_
  refine Yl.ite (fun _ => Yl.ret ⟨rfl, rfl, by dsimp only; omega⟩) fun _ => ?_
  (refine Yl.bind (among_any _ _ (by simp) (by assumption) (by omega) (by omega)) ?_; rintro ⟨vq, lq, aq, sq, xq⟩ ⟨eq1, eq2, eq3, eq4⟩; dsimp only at *; subst eq1; subst eq2)
  (refine Yl.bind (among_any _ _ (by simp) (by assumption) (by omega) (by omega)) ?_; rintro ⟨vq, lq, aq, sq, xq⟩ ⟨eq1, eq2, eq3, eq4⟩; dsimp only at *; subst eq1; subst eq2)
  (refine Yl.bind (among_any _ _ (by simp) (by assumption) (by omega) (by omega)) ?_; rintro ⟨vq, lq, aq, sq, xq⟩ ⟨eq1, eq2, eq3, eq4⟩; dsimp only at *; subst eq1; subst eq2)
  exact Yl.ret ⟨rfl, rfl, by dsimp only; omega⟩
theorem spec_l1Cur_bobbinStep_217 (k : Nat) {l : List Int} {a : Int} (s a1 a2 a3 a4 : Int) (cs : List B) (num oth v kind : Int) (b : Bool) (hb : By l) (h : 0 ≤ a ∧ a ≤ 100000000000) (hk : 12 ≤ k) : Yl (spec_l1Cur_bobbinStep_2.l17 k l a s cs a1 a2 a3 a4 0 0 0 0 num oth v kind b) fun r => r.2.2.2.2.1 = l ∧ r.2.2.2.2.2.2.2 = cs ∧ (a ≤ r.2.2.2.2.2.1 ∧ r.2.2.2.2.2.1 ≤ a + 20) := by
  obtain ⟨k, rfl⟩ := succ_of (show 0 < k by omega)
  simp only [spec_l1Cur_bobbinStep_2.l17, spec_l1Cur_bobbinStep_2.b17]
  refine Yl.cond (fun _ => ?_) fun _ => ?_
  · (refine Yl.bind (among_any _ _ (by simp) (by assumption) (by omega) (by omega)) ?_; rintro ⟨vq, lq, aq, sq, xq⟩ ⟨eq1, eq2, eq3, eq4⟩; dsimp only at *; subst eq1; subst eq2)
    (refine Yl.bind (among_any _ _ (by simp) (by assumption) (by omega) (by omega)) ?_; rintro ⟨vq, lq, aq, sq, xq⟩ ⟨eq1, eq2, eq3, eq4⟩; dsimp only at *; subst eq1; subst eq2)
    exact Yl.ret ⟨rfl, rfl, by dsimp only; omega⟩
  · refine Yl.ite (fun _ => ?_) fun _ => ?_
    · exact spec_l1Cur_bobbinStep_221 k s a1 a2 a3 a4 cs _ _ _ _ _ hb (by omega) (by omega)
    · exact spec_l1Cur_bobbinStep_221 k s a1 a2 a3 a4 cs _ _ _ _ _ hb (by omega) (by omega)
theorem spec_l1Cur_bobbinStep_2end (k : Nat) {l : List Int} {a : Int} (s a1 a2 a3 a4 : Int) (cs : List B) (num oth met : Int) (hb : By l) (h : 0 ≤ a ∧ a ≤ 10000000000) (hk : 12 ≤ k) : Yl ((quo .i64 met 2).bind fun q17 => ((spec_l1Most.f k 1 q17).bind fun r18 => ((spec_l1Cur_among_2.f k l a s [1, 10, met, r18, (w64 (met + 1))]).bind fun r19 => ((spec_l1Cur_pick.f k r19.2.1 r19.2.2.1 r19.2.2.2.1 9).bind fun r20 => (if r20.1 = 0 then (spec_l1Cur_bobbinStep_2.l17 k r20.2.1 r20.2.2.1 r20.2.2.2 cs a1 a2 a3 a4 0 0 0 0 num oth r19.1 r20.1 (decide (r20.1 = 0))) else (if r20.1 = 1 then (spec_l1Cur_bobbinStep_2.l17 k r20.2.1 r20.2.2.1 r20.2.2.2 cs a1 a2 a3 a4 0 0 0 0 num oth r19.1 r20.1 (decide (r20.1 = 1))) else (spec_l1Cur_bobbinStep_2.l17 k r20.2.1 r20.2.2.1 r20.2.2.2 cs a1 a2 a3 a4 0 0 0 0 num oth r19.1 r20.1 (decide (r20.1 = 2))))))))) fun r => r.2.2.2.2.1 = l ∧ r.2.2.2.2.2.2.2 = cs ∧ (a ≤ r.2.2.2.2.2.1 ∧ r.2.2.2.2.2.1 ≤ a + 30) := by
  refine quo2 fun q => ?_
  refine Yl.bind (most_ok _ _ _) ?_
  rintro r _
  (refine Yl.bind (among_any _ _ (by simp) (by assumption) (by omega) (by omega)) ?_; rintro ⟨vq, lq, aq, sq, xq⟩ ⟨eq1, eq2, eq3, eq4⟩; dsimp only at *; subst eq1; subst eq2)
  (refine Yl.bind (pick_ok _ _ _ (by assumption) (by omega) (by omega)) ?_; rintro ⟨vq, lq, aq, sq⟩ ⟨eq1, eq2, eq3, eq4, eq5, eq6⟩; dsimp only at *; subst eq1)
  refine Yl.ite (fun _ => ?_) fun _ => Yl.ite (fun _ => ?_) fun _ => ?_ <;>
  exact (spec_l1Cur_bobbinStep_217 k _ a1 a2 a3 a4 cs _ _ _ _ _ (by assumption) (by omega) (by omega)).mono fun r hr => ⟨hr.1, hr.2.1, by omega⟩
theorem spec_l1Cur_bobbinStep_29 (a1 a2 a3 a4 : Int) (cs : List B) (hcs : cs.length ≤ 100) : ∀ (d k i : Nat) (l : List Int) (a s num oth met c1 c2 c3 : Int), i + d = cs.length → By l → 0 ≤ a ∧ a + 10 * d ≤ 1000000000 → 20 + d ≤ k → Yl (spec_l1Cur_bobbinStep_2.l9 k l a s cs a1 a2 a3 a4 a1 a2 a3 a4 0 0 0 0 num oth met c1 c2 c3 (i : Int)) fun r => r.2.2.2.2.1 = l ∧ r.2.2.2.2.2.2.2 = cs ∧ (a ≤ r.2.2.2.2.2.1 ∧ r.2.2.2.2.2.1 ≤ a + 10 * d + 40) := by
  intro d
  induction d with
  | zero =>
    intro k i l a s num oth met c1 c2 c3 h1 hb h2 h3
    obtain ⟨k, rfl⟩ := succ_of (show 0 < k by omega)
    simp only [spec_l1Cur_bobbinStep_2.l9, spec_l1Cur_bobbinStep_2.b9]
    rw [if_neg (by omega)]
    exact (spec_l1Cur_bobbinStep_2end k _ a1 a2 a3 a4 cs _ _ _ hb (by omega) (by omega)).mono fun r hr => ⟨hr.1, hr.2.1, by omega⟩
  | succ d ih =>
    intro k i l a s num oth met c1 c2 c3 h1 hb h2 h3
    obtain ⟨k, rfl⟩ := succ_of (show 0 < k by omega)
    simp only [spec_l1Cur_bobbinStep_2.l9, spec_l1Cur_bobbinStep_2.b9]
    rw [if_pos (by omega), w64_id (x := (i : Int) + 1) (by omega), show ((i : Int) + 1) = ((i + 1 : Nat) : Int) by omega]
    (refine Yl.bind (one_ok _ _ _ (by assumption) (by omega) (by omega)) ?_; rintro ⟨vq, lq, aq, sq⟩ ⟨eq1, eq2, eq3⟩; dsimp only at *; subst eq1)
    refine Yl.cond (fun _ => ?_) fun _ => ?_
    · rw [chk_nat (by omega)]; simp only [Option.bind_some]
      refine Yl.ite (fun _ => ?_) fun _ => ?_
      · refine Yl.ite (fun _ => ?_) fun _ => ?_
        · exact (ih k (i + 1) _ _ _ _ _ _ _ _ _ (by omega) (by assumption) (by omega) (by omega)).mono fun r hr => ⟨hr.1, hr.2.1, by omega⟩
        · exact (ih k (i + 1) _ _ _ _ _ _ _ _ _ (by omega) (by assumption) (by omega) (by omega)).mono fun r hr => ⟨hr.1, hr.2.1, by omega⟩
      · exact (ih k (i + 1) _ _ _ _ _ _ _ _ _ (by omega) (by assumption) (by omega) (by omega)).mono fun r hr => ⟨hr.1, hr.2.1, by omega⟩
    · exact (spec_l1Cur_bobbinStep_2end k _ a1 a2 a3 a4 cs _ _ _ (by assumption) (by omega) (by omega)).mono fun r hr => ⟨hr.1, hr.2.1, by omega⟩
theorem spec_l1Cur_bobbinStep_2_ok (k : Nat) {l : List Int} {a : Int} (s a1 a2 a3 a4 : Int) (cs : List B) (hb : By l) (h : 0 ≤ a ∧ a ≤ 100000000) (hcs : cs.length ≤ 100) (hk : 200 ≤ k) : Yl (spec_l1Cur_bobbinStep_2.f k l a s cs a1 a2 a3 a4) fun r => r.2.2.2.2.1 = l ∧ r.2.2.2.2.2.2.2 = cs ∧ (a ≤ r.2.2.2.2.2.1 ∧ r.2.2.2.2.2.1 ≤ a + 1100) := by
  unfold spec_l1Cur_bobbinStep_2.f spec_l1Cur_bobbinStep_2.m
  refine Yl.ite (fun _ => ?_) fun _ => ?_
  · (refine Yl.bind (pick_ok _ _ _ (by assumption) (by omega) (by omega)) ?_; rintro ⟨vq, lq, aq, sq⟩ ⟨eq1, eq2, eq3, eq4, eq5, eq6⟩; dsimp only at *; subst eq1)
    rw [chk_int (by omega)]; simp only [Option.bind_some]
    (refine Yl.bind (pick_ok _ _ _ (by assumption) (by omega) (by omega)) ?_; rintro ⟨vq, lq, aq, sq⟩ ⟨eq1, eq2, eq3, eq4, eq5, eq6⟩; dsimp only at *; subst eq1)
    rw [chk_int (by omega)]; simp only [Option.bind_some]
    exact (spec_l1Cur_bobbinStep_29 a1 a2 a3 a4 cs hcs cs.length k 0 _ _ _ _ _ _ _ _ _ (by omega) (by assumption) (by omega) (by omega)).mono fun r hr => ⟨hr.1, hr.2.1, by omega⟩
  · exact (spec_l1Cur_bobbinStep_2end k s a1 a2 a3 a4 cs 1 1 100 hb (by omega) (by omega)).mono fun r hr => ⟨hr.1, hr.2.1, by omega⟩
theorem spec_l1Cur_bobbinStep21 (k : Nat) {l : List Int} {a : Int} (s a1 a2 a3 a4 : Int) (cs : List B) (num oth v kind : Int) (b : Bool) (hb : By l) (h : 0 ≤ a ∧ a ≤ 100000000000) (hk : 10 ≤ k) : Yl (spec_l1Cur_bobbinStep.l21 k l a s  0 0 0 0 num oth v kind b) fun r => r.2.2.2.2.1 = l ∧  (a ≤ r.2.2.2.2.2.1 ∧ r.2.2.2.2.2.1 ≤ a + 20) := by
  obtain ⟨k, rfl⟩ := succ_of (show 0 < k by omega)
  simp only [spec_l1Cur_bobbinStep.l21, spec_l1Cur_bobbinStep.b21]
  refine Yl.cond (fun _ => Yl.ret ⟨rfl,  by dsimp only; omega⟩) fun _ => ?_
  refine Yl.ite (fun _ => Yl.ret ⟨rfl,  by dsimp only; omega⟩) fun _ => ?_
  refine Yl.ite (fun _ => Yl.ret ⟨rfl,  by dsimp only; omega⟩) fun _ => ?_
  refine Yl.ite (fun _ => Yl.ret ⟨rfl,  by dsimp only; omega⟩) fun _ => ?_
  (refine Yl.bind (among_any _ _ (by simp) (by assumption) (by omega) (by omega)) ?_; rintro ⟨vq, lq, aq, sq, xq⟩ ⟨eq1, eq2, eq3, eq4⟩; dsimp only at *; subst eq1; subst eq2)
  (refine Yl.bind (among_any _ _ (by simp) (by assumption) (by omega) (by omega)) ?_; rintro ⟨vq, lq, aq, sq, xq⟩ ⟨eq1, eq2, eq3, eq4⟩; dsimp only at *; subst eq1; subst eq2)
  (refine Yl.bind (among_any _ _ (by simp) (by assumption) (by omega) (by omega)) ?_; rintro ⟨vq, lq, aq, sq, xq⟩ ⟨eq1, eq2, eq3, eq4⟩; dsimp only at *; subst eq1; subst eq2)
  exact Yl.ret ⟨rfl,  by dsimp only; omega⟩
theorem spec_l1Cur_bobbinStep17 (k : Nat) {l : List Int} {a : Int} (s a1 a2 a3 a4 : Int) (cs : List B) (num oth v kind : Int) (b : Bool) (hb : By l) (h : 0 ≤ a ∧ a ≤ 100000000000) (hk : 12 ≤ k) : Yl (spec_l1Cur_bobbinStep.l17 k l a s  0 0 0 0 num oth v kind b) fun r => r.2.2.2.2.1 = l ∧  (a ≤ r.2.2.2.2.2.1 ∧ r.2.2.2.2.2.1 ≤ a + 20) := by
  obtain ⟨k, rfl⟩ := succ_of (show 0 < k by omega)
  simp only [spec_l1Cur_bobbinStep.l17, spec_l1Cur_bobbinStep.b17]
  refine Yl.cond (fun _ => ?_) fun _ => ?_
  · (refine Yl.bind (among_any _ _ (by simp) (by assumption) (by omega) (by omega)) ?_; rintro ⟨vq, lq, aq, sq, xq⟩ ⟨eq1, eq2, eq3, eq4⟩; dsimp only at *; subst eq1; subst eq2)
    (refine Yl.bind (among_any _ _ (by simp) (by assumption) (by omega) (by omega)) ?_; rintro ⟨vq, lq, aq, sq, xq⟩ ⟨eq1, eq2, eq3, eq4⟩; dsimp only at *; subst eq1; subst eq2)
    exact Yl.ret ⟨rfl,  by dsimp only; omega⟩
  · refine Yl.ite (fun _ => ?_) fun _ => ?_
    · exact spec_l1Cur_bobbinStep21 k s a1 a2 a3 a4 cs _ _ _ _ _ hb (by omega) (by omega)
    · exact spec_l1Cur_bobbinStep21 k s a1 a2 a3 a4 cs _ _ _ _ _ hb (by omega) (by omega)
theorem spec_l1Cur_bobbinStepend (k : Nat) {l : List Int} {a : Int} (s a1 a2 a3 a4 : Int) (cs : List B) (num oth met : Int) (hb : By l) (h : 0 ≤ a ∧ a ≤ 10000000000) (hk : 12 ≤ k) : Yl ((quo .i64 met 2).bind fun q17 => ((spec_l1Most.f k 1 q17).bind fun r18 => ((spec_l1Cur_among_2.f k l a s [1, 10, met, r18, (w64 (met + 1))]).bind fun r19 => ((spec_l1Cur_pick.f k r19.2.1 r19.2.2.1 r19.2.2.2.1 9).bind fun r20 => (if r20.1 = 0 then (spec_l1Cur_bobbinStep.l17 k r20.2.1 r20.2.2.1 r20.2.2.2  0 0 0 0 num oth r19.1 r20.1 (decide (r20.1 = 0))) else (if r20.1 = 1 then (spec_l1Cur_bobbinStep.l17 k r20.2.1 r20.2.2.1 r20.2.2.2  0 0 0 0 num oth r19.1 r20.1 (decide (r20.1 = 1))) else (spec_l1Cur_bobbinStep.l17 k r20.2.1 r20.2.2.1 r20.2.2.2  0 0 0 0 num oth r19.1 r20.1 (decide (r20.1 = 2))))))))) fun r => r.2.2.2.2.1 = l ∧  (a ≤ r.2.2.2.2.2.1 ∧ r.2.2.2.2.2.1 ≤ a + 30) := by
  refine quo2 fun q => ?_
  refine Yl.bind (most_ok _ _ _) ?_
  rintro r _
  (refine Yl.bind (among_any _ _ (by simp) (by assumption) (by omega) (by omega)) ?_; rintro ⟨vq, lq, aq, sq, xq⟩ ⟨eq1, eq2, eq3, eq4⟩; dsimp only at *; subst eq1; subst eq2)
  (refine Yl.bind (pick_ok _ _ _ (by assumption) (by omega) (by omega)) ?_; rintro ⟨vq, lq, aq, sq⟩ ⟨eq1, eq2, eq3, eq4, eq5, eq6⟩; dsimp only at *; subst eq1)
  refine Yl.ite (fun _ => ?_) fun _ => Yl.ite (fun _ => ?_) fun _ => ?_ <;>
  exact (spec_l1Cur_bobbinStep17 k _ a1 a2 a3 a4 cs _ _ _ _ _ (by assumption) (by omega) (by omega)).mono fun r hr => ⟨hr.1,  by omega⟩
theorem spec_l1Cur_bobbinStep9 (a1 a2 a3 a4 : Int) (cs : List B) (hcs : cs.length ≤ 100) : ∀ (d k i : Nat) (l : List Int) (a s num oth met c1 c2 c3 : Int), i + d = cs.length → By l → 0 ≤ a ∧ a + 10 * d ≤ 1000000000 → 20 + d ≤ k → Yl (spec_l1Cur_bobbinStep.l9 k l a s cs a1 a2 a3 a4  0 0 0 0 num oth met c1 c2 c3 (i : Int)) fun r => r.2.2.2.2.1 = l ∧  (a ≤ r.2.2.2.2.2.1 ∧ r.2.2.2.2.2.1 ≤ a + 10 * d + 40) := by
  intro d
  induction d with
  | zero =>
    intro k i l a s num oth met c1 c2 c3 h1 hb h2 h3
    obtain ⟨k, rfl⟩ := succ_of (show 0 < k by omega)
    simp only [spec_l1Cur_bobbinStep.l9, spec_l1Cur_bobbinStep.b9]
    rw [if_neg (by omega)]
    exact (spec_l1Cur_bobbinStepend k _ a1 a2 a3 a4 cs _ _ _ hb (by omega) (by omega)).mono fun r hr => ⟨hr.1,  by omega⟩
  | succ d ih =>
    intro k i l a s num oth met c1 c2 c3 h1 hb h2 h3
    obtain ⟨k, rfl⟩ := succ_of (show 0 < k by omega)
    simp only [spec_l1Cur_bobbinStep.l9, spec_l1Cur_bobbinStep.b9]
    rw [if_pos (by omega), w64_id (x := (i : Int) + 1) (by omega), show ((i : Int) + 1) = ((i + 1 : Nat) : Int) by omega]
    (refine Yl.bind (one_ok _ _ _ (by assumption) (by omega) (by omega)) ?_; rintro ⟨vq, lq, aq, sq⟩ ⟨eq1, eq2, eq3⟩; dsimp only at *; subst eq1)
    refine Yl.cond (fun _ => ?_) fun _ => ?_
    · rw [chk_nat (by omega)]; simp only [Option.bind_some]
      refine Yl.ite (fun _ => ?_) fun _ => ?_
      · refine Yl.ite (fun _ => ?_) fun _ => ?_
        · exact (ih k (i + 1) _ _ _ _ _ _ _ _ _ (by omega) (by assumption) (by omega) (by omega)).mono fun r hr => ⟨hr.1,  by omega⟩
        · exact (ih k (i + 1) _ _ _ _ _ _ _ _ _ (by omega) (by assumption) (by omega) (by omega)).mono fun r hr => ⟨hr.1,  by omega⟩
      · exact (ih k (i + 1) _ _ _ _ _ _ _ _ _ (by omega) (by assumption) (by omega) (by omega)).mono fun r hr => ⟨hr.1,  by omega⟩
    · exact (spec_l1Cur_bobbinStepend k _ a1 a2 a3 a4 cs _ _ _ (by assumption) (by omega) (by omega)).mono fun r hr => ⟨hr.1,  by omega⟩
theorem spec_l1Cur_bobbinStep_ok (k : Nat) {l : List Int} {a : Int} (s a1 a2 a3 a4 : Int) (cs : List B) (hb : By l) (h : 0 ≤ a ∧ a ≤ 100000000) (hcs : cs.length ≤ 100) (hk : 200 ≤ k) : Yl (spec_l1Cur_bobbinStep.f k l a s cs a1 a2 a3 a4) fun r => r.2.2.2.2.1 = l ∧  (a ≤ r.2.2.2.2.2.1 ∧ r.2.2.2.2.2.1 ≤ a + 1100) := by
  unfold spec_l1Cur_bobbinStep.f spec_l1Cur_bobbinStep.m
  refine Yl.ite (fun _ => ?_) fun _ => ?_
  · (refine Yl.bind (pick_ok _ _ _ (by assumption) (by omega) (by omega)) ?_; rintro ⟨vq, lq, aq, sq⟩ ⟨eq1, eq2, eq3, eq4, eq5, eq6⟩; dsimp only at *; subst eq1)
    rw [chk_int (by omega)]; simp only [Option.bind_some]
    (refine Yl.bind (pick_ok _ _ _ (by assumption) (by omega) (by omega)) ?_; rintro ⟨vq, lq, aq, sq⟩ ⟨eq1, eq2, eq3, eq4, eq5, eq6⟩; dsimp only at *; subst eq1)
    rw [chk_int (by omega)]; simp only [Option.bind_some]
    exact (spec_l1Cur_bobbinStep9 a1 a2 a3 a4 cs hcs cs.length k 0 _ _ _ _ _ _ _ _ _ (by omega) (by assumption) (by omega) (by omega)).mono fun r hr => ⟨hr.1,  by omega⟩
  · exact (spec_l1Cur_bobbinStepend k s a1 a2 a3 a4 cs 1 1 100 hb (by omega) (by omega)).mono fun r hr => ⟨hr.1,  by omega⟩
def StoreD (l : List Int) (a b : Int) (r : List B × Int × Int × Int × Int × List Int × Int × Int) : Prop := r.2.2.2.2.2.1 = l ∧ a ≤ r.2.2.2.2.2.2.1 ∧ r.2.2.2.2.2.2.1 ≤ b ∧ r.1.length ≤ 9
theorem newStore_eq (k : Nat) (n : Int) : spec_NewYarnStore.f k n = some (if inB n 1 999 = true then ([], n, 0, 0, 0, true) else ([], 0, 0, 0, 0, false)) := by
  unfold spec_NewYarnStore.f spec_NewYarnStore.m
  rw [specIn_eq]; cases inB n 1 999 <;> rfl
theorem implNewStore_eq (k : Nat) (n : Int) : impl_NewYarnStore.f k n = some (if inB n 1 999 = true then ([], n, 0, 0, 0, true) else ([], 0, 0, 0, 0, false)) := by
  unfold impl_NewYarnStore.f impl_NewYarnStore.m
  rw [implNumber_eq]; cases inB n 1 999 <;> rfl
theorem yarnB_new {n : Int} (h : 1 ≤ n ∧ n ≤ 999) : yarnB [] n 0 0 0 = true := by
  unfold yarnB; rw [inB_of h]; rfl
theorem specStepAny (k : Nat) {xs : List B} {n b u w : Int} (kind number other meters : Int) (hl : xs.length ≤ 1000) (hk : 3000 ≤ k) : spec_StepYarnStore.f k xs n b u w kind number other meters = some (if yarnB xs n b u w = true then outY (stepY xs n b u w kind number other meters) else ([], 0, 0, 0, 0, false)) := by
  by_cases hs : yarnB xs n b u w = true
  · rw [if_pos hs]; exact specStepYarn_eq k _ _ _ _ hs hk
  · unfold spec_StepYarnStore.f spec_StepYarnStore.m
    rw [good_eq k xs n b u w (by omega), notB hs]; rfl
theorem implStepAny (k : Nat) {xs : List B} {n b u w : Int} (kind number other meters : Int) (hl : xs.length ≤ 1000) (hk : 3000 ≤ k) : impl_StepYarnStore.f k xs n b u w kind number other meters = some (if yarnB xs n b u w = true then outY (stepY xs n b u w kind number other meters) else ([], 0, 0, 0, 0, false)) := by
  by_cases hs : yarnB xs n b u w = true
  · rw [if_pos hs]; exact implStepYarn_eq k _ _ _ _ hs hk
  · unfold impl_StepYarnStore.f impl_StepYarnStore.m
    rw [isYarn_eq k xs n b u w (by omega) (by omega), notB hs]; rfl
theorem store_l (l : List Int) (hb : By l) : ∀ (m K : Nat) (a s n b u w : Int) (cs : List B), 0 ≤ a → a + 1200 * m ≤ 50000000 → m ≤ 40 → 3500 + m ≤ K → yarnB cs n b u w = true → Yl (spec_l1Cur_yarnStore.l4 K l a s [] 0 0 0 0 cs n b u w (m : Int)) (StoreD l a (a + 1200 * m + 20)) := by
  intro m
  induction m with
  | zero =>
    intro K a s n b u w cs h1 h2 h3 h4 hs
    obtain ⟨K, rfl⟩ := succ_of (show 0 < K by omega)
    obtain ⟨b1, b2, b3, b4, b5, _⟩ := yarnB_of hs
    simp only [spec_l1Cur_yarnStore.l4, spec_l1Cur_yarnStore.b4]
    rw [if_neg (by omega)]
    unfold StoreD
    (refine Yl.bind (pick_ok _ _ _ (by assumption) (by omega) (by omega)) ?_; rintro ⟨vq, lq, aq, sq⟩ ⟨eq1, eq2, eq3, eq4, eq5, eq6⟩; dsimp only at *; subst eq1)
    refine Yl.ite (fun _ => ?_) fun _ => ?_
    · (refine Yl.bind (among_any _ _ (by simp) (by assumption) (by omega) (by omega)) ?_; rintro ⟨vq, lq, aq, sq, xq⟩ ⟨eq1, eq2, eq3, eq4⟩; dsimp only at *; subst eq1; subst eq2)
      exact Yl.ret ⟨rfl, by dsimp only; omega⟩
    refine Yl.ite (fun _ => ?_) fun _ => ?_
    · (refine Yl.bind (among_any _ _ (by simp) (by assumption) (by omega) (by omega)) ?_; rintro ⟨vq, lq, aq, sq, xq⟩ ⟨eq1, eq2, eq3, eq4⟩; dsimp only at *; subst eq1; subst eq2)
      exact Yl.ret ⟨rfl, by dsimp only; omega⟩
    refine Yl.ite (fun _ => ?_) fun _ => ?_
    · (refine Yl.bind (among_any _ _ (by simp) (by assumption) (by omega) (by omega)) ?_; rintro ⟨vq, lq, aq, sq, xq⟩ ⟨eq1, eq2, eq3, eq4⟩; dsimp only at *; subst eq1; subst eq2)
      (refine Yl.bind (among_any _ _ (by simp) (by assumption) (by omega) (by omega)) ?_; rintro ⟨vq, lq, aq, sq, xq⟩ ⟨eq1, eq2, eq3, eq4⟩; dsimp only at *; subst eq1; subst eq2)
      (refine Yl.bind (among_any _ _ (by simp) (by assumption) (by omega) (by omega)) ?_; rintro ⟨vq, lq, aq, sq, xq⟩ ⟨eq1, eq2, eq3, eq4⟩; dsimp only at *; subst eq1; subst eq2)
      rw [app_ok (by simp; omega)]; simp only [Option.bind_some]
      exact Yl.ret ⟨rfl, by simp; omega⟩
    exact Yl.ret ⟨rfl, by dsimp only; omega⟩
  | succ m ih =>
    intro K a s n b u w cs h1 h2 h3 h4 hs
    obtain ⟨K, rfl⟩ := succ_of (show 0 < K by omega)
    obtain ⟨b1, b2, b3, b4, b5, _⟩ := yarnB_of hs
    simp only [spec_l1Cur_yarnStore.l4, spec_l1Cur_yarnStore.b4]
    rw [if_pos (by omega), w64_id (x := ((m + 1 : Nat) : Int) - 1) (by omega), show ((m + 1 : Nat) : Int) - 1 = m by omega]
    refine Yl.bind (spec_l1Cur_bobbinStep_2_ok K s n b u w cs hb (by omega) (by omega) (by omega)) ?_
    rintro ⟨kind, number, other, meters, l', a', s', cs'⟩ ⟨e1, e2, e3, e4⟩
    dsimp only at *
    subst e1; subst e2
    rw [specStepYarn_eq K _ _ _ _ hs (by omega)]; simp only [Option.bind_some]
    cases h : stepY cs' n b u w kind number other meters with
    | none =>
      simp only [outY, cond_false]
      refine (ih K a' s' n b u w cs' (by omega) (by omega) (by omega) (by omega) hs).mono fun r hr => ?_
      unfold StoreD at *
      refine ⟨hr.1, ?_⟩
      omega
    | some q =>
      obtain ⟨c', n', b', u', w'⟩ := q
      simp only [outY, cond_true]
      refine (ih K a' s' n' b' u' w' c' (by omega) (by omega) (by omega) (by omega) (stepY_good h)).mono fun r hr => ?_
      unfold StoreD at *
      refine ⟨hr.1, ?_⟩
      omega
theorem store_ok (k : Nat) {l : List Int} {a : Int} (s : Int) (hb : By l) (h : 0 ≤ a ∧ a ≤ 1000000) (hk : 4000 ≤ k) : Yl (spec_l1Cur_yarnStore.f k l a s) (StoreD l a (a + 30000)) := by
  unfold spec_l1Cur_yarnStore.f spec_l1Cur_yarnStore.m
  (refine Yl.bind (among_ok _ _ 1 990 (by simp) (by intro x hx; simp at hx; omega) (by assumption) (by omega) (by omega)) ?_; rintro ⟨vq, lq, aq, sq, xq⟩ ⟨eq1, eq2, eq3, eq4, eq5, eq6⟩; dsimp only at *; subst eq1; subst eq2)
  rw [newStore_eq, if_pos (inB_of (by omega))]; simp only [Option.bind_some]
  refine Yl.bind (pick_ok _ _ _ (by assumption) (by omega) (by omega)) ?_
  rintro ⟨n, l', a', s'⟩ ⟨e1, e2, e3, e4, e5, e6⟩
  dsimp only at *; subst e1
  obtain ⟨n, rfl⟩ := Int.eq_ofNat_of_zero_le e4
  refine (store_l _ (by assumption) n k a' s' _ _ _ _ _ (by omega) (by omega) (by omega) (by omega) (yarnB_new (by omega))).mono fun r hr => ?_
  unfold StoreD at *
  refine ⟨hr.1, ?_⟩
  omega
theorem drawStep_ok (k : Nat) {l : List Int} (hb : By l) (hk : 4000 ≤ k) : Yl (spec_DrawStepYarnStore.f k l) fun r => r.1.length ≤ 9 := by
  unfold spec_DrawStepYarnStore.f spec_DrawStepYarnStore.m
  refine Yl.bind (store_ok k 0 hb (by omega) hk) ?_
  rintro ⟨cs, n, b, u, w, l', a, s⟩ ⟨e1, e2, e3, e4⟩
  dsimp only at *; subst e1
  refine Yl.bind (spec_l1Cur_bobbinStep_2_ok k s n b u w cs hb (by omega) (by omega) (by omega)) ?_
  rintro ⟨kind, number, other, meters, l', a', s', cs'⟩ ⟨f1, f2, f3, f4⟩
  dsimp only at *
  subst f1; subst f2
  exact Yl.ret e4
theorem drawNew_ok (k : Nat) {l : List Int} (hb : By l) (hk : 10 ≤ k) : Yl (spec_DrawNewYarnStore.f k l) fun _ => True := by
  unfold spec_DrawNewYarnStore.f spec_DrawNewYarnStore.m
  (refine Yl.bind (among_any _ _ (by simp) (by assumption) (by omega) (by omega)) ?_; rintro ⟨vq, lq, aq, sq, xq⟩ ⟨eq1, eq2, eq3, eq4⟩; dsimp only at *; subst eq1; subst eq2)
  exact Yl.ret trivial
def RunD (r : List B × Int × Int × Int × Int × List X) : Prop := r.1.length ≤ 9 ∧ r.2.2.2.2.2.length ≤ 1000
theorem run17 (l : List Int) (hb : By l) (N BO U W : Int) (CS : List B) (hcs : CS.length ≤ 9) : ∀ (e K : Nat) (a s : Int) (steps : List X), 32 ≤ steps.length + e → steps.length ≤ 60 → 0 ≤ a → a + 10 * e ≤ 1000000 → 100 + e ≤ K → Yl (spec_DrawRunYarnStore.l17 K [] 0 0 0 0 l a s CS N BO U W steps) RunD := by
  intro e
  induction e with
  | zero =>
    intro K a s steps h1 h2 h3 h4 h5
    obtain ⟨K, rfl⟩ := succ_of (show 0 < K by omega)
    simp only [spec_DrawRunYarnStore.l17, spec_DrawRunYarnStore.b17]
    (refine Yl.bind (pick_ok _ _ _ (by assumption) (by omega) (by omega)) ?_; rintro ⟨vq, lq, aq, sq⟩ ⟨eq1, eq2, eq3, eq4, eq5, eq6⟩; dsimp only at *; subst eq1)
    rw [w64_id (by omega), if_neg (by omega)]
    exact Yl.ret ⟨hcs, by dsimp only; omega⟩
  | succ e ih =>
    intro K a s steps h1 h2 h3 h4 h5
    obtain ⟨K, rfl⟩ := succ_of (show 0 < K by omega)
    simp only [spec_DrawRunYarnStore.l17, spec_DrawRunYarnStore.b17]
    refine Yl.bind (pick_ok _ _ _ hb (by omega) (by omega)) ?_
    rintro ⟨v, l', a', s'⟩ ⟨e1, e2, e3, e4, e5, e6⟩
    dsimp only at *; subst e1
    rw [w64_id (by omega)]
    refine Yl.ite (fun _ => ?_) fun _ => Yl.ret ⟨hcs, by dsimp only; omega⟩
    rw [app_ok (by simp; omega)]; simp only [Option.bind_some]
    exact ih K a' s' _ (by simp; omega) (by simp; omega) (by omega) (by omega) (by omega)
theorem run7 (l : List Int) (hb : By l) (N BO U W : Int) (CS : List B) (hcs : CS.length ≤ 9) : ∀ (m K : Nat) (a s n b u w : Int) (cs : List B) (steps : List X), steps.length + m ≤ 20 → 0 ≤ a → a + 2000 * m ≤ 500000 → 4000 + m ≤ K → cs.length ≤ 9 → Yl (spec_DrawRunYarnStore.l7 K [] 0 0 0 0 l a s CS N BO U W steps cs n b u w (m : Int)) RunD := by
  intro m
  induction m with
  | zero =>
    intro K a s n b u w cs steps h1 h2 h3 h4 h5
    obtain ⟨K, rfl⟩ := succ_of (show 0 < K by omega)
    simp only [spec_DrawRunYarnStore.l7, spec_DrawRunYarnStore.b7]
    rw [if_neg (by omega)]
    refine Yl.bind (one_ok _ _ _ hb (by omega) (by omega)) ?_
    rintro ⟨v, l', a', s'⟩ ⟨e1, e2, e3⟩
    dsimp only at *; subst e1
    refine Yl.cond (fun _ => ?_) fun _ => Yl.ret ⟨hcs, by dsimp only; omega⟩
    exact run17 l' hb N BO U W CS hcs 60 K a' s' steps (by omega) (by omega) (by omega) (by omega) (by omega)
  | succ m ih =>
    intro K a s n b u w cs steps h1 h2 h3 h4 h5
    obtain ⟨K, rfl⟩ := succ_of (show 0 < K by omega)
    simp only [spec_DrawRunYarnStore.l7, spec_DrawRunYarnStore.b7]
    rw [if_pos (by omega), w64_id (x := ((m + 1 : Nat) : Int) - 1) (by omega), show ((m + 1 : Nat) : Int) - 1 = m by omega]
    refine Yl.bind (spec_l1Cur_bobbinStep_ok K s n b u w cs hb (by omega) (by omega) (by omega)) ?_
    rintro ⟨kind, number, other, meters, l', a', s'⟩ ⟨e1, e3, e4⟩
    dsimp only at *
    subst e1
    rw [app_ok (by simp; omega)]; simp only [Option.bind_some]
    rw [specStepAny K _ _ _ _ (by omega) (by omega)]; simp only [Option.bind_some]
    by_cases hs : yarnB cs n b u w = true
    · rw [if_pos hs]
      cases h : stepY cs n b u w kind number other meters with
      | none =>
        simp only [outY, cond_false]
        exact ih K a' s' n b u w cs _ (by simp; omega) (by omega) (by omega) (by omega) h5
      | some q =>
        obtain ⟨c', n', b', u', w'⟩ := q
        simp only [outY, cond_true]
        obtain ⟨b1, b2, b3, b4, b5, _⟩ := yarnB_of (stepY_good h)
        exact ih K a' s' n' b' u' w' c' _ (by simp; omega) (by omega) (by omega) (by omega) (by omega)
    · rw [if_neg hs]
      simp only [cond_false]
      exact ih K a' s' n b u w cs _ (by simp; omega) (by omega) (by omega) (by omega) h5
theorem drawRun_ok (k : Nat) {l : List Int} (hb : By l) (hk : 5000 ≤ k) : Yl (spec_DrawRunYarnStore.f k l) RunD := by
  unfold spec_DrawRunYarnStore.f spec_DrawRunYarnStore.m
  refine Yl.bind (store_ok k 0 hb (by omega) (by omega)) ?_
  rintro ⟨cs, n, b, u, w, l', a, s⟩ ⟨e1, e2, e3, e4⟩
  dsimp only at *; subst e1
  refine Yl.bind (pick_ok _ _ _ hb (by omega) (by omega)) ?_
  rintro ⟨m, l', a', s'⟩ ⟨e1, f2, f3, f4, f5, f6⟩
  dsimp only at *; subst e1
  obtain ⟨m, rfl⟩ := Int.eq_ofNat_of_zero_le f4
  exact run7 l' hb n b u w cs e4 m k a' s' n b u w cs [] (by simp; omega) (by omega) (by omega) (by omega) e4
def colB (q : Int) (l : List B) : List B := l.filter fun b => !decide (¬ b.2.1 = q)
theorem delCI_l (q : Int) (xs : List B) (hl : xs.length ≤ 100000000000000) (k : Nat) (hk : xs.length + 50 < k) : (slices_IndexFunc_impl_Bobbin_impl_Bobbin__impl_YarnStore_ofColor_1.l3 k xs q xs.length 0 = some (-1) ∧ colB q xs = xs) ∨ ∃ t : Nat, slices_IndexFunc_impl_Bobbin_impl_Bobbin__impl_YarnStore_ofColor_1.l3 k xs q xs.length 0 = some (t : Int) ∧ t < xs.length ∧ colB q (xs.take t) = xs.take t ∧ colB q (xs.drop t) = colB q (xs.drop (t + 1)) := by
  have h := (find_loop (L := fun k i => slices_IndexFunc_impl_Bobbin_impl_Bobbin__impl_YarnStore_ofColor_1.l3 k xs q xs.length (i : Int)) (n := xs.length) (K0 := 20) (ok := fun i => decide (¬ (xs.getD i (0, 0, 0)).2.1 = q)) (fun k i hk hi => ?_) (fun k hk => ?_)) xs.length k 0 (by omega) (by omega)
  · rw [show ((0 : Nat) : Int) = 0 from rfl] at h
    by_cases ha : ∀ i, i < xs.length → (!decide (¬ (xs.getD i (0, 0, 0)).2.1 = q)) = true
    · refine .inl ⟨h.1 (fun j _ hj => by simpa using ha j hj), ?_⟩
      unfold colB
      rw [List.filter_eq_self]
      intro c hc
      obtain ⟨i, hi, rfl⟩ := List.mem_iff_getElem.1 hc
      have := ha i hi
      rwa [getD_lt hi] at this
    · obtain ⟨t, h1, h2, h3⟩ := first_bad ha
      refine .inr ⟨t, h.2 t (Nat.zero_le _) h1 (by simpa using h2) (fun j _ hj => by simpa using h3 j hj), h1, ?_, ?_⟩
      · unfold colB
        rw [List.filter_eq_self]
        intro c hc
        obtain ⟨i, hi, rfl⟩ := List.mem_iff_getElem.1 hc
        have hi' : i < t := by rw [List.length_take] at hi; omega
        have := h3 i hi'
        rw [getD_lt (by omega)] at this
        rw [List.getElem_take]; exact this
      · rw [List.drop_eq_getElem_cons h1]
        unfold colB
        rw [List.filter_cons, if_neg]
        rw [getD_lt h1] at h2
        simpa using h2
  · simp (disch := omega) only [slices_IndexFunc_impl_Bobbin_impl_Bobbin__impl_YarnStore_ofColor_1.l3, slices_IndexFunc_impl_Bobbin_impl_Bobbin__impl_YarnStore_ofColor_1.b3, impl_YarnStore_ofColor_1.f, impl_YarnStore_ofColor_1.m, if_pos, chk_nat, Option.bind_some, w64_id, Int.natCast_add, Int.cast_ofNat_Int]
    by_cases e : ¬ (xs.getD i (0, 0, 0)).2.1 = q <;> simp only [e, Bool.not_true, Bool.not_false, cond_true, cond_false, Bool.true_and, Bool.false_and, Bool.and_true, Bool.and_false, Bool.false_eq_true, Bool.true_or, Bool.or_true, Bool.false_or, Bool.or_false, Bool.or_self, Bool.and_self, decide_true, decide_false, if_true, if_false, not_true, not_false_eq_true, not_true_eq_false, false_or, or_false, true_and, and_true, Bool.not_eq_true, Bool.true_eq_false, reduceCtorEq]
  · simp (disch := omega) only [slices_IndexFunc_impl_Bobbin_impl_Bobbin__impl_YarnStore_ofColor_1.l3, slices_IndexFunc_impl_Bobbin_impl_Bobbin__impl_YarnStore_ofColor_1.b3, if_neg]
theorem delC_l (q : Int) : ∀ (d k i j : Nat) (xs : List B), xs.length ≤ 100000000000000 → i + d = xs.length → d + 10 < k → j ≤ i → slices_DeleteFunc_impl_Bobbin_impl_Bobbin__impl_YarnStore_ofColor_1.l7 k xs q (j : Int) (i : Int) = some (xs.take j ++ colB q (xs.drop i)) := by
  intro d
  induction d with
  | zero =>
    intro k i j xs hl h1 h2 h3
    obtain ⟨k, rfl⟩ := succ_of (show 0 < k by omega)
    simp (disch := omega) only [slices_DeleteFunc_impl_Bobbin_impl_Bobbin__impl_YarnStore_ofColor_1.l7, slices_DeleteFunc_impl_Bobbin_impl_Bobbin__impl_YarnStore_ofColor_1.b7, if_neg, cut_int, Option.bind_some]
    rw [wipe_len (by omega), cutTo_int (by omega)]
    simp only [Option.bind_some]
    rw [wipe_take (by omega) (by omega), List.drop_eq_nil_of_le (by omega)]
    simp [colB]
  | succ d ih =>
    intro k i j xs hl h1 h2 h3
    obtain ⟨k, rfl⟩ := succ_of (show 0 < k by omega)
    have hi : i < xs.length := by omega
    simp (disch := omega) only [slices_DeleteFunc_impl_Bobbin_impl_Bobbin__impl_YarnStore_ofColor_1.l7, slices_DeleteFunc_impl_Bobbin_impl_Bobbin__impl_YarnStore_ofColor_1.b7, impl_YarnStore_ofColor_1.f, impl_YarnStore_ofColor_1.m, if_pos, chk_nat, Option.bind_some, w64_id]
    rw [show ((i : Int) + 1) = ((i + 1 : Nat) : Int) by omega, List.drop_eq_getElem_cons hi]
    by_cases e : ¬ (xs.getD i (0, 0, 0)).2.1 = q
    · have h := ih k (i + 1) j xs hl (by omega) (by omega) (by omega)
      simp only [e, Bool.not_true, Bool.not_false, cond_true, cond_false, Bool.true_and, Bool.false_and, Bool.and_true, Bool.and_false, Bool.false_eq_true, Bool.true_or, Bool.or_true, Bool.false_or, Bool.or_false, Bool.or_self, Bool.and_self, decide_true, decide_false, if_true, if_false, not_true, not_false_eq_true, not_true_eq_false, false_or, or_false, true_and, and_true, Bool.not_eq_true, Bool.true_eq_false, reduceCtorEq]
      rw [h]
      unfold colB; rw [List.filter_cons, if_neg]
      rw [getD_lt hi] at e; simpa using e
    · simp only [e, Bool.not_true, Bool.not_false, cond_true, cond_false, Bool.true_and, Bool.false_and, Bool.and_true, Bool.and_false, Bool.false_eq_true, Bool.true_or, Bool.or_true, Bool.false_or, Bool.or_false, Bool.or_self, Bool.and_self, decide_true, decide_false, if_true, if_false, not_true, not_false_eq_true, not_true_eq_false, false_or, or_false, true_and, and_true, Bool.not_eq_true, Bool.true_eq_false, reduceCtorEq]
      rw [show ((j : Int) + 1) = ((j + 1 : Nat) : Int) by omega, ih k (i + 1) (j + 1) _ (by rw [upd_len]; exact hl) (by rw [upd_len]; omega) (by omega) (by omega)]
      unfold upd
      rw [List.drop_set_of_lt (show j < i + 1 by omega)]
      rw [getD_lt hi] at e ⊢
      have : (xs.set j xs[i]).take (j + 1) = xs.take j ++ [xs[i]] := by
        rw [List.take_succ_eq_append_getElem (by rw [List.length_set]; omega), List.getElem_set_self, List.take_set_of_le (Nat.le_refl j)]
      rw [show (xs[i].1, xs[i].2.1, xs[i].2.2) = xs[i] from rfl, this]; unfold colB; rw [List.filter_cons]; simp [e]
theorem delC_eq (k : Nat) (q : Int) (xs : List B) (hl : xs.length ≤ 100000000000000) (hk : xs.length + 60 < k) : slices_DeleteFunc_impl_Bobbin_impl_Bobbin__impl_YarnStore_ofColor_1.f k xs q = some (colB q xs) := by
  unfold slices_DeleteFunc_impl_Bobbin_impl_Bobbin__impl_YarnStore_ofColor_1.f slices_DeleteFunc_impl_Bobbin_impl_Bobbin__impl_YarnStore_ofColor_1.m slices_IndexFunc_impl_Bobbin_impl_Bobbin__impl_YarnStore_ofColor_1.f slices_IndexFunc_impl_Bobbin_impl_Bobbin__impl_YarnStore_ofColor_1.m
  rcases delCI_l q xs hl k (by omega) with ⟨h1, h2⟩ | ⟨t, h1, ht, h2, h3⟩
  · rw [h1]; simp only [Option.bind_some]; rw [if_pos trivial, h2]
  · rw [h1]; simp only [Option.bind_some]; rw [if_neg (by omega), w64_id (by omega), show ((t : Int) + 1) = ((t + 1 : Nat) : Int) by omega, delC_l q (xs.length - (t + 1)) k (t + 1) t xs hl (by omega) (by omega) (by omega)]
    congr 1
    rw [← h2, ← h3]
    unfold colB; rw [← List.filter_append, List.take_append_drop]
theorem vStore_self (k : Nat) (c : List B) (n b u w : Int) (hl : c.length ≤ 1000) (hk : 1100 ≤ k) : laws_vYarnStore.f k c n b u w c n b u w = some true := by
  unfold laws_vYarnStore.f laws_vYarnStore.m laws_vBobbins.f laws_vBobbins.m
  have h := (all_loop (L := fun k i => laws_vBobbins.l6 k c c (i : Int)) (n := c.length) (K0 := 20) (ok := fun _ => true) (f := some false) (fun k i hk hi => ?_)) c.length k 0 (by omega) (by omega)
  · rw [show ((0 : Nat) : Int) = 0 from rfl] at h
    simp only [Bool.not_true, Bool.not_false, cond_true, cond_false, Bool.true_and, Bool.false_and, Bool.and_true, Bool.and_false, Bool.false_eq_true, Bool.true_or, Bool.or_true, Bool.false_or, Bool.or_false, Bool.or_self, Bool.and_self, decide_true, decide_false, if_true, if_false, not_true, not_false_eq_true, not_true_eq_false, false_or, or_false, true_and, and_true, Bool.not_eq_true, Bool.true_eq_false, reduceCtorEq]
    rw [h.1 (some true) (fun k hk => by simp (disch := omega) only [laws_vBobbins.l6, laws_vBobbins.b6, if_neg]) (fun _ _ _ => rfl)]
    rfl
  · simp (disch := omega) only [laws_vBobbins.l6, laws_vBobbins.b6, if_pos, chk_nat, Option.bind_some, w64_id, Bool.not_true, Bool.not_false, cond_true, cond_false, Bool.true_and, Bool.false_and, Bool.and_true, Bool.and_false, Bool.false_eq_true, Bool.true_or, Bool.or_true, Bool.false_or, Bool.or_false, Bool.or_self, Bool.and_self, decide_true, decide_false, if_true, if_false, not_true, not_false_eq_true, not_true_eq_false, false_or, or_false, true_and, and_true, Bool.not_eq_true, Bool.true_eq_false, reduceCtorEq, Int.natCast_add, Int.cast_ofNat_Int]
theorem newTail (k : Nat) {l : List Int} (hb : By l) (hk : 2000 ≤ k) : ((spec_DrawNewYarnStore.f k l).bind fun r13 => ((impl_NewYarnStore.f k r13).bind fun r14 => ((spec_NewYarnStore.f k r13).bind fun r15 => (if r14.2.2.2.2.2 = r15.2.2.2.2.2 then ((laws_vYarnStore.f k r14.1 r14.2.1 r14.2.2.1 r14.2.2.2.1 r14.2.2.2.2.1 r15.1 r15.2.1 r15.2.2.1 r15.2.2.2.1 r15.2.2.2.2.1).bind fun r16 => (some r16)) else (some false))))) = some true := by
  obtain ⟨n, e, _⟩ := drawNew_ok k hb (by omega)
  rw [e]; simp only [Option.bind_some]
  rw [implNewStore_eq, newStore_eq]; simp only [Option.bind_some, if_true]
  cases inB n 1 999 <;> simp only [Bool.not_true, Bool.not_false, cond_true, cond_false, Bool.true_and, Bool.false_and, Bool.and_true, Bool.and_false, Bool.false_eq_true, Bool.true_or, Bool.or_true, Bool.false_or, Bool.or_false, Bool.or_self, Bool.and_self, decide_true, decide_false, if_true, if_false, not_true, not_false_eq_true, not_true_eq_false, false_or, or_false, true_and, and_true, Bool.not_eq_true, Bool.true_eq_false, reduceCtorEq] <;> rw [vStore_self _ _ _ _ _ _ (by simp) (by omega)] <;> rfl
theorem stores_l38 {l : List Int} (hb : By l) {steps : List X} (hl : steps.length ≤ 30) (C : List B) (N BO U W M : Int) : ∀ (e K i : Nat) (c : List B) (n b u w m : Int), i + e = steps.length → yarnB c n b u w = true → 0 ≤ m → m + e ≤ 1000 → 4000 + 30 * e ≤ K → runY (steps.drop i) c n b u w m = (C, N, BO, U, W, M) → laws_FnYarnStores.l38 K l steps C N BO U W M c n b u w m (i : Int) = some true := by
  intro e
  induction e with
  | zero =>
    intro K i c n b u w m h1 hs h2 h3 h4 h5
    obtain ⟨K, rfl⟩ := succ_of (show 0 < K by omega)
    have a4 := (yarnB_of hs).2.2.2.2.1
    rw [List.drop_of_length_le (by omega)] at h5
    simp only [runY, Prod.mk.injEq] at h5
    obtain ⟨rfl, rfl, rfl, rfl, rfl, rfl⟩ := h5
    simp (disch := omega) only [laws_FnYarnStores.l38, laws_FnYarnStores.b38, if_neg, vStore_self, Option.bind_some, Bool.not_true, Bool.not_false, cond_true, cond_false, Bool.true_and, Bool.false_and, Bool.and_true, Bool.and_false, Bool.false_eq_true, Bool.true_or, Bool.or_true, Bool.false_or, Bool.or_false, Bool.or_self, Bool.and_self, decide_true, decide_false, if_true, if_false, not_true, not_false_eq_true, not_true_eq_false, false_or, or_false, true_and, and_true, Bool.not_eq_true, Bool.true_eq_false, reduceCtorEq]
    exact newTail K hb (by omega)
  | succ e ih =>
    intro K i c n b u w m h1 hs h2 h3 h4 h5
    obtain ⟨K, rfl⟩ := succ_of (show 0 < K by omega)
    have hi : i < steps.length := by omega
    have hd : steps.drop i = steps[i] :: steps.drop (i + 1) := List.drop_eq_getElem_cons hi
    rw [hd] at h5; simp only [runY] at h5
    simp (disch := omega) only [laws_FnYarnStores.l38, laws_FnYarnStores.b38, if_pos, chk_nat, Option.bind_some, getD_lt hi, implStepYarn_eq K _ _ _ _ hs, w64_id]
    rw [show ((i : Int) + 1) = ((i + 1 : Nat) : Int) by omega]
    cases h : stepY c n b u w steps[i].1 steps[i].2.1 steps[i].2.2.1 steps[i].2.2.2 with
    | none =>
      rw [h] at h5
      simp only [outY, Bool.not_true, Bool.not_false, cond_true, cond_false, Bool.true_and, Bool.false_and, Bool.and_true, Bool.and_false, Bool.false_eq_true, Bool.true_or, Bool.or_true, Bool.false_or, Bool.or_false, Bool.or_self, Bool.and_self, decide_true, decide_false, if_true, if_false, not_true, not_false_eq_true, not_true_eq_false, false_or, or_false, true_and, and_true, Bool.not_eq_true, Bool.true_eq_false, reduceCtorEq]
      exact ih K (i + 1) c n b u w m (by omega) hs h2 (by omega) (by omega) h5
    | some r =>
      obtain ⟨c', n', b', u', w'⟩ := r
      rw [h] at h5
      simp only [outY, Bool.not_true, Bool.not_false, cond_true, cond_false, Bool.true_and, Bool.false_and, Bool.and_true, Bool.and_false, Bool.false_eq_true, Bool.true_or, Bool.or_true, Bool.false_or, Bool.or_false, Bool.or_self, Bool.and_self, decide_true, decide_false, if_true, if_false, not_true, not_false_eq_true, not_true_eq_false, false_or, or_false, true_and, and_true, Bool.not_eq_true, Bool.true_eq_false, reduceCtorEq]
      exact ih K (i + 1) c' n' b' u' w' (m + 1) (by omega) (stepY_good h) (by omega) (by omega) (by omega) h5
theorem runTail (k : Nat) {l : List Int} (hb : By l) (hk : 20000 ≤ k) (o15 : List Int → (List (Int × Int × Int)) → Int → Int → Int → Int → Int → Int → Int → Int → (List (Int × Int × Int)) → Int → Int → Int → Int → Int → Int → Int → Option (Bool)) (l1 l10 : List B) (x2 x3 x4 x5 x6 x7 x8 x9 x11 x12 x13 x14 : Int) : laws_FnYarnStores.b6 o15 (laws_FnYarnStores.l38 k) k l l1 x2 x3 x4 x5 x6 x7 x8 x9 l10 x11 x12 x13 x14 false = some true := by
  unfold laws_FnYarnStores.b6
  rw [cond_false]
  obtain ⟨⟨cs, n, b, u, w, steps⟩, e, h1, h2⟩ := drawRun_ok k hb (by omega)
  dsimp only at h1 h2
  rw [e]; simp only [Option.bind_some]
  rcases run_both cs n b u w steps (by omega) with ⟨hs, h40, g1, g2⟩ | ⟨_, g1, g2⟩
  · have hC := runY_len steps 0 hs
    rw [g2 k (by omega), g1 k (by omega)]; simp only [runO, Option.bind_some, Bool.not_true, Bool.not_false, cond_true, cond_false, Bool.true_and, Bool.false_and, Bool.and_true, Bool.and_false, Bool.false_eq_true, Bool.true_or, Bool.or_true, Bool.false_or, Bool.or_false, Bool.or_self, Bool.and_self, decide_true, decide_false, if_true, if_false, not_true, not_false_eq_true, not_true_eq_false, false_or, or_false, true_and, and_true, Bool.not_eq_true, Bool.true_eq_false, reduceCtorEq]
    rw [vStore_self _ _ _ _ _ _ (by omega) (by omega)]; simp only [Option.bind_some, Bool.not_true, Bool.not_false, cond_true, cond_false, Bool.true_and, Bool.false_and, Bool.and_true, Bool.and_false, Bool.false_eq_true, Bool.true_or, Bool.or_true, Bool.false_or, Bool.or_false, Bool.or_self, Bool.and_self, decide_true, decide_false, if_true, if_false, not_true, not_false_eq_true, not_true_eq_false, false_or, or_false, true_and, and_true, Bool.not_eq_true, Bool.true_eq_false, reduceCtorEq]
    exact stores_l38 hb h40 _ _ _ _ _ _ steps.length k 0 cs n b u w 0 (by omega) hs (by omega) (by omega) (by omega) rfl
  · rw [g2 k (by omega), g1 k (by omega)]; simp only [Option.bind_some, Bool.not_true, Bool.not_false, cond_true, cond_false, Bool.true_and, Bool.false_and, Bool.and_true, Bool.and_false, Bool.false_eq_true, Bool.true_or, Bool.or_true, Bool.false_or, Bool.or_false, Bool.or_self, Bool.and_self, decide_true, decide_false, if_true, if_false, not_true, not_false_eq_true, not_true_eq_false, false_or, or_false, true_and, and_true, Bool.not_eq_true, Bool.true_eq_false, reduceCtorEq]
    rw [vStore_self _ _ _ _ _ _ (by simp) (by omega)]; simp only [Option.bind_some, Bool.not_true, Bool.not_false, cond_true, cond_false, Bool.true_and, Bool.false_and, Bool.and_true, Bool.and_false, Bool.false_eq_true, Bool.true_or, Bool.or_true, Bool.false_or, Bool.or_false, Bool.or_self, Bool.and_self, decide_true, decide_false, if_true, if_false, not_true, not_false_eq_true, not_true_eq_false, false_or, or_false, true_and, and_true, Bool.not_eq_true, Bool.true_eq_false, reduceCtorEq]
    exact newTail k hb (by omega)
theorem col_bd {bs : List B} {n b u w : Int} (hs : yarnB bs n b u w = true) (q : Int) : (colB q bs).length ≤ 8 ∧ (∀ x ∈ colB q bs, 1 ≤ x.2.2 ∧ x.2.2 ≤ 100000) ∧ 0 ≤ sumB (colB q bs) ∧ sumB (colB q bs) ≤ 800000 := by
  obtain ⟨b1, b2, b3, b4, b5, b6, _⟩ := yarnB_of hs
  have h1 : (colB q bs).length ≤ bs.length := List.length_filter_le _ _
  have h2 : ∀ x ∈ colB q bs, 1 ≤ x.2.2 ∧ x.2.2 ≤ 100000 := fun x hx => (bobB_of (b6 x (List.mem_filter.1 hx).1)).2.2
  have := sumB_bd _ h2
  exact ⟨by omega, h2, by omega, by omega⟩
theorem metersOf_eq (k : Nat) {bs : List B} {n b u w : Int} (hs : yarnB bs n b u w = true) (q : Int) (hq : 0 ≤ q ∧ q ≤ 5) (hk : 400 ≤ k) : impl_MetersOf.f k bs n b u w q = some (sumB (colB q bs), true) := by
  obtain ⟨b1, b2, b3, b4, b5, b6, _⟩ := yarnB_of hs
  obtain ⟨c1, c2, c3, c4⟩ := col_bd hs q
  unfold impl_MetersOf.f impl_MetersOf.m impl_YarnStore_ofColor.f impl_YarnStore_ofColor.m impl_YarnStore_sum.f impl_YarnStore_sum.m
  rw [isYarn_eq k bs n b u w (by omega) (by omega), hs]; simp only [Option.bind_some, Bool.not_true, Bool.not_false, cond_true, cond_false, Bool.true_and, Bool.false_and, Bool.and_true, Bool.and_false, Bool.false_eq_true, Bool.true_or, Bool.or_true, Bool.false_or, Bool.or_false, Bool.or_self, Bool.and_self, decide_true, decide_false, if_true, if_false, not_true, not_false_eq_true, not_true_eq_false, false_or, or_false, true_and, and_true, Bool.not_eq_true, Bool.true_eq_false, reduceCtorEq]
  rw [implColor_eq, inB_of hq]; simp only [Option.bind_some, Bool.not_true, Bool.not_false, cond_true, cond_false, Bool.true_and, Bool.false_and, Bool.and_true, Bool.and_false, Bool.false_eq_true, Bool.true_or, Bool.or_true, Bool.false_or, Bool.or_false, Bool.or_self, Bool.and_self, decide_true, decide_false, if_true, if_false, not_true, not_false_eq_true, not_true_eq_false, false_or, or_false, true_and, and_true, Bool.not_eq_true, Bool.true_eq_false, reduceCtorEq]
  rw [clone_eq k bs (by omega)]; simp only [Option.bind_some]
  rw [delC_eq k q bs (by omega) (by omega)]; simp only [Option.bind_some]
  have := isum_l (colB q bs) c1 (fun i hi => by rw [getD_lt hi]; exact c2 _ (List.getElem_mem hi)) (colB q bs).length k 0 0 (by omega) (by omega) (by omega) (by omega)
  rw [show ((0 : Nat) : Int) = 0 from rfl, Int.zero_add, List.drop_zero] at this
  rw [this]; rfl
theorem cols_sum : ∀ {bs : List B}, (∀ x ∈ bs, 0 ≤ x.2.1 ∧ x.2.1 ≤ 5) → sumB (colB 0 bs) + sumB (colB 1 bs) + sumB (colB 2 bs) + sumB (colB 3 bs) + sumB (colB 4 bs) + sumB (colB 5 bs) = sumB bs := by
  intro bs
  induction bs with
  | nil => intro _; rfl
  | cons x xs ih =>
    intro h
    have h1 := h x List.mem_cons_self
    have h2 := ih fun y hy => h y (List.mem_cons_of_mem _ hy)
    have hc : ∀ q, sumB (colB q (x :: xs)) = (if x.2.1 = q then x.2.2 else 0) + sumB (colB q xs) := by
      intro q
      unfold colB; rw [List.filter_cons]
      by_cases e : x.2.1 = q
      · rw [if_pos (by simpa using e), if_pos e]; rfl
      · rw [if_neg (by simpa using e), if_neg e]; omega
    simp only [hc, sumB]
    have : x.2.1 = 0 ∨ x.2.1 = 1 ∨ x.2.1 = 2 ∨ x.2.1 = 3 ∨ x.2.1 = 4 ∨ x.2.1 = 5 := by omega
    rcases this with e | e | e | e | e | e <;> rw [e] <;> simp <;> omega
theorem pure_holds : Pure := by
  intro l _ hw
  have hb := By.of hw
  refine ⟨40000, ?_⟩
  unfold laws_FnYarnStores.f laws_FnYarnStores.m laws_vBig.f laws_vBig.m
  simp only [Option.bind_some]
  cases decide (65536 < (l.length : Int)) with
  | true => rfl
  | false =>
  simp only [Bool.not_true, Bool.not_false, cond_true, cond_false, Bool.true_and, Bool.false_and, Bool.and_true, Bool.and_false, Bool.false_eq_true, Bool.true_or, Bool.or_true, Bool.false_or, Bool.or_false, Bool.or_self, Bool.and_self, decide_true, decide_false, if_true, if_false, not_true, not_false_eq_true, not_true_eq_false, false_or, or_false, true_and, and_true, Bool.not_eq_true, Bool.true_eq_false, reduceCtorEq]
  obtain ⟨⟨cs, n, b, u, w, kind, number, other, meters⟩, e, h1⟩ := drawStep_ok 40000 hb (by omega)
  dsimp only at h1
  rw [e]; simp only [Option.bind_some]
  rw [specStepAny 40000 _ _ _ _ (by omega) (by omega), implStepAny 40000 _ _ _ _ (by omega) (by omega)]; simp only [Option.bind_some]
  have hspec : spec_IsYarnStore.f 40000 cs n b u w = some (yarnB cs n b u w) := by
    unfold spec_IsYarnStore.f spec_IsYarnStore.m; rw [good_eq _ _ _ _ _ _ (by omega)]; rfl
  have tail := fun l1 l10 x2 x3 x4 x5 x6 x7 x8 x9 x11 x12 x13 x14 => runTail 39999 hb (by omega) (laws_FnYarnStores.l15 39999) l1 l10 x2 x3 x4 x5 x6 x7 x8 x9 x11 x12 x13 x14
  have hl6 : ∀ l1 x2 x3 x4 x5 x6 x7 x8 x9 l10 x11 x12 x13 x14 x15, laws_FnYarnStores.l6 40000 l l1 x2 x3 x4 x5 x6 x7 x8 x9 l10 x11 x12 x13 x14 x15 = laws_FnYarnStores.b6 (laws_FnYarnStores.l15 39999) (laws_FnYarnStores.l38 39999) 39999 l l1 x2 x3 x4 x5 x6 x7 x8 x9 l10 x11 x12 x13 x14 x15 := fun _ _ _ _ _ _ _ _ _ _ _ _ _ _ _ => rfl
  by_cases hs : yarnB cs n b u w = true
  · rw [if_pos hs]; simp only [Option.bind_some, Bool.not_true, Bool.not_false, cond_true, cond_false, Bool.true_and, Bool.false_and, Bool.and_true, Bool.and_false, Bool.false_eq_true, Bool.true_or, Bool.or_true, Bool.false_or, Bool.or_false, Bool.or_self, Bool.and_self, decide_true, decide_false, if_true, if_false, not_true, not_false_eq_true, not_true_eq_false, false_or, or_false, true_and, and_true, Bool.not_eq_true, Bool.true_eq_false, reduceCtorEq]
    cases h : stepY cs n b u w kind number other meters with
    | none =>
      simp only [outY, Bool.not_true, Bool.not_false, cond_true, cond_false, Bool.true_and, Bool.false_and, Bool.and_true, Bool.and_false, Bool.false_eq_true, Bool.true_or, Bool.or_true, Bool.false_or, Bool.or_false, Bool.or_self, Bool.and_self, decide_true, decide_false, if_true, if_false, not_true, not_false_eq_true, not_true_eq_false, false_or, or_false, true_and, and_true, Bool.not_eq_true, Bool.true_eq_false, reduceCtorEq]
      rw [vStore_self _ _ _ _ _ _ (by simp) (by omega), hspec, isYarn_eq _ _ _ _ _ _ (by omega) (by omega)]; simp only [Option.bind_some, Bool.not_true, Bool.not_false, cond_true, cond_false, Bool.true_and, Bool.false_and, Bool.and_true, Bool.and_false, Bool.false_eq_true, Bool.true_or, Bool.or_true, Bool.false_or, Bool.or_false, Bool.or_self, Bool.and_self, decide_true, decide_false, if_true, if_false, not_true, not_false_eq_true, not_true_eq_false, false_or, or_false, true_and, and_true, Bool.not_eq_true, Bool.true_eq_false, reduceCtorEq]
      rw [hl6]; exact tail _ _ _ _ _ _ _ _ _ _ _ _ _ _
    | some r =>
      obtain ⟨cs', n', b', u', w'⟩ := r
      have hg := stepY_good h
      obtain ⟨a1, a2, a3, a4, a5, a6, a7, a8⟩ := yarnB_of hs
      obtain ⟨b1, b2, b3, b4, b5, b6, b7, b8⟩ := yarnB_of hg
      obtain ⟨s1, s2, s3, s4⟩ := stepY_law h
      rw [show outY (some (cs', n', b', u', w')) = (cs', n', b', u', w', true) from rfl]
      simp only [Bool.not_true, Bool.not_false, cond_true, cond_false, Bool.true_and, Bool.false_and, Bool.and_true, Bool.and_false, Bool.false_eq_true, Bool.true_or, Bool.or_true, Bool.false_or, Bool.or_false, Bool.or_self, Bool.and_self, decide_true, decide_false, if_true, if_false, not_true, not_false_eq_true, not_true_eq_false, false_or, or_false, true_and, and_true, Bool.not_eq_true, Bool.true_eq_false, reduceCtorEq]
      rw [vStore_self _ _ _ _ _ _ (by omega) (by omega), hspec, isYarn_eq _ _ _ _ _ _ (by omega) (by omega), isYarn_eq _ _ _ _ _ _ (by omega) (by omega), hg]; simp only [Option.bind_some, Bool.not_true, Bool.not_false, cond_true, cond_false, Bool.true_and, Bool.false_and, Bool.and_true, Bool.and_false, Bool.false_eq_true, Bool.true_or, Bool.or_true, Bool.false_or, Bool.or_false, Bool.or_self, Bool.and_self, decide_true, decide_false, if_true, if_false, not_true, not_false_eq_true, not_true_eq_false, false_or, or_false, true_and, and_true, Bool.not_eq_true, Bool.true_eq_false, reduceCtorEq]
      rw [hl6]; unfold laws_FnYarnStores.b6
      rw [cond_true]
      have hstep : ∀ (K : Nat) (q q1 x y : Int), q + 1 = q1 → 500 ≤ K → 0 ≤ q ∧ q ≤ 5 → 0 ≤ x ∧ x ≤ 10000000 → 0 ≤ y ∧ y ≤ 10000000 → laws_FnYarnStores.l15 (K + 1) l cs n b u w kind number other meters cs' n' b' u' w' x y q = laws_FnYarnStores.l15 K l cs n b u w kind number other meters cs' n' b' u' w' (x + sumB (colB q cs)) (y + sumB (colB q cs')) q1 := by
        intro K q q1 x y he hK hq hx hy
        have g1 := col_bd hs q
        have g2 := col_bd hg q
        simp only [laws_FnYarnStores.l15, laws_FnYarnStores.b15]
        rw [if_pos (by omega), metersOf_eq K hs q hq (by omega), metersOf_eq K hg q hq (by omega)]; simp only [Option.bind_some, Bool.not_true, Bool.not_false, cond_true, cond_false, Bool.true_and, Bool.false_and, Bool.and_true, Bool.and_false, Bool.false_eq_true, Bool.true_or, Bool.or_true, Bool.false_or, Bool.or_false, Bool.or_self, Bool.and_self, decide_true, decide_false, if_true, if_false, not_true, not_false_eq_true, not_true_eq_false, false_or, or_false, true_and, and_true, Bool.not_eq_true, Bool.true_eq_false, reduceCtorEq]
        rw [w64_id (by omega), w64_id (by omega), w64_id (by omega), he]
      have c0 := (col_bd hs 0).2.2; have c1 := (col_bd hs 1).2.2; have c2 := (col_bd hs 2).2.2
      have c3 := (col_bd hs 3).2.2; have c4 := (col_bd hs 4).2.2; have c5 := (col_bd hs 5).2.2
      have d0 := (col_bd hg 0).2.2; have d1 := (col_bd hg 1).2.2; have d2 := (col_bd hg 2).2.2
      have d3 := (col_bd hg 3).2.2; have d4 := (col_bd hg 4).2.2; have d5 := (col_bd hg 5).2.2
      have t1 := cols_sum (bs := cs) fun x hx => (bobB_of (a6 x hx)).2.1
      have t2 := cols_sum (bs := cs') fun x hx => (bobB_of (b6 x hx)).2.1
      have hend : ∀ (K : Nat) (x y : Int), 21000 ≤ K → x = sumB cs → y = sumB cs' → laws_FnYarnStores.l15 (K + 1) l cs n b u w kind number other meters cs' n' b' u' w' x y 6 = some true := by
        intro K x y hK hx hy
        simp only [laws_FnYarnStores.l15, laws_FnYarnStores.b15]
        have tail2 := runTail K hb (by omega) (laws_FnYarnStores.l15 K) [] [] 0 0 0 0 0 0 0 0 0 0 0 0
        rw [if_neg (by omega), w64_id (x := u' - u) (by omega), w64_id (x := u' - u + w') (by omega), w64_id (x := u' - u + w' - w) (by omega), w64_id (x := b' - b) (by omega), w64_id (by omega), w64_id (by omega)]
        rw [if_neg (by omega), if_neg (by omega), if_neg (by omega)]
        by_cases k1 : kind = 1
        · rw [if_neg (fun hn => hn k1)]; exact tail2
        · rw [if_pos k1, if_neg (fun hn => hn (s2 k1))]; exact tail2
      have hall : ∀ K : Nat, 21000 ≤ K → laws_FnYarnStores.l15 (K + 1 + 1 + 1 + 1 + 1 + 1 + 1) l cs n b u w kind number other meters cs' n' b' u' w' 0 0 0 = some true := by
        intro K hK
        rw [hstep _ 0 1 _ _ (by omega) (by omega) (by omega) (by omega) (by omega)]
        rw [hstep _ 1 2 _ _ (by omega) (by omega) (by omega) (by omega) (by omega)]
        rw [hstep _ 2 3 _ _ (by omega) (by omega) (by omega) (by omega) (by omega)]
        rw [hstep _ 3 4 _ _ (by omega) (by omega) (by omega) (by omega) (by omega)]
        rw [hstep _ 4 5 _ _ (by omega) (by omega) (by omega) (by omega) (by omega)]
        rw [hstep _ 5 6 _ _ (by omega) (by omega) (by omega) (by omega) (by omega)]
        exact hend K _ _ hK (by omega) (by omega)
      exact hall 39992 (by omega)
  · rw [if_neg hs]; simp only [Option.bind_some, Bool.not_true, Bool.not_false, cond_true, cond_false, Bool.true_and, Bool.false_and, Bool.and_true, Bool.and_false, Bool.false_eq_true, Bool.true_or, Bool.or_true, Bool.false_or, Bool.or_false, Bool.or_self, Bool.and_self, decide_true, decide_false, if_true, if_false, not_true, not_false_eq_true, not_true_eq_false, false_or, or_false, true_and, and_true, Bool.not_eq_true, Bool.true_eq_false, reduceCtorEq]
    rw [vStore_self _ _ _ _ _ _ (by simp) (by omega), hspec, isYarn_eq _ _ _ _ _ _ (by omega) (by omega)]; simp only [Option.bind_some, Bool.not_true, Bool.not_false, cond_true, cond_false, Bool.true_and, Bool.false_and, Bool.and_true, Bool.and_false, Bool.false_eq_true, Bool.true_or, Bool.or_true, Bool.false_or, Bool.or_false, Bool.or_self, Bool.and_self, decide_true, decide_false, if_true, if_false, not_true, not_false_eq_true, not_true_eq_false, false_or, or_false, true_and, and_true, Bool.not_eq_true, Bool.true_eq_false, reduceCtorEq]
    rw [hl6]; exact tail _ _ _ _ _ _ _ _ _ _ _ _ _ _
end Go.Proofs.Ytahglcpndiadnaa.DFnYarnStores
