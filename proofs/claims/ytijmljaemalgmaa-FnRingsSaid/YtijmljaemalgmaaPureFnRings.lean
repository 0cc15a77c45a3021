/- A ring that is put back changes nothing, and all knots are in the ring or inside of it. -/
import Derived.Test.YtijmljaemalgmaaDFnRings
set_option linter.unusedVariables false
set_option linter.unusedSimpArgs false
set_option maxRecDepth 100000
namespace Go.Proofs.Ytijmljaemalgmaa.DFnRings
open Go Go.Proofs.YtijmljaemalgmaaD
theorem succ_of {k : Nat} (h : 0 < k) : ∃ j, k = j + 1 := ⟨k - 1, by omega⟩
theorem w64_id {x : Int} (h : -9223372036854775808 ≤ x ∧ x ≤ 9223372036854775807) : w64 x = x := by
  unfold w64 IntKind.wrap
  simp [IntKind.signed, IntKind.bits]
  omega
theorem chk_nat {n j : Nat} (h : j < n) : chk n (j : Int) = some j := by unfold chk; rw [if_pos (by omega)]; simp
theorem chk_int {n : Nat} {i : Int} (h : 0 ≤ i ∧ i < n) : chk n i = some i.toNat := by unfold chk; rw [if_pos h]
theorem cut_int {n : Nat} {i j : Int} (h : 0 ≤ i ∧ i ≤ j ∧ j ≤ n) : cut n i j = some (i.toNat, j.toNat - i.toNat) := by unfold cut; rw [if_pos h]
theorem cutTo_int {n : Nat} {j : Int} (h : 0 ≤ j ∧ j ≤ n) : cutTo n j = some j.toNat := by unfold cutTo; rw [if_pos h]
theorem cut3_int {n : Nat} {i j m : Int} (h : 0 ≤ i ∧ i ≤ j ∧ j ≤ m ∧ m ≤ n) : cut3 n i j m = some () := by unfold cut3; rw [if_pos h]
theorem mkl_int {L : Nat} {n c : Int} (h : 0 ≤ n ∧ n ≤ c ∧ c ≤ L) : mkl L n c = some n.toNat := by unfold mkl; rw [if_pos h]
theorem selfApp_nat {i lo m : Nat} (h : i ≤ lo) : selfApp i lo m = some (i + m) := by unfold selfApp; rw [if_pos h]
section
variable {β : Type}
theorem app_ok {L : Nat} {xs ys : List β} (h : xs.length + ys.length ≤ L) : app L xs ys = some (xs ++ ys) := by unfold app; rw [if_pos h]
theorem chk_mid (p : List β) (a : β) (q : List β) : chk (p ++ a :: q).length (p.length : Int) = some p.length := chk_nat (by simp)
theorem getD_mid (p : List β) (a : β) (q : List β) (d : β) : (p ++ a :: q).getD p.length d = a := by
  rw [List.getD_eq_getElem?_getD, List.getElem?_append_right (Nat.le_refl _)]; simp
theorem set_mid (p : List β) (a b : β) (q : List β) : (p ++ a :: q).set p.length b = p ++ b :: q := by
  rw [List.set_append_right _ _ (Nat.le_refl _)]; simp
theorem upd_mid (p : List β) (a : β) (q : List β) (d : β) (f : β → β) : upd (p ++ a :: q) p.length d f = p ++ f a :: q := by
  unfold upd; rw [getD_mid, set_mid]
theorem upd_len (xs : List β) (j : Nat) (d : β) (f : β → β) : (upd xs j d f).length = xs.length := by unfold upd; simp
theorem upd_of {xs : List β} {j : Nat} {d : β} {f : β → β} : upd xs j d f = xs.set j (f (xs.getD j d)) := rfl
theorem lt_mid (p : List β) (a : β) (q : List β) : (p.length : Int) < ((p ++ a :: q).length : Nat) := by simp; omega
theorem next_mid {p : List β} {a : β} {q : List β} (h : (p ++ a :: q).length ≤ 1152921504606846976) : w64 ((p.length : Int) + 1) = ((p ++ [a]).length : Nat) := by
  rw [w64_id (by simp at h; omega)]; simp
theorem snoc_app (p : List β) (a : β) (q : List β) : p ++ a :: q = (p ++ [a]) ++ q := by simp
theorem getD_lt {xs : List β} {i : Nat} {d : β} (h : i < xs.length) : xs.getD i d = xs[i] := by
  rw [List.getD_eq_getElem?_getD, List.getElem?_eq_getElem h]; rfl
theorem getD_set {xs : List β} {i j : Nat} {a d : β} (h : i < xs.length) : (xs.set i a).getD j d = if i = j then a else xs.getD j d := by
  rw [List.getD_eq_getElem?_getD, List.getD_eq_getElem?_getD, List.getElem?_set]
  split
  · rename_i e; subst e; simp [h]
  · rfl
theorem some_bind {γ : Type} (x : β) (f : β → Option γ) : (some x).bind f = f x := rfl
end
def inB (n lo hi : Int) : Bool := decide (lo ≤ n) && decide (n ≤ hi)
theorem inB_iff {n lo hi : Int} : inB n lo hi = true ↔ lo ≤ n ∧ n ≤ hi := by unfold inB; simp
theorem inB_of {n lo hi : Int} (h : lo ≤ n ∧ n ≤ hi) : inB n lo hi = true := inB_iff.2 h
theorem notB {b : Bool} (h : ¬ b = true) : b = false := by cases b <;> simp_all
theorem all_loop {β : Type} {L : Nat → Nat → Option β} {n K0 : Nat} {ok : Nat → Bool} {f : Option β} (hs : ∀ k i, K0 ≤ k → i < n → L (k + 1) i = if ok i = true then L k (i + 1) else f) :
    ∀ (d k i : Nat), i + d = n → K0 + d < k → (∀ e, (∀ k, K0 ≤ k → L (k + 1) n = e) → (∀ j, i ≤ j → j < n → ok j = true) → L k i = e) ∧ ((∃ j, i ≤ j ∧ j < n ∧ ok j = false) → L k i = f) := by
  intro d
  induction d with
  | zero =>
    intro k i h1 h2
    obtain ⟨k, rfl⟩ := succ_of (show 0 < k by omega)
    have : i = n := by omega
    subst this
    exact ⟨fun e he _ => he k (by omega), fun ⟨j, a, b, _⟩ => by omega⟩
  | succ d ih =>
    intro k i h1 h2
    obtain ⟨k, rfl⟩ := succ_of (show 0 < k by omega)
    have := ih k (i + 1) (by omega) (by omega)
    rw [hs k i (by omega) (by omega)]
    refine ⟨fun e he h => ?_, fun ⟨j, a, b, c⟩ => ?_⟩
    · rw [if_pos (h i (Nat.le_refl _) (by omega))]; exact this.1 e he fun j a b => h j (by omega) b
    · by_cases e : ok i = true
      · rw [if_pos e]
        refine this.2 ⟨j, ?_, b, c⟩
        rcases Nat.lt_or_ge i j with h | h
        · exact h
        · have : j = i := by omega
          subst this; rw [e] at c; cases c
      · rw [if_neg e]
theorem exists_bad {n : Nat} {ok : Nat → Bool} (h : ¬ ∀ i, i < n → ok i = true) : ∃ j, 0 ≤ j ∧ j < n ∧ ok j = false := by
  apply Classical.byContradiction; intro hn
  refine h fun j hj => ?_
  cases hc : ok j with
  | true => rfl
  | false => exact absurd ⟨j, Nat.zero_le _, hj, hc⟩ hn
theorem first_bad {n : Nat} {ok : Nat → Bool} (h : ¬ ∀ i, i < n → ok i = true) : ∃ j, j < n ∧ ok j = false ∧ ∀ i, i < j → ok i = true := by
  induction n with
  | zero => exact absurd (fun i hi => by omega) h
  | succ n ih =>
    by_cases h1 : ∀ i, i < n → ok i = true
    · refine ⟨n, by omega, ?_, h1⟩
      cases hc : ok n with
      | false => rfl
      | true => exact absurd (fun i hi => by
          rcases Nat.lt_or_ge i n with h' | h'
          · exact h1 i h'
          · have : i = n := by omega
            rw [this]; exact hc) h
    · obtain ⟨j, a, b, c⟩ := ih h1
      exact ⟨j, by omega, b, c⟩
theorem find_loop {L : Nat → Nat → Option Int} {n K0 : Nat} {ok : Nat → Bool} (hs : ∀ k i, K0 ≤ k → i < n → L (k + 1) i = if ok i = true then some (i : Int) else L k (i + 1)) (he : ∀ k, K0 ≤ k → L (k + 1) n = some (-1)) :
    ∀ (d k i : Nat), i + d = n → K0 + d < k → ((∀ j, i ≤ j → j < n → ok j = false) → L k i = some (-1)) ∧ (∀ m, i ≤ m → m < n → ok m = true → (∀ j, i ≤ j → j < m → ok j = false) → L k i = some (m : Int)) := by
  intro d
  induction d with
  | zero =>
    intro k i h1 h2
    obtain ⟨k, rfl⟩ := succ_of (show 0 < k by omega)
    have : i = n := by omega
    subst this
    exact ⟨fun _ => he k (by omega), fun m a b _ _ => by omega⟩
  | succ d ih =>
    intro k i h1 h2
    obtain ⟨k, rfl⟩ := succ_of (show 0 < k by omega)
    have := ih k (i + 1) (by omega) (by omega)
    rw [hs k i (by omega) (by omega)]
    refine ⟨fun h => ?_, fun m a b c h => ?_⟩
    · rw [if_neg (by rw [h i (Nat.le_refl _) (by omega)]; simp)]; exact this.1 fun j a b => h j (by omega) b
    · by_cases e : ok i = true
      · rw [if_pos e]
        rcases Nat.lt_or_ge i m with h' | h'
        · have := h i (Nat.le_refl _) h'; rw [e] at this; cases this
        · have : m = i := by omega
          rw [this]
      · rw [if_neg e]
        refine this.2 m ?_ b c fun j a b => h j (by omega) b
        rcases Nat.lt_or_ge i m with h' | h'
        · exact h'
        · have : m = i := by omega
          subst this; exact absurd c e
theorem stepb {α γ : Type} {a : Option α} {x : α} {f : α → Option γ} {r : Option γ} (h : a = some x) (g : f x = r) : a.bind f = r := by rw [h]; exact g
theorem ifn {γ : Type} {c : Prop} {i : Decidable c} {t e r : γ} (h : ¬ c) (g : e = r) : @ite γ c i t e = r := by rw [if_neg h]; exact g
theorem condt {γ : Type} {a b r : γ} (g : b = r) : cond (!true) a b = r := g
def Yl {α : Type} (x : Option α) (P : α → Prop) : Prop := ∃ a, x = some a ∧ P a
theorem Yl.bind {α β : Type} {x : Option α} {f : α → Option β} {P : α → Prop} {Q : β → Prop} (h : Yl x P) (g : ∀ a, P a → Yl (f a) Q) : Yl (x.bind f) Q := by
  obtain ⟨a, rfl, ha⟩ := h; exact g a ha
theorem Yl.mono {α : Type} {x : Option α} {P Q : α → Prop} (h : Yl x P) (g : ∀ a, P a → Q a) : Yl x Q := by
  obtain ⟨a, e, ha⟩ := h; exact ⟨a, e, g a ha⟩
theorem Yl.ret {α : Type} {a : α} {P : α → Prop} (h : P a) : Yl (some a) P := ⟨a, rfl, h⟩
theorem Yl.ite {α : Type} {c : Prop} [i : Decidable c] {t e : Option α} {P : α → Prop} (ht : c → Yl t P) (he : ¬ c → Yl e P) : Yl (@ite _ c i t e) P := by
  by_cases h : c
  · rw [if_pos h]; exact ht h
  · rw [if_neg h]; exact he h
theorem Yl.cond {α : Type} {c : Bool} {t e : Option α} {P : α → Prop} (ht : c = true → Yl t P) (he : c = false → Yl e P) : Yl (cond c t e) P := by
  cases c
  · exact he rfl
  · exact ht rfl
def By (l : List Int) : Prop := ∀ y ∈ l, 0 ≤ y ∧ y ≤ 255
theorem By.of {l : List Int} (h : ∀ y ∈ l, (Lit.int .u8 y).wf = true) : By l := by
  intro y hy; have h := h y hy
  unfold Lit.wf at h; rw [Bool.and_eq_true] at h
  have h1 := of_decide_eq_true h.1; have h2 := of_decide_eq_true h.2
  exact ⟨h1, h2⟩
theorem byteBits (q : Int) : 0 ≤ band .u64 q 255 ∧ band .u64 q 255 ≤ 255 := by
  have h : (BitVec.ofInt 64 q &&& BitVec.ofInt 64 255).toNat ≤ 255 := by
    rw [BitVec.toNat_and]
    exact Nat.le_trans Nat.and_le_right (by decide)
  change 0 ≤ IntKind.wrap .u64 ((((BitVec.ofInt 64 q &&& BitVec.ofInt 64 255).toNat : Nat)) : Int) ∧ IntKind.wrap .u64 ((((BitVec.ofInt 64 q &&& BitVec.ofInt 64 255).toNat : Nat)) : Int) ≤ 255
  generalize (BitVec.ofInt 64 q &&& BitVec.ofInt 64 255).toNat = n at *
  unfold IntKind.wrap
  simp [IntKind.signed, IntKind.bits]
  omega
theorem next_ok (k : Nat) {l : List Int} {a : Int} (s : Int) (hb : By l) (h : 0 ≤ a ∧ a ≤ 1000000000000000) (hk : 5 ≤ k) : Yl (spec_l1Cur_next.f k l a s) fun r => r.2.1 = l ∧ r.2.2.1 = a + 1 ∧ 0 ≤ r.1 ∧ r.1 ≤ 255 := by
  obtain ⟨k, rfl⟩ := succ_of (show 0 < k by omega)
  have key : ∀ b : Int, 0 ≤ b ∧ b ≤ 255 → Yl (spec_l1Cur_next.l2 (k + 1) l a s b) fun r => r.2.1 = l ∧ r.2.2.1 = a + 1 ∧ 0 ≤ r.1 ∧ r.1 ≤ 255 := fun b hbb => by
    simp only [spec_l1Cur_next.l2, spec_l1Cur_next.b2]
    rw [w64_id (x := a + 1) (by omega)]
    refine Yl.ite (fun _ => Yl.ret ⟨rfl, rfl, hbb⟩) fun _ => ?_
    unfold shr; rw [if_neg (by omega)]; simp only [Option.bind_some]
    refine Yl.ret ⟨rfl, rfl, ?_⟩
    have := byteBits ((IntKind.u64.wrap (IntKind.u64.wrap (IntKind.u64.wrap (s * 6364136223846793005) + IntKind.u64.wrap b) + 102323)).fdiv (2 ^ min (Int.toNat 40) IntKind.u64.bits))
    rw [w64_id (by omega)]; exact this
  unfold spec_l1Cur_next.f spec_l1Cur_next.m
  refine Yl.ite (fun hlt => ?_) fun _ => key 0 (by omega)
  rw [chk_int (by omega)]; simp only [Option.bind_some]
  have hi : a.toNat < l.length := by omega
  have := hb _ (List.getElem_mem hi)
  rw [getD_lt hi, w64_id (by omega)]
  exact key _ this
theorem pick_ok (k : Nat) {l : List Int} {a : Int} (s n : Int) (hb : By l) (h : 0 ≤ a ∧ a ≤ 1000000000000) (hk : 5 ≤ k) : Yl (spec_l1Cur_pick.f k l a s n) fun r => r.2.1 = l ∧ a ≤ r.2.2.1 ∧ r.2.2.1 ≤ a + 2 ∧ 0 ≤ r.1 ∧ (r.1 = 0 ∨ r.1 < n) ∧ r.1 ≤ 65535 := by
  unfold spec_l1Cur_pick.f spec_l1Cur_pick.m
  refine Yl.ite (fun _ => Yl.ret ⟨rfl, by simp, by dsimp only; omega, by simp⟩) fun hn => ?_
  refine Yl.bind (next_ok k s hb (by omega) hk) ?_
  rintro ⟨b, l', a', s'⟩ ⟨e1, e2, e3, e4⟩
  dsimp only at *; subst e1; subst e2
  refine Yl.ite (fun hn2 => ?_) fun _ => ?_
  · refine Yl.bind (next_ok k s' hb (by omega) hk) ?_
    rintro ⟨c, l2, a2, s2⟩ ⟨f1, f2, f3, f4⟩
    dsimp only at *; subst f1; subst f2
    rw [w64_id (x := b * 256) (by omega), w64_id (by omega)]
    unfold rem; rw [if_neg (by omega)]; simp only [Option.bind_some]
    rw [Int.tmod_eq_emod_of_nonneg (by omega)]
    have := Int.emod_nonneg (b * 256 + c) (show n ≠ 0 by omega)
    have := Int.emod_lt_of_pos (b * 256 + c) (show 0 < n by omega)
    have : (b * 256 + c) % n ≤ b * 256 + c := by
      rcases Int.lt_or_le (b * 256 + c) n with h | h
      · rw [Int.emod_eq_of_lt (by omega) h]; omega
      · omega
    exact Yl.ret ⟨rfl, by dsimp only; omega, by dsimp only; omega, by omega, by omega, by dsimp only; omega⟩
  · unfold rem; rw [if_neg (by omega)]; simp only [Option.bind_some]
    rw [Int.tmod_eq_emod_of_nonneg (by omega)]
    have := Int.emod_nonneg b (show n ≠ 0 by omega)
    have := Int.emod_lt_of_pos b (show 0 < n by omega)
    exact Yl.ret ⟨rfl, by dsimp only; omega, by dsimp only; omega, by omega, by omega, by dsimp only; omega⟩
theorem one_ok (k : Nat) {l : List Int} {a : Int} (s n : Int) (hb : By l) (h : 0 ≤ a ∧ a ≤ 1000000000000) (hk : 5 ≤ k) : Yl (spec_l1Cur_one.f k l a s n) fun r => r.2.1 = l ∧ a ≤ r.2.2.1 ∧ r.2.2.1 ≤ a + 2 := by
  unfold spec_l1Cur_one.f spec_l1Cur_one.m
  refine Yl.bind (pick_ok k s n hb h hk) ?_
  rintro ⟨b, l', a', s'⟩ ⟨e1, e2, e3, e4⟩
  exact Yl.ret ⟨e1, e2, e3⟩
theorem among_ok (k : Nat) {l : List Int} {a : Int} (s : Int) {xs : List Int} (lo hi : Int) (hx : 0 < xs.length ∧ xs.length ≤ 60000) (hm : ∀ x ∈ xs, lo ≤ x ∧ x ≤ hi) (hb : By l) (h : 0 ≤ a ∧ a ≤ 1000000000000) (hk : 5 ≤ k) : Yl (spec_l1Cur_among_2.f k l a s xs) fun r => r.2.1 = l ∧ r.2.2.2.2 = xs ∧ a ≤ r.2.2.1 ∧ r.2.2.1 ≤ a + 2 ∧ lo ≤ r.1 ∧ r.1 ≤ hi := by
  unfold spec_l1Cur_among_2.f spec_l1Cur_among_2.m
  refine Yl.bind (pick_ok k s _ hb h hk) ?_
  rintro ⟨b, l', a', s'⟩ ⟨e1, e2, e3, e4, e5, e6⟩
  dsimp only at *
  rw [chk_int (by omega)]; simp only [Option.bind_some]
  have hi : b.toNat < xs.length := by omega
  have := hm _ (List.getElem_mem hi)
  rw [getD_lt hi]
  exact Yl.ret ⟨e1, rfl, e2, e3, this⟩
theorem among_any (k : Nat) {l : List Int} {a : Int} (s : Int) {xs : List Int} (hx : 0 < xs.length ∧ xs.length ≤ 60000) (hb : By l) (h : 0 ≤ a ∧ a ≤ 1000000000000) (hk : 5 ≤ k) : Yl (spec_l1Cur_among_2.f k l a s xs) fun r => r.2.1 = l ∧ r.2.2.2.2 = xs ∧ a ≤ r.2.2.1 ∧ r.2.2.1 ≤ a + 2 := by
  unfold spec_l1Cur_among_2.f spec_l1Cur_among_2.m
  refine Yl.bind (pick_ok k s _ hb h hk) ?_
  rintro ⟨b, l', a', s'⟩ ⟨e1, e2, e3, e4, e5, e6⟩
  dsimp only at *
  rw [chk_int (by omega)]; simp only [Option.bind_some]
  exact Yl.ret ⟨e1, rfl, e2, e3⟩
theorem quo2 {x : Int} {β : Type} {f : Int → Option β} {P : β → Prop} (h : ∀ q, Yl (f q) P) : Yl ((quo .i64 x 2).bind f) P := by
  unfold quo; rw [if_neg (by omega)]; exact h _
def colorB (x : Int) : Bool := inB x 0 5
def goodB (w h : Int) (l : List Int) : Bool := inB w 1 8 && inB h 1 8 && decide ((l.length : Int) = w * h) && l.all colorB
theorem mul_bd {w h : Int} (hw : 1 ≤ w ∧ w ≤ 8) (hh : 1 ≤ h ∧ h ≤ 8) : 1 ≤ w * h ∧ w * h ≤ 64 := by
  obtain ⟨a, b⟩ := hw; obtain ⟨c, d⟩ := hh
  have h1 : w = 1 ∨ w = 2 ∨ w = 3 ∨ w = 4 ∨ w = 5 ∨ w = 6 ∨ w = 7 ∨ w = 8 := by omega
  rcases h1 with rfl | rfl | rfl | rfl | rfl | rfl | rfl | rfl <;> omega
theorem good_of {w h : Int} {l : List Int} (hg : goodB w h l = true) : (1 ≤ w ∧ w ≤ 8) ∧ (1 ≤ h ∧ h ≤ 8) ∧ (l.length : Int) = w * h ∧ ∀ x ∈ l, 0 ≤ x ∧ x ≤ 5 := by
  unfold goodB at hg
  simp only [Bool.and_eq_true, decide_eq_true_eq, List.all_eq_true, inB_iff] at hg
  exact ⟨hg.1.1.1, hg.1.1.2, hg.1.2, fun x hx => inB_iff.1 (hg.2 x hx)⟩
theorem allI_iff (p : Int → Bool) (xs : List Int) : xs.all p = true ↔ ∀ i, i < xs.length → p (xs.getD i 0) = true := by
  rw [List.all_eq_true]
  constructor
  · intro h i hi; rw [getD_lt hi]; exact h _ (List.getElem_mem hi)
  · intro h x hx
    obtain ⟨i, hi, rfl⟩ := List.mem_iff_getElem.1 hx
    rw [← getD_lt (d := 0) hi]; exact h i hi
theorem specIn_eq (k : Nat) (n lo hi : Int) : spec_l1In.f k n lo hi = some (inB n lo hi) := by
  unfold spec_l1In.f spec_l1In.m inB; by_cases h : lo ≤ n <;> simp [h]
theorem implIn_eq (k : Nat) (n lo hi : Int) : impl_in.f k n lo hi = some (inB n lo hi) := by
  unfold impl_in.f impl_in.m inB; by_cases h : lo ≤ n <;> simp [h]
theorem l2Color_eq (k : Nat) (n : Int) : spec_l2Color.f k n = some (colorB n) := by unfold spec_l2Color.f spec_l2Color.m; rw [specIn_eq]; rfl
theorem l2Side_eq (k : Nat) (n : Int) : spec_l2Side.f k n = some (inB n 1 8) := by unfold spec_l2Side.f spec_l2Side.m; rw [specIn_eq]; rfl
theorem isColor_eq (k : Nat) (n : Int) : impl_isColor.f k n = some (colorB n) := by unfold impl_isColor.f impl_isColor.m; rw [implIn_eq]; rfl
theorem isSide_eq (k : Nat) (n : Int) : impl_isSide.f k n = some (inB n 1 8) := by unfold impl_isSide.f impl_isSide.m; rw [implIn_eq]; rfl
theorem l2Good_eq (k : Nat) (w h : Int) (l : List Int) (hl : l.length ≤ 100000000000000) (hk : l.length + 50 ≤ k) : spec_l2Good.f k w h l = some (goodB w h l) := by
  unfold spec_l2Good.f spec_l2Good.m
  have hq := (all_loop (L := fun k i => spec_l2Good.l3 k w h l (i : Int)) (n := l.length) (K0 := 20) (ok := fun i => colorB (l.getD i 0)) (f := some false) (fun k i hk hi => ?_)) l.length k 0 (by omega) (by omega)
  · rw [show ((0 : Nat) : Int) = 0 from rfl] at hq
    by_cases hc : l.all colorB = true
    · rw [hq.1 _ (fun k hk => ?_) (fun j _ hj => (allI_iff _ _).1 hc j hj)]
      simp (disch := omega) only [spec_l2Good.l3, spec_l2Good.b3, if_neg, l2Side_eq, Option.bind_some]
      unfold goodB
      cases e1 : inB w 1 8 <;> simp only [Bool.not_true, Bool.not_false, cond_true, cond_false, Bool.true_and, Bool.false_and, Bool.and_true, Bool.and_false, Bool.false_eq_true, Bool.true_or, Bool.or_true, Bool.false_or, Bool.or_false, Bool.or_self, Bool.and_self, decide_true, decide_false, if_true, if_false, not_true, not_false_eq_true, not_true_eq_false, false_or, or_false, true_and, and_true, Bool.not_eq_true, Bool.true_eq_false, reduceCtorEq]
      cases e2 : inB h 1 8 <;> simp only [Bool.not_true, Bool.not_false, cond_true, cond_false, Bool.true_and, Bool.false_and, Bool.and_true, Bool.and_false, Bool.false_eq_true, Bool.true_or, Bool.or_true, Bool.false_or, Bool.or_false, Bool.or_self, Bool.and_self, decide_true, decide_false, if_true, if_false, not_true, not_false_eq_true, not_true_eq_false, false_or, or_false, true_and, and_true, Bool.not_eq_true, Bool.true_eq_false, reduceCtorEq, hc, Option.bind_some]
      have := mul_bd (inB_iff.1 e1) (inB_iff.1 e2)
      rw [w64_id (by omega)]
    · rw [hq.2 (exists_bad fun hn => hc ((allI_iff _ _).2 hn))]
      unfold goodB; rw [notB hc]; simp
  · simp (disch := omega) only [spec_l2Good.l3, spec_l2Good.b3, if_pos, chk_nat, Option.bind_some, w64_id, l2Color_eq, Int.natCast_add, Int.cast_ofNat_Int]
    cases colorB (l.getD i 0) <;> simp only [Bool.not_true, Bool.not_false, cond_true, cond_false, Bool.true_and, Bool.false_and, Bool.and_true, Bool.and_false, Bool.false_eq_true, Bool.true_or, Bool.or_true, Bool.false_or, Bool.or_false, Bool.or_self, Bool.and_self, decide_true, decide_false, if_true, if_false, not_true, not_false_eq_true, not_true_eq_false, false_or, or_false, true_and, and_true, Bool.not_eq_true, Bool.true_eq_false, reduceCtorEq]
theorem areColors_eq (k : Nat) (l : List Int) (hl : l.length ≤ 100000000000000) (hk : l.length + 50 ≤ k) : impl_areAll_int__impl_isColor.f k l = some (l.all colorB) := by
  unfold impl_areAll_int__impl_isColor.f impl_areAll_int__impl_isColor.m slices_ContainsFunc_int_int__impl_areAll_int_1__impl_isColor.f slices_ContainsFunc_int_int__impl_areAll_int_1__impl_isColor.m slices_IndexFunc_int_int__impl_areAll_int_1__impl_isColor.f slices_IndexFunc_int_int__impl_areAll_int_1__impl_isColor.m
  have h := (find_loop (L := fun k i => slices_IndexFunc_int_int__impl_areAll_int_1__impl_isColor.l3 k l l.length (i : Int)) (n := l.length) (K0 := 20) (ok := fun i => !colorB (l.getD i 0)) (fun k i hk hi => ?_) (fun k hk => ?_)) l.length k 0 (by omega) (by omega)
  · rw [show ((0 : Nat) : Int) = 0 from rfl] at h
    by_cases ha : l.all colorB = true
    · rw [h.1 (fun j _ hj => by rw [(allI_iff _ _).1 ha j hj]; rfl), ha]; rfl
    · obtain ⟨m, h1, h2, h3⟩ := first_bad (n := l.length) (ok := fun i => colorB (l.getD i 0)) (fun hn => ha ((allI_iff _ _).2 hn))
      rw [h.2 m (Nat.zero_le _) h1 (by rw [h2]; rfl) (fun j _ hj => by rw [h3 j hj]; rfl), notB ha]
      simp
  · simp (disch := omega) only [slices_IndexFunc_int_int__impl_areAll_int_1__impl_isColor.l3, slices_IndexFunc_int_int__impl_areAll_int_1__impl_isColor.b3, impl_areAll_int_1__impl_isColor.f, impl_areAll_int_1__impl_isColor.m, isColor_eq, if_pos, chk_nat, Option.bind_some, w64_id, Int.natCast_add, Int.cast_ofNat_Int]
    cases colorB (l.getD i 0) <;> simp only [Bool.not_true, Bool.not_false, cond_true, cond_false, Bool.true_and, Bool.false_and, Bool.and_true, Bool.and_false, Bool.false_eq_true, Bool.true_or, Bool.or_true, Bool.false_or, Bool.or_false, Bool.or_self, Bool.and_self, decide_true, decide_false, if_true, if_false, not_true, not_false_eq_true, not_true_eq_false, false_or, or_false, true_and, and_true, Bool.not_eq_true, Bool.true_eq_false, reduceCtorEq]
  · simp (disch := omega) only [slices_IndexFunc_int_int__impl_areAll_int_1__impl_isColor.l3, slices_IndexFunc_int_int__impl_areAll_int_1__impl_isColor.b3, if_neg]
theorem isChart_eq (k : Nat) (w h : Int) (l : List Int) (hl : l.length ≤ 100000000000000) (hk : l.length + 50 ≤ k) : impl_IsChart.f k w h l = some (goodB w h l) := by
  unfold impl_IsChart.f impl_IsChart.m goodB
  rw [isSide_eq, isSide_eq, areColors_eq k l hl hk]
  simp only [Option.bind_some]
  cases e1 : inB w 1 8 <;> simp only [Bool.not_true, Bool.not_false, cond_true, cond_false, Bool.true_and, Bool.false_and, Bool.and_true, Bool.and_false, Bool.false_eq_true, Bool.true_or, Bool.or_true, Bool.false_or, Bool.or_false, Bool.or_self, Bool.and_self, decide_true, decide_false, if_true, if_false, not_true, not_false_eq_true, not_true_eq_false, false_or, or_false, true_and, and_true, Bool.not_eq_true, Bool.true_eq_false, reduceCtorEq]
  cases e2 : inB h 1 8 <;> simp only [Bool.not_true, Bool.not_false, cond_true, cond_false, Bool.true_and, Bool.false_and, Bool.and_true, Bool.and_false, Bool.false_eq_true, Bool.true_or, Bool.or_true, Bool.false_or, Bool.or_false, Bool.or_self, Bool.and_self, decide_true, decide_false, if_true, if_false, not_true, not_false_eq_true, not_true_eq_false, false_or, or_false, true_and, and_true, Bool.not_eq_true, Bool.true_eq_false, reduceCtorEq]
  have := mul_bd (inB_iff.1 e1) (inB_iff.1 e2)
  rw [w64_id (by omega)]
  by_cases e : (l.length : Int) = w * h <;> simp [e]
theorem cloneI_eq (k : Nat) (cs : List Int) (hl : cs.length ≤ 5000000) : slices_Clone_int_int.f k cs = some cs := by unfold slices_Clone_int_int.f; rw [app_ok (by simp; omega)]; rfl
theorem ownI_eq (k : Nat) (cs : List Int) (hl : cs.length ≤ 5000000) : spec_l1Own.f k cs = some cs := by unfold spec_l1Own.f spec_l1Own.m; rw [app_ok (by simp; omega)]; rfl
theorem copied_eq (k : Nat) (w h : Int) (l : List Int) (hl : l.length ≤ 5000000) : impl_Chart_copied.f k w h l = some (w, h, l) := by unfold impl_Chart_copied.f impl_Chart_copied.m; rw [cloneI_eq k l hl]; rfl
theorem l2Own_eq (k : Nat) (w h : Int) (l : List Int) (hl : l.length ≤ 5000000) : spec_l2Own.f k w h l = some (w, h, l) := by unfold spec_l2Own.f spec_l2Own.m; rw [ownI_eq k l hl]; rfl
theorem nat_mul_cast (a b : Nat) : ((a * b : Nat) : Int) = (a : Int) * b := Int.natCast_mul a b
theorem lenN {w h : Nat} {l : List Int} (hl : (l.length : Int) = (w : Int) * (h : Int)) : l.length = w * h := by rw [← nat_mul_cast] at hl; omega
theorem specAt_eq (k : Nat) (w h : Int) (l : List Int) (r c : Int) (n : Nat) (hn : r * w + c = n) (hl : n < l.length) (hb : 0 ≤ r * w ∧ r * w ≤ 1000 ∧ 0 ≤ c ∧ c ≤ 1000) : spec_l2At.f k w h l r c = some (l.getD n 0) := by
  unfold spec_l2At.f spec_l2At.m
  generalize r * w = q at *
  simp (disch := omega) only [w64_id, hn, chk_nat, Option.bind_some]
theorem implAt_eq (k : Nat) (w h : Int) (l : List Int) (r c : Int) (n : Nat) (hn : r * w + c = n) (hl : n < l.length) (hb : 0 ≤ r * w ∧ r * w ≤ 1000 ∧ 0 ≤ c ∧ c ≤ 1000) : impl_Chart_at.f k w h l r c = some (l.getD n 0) := by
  unfold impl_Chart_at.f impl_Chart_at.m
  generalize r * w = q at *
  simp (disch := omega) only [w64_id, hn, chk_nat, Option.bind_some]
theorem plain_l (w h : Nat) (hw : w ≤ 16) (hh : h ≤ 16) : ∀ (d k i : Nat) (l : List Int) (a s : Int) (kn : List Int), i + d = w * h → kn.length = i → (∀ x ∈ kn, 0 ≤ x ∧ x ≤ 5) → By l → 0 ≤ a ∧ a + 4 * d ≤ 1000000000 → 20 + d ≤ k → Yl (spec_l1Cur_plain.l4 k l a s w h 0 0 [] w h kn (i : Int)) fun r => r.1 = (w : Int) ∧ r.2.1 = (h : Int) ∧ r.2.2.2.1 = l ∧ (∀ x ∈ r.2.2.1, 0 ≤ x ∧ x ≤ 5) ∧ (r.2.2.1.length = w * h ∧ a ≤ r.2.2.2.2.1 ∧ r.2.2.2.2.1 ≤ a + 4 * d) := by
  have hN : w * h ≤ 256 := Nat.le_trans (Nat.mul_le_mul hw hh) (by decide)
  have hc : ((w : Int) * (h : Int)) = ((w * h : Nat) : Int) := by rw [Int.natCast_mul]
  intro d
  induction d with
  | zero =>
    intro k i l a s kn h1 h2 hx hb h3 h4
    obtain ⟨k, rfl⟩ := succ_of (show 0 < k by omega)
    simp only [spec_l1Cur_plain.l4, spec_l1Cur_plain.b4]
    rw [hc, w64_id (by omega), if_neg (by omega)]
    exact Yl.ret ⟨rfl, rfl, rfl, hx, by dsimp only; omega⟩
  | succ d ih =>
    intro k i l a s kn h1 h2 hx hb h3 h4
    obtain ⟨k, rfl⟩ := succ_of (show 0 < k by omega)
    simp only [spec_l1Cur_plain.l4, spec_l1Cur_plain.b4]
    have hsnoc : ∀ x : Int, 0 ≤ x ∧ x ≤ 5 → ∀ y ∈ kn ++ [x], 0 ≤ y ∧ y ≤ 5 := fun x hx0 y hy => by
      rcases List.mem_append.1 hy with h | h
      · exact hx y h
      · rw [List.mem_singleton] at h; subst h; exact hx0
    rw [hc, w64_id (by omega), if_pos (by omega), w64_id (x := (i : Int) + 1) (by omega), show ((i : Int) + 1) = ((i + 1 : Nat) : Int) by omega]
    (refine Yl.bind (among_ok _ _ 0 5 (by simp) (by intro x hx; simp at hx; omega) (by assumption) (by omega) (by omega)) ?_; rintro ⟨vq, lq, aq, sq, xq⟩ ⟨eq1, eq2, eq3, eq4, eq5, eq6⟩; dsimp only at *; subst eq1; subst eq2)
    refine Yl.ite (fun hwi => ?_) fun _ => ?_
    · (refine Yl.bind (one_ok _ _ _ (by assumption) (by omega) (by omega)) ?_; rintro ⟨vq, lq, aq, sq⟩ ⟨eq1, eq2, eq3⟩; dsimp only at *; subst eq1)
      refine Yl.cond (fun _ => ?_) fun _ => ?_
      · have hw1 : 1 ≤ w := by
          rcases Nat.eq_zero_or_pos w with h | h
          · subst h; rw [Nat.zero_mul] at h1; omega
          · exact h
        rw [w64_id (by omega), chk_int (by omega)]; simp only [Option.bind_some]
        rw [app_ok (by simp; omega)]; simp only [Option.bind_some]
        refine (ih k (i + 1) _ _ _ _ (by omega) (by simp; omega) (hsnoc _ ?_) (by assumption) (by omega) (by omega)).mono fun r hr => ⟨hr.1, hr.2.1, hr.2.2.1, hr.2.2.2.1, by omega⟩
        rw [getD_lt (by omega)]; exact hx _ (List.getElem_mem _)
      · rw [app_ok (by simp; omega)]; simp only [Option.bind_some]
        exact (ih k (i + 1) _ _ _ _ (by omega) (by simp; omega) (hsnoc _ (by omega)) (by assumption) (by omega) (by omega)).mono fun r hr => ⟨hr.1, hr.2.1, hr.2.2.1, hr.2.2.2.1, by omega⟩
    · rw [app_ok (by simp; omega)]; simp only [Option.bind_some]
      exact (ih k (i + 1) _ _ _ _ (by omega) (by simp; omega) (hsnoc _ (by omega)) (by assumption) (by omega) (by omega)).mono fun r hr => ⟨hr.1, hr.2.1, hr.2.2.1, hr.2.2.2.1, by omega⟩
theorem plain_ok (k : Nat) {l : List Int} {a : Int} (s : Int) {w h : Int} (hw : 0 ≤ w ∧ w ≤ 16) (hh : 0 ≤ h ∧ h ≤ 16) (hb : By l) (ha : 0 ≤ a ∧ a ≤ 100000000) (hk : 1000 ≤ k) : Yl (spec_l1Cur_plain.f k l a s w h) fun r => r.1 = w ∧ r.2.1 = h ∧ r.2.2.2.1 = l ∧ (∀ x ∈ r.2.2.1, 0 ≤ x ∧ x ≤ 5) ∧ (r.2.2.1.length : Int) = w * h ∧ (r.2.2.1.length ≤ 256 ∧ a ≤ r.2.2.2.2.1 ∧ r.2.2.2.2.1 ≤ a + 1100) := by
  obtain ⟨w, rfl⟩ := Int.eq_ofNat_of_zero_le hw.1
  obtain ⟨h, rfl⟩ := Int.eq_ofNat_of_zero_le hh.1
  have hN : w * h ≤ 256 := Nat.le_trans (Nat.mul_le_mul (show w ≤ 16 by omega) (show h ≤ 16 by omega)) (by decide)
  unfold spec_l1Cur_plain.f spec_l1Cur_plain.m
  refine (plain_l w h (by omega) (by omega) (w * h) k 0 l a s [] (by omega) rfl (by simp) hb (by omega) (by omega)).mono fun r hr => ⟨hr.1, hr.2.1, hr.2.2.1, hr.2.2.2.1, ?_, by omega⟩
  have := hr.2.2.2.2.1
  rw [this, Int.natCast_mul]
theorem good_plain {w h : Int} {kn : List Int} (hw : 1 ≤ w ∧ w ≤ 8) (hh : 1 ≤ h ∧ h ≤ 8) (hx : ∀ x ∈ kn, 0 ≤ x ∧ x ≤ 5) (hl : (kn.length : Int) = w * h) : goodB w h kn = true := by
  unfold goodB
  simp only [Bool.and_eq_true, decide_eq_true_eq, List.all_eq_true, inB_iff]
  exact ⟨⟨⟨hw, hh⟩, hl⟩, fun x h => inB_of (hx x h)⟩
theorem chart_ok (k : Nat) {l : List Int} {a : Int} (s : Int) (hb : By l) (ha : 0 ≤ a ∧ a ≤ 1000000) (hk : 2000 ≤ k) : Yl (spec_l1Cur_chart.f k l a s) fun r => r.2.2.2.1 = l ∧ (r.2.2.1.length ≤ 300 ∧ -1 ≤ r.1 ∧ r.1 ≤ 9 ∧ -1 ≤ r.2.1 ∧ r.2.1 ≤ 9 ∧ a ≤ r.2.2.2.2.1 ∧ r.2.2.2.2.1 ≤ a + 3000) := by
  unfold spec_l1Cur_chart.f spec_l1Cur_chart.m
  refine Yl.bind (among_ok _ _ 1 8 (by simp) (by intro x hx; simp at hx; omega) hb (by omega) (by omega)) ?_
  rintro ⟨w, l', a', s', x'⟩ ⟨e1, e2, e3, e4, e5, e6⟩
  dsimp only at *; subst e1
  refine Yl.bind (among_ok _ _ 1 8 (by simp) (by intro x hx; simp at hx; omega) hb (by omega) (by omega)) ?_
  rintro ⟨h, l', a2, s2, x2⟩ ⟨e1, f2, f3, f4, f5, f6⟩
  dsimp only at *; subst e1
  refine Yl.bind (plain_ok k s2 (w := w) (h := h) (by omega) (by omega) hb (by omega) (by omega)) ?_
  rintro ⟨w', h', kn, l', a3, s3⟩ ⟨g1, g2, e1, g3, g4, g5⟩
  dsimp only at *; subst e1; subst g1; subst g2
  have hm := mul_bd (w := w') (h := h') (by omega) (by omega)
  refine Yl.bind (pick_ok _ _ _ hb (by omega) (by omega)) ?_
  rintro ⟨n, l', a4, s4⟩ ⟨e1, i2, i3, i4, i5, i6⟩
  dsimp only at *; subst e1
  refine Yl.ite (fun _ => ?_) fun _ => ?_
  · refine Yl.bind (pick_ok _ _ _ hb (by omega) (by omega)) ?_
    rintro ⟨m, l', a5, s5⟩ ⟨e1, j2, j3, j4, j5, j6⟩
    dsimp only at *; subst e1
    (refine Yl.bind (among_any _ _ (by simp) (by assumption) (by omega) (by omega)) ?_; rintro ⟨vq, lq, aq, sq, xq⟩ ⟨eq1, eq2, eq3, eq4⟩; dsimp only at *; subst eq1; subst eq2)
    rw [chk_int (by omega)]; simp only [Option.bind_some]
    exact Yl.ret ⟨rfl, by dsimp only; rw [List.length_set]; omega⟩
  refine Yl.ite (fun _ => ?_) fun _ => ?_
  · rw [app_ok (by simp; omega)]; simp only [Option.bind_some]
    exact Yl.ret ⟨rfl, by dsimp only; rw [List.length_append, List.length_singleton]; omega⟩
  refine Yl.ite (fun _ => ?_) fun _ => ?_
  · refine Yl.bind (among_ok _ _ 0 9 (by simp) (by intro x hx; simp at hx; omega) hb (by omega) (by omega)) ?_
    rintro ⟨w2, l', a6, s6, x6⟩ ⟨e1, n2, n3, n4, n5, n6⟩
    dsimp only at *; subst e1
    refine Yl.bind (plain_ok k s6 (w := w2) (h := 1) (by omega) (by omega) hb (by omega) (by omega)) ?_
    rintro ⟨w', h', kn, l', a3, s3⟩ ⟨p1, p2, e1, p3, p4, p5⟩
    dsimp only at *; subst e1; subst p1; subst p2
    exact Yl.ret ⟨rfl, by dsimp only; omega⟩
  exact Yl.ret ⟨rfl, by dsimp only; omega⟩
theorem rem_ok {x y : Int} (h : ¬ y = 0) : rem x y = some (x.tmod y) := by unfold rem; rw [if_neg h]
def ringP (w h : Int) : List Int := (spec_l8Places.f 50 w h).getD []
theorem l8Places_k (w h : Int) (hw : 2 ≤ w ∧ w ≤ 8) (hh : 2 ≤ h ∧ h ≤ 8) (k : Nat) : spec_l8Places.f (k + 50) w h = some (ringP w h) := by
  have h1 : w = 2 ∨ w = 3 ∨ w = 4 ∨ w = 5 ∨ w = 6 ∨ w = 7 ∨ w = 8 := by omega
  have h2 : h = 2 ∨ h = 3 ∨ h = 4 ∨ h = 5 ∨ h = 6 ∨ h = 7 ∨ h = 8 := by omega
  rcases h1 with rfl | rfl | rfl | rfl | rfl | rfl | rfl <;> rcases h2 with rfl | rfl | rfl | rfl | rfl | rfl | rfl <;> (refine Eq.symm (Eq.symm ?_); kernel_rfl)
theorem l8Places_eq (w h : Int) (hw : 2 ≤ w ∧ w ≤ 8) (hh : 2 ≤ h ∧ h ≤ 8) (k : Nat) (hk : 50 ≤ k) : spec_l8Places.f k w h = some (ringP w h) := by
  obtain ⟨m, rfl⟩ : ∃ m, k = m + 50 := ⟨k - 50, by omega⟩
  exact l8Places_k w h hw hh m
theorem ringPlaces_k (w h : Int) (hw : 2 ≤ w ∧ w ≤ 8) (hh : 2 ≤ h ∧ h ≤ 8) (k : Nat) : impl_ringPlaces.f (k + 50) w h = some (ringP w h) := by
  have h1 : w = 2 ∨ w = 3 ∨ w = 4 ∨ w = 5 ∨ w = 6 ∨ w = 7 ∨ w = 8 := by omega
  have h2 : h = 2 ∨ h = 3 ∨ h = 4 ∨ h = 5 ∨ h = 6 ∨ h = 7 ∨ h = 8 := by omega
  rcases h1 with rfl | rfl | rfl | rfl | rfl | rfl | rfl <;> rcases h2 with rfl | rfl | rfl | rfl | rfl | rfl | rfl <;> (refine Eq.symm (Eq.symm ?_); kernel_rfl)
theorem ringPlaces_eq (w h : Int) (hw : 2 ≤ w ∧ w ≤ 8) (hh : 2 ≤ h ∧ h ≤ 8) (k : Nat) (hk : 50 ≤ k) : impl_ringPlaces.f k w h = some (ringP w h) := by
  obtain ⟨m, rfl⟩ : ∃ m, k = m + 50 := ⟨k - 50, by omega⟩
  exact ringPlaces_k w h hw hh m
def ringOk (w h : Int) : Bool := (ringP w h).all (fun p => decide (0 ≤ p) && decide (p < w * h)) && decide (((ringP w h).length : Int) = 2 * w + 2 * h - 4)
theorem ringOk_all (w h : Int) (hw : 2 ≤ w ∧ w ≤ 8) (hh : 2 ≤ h ∧ h ≤ 8) : ringOk w h = true := by
  have h1 : w = 2 ∨ w = 3 ∨ w = 4 ∨ w = 5 ∨ w = 6 ∨ w = 7 ∨ w = 8 := by omega
  have h2 : h = 2 ∨ h = 3 ∨ h = 4 ∨ h = 5 ∨ h = 6 ∨ h = 7 ∨ h = 8 := by omega
  rcases h1 with rfl | rfl | rfl | rfl | rfl | rfl | rfl <;> rcases h2 with rfl | rfl | rfl | rfl | rfl | rfl | rfl <;> (refine Eq.symm (Eq.symm ?_); kernel_rfl)
theorem ringP_of (w h : Int) (hw : 2 ≤ w ∧ w ≤ 8) (hh : 2 ≤ h ∧ h ≤ 8) : (∀ p ∈ ringP w h, 0 ≤ p ∧ p < w * h) ∧ ((ringP w h).length : Int) = 2 * w + 2 * h - 4 := by
  have := ringOk_all w h hw hh
  unfold ringOk at this
  simp only [Bool.and_eq_true, decide_eq_true_eq, List.all_eq_true] at this
  exact this
def ringR (ps ring : List Int) : Nat → Nat → List Int → List Int
  | 0, _, xs => xs
  | d + 1, i, xs => ringR ps ring d (i + 1) (xs.set (ps.getD i 0).toNat (ring.getD (Int.tmod i ring.length).toNat 0))
theorem ringR_len (ps ring : List Int) : ∀ d i xs, (ringR ps ring d i xs).length = xs.length := by
  intro d; induction d with
  | zero => intro i xs; rfl
  | succ d ih => intro i xs; simp only [ringR]; rw [ih]; simp
theorem l8Put_l (w h : Int) (ps ring : List Int) (hp : ps.length ≤ 1000) (hr : 0 < ring.length) : ∀ (d k i : Nat) (xs : List Int), i + d = ps.length → d < k → (∀ p ∈ ps, 0 ≤ p ∧ p < xs.length) → spec_l8Put.l4 k ring 0 0 [] w h xs ps (i : Int) = some (w, h, ringR ps ring d i xs) := by
  intro d
  induction d with
  | zero =>
    intro k i xs h1 h2 h3
    obtain ⟨k, rfl⟩ := succ_of h2
    simp (disch := omega) only [spec_l8Put.l4, spec_l8Put.b4, if_neg]; rfl
  | succ d ih =>
    intro k i xs h1 h2 h3
    obtain ⟨k, rfl⟩ := succ_of (show 0 < k by omega)
    have hm1 : 0 ≤ Int.tmod (i : Int) (ring.length : Int) := Int.tmod_nonneg _ (by omega)
    have hm2 : Int.tmod (i : Int) (ring.length : Int) < (ring.length : Int) := Int.tmod_lt_of_pos _ (by omega)
    have hb := h3 (ps.getD i 0) (by rw [getD_lt (by omega)]; exact List.getElem_mem _)
    have h := ih k (i + 1) (xs.set (ps.getD i 0).toNat (ring.getD (Int.tmod i ring.length).toNat 0)) (by omega) (by omega) (by simpa using h3)
    rw [show ((i + 1 : Nat) : Int) = (i : Int) + 1 by omega] at h
    simp (disch := omega) only [spec_l8Put.l4, spec_l8Put.b4, if_pos, chk_nat, Option.bind_some, rem_ok, w64_id]
    rw [chk_int ⟨hm1, hm2⟩]; simp only [Option.bind_some]
    rw [chk_int hb]; simp only [Option.bind_some]
    exact h
theorem withRing_l (w h : Int) (ps ring : List Int) (hp : ps.length ≤ 1000) (hr : 0 < ring.length) : ∀ (d k i : Nat) (xs : List Int), i + d = ps.length → d < k → (∀ p ∈ ps, 0 ≤ p ∧ p < xs.length) → impl_Chart_withRing.l4 k ring 0 0 [] w h xs ps ps.length (i : Int) = some (w, h, ringR ps ring d i xs) := by
  intro d
  induction d with
  | zero =>
    intro k i xs h1 h2 h3
    obtain ⟨k, rfl⟩ := succ_of h2
    simp (disch := omega) only [impl_Chart_withRing.l4, impl_Chart_withRing.b4, if_neg]; rfl
  | succ d ih =>
    intro k i xs h1 h2 h3
    obtain ⟨k, rfl⟩ := succ_of (show 0 < k by omega)
    have hm1 : 0 ≤ Int.tmod (i : Int) (ring.length : Int) := Int.tmod_nonneg _ (by omega)
    have hm2 : Int.tmod (i : Int) (ring.length : Int) < (ring.length : Int) := Int.tmod_lt_of_pos _ (by omega)
    have hb := h3 (ps.getD i 0) (by rw [getD_lt (by omega)]; exact List.getElem_mem _)
    have h := ih k (i + 1) (xs.set (ps.getD i 0).toNat (ring.getD (Int.tmod i ring.length).toNat 0)) (by omega) (by omega) (by simpa using h3)
    rw [show ((i + 1 : Nat) : Int) = (i : Int) + 1 by omega] at h
    simp (disch := omega) only [impl_Chart_withRing.l4, impl_Chart_withRing.b4, if_pos, chk_nat, Option.bind_some, rem_ok, w64_id]
    rw [chk_int ⟨hm1, hm2⟩]; simp only [Option.bind_some]
    rw [chk_int hb]; simp only [Option.bind_some]
    exact h
theorem l8Put_eq (w h : Int) (l ring : List Int) (hw : 2 ≤ w ∧ w ≤ 8) (hh : 2 ≤ h ∧ h ≤ 8) (hl : (l.length : Int) = w * h) (hr : 0 < ring.length) (k : Nat) (hk : 200 ≤ k) : spec_l8Put.f k w h l ring = some (w, h, ringR (ringP w h) ring (ringP w h).length 0 l) := by
  have hb := mul_bd (w := w) (h := h) (by omega) (by omega)
  have hp := ringP_of w h hw hh
  unfold spec_l8Put.f spec_l8Put.m
  rw [l2Own_eq k w h l (by omega), l8Places_eq w h hw hh k (by omega)]
  simp only [Option.bind_some]
  exact l8Put_l w h _ ring (by omega) hr _ k 0 l (by omega) (by omega) (fun p hpp => by have := hp.1 p hpp; omega)
theorem withRing_eq (w h : Int) (l ring : List Int) (hw : 2 ≤ w ∧ w ≤ 8) (hh : 2 ≤ h ∧ h ≤ 8) (hl : (l.length : Int) = w * h) (hr : 0 < ring.length) (k : Nat) (hk : 200 ≤ k) : impl_Chart_withRing.f k w h l ring = some (w, h, ringR (ringP w h) ring (ringP w h).length 0 l) := by
  have hb := mul_bd (w := w) (h := h) (by omega) (by omega)
  have hp := ringP_of w h hw hh
  unfold impl_Chart_withRing.f impl_Chart_withRing.m
  rw [copied_eq k w h l (by omega), ringPlaces_eq w h hw hh k (by omega)]
  simp only [Option.bind_some]
  exact withRing_l w h _ ring (by omega) hr _ k 0 l (by omega) (by omega) (fun p hpp => by have := hp.1 p hpp; omega)
theorem l8Length_eq (k : Nat) (w h : Int) (hw : 2 ≤ w ∧ w ≤ 8) (hh : 2 ≤ h ∧ h ≤ 8) : spec_l8Length.f k w h = some (2 * w + 2 * h - 4) := by
  unfold spec_l8Length.f spec_l8Length.m
  simp (disch := omega) only [w64_id]
theorem ringLength_eq (k : Nat) (w h : Int) (hw : 2 ≤ w ∧ w ≤ 8) (hh : 2 ≤ h ∧ h ≤ 8) : impl_ringLength.f k w h = some (2 * w + 2 * h - 4) := by
  unfold impl_ringLength.f impl_ringLength.m
  simp (disch := omega) only [w64_id]
  congr 1; omega
theorem l8Colors_eq (k : Nat) (l : List Int) (hl : l.length ≤ 100000000000000) (hk : l.length + 50 ≤ k) : spec_l8Colors.f k l = some (l.all colorB) := by
  unfold spec_l8Colors.f spec_l8Colors.m
  have hq := (all_loop (L := fun k i => spec_l8Colors.l3 k l (i : Int)) (n := l.length) (K0 := 20) (ok := fun i => colorB (l.getD i 0)) (f := some false) (fun k i hk hi => ?_)) l.length k 0 (by omega) (by omega)
  · rw [show ((0 : Nat) : Int) = 0 from rfl] at hq
    by_cases hc : l.all colorB = true
    · rw [hq.1 (some true) (fun k hk => by simp (disch := omega) only [spec_l8Colors.l3, spec_l8Colors.b3, if_neg]) (fun j _ hj => (allI_iff _ _).1 hc j hj), hc]
    · rw [hq.2 (exists_bad fun hn => hc ((allI_iff _ _).2 hn)), notB hc]
  · simp (disch := omega) only [spec_l8Colors.l3, spec_l8Colors.b3, if_pos, chk_nat, Option.bind_some, w64_id, l2Color_eq, Int.natCast_add, Int.cast_ofNat_Int]
    cases colorB (l.getD i 0) <;> simp only [Bool.not_true, Bool.not_false, cond_true, cond_false, Bool.true_and, Bool.false_and, Bool.and_true, Bool.and_false, Bool.false_eq_true, Bool.true_or, Bool.or_true, Bool.false_or, Bool.or_false, Bool.or_self, Bool.and_self, decide_true, decide_false, if_true, if_false, not_true, not_false_eq_true, not_true_eq_false, false_or, or_false, true_and, and_true, Bool.not_eq_true, Bool.true_eq_false, reduceCtorEq]
theorem vInts_self (k : Nat) (c : List Int) (hl : c.length ≤ 1000) (hk : 1100 ≤ k) : laws_vInts.f k c c = some true := by
  unfold laws_vInts.f laws_vInts.m
  have h := (all_loop (L := fun k i => laws_vInts.l6 k c c (i : Int)) (n := c.length) (K0 := 20) (ok := fun _ => true) (f := some false) (fun k i hk hi => ?_)) c.length k 0 (by omega) (by omega)
  · rw [show ((0 : Nat) : Int) = 0 from rfl] at h
    simp only [Bool.not_true, Bool.not_false, cond_true, cond_false, Bool.true_and, Bool.false_and, Bool.and_true, Bool.and_false, Bool.false_eq_true, Bool.true_or, Bool.or_true, Bool.false_or, Bool.or_false, Bool.or_self, Bool.and_self, decide_true, decide_false, if_true, if_false, not_true, not_false_eq_true, not_true_eq_false, false_or, or_false, true_and, and_true, Bool.not_eq_true, Bool.true_eq_false, reduceCtorEq]
    exact h.1 (some true) (fun k hk => by simp (disch := omega) only [laws_vInts.l6, laws_vInts.b6, if_neg]) (fun _ _ _ => rfl)
  · simp (disch := omega) only [laws_vInts.l6, laws_vInts.b6, if_pos, chk_nat, Option.bind_some, w64_id, Bool.not_true, Bool.not_false, cond_true, cond_false, Bool.true_and, Bool.false_and, Bool.and_true, Bool.and_false, Bool.false_eq_true, Bool.true_or, Bool.or_true, Bool.false_or, Bool.or_false, Bool.or_self, Bool.and_self, decide_true, decide_false, if_true, if_false, not_true, not_false_eq_true, not_true_eq_false, false_or, or_false, true_and, and_true, Bool.not_eq_true, Bool.true_eq_false, reduceCtorEq, Int.natCast_add, Int.cast_ofNat_Int]
theorem vChart_self (k : Nat) (w h : Int) (l : List Int) (hl : l.length ≤ 1000) (hk : 1100 ≤ k) : laws_vChart.f k w h l w h l = some true := by
  unfold laws_vChart.f laws_vChart.m
  rw [vInts_self k l hl hk]; simp only [Bool.not_true, Bool.not_false, cond_true, cond_false, Bool.true_and, Bool.false_and, Bool.and_true, Bool.and_false, Bool.false_eq_true, Bool.true_or, Bool.or_true, Bool.false_or, Bool.or_false, Bool.or_self, Bool.and_self, decide_true, decide_false, if_true, if_false, not_true, not_false_eq_true, not_true_eq_false, false_or, or_false, true_and, and_true, Bool.not_eq_true, Bool.true_eq_false, reduceCtorEq, Option.bind_some]
theorem pat13 (l : List Int) (hb : By l) : ∀ (e K : Nat) (a s : Int) (p : List Int), 10 ≤ p.length + e → p.length ≤ 20 → 0 ≤ a ∧ a + 4 * e ≤ 10000000 → 50 + e ≤ K → Yl (spec_l1Cur_pattern8.l13 K l a s p) fun r => r.2.1 = l ∧ (r.1.length ≤ 30 ∧ a ≤ r.2.2.1 ∧ r.2.2.1 ≤ a + 4 * e + 4) := by
  intro e
  induction e with
  | zero =>
    intro K a s p h1 h2 h3 h4
    obtain ⟨K, rfl⟩ := succ_of (show 0 < K by omega)
    simp only [spec_l1Cur_pattern8.l13, spec_l1Cur_pattern8.b13]
    (refine Yl.bind (pick_ok _ _ _ (by assumption) (by omega) (by omega)) ?_; rintro ⟨vq, lq, aq, sq⟩ ⟨eq1, eq2, eq3, eq4, eq5, eq6⟩; dsimp only at *; subst eq1)
    rw [w64_id (by omega), if_neg (by omega)]
    exact Yl.ret ⟨rfl, by dsimp only; omega⟩
  | succ e ih =>
    intro K a s p h1 h2 h3 h4
    obtain ⟨K, rfl⟩ := succ_of (show 0 < K by omega)
    simp only [spec_l1Cur_pattern8.l13, spec_l1Cur_pattern8.b13]
    refine Yl.bind (pick_ok _ _ _ hb (by omega) (by omega)) ?_
    rintro ⟨v, l', a', s'⟩ ⟨e1, e2, e3, e4, e5, e6⟩
    dsimp only at *; subst e1
    rw [w64_id (by omega)]
    refine Yl.ite (fun _ => ?_) fun _ => Yl.ret ⟨rfl, by dsimp only; omega⟩
    rw [app_ok (by simp; omega)]; simp only [Option.bind_some]
    exact (ih K a' s' _ (by simp; omega) (by simp; omega) (by omega) (by omega)).mono fun r hr => ⟨hr.1, by omega⟩
theorem pat4 (l : List Int) (hb : By l) : ∀ (n K : Nat) (a s : Int) (p : List Int), p.length + n ≤ 10 → 0 ≤ a ∧ a + 4 * n ≤ 5000000 → 80 + n ≤ K → Yl (spec_l1Cur_pattern8.l4 K l a s p (n : Int)) fun r => r.2.1 = l ∧ (r.1.length ≤ 30 ∧ a ≤ r.2.2.1 ∧ r.2.2.1 ≤ a + 4 * n + 60) := by
  intro n
  induction n with
  | zero =>
    intro K a s p h1 h2 h3
    obtain ⟨K, rfl⟩ := succ_of (show 0 < K by omega)
    simp only [spec_l1Cur_pattern8.l4, spec_l1Cur_pattern8.b4]
    rw [if_neg (by omega)]
    refine Yl.bind (pick_ok _ _ _ hb (by omega) (by omega)) ?_
    rintro ⟨v, l', a', s'⟩ ⟨e1, e2, e3, e4, e5, e6⟩
    dsimp only at *; subst e1
    refine Yl.ite (fun _ => ?_) fun _ => ?_
    · (refine Yl.bind (among_any _ _ (by simp) (by assumption) (by omega) (by omega)) ?_; rintro ⟨vq, lq, aq, sq, xq⟩ ⟨eq1, eq2, eq3, eq4⟩; dsimp only at *; subst eq1; subst eq2)
      rw [app_ok (by simp; omega)]; simp only [Option.bind_some]
      exact Yl.ret ⟨rfl, by dsimp only; rw [List.length_append, List.length_singleton]; omega⟩
    refine Yl.ite (fun _ => Yl.ret ⟨rfl, by simp; omega⟩) fun _ => ?_
    refine Yl.ite (fun _ => ?_) fun _ => Yl.ret ⟨rfl, by dsimp only; omega⟩
    exact (pat13 l' hb 10 K a' s' p (by omega) (by omega) (by omega) (by omega)).mono fun r hr => ⟨hr.1, by omega⟩
  | succ n ih =>
    intro K a s p h1 h2 h3
    obtain ⟨K, rfl⟩ := succ_of (show 0 < K by omega)
    simp only [spec_l1Cur_pattern8.l4, spec_l1Cur_pattern8.b4]
    rw [if_pos (by omega), w64_id (x := ((n + 1 : Nat) : Int) - 1) (by omega), show ((n + 1 : Nat) : Int) - 1 = n by omega]
    refine Yl.bind (among_any _ _ (by simp) hb (by omega) (by omega)) ?_
    rintro ⟨v, l', a', s', x'⟩ ⟨e1, e2, e3, e4⟩
    dsimp only at *; subst e1
    rw [app_ok (by simp; omega)]; simp only [Option.bind_some]
    exact (ih K a' s' _ (by simp; omega) (by omega) (by omega)).mono fun r hr => ⟨hr.1, by omega⟩
theorem pattern_ok (k : Nat) {l : List Int} {a : Int} (s : Int) (hb : By l) (h : 0 ≤ a ∧ a ≤ 4000000) (hk : 200 ≤ k) : Yl (spec_l1Cur_pattern8.f k l a s) fun r => r.2.1 = l ∧ (r.1.length ≤ 30 ∧ a ≤ r.2.2.1 ∧ r.2.2.1 ≤ a + 200) := by
  unfold spec_l1Cur_pattern8.f spec_l1Cur_pattern8.m
  refine Yl.bind (among_ok _ _ 1 8 (by simp) (by intro x hx; simp at hx; omega) hb (by omega) (by omega)) ?_
  rintro ⟨n, l', a', s', x'⟩ ⟨e1, e2, e3, e4, e5, e6⟩
  dsimp only at *; subst e1
  obtain ⟨n, rfl⟩ := Int.eq_ofNat_of_zero_le (show 0 ≤ n by omega)
  exact (pat4 _ hb n k a' s' [] (by simp; omega) (by omega) (by omega)).mono fun r hr => ⟨hr.1, by omega⟩
def ringB (w h : Int) (l : List Int) : Bool := goodB w h l && inB w 2 8 && inB h 2 8
theorem l8Good_eq (k : Nat) (w h : Int) (l : List Int) (hl : l.length ≤ 400) (hk : 1000 ≤ k) : spec_l8Good.f k w h l = some (ringB w h l) := by
  unfold spec_l8Good.f spec_l8Good.m spec_l8Side.f spec_l8Side.m ringB
  rw [l2Good_eq k w h l (by omega) (by omega), specIn_eq, specIn_eq]; simp only [Option.bind_some]
  cases goodB w h l <;> cases inB w 2 8 <;> rfl
theorem ringB_of {w h : Int} {l : List Int} (hr : ringB w h l = true) : goodB w h l = true ∧ (2 ≤ w ∧ w ≤ 8) ∧ (2 ≤ h ∧ h ≤ 8) := by
  unfold ringB at hr
  simp only [Bool.and_eq_true, inB_iff] at hr
  exact ⟨hr.1.1, hr.1.2, hr.2⟩
def patB (p : List Int) : Bool := p.all colorB && inB p.length 1 8
theorem l8Pattern_eq (k : Nat) (p : List Int) (hl : p.length ≤ 400) (hk : 1000 ≤ k) : spec_l8Pattern.f k p = some (patB p) := by
  unfold spec_l8Pattern.f spec_l8Pattern.m patB
  rw [l8Colors_eq k p (by omega) (by omega), specIn_eq]; simp only [Option.bind_some]
  cases p.all colorB <;> rfl
def RingD (l : List Int) (a b : Int) (r : Int × Int × List Int × List Int × Int × Int) : Prop := r.2.2.2.1 = l ∧ (r.2.2.1.length ≤ 300 ∧ -1 ≤ r.1 ∧ r.1 ≤ 9 ∧ -1 ≤ r.2.1 ∧ r.2.1 ≤ 9 ∧ a ≤ r.2.2.2.2.1 ∧ r.2.2.2.2.1 ≤ b)
theorem ringed2 (k : Nat) {l : List Int} {a : Int} (s w h : Int) (kn : List Int) (hb : By l) (ha : 0 ≤ a ∧ a ≤ 3000000) (hk : 2000 ≤ k) (hkn : kn.length ≤ 300) (hw : -1 ≤ w ∧ w ≤ 9) (hh : -1 ≤ h ∧ h ≤ 9) : Yl (spec_l1Cur_ringed.l2 k l a s 0 0 [] w h kn) (RingD l a (a + 300)) := by
  obtain ⟨k, rfl⟩ := succ_of (show 0 < k by omega)
  simp only [spec_l1Cur_ringed.l2, spec_l1Cur_ringed.b2]
  unfold RingD
  refine Yl.bind (pattern_ok _ _ hb (by omega) (by omega)) ?_
  rintro ⟨p, l', a', s'⟩ ⟨e1, e2, e3, e4⟩
  dsimp only at *; subst e1
  rw [l8Good_eq k w h kn (by omega) (by omega), l8Pattern_eq k p (by omega) (by omega)]; simp only [Option.bind_some]
  refine Yl.cond (fun hr => ?_) fun _ => Yl.ret ⟨rfl, by dsimp only; omega⟩
  refine Yl.cond (fun hp => ?_) fun _ => Yl.ret ⟨rfl, by dsimp only; omega⟩
  refine Yl.bind (one_ok _ _ _ hb (by omega) (by omega)) ?_
  rintro ⟨v, l', a2, s2⟩ ⟨e1, f2, f3⟩
  dsimp only at *; subst e1
  refine Yl.cond (fun _ => ?_) fun _ => Yl.ret ⟨rfl, by dsimp only; omega⟩
  obtain ⟨hg, h1, h2⟩ := ringB_of hr
  obtain ⟨_, _, hl, _⟩ := good_of hg
  unfold patB at hp
  rw [Bool.and_eq_true, inB_iff] at hp
  rw [l8Put_eq w h kn p h1 h2 hl (by omega) k (by omega)]; simp only [Option.bind_some]
  exact Yl.ret ⟨rfl, by dsimp only; rw [ringR_len]; omega⟩
theorem ringed_ok (k : Nat) {l : List Int} {a : Int} (s : Int) (hb : By l) (ha : 0 ≤ a ∧ a ≤ 500000) (hk : 3000 ≤ k) : Yl (spec_l1Cur_ringed.f k l a s) (RingD l a (a + 6000)) := by
  unfold spec_l1Cur_ringed.f spec_l1Cur_ringed.m
  refine Yl.bind (among_ok _ _ 2 8 (by simp) (by intro x hx; simp at hx; omega) hb (by omega) (by omega)) ?_
  rintro ⟨w1, l2, a1, s1, x1⟩ ⟨e1, f2, f3, f4, f5, f6⟩
  dsimp only at *; subst e1
  refine Yl.bind (among_ok _ _ 2 8 (by simp) (by intro x hx; simp at hx; omega) hb (by omega) (by omega)) ?_
  rintro ⟨h1, l2, a2, s2, x2⟩ ⟨e1, g2, g3, g4, g5, g6⟩
  dsimp only at *; subst e1
  refine Yl.bind (plain_ok k s2 (w := w1) (h := h1) (by omega) (by omega) hb (by omega) (by omega)) ?_
  rintro ⟨w', h', kn2, l2, a3, s3⟩ ⟨p1, p2, e1, p3, p4, p5⟩
  dsimp only at *; subst e1; subst p1; subst p2
  refine Yl.bind (one_ok _ _ _ hb (by omega) (by omega)) ?_
  rintro ⟨v, l2, a4, s4⟩ ⟨e1, q2, q3⟩
  dsimp only at *; subst e1
  refine Yl.cond (fun _ => ?_) fun _ => (ringed2 k s4 w' h' kn2 hb (by omega) (by omega) (by omega) (by omega) (by omega)).mono fun r hr => ?_
  · refine Yl.bind (chart_ok k s4 hb (by omega) (by omega)) ?_
    rintro ⟨w5, h5, kn5, l2, a5, s5⟩ ⟨e1, t2, t3⟩
    dsimp only at *; subst e1
    refine (ringed2 k s5 w5 h5 kn5 hb (by omega) (by omega) (by omega) (by omega) (by omega)).mono fun r hr => ?_
    unfold RingD at *
    exact ⟨hr.1, by omega⟩
  · unfold RingD at *
    exact ⟨hr.1, by omega⟩
theorem drawRing_ok (k : Nat) {l : List Int} (hb : By l) (hk : 3000 ≤ k) : Yl (spec_DrawRingOf.f k l) fun r => r.2.2.length ≤ 300 := by
  unfold spec_DrawRingOf.f spec_DrawRingOf.m
  refine Yl.bind (ringed_ok k 0 hb (by omega) hk) ?_
  rintro ⟨w, h, kn, l', a, s⟩ ⟨e1, e2, _⟩
  exact Yl.ret e2
def ringL (w h : Int) (l : List Int) : List Int := (ringP w h).map fun p => l.getD p.toNat 0
theorem ringDup (w h : Int) (hw : 2 ≤ w ∧ w ≤ 8) (hh : 2 ≤ h ∧ h ≤ 8) : decide ((ringP w h).Nodup) = true := by
  have h1 : w = 2 ∨ w = 3 ∨ w = 4 ∨ w = 5 ∨ w = 6 ∨ w = 7 ∨ w = 8 := by omega
  have h2 : h = 2 ∨ h = 3 ∨ h = 4 ∨ h = 5 ∨ h = 6 ∨ h = 7 ∨ h = 8 := by omega
  rcases h1 with rfl | rfl | rfl | rfl | rfl | rfl | rfl <;> rcases h2 with rfl | rfl | rfl | rfl | rfl | rfl | rfl <;> (refine Eq.symm (Eq.symm ?_); kernel_rfl)
theorem hasRing_eq (k : Nat) (w h : Int) (l : List Int) (hl : l.length ≤ 400) (hk : 1000 ≤ k) : impl_hasRing.f k w h l = some (ringB w h l) := by
  unfold impl_hasRing.f impl_hasRing.m impl_isRingSide.f impl_isRingSide.m ringB
  rw [isChart_eq k w h l (by omega) (by omega), implIn_eq, implIn_eq]; simp only [Option.bind_some]
  cases goodB w h l <;> cases inB w 2 8 <;> rfl
theorem iring_l (w h : Int) (l ps : List Int) (hp : ps.length ≤ 1000) (hb : ∀ p ∈ ps, 0 ≤ p ∧ p < l.length) : ∀ (d k i : Nat), i + d = ps.length → d < k → impl_Chart_ring.l4 k w h l ((ps.take i).map fun p => l.getD p.toNat 0) ps ps.length (i : Int) = some (ps.map fun p => l.getD p.toNat 0) := by
  intro d
  induction d with
  | zero =>
    intro k i h1 h2
    obtain ⟨k, rfl⟩ := succ_of h2
    simp (disch := omega) only [impl_Chart_ring.l4, impl_Chart_ring.b4, if_neg]
    rw [List.take_of_length_le (by omega)]
  | succ d ih =>
    intro k i h1 h2
    obtain ⟨k, rfl⟩ := succ_of (show 0 < k by omega)
    have hi : i < ps.length := by omega
    have hq := hb _ (List.getElem_mem hi)
    have h := ih k (i + 1) (by omega) (by omega)
    rw [show ((i + 1 : Nat) : Int) = (i : Int) + 1 by omega, List.take_succ_eq_append_getElem hi, List.map_append] at h
    simp (disch := omega) only [impl_Chart_ring.l4, impl_Chart_ring.b4, if_pos, chk_nat, Option.bind_some, getD_lt hi, w64_id]
    rw [chk_int hq]; simp only [Option.bind_some]
    rw [app_ok (by rw [List.length_map, List.length_take, List.length_singleton]; omega)]
    exact h
theorem sring_l (w h : Int) (l ps : List Int) (hp : ps.length ≤ 1000) (hb : ∀ p ∈ ps, 0 ≤ p ∧ p < l.length) : ∀ (d k i : Nat), i + d = ps.length → d < k → spec_l8Ring.l4 k w h l ps ((ps.take i).map fun p => l.getD p.toNat 0) (i : Int) = some (ps.map fun p => l.getD p.toNat 0) := by
  intro d
  induction d with
  | zero =>
    intro k i h1 h2
    obtain ⟨k, rfl⟩ := succ_of h2
    simp (disch := omega) only [spec_l8Ring.l4, spec_l8Ring.b4, if_neg]
    rw [List.take_of_length_le (by omega)]
  | succ d ih =>
    intro k i h1 h2
    obtain ⟨k, rfl⟩ := succ_of (show 0 < k by omega)
    have hi : i < ps.length := by omega
    have hq := hb _ (List.getElem_mem hi)
    have h := ih k (i + 1) (by omega) (by omega)
    rw [show ((i + 1 : Nat) : Int) = (i : Int) + 1 by omega, List.take_succ_eq_append_getElem hi, List.map_append] at h
    simp (disch := omega) only [spec_l8Ring.l4, spec_l8Ring.b4, if_pos, chk_nat, Option.bind_some, getD_lt hi, w64_id]
    rw [chk_int hq]; simp only [Option.bind_some]
    rw [app_ok (by rw [List.length_map, List.length_take, List.length_singleton]; omega)]
    exact h
theorem ring_both (k : Nat) {w h : Int} {l : List Int} (hr : ringB w h l = true) (hk : 200 ≤ k) : impl_Chart_ring.f k w h l = some (ringL w h l) ∧ spec_l8Ring.f k w h l = some (ringL w h l) := by
  obtain ⟨hg, h1, h2⟩ := ringB_of hr
  obtain ⟨_, _, hl, _⟩ := good_of hg
  have hb := mul_bd (w := w) (h := h) (by omega) (by omega)
  have hp := ringP_of w h h1 h2
  unfold impl_Chart_ring.f impl_Chart_ring.m spec_l8Ring.f spec_l8Ring.m
  rw [ringPlaces_eq w h h1 h2 k (by omega), l8Places_eq w h h1 h2 k (by omega)]; simp only [Option.bind_some]
  have a1 := iring_l w h l (ringP w h) (by omega) (fun p hpp => by have := hp.1 p hpp; omega) (ringP w h).length k 0 (by omega) (by omega)
  have a2 := sring_l w h l (ringP w h) (by omega) (fun p hpp => by have := hp.1 p hpp; omega) (ringP w h).length k 0 (by omega) (by omega)
  exact ⟨a1, a2⟩
theorem ringL_len {w h : Int} {l : List Int} (hr : ringB w h l = true) : ((ringL w h l).length : Int) = 2 * w + 2 * h - 4 ∧ 4 ≤ (ringL w h l).length ∧ (ringL w h l).length ≤ 28 := by
  obtain ⟨hg, h1, h2⟩ := ringB_of hr
  have := (ringP_of w h h1 h2).2
  unfold ringL; rw [List.length_map]; omega
def ringOut (w h : Int) (l : List Int) : List Int × Bool := if ringB w h l = true then (ringL w h l, true) else ([], false)
theorem ringOf_eq (k : Nat) (w h : Int) (l : List Int) (hl : l.length ≤ 400) (hk : 1000 ≤ k) : impl_RingOf.f k w h l = some (ringOut w h l) ∧ spec_RingOf.f k w h l = some (ringOut w h l) := by
  unfold impl_RingOf.f impl_RingOf.m spec_RingOf.f spec_RingOf.m ringOut
  rw [hasRing_eq k w h l hl hk, l8Good_eq k w h l hl hk]; simp only [Option.bind_some]
  cases hr : ringB w h l <;> simp only [Bool.not_true, Bool.not_false, cond_true, cond_false, Bool.true_and, Bool.false_and, Bool.and_true, Bool.and_false, Bool.false_eq_true, Bool.true_or, Bool.or_true, Bool.false_or, Bool.or_false, Bool.or_self, Bool.and_self, decide_true, decide_false, if_true, if_false, not_true, not_false_eq_true, not_true_eq_false, false_or, or_false, true_and, and_true, Bool.not_eq_true, Bool.true_eq_false, reduceCtorEq]
  obtain ⟨a1, a2⟩ := ring_both k hr (by omega)
  rw [a1, a2]; exact ⟨rfl, rfl⟩
def putRB (w h : Int) (l r : List Int) : Bool := ringB w h l && r.all colorB && decide ((r.length : Int) = 2 * w + 2 * h - 4)
def putROut (w h : Int) (l r : List Int) : Int × Int × List Int × Bool := if putRB w h l r = true then (w, h, ringR (ringP w h) r (ringP w h).length 0 l, true) else (0, 0, [], false)
theorem putRing_eq (k : Nat) (w h : Int) (l r : List Int) (hl : l.length ≤ 400) (hr : r.length ≤ 400) (hk : 1000 ≤ k) : impl_PutRing.f k w h l r = some (putROut w h l r) ∧ spec_PutRing.f k w h l r = some (putROut w h l r) := by
  unfold impl_PutRing.f impl_PutRing.m spec_PutRing.f spec_PutRing.m putROut putRB
  rw [hasRing_eq k w h l hl hk, l8Good_eq k w h l hl hk]; simp only [Option.bind_some]
  cases hb : ringB w h l <;> simp only [Bool.not_true, Bool.not_false, cond_true, cond_false, Bool.true_and, Bool.false_and, Bool.and_true, Bool.and_false, Bool.false_eq_true, Bool.true_or, Bool.or_true, Bool.false_or, Bool.or_false, Bool.or_self, Bool.and_self, decide_true, decide_false, if_true, if_false, not_true, not_false_eq_true, not_true_eq_false, false_or, or_false, true_and, and_true, Bool.not_eq_true, Bool.true_eq_false, reduceCtorEq]
  obtain ⟨hg, h1, h2⟩ := ringB_of hb
  obtain ⟨_, _, hl', _⟩ := good_of hg
  rw [ringLength_eq k w h h1 h2, l8Colors_eq k r (by omega) (by omega), l8Length_eq k w h h1 h2, areColors_eq k r (by omega) (by omega)]; simp only [Option.bind_some]
  by_cases e : (r.length : Int) = 2 * w + 2 * h - 4
  · rw [if_neg (fun hn => hn e), decide_eq_true e]
    cases hc : r.all colorB <;> simp only [Bool.not_true, Bool.not_false, cond_true, cond_false, Bool.true_and, Bool.false_and, Bool.and_true, Bool.and_false, Bool.false_eq_true, Bool.true_or, Bool.or_true, Bool.false_or, Bool.or_false, Bool.or_self, Bool.and_self, decide_true, decide_false, if_true, if_false, not_true, not_false_eq_true, not_true_eq_false, false_or, or_false, true_and, and_true, Bool.not_eq_true, Bool.true_eq_false, reduceCtorEq, e]
    have hpos : 0 < r.length := by omega
    rw [withRing_eq w h l r h1 h2 hl' hpos k (by omega), l8Put_eq w h l r h1 h2 hl' hpos k (by omega)]
    exact ⟨rfl, rfl⟩
  · rw [if_pos e, decide_eq_false e]
    cases hc : r.all colorB <;> simp only [Bool.not_true, Bool.not_false, cond_true, cond_false, Bool.true_and, Bool.false_and, Bool.and_true, Bool.and_false, Bool.false_eq_true, Bool.true_or, Bool.or_true, Bool.false_or, Bool.or_false, Bool.or_self, Bool.and_self, decide_true, decide_false, if_true, if_false, not_true, not_false_eq_true, not_true_eq_false, false_or, or_false, true_and, and_true, Bool.not_eq_true, Bool.true_eq_false, reduceCtorEq, e]
theorem set_same {l : List Int} {i : Nat} : l.set i (l.getD i 0) = l := by
  rcases Nat.lt_or_ge i l.length with h | h
  · rw [getD_lt h]; exact List.set_getElem_self h
  · exact List.set_eq_of_length_le h
theorem ringR_same (ps : List Int) (l : List Int) : ∀ (d i : Nat), i + d = ps.length → ringR ps (ps.map fun p => l.getD p.toNat 0) d i l = l := by
  intro d
  induction d with
  | zero => intro i _; rfl
  | succ d ih =>
    intro i h
    have hi : i < ps.length := by omega
    unfold ringR
    have e : (Int.tmod (i : Int) ((ps.map fun p => l.getD p.toNat 0).length : Int)).toNat = i := by
      rw [List.length_map, Int.tmod_eq_emod_of_nonneg (by omega), Int.emod_eq_of_lt (by omega) (by omega)]; omega
    rw [e, getD_lt (xs := ps.map _) (by rw [List.length_map]; exact hi), List.getElem_map, getD_lt hi, set_same]
    exact ih (i + 1) (by omega)
theorem ringR_read (ps r : List Int) (hlen : r.length = ps.length) (hnd : ps.Nodup) (hpos : ∀ p ∈ ps, 0 ≤ p) : ∀ (d i : Nat) (xs : List Int), i + d = ps.length → (∀ p ∈ ps, p < xs.length) → ∀ j (hj : j < ps.length), (ringR ps r d i xs).getD ps[j].toNat 0 = if i ≤ j then r.getD j 0 else xs.getD ps[j].toNat 0 := by
  intro d
  induction d with
  | zero => intro i xs h1 h2 j hj; rw [if_neg (by omega)]; rfl
  | succ d ih =>
    intro i xs h1 h2 j hj
    have hi : i < ps.length := by omega
    have hp1 := hpos _ (List.getElem_mem hi)
    have hp2 := h2 _ (List.getElem_mem hi)
    have hq1 := hpos _ (List.getElem_mem hj)
    unfold ringR
    have e : (Int.tmod (i : Int) (r.length : Int)).toNat = i := by
      rw [Int.tmod_eq_emod_of_nonneg (by omega), Int.emod_eq_of_lt (by omega) (by omega)]; omega
    rw [e, getD_lt hi, ih (i + 1) _ (by omega) (by rw [List.length_set]; exact h2) j hj]
    by_cases h : i + 1 ≤ j
    · rw [if_pos h, if_pos (by omega)]
    · rw [if_neg h, getD_set (by omega)]
      by_cases h3 : i ≤ j
      · have : j = i := by omega
        subst this
        rw [if_pos rfl, if_pos (Nat.le_refl _)]
      · rw [if_neg h3, if_neg ?_]
        intro heq
        have heq2 : ps[i] = ps[j] := by omega
        have := (List.getElem_inj hnd).1 heq2
        omega
theorem ring_put {w h : Int} {l r : List Int} (hp : putRB w h l r = true) : ringL w h (ringR (ringP w h) r (ringP w h).length 0 l) = r := by
  unfold putRB at hp
  simp only [Bool.and_eq_true, decide_eq_true_eq] at hp
  obtain ⟨⟨hr, _⟩, hlen⟩ := hp
  obtain ⟨hg, h1, h2⟩ := ringB_of hr
  obtain ⟨_, _, hl, _⟩ := good_of hg
  obtain ⟨q1, q2⟩ := ringP_of w h h1 h2
  have hnd := of_decide_eq_true (ringDup w h h1 h2)
  have hrl : r.length = (ringP w h).length := by omega
  refine List.ext_getElem (by unfold ringL; rw [List.length_map, hrl]) fun j h3 h4 => ?_
  unfold ringL at h3 ⊢
  rw [List.getElem_map]
  have hj : j < (ringP w h).length := by rw [List.length_map] at h3; exact h3
  rw [ringR_read (ringP w h) r hrl hnd (fun p hp => (q1 p hp).1) (ringP w h).length 0 l (by omega) (fun p hp => by have := (q1 p hp).2; omega) j hj, if_pos (Nat.zero_le _), getD_lt h4]
theorem ringR_mem (ps r : List Int) (hr : 0 < r.length) : ∀ (d i : Nat) (xs : List Int) (x : Int), x ∈ ringR ps r d i xs → x ∈ xs ∨ x ∈ r := by
  intro d
  induction d with
  | zero => intro i xs x h; exact .inl h
  | succ d ih =>
    intro i xs x h
    unfold ringR at h
    rcases ih _ _ x h with h | h
    · rcases List.mem_or_eq_of_mem_set h with h | h
      · exact .inl h
      · have hm1 : 0 ≤ Int.tmod (i : Int) (r.length : Int) := Int.tmod_nonneg _ (by omega)
        have hm2 : Int.tmod (i : Int) (r.length : Int) < (r.length : Int) := Int.tmod_lt_of_pos _ (by omega)
        rw [getD_lt (by omega)] at h
        exact .inr (h ▸ List.getElem_mem _)
    · exact .inr h
theorem put_ring {w h : Int} {l r : List Int} (hp : putRB w h l r = true) : ringB w h (ringR (ringP w h) r (ringP w h).length 0 l) = true := by
  unfold putRB at hp
  simp only [Bool.and_eq_true, decide_eq_true_eq] at hp
  obtain ⟨⟨hr, hc⟩, hlen⟩ := hp
  obtain ⟨hg, h1, h2⟩ := ringB_of hr
  obtain ⟨g1, g2, g3, g4⟩ := good_of hg
  have hpos : 0 < r.length := by omega
  unfold ringB goodB
  simp only [Bool.and_eq_true, decide_eq_true_eq, List.all_eq_true, inB_iff]
  refine ⟨⟨⟨⟨⟨g1, g2⟩, by rw [ringR_len]; exact g3⟩, fun x hx => ?_⟩, h1⟩, h2⟩
  rcases ringR_mem _ r hpos _ _ _ x hx with h | h
  · exact inB_of (g4 x h)
  · exact List.all_eq_true.1 hc x h
/-! ### The period -/
def isPer (r : List Int) (p : Nat) : Bool := (List.range r.length).all (fun i => decide (r.getD i 0 = r.getD ((i + p) % r.length) 0)) && decide (r.length % p = 0)
def perF (r : List Int) : Nat → Nat → Nat
  | 0, p => p
  | d + 1, p => if isPer r p = true then p else perF r d (p + 1)
theorem isPer_len {r : List Int} : isPer r r.length = true := by
  unfold isPer
  rw [Bool.and_eq_true, List.all_eq_true, decide_eq_true_eq]
  refine ⟨fun i hi => ?_, Nat.mod_self _⟩
  rw [List.mem_range] at hi
  rw [decide_eq_true_eq, Nat.add_mod_right, Nat.mod_eq_of_lt hi]
theorem perF_ok (r : List Int) : ∀ (d p : Nat), p + d = r.length → 1 ≤ p → isPer r (perF r d p) = true ∧ 1 ≤ perF r d p ∧ perF r d p ≤ r.length := by
  intro d
  induction d with
  | zero =>
    intro p h1 h2
    have : p = r.length := by omega
    subst this
    exact ⟨isPer_len, h2, Nat.le_refl _⟩
  | succ d ih =>
    intro p h1 h2
    unfold perF
    by_cases h : isPer r p = true
    · rw [if_pos h]; exact ⟨h, h2, by omega⟩
    · rw [if_neg h]; exact ih (p + 1) (by omega) (by omega)
theorem iper_l (r : List Int) (hr : 0 < r.length ∧ r.length ≤ 1000) (p : Nat) (hp : 1 ≤ p ∧ p ≤ r.length) (k : Nat) (hk : 2000 ≤ k) : impl_RingPeriod_1.f k (p : Int) r = some (isPer r p) := by
  unfold impl_RingPeriod_1.f impl_RingPeriod_1.m
  have hq := (all_loop (L := fun k i => impl_RingPeriod_1.l3 k (p : Int) r r r.length (i : Int)) (n := r.length) (K0 := 20) (ok := fun i => decide (r.getD i 0 = r.getD ((i + p) % r.length) 0)) (f := some false) (fun k i hk hi => ?_)) r.length k 0 (by omega) (by omega)
  · rw [show ((0 : Nat) : Int) = 0 from rfl] at hq
    unfold isPer
    by_cases hc : ∀ i, i < r.length → decide (r.getD i 0 = r.getD ((i + p) % r.length) 0) = true
    · rw [hq.1 (some (decide (r.length % p = 0))) (fun k hk => ?_) (fun j _ hj => hc j hj)]
      · have : (List.range r.length).all (fun i => decide (r.getD i 0 = r.getD ((i + p) % r.length) 0)) = true := List.all_eq_true.2 fun i hi => hc i (List.mem_range.1 hi)
        rw [this, Bool.true_and]
      · simp (disch := omega) only [impl_RingPeriod_1.l3, impl_RingPeriod_1.b3, if_neg, rem_ok, Option.bind_some]
        rw [Int.tmod_eq_emod_of_nonneg (by omega), ← Int.natCast_emod]
        congr 1
        rw [Bool.eq_iff_iff, decide_eq_true_eq, decide_eq_true_eq]; omega
    · rw [hq.2 (exists_bad hc)]
      have : (List.range r.length).all (fun i => decide (r.getD i 0 = r.getD ((i + p) % r.length) 0)) = false := by
        rw [← Bool.not_eq_true, List.all_eq_true]
        exact fun hn => hc fun i hi => hn i (List.mem_range.2 hi)
      rw [this, Bool.false_and]
  · have hm := Nat.mod_lt (i + p) hr.1
    simp (disch := omega) only [impl_RingPeriod_1.l3, impl_RingPeriod_1.b3, if_pos, chk_nat, Option.bind_some, w64_id, rem_ok]
    rw [Int.tmod_eq_emod_of_nonneg (by omega), show (i : Int) + (p : Int) = ((i + p : Nat) : Int) by omega, ← Int.natCast_emod, chk_nat hm]
    simp only [Option.bind_some, Int.natCast_add, Int.cast_ofNat_Int]
    by_cases e : r.getD i 0 = r.getD ((i + p) % r.length) 0 <;> simp only [e, Bool.not_true, Bool.not_false, cond_true, cond_false, Bool.true_and, Bool.false_and, Bool.and_true, Bool.and_false, Bool.false_eq_true, Bool.true_or, Bool.or_true, Bool.false_or, Bool.or_false, Bool.or_self, Bool.and_self, decide_true, decide_false, if_true, if_false, not_true, not_false_eq_true, not_true_eq_false, false_or, or_false, true_and, and_true, Bool.not_eq_true, Bool.true_eq_false, reduceCtorEq]
theorem iperiod_l (r : List Int) (hr : 0 < r.length ∧ r.length ≤ 900) : ∀ (d k p : Nat), p + d = r.length → 1 ≤ p → 3000 + d ≤ k → impl_RingPeriod.l8 k r (p : Int) = some (((perF r d p : Nat) : Int), true) := by
  intro d
  induction d with
  | zero =>
    intro k p h1 h2 h3
    obtain ⟨k, rfl⟩ := succ_of (show 0 < k by omega)
    have : p = r.length := by omega
    subst this
    simp only [impl_RingPeriod.l8, impl_RingPeriod.b8]
    rw [iper_l r (by omega) r.length (by omega) k (by omega), isPer_len]; rfl
  | succ d ih =>
    intro k p h1 h2 h3
    obtain ⟨k, rfl⟩ := succ_of (show 0 < k by omega)
    simp only [impl_RingPeriod.l8, impl_RingPeriod.b8]
    rw [iper_l r (by omega) p (by omega) k (by omega)]; simp only [Option.bind_some]
    unfold perF
    cases h : isPer r p
    · simp only [Bool.not_true, Bool.not_false, cond_true, cond_false, Bool.true_and, Bool.false_and, Bool.and_true, Bool.and_false, Bool.false_eq_true, Bool.true_or, Bool.or_true, Bool.false_or, Bool.or_false, Bool.or_self, Bool.and_self, decide_true, decide_false, if_true, if_false, not_true, not_false_eq_true, not_true_eq_false, false_or, or_false, true_and, and_true, Bool.not_eq_true, Bool.true_eq_false, reduceCtorEq]
      rw [w64_id (by omega), show ((p : Int) + 1) = ((p + 1 : Nat) : Int) by omega]
      exact ih k (p + 1) (by omega) (by omega) (by omega)
    · simp only [Bool.not_true, Bool.not_false, cond_true, cond_false, Bool.true_and, Bool.false_and, Bool.and_true, Bool.and_false, Bool.false_eq_true, Bool.true_or, Bool.or_true, Bool.false_or, Bool.or_false, Bool.or_self, Bool.and_self, decide_true, decide_false, if_true, if_false, not_true, not_false_eq_true, not_true_eq_false, false_or, or_false, true_and, and_true, Bool.not_eq_true, Bool.true_eq_false, reduceCtorEq]
theorem sper_l14 (r : List Int) (hr : 0 < r.length ∧ r.length ≤ 900) (p : Nat) (hp : 1 ≤ p ∧ p ≤ r.length) (hmod : r.length % p = 0) : ∀ (e k i : Nat) (b : Bool), i + e = r.length → 10 + e < k → (b = true → ∀ j, j < i → r.getD j 0 = r.getD ((j + p) % r.length) 0) → (b = false → isPer r p = false) → ∃ K, k ≤ K + e + 1 ∧ K < k ∧ spec_RingPeriod.l14 k r (p : Int) b (i : Int) = (if isPer r p = true then some ((p : Int), true) else spec_RingPeriod.l7 K r ((p + 1 : Nat) : Int)) := by
  intro e
  induction e with
  | zero =>
    intro k i b h1 h2 h3 h4
    obtain ⟨k, rfl⟩ := succ_of (show 0 < k by omega)
    refine ⟨k, by omega, by omega, ?_⟩
    simp (disch := omega) only [spec_RingPeriod.l14, spec_RingPeriod.b14, if_neg, w64_id]
    cases b with
    | false => rw [h4 rfl]; simp only [Bool.not_true, Bool.not_false, cond_true, cond_false, Bool.true_and, Bool.false_and, Bool.and_true, Bool.and_false, Bool.false_eq_true, Bool.true_or, Bool.or_true, Bool.false_or, Bool.or_false, Bool.or_self, Bool.and_self, decide_true, decide_false, if_true, if_false, not_true, not_false_eq_true, not_true_eq_false, false_or, or_false, true_and, and_true, Bool.not_eq_true, Bool.true_eq_false, reduceCtorEq]; rw [show ((p + 1 : Nat) : Int) = (p : Int) + 1 by omega]
    | true =>
      have : isPer r p = true := by
        unfold isPer
        rw [Bool.and_eq_true, List.all_eq_true, decide_eq_true_eq]
        exact ⟨fun j hj => by rw [List.mem_range] at hj; rw [decide_eq_true_eq]; exact h3 rfl j (by omega), hmod⟩
      rw [this]; simp only [Bool.not_true, Bool.not_false, cond_true, cond_false, Bool.true_and, Bool.false_and, Bool.and_true, Bool.and_false, Bool.false_eq_true, Bool.true_or, Bool.or_true, Bool.false_or, Bool.or_false, Bool.or_self, Bool.and_self, decide_true, decide_false, if_true, if_false, not_true, not_false_eq_true, not_true_eq_false, false_or, or_false, true_and, and_true, Bool.not_eq_true, Bool.true_eq_false, reduceCtorEq]
  | succ e ih =>
    intro k i b h1 h2 h3 h4
    obtain ⟨k, rfl⟩ := succ_of (show 0 < k by omega)
    have hm := Nat.mod_lt (i + p) hr.1
    cases b with
    | false =>
      refine ⟨k, by omega, by omega, ?_⟩
      simp (disch := omega) only [spec_RingPeriod.l14, spec_RingPeriod.b14, if_pos, w64_id]
      rw [h4 rfl]; simp only [Bool.not_true, Bool.not_false, cond_true, cond_false, Bool.true_and, Bool.false_and, Bool.and_true, Bool.and_false, Bool.false_eq_true, Bool.true_or, Bool.or_true, Bool.false_or, Bool.or_false, Bool.or_self, Bool.and_self, decide_true, decide_false, if_true, if_false, not_true, not_false_eq_true, not_true_eq_false, false_or, or_false, true_and, and_true, Bool.not_eq_true, Bool.true_eq_false, reduceCtorEq]; rw [show ((p + 1 : Nat) : Int) = (p : Int) + 1 by omega]
    | true =>
      obtain ⟨K, k1, k2, k3⟩ := ih k (i + 1) (decide (r.getD i 0 = r.getD ((i + p) % r.length) 0)) (by omega) (by omega) (fun hd j hj => by
        rw [decide_eq_true_eq] at hd
        rcases Nat.lt_or_ge j i with h | h
        · exact h3 rfl j h
        · have : j = i := by omega
          subst this; exact hd) (fun hd => by
        rw [decide_eq_false_iff_not] at hd
        unfold isPer
        have : (List.range r.length).all (fun i => decide (r.getD i 0 = r.getD ((i + p) % r.length) 0)) = false := by
          rw [← Bool.not_eq_true, List.all_eq_true]
          intro hn
          exact hd (of_decide_eq_true (hn i (List.mem_range.2 (by omega))))
        rw [this, Bool.false_and])
      refine ⟨K, by omega, by omega, ?_⟩
      rw [← k3]
      simp (disch := omega) only [spec_RingPeriod.l14, spec_RingPeriod.b14, if_pos, chk_nat, Option.bind_some, w64_id, rem_ok, Bool.not_true, Bool.not_false, cond_true, cond_false, Bool.true_and, Bool.false_and, Bool.and_true, Bool.and_false, Bool.false_eq_true, Bool.true_or, Bool.or_true, Bool.false_or, Bool.or_false, Bool.or_self, Bool.and_self, decide_true, decide_false, if_true, if_false, not_true, not_false_eq_true, not_true_eq_false, false_or, or_false, true_and, and_true, Bool.not_eq_true, Bool.true_eq_false, reduceCtorEq]
      rw [Int.tmod_eq_emod_of_nonneg (by omega), show (i : Int) + (p : Int) = ((i + p : Nat) : Int) by omega, ← Int.natCast_emod, chk_nat hm]
      simp only [Option.bind_some]
      rw [show ((i : Int) + 1) = ((i + 1 : Nat) : Int) by omega]
theorem speriod_l (r : List Int) (hr : 0 < r.length ∧ r.length ≤ 900) : ∀ (d k p : Nat), p + d = r.length → 1 ≤ p → 1000 * d + 1000 ≤ k → spec_RingPeriod.l7 k r (p : Int) = some (((perF r d p : Nat) : Int), true) := by
  intro d
  induction d with
  | zero =>
    intro k p h1 h2 h3
    obtain ⟨k, rfl⟩ := succ_of (show 0 < k by omega)
    simp (disch := omega) only [spec_RingPeriod.l7, spec_RingPeriod.b7, if_neg]
    have : p = r.length := by omega
    subst this; rfl
  | succ d ih =>
    intro k p h1 h2 h3
    obtain ⟨k, rfl⟩ := succ_of (show 0 < k by omega)
    simp (disch := omega) only [spec_RingPeriod.l7, spec_RingPeriod.b7, if_pos, rem_ok, Option.bind_some]
    rw [Int.tmod_eq_emod_of_nonneg (by omega), ← Int.natCast_emod]
    unfold perF
    have a2 : 10 + r.length < k := by omega
    have a3 : 1 ≤ p ∧ p ≤ r.length := by omega
    have b1 : p + 1 + d = r.length := by omega
    have b3 : ∀ K, k ≤ K + r.length + 1 → 1000 * d + 1000 ≤ K := fun K hK => by omega
    by_cases hm : r.length % p = 0
    · have hx := sper_l14 r hr p a3 hm r.length k 0 true
      have hx := hx (Nat.zero_add _)
      have hx := hx a2
      have hx := hx (fun _ j hj => absurd hj (Nat.not_lt_zero j))
      have hx := hx (fun hh => by cases hh)
      obtain ⟨K, k1, k2, k3⟩ := hx
      rw [show ((0 : Nat) : Int) = 0 from rfl] at k3
      rw [decide_eq_true (show ((r.length % p : Nat) : Int) = 0 by rw [hm]; rfl), k3]
      by_cases h : isPer r p = true
      · rw [if_pos h, if_pos h]
      · rw [if_neg h, if_neg h]; exact ih K (p + 1) b1 (Nat.le_add_left 1 p) (b3 K k1)
    · have hno : isPer r p = false := by unfold isPer; rw [decide_eq_false hm, Bool.and_false]
      rw [decide_eq_false (show ¬ ((r.length % p : Nat) : Int) = 0 by omega), hno]
      obtain ⟨k, rfl⟩ := succ_of (show 0 < k by omega)
      simp (disch := omega) only [spec_RingPeriod.l14, spec_RingPeriod.b14, Bool.not_true, Bool.not_false, cond_true, cond_false, Bool.true_and, Bool.false_and, Bool.and_true, Bool.and_false, Bool.false_eq_true, Bool.true_or, Bool.or_true, Bool.false_or, Bool.or_false, Bool.or_self, Bool.and_self, decide_true, decide_false, if_true, if_false, not_true, not_false_eq_true, not_true_eq_false, false_or, or_false, true_and, and_true, Bool.not_eq_true, Bool.true_eq_false, reduceCtorEq, if_pos, w64_id]
      rw [show ((p : Int) + 1) = ((p + 1 : Nat) : Int) by omega]
      exact ih k (p + 1) (by omega) (by omega) (by omega)
def perOut (w h : Int) (l : List Int) : Int × Bool := if ringB w h l = true then (((perF (ringL w h l) ((ringL w h l).length - 1) 1 : Nat) : Int), true) else (0, false)
theorem ringPeriod_eq (k : Nat) (w h : Int) (l : List Int) (hl : l.length ≤ 400) (hk : 40000 ≤ k) : impl_RingPeriod.f k w h l = some (perOut w h l) ∧ spec_RingPeriod.f k w h l = some (perOut w h l) := by
  unfold impl_RingPeriod.f impl_RingPeriod.m spec_RingPeriod.f spec_RingPeriod.m perOut
  rw [hasRing_eq k w h l hl (by omega), l8Good_eq k w h l hl (by omega)]; simp only [Option.bind_some]
  cases hr : ringB w h l <;> simp only [Bool.not_true, Bool.not_false, cond_true, cond_false, Bool.true_and, Bool.false_and, Bool.and_true, Bool.and_false, Bool.false_eq_true, Bool.true_or, Bool.or_true, Bool.false_or, Bool.or_false, Bool.or_self, Bool.and_self, decide_true, decide_false, if_true, if_false, not_true, not_false_eq_true, not_true_eq_false, false_or, or_false, true_and, and_true, Bool.not_eq_true, Bool.true_eq_false, reduceCtorEq]
  obtain ⟨a1, a2⟩ := ring_both k hr (by omega)
  obtain ⟨r1, r2, r3⟩ := ringL_len hr
  rw [a1, a2]; simp only [Option.bind_some]
  have b1 := iperiod_l (ringL w h l) (by omega) ((ringL w h l).length - 1) k 1 (by omega) (by omega) (by omega)
  have b2 := speriod_l (ringL w h l) (by omega) ((ringL w h l).length - 1) k 1 (by omega) (by omega) (by omega)
  exact ⟨b1, b2⟩
theorem put6 (l : List Int) (hb : By l) (w h : Int) (kn : List Int) (hw : -1 ≤ w ∧ w ≤ 9) (hh : -1 ≤ h ∧ h ≤ 9) (hkn : kn.length ≤ 300) : ∀ (e K i : Nat) (a s : Int) (p : List Int), 40 ≤ i + e → p.length = i → i ≤ 50 → 0 ≤ a ∧ a + 4 * e ≤ 5000000 → 80 + e ≤ K → Yl (spec_DrawPutRing.l6 K 0 0 [] l a s w h kn p (i : Int)) fun r => r.2.2.1.length ≤ 300 ∧ r.2.2.2.length ≤ 300 := by
  intro e
  induction e with
  | zero =>
    intro K i a s p h1 h2 h3 h4 h5
    obtain ⟨K, rfl⟩ := succ_of (show 0 < K by omega)
    simp only [spec_DrawPutRing.l6, spec_DrawPutRing.b6, spec_l8Length.f, spec_l8Length.m, Option.bind_some]
    rw [w64_id (x := 2 * w) (by omega), w64_id (x := 2 * h) (by omega), w64_id (x := 2 * w + 2 * h) (by omega), w64_id (x := 2 * w + 2 * h - 4) (by omega), if_neg (by omega)]
    (refine Yl.bind (pick_ok _ _ _ (by assumption) (by omega) (by omega)) ?_; rintro ⟨vq, lq, aq, sq⟩ ⟨eq1, eq2, eq3, eq4, eq5, eq6⟩; dsimp only at *; subst eq1)
    refine Yl.ite (fun _ => ?_) fun _ => ?_
    · rw [app_ok (by simp; omega)]; simp only [Option.bind_some]
      exact Yl.ret ⟨hkn, by dsimp only; rw [List.length_append, List.length_singleton]; omega⟩
    refine Yl.ite (fun _ => ?_) fun _ => Yl.ret ⟨hkn, by dsimp only; omega⟩
    refine Yl.ite (fun _ => ?_) fun _ => Yl.ret ⟨hkn, by dsimp only; omega⟩
    (refine Yl.bind (among_any _ _ (by simp) (by assumption) (by omega) (by omega)) ?_; rintro ⟨vq, lq, aq, sq, xq⟩ ⟨eq1, eq2, eq3, eq4⟩; dsimp only at *; subst eq1; subst eq2)
    rw [chk_int (by omega)]; simp only [Option.bind_some]
    exact Yl.ret ⟨hkn, by dsimp only; rw [List.length_set]; omega⟩
  | succ e ih =>
    intro K i a s p h1 h2 h3 h4 h5
    obtain ⟨K, rfl⟩ := succ_of (show 0 < K by omega)
    simp only [spec_DrawPutRing.l6, spec_DrawPutRing.b6, spec_l8Length.f, spec_l8Length.m, Option.bind_some]
    rw [w64_id (x := 2 * w) (by omega), w64_id (x := 2 * h) (by omega), w64_id (x := 2 * w + 2 * h) (by omega), w64_id (x := 2 * w + 2 * h - 4) (by omega)]
    refine Yl.ite (fun _ => ?_) fun _ => ?_
    · refine Yl.bind (among_any _ _ (by simp) hb (by omega) (by omega)) ?_
      rintro ⟨v, l', a', s', x'⟩ ⟨e1, e2, e3, e4⟩
      dsimp only at *; subst e1
      rw [app_ok (by simp; omega), w64_id (by omega), show ((i : Int) + 1) = ((i + 1 : Nat) : Int) by omega]; simp only [Option.bind_some]
      exact ih K (i + 1) a' s' _ (by omega) (by simp; omega) (by omega) (by omega) (by omega)
    · (refine Yl.bind (pick_ok _ _ _ (by assumption) (by omega) (by omega)) ?_; rintro ⟨vq, lq, aq, sq⟩ ⟨eq1, eq2, eq3, eq4, eq5, eq6⟩; dsimp only at *; subst eq1)
      refine Yl.ite (fun _ => ?_) fun _ => ?_
      · rw [app_ok (by simp; omega)]; simp only [Option.bind_some]
        exact Yl.ret ⟨hkn, by dsimp only; rw [List.length_append, List.length_singleton]; omega⟩
      refine Yl.ite (fun _ => ?_) fun _ => Yl.ret ⟨hkn, by dsimp only; omega⟩
      refine Yl.ite (fun _ => ?_) fun _ => Yl.ret ⟨hkn, by dsimp only; omega⟩
      (refine Yl.bind (among_any _ _ (by simp) (by assumption) (by omega) (by omega)) ?_; rintro ⟨vq, lq, aq, sq, xq⟩ ⟨eq1, eq2, eq3, eq4⟩; dsimp only at *; subst eq1; subst eq2)
      rw [chk_int (by omega)]; simp only [Option.bind_some]
      exact Yl.ret ⟨hkn, by dsimp only; rw [List.length_set]; omega⟩
theorem drawPutRing_ok (k : Nat) {l : List Int} (hb : By l) (hk : 4000 ≤ k) : Yl (spec_DrawPutRing.f k l) fun r => r.2.2.1.length ≤ 300 ∧ r.2.2.2.length ≤ 300 := by
  unfold spec_DrawPutRing.f spec_DrawPutRing.m
  refine Yl.bind (ringed_ok k 0 hb (by omega) (by omega)) ?_
  rintro ⟨w, h, kn, l', a, s⟩ ⟨e1, e2, e3⟩
  dsimp only at *; subst e1
  exact put6 l' hb w h kn (by omega) (by omega) e2 40 k 0 a s [] (by omega) rfl (by omega) (by omega) (by omega)
theorem corners_eq (k : Nat) (w h : Int) (l : List Int) (hl : l.length ≤ 400) (hk : 1000 ≤ k) : ∃ (r : List Int) (b : Bool), r.length ≤ 4 ∧ impl_CornersOf.f k w h l = some (r, b) ∧ spec_CornersOf.f k w h l = some (r, b) := by
  unfold impl_CornersOf.f impl_CornersOf.m spec_CornersOf.f spec_CornersOf.m
  rw [hasRing_eq k w h l hl hk, l8Good_eq k w h l hl hk]; simp only [Option.bind_some]
  cases hr : ringB w h l <;> simp only [Bool.not_true, Bool.not_false, cond_true, cond_false, Bool.true_and, Bool.false_and, Bool.and_true, Bool.and_false, Bool.false_eq_true, Bool.true_or, Bool.or_true, Bool.false_or, Bool.or_false, Bool.or_self, Bool.and_self, decide_true, decide_false, if_true, if_false, not_true, not_false_eq_true, not_true_eq_false, false_or, or_false, true_and, and_true, Bool.not_eq_true, Bool.true_eq_false, reduceCtorEq]
  · exact ⟨[], false, by simp, rfl, rfl⟩
  · obtain ⟨hg, h1, h2⟩ := ringB_of hr
    obtain ⟨_, _, hl', _⟩ := good_of hg
    obtain ⟨w, rfl⟩ := Int.eq_ofNat_of_zero_le (show 0 ≤ w by omega)
    obtain ⟨h, rfl⟩ := Int.eq_ofNat_of_zero_le (show 0 ≤ h by omega)
    have hl2 := lenN hl'
    have e1 : ((h : Int) - 1) * (w : Int) = (((h - 1) * w : Nat) : Int) := by rw [nat_mul_cast]; congr 1; omega
    have e2 : (h - 1) * w + w = w * h := by rw [← Nat.succ_mul, Nat.mul_comm]; congr 1; omega
    have hb : w * h ≤ 64 := Nat.le_trans (Nat.mul_le_mul (show w ≤ 8 by omega) (show h ≤ 8 by omega)) (by omega)
    rw [w64_id (x := (w : Int) - 1) (by omega), w64_id (x := (h : Int) - 1) (by omega)]
    rw [implAt_eq k w h l 0 0 0 (by omega) (by omega) (by omega), implAt_eq k w h l 0 ((w : Int) - 1) (w - 1) (by omega) (by omega) (by omega), implAt_eq k w h l ((h : Int) - 1) ((w : Int) - 1) ((h - 1) * w + (w - 1)) (by rw [e1]; omega) (by omega) (by rw [e1]; omega), implAt_eq k w h l ((h : Int) - 1) 0 ((h - 1) * w) (by rw [e1]; omega) (by omega) (by rw [e1]; omega)]
    rw [specAt_eq k w h l 0 0 0 (by omega) (by omega) (by omega), specAt_eq k w h l 0 ((w : Int) - 1) (w - 1) (by omega) (by omega) (by omega), specAt_eq k w h l ((h : Int) - 1) ((w : Int) - 1) ((h - 1) * w + (w - 1)) (by rw [e1]; omega) (by omega) (by rw [e1]; omega), specAt_eq k w h l ((h : Int) - 1) 0 ((h - 1) * w) (by rw [e1]; omega) (by omega) (by rw [e1]; omega)]
    exact ⟨_, true, by simp, rfl, rfl⟩
theorem ringLen_eq (k : Nat) (w h : Int) : ∃ r : Int × Bool, impl_RingLength.f k w h = some r ∧ spec_RingLength.f k w h = some r ∧ (2 ≤ w ∧ w ≤ 8 → 2 ≤ h ∧ h ≤ 8 → r = (2 * w + 2 * h - 4, true)) := by
  unfold impl_RingLength.f impl_RingLength.m spec_RingLength.f spec_RingLength.m impl_isRingSide.f impl_isRingSide.m spec_l8Side.f spec_l8Side.m
  rw [implIn_eq, implIn_eq, specIn_eq, specIn_eq]; simp only [Option.bind_some]
  cases e1 : inB w 2 8 <;> simp only [Bool.not_true, Bool.not_false, cond_true, cond_false, Bool.true_and, Bool.false_and, Bool.and_true, Bool.and_false, Bool.false_eq_true, Bool.true_or, Bool.or_true, Bool.false_or, Bool.or_false, Bool.or_self, Bool.and_self, decide_true, decide_false, if_true, if_false, not_true, not_false_eq_true, not_true_eq_false, false_or, or_false, true_and, and_true, Bool.not_eq_true, Bool.true_eq_false, reduceCtorEq]
  · refine ⟨_, rfl, rfl, fun h1 _ => ?_⟩
    rw [inB_of h1] at e1; cases e1
  · cases e2 : inB h 2 8 <;> simp only [Bool.not_true, Bool.not_false, cond_true, cond_false, Bool.true_and, Bool.false_and, Bool.and_true, Bool.and_false, Bool.false_eq_true, Bool.true_or, Bool.or_true, Bool.false_or, Bool.or_false, Bool.or_self, Bool.and_self, decide_true, decide_false, if_true, if_false, not_true, not_false_eq_true, not_true_eq_false, false_or, or_false, true_and, and_true, Bool.not_eq_true, Bool.true_eq_false, reduceCtorEq]
    · refine ⟨_, rfl, rfl, fun _ h1 => ?_⟩
      rw [inB_of h1] at e2; cases e2
    · rw [ringLength_eq k w h (inB_iff.1 e1) (inB_iff.1 e2), l8Length_eq k w h (inB_iff.1 e1) (inB_iff.1 e2)]
      exact ⟨_, rfl, rfl, fun _ _ => rfl⟩
theorem rings31 (k : Nat) {l : List Int} (hb : By l) (hk : 41000 ≤ k) : laws_FnRings.l31 k l = some true := by
  obtain ⟨k, rfl⟩ := succ_of (show 0 < k by omega)
  simp only [laws_FnRings.l31, laws_FnRings.b31]
  obtain ⟨⟨w, h, kn⟩, e, h1⟩ := drawRing_ok k hb (by omega)
  dsimp only at h1
  have ha : spec_DrawRingPeriod.f k l = some (w, h, kn) := by unfold spec_DrawRingPeriod.f spec_DrawRingPeriod.m; rw [e]; rfl
  have hc : spec_DrawCornersOf.f k l = some (w, h, kn) := by unfold spec_DrawCornersOf.f spec_DrawCornersOf.m; rw [e]; rfl
  rw [ha, hc]; simp only [Option.bind_some]
  obtain ⟨k1, k2⟩ := ringPeriod_eq k w h kn (by omega) (by omega)
  rw [k1, k2]; simp only [Option.bind_some, not_true, if_false]
  obtain ⟨r, b, c1, c2, c3⟩ := corners_eq k w h kn (by omega) (by omega)
  rw [c2, c3]; simp only [Option.bind_some, not_true, if_false]
  rw [vInts_self k r (by omega) (by omega)]; simp only [Option.bind_some, Bool.not_true, Bool.not_false, cond_true, cond_false, Bool.true_and, Bool.false_and, Bool.and_true, Bool.and_false, Bool.false_eq_true, Bool.true_or, Bool.or_true, Bool.false_or, Bool.or_false, Bool.or_self, Bool.and_self, decide_true, decide_false, if_true, if_false, not_true, not_false_eq_true, not_true_eq_false, false_or, or_false, true_and, and_true, Bool.not_eq_true, Bool.true_eq_false, reduceCtorEq]
  have hd : Yl (spec_DrawRingLength.f k l) fun _ => True := by
    unfold spec_DrawRingLength.f spec_DrawRingLength.m
    (refine Yl.bind (among_any _ _ (by simp) (by assumption) (by omega) (by omega)) ?_; rintro ⟨vq, lq, aq, sq, xq⟩ ⟨eq1, eq2, eq3, eq4⟩; dsimp only at *; subst eq1; subst eq2)
    (refine Yl.bind (among_any _ _ (by simp) (by assumption) (by omega) (by omega)) ?_; rintro ⟨vq, lq, aq, sq, xq⟩ ⟨eq1, eq2, eq3, eq4⟩; dsimp only at *; subst eq1; subst eq2)
    exact Yl.ret trivial
  obtain ⟨⟨x, y⟩, e2, _⟩ := hd
  rw [e2]; simp only [Option.bind_some]
  obtain ⟨r, r1, r2, _⟩ := ringLen_eq k x y
  rw [r1, r2]; simp only [Option.bind_some, if_true, Bool.not_true, Bool.not_false, cond_true, cond_false, Bool.true_and, Bool.false_and, Bool.and_true, Bool.and_false, Bool.false_eq_true, Bool.true_or, Bool.or_true, Bool.false_or, Bool.or_false, Bool.or_self, Bool.and_self, decide_true, decide_false, if_true, if_false, not_true, not_false_eq_true, not_true_eq_false, false_or, or_false, true_and, and_true, Bool.not_eq_true, Bool.true_eq_false, reduceCtorEq]
theorem ringsTail (k : Nat) {l : List Int} (hb : By l) (hk : 42000 ≤ k) : ((spec_DrawPutRing.f k l).bind fun r11 => ((impl_PutRing.f k r11.1 r11.2.1 r11.2.2.1 r11.2.2.2).bind fun r12 => ((spec_PutRing.f k r11.1 r11.2.1 r11.2.2.1 r11.2.2.2).bind fun r13 => (if ¬ r12.2.2.2 = r13.2.2.2 then (some false) else ((laws_vChart.f k r12.1 r12.2.1 r12.2.2.1 r13.1 r13.2.1 r13.2.2.1).bind fun r14 => (cond (!r14) (some false) (cond r12.2.2.2 ((impl_RingOf.f k r12.1 r12.2.1 r12.2.2.1).bind fun r15 => (cond (!r15.2) (some false) ((laws_vInts.f k r15.1 r11.2.2.2).bind fun r16 => (cond (!r16) (some false) (laws_FnRings.l31 k l))))) (laws_FnRings.l31 k l)))))))) = some true := by
  have h31 := rings31 k hb (by omega)
  obtain ⟨⟨w, h, kn, p⟩, e, h1, h2⟩ := drawPutRing_ok k hb (by omega)
  dsimp only at h1 h2
  rw [e]; simp only [Option.bind_some]
  obtain ⟨k1, k2⟩ := putRing_eq k w h kn p (by omega) (by omega) (by omega)
  rw [k1, k2]; simp only [Option.bind_some, not_true, if_false]
  unfold putROut
  by_cases hp : putRB w h kn p = true
  · rw [if_pos hp]; simp only
    rw [vChart_self k _ _ _ (by rw [ringR_len]; omega) (by omega)]; simp only [Option.bind_some, Bool.not_true, Bool.not_false, cond_true, cond_false, Bool.true_and, Bool.false_and, Bool.and_true, Bool.and_false, Bool.false_eq_true, Bool.true_or, Bool.or_true, Bool.false_or, Bool.or_false, Bool.or_self, Bool.and_self, decide_true, decide_false, if_true, if_false, not_true, not_false_eq_true, not_true_eq_false, false_or, or_false, true_and, and_true, Bool.not_eq_true, Bool.true_eq_false, reduceCtorEq]
    rw [(ringOf_eq k w h _ (by rw [ringR_len]; omega) (by omega)).1]
    unfold ringOut
    rw [if_pos (put_ring hp), ring_put hp]; simp only [Option.bind_some, Bool.not_true, Bool.not_false, cond_true, cond_false, Bool.true_and, Bool.false_and, Bool.and_true, Bool.and_false, Bool.false_eq_true, Bool.true_or, Bool.or_true, Bool.false_or, Bool.or_false, Bool.or_self, Bool.and_self, decide_true, decide_false, if_true, if_false, not_true, not_false_eq_true, not_true_eq_false, false_or, or_false, true_and, and_true, Bool.not_eq_true, Bool.true_eq_false, reduceCtorEq]
    rw [vInts_self k p (by omega) (by omega)]; simp only [Option.bind_some, Bool.not_true, Bool.not_false, cond_true, cond_false, Bool.true_and, Bool.false_and, Bool.and_true, Bool.and_false, Bool.false_eq_true, Bool.true_or, Bool.or_true, Bool.false_or, Bool.or_false, Bool.or_self, Bool.and_self, decide_true, decide_false, if_true, if_false, not_true, not_false_eq_true, not_true_eq_false, false_or, or_false, true_and, and_true, Bool.not_eq_true, Bool.true_eq_false, reduceCtorEq]
    exact h31
  · rw [if_neg hp]; simp only
    rw [vChart_self k 0 0 [] (by simp) (by omega)]; simp only [Option.bind_some, Bool.not_true, Bool.not_false, cond_true, cond_false, Bool.true_and, Bool.false_and, Bool.and_true, Bool.and_false, Bool.false_eq_true, Bool.true_or, Bool.or_true, Bool.false_or, Bool.or_false, Bool.or_self, Bool.and_self, decide_true, decide_false, if_true, if_false, not_true, not_false_eq_true, not_true_eq_false, false_or, or_false, true_and, and_true, Bool.not_eq_true, Bool.true_eq_false, reduceCtorEq]
    exact h31
theorem rings19 {l : List Int} (hb : By l) (r : List Int) (hr : 0 < r.length ∧ r.length ≤ 900) (p : Nat) (hp : 1 ≤ p) (hper : isPer r p = true) : ∀ (d k i : Nat), i + d = r.length → p ≤ i → 50000 + d ≤ k → laws_FnRings.l19 k l r (p : Int) (i : Int) = some true := by
  have hall : ∀ i, i < r.length → r.getD i 0 = r.getD ((i + p) % r.length) 0 := fun i hi => by
    unfold isPer at hper
    rw [Bool.and_eq_true, List.all_eq_true] at hper
    exact of_decide_eq_true (hper.1 i (List.mem_range.2 hi))
  intro d
  induction d with
  | zero =>
    intro k i h1 h2 h3
    obtain ⟨k, rfl⟩ := succ_of (show 0 < k by omega)
    simp only [laws_FnRings.l19, laws_FnRings.b19]
    rw [if_neg (by omega)]
    exact ringsTail k hb (by omega)
  | succ d ih =>
    intro k i h1 h2 h3
    obtain ⟨k, rfl⟩ := succ_of (show 0 < k by omega)
    simp only [laws_FnRings.l19, laws_FnRings.b19]
    have h := hall (i - p) (by omega)
    rw [show i - p + p = i by omega, Nat.mod_eq_of_lt (by omega)] at h
    rw [if_pos (by omega), chk_nat (by omega), w64_id (x := (i : Int) - (p : Int)) (by omega), show (i : Int) - (p : Int) = ((i - p : Nat) : Int) by omega, chk_nat (by omega)]
    simp only [Option.bind_some]
    rw [h, if_neg (fun hn => hn rfl), w64_id (by omega), show ((i : Int) + 1) = ((i + 1 : Nat) : Int) by omega]
    exact ih k (i + 1) (by omega) (by omega) (by omega)
theorem pure_holds : Pure := by
  intro l _ hw
  have hb := By.of hw
  refine ⟨60000, ?_⟩
  unfold laws_FnRings.f laws_FnRings.m laws_vBig.f laws_vBig.m
  simp only [Option.bind_some]
  cases decide (65536 < (l.length : Int)) with
  | true => rfl
  | false =>
  simp only [Bool.not_true, Bool.not_false, cond_true, cond_false, Bool.true_and, Bool.false_and, Bool.and_true, Bool.and_false, Bool.false_eq_true, Bool.true_or, Bool.or_true, Bool.false_or, Bool.or_false, Bool.or_self, Bool.and_self, decide_true, decide_false, if_true, if_false, not_true, not_false_eq_true, not_true_eq_false, false_or, or_false, true_and, and_true, Bool.not_eq_true, Bool.true_eq_false, reduceCtorEq]
  obtain ⟨⟨w, h, kn⟩, e, h1⟩ := drawRing_ok 60000 hb (by omega)
  dsimp only at h1
  rw [e]; simp only [Option.bind_some]
  obtain ⟨k1, k2⟩ := ringOf_eq 60000 w h kn (by omega) (by omega)
  rw [k1, k2]; simp only [Option.bind_some, not_true, if_false]
  unfold ringOut
  by_cases hr : ringB w h kn = true
  · obtain ⟨hg, w1, w2⟩ := ringB_of hr
    obtain ⟨r1, r2, r3⟩ := ringL_len hr
    obtain ⟨_, _, hl, hx⟩ := good_of hg
    obtain ⟨p1, p2⟩ := ringP_of w h w1 w2
    have hput : putRB w h kn (ringL w h kn) = true := by
      unfold putRB
      rw [hr, decide_eq_true r1, Bool.true_and, Bool.and_true, List.all_eq_true]
      intro x hx2
      unfold ringL at hx2
      obtain ⟨p, hp, rfl⟩ := List.mem_map.1 hx2
      have := p1 p hp
      rw [getD_lt (by omega)]
      exact inB_of (hx _ (List.getElem_mem _))
    rw [if_pos hr]; simp only
    rw [vInts_self 60000 _ (by omega) (by omega)]; simp only [Option.bind_some, Bool.not_true, Bool.not_false, cond_true, cond_false, Bool.true_and, Bool.false_and, Bool.and_true, Bool.and_false, Bool.false_eq_true, Bool.true_or, Bool.or_true, Bool.false_or, Bool.or_false, Bool.or_self, Bool.and_self, decide_true, decide_false, if_true, if_false, not_true, not_false_eq_true, not_true_eq_false, false_or, or_false, true_and, and_true, Bool.not_eq_true, Bool.true_eq_false, reduceCtorEq]
    rw [(putRing_eq 60000 w h kn _ (by omega) (by omega) (by omega)).1, (ringPeriod_eq 60000 w h kn (by omega) (by omega)).1]
    obtain ⟨rl, q1, _, q3⟩ := ringLen_eq 60000 w h
    rw [q1, q3 w1 w2]; simp only [Option.bind_some]
    unfold putROut perOut
    rw [if_pos hput, if_pos hr]; simp only [Bool.not_true, Bool.not_false, cond_true, cond_false, Bool.true_and, Bool.false_and, Bool.and_true, Bool.and_false, Bool.false_eq_true, Bool.true_or, Bool.or_true, Bool.false_or, Bool.or_false, Bool.or_self, Bool.and_self, decide_true, decide_false, if_true, if_false, not_true, not_false_eq_true, not_true_eq_false, false_or, or_false, true_and, and_true, Bool.not_eq_true, Bool.true_eq_false, reduceCtorEq]
    have hsame : ringR (ringP w h) (ringL w h kn) (ringP w h).length 0 kn = kn := ringR_same _ _ _ 0 (by omega)
    rw [hsame, vChart_self 60000 _ _ _ (by omega) (by omega)]; simp only [Option.bind_some, Bool.not_true, Bool.not_false, cond_true, cond_false, Bool.true_and, Bool.false_and, Bool.and_true, Bool.and_false, Bool.false_eq_true, Bool.true_or, Bool.or_true, Bool.false_or, Bool.or_false, Bool.or_self, Bool.and_self, decide_true, decide_false, if_true, if_false, not_true, not_false_eq_true, not_true_eq_false, false_or, or_false, true_and, and_true, Bool.not_eq_true, Bool.true_eq_false, reduceCtorEq]
    obtain ⟨f1, f2, f3⟩ := perF_ok (ringL w h kn) ((ringL w h kn).length - 1) 1 (by omega) (by omega)
    generalize hper : perF (ringL w h kn) ((ringL w h kn).length - 1) 1 = p at *
    have hmod : (ringL w h kn).length % p = 0 := by
      unfold isPer at f1; rw [Bool.and_eq_true] at f1; exact of_decide_eq_true f1.2
    rw [if_neg (by omega), if_neg (by omega), rem_ok (by omega), Int.tmod_eq_emod_of_nonneg (by omega), ← r1, ← Int.natCast_emod, hmod]
    simp only [Option.bind_some]
    rw [if_neg (by simp)]
    exact rings19 hb (ringL w h kn) (by omega) p f2 f1 ((ringL w h kn).length - p) 60000 p (by omega) (by omega) (by omega)
  · rw [if_neg hr]; simp only
    rw [vInts_self 60000 [] (by simp) (by omega)]; simp only [Option.bind_some, Bool.not_true, Bool.not_false, cond_true, cond_false, Bool.true_and, Bool.false_and, Bool.and_true, Bool.and_false, Bool.false_eq_true, Bool.true_or, Bool.or_true, Bool.false_or, Bool.or_false, Bool.or_self, Bool.and_self, decide_true, decide_false, if_true, if_false, not_true, not_false_eq_true, not_true_eq_false, false_or, or_false, true_and, and_true, Bool.not_eq_true, Bool.true_eq_false, reduceCtorEq]
    exact ringsTail 60000 hb (by omega)
end Go.Proofs.Ytijmljaemalgmaa.DFnRings
