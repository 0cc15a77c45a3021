/- A part that is put back in its place changes nothing, and has the knots of its place. -/
import Derived.Test.YtijmljaemalgmaaDFnParts
set_option linter.unusedVariables false
set_option linter.unusedSimpArgs false
set_option maxRecDepth 100000
namespace Go.Proofs.Ytijmljaemalgmaa.DFnParts
open Go Go.Proofs.YtijmljaemalgmaaD
theorem succ_of {k : Nat} (h : 0 < k) : ∃ j, k = j + 1 := ⟨k - 1, by omega⟩
theorem w64_id {x : Int} (h : -9223372036854775808 ≤ x ∧ x ≤ 9223372036854775807) : w64 x = x := by
  unfold w64 IntKind.wrap
  simp [IntKind.signed, IntKind.bits]
  omega
theorem chk_nat {n j : Nat} (h : j < n) : chk n (j : Int) = some j := by unfold chk; rw [if_pos (by omega)]; simp
theorem chk_int {n : Nat} {i : Int} (h : 0 ≤ i ∧ i < n) : chk n i = some i.toNat := by unfold chk; rw [if_pos h]
theorem cut_int {n : Nat} {i j : Int} (h : 0 ≤ i ∧ i ≤ j ∧ j ≤ n) : cut n i j = some (i.toNat, j.toNat - i.toNat) := by unfold cut; rw [if_pos h]
theorem cutTo_int {n : Nat} {j : Int} (h : 0 ≤ j ∧ j ≤ n) : cutTo n j = some j.toNat := by unfold cutTo; rw [if_pos h]
theorem cut3_int {n : Nat} {i j m : Int} (h : 0 ≤ i ∧ i ≤ j ∧ j ≤ m ∧ m ≤ n) : cut3 n i j m = some () := by unfold cut3; rw [if_pos h]
theorem mkl_int {L : Nat} {n c : Int} (h : 0 ≤ n ∧ n ≤ c ∧ c ≤ L) : mkl L n c = some n.toNat := by unfold mkl; rw [if_pos h]
theorem selfApp_nat {i lo m : Nat} (h : i ≤ lo) : selfApp i lo m = some (i + m) := by unfold selfApp; rw [if_pos h]
section
variable {β : Type}
theorem app_ok {L : Nat} {xs ys : List β} (h : xs.length + ys.length ≤ L) : app L xs ys = some (xs ++ ys) := by unfold app; rw [if_pos h]
theorem chk_mid (p : List β) (a : β) (q : List β) : chk (p ++ a :: q).length (p.length : Int) = some p.length := chk_nat (by simp)
theorem getD_mid (p : List β) (a : β) (q : List β) (d : β) : (p ++ a :: q).getD p.length d = a := by
  rw [List.getD_eq_getElem?_getD, List.getElem?_append_right (Nat.le_refl _)]; simp
theorem set_mid (p : List β) (a b : β) (q : List β) : (p ++ a :: q).set p.length b = p ++ b :: q := by
  rw [List.set_append_right _ _ (Nat.le_refl _)]; simp
theorem upd_mid (p : List β) (a : β) (q : List β) (d : β) (f : β → β) : upd (p ++ a :: q) p.length d f = p ++ f a :: q := by
  unfold upd; rw [getD_mid, set_mid]
theorem upd_len (xs : List β) (j : Nat) (d : β) (f : β → β) : (upd xs j d f).length = xs.length := by unfold upd; simp
theorem upd_of {xs : List β} {j : Nat} {d : β} {f : β → β} : upd xs j d f = xs.set j (f (xs.getD j d)) := rfl
theorem lt_mid (p : List β) (a : β) (q : List β) : (p.length : Int) < ((p ++ a :: q).length : Nat) := by simp; omega
theorem next_mid {p : List β} {a : β} {q : List β} (h : (p ++ a :: q).length ≤ 1152921504606846976) : w64 ((p.length : Int) + 1) = ((p ++ [a]).length : Nat) := by
  rw [w64_id (by simp at h; omega)]; simp
theorem snoc_app (p : List β) (a : β) (q : List β) : p ++ a :: q = (p ++ [a]) ++ q := by simp
theorem getD_lt {xs : List β} {i : Nat} {d : β} (h : i < xs.length) : xs.getD i d = xs[i] := by
  rw [List.getD_eq_getElem?_getD, List.getElem?_eq_getElem h]; rfl
theorem getD_set {xs : List β} {i j : Nat} {a d : β} (h : i < xs.length) : (xs.set i a).getD j d = if i = j then a else xs.getD j d := by
  rw [List.getD_eq_getElem?_getD, List.getD_eq_getElem?_getD, List.getElem?_set]
  split
  · rename_i e; subst e; simp [h]
  · rfl
theorem some_bind {γ : Type} (x : β) (f : β → Option γ) : (some x).bind f = f x := rfl
end
def inB (n lo hi : Int) : Bool := decide (lo ≤ n) && decide (n ≤ hi)
theorem inB_iff {n lo hi : Int} : inB n lo hi = true ↔ lo ≤ n ∧ n ≤ hi := by unfold inB; simp
theorem inB_of {n lo hi : Int} (h : lo ≤ n ∧ n ≤ hi) : inB n lo hi = true := inB_iff.2 h
theorem notB {b : Bool} (h : ¬ b = true) : b = false := by cases b <;> simp_all
theorem all_loop {β : Type} {L : Nat → Nat → Option β} {n K0 : Nat} {ok : Nat → Bool} {f : Option β} (hs : ∀ k i, K0 ≤ k → i < n → L (k + 1) i = if ok i = true then L k (i + 1) else f) :
    ∀ (d k i : Nat), i + d = n → K0 + d < k → (∀ e, (∀ k, K0 ≤ k → L (k + 1) n = e) → (∀ j, i ≤ j → j < n → ok j = true) → L k i = e) ∧ ((∃ j, i ≤ j ∧ j < n ∧ ok j = false) → L k i = f) := by
  intro d
  induction d with
  | zero =>
    intro k i h1 h2
    obtain ⟨k, rfl⟩ := succ_of (show 0 < k by omega)
    have : i = n := by omega
    subst this
    exact ⟨fun e he _ => he k (by omega), fun ⟨j, a, b, _⟩ => by omega⟩
  | succ d ih =>
    intro k i h1 h2
    obtain ⟨k, rfl⟩ := succ_of (show 0 < k by omega)
    have := ih k (i + 1) (by omega) (by omega)
    rw [hs k i (by omega) (by omega)]
    refine ⟨fun e he h => ?_, fun ⟨j, a, b, c⟩ => ?_⟩
    · rw [if_pos (h i (Nat.le_refl _) (by omega))]; exact this.1 e he fun j a b => h j (by omega) b
    · by_cases e : ok i = true
      · rw [if_pos e]
        refine this.2 ⟨j, ?_, b, c⟩
        rcases Nat.lt_or_ge i j with h | h
        · exact h
        · have : j = i := by omega
          subst this; rw [e] at c; cases c
      · rw [if_neg e]
theorem exists_bad {n : Nat} {ok : Nat → Bool} (h : ¬ ∀ i, i < n → ok i = true) : ∃ j, 0 ≤ j ∧ j < n ∧ ok j = false := by
  apply Classical.byContradiction; intro hn
  refine h fun j hj => ?_
  cases hc : ok j with
  | true => rfl
  | false => exact absurd ⟨j, Nat.zero_le _, hj, hc⟩ hn
theorem first_bad {n : Nat} {ok : Nat → Bool} (h : ¬ ∀ i, i < n → ok i = true) : ∃ j, j < n ∧ ok j = false ∧ ∀ i, i < j → ok i = true := by
  induction n with
  | zero => exact absurd (fun i hi => by omega) h
  | succ n ih =>
    by_cases h1 : ∀ i, i < n → ok i = true
    · refine ⟨n, by omega, ?_, h1⟩
      cases hc : ok n with
      | false => rfl
      | true => exact absurd (fun i hi => by
          rcases Nat.lt_or_ge i n with h' | h'
          · exact h1 i h'
          · have : i = n := by omega
            rw [this]; exact hc) h
    · obtain ⟨j, a, b, c⟩ := ih h1
      exact ⟨j, by omega, b, c⟩
theorem find_loop {L : Nat → Nat → Option Int} {n K0 : Nat} {ok : Nat → Bool} (hs : ∀ k i, K0 ≤ k → i < n → L (k + 1) i = if ok i = true then some (i : Int) else L k (i + 1)) (he : ∀ k, K0 ≤ k → L (k + 1) n = some (-1)) :
    ∀ (d k i : Nat), i + d = n → K0 + d < k → ((∀ j, i ≤ j → j < n → ok j = false) → L k i = some (-1)) ∧ (∀ m, i ≤ m → m < n → ok m = true → (∀ j, i ≤ j → j < m → ok j = false) → L k i = some (m : Int)) := by
  intro d
  induction d with
  | zero =>
    intro k i h1 h2
    obtain ⟨k, rfl⟩ := succ_of (show 0 < k by omega)
    have : i = n := by omega
    subst this
    exact ⟨fun _ => he k (by omega), fun m a b _ _ => by omega⟩
  | succ d ih =>
    intro k i h1 h2
    obtain ⟨k, rfl⟩ := succ_of (show 0 < k by omega)
    have := ih k (i + 1) (by omega) (by omega)
    rw [hs k i (by omega) (by omega)]
    refine ⟨fun h => ?_, fun m a b c h => ?_⟩
    · rw [if_neg (by rw [h i (Nat.le_refl _) (by omega)]; simp)]; exact this.1 fun j a b => h j (by omega) b
    · by_cases e : ok i = true
      · rw [if_pos e]
        rcases Nat.lt_or_ge i m with h' | h'
        · have := h i (Nat.le_refl _) h'; rw [e] at this; cases this
        · have : m = i := by omega
          rw [this]
      · rw [if_neg e]
        refine this.2 m ?_ b c fun j a b => h j (by omega) b
        rcases Nat.lt_or_ge i m with h' | h'
        · exact h'
        · have : m = i := by omega
          subst this; exact absurd c e
theorem stepb {α γ : Type} {a : Option α} {x : α} {f : α → Option γ} {r : Option γ} (h : a = some x) (g : f x = r) : a.bind f = r := by rw [h]; exact g
theorem ifn {γ : Type} {c : Prop} {i : Decidable c} {t e r : γ} (h : ¬ c) (g : e = r) : @ite γ c i t e = r := by rw [if_neg h]; exact g
theorem condt {γ : Type} {a b r : γ} (g : b = r) : cond (!true) a b = r := g
def Yl {α : Type} (x : Option α) (P : α → Prop) : Prop := ∃ a, x = some a ∧ P a
theorem Yl.bind {α β : Type} {x : Option α} {f : α → Option β} {P : α → Prop} {Q : β → Prop} (h : Yl x P) (g : ∀ a, P a → Yl (f a) Q) : Yl (x.bind f) Q := by
  obtain ⟨a, rfl, ha⟩ := h; exact g a ha
theorem Yl.mono {α : Type} {x : Option α} {P Q : α → Prop} (h : Yl x P) (g : ∀ a, P a → Q a) : Yl x Q := by
  obtain ⟨a, e, ha⟩ := h; exact ⟨a, e, g a ha⟩
theorem Yl.ret {α : Type} {a : α} {P : α → Prop} (h : P a) : Yl (some a) P := ⟨a, rfl, h⟩
theorem Yl.ite {α : Type} {c : Prop} [i : Decidable c] {t e : Option α} {P : α → Prop} (ht : c → Yl t P) (he : ¬ c → Yl e P) : Yl (@ite _ c i t e) P := by
  by_cases h : c
  · rw [if_pos h]; exact ht h
  · rw [if_neg h]; exact he h
theorem Yl.cond {α : Type} {c : Bool} {t e : Option α} {P : α → Prop} (ht : c = true → Yl t P) (he : c = false → Yl e P) : Yl (cond c t e) P := by
  cases c
  · exact he rfl
  · exact ht rfl
def By (l : List Int) : Prop := ∀ y ∈ l, 0 ≤ y ∧ y ≤ 255
theorem By.of {l : List Int} (h : ∀ y ∈ l, (Lit.int .u8 y).wf = true) : By l := by
  intro y hy; have h := h y hy
  unfold Lit.wf at h; rw [Bool.and_eq_true] at h
  have h1 := of_decide_eq_true h.1; have h2 := of_decide_eq_true h.2
  exact ⟨h1, h2⟩
theorem byteBits (q : Int) : 0 ≤ band .u64 q 255 ∧ band .u64 q 255 ≤ 255 := by
  have h : (BitVec.ofInt 64 q &&& BitVec.ofInt 64 255).toNat ≤ 255 := by
    rw [BitVec.toNat_and]
    exact Nat.le_trans Nat.and_le_right (by decide)
  change 0 ≤ IntKind.wrap .u64 ((((BitVec.ofInt 64 q &&& BitVec.ofInt 64 255).toNat : Nat)) : Int) ∧ IntKind.wrap .u64 ((((BitVec.ofInt 64 q &&& BitVec.ofInt 64 255).toNat : Nat)) : Int) ≤ 255
  generalize (BitVec.ofInt 64 q &&& BitVec.ofInt 64 255).toNat = n at *
  unfold IntKind.wrap
  simp [IntKind.signed, IntKind.bits]
  omega
theorem next_ok (k : Nat) {l : List Int} {a : Int} (s : Int) (hb : By l) (h : 0 ≤ a ∧ a ≤ 1000000000000000) (hk : 5 ≤ k) : Yl (spec_l1Cur_next.f k l a s) fun r => r.2.1 = l ∧ r.2.2.1 = a + 1 ∧ 0 ≤ r.1 ∧ r.1 ≤ 255 := by
  obtain ⟨k, rfl⟩ := succ_of (show 0 < k by omega)
  have key : ∀ b : Int, 0 ≤ b ∧ b ≤ 255 → Yl (spec_l1Cur_next.l2 (k + 1) l a s b) fun r => r.2.1 = l ∧ r.2.2.1 = a + 1 ∧ 0 ≤ r.1 ∧ r.1 ≤ 255 := fun b hbb => by
    simp only [spec_l1Cur_next.l2, spec_l1Cur_next.b2]
    rw [w64_id (x := a + 1) (by omega)]
    refine Yl.ite (fun _ => Yl.ret ⟨rfl, rfl, hbb⟩) fun _ => ?_
    unfold shr; rw [if_neg (by omega)]; simp only [Option.bind_some]
    refine Yl.ret ⟨rfl, rfl, ?_⟩
    have := byteBits ((IntKind.u64.wrap (IntKind.u64.wrap (IntKind.u64.wrap (s * 6364136223846793005) + IntKind.u64.wrap b) + 102323)).fdiv (2 ^ min (Int.toNat 40) IntKind.u64.bits))
    rw [w64_id (by omega)]; exact this
  unfold spec_l1Cur_next.f spec_l1Cur_next.m
  refine Yl.ite (fun hlt => ?_) fun _ => key 0 (by omega)
  rw [chk_int (by omega)]; simp only [Option.bind_some]
  have hi : a.toNat < l.length := by omega
  have := hb _ (List.getElem_mem hi)
  rw [getD_lt hi, w64_id (by omega)]
  exact key _ this
theorem pick_ok (k : Nat) {l : List Int} {a : Int} (s n : Int) (hb : By l) (h : 0 ≤ a ∧ a ≤ 1000000000000) (hk : 5 ≤ k) : Yl (spec_l1Cur_pick.f k l a s n) fun r => r.2.1 = l ∧ a ≤ r.2.2.1 ∧ r.2.2.1 ≤ a + 2 ∧ 0 ≤ r.1 ∧ (r.1 = 0 ∨ r.1 < n) ∧ r.1 ≤ 65535 := by
  unfold spec_l1Cur_pick.f spec_l1Cur_pick.m
  refine Yl.ite (fun _ => Yl.ret ⟨rfl, by simp, by dsimp only; omega, by simp⟩) fun hn => ?_
  refine Yl.bind (next_ok k s hb (by omega) hk) ?_
  rintro ⟨b, l', a', s'⟩ ⟨e1, e2, e3, e4⟩
  dsimp only at *; subst e1; subst e2
  refine Yl.ite (fun hn2 => ?_) fun _ => ?_
  · refine Yl.bind (next_ok k s' hb (by omega) hk) ?_
    rintro ⟨c, l2, a2, s2⟩ ⟨f1, f2, f3, f4⟩
    dsimp only at *; subst f1; subst f2
    rw [w64_id (x := b * 256) (by omega), w64_id (by omega)]
    unfold rem; rw [if_neg (by omega)]; simp only [Option.bind_some]
    rw [Int.tmod_eq_emod_of_nonneg (by omega)]
    have := Int.emod_nonneg (b * 256 + c) (show n ≠ 0 by omega)
    have := Int.emod_lt_of_pos (b * 256 + c) (show 0 < n by omega)
    have : (b * 256 + c) % n ≤ b * 256 + c := by
      rcases Int.lt_or_le (b * 256 + c) n with h | h
      · rw [Int.emod_eq_of_lt (by omega) h]; omega
      · omega
    exact Yl.ret ⟨rfl, by dsimp only; omega, by dsimp only; omega, by omega, by omega, by dsimp only; omega⟩
  · unfold rem; rw [if_neg (by omega)]; simp only [Option.bind_some]
    rw [Int.tmod_eq_emod_of_nonneg (by omega)]
    have := Int.emod_nonneg b (show n ≠ 0 by omega)
    have := Int.emod_lt_of_pos b (show 0 < n by omega)
    exact Yl.ret ⟨rfl, by dsimp only; omega, by dsimp only; omega, by omega, by omega, by dsimp only; omega⟩
theorem one_ok (k : Nat) {l : List Int} {a : Int} (s n : Int) (hb : By l) (h : 0 ≤ a ∧ a ≤ 1000000000000) (hk : 5 ≤ k) : Yl (spec_l1Cur_one.f k l a s n) fun r => r.2.1 = l ∧ a ≤ r.2.2.1 ∧ r.2.2.1 ≤ a + 2 := by
  unfold spec_l1Cur_one.f spec_l1Cur_one.m
  refine Yl.bind (pick_ok k s n hb h hk) ?_
  rintro ⟨b, l', a', s'⟩ ⟨e1, e2, e3, e4⟩
  exact Yl.ret ⟨e1, e2, e3⟩
theorem among_ok (k : Nat) {l : List Int} {a : Int} (s : Int) {xs : List Int} (lo hi : Int) (hx : 0 < xs.length ∧ xs.length ≤ 60000) (hm : ∀ x ∈ xs, lo ≤ x ∧ x ≤ hi) (hb : By l) (h : 0 ≤ a ∧ a ≤ 1000000000000) (hk : 5 ≤ k) : Yl (spec_l1Cur_among_2.f k l a s xs) fun r => r.2.1 = l ∧ r.2.2.2.2 = xs ∧ a ≤ r.2.2.1 ∧ r.2.2.1 ≤ a + 2 ∧ lo ≤ r.1 ∧ r.1 ≤ hi := by
  unfold spec_l1Cur_among_2.f spec_l1Cur_among_2.m
  refine Yl.bind (pick_ok k s _ hb h hk) ?_
  rintro ⟨b, l', a', s'⟩ ⟨e1, e2, e3, e4, e5, e6⟩
  dsimp only at *
  rw [chk_int (by omega)]; simp only [Option.bind_some]
  have hi : b.toNat < xs.length := by omega
  have := hm _ (List.getElem_mem hi)
  rw [getD_lt hi]
  exact Yl.ret ⟨e1, rfl, e2, e3, this⟩
theorem among_any (k : Nat) {l : List Int} {a : Int} (s : Int) {xs : List Int} (hx : 0 < xs.length ∧ xs.length ≤ 60000) (hb : By l) (h : 0 ≤ a ∧ a ≤ 1000000000000) (hk : 5 ≤ k) : Yl (spec_l1Cur_among_2.f k l a s xs) fun r => r.2.1 = l ∧ r.2.2.2.2 = xs ∧ a ≤ r.2.2.1 ∧ r.2.2.1 ≤ a + 2 := by
  unfold spec_l1Cur_among_2.f spec_l1Cur_among_2.m
  refine Yl.bind (pick_ok k s _ hb h hk) ?_
  rintro ⟨b, l', a', s'⟩ ⟨e1, e2, e3, e4, e5, e6⟩
  dsimp only at *
  rw [chk_int (by omega)]; simp only [Option.bind_some]
  exact Yl.ret ⟨e1, rfl, e2, e3⟩
theorem quo2 {x : Int} {β : Type} {f : Int → Option β} {P : β → Prop} (h : ∀ q, Yl (f q) P) : Yl ((quo .i64 x 2).bind f) P := by
  unfold quo; rw [if_neg (by omega)]; exact h _
theorem most_ok (k : Nat) (a b : Int) : Yl (spec_l1Most.f k a b) fun r => a ≤ r ∧ b ≤ r ∧ (r = a ∨ r = b) := by
  unfold spec_l1Most.f spec_l1Most.m
  exact Yl.ite (fun h => Yl.ret ⟨by omega, by omega, by omega⟩) fun h => Yl.ret ⟨by omega, by omega, by omega⟩
def colorB (x : Int) : Bool := inB x 0 5
def goodB (w h : Int) (l : List Int) : Bool := inB w 1 8 && inB h 1 8 && decide ((l.length : Int) = w * h) && l.all colorB
theorem mul_bd {w h : Int} (hw : 1 ≤ w ∧ w ≤ 8) (hh : 1 ≤ h ∧ h ≤ 8) : 1 ≤ w * h ∧ w * h ≤ 64 := by
  obtain ⟨a, b⟩ := hw; obtain ⟨c, d⟩ := hh
  have h1 : w = 1 ∨ w = 2 ∨ w = 3 ∨ w = 4 ∨ w = 5 ∨ w = 6 ∨ w = 7 ∨ w = 8 := by omega
  rcases h1 with rfl | rfl | rfl | rfl | rfl | rfl | rfl | rfl <;> omega
theorem good_of {w h : Int} {l : List Int} (hg : goodB w h l = true) : (1 ≤ w ∧ w ≤ 8) ∧ (1 ≤ h ∧ h ≤ 8) ∧ (l.length : Int) = w * h ∧ ∀ x ∈ l, 0 ≤ x ∧ x ≤ 5 := by
  unfold goodB at hg
  simp only [Bool.and_eq_true, decide_eq_true_eq, List.all_eq_true, inB_iff] at hg
  exact ⟨hg.1.1.1, hg.1.1.2, hg.1.2, fun x hx => inB_iff.1 (hg.2 x hx)⟩
theorem allI_iff (p : Int → Bool) (xs : List Int) : xs.all p = true ↔ ∀ i, i < xs.length → p (xs.getD i 0) = true := by
  rw [List.all_eq_true]
  constructor
  · intro h i hi; rw [getD_lt hi]; exact h _ (List.getElem_mem hi)
  · intro h x hx
    obtain ⟨i, hi, rfl⟩ := List.mem_iff_getElem.1 hx
    rw [← getD_lt (d := 0) hi]; exact h i hi
theorem specIn_eq (k : Nat) (n lo hi : Int) : spec_l1In.f k n lo hi = some (inB n lo hi) := by
  unfold spec_l1In.f spec_l1In.m inB; by_cases h : lo ≤ n <;> simp [h]
theorem implIn_eq (k : Nat) (n lo hi : Int) : impl_in.f k n lo hi = some (inB n lo hi) := by
  unfold impl_in.f impl_in.m inB; by_cases h : lo ≤ n <;> simp [h]
theorem l2Color_eq (k : Nat) (n : Int) : spec_l2Color.f k n = some (colorB n) := by unfold spec_l2Color.f spec_l2Color.m; rw [specIn_eq]; rfl
theorem l2Side_eq (k : Nat) (n : Int) : spec_l2Side.f k n = some (inB n 1 8) := by unfold spec_l2Side.f spec_l2Side.m; rw [specIn_eq]; rfl
theorem isColor_eq (k : Nat) (n : Int) : impl_isColor.f k n = some (colorB n) := by unfold impl_isColor.f impl_isColor.m; rw [implIn_eq]; rfl
theorem isSide_eq (k : Nat) (n : Int) : impl_isSide.f k n = some (inB n 1 8) := by unfold impl_isSide.f impl_isSide.m; rw [implIn_eq]; rfl
theorem l2Good_eq (k : Nat) (w h : Int) (l : List Int) (hl : l.length ≤ 100000000000000) (hk : l.length + 50 ≤ k) : spec_l2Good.f k w h l = some (goodB w h l) := by
  unfold spec_l2Good.f spec_l2Good.m
  have hq := (all_loop (L := fun k i => spec_l2Good.l3 k w h l (i : Int)) (n := l.length) (K0 := 20) (ok := fun i => colorB (l.getD i 0)) (f := some false) (fun k i hk hi => ?_)) l.length k 0 (by omega) (by omega)
  · rw [show ((0 : Nat) : Int) = 0 from rfl] at hq
    by_cases hc : l.all colorB = true
    · rw [hq.1 _ (fun k hk => ?_) (fun j _ hj => (allI_iff _ _).1 hc j hj)]
      simp (disch := omega) only [spec_l2Good.l3, spec_l2Good.b3, if_neg, l2Side_eq, Option.bind_some]
      unfold goodB
      cases e1 : inB w 1 8 <;> simp only [Bool.not_true, Bool.not_false, cond_true, cond_false, Bool.true_and, Bool.false_and, Bool.and_true, Bool.and_false, Bool.false_eq_true, Bool.true_or, Bool.or_true, Bool.false_or, Bool.or_false, Bool.or_self, Bool.and_self, decide_true, decide_false, if_true, if_false, not_true, not_false_eq_true, not_true_eq_false, false_or, or_false, true_and, and_true, Bool.not_eq_true, Bool.true_eq_false, reduceCtorEq]
      cases e2 : inB h 1 8 <;> simp only [Bool.not_true, Bool.not_false, cond_true, cond_false, Bool.true_and, Bool.false_and, Bool.and_true, Bool.and_false, Bool.false_eq_true, Bool.true_or, Bool.or_true, Bool.false_or, Bool.or_false, Bool.or_self, Bool.and_self, decide_true, decide_false, if_true, if_false, not_true, not_false_eq_true, not_true_eq_false, false_or, or_false, true_and, and_true, Bool.not_eq_true, Bool.true_eq_false, reduceCtorEq, hc, Option.bind_some]
      have := mul_bd (inB_iff.1 e1) (inB_iff.1 e2)
      rw [w64_id (by omega)]
    · rw [hq.2 (exists_bad fun hn => hc ((allI_iff _ _).2 hn))]
      unfold goodB; rw [notB hc]; simp
  · simp (disch := omega) only [spec_l2Good.l3, spec_l2Good.b3, if_pos, chk_nat, Option.bind_some, w64_id, l2Color_eq, Int.natCast_add, Int.cast_ofNat_Int]
    cases colorB (l.getD i 0) <;> simp only [Bool.not_true, Bool.not_false, cond_true, cond_false, Bool.true_and, Bool.false_and, Bool.and_true, Bool.and_false, Bool.false_eq_true, Bool.true_or, Bool.or_true, Bool.false_or, Bool.or_false, Bool.or_self, Bool.and_self, decide_true, decide_false, if_true, if_false, not_true, not_false_eq_true, not_true_eq_false, false_or, or_false, true_and, and_true, Bool.not_eq_true, Bool.true_eq_false, reduceCtorEq]
theorem areColors_eq (k : Nat) (l : List Int) (hl : l.length ≤ 100000000000000) (hk : l.length + 50 ≤ k) : impl_areAll_int__impl_isColor.f k l = some (l.all colorB) := by
  unfold impl_areAll_int__impl_isColor.f impl_areAll_int__impl_isColor.m slices_ContainsFunc_int_int__impl_areAll_int_1__impl_isColor.f slices_ContainsFunc_int_int__impl_areAll_int_1__impl_isColor.m slices_IndexFunc_int_int__impl_areAll_int_1__impl_isColor.f slices_IndexFunc_int_int__impl_areAll_int_1__impl_isColor.m
  have h := (find_loop (L := fun k i => slices_IndexFunc_int_int__impl_areAll_int_1__impl_isColor.l3 k l l.length (i : Int)) (n := l.length) (K0 := 20) (ok := fun i => !colorB (l.getD i 0)) (fun k i hk hi => ?_) (fun k hk => ?_)) l.length k 0 (by omega) (by omega)
  · rw [show ((0 : Nat) : Int) = 0 from rfl] at h
    by_cases ha : l.all colorB = true
    · rw [h.1 (fun j _ hj => by rw [(allI_iff _ _).1 ha j hj]; rfl), ha]; rfl
    · obtain ⟨m, h1, h2, h3⟩ := first_bad (n := l.length) (ok := fun i => colorB (l.getD i 0)) (fun hn => ha ((allI_iff _ _).2 hn))
      rw [h.2 m (Nat.zero_le _) h1 (by rw [h2]; rfl) (fun j _ hj => by rw [h3 j hj]; rfl), notB ha]
      simp
  · simp (disch := omega) only [slices_IndexFunc_int_int__impl_areAll_int_1__impl_isColor.l3, slices_IndexFunc_int_int__impl_areAll_int_1__impl_isColor.b3, impl_areAll_int_1__impl_isColor.f, impl_areAll_int_1__impl_isColor.m, isColor_eq, if_pos, chk_nat, Option.bind_some, w64_id, Int.natCast_add, Int.cast_ofNat_Int]
    cases colorB (l.getD i 0) <;> simp only [Bool.not_true, Bool.not_false, cond_true, cond_false, Bool.true_and, Bool.false_and, Bool.and_true, Bool.and_false, Bool.false_eq_true, Bool.true_or, Bool.or_true, Bool.false_or, Bool.or_false, Bool.or_self, Bool.and_self, decide_true, decide_false, if_true, if_false, not_true, not_false_eq_true, not_true_eq_false, false_or, or_false, true_and, and_true, Bool.not_eq_true, Bool.true_eq_false, reduceCtorEq]
  · simp (disch := omega) only [slices_IndexFunc_int_int__impl_areAll_int_1__impl_isColor.l3, slices_IndexFunc_int_int__impl_areAll_int_1__impl_isColor.b3, if_neg]
theorem isChart_eq (k : Nat) (w h : Int) (l : List Int) (hl : l.length ≤ 100000000000000) (hk : l.length + 50 ≤ k) : impl_IsChart.f k w h l = some (goodB w h l) := by
  unfold impl_IsChart.f impl_IsChart.m goodB
  rw [isSide_eq, isSide_eq, areColors_eq k l hl hk]
  simp only [Option.bind_some]
  cases e1 : inB w 1 8 <;> simp only [Bool.not_true, Bool.not_false, cond_true, cond_false, Bool.true_and, Bool.false_and, Bool.and_true, Bool.and_false, Bool.false_eq_true, Bool.true_or, Bool.or_true, Bool.false_or, Bool.or_false, Bool.or_self, Bool.and_self, decide_true, decide_false, if_true, if_false, not_true, not_false_eq_true, not_true_eq_false, false_or, or_false, true_and, and_true, Bool.not_eq_true, Bool.true_eq_false, reduceCtorEq]
  cases e2 : inB h 1 8 <;> simp only [Bool.not_true, Bool.not_false, cond_true, cond_false, Bool.true_and, Bool.false_and, Bool.and_true, Bool.and_false, Bool.false_eq_true, Bool.true_or, Bool.or_true, Bool.false_or, Bool.or_false, Bool.or_self, Bool.and_self, decide_true, decide_false, if_true, if_false, not_true, not_false_eq_true, not_true_eq_false, false_or, or_false, true_and, and_true, Bool.not_eq_true, Bool.true_eq_false, reduceCtorEq]
  have := mul_bd (inB_iff.1 e1) (inB_iff.1 e2)
  rw [w64_id (by omega)]
  by_cases e : (l.length : Int) = w * h <;> simp [e]
theorem cloneI_eq (k : Nat) (cs : List Int) (hl : cs.length ≤ 5000000) : slices_Clone_int_int.f k cs = some cs := by unfold slices_Clone_int_int.f; rw [app_ok (by simp; omega)]; rfl
theorem ownI_eq (k : Nat) (cs : List Int) (hl : cs.length ≤ 5000000) : spec_l1Own.f k cs = some cs := by unfold spec_l1Own.f spec_l1Own.m; rw [app_ok (by simp; omega)]; rfl
theorem copied_eq (k : Nat) (w h : Int) (l : List Int) (hl : l.length ≤ 5000000) : impl_Chart_copied.f k w h l = some (w, h, l) := by unfold impl_Chart_copied.f impl_Chart_copied.m; rw [cloneI_eq k l hl]; rfl
theorem l2Own_eq (k : Nat) (w h : Int) (l : List Int) (hl : l.length ≤ 5000000) : spec_l2Own.f k w h l = some (w, h, l) := by unfold spec_l2Own.f spec_l2Own.m; rw [ownI_eq k l hl]; rfl
theorem plain_l (w h : Nat) (hw : w ≤ 16) (hh : h ≤ 16) : ∀ (d k i : Nat) (l : List Int) (a s : Int) (kn : List Int), i + d = w * h → kn.length = i → (∀ x ∈ kn, 0 ≤ x ∧ x ≤ 5) → By l → 0 ≤ a ∧ a + 4 * d ≤ 1000000000 → 20 + d ≤ k → Yl (spec_l1Cur_plain.l4 k l a s w h 0 0 [] w h kn (i : Int)) fun r => r.1 = (w : Int) ∧ r.2.1 = (h : Int) ∧ r.2.2.2.1 = l ∧ (∀ x ∈ r.2.2.1, 0 ≤ x ∧ x ≤ 5) ∧ (r.2.2.1.length = w * h ∧ a ≤ r.2.2.2.2.1 ∧ r.2.2.2.2.1 ≤ a + 4 * d) := by
  have hN : w * h ≤ 256 := Nat.le_trans (Nat.mul_le_mul hw hh) (by decide)
  have hc : ((w : Int) * (h : Int)) = ((w * h : Nat) : Int) := by rw [Int.natCast_mul]
  intro d
  induction d with
  | zero =>
    intro k i l a s kn h1 h2 hx hb h3 h4
    obtain ⟨k, rfl⟩ := succ_of (show 0 < k by omega)
    simp only [spec_l1Cur_plain.l4, spec_l1Cur_plain.b4]
    rw [hc, w64_id (by omega), if_neg (by omega)]
    exact Yl.ret ⟨rfl, rfl, rfl, hx, by dsimp only; omega⟩
  | succ d ih =>
    intro k i l a s kn h1 h2 hx hb h3 h4
    obtain ⟨k, rfl⟩ := succ_of (show 0 < k by omega)
    simp only [spec_l1Cur_plain.l4, spec_l1Cur_plain.b4]
    have hsnoc : ∀ x : Int, 0 ≤ x ∧ x ≤ 5 → ∀ y ∈ kn ++ [x], 0 ≤ y ∧ y ≤ 5 := fun x hx0 y hy => by
      rcases List.mem_append.1 hy with h | h
      · exact hx y h
      · rw [List.mem_singleton] at h; subst h; exact hx0
    rw [hc, w64_id (by omega), if_pos (by omega), w64_id (x := (i : Int) + 1) (by omega), show ((i : Int) + 1) = ((i + 1 : Nat) : Int) by omega]
    (refine Yl.bind (among_ok _ _ 0 5 (by simp) (by intro x hx; simp at hx; omega) (by assumption) (by omega) (by omega)) ?_; rintro ⟨vq, lq, aq, sq, xq⟩ ⟨eq1, eq2, eq3, eq4, eq5, eq6⟩; dsimp only at *; subst eq1; subst eq2)
    refine Yl.ite (fun hwi => ?_) fun _ => ?_
    · (refine Yl.bind (one_ok _ _ _ (by assumption) (by omega) (by omega)) ?_; rintro ⟨vq, lq, aq, sq⟩ ⟨eq1, eq2, eq3⟩; dsimp only at *; subst eq1)
      refine Yl.cond (fun _ => ?_) fun _ => ?_
      · have hw1 : 1 ≤ w := by
          rcases Nat.eq_zero_or_pos w with h | h
          · subst h; rw [Nat.zero_mul] at h1; omega
          · exact h
        rw [w64_id (by omega), chk_int (by omega)]; simp only [Option.bind_some]
        rw [app_ok (by simp; omega)]; simp only [Option.bind_some]
        refine (ih k (i + 1) _ _ _ _ (by omega) (by simp; omega) (hsnoc _ ?_) (by assumption) (by omega) (by omega)).mono fun r hr => ⟨hr.1, hr.2.1, hr.2.2.1, hr.2.2.2.1, by omega⟩
        rw [getD_lt (by omega)]; exact hx _ (List.getElem_mem _)
      · rw [app_ok (by simp; omega)]; simp only [Option.bind_some]
        exact (ih k (i + 1) _ _ _ _ (by omega) (by simp; omega) (hsnoc _ (by omega)) (by assumption) (by omega) (by omega)).mono fun r hr => ⟨hr.1, hr.2.1, hr.2.2.1, hr.2.2.2.1, by omega⟩
    · rw [app_ok (by simp; omega)]; simp only [Option.bind_some]
      exact (ih k (i + 1) _ _ _ _ (by omega) (by simp; omega) (hsnoc _ (by omega)) (by assumption) (by omega) (by omega)).mono fun r hr => ⟨hr.1, hr.2.1, hr.2.2.1, hr.2.2.2.1, by omega⟩
theorem plain_ok (k : Nat) {l : List Int} {a : Int} (s : Int) {w h : Int} (hw : 0 ≤ w ∧ w ≤ 16) (hh : 0 ≤ h ∧ h ≤ 16) (hb : By l) (ha : 0 ≤ a ∧ a ≤ 100000000) (hk : 1000 ≤ k) : Yl (spec_l1Cur_plain.f k l a s w h) fun r => r.1 = w ∧ r.2.1 = h ∧ r.2.2.2.1 = l ∧ (∀ x ∈ r.2.2.1, 0 ≤ x ∧ x ≤ 5) ∧ (r.2.2.1.length : Int) = w * h ∧ (r.2.2.1.length ≤ 256 ∧ a ≤ r.2.2.2.2.1 ∧ r.2.2.2.2.1 ≤ a + 1100) := by
  obtain ⟨w, rfl⟩ := Int.eq_ofNat_of_zero_le hw.1
  obtain ⟨h, rfl⟩ := Int.eq_ofNat_of_zero_le hh.1
  have hN : w * h ≤ 256 := Nat.le_trans (Nat.mul_le_mul (show w ≤ 16 by omega) (show h ≤ 16 by omega)) (by decide)
  unfold spec_l1Cur_plain.f spec_l1Cur_plain.m
  refine (plain_l w h (by omega) (by omega) (w * h) k 0 l a s [] (by omega) rfl (by simp) hb (by omega) (by omega)).mono fun r hr => ⟨hr.1, hr.2.1, hr.2.2.1, hr.2.2.2.1, ?_, by omega⟩
  have := hr.2.2.2.2.1
  rw [this, Int.natCast_mul]
theorem good_plain {w h : Int} {kn : List Int} (hw : 1 ≤ w ∧ w ≤ 8) (hh : 1 ≤ h ∧ h ≤ 8) (hx : ∀ x ∈ kn, 0 ≤ x ∧ x ≤ 5) (hl : (kn.length : Int) = w * h) : goodB w h kn = true := by
  unfold goodB
  simp only [Bool.and_eq_true, decide_eq_true_eq, List.all_eq_true, inB_iff]
  exact ⟨⟨⟨hw, hh⟩, hl⟩, fun x h => inB_of (hx x h)⟩
theorem chart_ok (k : Nat) {l : List Int} {a : Int} (s : Int) (hb : By l) (ha : 0 ≤ a ∧ a ≤ 1000000) (hk : 2000 ≤ k) : Yl (spec_l1Cur_chart.f k l a s) fun r => r.2.2.2.1 = l ∧ (r.2.2.1.length ≤ 300 ∧ -1 ≤ r.1 ∧ r.1 ≤ 9 ∧ -1 ≤ r.2.1 ∧ r.2.1 ≤ 9 ∧ a ≤ r.2.2.2.2.1 ∧ r.2.2.2.2.1 ≤ a + 3000) := by
  unfold spec_l1Cur_chart.f spec_l1Cur_chart.m
  refine Yl.bind (among_ok _ _ 1 8 (by simp) (by intro x hx; simp at hx; omega) hb (by omega) (by omega)) ?_
  rintro ⟨w, l', a', s', x'⟩ ⟨e1, e2, e3, e4, e5, e6⟩
  dsimp only at *; subst e1
  refine Yl.bind (among_ok _ _ 1 8 (by simp) (by intro x hx; simp at hx; omega) hb (by omega) (by omega)) ?_
  rintro ⟨h, l', a2, s2, x2⟩ ⟨e1, f2, f3, f4, f5, f6⟩
  dsimp only at *; subst e1
  refine Yl.bind (plain_ok k s2 (w := w) (h := h) (by omega) (by omega) hb (by omega) (by omega)) ?_
  rintro ⟨w', h', kn, l', a3, s3⟩ ⟨g1, g2, e1, g3, g4, g5⟩
  dsimp only at *; subst e1; subst g1; subst g2
  have hm := mul_bd (w := w') (h := h') (by omega) (by omega)
  refine Yl.bind (pick_ok _ _ _ hb (by omega) (by omega)) ?_
  rintro ⟨n, l', a4, s4⟩ ⟨e1, i2, i3, i4, i5, i6⟩
  dsimp only at *; subst e1
  refine Yl.ite (fun _ => ?_) fun _ => ?_
  · refine Yl.bind (pick_ok _ _ _ hb (by omega) (by omega)) ?_
    rintro ⟨m, l', a5, s5⟩ ⟨e1, j2, j3, j4, j5, j6⟩
    dsimp only at *; subst e1
    (refine Yl.bind (among_any _ _ (by simp) (by assumption) (by omega) (by omega)) ?_; rintro ⟨vq, lq, aq, sq, xq⟩ ⟨eq1, eq2, eq3, eq4⟩; dsimp only at *; subst eq1; subst eq2)
    rw [chk_int (by omega)]; simp only [Option.bind_some]
    exact Yl.ret ⟨rfl, by dsimp only; rw [List.length_set]; omega⟩
  refine Yl.ite (fun _ => ?_) fun _ => ?_
  · rw [app_ok (by simp; omega)]; simp only [Option.bind_some]
    exact Yl.ret ⟨rfl, by dsimp only; rw [List.length_append, List.length_singleton]; omega⟩
  refine Yl.ite (fun _ => ?_) fun _ => ?_
  · refine Yl.bind (among_ok _ _ 0 9 (by simp) (by intro x hx; simp at hx; omega) hb (by omega) (by omega)) ?_
    rintro ⟨w2, l', a6, s6, x6⟩ ⟨e1, n2, n3, n4, n5, n6⟩
    dsimp only at *; subst e1
    refine Yl.bind (plain_ok k s6 (w := w2) (h := 1) (by omega) (by omega) hb (by omega) (by omega)) ?_
    rintro ⟨w', h', kn, l', a3, s3⟩ ⟨p1, p2, e1, p3, p4, p5⟩
    dsimp only at *; subst e1; subst p1; subst p2
    exact Yl.ret ⟨rfl, by dsimp only; omega⟩
  exact Yl.ret ⟨rfl, by dsimp only; omega⟩
def splice (l : List Int) (b : Nat) (ys : List Int) : List Int := l.take b ++ (ys ++ l.drop (b + ys.length))
theorem splice_len {l : List Int} {b : Nat} {ys : List Int} (h : b + ys.length ≤ l.length) : (splice l b ys).length = l.length := by unfold splice; simp; omega
theorem splice_nil (l : List Int) (b : Nat) : splice l b [] = l := by unfold splice; simp
theorem splice_set {l : List Int} {b j : Nat} {ys : List Int} (hj : j < ys.length) (h : b + ys.length ≤ l.length) : (splice l b (ys.take j)).set (b + j) ys[j] = splice l b (ys.take (j + 1)) := by
  unfold splice
  have hl : (ys.take j).length = j := by rw [List.length_take]; omega
  have hl1 : (ys.take (j + 1)).length = j + 1 := by rw [List.length_take]; omega
  rw [hl, hl1, List.drop_eq_getElem_cons (show b + j < l.length by omega), ← List.append_assoc]
  have hb : b + j = (l.take b ++ ys.take j).length := by rw [List.length_append, hl, List.length_take]; omega
  have hs := set_mid (l.take b ++ ys.take j) (l[b + j]'(by omega)) ys[j] (l.drop (b + j + 1))
  rw [← hb] at hs
  rw [hs, List.take_succ_eq_append_getElem hj]
  simp only [List.append_assoc, List.cons_append, List.nil_append, Nat.add_assoc]
theorem lay_splice {l : List Int} {b : Nat} {ys : List Int} (h : b + ys.length ≤ l.length) : lay l b (l.length - b) ys = splice l b ys := by
  unfold lay splice
  rw [List.take_of_length_le (l := ys) (by omega), Nat.min_eq_left (by omega)]
/-- A chart after so many rows of a part. -/
def putR (w R C W : Nat) (p : List Int) : Nat → Nat → List Int → List Int
  | 0, _, l => l
  | d + 1, r, l => putR w R C W p d (r + 1) (splice l ((R + r) * w + C) ((p.drop (r * W)).take W))
theorem putR_len (w h R C W H : Nat) (p : List Int) (hp : p.length = W * H) (hC : C + W ≤ w) : ∀ (d r : Nat) (l : List Int), r + d = H → R + H ≤ h → l.length = w * h → (putR w R C W p d r l).length = w * h := by
  intro d
  induction d with
  | zero => intro r l _ _ h; exact h
  | succ d ih =>
    intro r l h1 h2 h3
    unfold putR
    refine ih (r + 1) _ (by omega) h2 ?_
    rw [splice_len ?_, h3]
    have : (R + r) * w + w ≤ h * w := by rw [← Nat.succ_mul]; exact Nat.mul_le_mul_right _ (by omega)
    have h4 : ((p.drop (r * W)).take W).length ≤ W := by rw [List.length_take]; omega
    rw [h3, Nat.mul_comm w h]; omega
theorem row_len {p : List Int} {W H r : Nat} (hp : p.length = W * H) (hr : r < H) : ((p.drop (r * W)).take W).length = W := by
  have : r * W + W ≤ H * W := by rw [← Nat.succ_mul]; exact Nat.mul_le_mul_right _ hr
  rw [List.length_take, List.length_drop, hp, Nat.mul_comm W H]; omega
theorem nat_mul_cast (a b : Nat) : ((a * b : Nat) : Int) = (a : Int) * b := Int.natCast_mul a b
theorem implPut_l {w h R C W H : Nat} {l0 p : List Int} (hw : w ≤ 8) (hh : h ≤ 8) (hp : p.length = W * H) (hC : C + W ≤ w) (hR : R + H ≤ h) (hW : 1 ≤ W) : ∀ (d k r : Nat) (l : List Int), r + d = H → d < k → l.length = w * h → impl_Chart_put.l4 k (R : Int) (C : Int) (w : Int) (h : Int) l0 (W : Int) (H : Int) p 0 0 [] (w : Int) (h : Int) l (H : Int) (r : Int) = some ((w : Int), (h : Int), putR w R C W p d r l) := by
  intro d
  induction d with
  | zero =>
    intro k r l h1 h2 h3
    obtain ⟨k, rfl⟩ := succ_of h2
    simp (disch := omega) only [impl_Chart_put.l4, impl_Chart_put.b4, if_neg, putR]
  | succ d ih =>
    intro k r l h1 h2 h3
    obtain ⟨k, rfl⟩ := succ_of (show 0 < k by omega)
    have hrow := row_len hp (show r < H by omega)
    have b1 : (R + r) * w + w ≤ h * w := by rw [← Nat.succ_mul]; exact Nat.mul_le_mul_right _ (by omega)
    have b2 : h * w ≤ 64 := Nat.le_trans (Nat.mul_le_mul hh hw) (by omega)
    have b3 : r * W + W ≤ H * W := by rw [← Nat.succ_mul]; exact Nat.mul_le_mul_right _ (by omega)
    have b4 : H * W ≤ 64 := Nat.le_trans (Nat.mul_le_mul (show H ≤ 8 by omega) (show W ≤ 8 by omega)) (by omega)
    have e1 : ((R : Int) + (r : Int)) * (w : Int) = (((R + r) * w : Nat) : Int) := by rw [nat_mul_cast, Int.natCast_add]
    have e2 : (r : Int) * (W : Int) = ((r * W : Nat) : Int) := (nat_mul_cast _ _).symm
    have e3 : ((r : Int) + 1) * (W : Int) = ((r * W + W : Nat) : Int) := by rw [← Nat.succ_mul, nat_mul_cast]; rfl
    have hlen : l.length = h * w := by rw [h3, Nat.mul_comm]
    have hplen : p.length = H * W := by rw [hp, Nat.mul_comm]
    have h4 := ih k (r + 1) (splice l ((R + r) * w + C) ((p.drop (r * W)).take W)) (by omega) (by omega) (by rw [splice_len (by rw [hrow]; omega)]; exact h3)
    rw [show ((r + 1 : Nat) : Int) = (r : Int) + 1 by omega] at h4
    unfold putR
    generalize (R + r) * w = bb at *
    generalize r * W = cc at *
    simp (disch := omega) only [impl_Chart_put.l4, impl_Chart_put.b4, if_pos, w64_id, e1, e2, e3, cut_int, Option.bind_some]
    rw [show (((bb : Int) + (C : Int)).toNat) = bb + C by omega, Int.toNat_natCast, Int.toNat_natCast, Int.toNat_natCast, show cc + W - cc = W by omega, lay_splice (by rw [hrow]; omega)]
    exact h4
theorem specAt_eq (k : Nat) (w h : Int) (l : List Int) (r c : Int) (n : Nat) (hn : r * w + c = n) (hl : n < l.length) (hb : 0 ≤ r * w ∧ r * w ≤ 1000 ∧ 0 ≤ c ∧ c ≤ 1000) : spec_l2At.f k w h l r c = some (l.getD n 0) := by
  unfold spec_l2At.f spec_l2At.m
  generalize r * w = q at *
  simp (disch := omega) only [w64_id, hn, chk_nat, Option.bind_some]
theorem specPut_l9 {w h R C W H : Nat} {l0 p : List Int} (hw : w ≤ 8) (hh : h ≤ 8) (hp : p.length = W * H) (hC : C + W ≤ w) (hR : R + H ≤ h) (r : Nat) (hr : r < H) (l : List Int) (h3 : l.length = w * h) : ∀ (d k j : Nat), j + d = W → d + 2 < k → spec_l2Put.l9 k (R : Int) (C : Int) (w : Int) (h : Int) l0 (W : Int) (H : Int) p 0 0 [] (w : Int) (h : Int) (splice l ((R + r) * w + C) (((p.drop (r * W)).take W).take j)) (r : Int) (j : Int) = spec_l2Put.l4 (k - d - 1) (R : Int) (C : Int) (w : Int) (h : Int) l0 (W : Int) (H : Int) p 0 0 [] (w : Int) (h : Int) (splice l ((R + r) * w + C) ((p.drop (r * W)).take W)) ((r + 1 : Nat) : Int) := by
  have hrow := row_len hp hr
  have b1 : (R + r) * w + w ≤ h * w := by rw [← Nat.succ_mul]; exact Nat.mul_le_mul_right _ (by omega)
  have b2 : h * w ≤ 64 := Nat.le_trans (Nat.mul_le_mul hh hw) (by omega)
  have b3 : r * W + W ≤ H * W := by rw [← Nat.succ_mul]; exact Nat.mul_le_mul_right _ (by omega)
  have b4 : H * W ≤ 64 := Nat.le_trans (Nat.mul_le_mul (show H ≤ 8 by omega) (show W ≤ 8 by omega)) (by omega)
  have e1 : ((R : Int) + (r : Int)) * (w : Int) = (((R + r) * w : Nat) : Int) := by rw [nat_mul_cast, Int.natCast_add]
  have hlen : l.length = h * w := by rw [h3, Nat.mul_comm]
  have hplen : p.length = H * W := by rw [hp, Nat.mul_comm]
  intro d
  induction d with
  | zero =>
    intro k j h1 h2
    obtain ⟨k, rfl⟩ := succ_of (show 0 < k by omega)
    simp (disch := omega) only [spec_l2Put.l9, spec_l2Put.b9, if_neg, w64_id]
    rw [List.take_of_length_le (l := (p.drop (r * W)).take W) (by omega), show ((r + 1 : Nat) : Int) = (r : Int) + 1 by omega]; rfl
  | succ d ih =>
    intro k j h1 h2
    obtain ⟨k, rfl⟩ := succ_of (show 0 < k by omega)
    have h4 := ih k (j + 1) (by omega) (by omega)
    have hat := specAt_eq k (W : Int) (H : Int) p (r : Int) (j : Int) (r * W + j) (by rw [← nat_mul_cast]; omega) (by omega) (by rw [← nat_mul_cast]; omega)
    have hg : p.getD (r * W + j) 0 = ((p.drop (r * W)).take W)[j]'(by omega) := by
      rw [getD_lt (by omega), List.getElem_take, List.getElem_drop]
    have hset := splice_set (l := l) (b := (R + r) * w + C) (ys := (p.drop (r * W)).take W) (j := j) (by omega) (by rw [hrow]; omega)
    have hsl : (splice l ((R + r) * w + C) (((p.drop (r * W)).take W).take j)).length = l.length := splice_len (by rw [List.length_take, hrow]; omega)
    rw [show k + 1 - (d + 1) - 1 = k - d - 1 by omega, ← h4, ← hset, show ((j + 1 : Nat) : Int) = (j : Int) + 1 by omega]
    simp only [spec_l2Put.l9, spec_l2Put.b9]
    rw [if_pos (by omega), hat]
    simp (disch := omega) only [Option.bind_some, w64_id, e1, hg]
    generalize (R + r) * w = bb at *
    rw [show ((bb : Int) + (C : Int) + (j : Int)) = ((bb + C + j : Nat) : Int) by omega, chk_nat (by omega)]
    rfl
theorem specPut_l {w h R C W H : Nat} {l0 p : List Int} (hw : w ≤ 8) (hh : h ≤ 8) (hp : p.length = W * H) (hC : C + W ≤ w) (hR : R + H ≤ h) (hW : 1 ≤ W) : ∀ (d k r : Nat) (l : List Int), r + d = H → d * (W + 2) + 5 < k → l.length = w * h → spec_l2Put.l4 k (R : Int) (C : Int) (w : Int) (h : Int) l0 (W : Int) (H : Int) p 0 0 [] (w : Int) (h : Int) l (r : Int) = some ((w : Int), (h : Int), putR w R C W p d r l) := by
  intro d
  induction d with
  | zero =>
    intro k r l h1 h2 h3
    obtain ⟨k, rfl⟩ := succ_of (show 0 < k by omega)
    simp (disch := omega) only [spec_l2Put.l4, spec_l2Put.b4, if_neg, putR]
  | succ d ih =>
    intro k r l h1 h2 h3
    obtain ⟨k, rfl⟩ := succ_of (show 0 < k by omega)
    have hrow := row_len hp (show r < H by omega)
    have b1 : (R + r) * w + w ≤ h * w := by rw [← Nat.succ_mul]; exact Nat.mul_le_mul_right _ (by omega)
    have hlen : l.length = h * w := by rw [h3, Nat.mul_comm]
    rw [Nat.succ_mul] at h2
    have h5 := specPut_l9 (l0 := l0) hw hh hp hC hR r (by omega) l h3 W k 0 (by omega) (by omega)
    rw [List.take_zero, splice_nil, show ((0 : Nat) : Int) = 0 from rfl] at h5
    simp (disch := omega) only [spec_l2Put.l4, spec_l2Put.b4, if_pos]
    rw [h5]
    exact ih _ (r + 1) _ (by omega) (by omega) (by rw [splice_len (by rw [hrow]; omega)]; exact h3)
def fitsB (w h : Int) (R C H W : Int) : Bool := inB R 0 (h - 1) && inB C 0 (w - 1) && inB H 1 (h - R) && inB W 1 (w - C)
def putOut (w h : Int) (l : List Int) (W H : Int) (p : List Int) (R C : Int) : Int × Int × List Int × Bool :=
  if goodB w h l = true ∧ goodB W H p = true ∧ fitsB w h R C H W = true then (w, h, putR w.toNat R.toNat C.toNat W.toNat p H.toNat 0 l, true) else (0, 0, [], false)
theorem fits_of {w h R C H W : Int} (hf : fitsB w h R C H W = true) : (0 ≤ R ∧ 0 ≤ C) ∧ (1 ≤ H ∧ R + H ≤ h) ∧ (1 ≤ W ∧ C + W ≤ w) := by
  unfold fitsB at hf
  simp only [Bool.and_eq_true, inB_iff] at hf
  omega
theorem lenN {w h : Nat} {l : List Int} (hl : (l.length : Int) = (w : Int) * (h : Int)) : l.length = w * h := by rw [← nat_mul_cast] at hl; omega
theorem put_both (w h : Int) (l : List Int) (W H : Int) (p : List Int) (R C : Int) (h1 : goodB w h l = true) (h2 : goodB W H p = true) (h3 : fitsB w h R C H W = true) (k : Nat) (hk : 200 ≤ k) : spec_l2Put.f k w h l W H p R C = some (w, h, putR w.toNat R.toNat C.toNat W.toNat p H.toNat 0 l) ∧ impl_Chart_put.f k w h l W H p R C = some (w, h, putR w.toNat R.toNat C.toNat W.toNat p H.toNat 0 l) := by
  obtain ⟨hw, hh, hl, _⟩ := good_of h1
  obtain ⟨hW, hH, hp, _⟩ := good_of h2
  obtain ⟨⟨f1, f2⟩, ⟨f3, f4⟩, f5, f6⟩ := fits_of h3
  have := mul_bd hw hh
  obtain ⟨w, rfl⟩ := Int.eq_ofNat_of_zero_le (show 0 ≤ w by omega)
  obtain ⟨h, rfl⟩ := Int.eq_ofNat_of_zero_le (show 0 ≤ h by omega)
  obtain ⟨W, rfl⟩ := Int.eq_ofNat_of_zero_le (show 0 ≤ W by omega)
  obtain ⟨H, rfl⟩ := Int.eq_ofNat_of_zero_le (show 0 ≤ H by omega)
  obtain ⟨R, rfl⟩ := Int.eq_ofNat_of_zero_le f1
  obtain ⟨C, rfl⟩ := Int.eq_ofNat_of_zero_le f2
  simp only [Int.toNat_natCast]
  have hl' := lenN hl
  have hp' := lenN hp
  have hHW : H * (W + 2) ≤ 80 := Nat.le_trans (Nat.mul_le_mul (show H ≤ 8 by omega) (show W + 2 ≤ 10 by omega)) (by omega)
  constructor
  · unfold spec_l2Put.f spec_l2Put.m
    rw [l2Own_eq k _ _ l (by omega)]; simp only [Option.bind_some]
    exact specPut_l (by omega) (by omega) hp' (by omega) (by omega) (by omega) H k 0 l (by omega) (by omega) hl'
  · unfold impl_Chart_put.f impl_Chart_put.m
    rw [copied_eq k _ _ l (by omega)]; simp only [Option.bind_some]
    exact implPut_l (by omega) (by omega) hp' (by omega) (by omega) (by omega) H k 0 l (by omega) (by omega) hl'
theorem specFits_eq (k : Nat) (w h : Int) (l : List Int) (R C H W : Int) (hl : l.length ≤ 100000000000000) (hk : l.length + 50 ≤ k) : spec_l2Fits.f k w h l R C H W = some (goodB w h l && fitsB w h R C H W) := by
  unfold spec_l2Fits.f spec_l2Fits.m spec_l2Within.f spec_l2Within.m
  rw [l2Good_eq k w h l hl hk]; simp only [Option.bind_some, specIn_eq]
  cases hg : goodB w h l <;> simp only [Bool.not_true, Bool.not_false, cond_true, cond_false, Bool.true_and, Bool.false_and, Bool.and_true, Bool.and_false, Bool.false_eq_true, Bool.true_or, Bool.or_true, Bool.false_or, Bool.or_false, Bool.or_self, Bool.and_self, decide_true, decide_false, if_true, if_false, not_true, not_false_eq_true, not_true_eq_false, false_or, or_false, true_and, and_true, Bool.not_eq_true, Bool.true_eq_false, reduceCtorEq, Option.bind_some]
  obtain ⟨hw, hh, _⟩ := good_of hg
  unfold fitsB
  rw [w64_id (x := h - 1) (by omega), w64_id (x := w - 1) (by omega)]
  cases e1 : inB R 0 (h - 1) <;> simp only [Bool.not_true, Bool.not_false, cond_true, cond_false, Bool.true_and, Bool.false_and, Bool.and_true, Bool.and_false, Bool.false_eq_true, Bool.true_or, Bool.or_true, Bool.false_or, Bool.or_false, Bool.or_self, Bool.and_self, decide_true, decide_false, if_true, if_false, not_true, not_false_eq_true, not_true_eq_false, false_or, or_false, true_and, and_true, Bool.not_eq_true, Bool.true_eq_false, reduceCtorEq, Option.bind_some]
  cases e2 : inB C 0 (w - 1) <;> simp only [Bool.not_true, Bool.not_false, cond_true, cond_false, Bool.true_and, Bool.false_and, Bool.and_true, Bool.and_false, Bool.false_eq_true, Bool.true_or, Bool.or_true, Bool.false_or, Bool.or_false, Bool.or_self, Bool.and_self, decide_true, decide_false, if_true, if_false, not_true, not_false_eq_true, not_true_eq_false, false_or, or_false, true_and, and_true, Bool.not_eq_true, Bool.true_eq_false, reduceCtorEq, Option.bind_some]
  rw [inB_iff] at e1 e2
  rw [w64_id (x := h - R) (by omega), w64_id (x := w - C) (by omega)]
  cases e3 : inB H 1 (h - R) <;> simp only [Bool.not_true, Bool.not_false, cond_true, cond_false, Bool.true_and, Bool.false_and, Bool.and_true, Bool.and_false, Bool.false_eq_true, Bool.true_or, Bool.or_true, Bool.false_or, Bool.or_false, Bool.or_self, Bool.and_self, decide_true, decide_false, if_true, if_false, not_true, not_false_eq_true, not_true_eq_false, false_or, or_false, true_and, and_true, Bool.not_eq_true, Bool.true_eq_false, reduceCtorEq, Option.bind_some]
theorem hasPart_eq (k : Nat) (w h : Int) (l : List Int) (R C H W : Int) (hg : goodB w h l = true) : impl_Chart_hasPart.f k w h l R C H W = some (fitsB w h R C H W) := by
  obtain ⟨hw, hh, _⟩ := good_of hg
  unfold impl_Chart_hasPart.f impl_Chart_hasPart.m impl_Chart_hasPlace.f impl_Chart_hasPlace.m fitsB
  simp only [Option.bind_some, implIn_eq]
  rw [w64_id (x := h - 1) (by omega), w64_id (x := w - 1) (by omega)]
  cases e1 : inB R 0 (h - 1) <;> simp only [Bool.not_true, Bool.not_false, cond_true, cond_false, Bool.true_and, Bool.false_and, Bool.and_true, Bool.and_false, Bool.false_eq_true, Bool.true_or, Bool.or_true, Bool.false_or, Bool.or_false, Bool.or_self, Bool.and_self, decide_true, decide_false, if_true, if_false, not_true, not_false_eq_true, not_true_eq_false, false_or, or_false, true_and, and_true, Bool.not_eq_true, Bool.true_eq_false, reduceCtorEq, Option.bind_some]
  cases e2 : inB C 0 (w - 1) <;> simp only [Bool.not_true, Bool.not_false, cond_true, cond_false, Bool.true_and, Bool.false_and, Bool.and_true, Bool.and_false, Bool.false_eq_true, Bool.true_or, Bool.or_true, Bool.false_or, Bool.or_false, Bool.or_self, Bool.and_self, decide_true, decide_false, if_true, if_false, not_true, not_false_eq_true, not_true_eq_false, false_or, or_false, true_and, and_true, Bool.not_eq_true, Bool.true_eq_false, reduceCtorEq, Option.bind_some]
  rw [inB_iff] at e1 e2
  rw [w64_id (x := h - R) (by omega), w64_id (x := w - C) (by omega)]
  cases e3 : inB H 1 (h - R) <;> simp only [Bool.not_true, Bool.not_false, cond_true, cond_false, Bool.true_and, Bool.false_and, Bool.and_true, Bool.and_false, Bool.false_eq_true, Bool.true_or, Bool.or_true, Bool.false_or, Bool.or_false, Bool.or_self, Bool.and_self, decide_true, decide_false, if_true, if_false, not_true, not_false_eq_true, not_true_eq_false, false_or, or_false, true_and, and_true, Bool.not_eq_true, Bool.true_eq_false, reduceCtorEq, Option.bind_some]
theorem putOut_len (w h : Int) (l : List Int) (W H : Int) (p : List Int) (R C : Int) : (putOut w h l W H p R C).2.2.1.length ≤ 64 := by
  unfold putOut
  split
  · rename_i hc
    obtain ⟨h1, h2, h3⟩ := hc
    obtain ⟨hw, hh, hl, _⟩ := good_of h1
    obtain ⟨hW, hH, hp, _⟩ := good_of h2
    obtain ⟨⟨f1, f2⟩, ⟨f3, f4⟩, f5, f6⟩ := fits_of h3
    have := mul_bd hw hh
    obtain ⟨w, rfl⟩ := Int.eq_ofNat_of_zero_le (show 0 ≤ w by omega)
    obtain ⟨h, rfl⟩ := Int.eq_ofNat_of_zero_le (show 0 ≤ h by omega)
    obtain ⟨W, rfl⟩ := Int.eq_ofNat_of_zero_le (show 0 ≤ W by omega)
    obtain ⟨H, rfl⟩ := Int.eq_ofNat_of_zero_le (show 0 ≤ H by omega)
    have hl' := lenN hl
    have hp' := lenN hp
    simp only [Int.toNat_natCast]
    rw [putR_len w h R.toNat C.toNat W H p hp' (by omega) H 0 l (by omega) (by omega) hl']
    rw [← nat_mul_cast] at this; omega
  · simp
theorem vInts_self (k : Nat) (c : List Int) (hl : c.length ≤ 1000) (hk : 1100 ≤ k) : laws_vInts.f k c c = some true := by
  unfold laws_vInts.f laws_vInts.m
  have h := (all_loop (L := fun k i => laws_vInts.l6 k c c (i : Int)) (n := c.length) (K0 := 20) (ok := fun _ => true) (f := some false) (fun k i hk hi => ?_)) c.length k 0 (by omega) (by omega)
  · rw [show ((0 : Nat) : Int) = 0 from rfl] at h
    simp only [Bool.not_true, Bool.not_false, cond_true, cond_false, Bool.true_and, Bool.false_and, Bool.and_true, Bool.and_false, Bool.false_eq_true, Bool.true_or, Bool.or_true, Bool.false_or, Bool.or_false, Bool.or_self, Bool.and_self, decide_true, decide_false, if_true, if_false, not_true, not_false_eq_true, not_true_eq_false, false_or, or_false, true_and, and_true, Bool.not_eq_true, Bool.true_eq_false, reduceCtorEq]
    exact h.1 (some true) (fun k hk => by simp (disch := omega) only [laws_vInts.l6, laws_vInts.b6, if_neg]) (fun _ _ _ => rfl)
  · simp (disch := omega) only [laws_vInts.l6, laws_vInts.b6, if_pos, chk_nat, Option.bind_some, w64_id, Bool.not_true, Bool.not_false, cond_true, cond_false, Bool.true_and, Bool.false_and, Bool.and_true, Bool.and_false, Bool.false_eq_true, Bool.true_or, Bool.or_true, Bool.false_or, Bool.or_false, Bool.or_self, Bool.and_self, decide_true, decide_false, if_true, if_false, not_true, not_false_eq_true, not_true_eq_false, false_or, or_false, true_and, and_true, Bool.not_eq_true, Bool.true_eq_false, reduceCtorEq, Int.natCast_add, Int.cast_ofNat_Int]
def partR (w R C W : Nat) (l : List Int) : Nat → Nat → List Int
  | 0, _ => []
  | d + 1, r => (l.drop ((R + r) * w + C)).take W ++ partR w R C W l d (r + 1)
theorem rowL {w h R C W H r : Nat} {l : List Int} (hl : l.length = w * h) (hC : C + W ≤ w) (hR : R + H ≤ h) (hr : r < H) : (R + r) * w + C + W ≤ l.length ∧ ((l.drop ((R + r) * w + C)).take W).length = W := by
  have b1 : (R + r) * w + w ≤ h * w := by rw [← Nat.succ_mul]; exact Nat.mul_le_mul_right _ (by omega)
  rw [Nat.mul_comm h w] at b1
  refine ⟨by omega, ?_⟩
  rw [List.length_take, List.length_drop]; omega
theorem partR_len {w h R C W H : Nat} {l : List Int} (hl : l.length = w * h) (hC : C + W ≤ w) (hR : R + H ≤ h) : ∀ (d r : Nat), r + d ≤ H → (partR w R C W l d r).length = d * W := by
  intro d
  induction d with
  | zero => intro r _; simp [partR]
  | succ d ih =>
    intro r h1
    unfold partR
    rw [List.length_append, (rowL hl hC hR (show r < H by omega)).2, ih (r + 1) (by omega), Nat.succ_mul]; omega
theorem partR_row {w h R C W H : Nat} {l : List Int} (hl : l.length = w * h) (hC : C + W ≤ w) (hR : R + H ≤ h) : ∀ (d s q : Nat), s + d ≤ H → q < d → ((partR w R C W l d s).drop (q * W)).take W = (l.drop ((R + (s + q)) * w + C)).take W := by
  intro d
  induction d with
  | zero => intro s q _ h; omega
  | succ d ih =>
    intro s q h1 h2
    have hrow := (rowL hl hC hR (show s < H by omega)).2
    unfold partR
    cases q with
    | zero =>
      rw [Nat.zero_mul, List.drop_zero]
      rw [List.take_append_of_le_length (by omega), List.take_of_length_le (by omega)]
      rfl
    | succ q =>
      rw [Nat.succ_mul, List.drop_append, List.drop_of_length_le (by rw [hrow]; omega), List.nil_append, hrow, show q * W + W - W = q * W by omega, ih (s + 1) q (by omega) (by omega), show s + 1 + q = s + (q + 1) by omega]
theorem partR_mem {w R C W : Nat} {l : List Int} : ∀ (d r : Nat) (x : Int), x ∈ partR w R C W l d r → x ∈ l := by
  intro d
  induction d with
  | zero => intro r x h; simp [partR] at h
  | succ d ih =>
    intro r x h
    unfold partR at h
    rcases List.mem_append.1 h with h | h
    · exact List.mem_of_mem_drop (List.mem_of_mem_take h)
    · exact ih _ x h
theorem splice_same {l : List Int} {b W : Nat} (h : b + W ≤ l.length) : splice l b ((l.drop b).take W) = l := by
  unfold splice
  have : ((l.drop b).take W).length = W := by rw [List.length_take, List.length_drop]; omega
  rw [this, ← List.drop_drop, List.take_append_drop, List.take_append_drop]
theorem put_part {w h R C W H : Nat} {l p : List Int} (hl : l.length = w * h) (hC : C + W ≤ w) (hR : R + H ≤ h) (hp : ∀ r, r < H → (p.drop (r * W)).take W = (l.drop ((R + r) * w + C)).take W) : ∀ (d r : Nat), r + d ≤ H → putR w R C W p d r l = l := by
  intro d
  induction d with
  | zero => intro r _; rfl
  | succ d ih =>
    intro r h1
    unfold putR
    rw [hp r (by omega), splice_same (rowL hl hC hR (show r < H by omega)).1]
    exact ih (r + 1) (by omega)
theorem splice_mem {l ys : List Int} {b : Nat} {x : Int} (h : x ∈ splice l b ys) : x ∈ l ∨ x ∈ ys := by
  unfold splice at h
  rcases List.mem_append.1 h with h | h
  · exact .inl (List.mem_of_mem_take h)
  · rcases List.mem_append.1 h with h | h
    · exact .inr h
    · exact .inl (List.mem_of_mem_drop h)
theorem putR_mem {w R C W : Nat} {p : List Int} : ∀ (d r : Nat) (l : List Int) (x : Int), x ∈ putR w R C W p d r l → x ∈ l ∨ x ∈ p := by
  intro d
  induction d with
  | zero => intro r l x h; exact .inl h
  | succ d ih =>
    intro r l x h
    unfold putR at h
    rcases ih _ _ x h with h | h
    · rcases splice_mem h with h | h
      · exact .inl h
      · exact .inr (List.mem_of_mem_drop (List.mem_of_mem_take h))
    · exact .inr h
theorem splice_read {l ys : List Int} {b : Nat} (h : b + ys.length ≤ l.length) : ((splice l b ys).drop b).take ys.length = ys := by
  unfold splice
  have hb : (l.take b).length = b := by rw [List.length_take]; omega
  rw [List.drop_append, List.drop_of_length_le (by omega), List.nil_append, hb, Nat.sub_self, List.drop_zero, List.take_append_of_le_length (Nat.le_refl _), List.take_of_length_le (Nat.le_refl _)]
theorem splice_read_lt {l ys : List Int} {b a W : Nat} (h : a + W ≤ b) (hb : b ≤ l.length) : ((splice l b ys).drop a).take W = (l.drop a).take W := by
  unfold splice
  have hb' : (l.take b).length = b := by rw [List.length_take]; omega
  rw [List.drop_append_of_le_length (by omega), List.take_append_of_le_length (by rw [List.length_drop]; omega), List.drop_take, List.take_take, Nat.min_eq_left (by omega)]
theorem put_read {w h R C W H : Nat} {p : List Int} (hp : p.length = W * H) (hC : C + W ≤ w) (hR : R + H ≤ h) : ∀ (d r : Nat) (l : List Int), r + d ≤ H → l.length = w * h → (∀ q, q < r → ((putR w R C W p d r l).drop ((R + q) * w + C)).take W = (l.drop ((R + q) * w + C)).take W) ∧ (∀ q, r ≤ q → q < r + d → ((putR w R C W p d r l).drop ((R + q) * w + C)).take W = (p.drop (q * W)).take W) := by
  intro d
  induction d with
  | zero => intro r l _ _; exact ⟨fun _ _ => rfl, fun q h1 h2 => by omega⟩
  | succ d ih =>
    intro r l h1 h2
    have hrow := row_len hp (show r < H by omega)
    have hb := (rowL h2 hC hR (show r < H by omega)).1
    have hlen : (splice l ((R + r) * w + C) ((p.drop (r * W)).take W)).length = w * h := by rw [splice_len (by rw [hrow]; omega)]; exact h2
    obtain ⟨i1, i2⟩ := ih (r + 1) _ (by omega) hlen
    have hlt : ∀ q, q < r → (R + q) * w + C + W ≤ (R + r) * w + C := fun q hq => by
      have : (R + q) * w + w ≤ (R + r) * w := by rw [← Nat.succ_mul]; exact Nat.mul_le_mul_right _ (by omega)
      omega
    unfold putR
    refine ⟨fun q hq => ?_, fun q hq1 hq2 => ?_⟩
    · rw [i1 q (by omega), splice_read_lt (hlt q hq) (by omega)]
    · rcases Nat.lt_or_ge r q with h | h
      · exact i2 q (by omega) (by omega)
      · have : q = r := by omega
        subst this
        rw [i1 q (by omega)]
        have := splice_read (l := l) (b := (R + q) * w + C) (ys := (p.drop (q * W)).take W) (by rw [hrow]; omega)
        rw [hrow] at this; exact this
theorem part_of_rows {w R C W H : Nat} {l p : List Int} (hp : p.length = W * H) (hrow : ∀ q, q < H → (l.drop ((R + q) * w + C)).take W = (p.drop (q * W)).take W) : ∀ (d r : Nat), r + d = H → partR w R C W l d r = p.drop (r * W) := by
  intro d
  induction d with
  | zero =>
    intro r h
    have : r = H := by omega
    subst this
    rw [List.drop_of_length_le (by rw [hp, Nat.mul_comm]; omega)]; rfl
  | succ d ih =>
    intro r h
    unfold partR
    rw [hrow r (by omega), ih (r + 1) (by omega), Nat.succ_mul, ← List.drop_drop, List.take_append_drop]
/-! ### The walks -/
theorem implAt_eq (k : Nat) (w h : Int) (l : List Int) (r c : Int) (n : Nat) (hn : r * w + c = n) (hl : n < l.length) (hb : 0 ≤ r * w ∧ r * w ≤ 1000 ∧ 0 ≤ c ∧ c ≤ 1000) : impl_Chart_at.f k w h l r c = some (l.getD n 0) := by
  unfold impl_Chart_at.f impl_Chart_at.m
  generalize r * w = q at *
  simp (disch := omega) only [w64_id, hn, chk_nat, Option.bind_some]
theorem take_snoc {l : List Int} {b j : Nat} (h : b + j < l.length) : (l.drop b).take (j + 1) = (l.drop b).take j ++ [l.getD (b + j) 0] := by
  rw [List.take_succ_eq_append_getElem (by rw [List.length_drop]; omega), List.getElem_drop, getD_lt h]
theorem implPart_l {w h R C W H : Nat} {l : List Int} (hw : w ≤ 8) (hh : h ≤ 8) (hl : l.length = w * h) (hC : C + W ≤ w) (hR : R + H ≤ h) (r : Nat) (hr : r < H) (acc : List Int) (hacc : acc.length ≤ 1000) : ∀ (d k j : Nat), j + d = W → d + 2 < k → impl_makeChart__impl_Chart_part_1.l10 k (W : Int) (w : Int) (h : Int) l (R : Int) (C : Int) 0 0 [] (W : Int) (H : Int) (acc ++ (l.drop ((R + r) * w + C)).take j) (r : Int) (H : Int) (r : Int) (W : Int) (j : Int) = impl_makeChart__impl_Chart_part_1.l4 (k - d - 1) (W : Int) (w : Int) (h : Int) l (R : Int) (C : Int) 0 0 [] (W : Int) (H : Int) (acc ++ (l.drop ((R + r) * w + C)).take W) (H : Int) ((r + 1 : Nat) : Int) := by
  have hb := (rowL hl hC hR hr).1
  have b2 : w * h ≤ 64 := Nat.le_trans (Nat.mul_le_mul hw hh) (by omega)
  have e1 : ((R : Int) + (r : Int)) * (w : Int) = (((R + r) * w : Nat) : Int) := by rw [nat_mul_cast, Int.natCast_add]
  intro d
  induction d with
  | zero =>
    intro k j h1 h2
    obtain ⟨k, rfl⟩ := succ_of (show 0 < k by omega)
    have : j = W := by omega
    subst this
    simp (disch := omega) only [impl_makeChart__impl_Chart_part_1.l10, impl_makeChart__impl_Chart_part_1.b10, if_neg, w64_id]
    rw [show ((r + 1 : Nat) : Int) = (r : Int) + 1 by omega]; rfl
  | succ d ih =>
    intro k j h1 h2
    obtain ⟨k, rfl⟩ := succ_of (show 0 < k by omega)
    have h4 := ih k (j + 1) (by omega) (by omega)
    rw [show k + 1 - (d + 1) - 1 = k - d - 1 by omega, ← h4, take_snoc (by omega), ← List.append_assoc]
    simp only [impl_makeChart__impl_Chart_part_1.l10, impl_makeChart__impl_Chart_part_1.b10]
    have hlen : (acc ++ (l.drop ((R + r) * w + C)).take j).length ≤ 1010 := by rw [List.length_append, List.length_take]; omega
    unfold impl_Chart_part_1.f impl_Chart_part_1.m
    rw [if_pos (by omega), w64_id (x := (R : Int) + (r : Int)) (by omega), w64_id (x := (C : Int) + (j : Int)) (by omega), implAt_eq k w h l ((R : Int) + r) ((C : Int) + j) ((R + r) * w + C + j) (by rw [e1]; omega) (by omega) (by rw [e1]; omega)]
    simp only [Option.bind_some]
    rw [app_ok (by simp only [List.length_singleton]; omega), w64_id (by omega), show ((j + 1 : Nat) : Int) = (j : Int) + 1 by omega]
    rfl
theorem implPart_eq {w h R C W H : Nat} {l : List Int} (hw : w ≤ 8) (hh : h ≤ 8) (hl : l.length = w * h) (hC : C + W ≤ w) (hR : R + H ≤ h) : ∀ (d k r : Nat) (acc : List Int), r + d = H → 12 * d + 5 < k → acc.length + 8 * d ≤ 900 → impl_makeChart__impl_Chart_part_1.l4 k (W : Int) (w : Int) (h : Int) l (R : Int) (C : Int) 0 0 [] (W : Int) (H : Int) acc (H : Int) (r : Int) = some ((W : Int), (H : Int), acc ++ partR w R C W l d r) := by
  intro d
  induction d with
  | zero =>
    intro k r acc h1 h2 h3
    obtain ⟨k, rfl⟩ := succ_of (show 0 < k by omega)
    simp (disch := omega) only [impl_makeChart__impl_Chart_part_1.l4, impl_makeChart__impl_Chart_part_1.b4, if_neg, partR, List.append_nil]
  | succ d ih =>
    intro k r acc h1 h2 h3
    obtain ⟨k, rfl⟩ := succ_of (show 0 < k by omega)
    have hrow := (rowL hl hC hR (show r < H by omega)).2
    have h5 := implPart_l hw hh hl hC hR r (by omega) acc (by omega) W k 0 (by omega) (by omega)
    rw [List.take_zero, List.append_nil, show ((0 : Nat) : Int) = 0 from rfl] at h5
    simp (disch := omega) only [impl_makeChart__impl_Chart_part_1.l4, impl_makeChart__impl_Chart_part_1.b4, if_pos]
    rw [h5, ih _ (r + 1) _ (by omega) (by omega) (by rw [List.length_append, hrow]; omega), partR, List.append_assoc]
theorem specPart_l {w h R C W H : Nat} {l : List Int} (hw : w ≤ 8) (hh : h ≤ 8) (hl : l.length = w * h) (hC : C + W ≤ w) (hR : R + H ≤ h) (r : Nat) (hr : r < H) (acc : List Int) (hacc : acc.length ≤ 1000) : ∀ (d k j : Nat), j + d = W → d + 2 < k → spec_l2Part.l9 k (R : Int) (C : Int) (H : Int) (W : Int) (w : Int) (h : Int) l 0 0 [] (W : Int) (H : Int) (acc ++ (l.drop ((R + r) * w + C)).take j) ((R + r : Nat) : Int) ((C + j : Nat) : Int) = spec_l2Part.l4 (k - d - 1) (R : Int) (C : Int) (H : Int) (W : Int) (w : Int) (h : Int) l 0 0 [] (W : Int) (H : Int) (acc ++ (l.drop ((R + r) * w + C)).take W) ((R + (r + 1) : Nat) : Int) := by
  have hb := (rowL hl hC hR hr).1
  have b2 : w * h ≤ 64 := Nat.le_trans (Nat.mul_le_mul hw hh) (by omega)
  have e1 : ((R + r : Nat) : Int) * (w : Int) = (((R + r) * w : Nat) : Int) := by rw [nat_mul_cast]
  intro d
  induction d with
  | zero =>
    intro k j h1 h2
    obtain ⟨k, rfl⟩ := succ_of (show 0 < k by omega)
    have : j = W := by omega
    subst this
    simp (disch := omega) only [spec_l2Part.l9, spec_l2Part.b9, if_neg, w64_id]
    rw [show ((R + (r + 1) : Nat) : Int) = ((R + r : Nat) : Int) + 1 by omega]; rfl
  | succ d ih =>
    intro k j h1 h2
    obtain ⟨k, rfl⟩ := succ_of (show 0 < k by omega)
    have h4 := ih k (j + 1) (by omega) (by omega)
    rw [show k + 1 - (d + 1) - 1 = k - d - 1 by omega, ← h4, take_snoc (by omega), ← List.append_assoc]
    simp only [spec_l2Part.l9, spec_l2Part.b9]
    have hlen : (acc ++ (l.drop ((R + r) * w + C)).take j).length ≤ 1010 := by rw [List.length_append, List.length_take]; omega
    rw [w64_id (x := (C : Int) + (W : Int)) (by omega), if_pos (by omega), specAt_eq k w h l ((R + r : Nat) : Int) ((C + j : Nat) : Int) ((R + r) * w + C + j) (by rw [e1]; omega) (by omega) (by rw [e1]; omega)]
    simp only [Option.bind_some]
    rw [app_ok (by simp only [List.length_singleton]; omega), w64_id (by omega), show ((C + (j + 1) : Nat) : Int) = ((C + j : Nat) : Int) + 1 by omega]
    rfl
theorem specPart_eq {w h R C W H : Nat} {l : List Int} (hw : w ≤ 8) (hh : h ≤ 8) (hl : l.length = w * h) (hC : C + W ≤ w) (hR : R + H ≤ h) : ∀ (d k r : Nat) (acc : List Int), r + d = H → 12 * d + 5 < k → acc.length + 8 * d ≤ 900 → spec_l2Part.l4 k (R : Int) (C : Int) (H : Int) (W : Int) (w : Int) (h : Int) l 0 0 [] (W : Int) (H : Int) acc ((R + r : Nat) : Int) = some ((W : Int), (H : Int), acc ++ partR w R C W l d r) := by
  intro d
  induction d with
  | zero =>
    intro k r acc h1 h2 h3
    obtain ⟨k, rfl⟩ := succ_of (show 0 < k by omega)
    simp (disch := omega) only [spec_l2Part.l4, spec_l2Part.b4, if_neg, partR, List.append_nil, w64_id]
  | succ d ih =>
    intro k r acc h1 h2 h3
    obtain ⟨k, rfl⟩ := succ_of (show 0 < k by omega)
    have hrow := (rowL hl hC hR (show r < H by omega)).2
    have h5 := specPart_l hw hh hl hC hR r (by omega) acc (by omega) W k 0 (by omega) (by omega)
    rw [List.take_zero, List.append_nil, Nat.add_zero] at h5
    simp (disch := omega) only [spec_l2Part.l4, spec_l2Part.b4, if_pos, w64_id]
    rw [h5, ih _ (r + 1) _ (by omega) (by omega) (by rw [List.length_append, hrow]; omega), partR, List.append_assoc]
def partOut (w h : Int) (l : List Int) (R C H W : Int) : Int × Int × List Int × Bool := if goodB w h l = true ∧ fitsB w h R C H W = true then (W, H, partR w.toNat R.toNat C.toNat W.toNat l H.toNat 0, true) else (0, 0, [], false)
theorem partOf_eq (k : Nat) (w h : Int) (l : List Int) (R C H W : Int) (hl : l.length ≤ 400) (hk : 1000 ≤ k) : impl_PartOf.f k w h l R C H W = some (partOut w h l R C H W) ∧ spec_PartOf.f k w h l R C H W = some (partOut w h l R C H W) := by
  unfold impl_PartOf.f impl_PartOf.m spec_PartOf.f spec_PartOf.m partOut
  rw [isChart_eq k w h l (by omega) (by omega), specFits_eq k w h l R C H W (by omega) (by omega)]; simp only [Option.bind_some]
  cases h1 : goodB w h l <;> simp only [Bool.not_true, Bool.not_false, cond_true, cond_false, Bool.true_and, Bool.false_and, Bool.and_true, Bool.and_false, Bool.false_eq_true, Bool.true_or, Bool.or_true, Bool.false_or, Bool.or_false, Bool.or_self, Bool.and_self, decide_true, decide_false, if_true, if_false, not_true, not_false_eq_true, not_true_eq_false, false_or, or_false, true_and, and_true, Bool.not_eq_true, Bool.true_eq_false, reduceCtorEq, false_and]
  rw [hasPart_eq k w h l R C H W h1]; simp only [Option.bind_some]
  cases h3 : fitsB w h R C H W <;> simp only [Bool.not_true, Bool.not_false, cond_true, cond_false, Bool.true_and, Bool.false_and, Bool.and_true, Bool.and_false, Bool.false_eq_true, Bool.true_or, Bool.or_true, Bool.false_or, Bool.or_false, Bool.or_self, Bool.and_self, decide_true, decide_false, if_true, if_false, not_true, not_false_eq_true, not_true_eq_false, false_or, or_false, true_and, and_true, Bool.not_eq_true, Bool.true_eq_false, reduceCtorEq, and_false]
  obtain ⟨hw, hh, hl', _⟩ := good_of h1
  obtain ⟨⟨f1, f2⟩, ⟨f3, f4⟩, f5, f6⟩ := fits_of h3
  obtain ⟨w, rfl⟩ := Int.eq_ofNat_of_zero_le (show 0 ≤ w by omega)
  obtain ⟨h, rfl⟩ := Int.eq_ofNat_of_zero_le (show 0 ≤ h by omega)
  obtain ⟨W, rfl⟩ := Int.eq_ofNat_of_zero_le (show 0 ≤ W by omega)
  obtain ⟨H, rfl⟩ := Int.eq_ofNat_of_zero_le (show 0 ≤ H by omega)
  obtain ⟨R, rfl⟩ := Int.eq_ofNat_of_zero_le f1
  obtain ⟨C, rfl⟩ := Int.eq_ofNat_of_zero_le f2
  simp only [Int.toNat_natCast]
  have hl2 := lenN hl'
  unfold impl_Chart_part.f impl_Chart_part.m impl_makeChart__impl_Chart_part_1.f impl_makeChart__impl_Chart_part_1.m spec_l2Part.f spec_l2Part.m
  have a1 := implPart_eq (w := w) (h := h) (R := R) (C := C) (W := W) (H := H) (l := l) (by omega) (by omega) hl2 (by omega) (by omega) H k 0 [] (by omega) (by omega) (by simp; omega)
  have a2 := specPart_eq (w := w) (h := h) (R := R) (C := C) (W := W) (H := H) (l := l) (by omega) (by omega) hl2 (by omega) (by omega) H k 0 [] (by omega) (by omega) (by simp; omega)
  rw [show ((0 : Nat) : Int) = 0 from rfl] at a1
  rw [Nat.add_zero] at a2
  rw [a1, a2]
  exact ⟨rfl, rfl⟩
theorem putPart_eq (k : Nat) (w h : Int) (l : List Int) (W H : Int) (p : List Int) (R C : Int) (hl : l.length ≤ 400) (hp : p.length ≤ 400) (hk : 1000 ≤ k) : spec_PutPart.f k w h l W H p R C = some (putOut w h l W H p R C) ∧ impl_PutPart.f k w h l W H p R C = some (putOut w h l W H p R C) := by
  constructor
  · unfold spec_PutPart.f spec_PutPart.m putOut
    rw [l2Good_eq k W H p (by omega) (by omega)]; simp only [Option.bind_some]
    cases h2 : goodB W H p <;> simp only [Bool.not_true, Bool.not_false, cond_true, cond_false, Bool.true_and, Bool.false_and, Bool.and_true, Bool.and_false, Bool.false_eq_true, Bool.true_or, Bool.or_true, Bool.false_or, Bool.or_false, Bool.or_self, Bool.and_self, decide_true, decide_false, if_true, if_false, not_true, not_false_eq_true, not_true_eq_false, false_or, or_false, true_and, and_true, Bool.not_eq_true, Bool.true_eq_false, reduceCtorEq, false_and, and_false]
    rw [specFits_eq k w h l R C H W (by omega) (by omega)]; simp only [Option.bind_some]
    cases h1 : goodB w h l <;> simp only [Bool.not_true, Bool.not_false, cond_true, cond_false, Bool.true_and, Bool.false_and, Bool.and_true, Bool.and_false, Bool.false_eq_true, Bool.true_or, Bool.or_true, Bool.false_or, Bool.or_false, Bool.or_self, Bool.and_self, decide_true, decide_false, if_true, if_false, not_true, not_false_eq_true, not_true_eq_false, false_or, or_false, true_and, and_true, Bool.not_eq_true, Bool.true_eq_false, reduceCtorEq, false_and, and_false]
    cases h3 : fitsB w h R C H W <;> simp only [Bool.not_true, Bool.not_false, cond_true, cond_false, Bool.true_and, Bool.false_and, Bool.and_true, Bool.and_false, Bool.false_eq_true, Bool.true_or, Bool.or_true, Bool.false_or, Bool.or_false, Bool.or_self, Bool.and_self, decide_true, decide_false, if_true, if_false, not_true, not_false_eq_true, not_true_eq_false, false_or, or_false, true_and, and_true, Bool.not_eq_true, Bool.true_eq_false, reduceCtorEq, false_and, and_false]
    rw [(put_both w h l W H p R C h1 h2 h3 k (by omega)).1]; rfl
  · unfold impl_PutPart.f impl_PutPart.m putOut
    rw [isChart_eq k w h l (by omega) (by omega), isChart_eq k W H p (by omega) (by omega)]; simp only [Option.bind_some]
    cases h1 : goodB w h l <;> simp only [Bool.not_true, Bool.not_false, cond_true, cond_false, Bool.true_and, Bool.false_and, Bool.and_true, Bool.and_false, Bool.false_eq_true, Bool.true_or, Bool.or_true, Bool.false_or, Bool.or_false, Bool.or_self, Bool.and_self, decide_true, decide_false, if_true, if_false, not_true, not_false_eq_true, not_true_eq_false, false_or, or_false, true_and, and_true, Bool.not_eq_true, Bool.true_eq_false, reduceCtorEq, false_and, and_false]
    cases h2 : goodB W H p <;> simp only [Bool.not_true, Bool.not_false, cond_true, cond_false, Bool.true_and, Bool.false_and, Bool.and_true, Bool.and_false, Bool.false_eq_true, Bool.true_or, Bool.or_true, Bool.false_or, Bool.or_false, Bool.or_self, Bool.and_self, decide_true, decide_false, if_true, if_false, not_true, not_false_eq_true, not_true_eq_false, false_or, or_false, true_and, and_true, Bool.not_eq_true, Bool.true_eq_false, reduceCtorEq, false_and, and_false]
    rw [hasPart_eq k w h l R C H W h1]; simp only [Option.bind_some]
    cases h3 : fitsB w h R C H W <;> simp only [Bool.not_true, Bool.not_false, cond_true, cond_false, Bool.true_and, Bool.false_and, Bool.and_true, Bool.and_false, Bool.false_eq_true, Bool.true_or, Bool.or_true, Bool.false_or, Bool.or_false, Bool.or_self, Bool.and_self, decide_true, decide_false, if_true, if_false, not_true, not_false_eq_true, not_true_eq_false, false_or, or_false, true_and, and_true, Bool.not_eq_true, Bool.true_eq_false, reduceCtorEq, false_and, and_false]
    rw [(put_both w h l W H p R C h1 h2 h3 k (by omega)).2]; rfl
theorem part_good {w h : Int} {l : List Int} {R C H W : Int} (h1 : goodB w h l = true) (h3 : fitsB w h R C H W = true) : goodB W H (partR w.toNat R.toNat C.toNat W.toNat l H.toNat 0) = true := by
  obtain ⟨hw, hh, hl', hx⟩ := good_of h1
  obtain ⟨⟨f1, f2⟩, ⟨f3, f4⟩, f5, f6⟩ := fits_of h3
  obtain ⟨w, rfl⟩ := Int.eq_ofNat_of_zero_le (show 0 ≤ w by omega)
  obtain ⟨h, rfl⟩ := Int.eq_ofNat_of_zero_le (show 0 ≤ h by omega)
  obtain ⟨W, rfl⟩ := Int.eq_ofNat_of_zero_le (show 0 ≤ W by omega)
  obtain ⟨H, rfl⟩ := Int.eq_ofNat_of_zero_le (show 0 ≤ H by omega)
  obtain ⟨R, rfl⟩ := Int.eq_ofNat_of_zero_le f1
  obtain ⟨C, rfl⟩ := Int.eq_ofNat_of_zero_le f2
  simp only [Int.toNat_natCast]
  have hl2 := lenN hl'
  unfold goodB
  simp only [Bool.and_eq_true, decide_eq_true_eq, List.all_eq_true, inB_iff]
  refine ⟨⟨⟨by omega, by omega⟩, ?_⟩, fun x h => inB_of (hx x (partR_mem _ _ x h))⟩
  rw [partR_len hl2 (by omega) (show R + H ≤ h by omega) H 0 (by omega), nat_mul_cast, Int.mul_comm]
theorem put_good {w h : Int} {l : List Int} {W H : Int} {p : List Int} {R C : Int} (h1 : goodB w h l = true) (h2 : goodB W H p = true) (h3 : fitsB w h R C H W = true) : goodB w h (putR w.toNat R.toNat C.toNat W.toNat p H.toNat 0 l) = true := by
  obtain ⟨hw, hh, hl', hx⟩ := good_of h1
  obtain ⟨hW, hH, hp', hy⟩ := good_of h2
  obtain ⟨⟨f1, f2⟩, ⟨f3, f4⟩, f5, f6⟩ := fits_of h3
  obtain ⟨w, rfl⟩ := Int.eq_ofNat_of_zero_le (show 0 ≤ w by omega)
  obtain ⟨h, rfl⟩ := Int.eq_ofNat_of_zero_le (show 0 ≤ h by omega)
  obtain ⟨W, rfl⟩ := Int.eq_ofNat_of_zero_le (show 0 ≤ W by omega)
  obtain ⟨H, rfl⟩ := Int.eq_ofNat_of_zero_le (show 0 ≤ H by omega)
  obtain ⟨R, rfl⟩ := Int.eq_ofNat_of_zero_le f1
  obtain ⟨C, rfl⟩ := Int.eq_ofNat_of_zero_le f2
  simp only [Int.toNat_natCast]
  have hl2 := lenN hl'
  have hp2 := lenN hp'
  unfold goodB
  simp only [Bool.and_eq_true, decide_eq_true_eq, List.all_eq_true, inB_iff]
  refine ⟨⟨⟨by omega, by omega⟩, ?_⟩, fun x h => ?_⟩
  · rw [putR_len w h R C W H p hp2 (by omega) H 0 l (by omega) (by omega) hl2, nat_mul_cast]
  · rcases putR_mem _ _ _ x h with h | h
    · exact inB_of (hx x h)
    · exact inB_of (hy x h)
/-- Put back in its place, a part changes nothing. -/
theorem put_back {w h : Int} {l : List Int} {R C H W : Int} (h1 : goodB w h l = true) (h3 : fitsB w h R C H W = true) : putR w.toNat R.toNat C.toNat W.toNat (partR w.toNat R.toNat C.toNat W.toNat l H.toNat 0) H.toNat 0 l = l := by
  obtain ⟨hw, hh, hl', hx⟩ := good_of h1
  obtain ⟨⟨f1, f2⟩, ⟨f3, f4⟩, f5, f6⟩ := fits_of h3
  obtain ⟨w, rfl⟩ := Int.eq_ofNat_of_zero_le (show 0 ≤ w by omega)
  obtain ⟨h, rfl⟩ := Int.eq_ofNat_of_zero_le (show 0 ≤ h by omega)
  have hl2 := lenN hl'
  refine put_part (h := h) (H := H.toNat) hl2 (by omega) (by omega) (fun r hr => ?_) H.toNat 0 (by omega)
  have := partR_row (w := w) (h := h) (R := R.toNat) (C := C.toNat) (W := W.toNat) (H := H.toNat) (l := l) hl2 (by omega) (by omega) H.toNat 0 r (by omega) hr
  rw [Nat.zero_add] at this
  exact this
/-- A part that is put has its knots. -/
theorem part_put {w h : Int} {l : List Int} {W H : Int} {p : List Int} {R C : Int} (h1 : goodB w h l = true) (h2 : goodB W H p = true) (h3 : fitsB w h R C H W = true) : partR w.toNat R.toNat C.toNat W.toNat (putR w.toNat R.toNat C.toNat W.toNat p H.toNat 0 l) H.toNat 0 = p := by
  obtain ⟨hw, hh, hl', hx⟩ := good_of h1
  obtain ⟨hW, hH, hp', hy⟩ := good_of h2
  obtain ⟨⟨f1, f2⟩, ⟨f3, f4⟩, f5, f6⟩ := fits_of h3
  obtain ⟨w, rfl⟩ := Int.eq_ofNat_of_zero_le (show 0 ≤ w by omega)
  obtain ⟨h, rfl⟩ := Int.eq_ofNat_of_zero_le (show 0 ≤ h by omega)
  obtain ⟨W, rfl⟩ := Int.eq_ofNat_of_zero_le (show 0 ≤ W by omega)
  obtain ⟨H, rfl⟩ := Int.eq_ofNat_of_zero_le (show 0 ≤ H by omega)
  have hl2 := lenN hl'
  have hp2 := lenN hp'
  simp only [Int.toNat_natCast]
  have hr := (put_read (w := w) (h := h) (R := R.toNat) (C := C.toNat) (W := W) (H := H) (p := p) hp2 (by omega) (by omega) H 0 l (by omega) hl2).2
  have := part_of_rows (w := w) (R := R.toNat) (C := C.toNat) (W := W) (H := H) (l := putR w R.toNat C.toNat W p H 0 l) (p := p) hp2 (fun q hq => hr q (by omega) (by omega)) H 0 (by omega)
  rw [Nat.zero_mul, List.drop_zero] at this
  exact this
theorem vChart_self (k : Nat) (w h : Int) (l : List Int) (hl : l.length ≤ 1000) (hk : 1100 ≤ k) : laws_vChart.f k w h l w h l = some true := by
  unfold laws_vChart.f laws_vChart.m
  rw [vInts_self k l hl hk]; simp only [Bool.not_true, Bool.not_false, cond_true, cond_false, Bool.true_and, Bool.false_and, Bool.and_true, Bool.and_false, Bool.false_eq_true, Bool.true_or, Bool.or_true, Bool.false_or, Bool.or_false, Bool.or_self, Bool.and_self, decide_true, decide_false, if_true, if_false, not_true, not_false_eq_true, not_true_eq_false, false_or, or_false, true_and, and_true, Bool.not_eq_true, Bool.true_eq_false, reduceCtorEq, Option.bind_some]
theorem hasPlace_eq (k : Nat) (w h : Int) (l : List Int) (r c : Int) (hg : goodB w h l = true) : impl_Chart_hasPlace.f k w h l r c = some (inB r 0 (h - 1) && inB c 0 (w - 1)) := by
  obtain ⟨hw, hh, _⟩ := good_of hg
  unfold impl_Chart_hasPlace.f impl_Chart_hasPlace.m
  simp only [Option.bind_some, implIn_eq]
  rw [w64_id (x := h - 1) (by omega), w64_id (x := w - 1) (by omega)]
  cases inB r 0 (h - 1) <;> simp only [Bool.not_true, Bool.not_false, cond_true, cond_false, Bool.true_and, Bool.false_and, Bool.and_true, Bool.and_false, Bool.false_eq_true, Bool.true_or, Bool.or_true, Bool.false_or, Bool.or_false, Bool.or_self, Bool.and_self, decide_true, decide_false, if_true, if_false, not_true, not_false_eq_true, not_true_eq_false, false_or, or_false, true_and, and_true, Bool.not_eq_true, Bool.true_eq_false, reduceCtorEq]
def knotOut (w h : Int) (l : List Int) (r c : Int) : Int × Bool := if goodB w h l = true ∧ inB r 0 (h - 1) = true ∧ inB c 0 (w - 1) = true then (l.getD (r * w + c).toNat 0, true) else (0, false)
theorem place_bd {w h r c : Int} (hw : 1 ≤ w ∧ w ≤ 8) (hh : 1 ≤ h ∧ h ≤ 8) (hr : 0 ≤ r ∧ r ≤ h - 1) (hc : 0 ≤ c ∧ c ≤ w - 1) : 0 ≤ r * w ∧ r * w + c < w * h ∧ r * w ≤ 64 := by
  have h1 : (r + 1) * w ≤ h * w := Int.mul_le_mul_of_nonneg_right (by omega) (by omega)
  have h2 : 0 ≤ r * w := Int.mul_nonneg (by omega) (by omega)
  have := mul_bd hw hh
  rw [Int.add_mul, Int.one_mul, Int.mul_comm h w] at h1
  omega
theorem knotAt_eq (k : Nat) (w h : Int) (l : List Int) (r c : Int) (hl : l.length ≤ 400) (hk : 1000 ≤ k) : impl_KnotAt.f k w h l r c = some (knotOut w h l r c) ∧ spec_KnotAt.f k w h l r c = some (knotOut w h l r c) := by
  unfold impl_KnotAt.f impl_KnotAt.m spec_KnotAt.f spec_KnotAt.m knotOut spec_l2Within.f spec_l2Within.m
  rw [isChart_eq k w h l (by omega) (by omega), l2Good_eq k w h l (by omega) (by omega)]; simp only [Option.bind_some]
  cases h1 : goodB w h l <;> simp only [Bool.not_true, Bool.not_false, cond_true, cond_false, Bool.true_and, Bool.false_and, Bool.and_true, Bool.and_false, Bool.false_eq_true, Bool.true_or, Bool.or_true, Bool.false_or, Bool.or_false, Bool.or_self, Bool.and_self, decide_true, decide_false, if_true, if_false, not_true, not_false_eq_true, not_true_eq_false, false_or, or_false, true_and, and_true, Bool.not_eq_true, Bool.true_eq_false, reduceCtorEq, false_and, Option.bind_some]
  obtain ⟨hw, hh, hl', _⟩ := good_of h1
  rw [hasPlace_eq k w h l r c h1]; simp only [Option.bind_some, specIn_eq]
  rw [w64_id (x := h - 1) (by omega), w64_id (x := w - 1) (by omega)]
  cases h2 : inB r 0 (h - 1) <;> simp only [Bool.not_true, Bool.not_false, cond_true, cond_false, Bool.true_and, Bool.false_and, Bool.and_true, Bool.and_false, Bool.false_eq_true, Bool.true_or, Bool.or_true, Bool.false_or, Bool.or_false, Bool.or_self, Bool.and_self, decide_true, decide_false, if_true, if_false, not_true, not_false_eq_true, not_true_eq_false, false_or, or_false, true_and, and_true, Bool.not_eq_true, Bool.true_eq_false, reduceCtorEq, false_and, Option.bind_some]
  cases h3 : inB c 0 (w - 1) <;> simp only [Bool.not_true, Bool.not_false, cond_true, cond_false, Bool.true_and, Bool.false_and, Bool.and_true, Bool.and_false, Bool.false_eq_true, Bool.true_or, Bool.or_true, Bool.false_or, Bool.or_false, Bool.or_self, Bool.and_self, decide_true, decide_false, if_true, if_false, not_true, not_false_eq_true, not_true_eq_false, false_or, or_false, true_and, and_true, Bool.not_eq_true, Bool.true_eq_false, reduceCtorEq, and_false, Option.bind_some]
  have b := place_bd hw hh (inB_iff.1 h2) (inB_iff.1 h3)
  have hc3 := inB_iff.1 h3
  rw [implAt_eq k w h l r c (r * w + c).toNat (by omega) (by omega) (by rw [inB_iff] at h3; omega), specAt_eq k w h l r c (r * w + c).toNat (by omega) (by omega) (by rw [inB_iff] at h3; omega)]
  exact ⟨rfl, rfl⟩
/-! ### A chart of one color -/
theorem plainI10 {w h : Nat} (hw : w ≤ 8) (hh : h ≤ 8) (x : Int) (i : Nat) (hi : i < h) (n : Nat) (hn : n ≤ 500) : ∀ (d k j : Nat), j + d = w → d + 2 < k → impl_makeChart__impl_PlainChart_1.l10 k (w : Int) x 0 0 [] (w : Int) (h : Int) (List.replicate (n + j) x) (i : Int) (h : Int) (i : Int) (w : Int) (j : Int) = impl_makeChart__impl_PlainChart_1.l4 (k - d - 1) (w : Int) x 0 0 [] (w : Int) (h : Int) (List.replicate (n + w) x) (h : Int) ((i + 1 : Nat) : Int) := by
  intro d
  induction d with
  | zero =>
    intro k j h1 h2
    obtain ⟨k, rfl⟩ := succ_of (show 0 < k by omega)
    have : j = w := by omega
    subst this
    simp (disch := omega) only [impl_makeChart__impl_PlainChart_1.l10, impl_makeChart__impl_PlainChart_1.b10, if_neg, w64_id]
    rw [show ((i + 1 : Nat) : Int) = (i : Int) + 1 by omega]; rfl
  | succ d ih =>
    intro k j h1 h2
    obtain ⟨k, rfl⟩ := succ_of (show 0 < k by omega)
    have h4 := ih k (j + 1) (by omega) (by omega)
    rw [show k + 1 - (d + 1) - 1 = k - d - 1 by omega, ← h4]
    simp only [impl_makeChart__impl_PlainChart_1.l10, impl_makeChart__impl_PlainChart_1.b10, impl_PlainChart_1.f, impl_PlainChart_1.m, Option.bind_some]
    rw [if_pos (by omega), app_ok (by rw [List.length_replicate, List.length_singleton]; omega), w64_id (by omega), show ((j + 1 : Nat) : Int) = (j : Int) + 1 by omega, show n + (j + 1) = (n + j) + 1 by omega, List.replicate_succ']
    rfl
theorem plainI4 {w h : Nat} (hw : w ≤ 8) (hh : h ≤ 8) (x : Int) : ∀ (d k i : Nat), i + d = h → 12 * d + 5 < k → impl_makeChart__impl_PlainChart_1.l4 k (w : Int) x 0 0 [] (w : Int) (h : Int) (List.replicate (i * w) x) (h : Int) (i : Int) = some ((w : Int), (h : Int), List.replicate (h * w) x) := by
  intro d
  induction d with
  | zero =>
    intro k i h1 h2
    obtain ⟨k, rfl⟩ := succ_of (show 0 < k by omega)
    have : i = h := by omega
    subst this
    simp (disch := omega) only [impl_makeChart__impl_PlainChart_1.l4, impl_makeChart__impl_PlainChart_1.b4, if_neg]
  | succ d ih =>
    intro k i h1 h2
    obtain ⟨k, rfl⟩ := succ_of (show 0 < k by omega)
    have hb : i * w ≤ 64 := Nat.le_trans (Nat.mul_le_mul (show i ≤ 8 by omega) hw) (by omega)
    have h5 := plainI10 hw hh x i (by omega) (i * w) (by omega) w k 0 (by omega) (by omega)
    rw [Nat.add_zero, show ((0 : Nat) : Int) = 0 from rfl] at h5
    simp (disch := omega) only [impl_makeChart__impl_PlainChart_1.l4, impl_makeChart__impl_PlainChart_1.b4, if_pos]
    rw [h5, ← Nat.succ_mul]
    exact ih _ (i + 1) (by omega) (by omega)
theorem plainS {w h : Nat} (hw : w ≤ 8) (hh : h ≤ 8) (x : Int) : ∀ (d k i : Nat), i + d = h * w → d + 5 < k → spec_PlainChart.l7 k (w : Int) (h : Int) x 0 0 [] (w : Int) (h : Int) (List.replicate i x) (i : Int) = some ((w : Int), (h : Int), List.replicate (h * w) x, true) := by
  have hb : h * w ≤ 64 := Nat.le_trans (Nat.mul_le_mul hh hw) (by omega)
  have hc : (w : Int) * (h : Int) = ((h * w : Nat) : Int) := by rw [nat_mul_cast, Int.mul_comm]
  intro d
  induction d with
  | zero =>
    intro k i h1 h2
    obtain ⟨k, rfl⟩ := succ_of (show 0 < k by omega)
    have : i = h * w := by omega
    subst this
    simp only [spec_PlainChart.l7, spec_PlainChart.b7]
    rw [hc, w64_id (by omega), if_neg (by omega)]
  | succ d ih =>
    intro k i h1 h2
    obtain ⟨k, rfl⟩ := succ_of (show 0 < k by omega)
    have h4 := ih k (i + 1) (by omega) (by omega)
    simp only [spec_PlainChart.l7, spec_PlainChart.b7]
    rw [hc, w64_id (by omega), if_pos (by omega), app_ok (by rw [List.length_replicate, List.length_singleton]; omega), w64_id (by omega), ← List.replicate_succ', show ((i : Int) + 1) = ((i + 1 : Nat) : Int) by omega]
    exact h4
def plainOut (w h x : Int) : Int × Int × List Int × Bool := if inB w 1 8 = true ∧ inB h 1 8 = true ∧ colorB x = true then (w, h, List.replicate (h.toNat * w.toNat) x, true) else (0, 0, [], false)
theorem plainChart_eq (k : Nat) (w h x : Int) (hk : 1000 ≤ k) : impl_PlainChart.f k w h x = some (plainOut w h x) ∧ spec_PlainChart.f k w h x = some (plainOut w h x) := by
  unfold impl_PlainChart.f impl_PlainChart.m spec_PlainChart.f spec_PlainChart.m plainOut
  rw [isSide_eq, isSide_eq, l2Side_eq, l2Side_eq, isColor_eq, l2Color_eq]; simp only [Option.bind_some]
  cases e1 : inB w 1 8 <;> simp only [Bool.not_true, Bool.not_false, cond_true, cond_false, Bool.true_and, Bool.false_and, Bool.and_true, Bool.and_false, Bool.false_eq_true, Bool.true_or, Bool.or_true, Bool.false_or, Bool.or_false, Bool.or_self, Bool.and_self, decide_true, decide_false, if_true, if_false, not_true, not_false_eq_true, not_true_eq_false, false_or, or_false, true_and, and_true, Bool.not_eq_true, Bool.true_eq_false, reduceCtorEq, false_and]
  cases e2 : inB h 1 8 <;> simp only [Bool.not_true, Bool.not_false, cond_true, cond_false, Bool.true_and, Bool.false_and, Bool.and_true, Bool.and_false, Bool.false_eq_true, Bool.true_or, Bool.or_true, Bool.false_or, Bool.or_false, Bool.or_self, Bool.and_self, decide_true, decide_false, if_true, if_false, not_true, not_false_eq_true, not_true_eq_false, false_or, or_false, true_and, and_true, Bool.not_eq_true, Bool.true_eq_false, reduceCtorEq, false_and, and_false]
  cases e3 : colorB x <;> simp only [Bool.not_true, Bool.not_false, cond_true, cond_false, Bool.true_and, Bool.false_and, Bool.and_true, Bool.and_false, Bool.false_eq_true, Bool.true_or, Bool.or_true, Bool.false_or, Bool.or_false, Bool.or_self, Bool.and_self, decide_true, decide_false, if_true, if_false, not_true, not_false_eq_true, not_true_eq_false, false_or, or_false, true_and, and_true, Bool.not_eq_true, Bool.true_eq_false, reduceCtorEq, and_false]
  rw [inB_iff] at e1 e2
  obtain ⟨w, rfl⟩ := Int.eq_ofNat_of_zero_le (show 0 ≤ w by omega)
  obtain ⟨h, rfl⟩ := Int.eq_ofNat_of_zero_le (show 0 ≤ h by omega)
  simp only [Int.toNat_natCast]
  have hb : h * w ≤ 64 := Nat.le_trans (Nat.mul_le_mul (show h ≤ 8 by omega) (show w ≤ 8 by omega)) (by omega)
  have a1 := plainI4 (w := w) (h := h) (by omega) (by omega) x h k 0 (by omega) (by omega)
  have a2 := plainS (w := w) (h := h) (by omega) (by omega) x (h * w) k 0 (by omega) (by omega)
  rw [Nat.zero_mul, List.replicate_zero, show ((0 : Nat) : Int) = 0 from rfl] at a1
  rw [List.replicate_zero, show ((0 : Nat) : Int) = 0 from rfl] at a2
  unfold impl_makeChart__impl_PlainChart_1.f impl_makeChart__impl_PlainChart_1.m
  rw [a1, a2]
  exact ⟨rfl, rfl⟩
theorem rep_get {n i : Nat} {x : Int} (h : i < n) : (List.replicate n x).getD i 0 = x := by rw [getD_lt (by rw [List.length_replicate]; exact h), List.getElem_replicate]
theorem run14 {w h : Nat} (hw : 1 ≤ w ∧ w ≤ 8) (hh : h ≤ 8) (x : Int) (i : Nat) (hi : i < h) : ∀ (d k j : Nat) (L F run : Int), j + d = w → d + 2 < k → (j = 0 ∨ run = j) → (j : Int) ≤ L ∧ L ≤ w ∧ 0 ≤ L → ∃ F', impl_LongestRun.l14 k (w : Int) (h : Int) (List.replicate (h * w) x) L F (i : Int) run (h : Int) (i : Int) (w : Int) (j : Int) = impl_LongestRun.l7 (k - d - 1) (w : Int) (h : Int) (List.replicate (h * w) x) (w : Int) F' (h : Int) ((i + 1 : Nat) : Int) := by
  have hb : h * w ≤ 64 := Nat.le_trans (Nat.mul_le_mul hh hw.2) (by omega)
  intro d
  induction d with
  | zero =>
    intro k j L F run h1 h2 h3 h4
    obtain ⟨k, rfl⟩ := succ_of (show 0 < k by omega)
    have : L = (w : Int) := by omega
    subst this
    refine ⟨F, ?_⟩
    simp (disch := omega) only [impl_LongestRun.l14, impl_LongestRun.b14, if_neg, w64_id]
    rw [show ((i + 1 : Nat) : Int) = (i : Int) + 1 by omega]; rfl
  | succ d ih =>
    intro k j L F run h1 h2 h3 h4
    obtain ⟨k, rfl⟩ := succ_of (show 0 < k by omega)
    rw [show k + 1 - (d + 1) - 1 = k - d - 1 by omega]
    have hij : i * w + w ≤ h * w := by rw [← Nat.succ_mul]; exact Nat.mul_le_mul_right _ hi
    simp only [impl_LongestRun.l14, impl_LongestRun.b14]
    rw [if_pos (by omega), w64_id (x := (j : Int) + 1) (by omega), show ((j : Int) + 1) = ((j + 1 : Nat) : Int) by omega, w64_id (x := (0 : Int) + 1) (by omega)]
    by_cases j0 : j = 0
    · subst j0
      rw [if_pos (show ((0 : Nat) : Int) = 0 from rfl)]
      by_cases e : L < 0 + 1
      · rw [if_pos e]; exact ih k 1 _ _ _ (by omega) (by omega) (.inr (by omega)) (by omega)
      · rw [if_neg e]; exact ih k 1 _ _ _ (by omega) (by omega) (.inr (by omega)) (by omega)
    · have hrun : run = (j : Int) := by omega
      have e1 : (i : Int) * (w : Int) = ((i * w : Nat) : Int) := (nat_mul_cast _ _).symm
      rw [if_neg (by omega), w64_id (x := (j : Int) - 1) (by omega)]
      rw [implAt_eq k w h _ (i : Int) (j : Int) (i * w + j) (by rw [e1]; omega) (by rw [List.length_replicate]; omega) (by rw [e1]; omega), implAt_eq k w h _ (i : Int) ((j : Int) - 1) (i * w + j - 1) (by rw [e1]; omega) (by rw [List.length_replicate]; omega) (by rw [e1]; omega)]
      simp only [Option.bind_some]
      rw [rep_get (by omega), rep_get (by omega), if_neg (fun hn => hn rfl), hrun, w64_id (x := (j : Int) + 1) (by omega)]
      by_cases e : L < (j : Int) + 1
      · rw [if_pos e]; exact ih k (j + 1) _ _ _ (by omega) (by omega) (.inr (by omega)) (by omega)
      · rw [if_neg e]; exact ih k (j + 1) _ _ _ (by omega) (by omega) (.inr (by omega)) (by omega)
theorem run7 {w h : Nat} (hw : 1 ≤ w ∧ w ≤ 8) (hh : h ≤ 8) (x : Int) : ∀ (d k i : Nat) (L F : Int), i + d = h → 12 * d + 5 < k → 0 ≤ L ∧ L ≤ w → (d = 0 → L = w) → ∃ F', impl_LongestRun.l7 k (w : Int) (h : Int) (List.replicate (h * w) x) L F (h : Int) (i : Int) = some ((w : Int), F', true) := by
  intro d
  induction d with
  | zero =>
    intro k i L F h1 h2 h3 h4
    obtain ⟨k, rfl⟩ := succ_of (show 0 < k by omega)
    rw [h4 rfl]
    exact ⟨F, by simp (disch := omega) only [impl_LongestRun.l7, impl_LongestRun.b7, if_neg]⟩
  | succ d ih =>
    intro k i L F h1 h2 h3 h4
    obtain ⟨k, rfl⟩ := succ_of (show 0 < k by omega)
    obtain ⟨F', e⟩ := run14 hw hh x i (by omega) w k 0 L F 0 (by omega) (by omega) (.inl rfl) (by omega)
    obtain ⟨F2, e2⟩ := ih (k - w - 1) (i + 1) (w : Int) F' (by omega) (by omega) (by omega) (fun _ => rfl)
    refine ⟨F2, ?_⟩
    simp (disch := omega) only [impl_LongestRun.l7, impl_LongestRun.b7, if_pos]
    rw [show ((0 : Nat) : Int) = 0 from rfl] at e
    rw [e, e2]
/-! ### The draws -/
theorem drawPart_ok (k : Nat) {l : List Int} (hb : By l) (hk : 3000 ≤ k) : Yl (spec_DrawPartOf.f k l) fun r => r.2.2.1.length ≤ 300 := by
  unfold spec_DrawPartOf.f spec_DrawPartOf.m
  refine Yl.bind (chart_ok k 0 hb (by omega) (by omega)) ?_
  rintro ⟨w, h, kn, l', a, s⟩ ⟨e1, e2, e3⟩
  dsimp only at *; subst e1
  (refine Yl.bind (pick_ok _ _ _ (by assumption) (by omega) (by omega)) ?_; rintro ⟨vq, lq, aq, sq⟩ ⟨eq1, eq2, eq3, eq4, eq5, eq6⟩; dsimp only at *; subst eq1)
  (refine Yl.bind (pick_ok _ _ _ (by assumption) (by omega) (by omega)) ?_; rintro ⟨vq, lq, aq, sq⟩ ⟨eq1, eq2, eq3, eq4, eq5, eq6⟩; dsimp only at *; subst eq1)
  unfold quo
  rw [if_neg (by omega)]; simp only [Option.bind_some]
  (refine Yl.bind (pick_ok _ _ _ (by assumption) (by omega) (by omega)) ?_; rintro ⟨vq, lq, aq, sq⟩ ⟨eq1, eq2, eq3, eq4, eq5, eq6⟩; dsimp only at *; subst eq1)
  (refine Yl.bind (pick_ok _ _ _ (by assumption) (by omega) (by omega)) ?_; rintro ⟨vq, lq, aq, sq⟩ ⟨eq1, eq2, eq3, eq4, eq5, eq6⟩; dsimp only at *; subst eq1)
  rw [if_neg (by omega)]; simp only [Option.bind_some]
  refine Yl.bind (most_ok _ _ _) ?_
  rintro r8 _
  (refine Yl.bind (pick_ok _ _ _ (by assumption) (by omega) (by omega)) ?_; rintro ⟨vq, lq, aq, sq⟩ ⟨eq1, eq2, eq3, eq4, eq5, eq6⟩; dsimp only at *; subst eq1)
  (refine Yl.bind (among_any _ _ (by simp) (by assumption) (by omega) (by omega)) ?_; rintro ⟨vq, lq, aq, sq, xq⟩ ⟨eq1, eq2, eq3, eq4⟩; dsimp only at *; subst eq1; subst eq2)
  refine Yl.bind (most_ok _ _ _) ?_
  rintro r11 _
  (refine Yl.bind (pick_ok _ _ _ (by assumption) (by omega) (by omega)) ?_; rintro ⟨vq, lq, aq, sq⟩ ⟨eq1, eq2, eq3, eq4, eq5, eq6⟩; dsimp only at *; subst eq1)
  (refine Yl.bind (among_any _ _ (by simp) (by assumption) (by omega) (by omega)) ?_; rintro ⟨vq, lq, aq, sq, xq⟩ ⟨eq1, eq2, eq3, eq4⟩; dsimp only at *; subst eq1; subst eq2)
  exact Yl.ret e2
theorem drawPut_ok (k : Nat) {l : List Int} (hb : By l) (hk : 3000 ≤ k) : Yl (spec_DrawPutPart.f k l) fun r => r.2.2.1.length ≤ 300 ∧ r.2.2.2.2.2.1.length ≤ 300 := by
  unfold spec_DrawPutPart.f spec_DrawPutPart.m
  refine Yl.bind (chart_ok k 0 hb (by omega) (by omega)) ?_
  rintro ⟨w, h, kn, l', a, s⟩ ⟨e1, e2, e3⟩
  dsimp only at *; subst e1
  have tail : ∀ {l' : List Int} {a : Int} (s W H : Int) (p : List Int), By l' → 0 ≤ a ∧ a ≤ 1000000 → p.length ≤ 300 → Yl (spec_DrawPutPart.l4 k 0 0 [] 0 0 [] l' a s w h kn W H p) fun r => r.2.2.1.length ≤ 300 ∧ r.2.2.2.2.2.1.length ≤ 300 := by
    intro l' a s W H p hb ha hp
    obtain ⟨k, rfl⟩ := succ_of (show 0 < k by omega)
    simp only [spec_DrawPutPart.l4, spec_DrawPutPart.b4]
    refine Yl.bind (most_ok _ _ _) ?_
    rintro r7 _
    (refine Yl.bind (pick_ok _ _ _ (by assumption) (by omega) (by omega)) ?_; rintro ⟨vq, lq, aq, sq⟩ ⟨eq1, eq2, eq3, eq4, eq5, eq6⟩; dsimp only at *; subst eq1)
    (refine Yl.bind (pick_ok _ _ _ (by assumption) (by omega) (by omega)) ?_; rintro ⟨vq, lq, aq, sq⟩ ⟨eq1, eq2, eq3, eq4, eq5, eq6⟩; dsimp only at *; subst eq1)
    unfold quo
    rw [if_neg (by omega)]; simp only [Option.bind_some]
    refine Yl.bind (most_ok _ _ _) ?_
    rintro r11 _
    (refine Yl.bind (pick_ok _ _ _ (by assumption) (by omega) (by omega)) ?_; rintro ⟨vq, lq, aq, sq⟩ ⟨eq1, eq2, eq3, eq4, eq5, eq6⟩; dsimp only at *; subst eq1)
    (refine Yl.bind (pick_ok _ _ _ (by assumption) (by omega) (by omega)) ?_; rintro ⟨vq, lq, aq, sq⟩ ⟨eq1, eq2, eq3, eq4, eq5, eq6⟩; dsimp only at *; subst eq1)
    rw [if_neg (by omega)]; simp only [Option.bind_some]
    exact Yl.ret ⟨e2, hp⟩
  refine Yl.bind (among_ok _ _ 1 3 (by simp) (by intro x hx; simp at hx; omega) hb (by omega) (by omega)) ?_
  rintro ⟨w1, l2, a1, s1, x1⟩ ⟨e1, f2, f3, f4, f5, f6⟩
  dsimp only at *; subst e1
  refine Yl.bind (among_ok _ _ 1 3 (by simp) (by intro x hx; simp at hx; omega) hb (by omega) (by omega)) ?_
  rintro ⟨h1, l2, a2, s2, x2⟩ ⟨e1, g2, g3, g4, g5, g6⟩
  dsimp only at *; subst e1
  refine Yl.bind (plain_ok k s2 (w := w1) (h := h1) (by omega) (by omega) hb (by omega) (by omega)) ?_
  rintro ⟨w', h', kn2, l2, a3, s3⟩ ⟨p1, p2, e1, p3, p4, p5⟩
  dsimp only at *; subst e1
  refine Yl.bind (one_ok _ _ _ hb (by omega) (by omega)) ?_
  rintro ⟨v, l2, a4, s4⟩ ⟨e1, q2, q3⟩
  dsimp only at *; subst e1
  refine Yl.cond (fun _ => ?_) fun _ => tail _ _ _ _ hb (by omega) (by omega)
  refine Yl.bind (chart_ok k s4 hb (by omega) (by omega)) ?_
  rintro ⟨w5, h5, kn5, l2, a5, s5⟩ ⟨e1, t2, t3⟩
  dsimp only at *; subst e1
  exact tail _ _ _ _ hb (by omega) (by omega)
theorem drawKnot_ok (k : Nat) {l : List Int} (hb : By l) (hk : 3000 ≤ k) : Yl (spec_DrawKnotAt.f k l) fun r => r.2.2.1.length ≤ 300 := by
  unfold spec_DrawKnotAt.f spec_DrawKnotAt.m
  refine Yl.bind (chart_ok k 0 hb (by omega) (by omega)) ?_
  rintro ⟨w, h, kn, l', a, s⟩ ⟨e1, e2, e3⟩
  dsimp only at *; subst e1
  (refine Yl.bind (pick_ok _ _ _ (by assumption) (by omega) (by omega)) ?_; rintro ⟨vq, lq, aq, sq⟩ ⟨eq1, eq2, eq3, eq4, eq5, eq6⟩; dsimp only at *; subst eq1)
  (refine Yl.bind (pick_ok _ _ _ (by assumption) (by omega) (by omega)) ?_; rintro ⟨vq, lq, aq, sq⟩ ⟨eq1, eq2, eq3, eq4, eq5, eq6⟩; dsimp only at *; subst eq1)
  unfold quo
  rw [if_neg (by omega)]; simp only [Option.bind_some]
  (refine Yl.bind (pick_ok _ _ _ (by assumption) (by omega) (by omega)) ?_; rintro ⟨vq, lq, aq, sq⟩ ⟨eq1, eq2, eq3, eq4, eq5, eq6⟩; dsimp only at *; subst eq1)
  (refine Yl.bind (pick_ok _ _ _ (by assumption) (by omega) (by omega)) ?_; rintro ⟨vq, lq, aq, sq⟩ ⟨eq1, eq2, eq3, eq4, eq5, eq6⟩; dsimp only at *; subst eq1)
  rw [if_neg (by omega)]; simp only [Option.bind_some]
  exact Yl.ret e2
theorem drawPlain_ok (k : Nat) {l : List Int} (hb : By l) (hk : 3000 ≤ k) : Yl (spec_DrawPlainChart.f k l) fun _ => True := by
  unfold spec_DrawPlainChart.f spec_DrawPlainChart.m spec_l1Cur_color.f spec_l1Cur_color.m
  (refine Yl.bind (among_any _ _ (by simp) (by assumption) (by omega) (by omega)) ?_; rintro ⟨vq, lq, aq, sq, xq⟩ ⟨eq1, eq2, eq3, eq4⟩; dsimp only at *; subst eq1; subst eq2)
  (refine Yl.bind (among_any _ _ (by simp) (by assumption) (by omega) (by omega)) ?_; rintro ⟨vq, lq, aq, sq, xq⟩ ⟨eq1, eq2, eq3, eq4⟩; dsimp only at *; subst eq1; subst eq2)
  refine Yl.bind (P := fun _ => True) ?_ fun _ _ => Yl.ret trivial
  (refine Yl.bind (among_any _ _ (by simp) (by assumption) (by omega) (by omega)) ?_; rintro ⟨vq, lq, aq, sq, xq⟩ ⟨eq1, eq2, eq3, eq4⟩; dsimp only at *; subst eq1; subst eq2)
  exact Yl.ret trivial
/-! ### The law -/
theorem parts23 (k : Nat) {l : List Int} (hb : By l) (hk : 4000 ≤ k) : laws_FnParts.l23 k l = some true := by
  obtain ⟨k, rfl⟩ := succ_of (show 0 < k by omega)
  simp only [laws_FnParts.l23, laws_FnParts.b23]
  obtain ⟨⟨w, h, kn, r, c⟩, e, h1⟩ := drawKnot_ok k hb (by omega)
  dsimp only at h1
  rw [e]; simp only [Option.bind_some]
  obtain ⟨k1, k2⟩ := knotAt_eq k w h kn r c (by omega) (by omega)
  rw [k1, k2]; simp only [Option.bind_some, not_true, if_false]
  obtain ⟨⟨w, h, x⟩, e, _⟩ := drawPlain_ok k hb (by omega)
  rw [e]; simp only [Option.bind_some]
  obtain ⟨k1, k2⟩ := plainChart_eq k w h x (by omega)
  rw [k1, k2]; simp only [Option.bind_some, not_true, if_false]
  unfold plainOut
  by_cases hc : inB w 1 8 = true ∧ inB h 1 8 = true ∧ colorB x = true
  · obtain ⟨c1, c2, c3⟩ := hc
    rw [if_pos ⟨c1, c2, c3⟩]; simp only
    rw [inB_iff] at c1 c2
    obtain ⟨w, rfl⟩ := Int.eq_ofNat_of_zero_le (show 0 ≤ w by omega)
    obtain ⟨h, rfl⟩ := Int.eq_ofNat_of_zero_le (show 0 ≤ h by omega)
    simp only [Int.toNat_natCast]
    have hbd : h * w ≤ 64 := Nat.le_trans (Nat.mul_le_mul (show h ≤ 8 by omega) (show w ≤ 8 by omega)) (by omega)
    rw [vChart_self k _ _ _ (by rw [List.length_replicate]; omega) (by omega)]; simp only [Option.bind_some, Bool.not_true, Bool.not_false, cond_true, cond_false, Bool.true_and, Bool.false_and, Bool.and_true, Bool.and_false, Bool.false_eq_true, Bool.true_or, Bool.or_true, Bool.false_or, Bool.or_false, Bool.or_self, Bool.and_self, decide_true, decide_false, if_true, if_false, not_true, not_false_eq_true, not_true_eq_false, false_or, or_false, true_and, and_true, Bool.not_eq_true, Bool.true_eq_false, reduceCtorEq]
    have hg : goodB (w : Int) (h : Int) (List.replicate (h * w) x) = true := by
      unfold goodB
      simp only [Bool.and_eq_true, decide_eq_true_eq, List.all_eq_true, inB_iff]
      refine ⟨⟨⟨c1, c2⟩, by rw [List.length_replicate, nat_mul_cast, Int.mul_comm]⟩, fun y hy => ?_⟩
      rw [List.mem_replicate] at hy
      rw [hy.2]; exact c3
    obtain ⟨F', er⟩ := run7 (w := w) (h := h) (by omega) (by omega) x h k 0 0 0 (by omega) (by omega) (by omega) (fun hz => by omega)
    unfold impl_LongestRun.f impl_LongestRun.m
    rw [isChart_eq k w h _ (by rw [List.length_replicate]; omega) (by rw [List.length_replicate]; omega), hg]; simp only [Option.bind_some, Bool.not_true, Bool.not_false, cond_true, cond_false, Bool.true_and, Bool.false_and, Bool.and_true, Bool.and_false, Bool.false_eq_true, Bool.true_or, Bool.or_true, Bool.false_or, Bool.or_false, Bool.or_self, Bool.and_self, decide_true, decide_false, if_true, if_false, not_true, not_false_eq_true, not_true_eq_false, false_or, or_false, true_and, and_true, Bool.not_eq_true, Bool.true_eq_false, reduceCtorEq]
    rw [show ((0 : Nat) : Int) = 0 from rfl] at er
    rw [er]; simp only [Option.bind_some, Bool.not_true, Bool.not_false, cond_true, cond_false, Bool.true_and, Bool.false_and, Bool.and_true, Bool.and_false, Bool.false_eq_true, Bool.true_or, Bool.or_true, Bool.false_or, Bool.or_false, Bool.or_self, Bool.and_self, decide_true, decide_false, if_true, if_false, not_true, not_false_eq_true, not_true_eq_false, false_or, or_false, true_and, and_true, Bool.not_eq_true, Bool.true_eq_false, reduceCtorEq]
  · rw [if_neg hc]; simp only
    rw [vChart_self k 0 0 [] (by simp) (by omega)]; simp only [Option.bind_some, Bool.not_true, Bool.not_false, cond_true, cond_false, Bool.true_and, Bool.false_and, Bool.and_true, Bool.and_false, Bool.false_eq_true, Bool.true_or, Bool.or_true, Bool.false_or, Bool.or_false, Bool.or_self, Bool.and_self, decide_true, decide_false, if_true, if_false, not_true, not_false_eq_true, not_true_eq_false, false_or, or_false, true_and, and_true, Bool.not_eq_true, Bool.true_eq_false, reduceCtorEq]
theorem parts10 (k : Nat) {l : List Int} (hb : By l) (hk : 5000 ≤ k) : laws_FnParts.l10 k l = some true := by
  obtain ⟨k, rfl⟩ := succ_of (show 0 < k by omega)
  simp only [laws_FnParts.l10, laws_FnParts.b10]
  obtain ⟨⟨w, h, kn, W, H, p, R, C⟩, e, h1, h2⟩ := drawPut_ok k hb (by omega)
  dsimp only at h1 h2
  rw [e]; simp only [Option.bind_some]
  obtain ⟨k1, k2⟩ := putPart_eq k w h kn W H p R C (by omega) (by omega) (by omega)
  have hlen := putOut_len w h kn W H p R C
  have h23 := parts23 k hb (by omega)
  rw [k1, k2]; simp only [Option.bind_some, not_true, if_false]
  rw [vChart_self k _ _ _ (by omega) (by omega)]; simp only [Option.bind_some, Bool.not_true, Bool.not_false, cond_true, cond_false, Bool.true_and, Bool.false_and, Bool.and_true, Bool.and_false, Bool.false_eq_true, Bool.true_or, Bool.or_true, Bool.false_or, Bool.or_false, Bool.or_self, Bool.and_self, decide_true, decide_false, if_true, if_false, not_true, not_false_eq_true, not_true_eq_false, false_or, or_false, true_and, and_true, Bool.not_eq_true, Bool.true_eq_false, reduceCtorEq]
  unfold putOut at hlen ⊢
  by_cases hc : goodB w h kn = true ∧ goodB W H p = true ∧ fitsB w h R C H W = true
  · obtain ⟨c1, c2, c3⟩ := hc
    rw [if_pos ⟨c1, c2, c3⟩] at hlen ⊢
    simp only [cond_true] at hlen ⊢
    have hg := put_good c1 c2 c3
    rw [(partOf_eq k w h _ R C H W (by omega) (by omega)).1]; simp only [Option.bind_some]
    unfold partOut
    rw [if_pos ⟨hg, c3⟩, part_put c1 c2 c3]; simp only [Bool.not_true, cond_false]
    rw [vChart_self k _ _ _ (by omega) (by omega)]; simp only [Option.bind_some, Bool.not_true, Bool.not_false, cond_true, cond_false, Bool.true_and, Bool.false_and, Bool.and_true, Bool.and_false, Bool.false_eq_true, Bool.true_or, Bool.or_true, Bool.false_or, Bool.or_false, Bool.or_self, Bool.and_self, decide_true, decide_false, if_true, if_false, not_true, not_false_eq_true, not_true_eq_false, false_or, or_false, true_and, and_true, Bool.not_eq_true, Bool.true_eq_false, reduceCtorEq]
    exact h23
  · rw [if_neg hc]; simp only [cond_false]; exact h23
theorem pure_holds : Pure := by
  intro l _ hw
  have hb := By.of hw
  refine ⟨10000, ?_⟩
  unfold laws_FnParts.f laws_FnParts.m laws_vBig.f laws_vBig.m
  simp only [Option.bind_some]
  cases decide (65536 < (l.length : Int)) with
  | true => rfl
  | false =>
  simp only [Bool.not_true, Bool.not_false, cond_true, cond_false, Bool.true_and, Bool.false_and, Bool.and_true, Bool.and_false, Bool.false_eq_true, Bool.true_or, Bool.or_true, Bool.false_or, Bool.or_false, Bool.or_self, Bool.and_self, decide_true, decide_false, if_true, if_false, not_true, not_false_eq_true, not_true_eq_false, false_or, or_false, true_and, and_true, Bool.not_eq_true, Bool.true_eq_false, reduceCtorEq]
  obtain ⟨⟨w, h, kn, R, C, H, W⟩, e, h1⟩ := drawPart_ok 10000 hb (by omega)
  dsimp only at h1
  rw [e]; simp only [Option.bind_some]
  have h10 := parts10 10000 hb (by omega)
  obtain ⟨k1, k2⟩ := partOf_eq 10000 w h kn R C H W (by omega) (by omega)
  rw [k1, k2]; simp only [Option.bind_some, not_true, if_false]
  unfold partOut
  by_cases hc : goodB w h kn = true ∧ fitsB w h R C H W = true
  · obtain ⟨c1, c3⟩ := hc
    have hg := part_good c1 c3
    have hbk := put_back c1 c3
    rw [if_pos ⟨c1, c3⟩]; simp only
    have hpl : (partR w.toNat R.toNat C.toNat W.toNat kn H.toNat 0).length ≤ 64 := by
      obtain ⟨g1, g2, g3, _⟩ := good_of hg
      have := mul_bd g1 g2
      omega
    have hrow : (partR w.toNat R.toNat C.toNat W.toNat kn H.toNat 0).getD 0 0 = kn.getD (R * w + C).toNat 0 := by
      obtain ⟨g1, g2, g3, _⟩ := good_of c1
      obtain ⟨⟨f1, f2⟩, ⟨f3, f4⟩, f5, f6⟩ := fits_of c3
      obtain ⟨w, rfl⟩ := Int.eq_ofNat_of_zero_le (show 0 ≤ w by omega)
      obtain ⟨h, rfl⟩ := Int.eq_ofNat_of_zero_le (show 0 ≤ h by omega)
      obtain ⟨W, rfl⟩ := Int.eq_ofNat_of_zero_le (show 0 ≤ W by omega)
      obtain ⟨H, rfl⟩ := Int.eq_ofNat_of_zero_le (show 0 ≤ H by omega)
      obtain ⟨R, rfl⟩ := Int.eq_ofNat_of_zero_le f1
      obtain ⟨C, rfl⟩ := Int.eq_ofNat_of_zero_le f2
      simp only [Int.toNat_natCast]
      have hl2 := lenN g3
      obtain ⟨H, rfl⟩ : ∃ n, H = n + 1 := ⟨H - 1, by omega⟩
      have hr := rowL (w := w) (h := h) (R := R) (C := C) (W := W) (H := H + 1) (r := 0) hl2 (by omega) (by omega) (by omega)
      have e1 : ((R : Int) * (w : Int) + (C : Int)).toNat = R * w + C := by rw [← nat_mul_cast]; omega
      rw [e1]
      unfold partR
      rw [Nat.add_zero] at *
      rw [getD_lt (by rw [List.length_append, hr.2]; omega), getD_lt (by omega), List.getElem_append_left (by rw [hr.2]; omega), List.getElem_take, List.getElem_drop]
      simp
    generalize hpp : partR w.toNat R.toNat C.toNat W.toNat kn H.toNat 0 = p at *
    rw [vChart_self 10000 _ _ _ (by omega) (by omega)]; simp only [Option.bind_some, Bool.not_true, Bool.not_false, cond_true, cond_false, Bool.true_and, Bool.false_and, Bool.and_true, Bool.and_false, Bool.false_eq_true, Bool.true_or, Bool.or_true, Bool.false_or, Bool.or_false, Bool.or_self, Bool.and_self, decide_true, decide_false, if_true, if_false, not_true, not_false_eq_true, not_true_eq_false, false_or, or_false, true_and, and_true, Bool.not_eq_true, Bool.true_eq_false, reduceCtorEq]
    rw [(putPart_eq 10000 w h kn W H p R C (by omega) (by omega) (by omega)).2]; simp only [Option.bind_some]
    unfold putOut
    rw [if_pos ⟨c1, hg, c3⟩, hbk, (knotAt_eq 10000 W H p 0 0 (by omega) (by omega)).1, (knotAt_eq 10000 w h kn R C (by omega) (by omega)).1]; simp only [Option.bind_some, Bool.not_true, Bool.not_false, cond_true, cond_false, Bool.true_and, Bool.false_and, Bool.and_true, Bool.and_false, Bool.false_eq_true, Bool.true_or, Bool.or_true, Bool.false_or, Bool.or_false, Bool.or_self, Bool.and_self, decide_true, decide_false, if_true, if_false, not_true, not_false_eq_true, not_true_eq_false, false_or, or_false, true_and, and_true, Bool.not_eq_true, Bool.true_eq_false, reduceCtorEq]
    rw [vChart_self 10000 _ _ _ (by omega) (by omega)]; simp only [Option.bind_some, Bool.not_true, Bool.not_false, cond_true, cond_false, Bool.true_and, Bool.false_and, Bool.and_true, Bool.and_false, Bool.false_eq_true, Bool.true_or, Bool.or_true, Bool.false_or, Bool.or_false, Bool.or_self, Bool.and_self, decide_true, decide_false, if_true, if_false, not_true, not_false_eq_true, not_true_eq_false, false_or, or_false, true_and, and_true, Bool.not_eq_true, Bool.true_eq_false, reduceCtorEq]
    obtain ⟨g1, g2, g3, _⟩ := good_of c1
    obtain ⟨⟨f1, f2⟩, ⟨f3, f4⟩, f5, f6⟩ := fits_of c3
    unfold knotOut
    rw [if_pos ⟨hg, inB_of (by omega), inB_of (by omega)⟩, if_pos ⟨c1, inB_of (by omega), inB_of (by omega)⟩]; simp only [Bool.not_true, Bool.not_false, cond_true, cond_false, Bool.true_and, Bool.false_and, Bool.and_true, Bool.and_false, Bool.false_eq_true, Bool.true_or, Bool.or_true, Bool.false_or, Bool.or_false, Bool.or_self, Bool.and_self, decide_true, decide_false, if_true, if_false, not_true, not_false_eq_true, not_true_eq_false, false_or, or_false, true_and, and_true, Bool.not_eq_true, Bool.true_eq_false, reduceCtorEq]
    rw [Int.zero_mul, Int.add_zero, show (0 : Int).toNat = 0 from rfl, hrow, if_neg (fun hn => hn rfl)]
    exact h10
  · rw [if_neg hc]; simp only
    rw [vChart_self 10000 0 0 [] (by simp) (by omega)]; simp only [Option.bind_some, Bool.not_true, Bool.not_false, cond_true, cond_false, Bool.true_and, Bool.false_and, Bool.and_true, Bool.and_false, Bool.false_eq_true, Bool.true_or, Bool.or_true, Bool.false_or, Bool.or_false, Bool.or_self, Bool.and_self, decide_true, decide_false, if_true, if_false, not_true, not_false_eq_true, not_true_eq_false, false_or, or_false, true_and, and_true, Bool.not_eq_true, Bool.true_eq_false, reduceCtorEq]
    exact h10
end Go.Proofs.Ytijmljaemalgmaa.DFnParts
