/- The program's AddBorder returns what the reference's AddBorder returns, for every chart and every pattern. -/
import Derived.Test.YteiaakppjcpgcaaDFnExactAddBorder
set_option linter.unusedVariables false
set_option linter.unusedSimpArgs false
set_option maxRecDepth 100000
namespace Go.Proofs.Yteiaakppjcpgcaa.DFnExactAddBorder
open Go Go.Proofs.YteiaakppjcpgcaaD
theorem succ_of {k : Nat} (h : 0 < k) : ∃ j, k = j + 1 := ⟨k - 1, by omega⟩
theorem w64_id {x : Int} (h : -9223372036854775808 ≤ x ∧ x ≤ 9223372036854775807) : w64 x = x := by
  unfold w64 IntKind.wrap
  simp [IntKind.signed, IntKind.bits]
  omega
theorem chk_nat {n j : Nat} (h : j < n) : chk n (j : Int) = some j := by unfold chk; rw [if_pos (by omega)]; simp
theorem chk_int {n : Nat} {i : Int} (h : 0 ≤ i ∧ i < n) : chk n i = some i.toNat := by unfold chk; rw [if_pos h]
theorem cut_int {n : Nat} {i j : Int} (h : 0 ≤ i ∧ i ≤ j ∧ j ≤ n) : cut n i j = some (i.toNat, j.toNat - i.toNat) := by unfold cut; rw [if_pos h]
theorem cutTo_int {n : Nat} {j : Int} (h : 0 ≤ j ∧ j ≤ n) : cutTo n j = some j.toNat := by unfold cutTo; rw [if_pos h]
theorem cut3_int {n : Nat} {i j m : Int} (h : 0 ≤ i ∧ i ≤ j ∧ j ≤ m ∧ m ≤ n) : cut3 n i j m = some () := by unfold cut3; rw [if_pos h]
theorem mkl_int {L : Nat} {n c : Int} (h : 0 ≤ n ∧ n ≤ c ∧ c ≤ L) : mkl L n c = some n.toNat := by unfold mkl; rw [if_pos h]
theorem selfApp_nat {i lo m : Nat} (h : i ≤ lo) : selfApp i lo m = some (i + m) := by unfold selfApp; rw [if_pos h]
section
variable {β : Type}
theorem app_ok {L : Nat} {xs ys : List β} (h : xs.length + ys.length ≤ L) : app L xs ys = some (xs ++ ys) := by unfold app; rw [if_pos h]
theorem chk_mid (p : List β) (a : β) (q : List β) : chk (p ++ a :: q).length (p.length : Int) = some p.length := chk_nat (by simp)
theorem getD_mid (p : List β) (a : β) (q : List β) (d : β) : (p ++ a :: q).getD p.length d = a := by
  rw [List.getD_eq_getElem?_getD, List.getElem?_append_right (Nat.le_refl _)]; simp
theorem set_mid (p : List β) (a b : β) (q : List β) : (p ++ a :: q).set p.length b = p ++ b :: q := by
  rw [List.set_append_right _ _ (Nat.le_refl _)]; simp
theorem upd_mid (p : List β) (a : β) (q : List β) (d : β) (f : β → β) : upd (p ++ a :: q) p.length d f = p ++ f a :: q := by
  unfold upd; rw [getD_mid, set_mid]
theorem upd_len (xs : List β) (j : Nat) (d : β) (f : β → β) : (upd xs j d f).length = xs.length := by unfold upd; simp
theorem upd_of {xs : List β} {j : Nat} {d : β} {f : β → β} : upd xs j d f = xs.set j (f (xs.getD j d)) := rfl
theorem lt_mid (p : List β) (a : β) (q : List β) : (p.length : Int) < ((p ++ a :: q).length : Nat) := by simp; omega
theorem next_mid {p : List β} {a : β} {q : List β} (h : (p ++ a :: q).length ≤ 1152921504606846976) : w64 ((p.length : Int) + 1) = ((p ++ [a]).length : Nat) := by
  rw [w64_id (by simp at h; omega)]; simp
theorem snoc_app (p : List β) (a : β) (q : List β) : p ++ a :: q = (p ++ [a]) ++ q := by simp
theorem getD_lt {xs : List β} {i : Nat} {d : β} (h : i < xs.length) : xs.getD i d = xs[i] := by
  rw [List.getD_eq_getElem?_getD, List.getElem?_eq_getElem h]; rfl
theorem getD_set {xs : List β} {i j : Nat} {a d : β} (h : i < xs.length) : (xs.set i a).getD j d = if i = j then a else xs.getD j d := by
  rw [List.getD_eq_getElem?_getD, List.getD_eq_getElem?_getD, List.getElem?_set]
  split
  · rename_i e; subst e; simp [h]
  · rfl
theorem some_bind {γ : Type} (x : β) (f : β → Option γ) : (some x).bind f = f x := rfl
end
def inB (n lo hi : Int) : Bool := decide (lo ≤ n) && decide (n ≤ hi)
theorem inB_iff {n lo hi : Int} : inB n lo hi = true ↔ lo ≤ n ∧ n ≤ hi := by unfold inB; simp
theorem inB_of {n lo hi : Int} (h : lo ≤ n ∧ n ≤ hi) : inB n lo hi = true := inB_iff.2 h
theorem notB {b : Bool} (h : ¬ b = true) : b = false := by cases b <;> simp_all
theorem all_loop {β : Type} {L : Nat → Nat → Option β} {n K0 : Nat} {ok : Nat → Bool} {f : Option β} (hs : ∀ k i, K0 ≤ k → i < n → L (k + 1) i = if ok i = true then L k (i + 1) else f) :
    ∀ (d k i : Nat), i + d = n → K0 + d < k → (∀ e, (∀ k, K0 ≤ k → L (k + 1) n = e) → (∀ j, i ≤ j → j < n → ok j = true) → L k i = e) ∧ ((∃ j, i ≤ j ∧ j < n ∧ ok j = false) → L k i = f) := by
  intro d
  induction d with
  | zero =>
    intro k i h1 h2
    obtain ⟨k, rfl⟩ := succ_of (show 0 < k by omega)
    have : i = n := by omega
    subst this
    exact ⟨fun e he _ => he k (by omega), fun ⟨j, a, b, _⟩ => by omega⟩
  | succ d ih =>
    intro k i h1 h2
    obtain ⟨k, rfl⟩ := succ_of (show 0 < k by omega)
    have := ih k (i + 1) (by omega) (by omega)
    rw [hs k i (by omega) (by omega)]
    refine ⟨fun e he h => ?_, fun ⟨j, a, b, c⟩ => ?_⟩
    · rw [if_pos (h i (Nat.le_refl _) (by omega))]; exact this.1 e he fun j a b => h j (by omega) b
    · by_cases e : ok i = true
      · rw [if_pos e]
        refine this.2 ⟨j, ?_, b, c⟩
        rcases Nat.lt_or_ge i j with h | h
        · exact h
        · have : j = i := by omega
          subst this; rw [e] at c; cases c
      · rw [if_neg e]
theorem exists_bad {n : Nat} {ok : Nat → Bool} (h : ¬ ∀ i, i < n → ok i = true) : ∃ j, 0 ≤ j ∧ j < n ∧ ok j = false := by
  apply Classical.byContradiction; intro hn
  refine h fun j hj => ?_
  cases hc : ok j with
  | true => rfl
  | false => exact absurd ⟨j, Nat.zero_le _, hj, hc⟩ hn
theorem first_bad {n : Nat} {ok : Nat → Bool} (h : ¬ ∀ i, i < n → ok i = true) : ∃ j, j < n ∧ ok j = false ∧ ∀ i, i < j → ok i = true := by
  induction n with
  | zero => exact absurd (fun i hi => by omega) h
  | succ n ih =>
    by_cases h1 : ∀ i, i < n → ok i = true
    · refine ⟨n, by omega, ?_, h1⟩
      cases hc : ok n with
      | false => rfl
      | true => exact absurd (fun i hi => by
          rcases Nat.lt_or_ge i n with h' | h'
          · exact h1 i h'
          · have : i = n := by omega
            rw [this]; exact hc) h
    · obtain ⟨j, a, b, c⟩ := ih h1
      exact ⟨j, by omega, b, c⟩
theorem find_loop {L : Nat → Nat → Option Int} {n K0 : Nat} {ok : Nat → Bool} (hs : ∀ k i, K0 ≤ k → i < n → L (k + 1) i = if ok i = true then some (i : Int) else L k (i + 1)) (he : ∀ k, K0 ≤ k → L (k + 1) n = some (-1)) :
    ∀ (d k i : Nat), i + d = n → K0 + d < k → ((∀ j, i ≤ j → j < n → ok j = false) → L k i = some (-1)) ∧ (∀ m, i ≤ m → m < n → ok m = true → (∀ j, i ≤ j → j < m → ok j = false) → L k i = some (m : Int)) := by
  intro d
  induction d with
  | zero =>
    intro k i h1 h2
    obtain ⟨k, rfl⟩ := succ_of (show 0 < k by omega)
    have : i = n := by omega
    subst this
    exact ⟨fun _ => he k (by omega), fun m a b _ _ => by omega⟩
  | succ d ih =>
    intro k i h1 h2
    obtain ⟨k, rfl⟩ := succ_of (show 0 < k by omega)
    have := ih k (i + 1) (by omega) (by omega)
    rw [hs k i (by omega) (by omega)]
    refine ⟨fun h => ?_, fun m a b c h => ?_⟩
    · rw [if_neg (by rw [h i (Nat.le_refl _) (by omega)]; simp)]; exact this.1 fun j a b => h j (by omega) b
    · by_cases e : ok i = true
      · rw [if_pos e]
        rcases Nat.lt_or_ge i m with h' | h'
        · have := h i (Nat.le_refl _) h'; rw [e] at this; cases this
        · have : m = i := by omega
          rw [this]
      · rw [if_neg e]
        refine this.2 m ?_ b c fun j a b => h j (by omega) b
        rcases Nat.lt_or_ge i m with h' | h'
        · exact h'
        · have : m = i := by omega
          subst this; exact absurd c e
theorem stepb {α γ : Type} {a : Option α} {x : α} {f : α → Option γ} {r : Option γ} (h : a = some x) (g : f x = r) : a.bind f = r := by rw [h]; exact g
theorem ifn {γ : Type} {c : Prop} {i : Decidable c} {t e r : γ} (h : ¬ c) (g : e = r) : @ite γ c i t e = r := by rw [if_neg h]; exact g
theorem condt {γ : Type} {a b r : γ} (g : b = r) : cond (!true) a b = r := g
def colorB (x : Int) : Bool := inB x 0 5
def goodB (w h : Int) (l : List Int) : Bool := inB w 1 8 && inB h 1 8 && decide ((l.length : Int) = w * h) && l.all colorB
theorem mul_bd {w h : Int} (hw : 1 ≤ w ∧ w ≤ 8) (hh : 1 ≤ h ∧ h ≤ 8) : 1 ≤ w * h ∧ w * h ≤ 64 := by
  obtain ⟨a, b⟩ := hw; obtain ⟨c, d⟩ := hh
  have h1 : w = 1 ∨ w = 2 ∨ w = 3 ∨ w = 4 ∨ w = 5 ∨ w = 6 ∨ w = 7 ∨ w = 8 := by omega
  rcases h1 with rfl | rfl | rfl | rfl | rfl | rfl | rfl | rfl <;> omega
theorem good_of {w h : Int} {l : List Int} (hg : goodB w h l = true) : (1 ≤ w ∧ w ≤ 8) ∧ (1 ≤ h ∧ h ≤ 8) ∧ (l.length : Int) = w * h ∧ ∀ x ∈ l, 0 ≤ x ∧ x ≤ 5 := by
  unfold goodB at hg
  simp only [Bool.and_eq_true, decide_eq_true_eq, List.all_eq_true, inB_iff] at hg
  exact ⟨hg.1.1.1, hg.1.1.2, hg.1.2, fun x hx => inB_iff.1 (hg.2 x hx)⟩
theorem allI_iff (p : Int → Bool) (xs : List Int) : xs.all p = true ↔ ∀ i, i < xs.length → p (xs.getD i 0) = true := by
  rw [List.all_eq_true]
  constructor
  · intro h i hi; rw [getD_lt hi]; exact h _ (List.getElem_mem hi)
  · intro h x hx
    obtain ⟨i, hi, rfl⟩ := List.mem_iff_getElem.1 hx
    rw [← getD_lt (d := 0) hi]; exact h i hi
theorem specIn_eq (k : Nat) (n lo hi : Int) : spec_l1In.f k n lo hi = some (inB n lo hi) := by
  unfold spec_l1In.f spec_l1In.m inB; by_cases h : lo ≤ n <;> simp [h]
theorem implIn_eq (k : Nat) (n lo hi : Int) : impl_in.f k n lo hi = some (inB n lo hi) := by
  unfold impl_in.f impl_in.m inB; by_cases h : lo ≤ n <;> simp [h]
theorem l2Color_eq (k : Nat) (n : Int) : spec_l2Color.f k n = some (colorB n) := by unfold spec_l2Color.f spec_l2Color.m; rw [specIn_eq]; rfl
theorem l2Side_eq (k : Nat) (n : Int) : spec_l2Side.f k n = some (inB n 1 8) := by unfold spec_l2Side.f spec_l2Side.m; rw [specIn_eq]; rfl
theorem isColor_eq (k : Nat) (n : Int) : impl_isColor.f k n = some (colorB n) := by unfold impl_isColor.f impl_isColor.m; rw [implIn_eq]; rfl
theorem isSide_eq (k : Nat) (n : Int) : impl_isSide.f k n = some (inB n 1 8) := by unfold impl_isSide.f impl_isSide.m; rw [implIn_eq]; rfl
theorem l2Good_eq (k : Nat) (w h : Int) (l : List Int) (hl : l.length ≤ 100000000000000) (hk : l.length + 50 ≤ k) : spec_l2Good.f k w h l = some (goodB w h l) := by
  unfold spec_l2Good.f spec_l2Good.m
  have hq := (all_loop (L := fun k i => spec_l2Good.l3 k w h l (i : Int)) (n := l.length) (K0 := 20) (ok := fun i => colorB (l.getD i 0)) (f := some false) (fun k i hk hi => ?_)) l.length k 0 (by omega) (by omega)
  · rw [show ((0 : Nat) : Int) = 0 from rfl] at hq
    by_cases hc : l.all colorB = true
    · rw [hq.1 _ (fun k hk => ?_) (fun j _ hj => (allI_iff _ _).1 hc j hj)]
      simp (disch := omega) only [spec_l2Good.l3, spec_l2Good.b3, if_neg, l2Side_eq, Option.bind_some]
      unfold goodB
      cases e1 : inB w 1 8 <;> simp only [Bool.not_true, Bool.not_false, cond_true, cond_false, Bool.true_and, Bool.false_and, Bool.and_true, Bool.and_false, Bool.false_eq_true, Bool.true_or, Bool.or_true, Bool.false_or, Bool.or_false, Bool.or_self, Bool.and_self, decide_true, decide_false, if_true, if_false, not_true, not_false_eq_true, not_true_eq_false, false_or, or_false, true_and, and_true, Bool.not_eq_true, Bool.true_eq_false, reduceCtorEq]
      cases e2 : inB h 1 8 <;> simp only [Bool.not_true, Bool.not_false, cond_true, cond_false, Bool.true_and, Bool.false_and, Bool.and_true, Bool.and_false, Bool.false_eq_true, Bool.true_or, Bool.or_true, Bool.false_or, Bool.or_false, Bool.or_self, Bool.and_self, decide_true, decide_false, if_true, if_false, not_true, not_false_eq_true, not_true_eq_false, false_or, or_false, true_and, and_true, Bool.not_eq_true, Bool.true_eq_false, reduceCtorEq, hc, Option.bind_some]
      have := mul_bd (inB_iff.1 e1) (inB_iff.1 e2)
      rw [w64_id (by omega)]
    · rw [hq.2 (exists_bad fun hn => hc ((allI_iff _ _).2 hn))]
      unfold goodB; rw [notB hc]; simp
  · simp (disch := omega) only [spec_l2Good.l3, spec_l2Good.b3, if_pos, chk_nat, Option.bind_some, w64_id, l2Color_eq, Int.natCast_add, Int.cast_ofNat_Int]
    cases colorB (l.getD i 0) <;> simp only [Bool.not_true, Bool.not_false, cond_true, cond_false, Bool.true_and, Bool.false_and, Bool.and_true, Bool.and_false, Bool.false_eq_true, Bool.true_or, Bool.or_true, Bool.false_or, Bool.or_false, Bool.or_self, Bool.and_self, decide_true, decide_false, if_true, if_false, not_true, not_false_eq_true, not_true_eq_false, false_or, or_false, true_and, and_true, Bool.not_eq_true, Bool.true_eq_false, reduceCtorEq]
theorem areColors_eq (k : Nat) (l : List Int) (hl : l.length ≤ 100000000000000) (hk : l.length + 50 ≤ k) : impl_areAll_int__impl_isColor.f k l = some (l.all colorB) := by
  unfold impl_areAll_int__impl_isColor.f impl_areAll_int__impl_isColor.m slices_ContainsFunc_int_int__impl_areAll_int_1__impl_isColor.f slices_ContainsFunc_int_int__impl_areAll_int_1__impl_isColor.m slices_IndexFunc_int_int__impl_areAll_int_1__impl_isColor.f slices_IndexFunc_int_int__impl_areAll_int_1__impl_isColor.m
  have h := (find_loop (L := fun k i => slices_IndexFunc_int_int__impl_areAll_int_1__impl_isColor.l3 k l l.length (i : Int)) (n := l.length) (K0 := 20) (ok := fun i => !colorB (l.getD i 0)) (fun k i hk hi => ?_) (fun k hk => ?_)) l.length k 0 (by omega) (by omega)
  · rw [show ((0 : Nat) : Int) = 0 from rfl] at h
    by_cases ha : l.all colorB = true
    · rw [h.1 (fun j _ hj => by rw [(allI_iff _ _).1 ha j hj]; rfl), ha]; rfl
    · obtain ⟨m, h1, h2, h3⟩ := first_bad (n := l.length) (ok := fun i => colorB (l.getD i 0)) (fun hn => ha ((allI_iff _ _).2 hn))
      rw [h.2 m (Nat.zero_le _) h1 (by rw [h2]; rfl) (fun j _ hj => by rw [h3 j hj]; rfl), notB ha]
      simp
  · simp (disch := omega) only [slices_IndexFunc_int_int__impl_areAll_int_1__impl_isColor.l3, slices_IndexFunc_int_int__impl_areAll_int_1__impl_isColor.b3, impl_areAll_int_1__impl_isColor.f, impl_areAll_int_1__impl_isColor.m, isColor_eq, if_pos, chk_nat, Option.bind_some, w64_id, Int.natCast_add, Int.cast_ofNat_Int]
    cases colorB (l.getD i 0) <;> simp only [Bool.not_true, Bool.not_false, cond_true, cond_false, Bool.true_and, Bool.false_and, Bool.and_true, Bool.and_false, Bool.false_eq_true, Bool.true_or, Bool.or_true, Bool.false_or, Bool.or_false, Bool.or_self, Bool.and_self, decide_true, decide_false, if_true, if_false, not_true, not_false_eq_true, not_true_eq_false, false_or, or_false, true_and, and_true, Bool.not_eq_true, Bool.true_eq_false, reduceCtorEq]
  · simp (disch := omega) only [slices_IndexFunc_int_int__impl_areAll_int_1__impl_isColor.l3, slices_IndexFunc_int_int__impl_areAll_int_1__impl_isColor.b3, if_neg]
theorem isChart_eq (k : Nat) (w h : Int) (l : List Int) (hl : l.length ≤ 100000000000000) (hk : l.length + 50 ≤ k) : impl_IsChart.f k w h l = some (goodB w h l) := by
  unfold impl_IsChart.f impl_IsChart.m goodB
  rw [isSide_eq, isSide_eq, areColors_eq k l hl hk]
  simp only [Option.bind_some]
  cases e1 : inB w 1 8 <;> simp only [Bool.not_true, Bool.not_false, cond_true, cond_false, Bool.true_and, Bool.false_and, Bool.and_true, Bool.and_false, Bool.false_eq_true, Bool.true_or, Bool.or_true, Bool.false_or, Bool.or_false, Bool.or_self, Bool.and_self, decide_true, decide_false, if_true, if_false, not_true, not_false_eq_true, not_true_eq_false, false_or, or_false, true_and, and_true, Bool.not_eq_true, Bool.true_eq_false, reduceCtorEq]
  cases e2 : inB h 1 8 <;> simp only [Bool.not_true, Bool.not_false, cond_true, cond_false, Bool.true_and, Bool.false_and, Bool.and_true, Bool.and_false, Bool.false_eq_true, Bool.true_or, Bool.or_true, Bool.false_or, Bool.or_false, Bool.or_self, Bool.and_self, decide_true, decide_false, if_true, if_false, not_true, not_false_eq_true, not_true_eq_false, false_or, or_false, true_and, and_true, Bool.not_eq_true, Bool.true_eq_false, reduceCtorEq]
  have := mul_bd (inB_iff.1 e1) (inB_iff.1 e2)
  rw [w64_id (by omega)]
  by_cases e : (l.length : Int) = w * h <;> simp [e]
theorem cloneI_eq (k : Nat) (cs : List Int) (hl : cs.length ≤ 5000000) : slices_Clone_int_int.f k cs = some cs := by unfold slices_Clone_int_int.f; rw [app_ok (by simp; omega)]; rfl
theorem ownI_eq (k : Nat) (cs : List Int) (hl : cs.length ≤ 5000000) : spec_l1Own.f k cs = some cs := by unfold spec_l1Own.f spec_l1Own.m; rw [app_ok (by simp; omega)]; rfl
theorem copied_eq (k : Nat) (w h : Int) (l : List Int) (hl : l.length ≤ 5000000) : impl_Chart_copied.f k w h l = some (w, h, l) := by unfold impl_Chart_copied.f impl_Chart_copied.m; rw [cloneI_eq k l hl]; rfl
theorem l2Own_eq (k : Nat) (w h : Int) (l : List Int) (hl : l.length ≤ 5000000) : spec_l2Own.f k w h l = some (w, h, l) := by unfold spec_l2Own.f spec_l2Own.m; rw [ownI_eq k l hl]; rfl
def splice (l : List Int) (b : Nat) (ys : List Int) : List Int := l.take b ++ (ys ++ l.drop (b + ys.length))
theorem splice_len {l : List Int} {b : Nat} {ys : List Int} (h : b + ys.length ≤ l.length) : (splice l b ys).length = l.length := by unfold splice; simp; omega
theorem splice_nil (l : List Int) (b : Nat) : splice l b [] = l := by unfold splice; simp
theorem splice_set {l : List Int} {b j : Nat} {ys : List Int} (hj : j < ys.length) (h : b + ys.length ≤ l.length) : (splice l b (ys.take j)).set (b + j) ys[j] = splice l b (ys.take (j + 1)) := by
  unfold splice
  have hl : (ys.take j).length = j := by rw [List.length_take]; omega
  have hl1 : (ys.take (j + 1)).length = j + 1 := by rw [List.length_take]; omega
  rw [hl, hl1, List.drop_eq_getElem_cons (show b + j < l.length by omega), ← List.append_assoc]
  have hb : b + j = (l.take b ++ ys.take j).length := by rw [List.length_append, hl, List.length_take]; omega
  have hs := set_mid (l.take b ++ ys.take j) (l[b + j]'(by omega)) ys[j] (l.drop (b + j + 1))
  rw [← hb] at hs
  rw [hs, List.take_succ_eq_append_getElem hj]
  simp only [List.append_assoc, List.cons_append, List.nil_append, Nat.add_assoc]
theorem lay_splice {l : List Int} {b : Nat} {ys : List Int} (h : b + ys.length ≤ l.length) : lay l b (l.length - b) ys = splice l b ys := by
  unfold lay splice
  rw [List.take_of_length_le (l := ys) (by omega), Nat.min_eq_left (by omega)]
/-- A chart after so many rows of a part. -/
def putR (w R C W : Nat) (p : List Int) : Nat → Nat → List Int → List Int
  | 0, _, l => l
  | d + 1, r, l => putR w R C W p d (r + 1) (splice l ((R + r) * w + C) ((p.drop (r * W)).take W))
theorem putR_len (w h R C W H : Nat) (p : List Int) (hp : p.length = W * H) (hC : C + W ≤ w) : ∀ (d r : Nat) (l : List Int), r + d = H → R + H ≤ h → l.length = w * h → (putR w R C W p d r l).length = w * h := by
  intro d
  induction d with
  | zero => intro r l _ _ h; exact h
  | succ d ih =>
    intro r l h1 h2 h3
    unfold putR
    refine ih (r + 1) _ (by omega) h2 ?_
    rw [splice_len ?_, h3]
    have : (R + r) * w + w ≤ h * w := by rw [← Nat.succ_mul]; exact Nat.mul_le_mul_right _ (by omega)
    have h4 : ((p.drop (r * W)).take W).length ≤ W := by rw [List.length_take]; omega
    rw [h3, Nat.mul_comm w h]; omega
theorem row_len {p : List Int} {W H r : Nat} (hp : p.length = W * H) (hr : r < H) : ((p.drop (r * W)).take W).length = W := by
  have : r * W + W ≤ H * W := by rw [← Nat.succ_mul]; exact Nat.mul_le_mul_right _ hr
  rw [List.length_take, List.length_drop, hp, Nat.mul_comm W H]; omega
theorem nat_mul_cast (a b : Nat) : ((a * b : Nat) : Int) = (a : Int) * b := Int.natCast_mul a b
theorem implPut_l {w h R C W H : Nat} {l0 p : List Int} (hw : w ≤ 8) (hh : h ≤ 8) (hp : p.length = W * H) (hC : C + W ≤ w) (hR : R + H ≤ h) (hW : 1 ≤ W) : ∀ (d k r : Nat) (l : List Int), r + d = H → d < k → l.length = w * h → impl_Chart_put.l4 k (R : Int) (C : Int) (w : Int) (h : Int) l0 (W : Int) (H : Int) p 0 0 [] (w : Int) (h : Int) l (H : Int) (r : Int) = some ((w : Int), (h : Int), putR w R C W p d r l) := by
  intro d
  induction d with
  | zero =>
    intro k r l h1 h2 h3
    obtain ⟨k, rfl⟩ := succ_of h2
    simp (disch := omega) only [impl_Chart_put.l4, impl_Chart_put.b4, if_neg, putR]
  | succ d ih =>
    intro k r l h1 h2 h3
    obtain ⟨k, rfl⟩ := succ_of (show 0 < k by omega)
    have hrow := row_len hp (show r < H by omega)
    have b1 : (R + r) * w + w ≤ h * w := by rw [← Nat.succ_mul]; exact Nat.mul_le_mul_right _ (by omega)
    have b2 : h * w ≤ 64 := Nat.le_trans (Nat.mul_le_mul hh hw) (by omega)
    have b3 : r * W + W ≤ H * W := by rw [← Nat.succ_mul]; exact Nat.mul_le_mul_right _ (by omega)
    have b4 : H * W ≤ 64 := Nat.le_trans (Nat.mul_le_mul (show H ≤ 8 by omega) (show W ≤ 8 by omega)) (by omega)
    have e1 : ((R : Int) + (r : Int)) * (w : Int) = (((R + r) * w : Nat) : Int) := by rw [nat_mul_cast, Int.natCast_add]
    have e2 : (r : Int) * (W : Int) = ((r * W : Nat) : Int) := (nat_mul_cast _ _).symm
    have e3 : ((r : Int) + 1) * (W : Int) = ((r * W + W : Nat) : Int) := by rw [← Nat.succ_mul, nat_mul_cast]; rfl
    have hlen : l.length = h * w := by rw [h3, Nat.mul_comm]
    have hplen : p.length = H * W := by rw [hp, Nat.mul_comm]
    have h4 := ih k (r + 1) (splice l ((R + r) * w + C) ((p.drop (r * W)).take W)) (by omega) (by omega) (by rw [splice_len (by rw [hrow]; omega)]; exact h3)
    rw [show ((r + 1 : Nat) : Int) = (r : Int) + 1 by omega] at h4
    unfold putR
    generalize (R + r) * w = bb at *
    generalize r * W = cc at *
    simp (disch := omega) only [impl_Chart_put.l4, impl_Chart_put.b4, if_pos, w64_id, e1, e2, e3, cut_int, Option.bind_some]
    rw [show (((bb : Int) + (C : Int)).toNat) = bb + C by omega, Int.toNat_natCast, Int.toNat_natCast, Int.toNat_natCast, show cc + W - cc = W by omega, lay_splice (by rw [hrow]; omega)]
    exact h4
theorem specAt_eq (k : Nat) (w h : Int) (l : List Int) (r c : Int) (n : Nat) (hn : r * w + c = n) (hl : n < l.length) (hb : 0 ≤ r * w ∧ r * w ≤ 1000 ∧ 0 ≤ c ∧ c ≤ 1000) : spec_l2At.f k w h l r c = some (l.getD n 0) := by
  unfold spec_l2At.f spec_l2At.m
  generalize r * w = q at *
  simp (disch := omega) only [w64_id, hn, chk_nat, Option.bind_some]
theorem specPut_l9 {w h R C W H : Nat} {l0 p : List Int} (hw : w ≤ 8) (hh : h ≤ 8) (hp : p.length = W * H) (hC : C + W ≤ w) (hR : R + H ≤ h) (r : Nat) (hr : r < H) (l : List Int) (h3 : l.length = w * h) : ∀ (d k j : Nat), j + d = W → d + 2 < k → spec_l2Put.l9 k (R : Int) (C : Int) (w : Int) (h : Int) l0 (W : Int) (H : Int) p 0 0 [] (w : Int) (h : Int) (splice l ((R + r) * w + C) (((p.drop (r * W)).take W).take j)) (r : Int) (j : Int) = spec_l2Put.l4 (k - d - 1) (R : Int) (C : Int) (w : Int) (h : Int) l0 (W : Int) (H : Int) p 0 0 [] (w : Int) (h : Int) (splice l ((R + r) * w + C) ((p.drop (r * W)).take W)) ((r + 1 : Nat) : Int) := by
  have hrow := row_len hp hr
  have b1 : (R + r) * w + w ≤ h * w := by rw [← Nat.succ_mul]; exact Nat.mul_le_mul_right _ (by omega)
  have b2 : h * w ≤ 64 := Nat.le_trans (Nat.mul_le_mul hh hw) (by omega)
  have b3 : r * W + W ≤ H * W := by rw [← Nat.succ_mul]; exact Nat.mul_le_mul_right _ (by omega)
  have b4 : H * W ≤ 64 := Nat.le_trans (Nat.mul_le_mul (show H ≤ 8 by omega) (show W ≤ 8 by omega)) (by omega)
  have e1 : ((R : Int) + (r : Int)) * (w : Int) = (((R + r) * w : Nat) : Int) := by rw [nat_mul_cast, Int.natCast_add]
  have hlen : l.length = h * w := by rw [h3, Nat.mul_comm]
  have hplen : p.length = H * W := by rw [hp, Nat.mul_comm]
  intro d
  induction d with
  | zero =>
    intro k j h1 h2
    obtain ⟨k, rfl⟩ := succ_of (show 0 < k by omega)
    simp (disch := omega) only [spec_l2Put.l9, spec_l2Put.b9, if_neg, w64_id]
    rw [List.take_of_length_le (l := (p.drop (r * W)).take W) (by omega), show ((r + 1 : Nat) : Int) = (r : Int) + 1 by omega]; rfl
  | succ d ih =>
    intro k j h1 h2
    obtain ⟨k, rfl⟩ := succ_of (show 0 < k by omega)
    have h4 := ih k (j + 1) (by omega) (by omega)
    have hat := specAt_eq k (W : Int) (H : Int) p (r : Int) (j : Int) (r * W + j) (by rw [← nat_mul_cast]; omega) (by omega) (by rw [← nat_mul_cast]; omega)
    have hg : p.getD (r * W + j) 0 = ((p.drop (r * W)).take W)[j]'(by omega) := by
      rw [getD_lt (by omega), List.getElem_take, List.getElem_drop]
    have hset := splice_set (l := l) (b := (R + r) * w + C) (ys := (p.drop (r * W)).take W) (j := j) (by omega) (by rw [hrow]; omega)
    have hsl : (splice l ((R + r) * w + C) (((p.drop (r * W)).take W).take j)).length = l.length := splice_len (by rw [List.length_take, hrow]; omega)
    rw [show k + 1 - (d + 1) - 1 = k - d - 1 by omega, ← h4, ← hset, show ((j + 1 : Nat) : Int) = (j : Int) + 1 by omega]
    simp only [spec_l2Put.l9, spec_l2Put.b9]
    rw [if_pos (by omega), hat]
    simp (disch := omega) only [Option.bind_some, w64_id, e1, hg]
    generalize (R + r) * w = bb at *
    rw [show ((bb : Int) + (C : Int) + (j : Int)) = ((bb + C + j : Nat) : Int) by omega, chk_nat (by omega)]
    rfl
theorem specPut_l {w h R C W H : Nat} {l0 p : List Int} (hw : w ≤ 8) (hh : h ≤ 8) (hp : p.length = W * H) (hC : C + W ≤ w) (hR : R + H ≤ h) (hW : 1 ≤ W) : ∀ (d k r : Nat) (l : List Int), r + d = H → d * (W + 2) + 5 < k → l.length = w * h → spec_l2Put.l4 k (R : Int) (C : Int) (w : Int) (h : Int) l0 (W : Int) (H : Int) p 0 0 [] (w : Int) (h : Int) l (r : Int) = some ((w : Int), (h : Int), putR w R C W p d r l) := by
  intro d
  induction d with
  | zero =>
    intro k r l h1 h2 h3
    obtain ⟨k, rfl⟩ := succ_of (show 0 < k by omega)
    simp (disch := omega) only [spec_l2Put.l4, spec_l2Put.b4, if_neg, putR]
  | succ d ih =>
    intro k r l h1 h2 h3
    obtain ⟨k, rfl⟩ := succ_of (show 0 < k by omega)
    have hrow := row_len hp (show r < H by omega)
    have b1 : (R + r) * w + w ≤ h * w := by rw [← Nat.succ_mul]; exact Nat.mul_le_mul_right _ (by omega)
    have hlen : l.length = h * w := by rw [h3, Nat.mul_comm]
    rw [Nat.succ_mul] at h2
    have h5 := specPut_l9 (l0 := l0) hw hh hp hC hR r (by omega) l h3 W k 0 (by omega) (by omega)
    rw [List.take_zero, splice_nil, show ((0 : Nat) : Int) = 0 from rfl] at h5
    simp (disch := omega) only [spec_l2Put.l4, spec_l2Put.b4, if_pos]
    rw [h5]
    exact ih _ (r + 1) _ (by omega) (by omega) (by rw [splice_len (by rw [hrow]; omega)]; exact h3)
def fitsB (w h : Int) (R C H W : Int) : Bool := inB R 0 (h - 1) && inB C 0 (w - 1) && inB H 1 (h - R) && inB W 1 (w - C)
def putOut (w h : Int) (l : List Int) (W H : Int) (p : List Int) (R C : Int) : Int × Int × List Int × Bool :=
  if goodB w h l = true ∧ goodB W H p = true ∧ fitsB w h R C H W = true then (w, h, putR w.toNat R.toNat C.toNat W.toNat p H.toNat 0 l, true) else (0, 0, [], false)
theorem fits_of {w h R C H W : Int} (hf : fitsB w h R C H W = true) : (0 ≤ R ∧ 0 ≤ C) ∧ (1 ≤ H ∧ R + H ≤ h) ∧ (1 ≤ W ∧ C + W ≤ w) := by
  unfold fitsB at hf
  simp only [Bool.and_eq_true, inB_iff] at hf
  omega
theorem lenN {w h : Nat} {l : List Int} (hl : (l.length : Int) = (w : Int) * (h : Int)) : l.length = w * h := by rw [← nat_mul_cast] at hl; omega
theorem put_both (w h : Int) (l : List Int) (W H : Int) (p : List Int) (R C : Int) (h1 : goodB w h l = true) (h2 : goodB W H p = true) (h3 : fitsB w h R C H W = true) (k : Nat) (hk : 200 ≤ k) : spec_l2Put.f k w h l W H p R C = some (w, h, putR w.toNat R.toNat C.toNat W.toNat p H.toNat 0 l) ∧ impl_Chart_put.f k w h l W H p R C = some (w, h, putR w.toNat R.toNat C.toNat W.toNat p H.toNat 0 l) := by
  obtain ⟨hw, hh, hl, _⟩ := good_of h1
  obtain ⟨hW, hH, hp, _⟩ := good_of h2
  obtain ⟨⟨f1, f2⟩, ⟨f3, f4⟩, f5, f6⟩ := fits_of h3
  have := mul_bd hw hh
  obtain ⟨w, rfl⟩ := Int.eq_ofNat_of_zero_le (show 0 ≤ w by omega)
  obtain ⟨h, rfl⟩ := Int.eq_ofNat_of_zero_le (show 0 ≤ h by omega)
  obtain ⟨W, rfl⟩ := Int.eq_ofNat_of_zero_le (show 0 ≤ W by omega)
  obtain ⟨H, rfl⟩ := Int.eq_ofNat_of_zero_le (show 0 ≤ H by omega)
  obtain ⟨R, rfl⟩ := Int.eq_ofNat_of_zero_le f1
  obtain ⟨C, rfl⟩ := Int.eq_ofNat_of_zero_le f2
  simp only [Int.toNat_natCast]
  have hl' := lenN hl
  have hp' := lenN hp
  have hHW : H * (W + 2) ≤ 80 := Nat.le_trans (Nat.mul_le_mul (show H ≤ 8 by omega) (show W + 2 ≤ 10 by omega)) (by omega)
  constructor
  · unfold spec_l2Put.f spec_l2Put.m
    rw [l2Own_eq k _ _ l (by omega)]; simp only [Option.bind_some]
    exact specPut_l (by omega) (by omega) hp' (by omega) (by omega) (by omega) H k 0 l (by omega) (by omega) hl'
  · unfold impl_Chart_put.f impl_Chart_put.m
    rw [copied_eq k _ _ l (by omega)]; simp only [Option.bind_some]
    exact implPut_l (by omega) (by omega) hp' (by omega) (by omega) (by omega) H k 0 l (by omega) (by omega) hl'
theorem rem_ok {x y : Int} (h : ¬ y = 0) : rem x y = some (x.tmod y) := by unfold rem; rw [if_neg h]
def ringP (w h : Int) : List Int := (spec_l8Places.f 50 w h).getD []
theorem l8Places_k (w h : Int) (hw : 2 ≤ w ∧ w ≤ 8) (hh : 2 ≤ h ∧ h ≤ 8) (k : Nat) : spec_l8Places.f (k + 50) w h = some (ringP w h) := by
  have h1 : w = 2 ∨ w = 3 ∨ w = 4 ∨ w = 5 ∨ w = 6 ∨ w = 7 ∨ w = 8 := by omega
  have h2 : h = 2 ∨ h = 3 ∨ h = 4 ∨ h = 5 ∨ h = 6 ∨ h = 7 ∨ h = 8 := by omega
  rcases h1 with rfl | rfl | rfl | rfl | rfl | rfl | rfl <;> rcases h2 with rfl | rfl | rfl | rfl | rfl | rfl | rfl <;> (refine Eq.symm (Eq.symm ?_); kernel_rfl)
theorem l8Places_eq (w h : Int) (hw : 2 ≤ w ∧ w ≤ 8) (hh : 2 ≤ h ∧ h ≤ 8) (k : Nat) (hk : 50 ≤ k) : spec_l8Places.f k w h = some (ringP w h) := by
  obtain ⟨m, rfl⟩ : ∃ m, k = m + 50 := ⟨k - 50, by omega⟩
  exact l8Places_k w h hw hh m
theorem ringPlaces_k (w h : Int) (hw : 2 ≤ w ∧ w ≤ 8) (hh : 2 ≤ h ∧ h ≤ 8) (k : Nat) : impl_ringPlaces.f (k + 50) w h = some (ringP w h) := by
  have h1 : w = 2 ∨ w = 3 ∨ w = 4 ∨ w = 5 ∨ w = 6 ∨ w = 7 ∨ w = 8 := by omega
  have h2 : h = 2 ∨ h = 3 ∨ h = 4 ∨ h = 5 ∨ h = 6 ∨ h = 7 ∨ h = 8 := by omega
  rcases h1 with rfl | rfl | rfl | rfl | rfl | rfl | rfl <;> rcases h2 with rfl | rfl | rfl | rfl | rfl | rfl | rfl <;> (refine Eq.symm (Eq.symm ?_); kernel_rfl)
theorem ringPlaces_eq (w h : Int) (hw : 2 ≤ w ∧ w ≤ 8) (hh : 2 ≤ h ∧ h ≤ 8) (k : Nat) (hk : 50 ≤ k) : impl_ringPlaces.f k w h = some (ringP w h) := by
  obtain ⟨m, rfl⟩ : ∃ m, k = m + 50 := ⟨k - 50, by omega⟩
  exact ringPlaces_k w h hw hh m
def ringOk (w h : Int) : Bool := (ringP w h).all (fun p => decide (0 ≤ p) && decide (p < w * h)) && decide (((ringP w h).length : Int) = 2 * w + 2 * h - 4)
theorem ringOk_all (w h : Int) (hw : 2 ≤ w ∧ w ≤ 8) (hh : 2 ≤ h ∧ h ≤ 8) : ringOk w h = true := by
  have h1 : w = 2 ∨ w = 3 ∨ w = 4 ∨ w = 5 ∨ w = 6 ∨ w = 7 ∨ w = 8 := by omega
  have h2 : h = 2 ∨ h = 3 ∨ h = 4 ∨ h = 5 ∨ h = 6 ∨ h = 7 ∨ h = 8 := by omega
  rcases h1 with rfl | rfl | rfl | rfl | rfl | rfl | rfl <;> rcases h2 with rfl | rfl | rfl | rfl | rfl | rfl | rfl <;> (refine Eq.symm (Eq.symm ?_); kernel_rfl)
theorem ringP_of (w h : Int) (hw : 2 ≤ w ∧ w ≤ 8) (hh : 2 ≤ h ∧ h ≤ 8) : (∀ p ∈ ringP w h, 0 ≤ p ∧ p < w * h) ∧ ((ringP w h).length : Int) = 2 * w + 2 * h - 4 := by
  have := ringOk_all w h hw hh
  unfold ringOk at this
  simp only [Bool.and_eq_true, decide_eq_true_eq, List.all_eq_true] at this
  exact this
def ringR (ps ring : List Int) : Nat → Nat → List Int → List Int
  | 0, _, xs => xs
  | d + 1, i, xs => ringR ps ring d (i + 1) (xs.set (ps.getD i 0).toNat (ring.getD (Int.tmod i ring.length).toNat 0))
theorem ringR_len (ps ring : List Int) : ∀ d i xs, (ringR ps ring d i xs).length = xs.length := by
  intro d; induction d with
  | zero => intro i xs; rfl
  | succ d ih => intro i xs; simp only [ringR]; rw [ih]; simp
theorem l8Put_l (w h : Int) (ps ring : List Int) (hp : ps.length ≤ 1000) (hr : 0 < ring.length) : ∀ (d k i : Nat) (xs : List Int), i + d = ps.length → d < k → (∀ p ∈ ps, 0 ≤ p ∧ p < xs.length) → spec_l8Put.l4 k ring 0 0 [] w h xs ps (i : Int) = some (w, h, ringR ps ring d i xs) := by
  intro d
  induction d with
  | zero =>
    intro k i xs h1 h2 h3
    obtain ⟨k, rfl⟩ := succ_of h2
    simp (disch := omega) only [spec_l8Put.l4, spec_l8Put.b4, if_neg]; rfl
  | succ d ih =>
    intro k i xs h1 h2 h3
    obtain ⟨k, rfl⟩ := succ_of (show 0 < k by omega)
    have hm1 : 0 ≤ Int.tmod (i : Int) (ring.length : Int) := Int.tmod_nonneg _ (by omega)
    have hm2 : Int.tmod (i : Int) (ring.length : Int) < (ring.length : Int) := Int.tmod_lt_of_pos _ (by omega)
    have hb := h3 (ps.getD i 0) (by rw [getD_lt (by omega)]; exact List.getElem_mem _)
    have h := ih k (i + 1) (xs.set (ps.getD i 0).toNat (ring.getD (Int.tmod i ring.length).toNat 0)) (by omega) (by omega) (by simpa using h3)
    rw [show ((i + 1 : Nat) : Int) = (i : Int) + 1 by omega] at h
    simp (disch := omega) only [spec_l8Put.l4, spec_l8Put.b4, if_pos, chk_nat, Option.bind_some, rem_ok, w64_id]
    rw [chk_int ⟨hm1, hm2⟩]; simp only [Option.bind_some]
    rw [chk_int hb]; simp only [Option.bind_some]
    exact h
theorem withRing_l (w h : Int) (ps ring : List Int) (hp : ps.length ≤ 1000) (hr : 0 < ring.length) : ∀ (d k i : Nat) (xs : List Int), i + d = ps.length → d < k → (∀ p ∈ ps, 0 ≤ p ∧ p < xs.length) → impl_Chart_withRing.l4 k ring 0 0 [] w h xs ps ps.length (i : Int) = some (w, h, ringR ps ring d i xs) := by
  intro d
  induction d with
  | zero =>
    intro k i xs h1 h2 h3
    obtain ⟨k, rfl⟩ := succ_of h2
    simp (disch := omega) only [impl_Chart_withRing.l4, impl_Chart_withRing.b4, if_neg]; rfl
  | succ d ih =>
    intro k i xs h1 h2 h3
    obtain ⟨k, rfl⟩ := succ_of (show 0 < k by omega)
    have hm1 : 0 ≤ Int.tmod (i : Int) (ring.length : Int) := Int.tmod_nonneg _ (by omega)
    have hm2 : Int.tmod (i : Int) (ring.length : Int) < (ring.length : Int) := Int.tmod_lt_of_pos _ (by omega)
    have hb := h3 (ps.getD i 0) (by rw [getD_lt (by omega)]; exact List.getElem_mem _)
    have h := ih k (i + 1) (xs.set (ps.getD i 0).toNat (ring.getD (Int.tmod i ring.length).toNat 0)) (by omega) (by omega) (by simpa using h3)
    rw [show ((i + 1 : Nat) : Int) = (i : Int) + 1 by omega] at h
    simp (disch := omega) only [impl_Chart_withRing.l4, impl_Chart_withRing.b4, if_pos, chk_nat, Option.bind_some, rem_ok, w64_id]
    rw [chk_int ⟨hm1, hm2⟩]; simp only [Option.bind_some]
    rw [chk_int hb]; simp only [Option.bind_some]
    exact h
theorem l8Put_eq (w h : Int) (l ring : List Int) (hw : 2 ≤ w ∧ w ≤ 8) (hh : 2 ≤ h ∧ h ≤ 8) (hl : (l.length : Int) = w * h) (hr : 0 < ring.length) (k : Nat) (hk : 200 ≤ k) : spec_l8Put.f k w h l ring = some (w, h, ringR (ringP w h) ring (ringP w h).length 0 l) := by
  have hb := mul_bd (w := w) (h := h) (by omega) (by omega)
  have hp := ringP_of w h hw hh
  unfold spec_l8Put.f spec_l8Put.m
  rw [l2Own_eq k w h l (by omega), l8Places_eq w h hw hh k (by omega)]
  simp only [Option.bind_some]
  exact l8Put_l w h _ ring (by omega) hr _ k 0 l (by omega) (by omega) (fun p hpp => by have := hp.1 p hpp; omega)
theorem withRing_eq (w h : Int) (l ring : List Int) (hw : 2 ≤ w ∧ w ≤ 8) (hh : 2 ≤ h ∧ h ≤ 8) (hl : (l.length : Int) = w * h) (hr : 0 < ring.length) (k : Nat) (hk : 200 ≤ k) : impl_Chart_withRing.f k w h l ring = some (w, h, ringR (ringP w h) ring (ringP w h).length 0 l) := by
  have hb := mul_bd (w := w) (h := h) (by omega) (by omega)
  have hp := ringP_of w h hw hh
  unfold impl_Chart_withRing.f impl_Chart_withRing.m
  rw [copied_eq k w h l (by omega), ringPlaces_eq w h hw hh k (by omega)]
  simp only [Option.bind_some]
  exact withRing_l w h _ ring (by omega) hr _ k 0 l (by omega) (by omega) (fun p hpp => by have := hp.1 p hpp; omega)
theorem l8Length_eq (k : Nat) (w h : Int) (hw : 2 ≤ w ∧ w ≤ 8) (hh : 2 ≤ h ∧ h ≤ 8) : spec_l8Length.f k w h = some (2 * w + 2 * h - 4) := by
  unfold spec_l8Length.f spec_l8Length.m
  simp (disch := omega) only [w64_id]
theorem ringLength_eq (k : Nat) (w h : Int) (hw : 2 ≤ w ∧ w ≤ 8) (hh : 2 ≤ h ∧ h ≤ 8) : impl_ringLength.f k w h = some (2 * w + 2 * h - 4) := by
  unfold impl_ringLength.f impl_ringLength.m
  simp (disch := omega) only [w64_id]
  congr 1; omega
theorem l8Colors_eq (k : Nat) (l : List Int) (hl : l.length ≤ 100000000000000) (hk : l.length + 50 ≤ k) : spec_l8Colors.f k l = some (l.all colorB) := by
  unfold spec_l8Colors.f spec_l8Colors.m
  have hq := (all_loop (L := fun k i => spec_l8Colors.l3 k l (i : Int)) (n := l.length) (K0 := 20) (ok := fun i => colorB (l.getD i 0)) (f := some false) (fun k i hk hi => ?_)) l.length k 0 (by omega) (by omega)
  · rw [show ((0 : Nat) : Int) = 0 from rfl] at hq
    by_cases hc : l.all colorB = true
    · rw [hq.1 (some true) (fun k hk => by simp (disch := omega) only [spec_l8Colors.l3, spec_l8Colors.b3, if_neg]) (fun j _ hj => (allI_iff _ _).1 hc j hj), hc]
    · rw [hq.2 (exists_bad fun hn => hc ((allI_iff _ _).2 hn)), notB hc]
  · simp (disch := omega) only [spec_l8Colors.l3, spec_l8Colors.b3, if_pos, chk_nat, Option.bind_some, w64_id, l2Color_eq, Int.natCast_add, Int.cast_ofNat_Int]
    cases colorB (l.getD i 0) <;> simp only [Bool.not_true, Bool.not_false, cond_true, cond_false, Bool.true_and, Bool.false_and, Bool.and_true, Bool.and_false, Bool.false_eq_true, Bool.true_or, Bool.or_true, Bool.false_or, Bool.or_false, Bool.or_self, Bool.and_self, decide_true, decide_false, if_true, if_false, not_true, not_false_eq_true, not_true_eq_false, false_or, or_false, true_and, and_true, Bool.not_eq_true, Bool.true_eq_false, reduceCtorEq]
def patB (p : List Int) : Bool := p.all colorB && inB (p.length : Int) 1 8
theorem l8Pattern_eq (k : Nat) (l : List Int) (hl : l.length ≤ 100000000000000) (hk : l.length + 50 ≤ k) : spec_l8Pattern.f k l = some (patB l) := by
  unfold spec_l8Pattern.f spec_l8Pattern.m patB
  rw [l8Colors_eq k l hl hk, specIn_eq]; simp only [Option.bind_some]
  cases l.all colorB <;> rfl
theorem isPattern_eq (k : Nat) (l : List Int) (hl : l.length ≤ 100000000000000) (hk : l.length + 50 ≤ k) : impl_isPattern.f k l = some (patB l) := by
  unfold impl_isPattern.f impl_isPattern.m patB
  rw [areColors_eq k l hl hk, implIn_eq]; simp only [Option.bind_some]
  cases l.all colorB <;> cases inB (l.length : Int) 1 8 <;> rfl
theorem blank_eq (k : Nat) (w h : Int) (hw : 1 ≤ w ∧ w ≤ 8) (hh : 1 ≤ h ∧ h ≤ 8) : spec_l6Blank.f k w h = some (w, h, List.replicate (w * h).toNat 0, true) := by
  have := mul_bd hw hh
  unfold spec_l6Blank.f spec_l6Blank.m
  rw [l2Side_eq, l2Side_eq, inB_of hw, inB_of hh]
  simp (disch := omega) only [Option.bind_some, Bool.not_true, Bool.not_false, cond_true, cond_false, Bool.true_and, Bool.false_and, Bool.and_true, Bool.and_false, Bool.false_eq_true, Bool.true_or, Bool.or_true, Bool.false_or, Bool.or_false, Bool.or_self, Bool.and_self, decide_true, decide_false, if_true, if_false, not_true, not_false_eq_true, not_true_eq_false, false_or, or_false, true_and, and_true, Bool.not_eq_true, Bool.true_eq_false, reduceCtorEq, w64_id, mkl_int]
theorem make_k (w h : Int) (hw : 3 ≤ w ∧ w ≤ 8) (hh : 3 ≤ h ∧ h ≤ 8) (k : Nat) : impl_makeChart__impl_AddBorder_1.f (k + 100) w h = some (w, h, List.replicate (w * h).toNat 0) := by
  have h1 : w = 3 ∨ w = 4 ∨ w = 5 ∨ w = 6 ∨ w = 7 ∨ w = 8 := by omega
  have h2 : h = 3 ∨ h = 4 ∨ h = 5 ∨ h = 6 ∨ h = 7 ∨ h = 8 := by omega
  rcases h1 with rfl | rfl | rfl | rfl | rfl | rfl <;> rcases h2 with rfl | rfl | rfl | rfl | rfl | rfl <;> (refine Eq.symm (Eq.symm ?_); kernel_rfl)
theorem blank_good {w h : Int} (hw : 1 ≤ w ∧ w ≤ 8) (hh : 1 ≤ h ∧ h ≤ 8) : goodB w h (List.replicate (w * h).toNat 0) = true := by
  have := mul_bd hw hh
  unfold goodB
  rw [inB_of hw, inB_of hh]
  have h1 : (((w * h).toNat : Nat) : Int) = w * h := Int.toNat_of_nonneg (by omega)
  simp only [List.length_replicate, h1, decide_true, Bool.true_and, List.all_eq_true]
  intro x hx; rw [List.eq_of_mem_replicate hx]; rfl
def bordC (w h : Int) (l p : List Int) : Prop := goodB w h l = true ∧ patB p = true ∧ w ≤ 6 ∧ h ≤ 6 ∧ (2 * (w + 2) + 2 * (h + 2) - 4).tmod p.length = 0
def bordL (w h : Int) (l p : List Int) : List Int := ringR (ringP (w + 2) (h + 2)) p (ringP (w + 2) (h + 2)).length 0 (putR (w + 2).toNat 1 1 w.toNat l h.toNat 0 (List.replicate ((w + 2) * (h + 2)).toNat 0))
open Classical in
noncomputable def bordOut (w h : Int) (l p : List Int) : Int × Int × List Int × Bool := if bordC w h l p then (w + 2, h + 2, bordL w h l p, true) else (0, 0, [], false)
theorem put_len1 {w h : Int} {l : List Int} (h1 : goodB w h l = true) (hw : w ≤ 6) (hh : h ≤ 6) : ((putR (w + 2).toNat 1 1 w.toNat l h.toNat 0 (List.replicate ((w + 2) * (h + 2)).toNat 0)).length : Int) = (w + 2) * (h + 2) := by
  obtain ⟨gw, gh, hl, _⟩ := good_of h1
  obtain ⟨w, rfl⟩ := Int.eq_ofNat_of_zero_le (show 0 ≤ w by omega)
  obtain ⟨h, rfl⟩ := Int.eq_ofNat_of_zero_le (show 0 ≤ h by omega)
  have hl' := lenN hl
  have e1 : ((w : Int) + 2).toNat = w + 2 := by omega
  have e2 : (((w : Int) + 2) * ((h : Int) + 2)).toNat = (w + 2) * (h + 2) := by
    rw [show ((w : Int) + 2) * ((h : Int) + 2) = (((w + 2) * (h + 2) : Nat) : Int) by rw [nat_mul_cast]; rfl, Int.toNat_natCast]
  rw [e1, e2, Int.toNat_natCast, Int.toNat_natCast, putR_len (w + 2) (h + 2) 1 1 w h l hl' (by omega) h 0 _ (by omega) (by omega) (by simp), nat_mul_cast]; rfl
theorem bordOut_len (w h : Int) (l p : List Int) : (bordOut w h l p).2.2.1.length ≤ 64 := by
  unfold bordOut
  split
  · rename_i hc
    obtain ⟨h1, h2, h3, h4, _⟩ := hc
    obtain ⟨gw, gh, hl, _⟩ := good_of h1
    have := mul_bd (w := w + 2) (h := h + 2) (by omega) (by omega)
    have hp := put_len1 h1 h3 h4
    simp only [bordL]
    rw [ringR_len]; omega
  · simp
theorem both (w h : Int) (l p : List Int) (hl : l.length ≤ 4194304) (hp : p.length ≤ 4194304) : ∃ r0 r1 r2 r3 k0, (∀ k, k0 ≤ k → spec_AddBorder.f k w h l p = some (r0, r1, r2, r3)) ∧ (∀ k, k0 ≤ k → impl_AddBorder.f k w h l p = some (r0, r1, r2, r3)) ∧ r2.length ≤ 4194304 := by
  have hlen := bordOut_len w h l p
  have hno : ∀ r, ¬ bordC w h l p → r = (0, 0, ([] : List Int), false) → some r = some (bordOut w h l p) := fun r hc hr => by unfold bordOut; rw [if_neg hc, hr]
  have hS : ∀ k, 5000000 ≤ k → spec_AddBorder.f k w h l p = some (bordOut w h l p) := fun k hk => by
    unfold spec_AddBorder.f spec_AddBorder.m
    rw [l2Good_eq k w h l (by omega) (by omega)]; simp only [Option.bind_some]
    cases h1 : goodB w h l
    · exact hno _ (fun hc => by have := hc.1; rw [h1] at this; cases this) rfl
    rw [l8Pattern_eq k p (by omega) (by omega)]; simp only [Option.bind_some, Bool.not_true, Bool.not_false, cond_true, cond_false, Bool.true_and, Bool.false_and, Bool.and_true, Bool.and_false, Bool.false_eq_true, Bool.true_or, Bool.or_true, Bool.false_or, Bool.or_false, Bool.or_self, Bool.and_self, decide_true, decide_false, if_true, if_false, not_true, not_false_eq_true, not_true_eq_false, false_or, or_false, true_and, and_true, Bool.not_eq_true, Bool.true_eq_false, reduceCtorEq]
    cases h2 : patB p
    · exact hno _ (fun hc => by have := hc.2.1; rw [h2] at this; cases this) rfl
    obtain ⟨gw, gh, gl, _⟩ := good_of h1
    rw [w64_id (x := w + 2) (by omega), w64_id (x := h + 2) (by omega)]
    by_cases h3 : w ≤ 6 ∧ h ≤ 6
    · have hpl : 1 ≤ (p.length : Int) ∧ (p.length : Int) ≤ 8 := by unfold patB at h2; simp only [Bool.and_eq_true, inB_iff] at h2; exact h2.2
      rw [blank_eq k (w + 2) (h + 2) (by omega) (by omega)]; simp only [Option.bind_some, Bool.not_true, Bool.not_false, cond_true, cond_false, Bool.true_and, Bool.false_and, Bool.and_true, Bool.and_false, Bool.false_eq_true, Bool.true_or, Bool.or_true, Bool.false_or, Bool.or_false, Bool.or_self, Bool.and_self, decide_true, decide_false, if_true, if_false, not_true, not_false_eq_true, not_true_eq_false, false_or, or_false, true_and, and_true, Bool.not_eq_true, Bool.true_eq_false, reduceCtorEq]
      rw [l8Length_eq k (w + 2) (h + 2) (by omega) (by omega)]; simp only [Option.bind_some]
      rw [rem_ok (by omega)]; simp only [Option.bind_some]
      by_cases h4 : (2 * (w + 2) + 2 * (h + 2) - 4).tmod (p.length : Int) = 0
      · have hput := (put_both (w + 2) (h + 2) _ w h l 1 1 (blank_good (by omega) (by omega)) h1 (by unfold fitsB; rw [inB_of (by omega), inB_of (by omega), inB_of (by omega), inB_of (by omega)]; rfl) k (by omega)).1
        simp only [h4, Bool.not_true, Bool.not_false, cond_true, cond_false, Bool.true_and, Bool.false_and, Bool.and_true, Bool.and_false, Bool.false_eq_true, Bool.true_or, Bool.or_true, Bool.false_or, Bool.or_false, Bool.or_self, Bool.and_self, decide_true, decide_false, if_true, if_false, not_true, not_false_eq_true, not_true_eq_false, false_or, or_false, true_and, and_true, Bool.not_eq_true, Bool.true_eq_false, reduceCtorEq]
        rw [hput]; simp only [Option.bind_some, show Int.toNat 1 = 1 from rfl]
        rw [l8Put_eq (w + 2) (h + 2) _ p (by omega) (by omega) (put_len1 h1 h3.1 h3.2) (by omega) k (by omega)]
        unfold bordOut
        rw [if_pos ⟨h1, h2, h3.1, h3.2, h4⟩]; rfl
      · simp only [h4, Bool.not_true, Bool.not_false, cond_true, cond_false, Bool.true_and, Bool.false_and, Bool.and_true, Bool.and_false, Bool.false_eq_true, Bool.true_or, Bool.or_true, Bool.false_or, Bool.or_false, Bool.or_self, Bool.and_self, decide_true, decide_false, if_true, if_false, not_true, not_false_eq_true, not_true_eq_false, false_or, or_false, true_and, and_true, Bool.not_eq_true, Bool.true_eq_false, reduceCtorEq]
        exact hno _ (fun hc => h4 hc.2.2.2.2) rfl
    · have hb : spec_l6Blank.f k (w + 2) (h + 2) = some (0, 0, [], false) := by
        unfold spec_l6Blank.f spec_l6Blank.m
        rw [l2Side_eq, l2Side_eq]; simp only [Option.bind_some]
        cases e1 : inB (w + 2) 1 8 <;> simp only [Bool.not_true, Bool.not_false, cond_true, cond_false, Bool.true_and, Bool.false_and, Bool.and_true, Bool.and_false, Bool.false_eq_true, Bool.true_or, Bool.or_true, Bool.false_or, Bool.or_false, Bool.or_self, Bool.and_self, decide_true, decide_false, if_true, if_false, not_true, not_false_eq_true, not_true_eq_false, false_or, or_false, true_and, and_true, Bool.not_eq_true, Bool.true_eq_false, reduceCtorEq]
        cases e2 : inB (h + 2) 1 8 <;> simp only [Bool.not_true, Bool.not_false, cond_true, cond_false, Bool.true_and, Bool.false_and, Bool.and_true, Bool.and_false, Bool.false_eq_true, Bool.true_or, Bool.or_true, Bool.false_or, Bool.or_false, Bool.or_self, Bool.and_self, decide_true, decide_false, if_true, if_false, not_true, not_false_eq_true, not_true_eq_false, false_or, or_false, true_and, and_true, Bool.not_eq_true, Bool.true_eq_false, reduceCtorEq]
        rw [inB_iff] at e1 e2; omega
      rw [hb]; simp only [Option.bind_some, Bool.not_true, Bool.not_false, cond_true, cond_false, Bool.true_and, Bool.false_and, Bool.and_true, Bool.and_false, Bool.false_eq_true, Bool.true_or, Bool.or_true, Bool.false_or, Bool.or_false, Bool.or_self, Bool.and_self, decide_true, decide_false, if_true, if_false, not_true, not_false_eq_true, not_true_eq_false, false_or, or_false, true_and, and_true, Bool.not_eq_true, Bool.true_eq_false, reduceCtorEq]
      exact hno _ (fun hc => h3 ⟨hc.2.2.1, hc.2.2.2.1⟩) rfl
  have hI : ∀ k, 5000000 ≤ k → impl_AddBorder.f k w h l p = some (bordOut w h l p) := fun k hk => by
    unfold impl_AddBorder.f impl_AddBorder.m
    rw [isChart_eq k w h l (by omega) (by omega)]; simp only [Option.bind_some]
    cases h1 : goodB w h l
    · exact hno _ (fun hc => by have := hc.1; rw [h1] at this; cases this) rfl
    rw [isPattern_eq k p (by omega) (by omega)]; simp only [Option.bind_some, Bool.not_true, Bool.not_false, cond_true, cond_false, Bool.true_and, Bool.false_and, Bool.and_true, Bool.and_false, Bool.false_eq_true, Bool.true_or, Bool.or_true, Bool.false_or, Bool.or_false, Bool.or_self, Bool.and_self, decide_true, decide_false, if_true, if_false, not_true, not_false_eq_true, not_true_eq_false, false_or, or_false, true_and, and_true, Bool.not_eq_true, Bool.true_eq_false, reduceCtorEq]
    cases h2 : patB p
    · exact hno _ (fun hc => by have := hc.2.1; rw [h2] at this; cases this) rfl
    obtain ⟨gw, gh, gl, _⟩ := good_of h1
    rw [w64_id (x := w + 2) (by omega), w64_id (x := h + 2) (by omega), isSide_eq, isSide_eq]; simp only [Option.bind_some, Bool.not_true, Bool.not_false, cond_true, cond_false, Bool.true_and, Bool.false_and, Bool.and_true, Bool.and_false, Bool.false_eq_true, Bool.true_or, Bool.or_true, Bool.false_or, Bool.or_false, Bool.or_self, Bool.and_self, decide_true, decide_false, if_true, if_false, not_true, not_false_eq_true, not_true_eq_false, false_or, or_false, true_and, and_true, Bool.not_eq_true, Bool.true_eq_false, reduceCtorEq]
    cases e1 : inB (w + 2) 1 8
    · simp only [Bool.not_true, Bool.not_false, cond_true, cond_false, Bool.true_and, Bool.false_and, Bool.and_true, Bool.and_false, Bool.false_eq_true, Bool.true_or, Bool.or_true, Bool.false_or, Bool.or_false, Bool.or_self, Bool.and_self, decide_true, decide_false, if_true, if_false, not_true, not_false_eq_true, not_true_eq_false, false_or, or_false, true_and, and_true, Bool.not_eq_true, Bool.true_eq_false, reduceCtorEq]
      exact hno _ (fun hc => by have := hc.2.2.1; rw [inB_of (by omega)] at e1; cases e1) rfl
    cases e2 : inB (h + 2) 1 8
    · simp only [Bool.not_true, Bool.not_false, cond_true, cond_false, Bool.true_and, Bool.false_and, Bool.and_true, Bool.and_false, Bool.false_eq_true, Bool.true_or, Bool.or_true, Bool.false_or, Bool.or_false, Bool.or_self, Bool.and_self, decide_true, decide_false, if_true, if_false, not_true, not_false_eq_true, not_true_eq_false, false_or, or_false, true_and, and_true, Bool.not_eq_true, Bool.true_eq_false, reduceCtorEq]
      exact hno _ (fun hc => by have := hc.2.2.2.1; rw [inB_of (by omega)] at e2; cases e2) rfl
    rw [inB_iff] at e1 e2
    have hpl : 1 ≤ (p.length : Int) ∧ (p.length : Int) ≤ 8 := by unfold patB at h2; simp only [Bool.and_eq_true, inB_iff] at h2; exact h2.2
    obtain ⟨m, rfl⟩ : ∃ m, k = m + 100 := ⟨k - 100, by omega⟩
    rw [make_k (w + 2) (h + 2) (by omega) (by omega)]; simp only [Option.bind_some, Bool.not_true, Bool.not_false, cond_true, cond_false, Bool.true_and, Bool.false_and, Bool.and_true, Bool.and_false, Bool.false_eq_true, Bool.true_or, Bool.or_true, Bool.false_or, Bool.or_false, Bool.or_self, Bool.and_self, decide_true, decide_false, if_true, if_false, not_true, not_false_eq_true, not_true_eq_false, false_or, or_false, true_and, and_true, Bool.not_eq_true, Bool.true_eq_false, reduceCtorEq]
    rw [(put_both (w + 2) (h + 2) _ w h l 1 1 (blank_good (by omega) (by omega)) h1 (by unfold fitsB; rw [inB_of (by omega), inB_of (by omega), inB_of (by omega), inB_of (by omega)]; rfl) (m + 100) (by omega)).2]; simp only [Option.bind_some, show Int.toNat 1 = 1 from rfl]
    rw [ringLength_eq _ (w + 2) (h + 2) (by omega) (by omega)]; simp only [Option.bind_some]
    rw [rem_ok (by omega)]; simp only [Option.bind_some]
    by_cases h4 : (2 * (w + 2) + 2 * (h + 2) - 4).tmod (p.length : Int) = 0
    · simp only [h4, Bool.not_true, Bool.not_false, cond_true, cond_false, Bool.true_and, Bool.false_and, Bool.and_true, Bool.and_false, Bool.false_eq_true, Bool.true_or, Bool.or_true, Bool.false_or, Bool.or_false, Bool.or_self, Bool.and_self, decide_true, decide_false, if_true, if_false, not_true, not_false_eq_true, not_true_eq_false, false_or, or_false, true_and, and_true, Bool.not_eq_true, Bool.true_eq_false, reduceCtorEq]
      rw [withRing_eq (w + 2) (h + 2) _ p (by omega) (by omega) (put_len1 h1 (by omega) (by omega)) (by omega) _ (by omega)]
      unfold bordOut
      rw [if_pos ⟨h1, h2, by omega, by omega, h4⟩]; rfl
    · simp only [h4, Bool.not_true, Bool.not_false, cond_true, cond_false, Bool.true_and, Bool.false_and, Bool.and_true, Bool.and_false, Bool.false_eq_true, Bool.true_or, Bool.or_true, Bool.false_or, Bool.or_false, Bool.or_self, Bool.and_self, decide_true, decide_false, if_true, if_false, not_true, not_false_eq_true, not_true_eq_false, false_or, or_false, true_and, and_true, Bool.not_eq_true, Bool.true_eq_false, reduceCtorEq]
      exact hno _ (fun hc => h4 hc.2.2.2.2) rfl
  generalize bordOut w h l p = r at *
  obtain ⟨r0, r1, r2, r3⟩ := r
  exact ⟨r0, r1, r2, r3, 5000000, hS, hI, by simp only at hlen; omega⟩
theorem szIntS_ex (k : Nat) (l0 : List Int) (a : Int) (h0 : 0 ≤ a) (h1 : a ≤ 1048576) (h_l0 : l0.length ≤ 140737488351232) : ∃ b, laws_szIntS.f k l0 a = some b ∧ (b < 0 ∨ 0 ≤ b ∧ b ≤ a ∧ l0.length ≤ 1048576) := by
  unfold laws_szIntS.f laws_szIntS.m
  rw [w64_id (by omega)]
  by_cases h : a - (l0.length : Int) < 0
  · exact ⟨-1, if_pos h, .inl (by omega)⟩
  · exact ⟨_, if_neg h, .inr ⟨by omega, by omega, by omega⟩⟩
theorem szChart_ex (k : Nat) (a0_0 : Int) (a0_1 : Int) (l0_2 : List Int) (a : Int) (h0 : 0 ≤ a) (h1 : a ≤ 1048576) (h_l0_2 : l0_2.length ≤ 140737488351232) : ∃ b, laws_szChart.f k a0_0 a0_1 l0_2 a = some b ∧ (b < 0 ∨ 0 ≤ b ∧ b ≤ a ∧ l0_2.length ≤ 1048576) := by
  unfold laws_szChart.f laws_szChart.m
  obtain ⟨b0, e0, c0⟩ := szIntS_ex k l0_2 a (by omega) (by omega) h_l0_2
  rw [e0]; simp only [Option.bind_some]
  by_cases n0 : b0 < 0
  · exact ⟨-1, if_pos n0, .inl (by omega)⟩
  rw [if_neg n0]
  exact ⟨_, rfl, .inr (by omega)⟩
theorem toIntS_l (l0 : List Int) (hl : l0.length ≤ 4194304) : ∀ (d k i : Nat) (acc : List Int), i + d = l0.length → acc.length = l0.length → acc.take i = l0.take i → d < k → laws_toIntS.l4 k l0 acc (i : Int) = some l0 := by
  intro d
  induction d with
  | zero =>
    intro k i acc h1 h2 h3 h4
    obtain ⟨k, rfl⟩ := succ_of (show 0 < k by omega)
    simp (disch := omega) only [laws_toIntS.l4, laws_toIntS.b4, if_neg]
    rw [List.take_of_length_le (by omega), List.take_of_length_le (by omega)] at h3
    rw [h3]
  | succ d ih =>
    intro k i acc h1 h2 h3 h4
    obtain ⟨k, rfl⟩ := succ_of (show 0 < k by omega)
    have hi : i < l0.length := by omega
    have h := ih k (i + 1) (acc.set i (l0.getD i 0)) (by omega) (by rw [List.length_set]; exact h2) (by
      rw [List.take_succ_eq_append_getElem (by rw [List.length_set]; omega), List.take_succ_eq_append_getElem hi, List.getElem_set_self, List.take_set_of_le (Nat.le_refl i), h3, getD_lt hi]) (by omega)
    rw [show ((i + 1 : Nat) : Int) = (i : Int) + 1 by omega] at h
    simp (disch := omega) only [laws_toIntS.l4, laws_toIntS.b4, if_pos, chk_nat, Option.bind_some, w64_id, upd_of]
    exact h
theorem toIntS_eq (k : Nat) (l0 : List Int) (h_l0 : l0.length ≤ 4194304) (hk : 5000000 ≤ k) : laws_toIntS.f k l0 = some l0 := by
  unfold laws_toIntS.f laws_toIntS.m
  rw [mkl_int (by omega)]; simp only [Option.bind_some]
  exact toIntS_l l0 h_l0 l0.length k 0 _ (by omega) (by simp) (by simp) (by omega)
theorem toChart_eq (k : Nat) (a0_0 : Int) (a0_1 : Int) (l0_2 : List Int) (h_l0_2 : l0_2.length ≤ 4194304) (hk : 5000000 ≤ k) : laws_toChart.f k a0_0 a0_1 l0_2 = some (a0_0, a0_1, l0_2) := by
  unfold laws_toChart.f laws_toChart.m
  simp (disch := omega) only [toIntS_eq, Option.bind_some]
theorem eqIntS_eq (k : Nat) (l0 : List Int) (h_l0 : l0.length ≤ 4194304) (hk : 5000000 ≤ k) : laws_eqIntS.f k l0 l0 = some true := by
  unfold laws_eqIntS.f laws_eqIntS.m
  have h := (all_loop (L := fun k i => laws_eqIntS.l6 k l0 l0 (i : Int)) (n := l0.length) (K0 := 20) (ok := fun _ => true) (f := some false) (fun k i hk hi => ?_)) l0.length k 0 (by omega) (by omega)
  · rw [show ((0 : Nat) : Int) = 0 from rfl] at h
    simp only [Bool.not_true, Bool.not_false, cond_true, cond_false, Bool.true_and, Bool.false_and, Bool.and_true, Bool.and_false, Bool.false_eq_true, Bool.true_or, Bool.or_true, Bool.false_or, Bool.or_false, Bool.or_self, Bool.and_self, decide_true, decide_false, if_true, if_false, not_true, not_false_eq_true, not_true_eq_false, false_or, or_false, true_and, and_true, Bool.not_eq_true, Bool.true_eq_false, reduceCtorEq, eq_self]
    exact h.1 (some true) (fun k hk => by simp (disch := omega) only [laws_eqIntS.l6, laws_eqIntS.b6, if_neg]) (fun _ _ _ => rfl)
  · simp (disch := omega) only [laws_eqIntS.l6, laws_eqIntS.b6, if_pos, chk_nat, Option.bind_some, w64_id, Bool.not_true, Bool.not_false, cond_true, cond_false, Bool.true_and, Bool.false_and, Bool.and_true, Bool.and_false, Bool.false_eq_true, Bool.true_or, Bool.or_true, Bool.false_or, Bool.or_false, Bool.or_self, Bool.and_self, decide_true, decide_false, if_true, if_false, not_true, not_false_eq_true, not_true_eq_false, false_or, or_false, true_and, and_true, Bool.not_eq_true, Bool.true_eq_false, reduceCtorEq, eq_self, Int.natCast_add, Int.cast_ofNat_Int]
theorem eqChart_eq (k : Nat) (a0_0 : Int) (a0_1 : Int) (l0_2 : List Int) (h_l0_2 : l0_2.length ≤ 4194304) (hk : 5000000 ≤ k) : laws_eqChart.f k a0_0 a0_1 l0_2 a0_0 a0_1 l0_2 = some true := by
  unfold laws_eqChart.f laws_eqChart.m
  simp (disch := omega) only [eqIntS_eq, Option.bind_some, Bool.not_true, Bool.not_false, cond_true, cond_false, Bool.true_and, Bool.false_and, Bool.and_true, Bool.and_false, Bool.false_eq_true, Bool.true_or, Bool.or_true, Bool.false_or, Bool.or_false, Bool.or_self, Bool.and_self, decide_true, decide_false, if_true, if_false, not_true, not_false_eq_true, not_true_eq_false, false_or, or_false, true_and, and_true, Bool.not_eq_true, Bool.true_eq_false, reduceCtorEq, eq_self]
def mkIntS : Int → Nat → List Int
  | _, 0 => []
  | x, n + 1 => x :: mkIntS (x + 1) n
theorem markIntS_l : ∀ (q p : List Int) (k : Nat) (x : Int), (p ++ q).length ≤ 4194304 → 0 ≤ x → x + 1 * q.length ≤ 1125899906842624 → q.length < k → laws_markIntS.l3 k (p ++ q) x (p.length : Int) = some (x + 1 * q.length, p ++ mkIntS x q.length) := by
  intro q
  induction q with
  | nil =>
    intro p k x h1 h2 h3 h4
    obtain ⟨k, rfl⟩ := succ_of (show 0 < k by omega)
    simp (disch := omega) only [laws_markIntS.l3, laws_markIntS.b3, List.append_nil, if_neg]
    simp [mkIntS]
  | cons y q ih =>
    intro p k x h1 h2 h3 h4
    obtain ⟨k, rfl⟩ := succ_of (show 0 < k by omega)
    have hlt := lt_mid p y q
    have hpl : p.length ≤ 4194304 := by simp at h1; omega
    simp only [List.length_cons] at h3 h4
    have h := ih (p ++ [x]) k (x + 1) (by simp at h1 ⊢; omega) (by omega) (by omega) (by omega)
    rw [← snoc_app, show (((p ++ [x]).length : Nat) : Int) = (p.length : Int) + 1 by simp] at h
    simp (disch := omega) only [laws_markIntS.l3, laws_markIntS.b3, if_pos, chk_mid, Option.bind_some, upd_mid, set_mid, w64_id]
    simp only [Int.add_assoc, Int.reduceAdd] at h ⊢
    rw [h, List.append_assoc]
    simp only [List.length_cons, mkIntS, List.singleton_append]
    congr 2
    omega
theorem heldIntS_l : ∀ (n : Nat) (p : List Int) (k : Nat) (x : Int), p.length + n ≤ 4194304 → 0 ≤ x → x + 1 * n ≤ 1125899906842624 → n < k → laws_heldIntS.l3 k (p ++ mkIntS x n) x (p.length : Int) = some (x + 1 * n) := by
  intro n
  induction n with
  | zero =>
    intro p k x h1 h2 h3 h4
    obtain ⟨k, rfl⟩ := succ_of (show 0 < k by omega)
    simp (disch := omega) only [mkIntS, laws_heldIntS.l3, laws_heldIntS.b3, List.append_nil, if_neg]
    simp
  | succ n ih =>
    intro p k x h1 h2 h3 h4
    obtain ⟨k, rfl⟩ := succ_of (show 0 < k by omega)
    have hlt := lt_mid p x (mkIntS (x + 1) n)
    have h := ih (p ++ [x]) k (x + 1) (by simp; omega) (by omega) (by omega) (by omega)
    rw [← snoc_app, show (((p ++ [x]).length : Nat) : Int) = (p.length : Int) + 1 by simp] at h
    simp (disch := omega) only [mkIntS, laws_heldIntS.l3, laws_heldIntS.b3, if_pos, chk_mid, Option.bind_some, getD_mid, w64_id, eq_self, Bool.not_true, Bool.not_false, cond_true, cond_false, Bool.true_and, Bool.false_and, Bool.and_true, Bool.and_false, Bool.false_eq_true, Bool.true_or, Bool.or_true, Bool.false_or, Bool.or_false, Bool.or_self, Bool.and_self, decide_true, decide_false, if_true, if_false, not_true, not_false_eq_true, not_true_eq_false, false_or, or_false, true_and, and_true, Bool.not_eq_true, Bool.true_eq_false, reduceCtorEq]
    simp only [Int.add_assoc, Int.reduceAdd, Bool.not_true, Bool.not_false, cond_true, cond_false, Bool.true_and, Bool.false_and, Bool.and_true, Bool.and_false, Bool.false_eq_true, Bool.true_or, Bool.or_true, Bool.false_or, Bool.or_false, Bool.or_self, Bool.and_self, decide_true, decide_false, if_true, if_false, not_true, not_false_eq_true, not_true_eq_false, false_or, or_false, true_and, and_true, Bool.not_eq_true, Bool.true_eq_false, reduceCtorEq, eq_self] at h ⊢
    rw [h]
    congr 1
    omega
theorem markIntS_ex (l0 : List Int) (x : Int) (h_l0 : l0.length ≤ 4194304) (h0 : 0 ≤ x) (h1 : x ≤ 1099511627776) : ∃ (x' : Int) (l0' : List Int), x ≤ x' ∧ x' ≤ x + 64 * l0.length ∧ l0'.length = l0.length ∧ ∀ k, 5000000 ≤ k → laws_markIntS.f k l0 x = some (x', l0') ∧ laws_heldIntS.f k l0' x = some x' := by
  refine ⟨x + 1 * l0.length, mkIntS x l0.length, by omega, by omega, ?_, fun k hk => ⟨?_, ?_⟩⟩
  · generalize l0.length = n
    clear h0 h1
    induction n generalizing x with
    | zero => rfl
    | succ n ih => simp [mkIntS, ih]
  · exact markIntS_l l0 [] k x (by simpa using h_l0) h0 (by omega) (by omega)
  · exact heldIntS_l l0.length [] k x (by simpa using h_l0) h0 (by omega) (by omega)
theorem markChart_ex (a0_0 : Int) (a0_1 : Int) (l0_2 : List Int) (x : Int) (h_l0_2 : l0_2.length ≤ 4194304) (h0 : 0 ≤ x) (h1 : x ≤ 549755813888) : ∃ (x' : Int) (l0_2' : List Int), x ≤ x' ∧ x' ≤ x + 64 * (l0_2.length : Int) ∧ l0_2'.length = l0_2.length ∧ ∀ k, 5000000 ≤ k → laws_markChart.f k a0_0 a0_1 l0_2 x = some (x', l0_2') ∧ laws_heldChart.f k a0_0 a0_1 l0_2' x = some x' := by
  obtain ⟨x0, l0_2', p0, q0, m0_l0_2, e0⟩ := markIntS_ex l0_2 x h_l0_2 (by omega) (by omega)
  refine ⟨x0, l0_2', by omega, by omega, m0_l0_2, fun k hk => ⟨?_, ?_⟩⟩
  · unfold laws_markChart.f laws_markChart.m
    simp (disch := omega) only [(e0 k hk).1, Option.bind_some, Bool.not_true, Bool.not_false, cond_true, cond_false, Bool.true_and, Bool.false_and, Bool.and_true, Bool.and_false, Bool.false_eq_true, Bool.true_or, Bool.or_true, Bool.false_or, Bool.or_false, Bool.or_self, Bool.and_self, decide_true, decide_false, if_true, if_false, not_true, not_false_eq_true, not_true_eq_false, false_or, or_false, true_and, and_true, Bool.not_eq_true, Bool.true_eq_false, reduceCtorEq]
  · unfold laws_heldChart.f laws_heldChart.m
    simp (disch := omega) only [(e0 k hk).2, Option.bind_some, if_neg, Bool.not_true, Bool.not_false, cond_true, cond_false, Bool.true_and, Bool.false_and, Bool.and_true, Bool.and_false, Bool.false_eq_true, Bool.true_or, Bool.or_true, Bool.false_or, Bool.or_false, Bool.or_self, Bool.and_self, decide_true, decide_false, if_true, if_false, not_true, not_false_eq_true, not_true_eq_false, false_or, or_false, true_and, and_true, Bool.not_eq_true, Bool.true_eq_false, reduceCtorEq]
theorem pure_holds : Pure := by
  intro a0_0 a0_1 l0_2 l1 hw0 hw1 hw2 hw3 hw4 hw5
  by_cases nt0 : 1048576 < (l1.length : Int)
  · refine ⟨0, ?_⟩
    unfold laws_FnExactAddBorder.f laws_FnExactAddBorder.m
    exact if_pos nt0
  have hs0 : ∃ b, (∀ k, laws_szChart.f k a0_0 a0_1 l0_2 1048576 = some b) ∧ (b < 0 ∨ 0 ≤ b ∧ b ≤ 1048576 ∧ l0_2.length ≤ 1048576) := by
    obtain ⟨b, e, c⟩ := szChart_ex 0 a0_0 a0_1 l0_2 1048576 (by omega) (by omega) (by omega)
    exact ⟨b, fun k => e, c⟩
  obtain ⟨b0, es0, cs0⟩ := hs0
  by_cases nb0 : b0 < 0
  · refine ⟨0, ?_⟩
    unfold laws_FnExactAddBorder.f laws_FnExactAddBorder.m
    refine ifn nt0 ?_
    refine stepb (es0 _) ?_
    exact if_pos nb0
  obtain ⟨r0, r1, r2, r3, k0, hS, hI, hr_r2⟩ := both a0_0 a0_1 l0_2 l1 (by omega) (by omega)
  obtain ⟨K, hK⟩ : ∃ K, K = k0 + 10000000 := ⟨_, rfl⟩
  refine ⟨K, ?_⟩
  unfold laws_FnExactAddBorder.f laws_FnExactAddBorder.m
  refine ifn nt0 ?_
  refine stepb (es0 _) ?_
  refine ifn nb0 ?_
  refine stepb (show laws_toChart.f K a0_0 a0_1 l0_2 = some (a0_0, a0_1, l0_2) from toChart_eq K a0_0 a0_1 l0_2 (by omega) (by omega)) ?_
  refine stepb (show laws_toIntS.f K l1 = some (l1) from toIntS_eq K l1 (by omega) (by omega)) ?_
  refine stepb (hS K (by omega)) ?_
  refine stepb (show laws_toChart.f K a0_0 a0_1 l0_2 = some (a0_0, a0_1, l0_2) from toChart_eq K a0_0 a0_1 l0_2 (by omega) (by omega)) ?_
  refine stepb (show laws_toIntS.f K l1 = some (l1) from toIntS_eq K l1 (by omega) (by omega)) ?_
  refine stepb (hI K (by omega)) ?_
  refine stepb (show laws_eqChart.f K r0 r1 r2 r0 r1 r2 = some true from eqChart_eq K r0 r1 r2 (by omega) (by omega)) ?_
  refine condt ?_
  refine ifn (show ¬ ¬ r3 = r3 from fun h => h rfl) ?_
  refine stepb (show laws_toChart.f K a0_0 a0_1 l0_2 = some (a0_0, a0_1, l0_2) from toChart_eq K a0_0 a0_1 l0_2 (by omega) (by omega)) ?_
  refine stepb (show laws_eqChart.f K a0_0 a0_1 l0_2 a0_0 a0_1 l0_2 = some true from eqChart_eq K a0_0 a0_1 l0_2 (by omega) (by omega)) ?_
  refine condt ?_
  refine stepb (show laws_toIntS.f K l1 = some (l1) from toIntS_eq K l1 (by omega) (by omega)) ?_
  refine stepb (show laws_eqIntS.f K l1 l1 = some true from eqIntS_eq K l1 (by omega) (by omega)) ?_
  refine condt ?_
  obtain ⟨y13, w13_l0_2, py13, qy13, my13_l0_2, ey13⟩ := markChart_ex a0_0 a0_1 l0_2 1 (by omega) (by omega) (by omega)
  refine stepb (ey13 K (by omega)).1 ?_
  obtain ⟨y14, w14_l1, py14, qy14, my14_l1, ey14⟩ := markIntS_ex l1 y13 (by omega) (by omega) (by omega)
  refine stepb (ey14 K (by omega)).1 ?_
  refine ifn (show ¬ y14 < 0 by omega) ?_
  refine stepb (show laws_eqChart.f K r0 r1 r2 r0 r1 r2 = some true from eqChart_eq K r0 r1 r2 (by omega) (by omega)) ?_
  refine condt ?_
  refine ifn (show ¬ ¬ r3 = r3 from fun h => h rfl) ?_
  obtain ⟨y16, w16_r2, py16, qy16, my16_r2, ey16⟩ := markChart_ex r0 r1 r2 1 (by omega) (by omega) (by omega)
  refine stepb (ey16 K (by omega)).1 ?_
  refine stepb (ey16 K (by omega)).2 ?_
  refine ifn (show ¬ y16 < 0 by omega) ?_
  refine ifn (show ¬ ¬ y16 = y16 from fun h => h rfl) ?_
  refine stepb (show laws_toChart.f K a0_0 a0_1 l0_2 = some (a0_0, a0_1, l0_2) from toChart_eq K a0_0 a0_1 l0_2 (by omega) (by omega)) ?_
  refine stepb (show laws_toIntS.f K l1 = some (l1) from toIntS_eq K l1 (by omega) (by omega)) ?_
  refine stepb (hI K (by omega)) ?_
  refine stepb (show laws_eqChart.f K r0 r1 r2 r0 r1 r2 = some true from eqChart_eq K r0 r1 r2 (by omega) (by omega)) ?_
  refine condt ?_
  refine ifn (show ¬ ¬ r3 = r3 from fun h => h rfl) ?_
  refine stepb (ey16 K (by omega)).2 ?_
  refine ifn (show ¬ y16 < 0 by omega) ?_
  refine ifn (show ¬ ¬ y16 = y16 from fun h => h rfl) ?_
  rfl
end Go.Proofs.Yteiaakppjcpgcaa.DFnExactAddBorder
