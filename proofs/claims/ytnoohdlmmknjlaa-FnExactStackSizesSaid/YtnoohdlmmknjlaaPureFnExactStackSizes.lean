/- The program's StackSizes returns what the reference's StackSizes returns, for every program of designs. -/
import Derived.Test.YtnoohdlmmknjlaaDFnExactStackSizes
set_option linter.unusedVariables false
set_option linter.unusedSimpArgs false
set_option maxRecDepth 100000
namespace Go.Proofs.Ytnoohdlmmknjlaa.DFnExactStackSizes
open Go Go.Proofs.YtnoohdlmmknjlaaD
theorem succ_of {k : Nat} (h : 0 < k) : ∃ j, k = j + 1 := ⟨k - 1, by omega⟩
theorem w64_id {x : Int} (h : -9223372036854775808 ≤ x ∧ x ≤ 9223372036854775807) : w64 x = x := by
  unfold w64 IntKind.wrap
  simp [IntKind.signed, IntKind.bits]
  omega
theorem chk_nat {n j : Nat} (h : j < n) : chk n (j : Int) = some j := by unfold chk; rw [if_pos (by omega)]; simp
theorem chk_int {n : Nat} {i : Int} (h : 0 ≤ i ∧ i < n) : chk n i = some i.toNat := by unfold chk; rw [if_pos h]
theorem cut_int {n : Nat} {i j : Int} (h : 0 ≤ i ∧ i ≤ j ∧ j ≤ n) : cut n i j = some (i.toNat, j.toNat - i.toNat) := by unfold cut; rw [if_pos h]
theorem cutTo_int {n : Nat} {j : Int} (h : 0 ≤ j ∧ j ≤ n) : cutTo n j = some j.toNat := by unfold cutTo; rw [if_pos h]
theorem cut3_int {n : Nat} {i j m : Int} (h : 0 ≤ i ∧ i ≤ j ∧ j ≤ m ∧ m ≤ n) : cut3 n i j m = some () := by unfold cut3; rw [if_pos h]
theorem mkl_int {L : Nat} {n c : Int} (h : 0 ≤ n ∧ n ≤ c ∧ c ≤ L) : mkl L n c = some n.toNat := by unfold mkl; rw [if_pos h]
theorem selfApp_nat {i lo m : Nat} (h : i ≤ lo) : selfApp i lo m = some (i + m) := by unfold selfApp; rw [if_pos h]
section
variable {β : Type}
theorem app_ok {L : Nat} {xs ys : List β} (h : xs.length + ys.length ≤ L) : app L xs ys = some (xs ++ ys) := by unfold app; rw [if_pos h]
theorem chk_mid (p : List β) (a : β) (q : List β) : chk (p ++ a :: q).length (p.length : Int) = some p.length := chk_nat (by simp)
theorem getD_mid (p : List β) (a : β) (q : List β) (d : β) : (p ++ a :: q).getD p.length d = a := by
  rw [List.getD_eq_getElem?_getD, List.getElem?_append_right (Nat.le_refl _)]; simp
theorem set_mid (p : List β) (a b : β) (q : List β) : (p ++ a :: q).set p.length b = p ++ b :: q := by
  rw [List.set_append_right _ _ (Nat.le_refl _)]; simp
theorem upd_mid (p : List β) (a : β) (q : List β) (d : β) (f : β → β) : upd (p ++ a :: q) p.length d f = p ++ f a :: q := by
  unfold upd; rw [getD_mid, set_mid]
theorem upd_len (xs : List β) (j : Nat) (d : β) (f : β → β) : (upd xs j d f).length = xs.length := by unfold upd; simp
theorem upd_of {xs : List β} {j : Nat} {d : β} {f : β → β} : upd xs j d f = xs.set j (f (xs.getD j d)) := rfl
theorem lt_mid (p : List β) (a : β) (q : List β) : (p.length : Int) < ((p ++ a :: q).length : Nat) := by simp; omega
theorem next_mid {p : List β} {a : β} {q : List β} (h : (p ++ a :: q).length ≤ 1152921504606846976) : w64 ((p.length : Int) + 1) = ((p ++ [a]).length : Nat) := by
  rw [w64_id (by simp at h; omega)]; simp
theorem snoc_app (p : List β) (a : β) (q : List β) : p ++ a :: q = (p ++ [a]) ++ q := by simp
theorem getD_lt {xs : List β} {i : Nat} {d : β} (h : i < xs.length) : xs.getD i d = xs[i] := by
  rw [List.getD_eq_getElem?_getD, List.getElem?_eq_getElem h]; rfl
theorem getD_set {xs : List β} {i j : Nat} {a d : β} (h : i < xs.length) : (xs.set i a).getD j d = if i = j then a else xs.getD j d := by
  rw [List.getD_eq_getElem?_getD, List.getD_eq_getElem?_getD, List.getElem?_set]
  split
  · rename_i e; subst e; simp [h]
  · rfl
theorem some_bind {γ : Type} (x : β) (f : β → Option γ) : (some x).bind f = f x := rfl
end
def inB (n lo hi : Int) : Bool := decide (lo ≤ n) && decide (n ≤ hi)
theorem inB_iff {n lo hi : Int} : inB n lo hi = true ↔ lo ≤ n ∧ n ≤ hi := by unfold inB; simp
theorem inB_of {n lo hi : Int} (h : lo ≤ n ∧ n ≤ hi) : inB n lo hi = true := inB_iff.2 h
theorem notB {b : Bool} (h : ¬ b = true) : b = false := by cases b <;> simp_all
theorem all_loop {β : Type} {L : Nat → Nat → Option β} {n K0 : Nat} {ok : Nat → Bool} {f : Option β} (hs : ∀ k i, K0 ≤ k → i < n → L (k + 1) i = if ok i = true then L k (i + 1) else f) :
    ∀ (d k i : Nat), i + d = n → K0 + d < k → (∀ e, (∀ k, K0 ≤ k → L (k + 1) n = e) → (∀ j, i ≤ j → j < n → ok j = true) → L k i = e) ∧ ((∃ j, i ≤ j ∧ j < n ∧ ok j = false) → L k i = f) := by
  intro d
  induction d with
  | zero =>
    intro k i h1 h2
    obtain ⟨k, rfl⟩ := succ_of (show 0 < k by omega)
    have : i = n := by omega
    subst this
    exact ⟨fun e he _ => he k (by omega), fun ⟨j, a, b, _⟩ => by omega⟩
  | succ d ih =>
    intro k i h1 h2
    obtain ⟨k, rfl⟩ := succ_of (show 0 < k by omega)
    have := ih k (i + 1) (by omega) (by omega)
    rw [hs k i (by omega) (by omega)]
    refine ⟨fun e he h => ?_, fun ⟨j, a, b, c⟩ => ?_⟩
    · rw [if_pos (h i (Nat.le_refl _) (by omega))]; exact this.1 e he fun j a b => h j (by omega) b
    · by_cases e : ok i = true
      · rw [if_pos e]
        refine this.2 ⟨j, ?_, b, c⟩
        rcases Nat.lt_or_ge i j with h | h
        · exact h
        · have : j = i := by omega
          subst this; rw [e] at c; cases c
      · rw [if_neg e]
theorem exists_bad {n : Nat} {ok : Nat → Bool} (h : ¬ ∀ i, i < n → ok i = true) : ∃ j, 0 ≤ j ∧ j < n ∧ ok j = false := by
  apply Classical.byContradiction; intro hn
  refine h fun j hj => ?_
  cases hc : ok j with
  | true => rfl
  | false => exact absurd ⟨j, Nat.zero_le _, hj, hc⟩ hn
theorem first_bad {n : Nat} {ok : Nat → Bool} (h : ¬ ∀ i, i < n → ok i = true) : ∃ j, j < n ∧ ok j = false ∧ ∀ i, i < j → ok i = true := by
  induction n with
  | zero => exact absurd (fun i hi => by omega) h
  | succ n ih =>
    by_cases h1 : ∀ i, i < n → ok i = true
    · refine ⟨n, by omega, ?_, h1⟩
      cases hc : ok n with
      | false => rfl
      | true => exact absurd (fun i hi => by
          rcases Nat.lt_or_ge i n with h' | h'
          · exact h1 i h'
          · have : i = n := by omega
            rw [this]; exact hc) h
    · obtain ⟨j, a, b, c⟩ := ih h1
      exact ⟨j, by omega, b, c⟩
theorem find_loop {L : Nat → Nat → Option Int} {n K0 : Nat} {ok : Nat → Bool} (hs : ∀ k i, K0 ≤ k → i < n → L (k + 1) i = if ok i = true then some (i : Int) else L k (i + 1)) (he : ∀ k, K0 ≤ k → L (k + 1) n = some (-1)) :
    ∀ (d k i : Nat), i + d = n → K0 + d < k → ((∀ j, i ≤ j → j < n → ok j = false) → L k i = some (-1)) ∧ (∀ m, i ≤ m → m < n → ok m = true → (∀ j, i ≤ j → j < m → ok j = false) → L k i = some (m : Int)) := by
  intro d
  induction d with
  | zero =>
    intro k i h1 h2
    obtain ⟨k, rfl⟩ := succ_of (show 0 < k by omega)
    have : i = n := by omega
    subst this
    exact ⟨fun _ => he k (by omega), fun m a b _ _ => by omega⟩
  | succ d ih =>
    intro k i h1 h2
    obtain ⟨k, rfl⟩ := succ_of (show 0 < k by omega)
    have := ih k (i + 1) (by omega) (by omega)
    rw [hs k i (by omega) (by omega)]
    refine ⟨fun h => ?_, fun m a b c h => ?_⟩
    · rw [if_neg (by rw [h i (Nat.le_refl _) (by omega)]; simp)]; exact this.1 fun j a b => h j (by omega) b
    · by_cases e : ok i = true
      · rw [if_pos e]
        rcases Nat.lt_or_ge i m with h' | h'
        · have := h i (Nat.le_refl _) h'; rw [e] at this; cases this
        · have : m = i := by omega
          rw [this]
      · rw [if_neg e]
        refine this.2 m ?_ b c fun j a b => h j (by omega) b
        rcases Nat.lt_or_ge i m with h' | h'
        · exact h'
        · have : m = i := by omega
          subst this; exact absurd c e
theorem stepb {α γ : Type} {a : Option α} {x : α} {f : α → Option γ} {r : Option γ} (h : a = some x) (g : f x = r) : a.bind f = r := by rw [h]; exact g
theorem ifn {γ : Type} {c : Prop} {i : Decidable c} {t e r : γ} (h : ¬ c) (g : e = r) : @ite γ c i t e = r := by rw [if_neg h]; exact g
theorem condt {γ : Type} {a b r : γ} (g : b = r) : cond (!true) a b = r := g
def colorB (x : Int) : Bool := inB x 0 5
def goodB (w h : Int) (l : List Int) : Bool := inB w 1 8 && inB h 1 8 && decide ((l.length : Int) = w * h) && l.all colorB
theorem mul_bd {w h : Int} (hw : 1 ≤ w ∧ w ≤ 8) (hh : 1 ≤ h ∧ h ≤ 8) : 1 ≤ w * h ∧ w * h ≤ 64 := by
  obtain ⟨a, b⟩ := hw; obtain ⟨c, d⟩ := hh
  have h1 : w = 1 ∨ w = 2 ∨ w = 3 ∨ w = 4 ∨ w = 5 ∨ w = 6 ∨ w = 7 ∨ w = 8 := by omega
  rcases h1 with rfl | rfl | rfl | rfl | rfl | rfl | rfl | rfl <;> omega
theorem good_of {w h : Int} {l : List Int} (hg : goodB w h l = true) : (1 ≤ w ∧ w ≤ 8) ∧ (1 ≤ h ∧ h ≤ 8) ∧ (l.length : Int) = w * h ∧ ∀ x ∈ l, 0 ≤ x ∧ x ≤ 5 := by
  unfold goodB at hg
  simp only [Bool.and_eq_true, decide_eq_true_eq, List.all_eq_true, inB_iff] at hg
  exact ⟨hg.1.1.1, hg.1.1.2, hg.1.2, fun x hx => inB_iff.1 (hg.2 x hx)⟩
theorem allI_iff (p : Int → Bool) (xs : List Int) : xs.all p = true ↔ ∀ i, i < xs.length → p (xs.getD i 0) = true := by
  rw [List.all_eq_true]
  constructor
  · intro h i hi; rw [getD_lt hi]; exact h _ (List.getElem_mem hi)
  · intro h x hx
    obtain ⟨i, hi, rfl⟩ := List.mem_iff_getElem.1 hx
    rw [← getD_lt (d := 0) hi]; exact h i hi
theorem specIn_eq (k : Nat) (n lo hi : Int) : spec_l1In.f k n lo hi = some (inB n lo hi) := by
  unfold spec_l1In.f spec_l1In.m inB; by_cases h : lo ≤ n <;> simp [h]
theorem implIn_eq (k : Nat) (n lo hi : Int) : impl_in.f k n lo hi = some (inB n lo hi) := by
  unfold impl_in.f impl_in.m inB; by_cases h : lo ≤ n <;> simp [h]
theorem l2Color_eq (k : Nat) (n : Int) : spec_l2Color.f k n = some (colorB n) := by unfold spec_l2Color.f spec_l2Color.m; rw [specIn_eq]; rfl
theorem l2Side_eq (k : Nat) (n : Int) : spec_l2Side.f k n = some (inB n 1 8) := by unfold spec_l2Side.f spec_l2Side.m; rw [specIn_eq]; rfl
theorem isColor_eq (k : Nat) (n : Int) : impl_isColor.f k n = some (colorB n) := by unfold impl_isColor.f impl_isColor.m; rw [implIn_eq]; rfl
theorem isSide_eq (k : Nat) (n : Int) : impl_isSide.f k n = some (inB n 1 8) := by unfold impl_isSide.f impl_isSide.m; rw [implIn_eq]; rfl
theorem l2Good_eq (k : Nat) (w h : Int) (l : List Int) (hl : l.length ≤ 100000000000000) (hk : l.length + 50 ≤ k) : spec_l2Good.f k w h l = some (goodB w h l) := by
  unfold spec_l2Good.f spec_l2Good.m
  have hq := (all_loop (L := fun k i => spec_l2Good.l3 k w h l (i : Int)) (n := l.length) (K0 := 20) (ok := fun i => colorB (l.getD i 0)) (f := some false) (fun k i hk hi => ?_)) l.length k 0 (by omega) (by omega)
  · rw [show ((0 : Nat) : Int) = 0 from rfl] at hq
    by_cases hc : l.all colorB = true
    · rw [hq.1 _ (fun k hk => ?_) (fun j _ hj => (allI_iff _ _).1 hc j hj)]
      simp (disch := omega) only [spec_l2Good.l3, spec_l2Good.b3, if_neg, l2Side_eq, Option.bind_some]
      unfold goodB
      cases e1 : inB w 1 8 <;> simp only [Bool.not_true, Bool.not_false, cond_true, cond_false, Bool.true_and, Bool.false_and, Bool.and_true, Bool.and_false, Bool.false_eq_true, Bool.true_or, Bool.or_true, Bool.false_or, Bool.or_false, Bool.or_self, Bool.and_self, decide_true, decide_false, if_true, if_false, not_true, not_false_eq_true, not_true_eq_false, false_or, or_false, true_and, and_true, Bool.not_eq_true, Bool.true_eq_false, reduceCtorEq]
      cases e2 : inB h 1 8 <;> simp only [Bool.not_true, Bool.not_false, cond_true, cond_false, Bool.true_and, Bool.false_and, Bool.and_true, Bool.and_false, Bool.false_eq_true, Bool.true_or, Bool.or_true, Bool.false_or, Bool.or_false, Bool.or_self, Bool.and_self, decide_true, decide_false, if_true, if_false, not_true, not_false_eq_true, not_true_eq_false, false_or, or_false, true_and, and_true, Bool.not_eq_true, Bool.true_eq_false, reduceCtorEq, hc, Option.bind_some]
      have := mul_bd (inB_iff.1 e1) (inB_iff.1 e2)
      rw [w64_id (by omega)]
    · rw [hq.2 (exists_bad fun hn => hc ((allI_iff _ _).2 hn))]
      unfold goodB; rw [notB hc]; simp
  · simp (disch := omega) only [spec_l2Good.l3, spec_l2Good.b3, if_pos, chk_nat, Option.bind_some, w64_id, l2Color_eq, Int.natCast_add, Int.cast_ofNat_Int]
    cases colorB (l.getD i 0) <;> simp only [Bool.not_true, Bool.not_false, cond_true, cond_false, Bool.true_and, Bool.false_and, Bool.and_true, Bool.and_false, Bool.false_eq_true, Bool.true_or, Bool.or_true, Bool.false_or, Bool.or_false, Bool.or_self, Bool.and_self, decide_true, decide_false, if_true, if_false, not_true, not_false_eq_true, not_true_eq_false, false_or, or_false, true_and, and_true, Bool.not_eq_true, Bool.true_eq_false, reduceCtorEq]
theorem areColors_eq (k : Nat) (l : List Int) (hl : l.length ≤ 100000000000000) (hk : l.length + 50 ≤ k) : impl_areAll_int__impl_isColor.f k l = some (l.all colorB) := by
  unfold impl_areAll_int__impl_isColor.f impl_areAll_int__impl_isColor.m slices_ContainsFunc_int_int__impl_areAll_int_1__impl_isColor.f slices_ContainsFunc_int_int__impl_areAll_int_1__impl_isColor.m slices_IndexFunc_int_int__impl_areAll_int_1__impl_isColor.f slices_IndexFunc_int_int__impl_areAll_int_1__impl_isColor.m
  have h := (find_loop (L := fun k i => slices_IndexFunc_int_int__impl_areAll_int_1__impl_isColor.l3 k l l.length (i : Int)) (n := l.length) (K0 := 20) (ok := fun i => !colorB (l.getD i 0)) (fun k i hk hi => ?_) (fun k hk => ?_)) l.length k 0 (by omega) (by omega)
  · rw [show ((0 : Nat) : Int) = 0 from rfl] at h
    by_cases ha : l.all colorB = true
    · rw [h.1 (fun j _ hj => by rw [(allI_iff _ _).1 ha j hj]; rfl), ha]; rfl
    · obtain ⟨m, h1, h2, h3⟩ := first_bad (n := l.length) (ok := fun i => colorB (l.getD i 0)) (fun hn => ha ((allI_iff _ _).2 hn))
      rw [h.2 m (Nat.zero_le _) h1 (by rw [h2]; rfl) (fun j _ hj => by rw [h3 j hj]; rfl), notB ha]
      simp
  · simp (disch := omega) only [slices_IndexFunc_int_int__impl_areAll_int_1__impl_isColor.l3, slices_IndexFunc_int_int__impl_areAll_int_1__impl_isColor.b3, impl_areAll_int_1__impl_isColor.f, impl_areAll_int_1__impl_isColor.m, isColor_eq, if_pos, chk_nat, Option.bind_some, w64_id, Int.natCast_add, Int.cast_ofNat_Int]
    cases colorB (l.getD i 0) <;> simp only [Bool.not_true, Bool.not_false, cond_true, cond_false, Bool.true_and, Bool.false_and, Bool.and_true, Bool.and_false, Bool.false_eq_true, Bool.true_or, Bool.or_true, Bool.false_or, Bool.or_false, Bool.or_self, Bool.and_self, decide_true, decide_false, if_true, if_false, not_true, not_false_eq_true, not_true_eq_false, false_or, or_false, true_and, and_true, Bool.not_eq_true, Bool.true_eq_false, reduceCtorEq]
  · simp (disch := omega) only [slices_IndexFunc_int_int__impl_areAll_int_1__impl_isColor.l3, slices_IndexFunc_int_int__impl_areAll_int_1__impl_isColor.b3, if_neg]
theorem isChart_eq (k : Nat) (w h : Int) (l : List Int) (hl : l.length ≤ 100000000000000) (hk : l.length + 50 ≤ k) : impl_IsChart.f k w h l = some (goodB w h l) := by
  unfold impl_IsChart.f impl_IsChart.m goodB
  rw [isSide_eq, isSide_eq, areColors_eq k l hl hk]
  simp only [Option.bind_some]
  cases e1 : inB w 1 8 <;> simp only [Bool.not_true, Bool.not_false, cond_true, cond_false, Bool.true_and, Bool.false_and, Bool.and_true, Bool.and_false, Bool.false_eq_true, Bool.true_or, Bool.or_true, Bool.false_or, Bool.or_false, Bool.or_self, Bool.and_self, decide_true, decide_false, if_true, if_false, not_true, not_false_eq_true, not_true_eq_false, false_or, or_false, true_and, and_true, Bool.not_eq_true, Bool.true_eq_false, reduceCtorEq]
  cases e2 : inB h 1 8 <;> simp only [Bool.not_true, Bool.not_false, cond_true, cond_false, Bool.true_and, Bool.false_and, Bool.and_true, Bool.and_false, Bool.false_eq_true, Bool.true_or, Bool.or_true, Bool.false_or, Bool.or_false, Bool.or_self, Bool.and_self, decide_true, decide_false, if_true, if_false, not_true, not_false_eq_true, not_true_eq_false, false_or, or_false, true_and, and_true, Bool.not_eq_true, Bool.true_eq_false, reduceCtorEq]
  have := mul_bd (inB_iff.1 e1) (inB_iff.1 e2)
  rw [w64_id (by omega)]
  by_cases e : (l.length : Int) = w * h <;> simp [e]
theorem cloneI_eq (k : Nat) (cs : List Int) (hl : cs.length ≤ 5000000) : slices_Clone_int_int.f k cs = some cs := by unfold slices_Clone_int_int.f; rw [app_ok (by simp; omega)]; rfl
theorem ownI_eq (k : Nat) (cs : List Int) (hl : cs.length ≤ 5000000) : spec_l1Own.f k cs = some cs := by unfold spec_l1Own.f spec_l1Own.m; rw [app_ok (by simp; omega)]; rfl
theorem copied_eq (k : Nat) (w h : Int) (l : List Int) (hl : l.length ≤ 5000000) : impl_Chart_copied.f k w h l = some (w, h, l) := by unfold impl_Chart_copied.f impl_Chart_copied.m; rw [cloneI_eq k l hl]; rfl
theorem l2Own_eq (k : Nat) (w h : Int) (l : List Int) (hl : l.length ≤ 5000000) : spec_l2Own.f k w h l = some (w, h, l) := by unfold spec_l2Own.f spec_l2Own.m; rw [ownI_eq k l hl]; rfl
theorem nat_mul_cast (a b : Nat) : ((a * b : Nat) : Int) = (a : Int) * b := Int.natCast_mul a b
theorem lenN {w h : Nat} {l : List Int} (hl : (l.length : Int) = (w : Int) * (h : Int)) : l.length = w * h := by rw [← nat_mul_cast] at hl; omega
def gridL (w h : Nat) (f : Nat → Nat → Int) : List Int := (List.range h).flatMap fun r => (List.range w).map (f r)
theorem gridL_len (w h : Nat) (f : Nat → Nat → Int) : (gridL w h f).length = w * h := by
  unfold gridL
  induction h with
  | zero => simp
  | succ h ih => rw [List.range_succ, List.flatMap_append, List.length_append, ih]; simp [Nat.mul_succ]
theorem gridL_congr (w h : Nat) (f g : Nat → Nat → Int) (e : ∀ r c, r < h → c < w → f r c = g r c) : gridL w h f = gridL w h g := by
  unfold gridL
  show ((List.range h).map _).flatten = ((List.range h).map _).flatten
  congr 1
  apply List.map_congr_left
  intro r hr
  apply List.map_congr_left
  intro c hc
  exact e r c (by simpa using hr) (by simpa using hc)
theorem gridL_all (w h : Nat) (f : Nat → Nat → Int) (p : Int → Prop) (e : ∀ r c, r < h → c < w → p (f r c)) : ∀ x ∈ gridL w h f, p x := by
  intro x hx
  unfold gridL at hx
  simp only [List.mem_flatMap, List.mem_map, List.mem_range] at hx
  obtain ⟨r, hr, c, hc, rfl⟩ := hx
  exact e r c hr hc
theorem gridL_get (w h : Nat) (f : Nat → Nat → Int) (r c : Nat) (hr : r < h) (hc : c < w) : (gridL w h f)[r * w + c]? = some (f r c) := by
  unfold gridL
  induction h with
  | zero => omega
  | succ h ih =>
    rw [List.range_succ, List.flatMap_append]
    have hl : ((List.range h).flatMap fun r => (List.range w).map (f r)).length = w * h := gridL_len w h f
    by_cases e : r < h
    · rw [List.getElem?_append_left]
      · exact ih e
      · rw [hl]
        have : (r + 1) * w ≤ h * w := Nat.mul_le_mul_right _ e
        rw [Nat.add_mul, Nat.one_mul] at this
        rw [Nat.mul_comm w h]; omega
    · have : r = h := by omega
      subst this
      rw [List.getElem?_append_right (by rw [hl, Nat.mul_comm]; omega), hl, Nat.mul_comm w r, Nat.add_sub_cancel_left]
      simp [hc]
/-- Two loops, one in the other, that collect g row col. -/
theorem grid_loop {R : Type} (L0 : Nat → Int → List Int → Option R) (L1 : Nat → Int → Int → List Int → Option R) (fin : List Int → Option R) (w h : Nat) (hw : w ≤ 64) (hh : h ≤ 64) (g : Nat → Int → Int → Option Int) (f : Nat → Nat → Int)
    (h0 : ∀ k (row : Nat) acc, L0 (k + 1) row acc = if (row : Int) < h then L1 k row 0 acc else fin acc)
    (h1 : ∀ k (row col : Nat) acc, L1 (k + 1) row col acc = if (col : Int) < w then (g k row col).bind (fun t => (app 17592186044416 acc [t]).bind fun l => L1 k row (w64 ((col : Int) + 1)) l) else L0 k (w64 ((row : Int) + 1)) acc)
    (hg : ∀ k (r c : Nat), r < h → c < w → g k r c = some (f r c)) : ∀ k, (h + 1) * (w + 2) ≤ k → L0 k 0 [] = fin (gridL w h f) := by
  have row_ : ∀ (d k row : Nat) (col : Nat) (acc : List Int), row < h → col + d = w → acc.length + d ≤ 8192 → d < k →
      ∃ k', k' + d + 1 = k ∧ L1 k row col acc = L0 k' ((row + 1 : Nat) : Int) (acc ++ ((List.range w).drop col).map (f row)) := by
    intro d
    induction d with
    | zero =>
      intro k row col acc hr hc ha hk
      obtain ⟨k, rfl⟩ := succ_of hk
      refine ⟨k, rfl, ?_⟩
      rw [h1, if_neg (by omega), w64_id (by omega), List.drop_of_length_le (by simp; omega)]
      simp
    | succ d ih =>
      intro k row col acc hr hc ha hk
      obtain ⟨k, rfl⟩ := succ_of (Nat.lt_of_le_of_lt (Nat.zero_le _) hk)
      obtain ⟨k', e1, e2⟩ := ih k row (col + 1) (acc ++ [f row col]) hr (by omega) (by simp; omega) (by omega)
      refine ⟨k', by omega, ?_⟩
      rw [h1, if_pos (by omega), hg k row col hr (by omega)]
      simp only [Option.bind_some]
      rw [app_ok (by simp; omega), w64_id (by omega)]
      simp only [Option.bind_some]
      rw [show ((col : Int) + 1) = ((col + 1 : Nat) : Int) by omega, e2]
      congr 1
      rw [List.append_assoc]
      congr 1
      rw [List.drop_eq_getElem_cons (l := List.range w) (i := col) (by simp; omega)]
      simp
  have all_ : ∀ (d k row : Nat) (acc : List Int), row + d = h → acc.length ≤ 64 * row → (d + 1) * (w + 2) ≤ k → L0 k row acc = fin (acc ++ ((List.range h).drop row).flatMap fun r => (List.range w).map (f r)) := by
    intro d
    induction d with
    | zero =>
      intro k row acc hr ha hk
      obtain ⟨k, rfl⟩ := succ_of (show 0 < k by omega)
      rw [h0, if_neg (by omega), List.drop_of_length_le (by simp; omega)]
      simp
    | succ d ih =>
      intro k row acc hr ha hk
      rw [Nat.add_mul] at hk
      obtain ⟨k, rfl⟩ := succ_of (show 0 < k by omega)
      rw [h0, if_pos (by omega)]
      obtain ⟨k', e1, e2⟩ := row_ w k row 0 acc (by omega) (by omega) (by omega) (by omega)
      rw [show ((0 : Int)) = ((0 : Nat) : Int) from rfl, e2, ih k' (row + 1) _ (by omega) (by simp; omega) (by omega)]
      congr 1
      rw [List.append_assoc, List.drop_eq_getElem_cons (show row < (List.range h).length by simp; omega)]
      simp
  intro k hk
  have := all_ h k 0 [] (by omega) (by simp) hk
  simpa [gridL] using this
def atL (w : Int) (l : List Int) (r c : Int) : Int := l.getD (r * w + c).toNat 0
theorem at_bd {w h r c : Int} (hw : 1 ≤ w ∧ w ≤ 8) (hh : 1 ≤ h ∧ h ≤ 8) (hr : 0 ≤ r ∧ r < h) (hc : 0 ≤ c ∧ c < w) : 0 ≤ r * w ∧ r * w ≤ 64 ∧ 0 ≤ r * w + c ∧ r * w + c < w * h := by
  obtain ⟨a, b⟩ := hw; obtain ⟨a', b'⟩ := hh; obtain ⟨p, q⟩ := hr; obtain ⟨p', q'⟩ := hc
  have h1 : w = 1 ∨ w = 2 ∨ w = 3 ∨ w = 4 ∨ w = 5 ∨ w = 6 ∨ w = 7 ∨ w = 8 := by omega
  rcases h1 with rfl | rfl | rfl | rfl | rfl | rfl | rfl | rfl <;> omega
theorem iatC (k : Nat) (w h : Int) (l : List Int) (r c : Int) (hw : 1 ≤ w ∧ w ≤ 8) (hh : 1 ≤ h ∧ h ≤ 8) (hl : (l.length : Int) = w * h) (hr : 0 ≤ r ∧ r < h) (hc : 0 ≤ c ∧ c < w) : impl_Chart_at.f k w h l r c = some (atL w l r c) := by
  have b := at_bd hw hh hr hc
  unfold impl_Chart_at.f impl_Chart_at.m atL
  rw [w64_id (x := r * w) (by omega), w64_id (by omega), chk_int (by omega)]; rfl
theorem satC (k : Nat) (w h : Int) (l : List Int) (r c : Int) (hw : 1 ≤ w ∧ w ≤ 8) (hh : 1 ≤ h ∧ h ≤ 8) (hl : (l.length : Int) = w * h) (hr : 0 ≤ r ∧ r < h) (hc : 0 ≤ c ∧ c < w) : spec_l2At.f k w h l r c = some (atL w l r c) := by
  have b := at_bd hw hh hr hc
  unfold spec_l2At.f spec_l2At.m atL
  rw [w64_id (x := r * w) (by omega), w64_id (by omega), chk_int (by omega)]; rfl
/-- A chart whose sides and knots are in order. -/
def okC (w h : Int) (l : List Int) : Prop := (1 ≤ w ∧ w ≤ 8) ∧ (1 ≤ h ∧ h ≤ 8) ∧ (l.length : Int) = w * h
def turnL (w h : Int) (l : List Int) : List Int := gridL h.toNat w.toNat fun r c => atL w l (h - 1 - c) r
def mirrL (w h : Int) (l : List Int) : List Int := gridL w.toNat h.toNat fun r c => atL w l r (w - 1 - c)
theorem turnL_len {w h : Int} {l : List Int} (ok : okC w h l) : ((turnL w h l).length : Int) = h * w := by
  unfold turnL; rw [gridL_len]; obtain ⟨a, b, _⟩ := ok
  rw [Int.natCast_mul, Int.toNat_of_nonneg (by omega), Int.toNat_of_nonneg (by omega)]
theorem mirrL_len {w h : Int} {l : List Int} (ok : okC w h l) : ((mirrL w h l).length : Int) = w * h := by
  unfold mirrL; rw [gridL_len]; obtain ⟨a, b, _⟩ := ok
  rw [Int.natCast_mul, Int.toNat_of_nonneg (by omega), Int.toNat_of_nonneg (by omega)]
theorem turn_ok {w h : Int} {l : List Int} (ok : okC w h l) : okC h w (turnL w h l) := ⟨ok.2.1, ok.1, turnL_len ok⟩
theorem mirr_ok {w h : Int} {l : List Int} (ok : okC w h l) : okC w h (mirrL w h l) := ⟨ok.1, ok.2.1, mirrL_len ok⟩
theorem rounds_bd {w h : Int} (hw : 1 ≤ w ∧ w ≤ 8) (hh : 1 ≤ h ∧ h ≤ 8) : (h.toNat + 1) * (w.toNat + 2) ≤ 90 := by
  have h1 : h.toNat + 1 ≤ 9 := by omega
  have h2 : w.toNat + 2 ≤ 10 := by omega
  exact Nat.mul_le_mul h1 h2
theorem specTurn_eq {w h : Int} {l : List Int} (ok : okC w h l) (k : Nat) (hk : 90 ≤ k) : spec_l4Turn.f k w h l = some (h, w, turnL w h l) := by
  obtain ⟨hw, hh, hl⟩ := ok
  have := grid_loop (fun k row acc => spec_l4Turn.l4 k w h l 0 0 [] h w acc row) (fun k row col acc => spec_l4Turn.l9 k w h l 0 0 [] h w acc row col) (fun acc => some (h, w, acc)) h.toNat w.toNat (by omega) (by omega)
    (fun k row col => spec_l2At.f k w h l (w64 (w64 (h - 1) - col)) row) (fun r c => atL w l (h - 1 - c) r)
    (fun k row acc => by simp only [spec_l4Turn.l4, spec_l4Turn.b4]; rw [Int.toNat_of_nonneg (by omega)]) (fun k row col acc => by simp only [spec_l4Turn.l9, spec_l4Turn.b9]; rw [Int.toNat_of_nonneg (by omega)])
    (fun k r c hr hc => by rw [w64_id (x := h - 1) (by omega), w64_id (by omega)]; exact satC k w h l _ _ hw hh hl (by omega) (by omega)) k (Nat.le_trans (rounds_bd hh hw) hk)
  exact this
theorem implTurn_eq {w h : Int} {l : List Int} (ok : okC w h l) (k : Nat) (hk : 90 ≤ k) : impl_Chart_turned.f k w h l = some (h, w, turnL w h l) := by
  obtain ⟨hw, hh, hl⟩ := ok
  have := grid_loop (fun k row acc => impl_makeChart__impl_Chart_turned_1.l4 k h w h l 0 0 [] h w acc w row) (fun k row col acc => impl_makeChart__impl_Chart_turned_1.l10 k h w h l 0 0 [] h w acc row w row h col) (fun acc => some (h, w, acc)) h.toNat w.toNat (by omega) (by omega)
    (fun k row col => impl_Chart_turned_1.f k row col w h l) (fun r c => atL w l (h - 1 - c) r)
    (fun k row acc => by simp only [impl_makeChart__impl_Chart_turned_1.l4, impl_makeChart__impl_Chart_turned_1.b4]; rw [Int.toNat_of_nonneg (by omega)]) (fun k row col acc => by simp only [impl_makeChart__impl_Chart_turned_1.l10, impl_makeChart__impl_Chart_turned_1.b10]; rw [Int.toNat_of_nonneg (by omega)])
    (fun k r c hr hc => by simp only [impl_Chart_turned_1.f, impl_Chart_turned_1.m]; rw [w64_id (x := h - 1) (by omega), w64_id (by omega), iatC k w h l _ _ hw hh hl (by omega) (by omega)]; rfl) k (Nat.le_trans (rounds_bd hh hw) hk)
  unfold impl_Chart_turned.f impl_Chart_turned.m impl_makeChart__impl_Chart_turned_1.f impl_makeChart__impl_Chart_turned_1.m
  show (impl_makeChart__impl_Chart_turned_1.l4 k h w h l 0 0 [] h w [] w 0).bind _ = _
  rw [this]; rfl
theorem specMirr_eq {w h : Int} {l : List Int} (ok : okC w h l) (k : Nat) (hk : 90 ≤ k) : spec_l4Mirror.f k w h l = some (w, h, mirrL w h l) := by
  obtain ⟨hw, hh, hl⟩ := ok
  have := grid_loop (fun k row acc => spec_l4Mirror.l4 k w h l 0 0 [] w h acc row) (fun k row col acc => spec_l4Mirror.l9 k w h l 0 0 [] w h acc row col) (fun acc => some (w, h, acc)) w.toNat h.toNat (by omega) (by omega)
    (fun k row col => spec_l2At.f k w h l row (w64 (w64 (w - 1) - col))) (fun r c => atL w l r (w - 1 - c))
    (fun k row acc => by simp only [spec_l4Mirror.l4, spec_l4Mirror.b4]; rw [Int.toNat_of_nonneg (by omega)]) (fun k row col acc => by simp only [spec_l4Mirror.l9, spec_l4Mirror.b9]; rw [Int.toNat_of_nonneg (by omega)])
    (fun k r c hr hc => by rw [w64_id (x := w - 1) (by omega), w64_id (by omega)]; exact satC k w h l _ _ hw hh hl (by omega) (by omega)) k (Nat.le_trans (rounds_bd hw hh) hk)
  exact this
theorem implMirr_eq {w h : Int} {l : List Int} (ok : okC w h l) (k : Nat) (hk : 90 ≤ k) : impl_Chart_mirrored.f k w h l = some (w, h, mirrL w h l) := by
  obtain ⟨hw, hh, hl⟩ := ok
  have := grid_loop (fun k row acc => impl_makeChart__impl_Chart_mirrored_1.l4 k w w h l 0 0 [] w h acc h row) (fun k row col acc => impl_makeChart__impl_Chart_mirrored_1.l10 k w w h l 0 0 [] w h acc row h row w col) (fun acc => some (w, h, acc)) w.toNat h.toNat (by omega) (by omega)
    (fun k row col => impl_Chart_mirrored_1.f k row col w h l) (fun r c => atL w l r (w - 1 - c))
    (fun k row acc => by simp only [impl_makeChart__impl_Chart_mirrored_1.l4, impl_makeChart__impl_Chart_mirrored_1.b4]; rw [Int.toNat_of_nonneg (by omega)]) (fun k row col acc => by simp only [impl_makeChart__impl_Chart_mirrored_1.l10, impl_makeChart__impl_Chart_mirrored_1.b10]; rw [Int.toNat_of_nonneg (by omega)])
    (fun k r c hr hc => by simp only [impl_Chart_mirrored_1.f, impl_Chart_mirrored_1.m]; rw [w64_id (x := w - 1) (by omega), w64_id (by omega), iatC k w h l _ _ hw hh hl (by omega) (by omega)]; rfl) k (Nat.le_trans (rounds_bd hw hh) hk)
  unfold impl_Chart_mirrored.f impl_Chart_mirrored.m impl_makeChart__impl_Chart_mirrored_1.f impl_makeChart__impl_Chart_mirrored_1.m
  show (impl_makeChart__impl_Chart_mirrored_1.l4 k w w h l 0 0 [] w h [] h 0).bind _ = _
  rw [this]; rfl
theorem good_ok {w h : Int} {l : List Int} (hg : goodB w h l = true) : okC w h l := ⟨(good_of hg).1, (good_of hg).2.1, (good_of hg).2.2.1⟩
theorem okC_len {w h : Int} {l : List Int} (ok : okC w h l) : l.length ≤ 64 := by have := mul_bd ok.1 ok.2.1; have := ok.2.2; omega
def turns : Nat → Int → Int → List Int → Int × Int × List Int
  | 0, w, h, l => (w, h, l)
  | n + 1, w, h, l => turns n h w (turnL w h l)
def moveR (w h : Int) (l : List Int) (s : Int) : Int × Int × List Int := if 4 ≤ s then turns (s % 4).toNat w h (mirrL w h l) else turns (s % 4).toNat w h l
theorem turns_ok (n : Nat) : ∀ {w h : Int} {l : List Int}, okC w h l → okC (turns n w h l).1 (turns n w h l).2.1 (turns n w h l).2.2 := by
  induction n with
  | zero => intro w h l ok; exact ok
  | succ n ih => intro w h l ok; exact ih (turn_ok ok)
theorem move_ok {w h : Int} {l : List Int} (s : Int) (ok : okC w h l) : okC (moveR w h l s).1 (moveR w h l s).2.1 (moveR w h l s).2.2 := by
  unfold moveR; split
  · exact turns_ok _ (mirr_ok ok)
  · exact turns_ok _ ok
theorem rem4 {s : Int} (hs : 0 ≤ s) : rem s 4 = some (s % 4) := by unfold rem; rw [if_neg (by omega), Int.tmod_eq_emod_of_nonneg hs]
theorem specAt_eq (k : Nat) (w h : Int) (l : List Int) (r c : Int) (n : Nat) (hn : r * w + c = n) (hl : n < l.length) (hb : 0 ≤ r * w ∧ r * w ≤ 1000 ∧ 0 ≤ c ∧ c ≤ 1000) : spec_l2At.f k w h l r c = some (l.getD n 0) := by
  unfold spec_l2At.f spec_l2At.m
  generalize r * w = q at *
  simp (disch := omega) only [w64_id, hn, chk_nat, Option.bind_some]
theorem implAt_eq (k : Nat) (w h : Int) (l : List Int) (r c : Int) (n : Nat) (hn : r * w + c = n) (hl : n < l.length) (hb : 0 ≤ r * w ∧ r * w ≤ 1000 ∧ 0 ≤ c ∧ c ≤ 1000) : impl_Chart_at.f k w h l r c = some (l.getD n 0) := by
  unfold impl_Chart_at.f impl_Chart_at.m
  generalize r * w = q at *
  simp (disch := omega) only [w64_id, hn, chk_nat, Option.bind_some]
def splice (l : List Int) (b : Nat) (ys : List Int) : List Int := l.take b ++ (ys ++ l.drop (b + ys.length))
theorem splice_len {l : List Int} {b : Nat} {ys : List Int} (h : b + ys.length ≤ l.length) : (splice l b ys).length = l.length := by unfold splice; simp; omega
theorem splice_nil (l : List Int) (b : Nat) : splice l b [] = l := by unfold splice; simp
theorem splice_set {l : List Int} {b j : Nat} {ys : List Int} (hj : j < ys.length) (h : b + ys.length ≤ l.length) : (splice l b (ys.take j)).set (b + j) ys[j] = splice l b (ys.take (j + 1)) := by
  unfold splice
  have hl : (ys.take j).length = j := by rw [List.length_take]; omega
  have hl1 : (ys.take (j + 1)).length = j + 1 := by rw [List.length_take]; omega
  rw [hl, hl1, List.drop_eq_getElem_cons (show b + j < l.length by omega), ← List.append_assoc]
  have hb : b + j = (l.take b ++ ys.take j).length := by rw [List.length_append, hl, List.length_take]; omega
  have hs := set_mid (l.take b ++ ys.take j) (l[b + j]'(by omega)) ys[j] (l.drop (b + j + 1))
  rw [← hb] at hs
  rw [hs, List.take_succ_eq_append_getElem hj]
  simp only [List.append_assoc, List.cons_append, List.nil_append, Nat.add_assoc]
theorem lay_splice {l : List Int} {b : Nat} {ys : List Int} (h : b + ys.length ≤ l.length) : lay l b (l.length - b) ys = splice l b ys := by
  unfold lay splice
  rw [List.take_of_length_le (l := ys) (by omega), Nat.min_eq_left (by omega)]
/-- A chart after so many rows of a part. -/
def putR (w R C W : Nat) (p : List Int) : Nat → Nat → List Int → List Int
  | 0, _, l => l
  | d + 1, r, l => putR w R C W p d (r + 1) (splice l ((R + r) * w + C) ((p.drop (r * W)).take W))
theorem putR_len (w h R C W H : Nat) (p : List Int) (hp : p.length = W * H) (hC : C + W ≤ w) : ∀ (d r : Nat) (l : List Int), r + d = H → R + H ≤ h → l.length = w * h → (putR w R C W p d r l).length = w * h := by
  intro d
  induction d with
  | zero => intro r l _ _ h; exact h
  | succ d ih =>
    intro r l h1 h2 h3
    unfold putR
    refine ih (r + 1) _ (by omega) h2 ?_
    rw [splice_len ?_, h3]
    have : (R + r) * w + w ≤ h * w := by rw [← Nat.succ_mul]; exact Nat.mul_le_mul_right _ (by omega)
    have h4 : ((p.drop (r * W)).take W).length ≤ W := by rw [List.length_take]; omega
    rw [h3, Nat.mul_comm w h]; omega
theorem row_len {p : List Int} {W H r : Nat} (hp : p.length = W * H) (hr : r < H) : ((p.drop (r * W)).take W).length = W := by
  have : r * W + W ≤ H * W := by rw [← Nat.succ_mul]; exact Nat.mul_le_mul_right _ hr
  rw [List.length_take, List.length_drop, hp, Nat.mul_comm W H]; omega
theorem implPut_l {w h R C W H : Nat} {l0 p : List Int} (hw : w ≤ 8) (hh : h ≤ 8) (hp : p.length = W * H) (hC : C + W ≤ w) (hR : R + H ≤ h) (hW : 1 ≤ W) : ∀ (d k r : Nat) (l : List Int), r + d = H → d < k → l.length = w * h → impl_Chart_put.l4 k (R : Int) (C : Int) (w : Int) (h : Int) l0 (W : Int) (H : Int) p 0 0 [] (w : Int) (h : Int) l (H : Int) (r : Int) = some ((w : Int), (h : Int), putR w R C W p d r l) := by
  intro d
  induction d with
  | zero =>
    intro k r l h1 h2 h3
    obtain ⟨k, rfl⟩ := succ_of h2
    simp (disch := omega) only [impl_Chart_put.l4, impl_Chart_put.b4, if_neg, putR]
  | succ d ih =>
    intro k r l h1 h2 h3
    obtain ⟨k, rfl⟩ := succ_of (show 0 < k by omega)
    have hrow := row_len hp (show r < H by omega)
    have b1 : (R + r) * w + w ≤ h * w := by rw [← Nat.succ_mul]; exact Nat.mul_le_mul_right _ (by omega)
    have b2 : h * w ≤ 64 := Nat.le_trans (Nat.mul_le_mul hh hw) (by omega)
    have b3 : r * W + W ≤ H * W := by rw [← Nat.succ_mul]; exact Nat.mul_le_mul_right _ (by omega)
    have b4 : H * W ≤ 64 := Nat.le_trans (Nat.mul_le_mul (show H ≤ 8 by omega) (show W ≤ 8 by omega)) (by omega)
    have e1 : ((R : Int) + (r : Int)) * (w : Int) = (((R + r) * w : Nat) : Int) := by rw [nat_mul_cast, Int.natCast_add]
    have e2 : (r : Int) * (W : Int) = ((r * W : Nat) : Int) := (nat_mul_cast _ _).symm
    have e3 : ((r : Int) + 1) * (W : Int) = ((r * W + W : Nat) : Int) := by rw [← Nat.succ_mul, nat_mul_cast]; rfl
    have hlen : l.length = h * w := by rw [h3, Nat.mul_comm]
    have hplen : p.length = H * W := by rw [hp, Nat.mul_comm]
    have h4 := ih k (r + 1) (splice l ((R + r) * w + C) ((p.drop (r * W)).take W)) (by omega) (by omega) (by rw [splice_len (by rw [hrow]; omega)]; exact h3)
    rw [show ((r + 1 : Nat) : Int) = (r : Int) + 1 by omega] at h4
    unfold putR
    generalize (R + r) * w = bb at *
    generalize r * W = cc at *
    simp (disch := omega) only [impl_Chart_put.l4, impl_Chart_put.b4, if_pos, w64_id, e1, e2, e3, cut_int, Option.bind_some]
    rw [show (((bb : Int) + (C : Int)).toNat) = bb + C by omega, Int.toNat_natCast, Int.toNat_natCast, Int.toNat_natCast, show cc + W - cc = W by omega, lay_splice (by rw [hrow]; omega)]
    exact h4
theorem specPut_l9 {w h R C W H : Nat} {l0 p : List Int} (hw : w ≤ 8) (hh : h ≤ 8) (hp : p.length = W * H) (hC : C + W ≤ w) (hR : R + H ≤ h) (r : Nat) (hr : r < H) (l : List Int) (h3 : l.length = w * h) : ∀ (d k j : Nat), j + d = W → d + 2 < k → spec_l2Put.l9 k (R : Int) (C : Int) (w : Int) (h : Int) l0 (W : Int) (H : Int) p 0 0 [] (w : Int) (h : Int) (splice l ((R + r) * w + C) (((p.drop (r * W)).take W).take j)) (r : Int) (j : Int) = spec_l2Put.l4 (k - d - 1) (R : Int) (C : Int) (w : Int) (h : Int) l0 (W : Int) (H : Int) p 0 0 [] (w : Int) (h : Int) (splice l ((R + r) * w + C) ((p.drop (r * W)).take W)) ((r + 1 : Nat) : Int) := by
  have hrow := row_len hp hr
  have b1 : (R + r) * w + w ≤ h * w := by rw [← Nat.succ_mul]; exact Nat.mul_le_mul_right _ (by omega)
  have b2 : h * w ≤ 64 := Nat.le_trans (Nat.mul_le_mul hh hw) (by omega)
  have b3 : r * W + W ≤ H * W := by rw [← Nat.succ_mul]; exact Nat.mul_le_mul_right _ (by omega)
  have b4 : H * W ≤ 64 := Nat.le_trans (Nat.mul_le_mul (show H ≤ 8 by omega) (show W ≤ 8 by omega)) (by omega)
  have e1 : ((R : Int) + (r : Int)) * (w : Int) = (((R + r) * w : Nat) : Int) := by rw [nat_mul_cast, Int.natCast_add]
  have hlen : l.length = h * w := by rw [h3, Nat.mul_comm]
  have hplen : p.length = H * W := by rw [hp, Nat.mul_comm]
  intro d
  induction d with
  | zero =>
    intro k j h1 h2
    obtain ⟨k, rfl⟩ := succ_of (show 0 < k by omega)
    simp (disch := omega) only [spec_l2Put.l9, spec_l2Put.b9, if_neg, w64_id]
    rw [List.take_of_length_le (l := (p.drop (r * W)).take W) (by omega), show ((r + 1 : Nat) : Int) = (r : Int) + 1 by omega]; rfl
  | succ d ih =>
    intro k j h1 h2
    obtain ⟨k, rfl⟩ := succ_of (show 0 < k by omega)
    have h4 := ih k (j + 1) (by omega) (by omega)
    have hat := specAt_eq k (W : Int) (H : Int) p (r : Int) (j : Int) (r * W + j) (by rw [← nat_mul_cast]; omega) (by omega) (by rw [← nat_mul_cast]; omega)
    have hg : p.getD (r * W + j) 0 = ((p.drop (r * W)).take W)[j]'(by omega) := by
      rw [getD_lt (by omega), List.getElem_take, List.getElem_drop]
    have hset := splice_set (l := l) (b := (R + r) * w + C) (ys := (p.drop (r * W)).take W) (j := j) (by omega) (by rw [hrow]; omega)
    have hsl : (splice l ((R + r) * w + C) (((p.drop (r * W)).take W).take j)).length = l.length := splice_len (by rw [List.length_take, hrow]; omega)
    rw [show k + 1 - (d + 1) - 1 = k - d - 1 by omega, ← h4, ← hset, show ((j + 1 : Nat) : Int) = (j : Int) + 1 by omega]
    simp only [spec_l2Put.l9, spec_l2Put.b9]
    rw [if_pos (by omega), hat]
    simp (disch := omega) only [Option.bind_some, w64_id, e1, hg]
    generalize (R + r) * w = bb at *
    rw [show ((bb : Int) + (C : Int) + (j : Int)) = ((bb + C + j : Nat) : Int) by omega, chk_nat (by omega)]
    rfl
theorem specPut_l {w h R C W H : Nat} {l0 p : List Int} (hw : w ≤ 8) (hh : h ≤ 8) (hp : p.length = W * H) (hC : C + W ≤ w) (hR : R + H ≤ h) (hW : 1 ≤ W) : ∀ (d k r : Nat) (l : List Int), r + d = H → d * (W + 2) + 5 < k → l.length = w * h → spec_l2Put.l4 k (R : Int) (C : Int) (w : Int) (h : Int) l0 (W : Int) (H : Int) p 0 0 [] (w : Int) (h : Int) l (r : Int) = some ((w : Int), (h : Int), putR w R C W p d r l) := by
  intro d
  induction d with
  | zero =>
    intro k r l h1 h2 h3
    obtain ⟨k, rfl⟩ := succ_of (show 0 < k by omega)
    simp (disch := omega) only [spec_l2Put.l4, spec_l2Put.b4, if_neg, putR]
  | succ d ih =>
    intro k r l h1 h2 h3
    obtain ⟨k, rfl⟩ := succ_of (show 0 < k by omega)
    have hrow := row_len hp (show r < H by omega)
    have b1 : (R + r) * w + w ≤ h * w := by rw [← Nat.succ_mul]; exact Nat.mul_le_mul_right _ (by omega)
    have hlen : l.length = h * w := by rw [h3, Nat.mul_comm]
    rw [Nat.succ_mul] at h2
    have h5 := specPut_l9 (l0 := l0) hw hh hp hC hR r (by omega) l h3 W k 0 (by omega) (by omega)
    rw [List.take_zero, splice_nil, show ((0 : Nat) : Int) = 0 from rfl] at h5
    simp (disch := omega) only [spec_l2Put.l4, spec_l2Put.b4, if_pos]
    rw [h5]
    exact ih _ (r + 1) _ (by omega) (by omega) (by rw [splice_len (by rw [hrow]; omega)]; exact h3)
def fitsB (w h : Int) (R C H W : Int) : Bool := inB R 0 (h - 1) && inB C 0 (w - 1) && inB H 1 (h - R) && inB W 1 (w - C)
def putOut (w h : Int) (l : List Int) (W H : Int) (p : List Int) (R C : Int) : Int × Int × List Int × Bool :=
  if goodB w h l = true ∧ goodB W H p = true ∧ fitsB w h R C H W = true then (w, h, putR w.toNat R.toNat C.toNat W.toNat p H.toNat 0 l, true) else (0, 0, [], false)
theorem fits_of {w h R C H W : Int} (hf : fitsB w h R C H W = true) : (0 ≤ R ∧ 0 ≤ C) ∧ (1 ≤ H ∧ R + H ≤ h) ∧ (1 ≤ W ∧ C + W ≤ w) := by
  unfold fitsB at hf
  simp only [Bool.and_eq_true, inB_iff] at hf
  omega
theorem put_both (w h : Int) (l : List Int) (W H : Int) (p : List Int) (R C : Int) (h1 : goodB w h l = true) (h2 : goodB W H p = true) (h3 : fitsB w h R C H W = true) (k : Nat) (hk : 200 ≤ k) : spec_l2Put.f k w h l W H p R C = some (w, h, putR w.toNat R.toNat C.toNat W.toNat p H.toNat 0 l) ∧ impl_Chart_put.f k w h l W H p R C = some (w, h, putR w.toNat R.toNat C.toNat W.toNat p H.toNat 0 l) := by
  obtain ⟨hw, hh, hl, _⟩ := good_of h1
  obtain ⟨hW, hH, hp, _⟩ := good_of h2
  obtain ⟨⟨f1, f2⟩, ⟨f3, f4⟩, f5, f6⟩ := fits_of h3
  have := mul_bd hw hh
  obtain ⟨w, rfl⟩ := Int.eq_ofNat_of_zero_le (show 0 ≤ w by omega)
  obtain ⟨h, rfl⟩ := Int.eq_ofNat_of_zero_le (show 0 ≤ h by omega)
  obtain ⟨W, rfl⟩ := Int.eq_ofNat_of_zero_le (show 0 ≤ W by omega)
  obtain ⟨H, rfl⟩ := Int.eq_ofNat_of_zero_le (show 0 ≤ H by omega)
  obtain ⟨R, rfl⟩ := Int.eq_ofNat_of_zero_le f1
  obtain ⟨C, rfl⟩ := Int.eq_ofNat_of_zero_le f2
  simp only [Int.toNat_natCast]
  have hl' := lenN hl
  have hp' := lenN hp
  have hHW : H * (W + 2) ≤ 80 := Nat.le_trans (Nat.mul_le_mul (show H ≤ 8 by omega) (show W + 2 ≤ 10 by omega)) (by omega)
  constructor
  · unfold spec_l2Put.f spec_l2Put.m
    rw [l2Own_eq k _ _ l (by omega)]; simp only [Option.bind_some]
    exact specPut_l (by omega) (by omega) hp' (by omega) (by omega) (by omega) H k 0 l (by omega) (by omega) hl'
  · unfold impl_Chart_put.f impl_Chart_put.m
    rw [copied_eq k _ _ l (by omega)]; simp only [Option.bind_some]
    exact implPut_l (by omega) (by omega) hp' (by omega) (by omega) (by omega) H k 0 l (by omega) (by omega) hl'
theorem putOut_len (w h : Int) (l : List Int) (W H : Int) (p : List Int) (R C : Int) : (putOut w h l W H p R C).2.2.1.length ≤ 64 := by
  unfold putOut
  split
  · rename_i hc
    obtain ⟨h1, h2, h3⟩ := hc
    obtain ⟨hw, hh, hl, _⟩ := good_of h1
    obtain ⟨hW, hH, hp, _⟩ := good_of h2
    obtain ⟨⟨f1, f2⟩, ⟨f3, f4⟩, f5, f6⟩ := fits_of h3
    have := mul_bd hw hh
    obtain ⟨w, rfl⟩ := Int.eq_ofNat_of_zero_le (show 0 ≤ w by omega)
    obtain ⟨h, rfl⟩ := Int.eq_ofNat_of_zero_le (show 0 ≤ h by omega)
    obtain ⟨W, rfl⟩ := Int.eq_ofNat_of_zero_le (show 0 ≤ W by omega)
    obtain ⟨H, rfl⟩ := Int.eq_ofNat_of_zero_le (show 0 ≤ H by omega)
    have hl' := lenN hl
    have hp' := lenN hp
    simp only [Int.toNat_natCast]
    rw [putR_len w h R.toNat C.toNat W H p hp' (by omega) H 0 l (by omega) (by omega) hl']
    rw [← nat_mul_cast] at this; omega
  · simp
theorem atL_grid {w h : Nat} (f : Nat → Nat → Int) {r c : Int} (hr : 0 ≤ r ∧ r < h) (hc : 0 ≤ c ∧ c < w) : atL w (gridL w h f) r c = f r.toNat c.toNat := by
  obtain ⟨r, rfl⟩ := Int.eq_ofNat_of_zero_le hr.1
  obtain ⟨c, rfl⟩ := Int.eq_ofNat_of_zero_le hc.1
  unfold atL
  rw [← Int.natCast_mul, ← Int.natCast_add, Int.toNat_natCast, Int.toNat_natCast, Int.toNat_natCast, List.getD_eq_getElem?_getD, gridL_get w h f r c (by omega) (by omega)]; rfl
theorem gridL_self {w h : Nat} {l : List Int} (hl : l.length = w * h) (hw : 0 < w) : gridL w h (fun r c => atL w l r c) = l := by
  apply List.ext_getElem?
  intro i
  by_cases hi : i < w * h
  · have h1 : i / w < h := Nat.div_lt_of_lt_mul hi
    have h2 : i % w < w := Nat.mod_lt _ hw
    have h3 : i / w * w + i % w = i := by rw [Nat.mul_comm]; exact Nat.div_add_mod i w
    have := gridL_get w h (fun r c => atL w l r c) _ _ h1 h2
    rw [h3] at this; rw [this]
    unfold atL
    rw [← Int.natCast_mul, ← Int.natCast_add, Int.toNat_natCast, h3, getD_lt (by omega), List.getElem?_eq_getElem]
  · rw [List.getElem?_eq_none (by rw [gridL_len]; omega), List.getElem?_eq_none (by omega)]
def tT (c : Int × Int × List Int) : Int × Int × List Int := (c.2.1, c.1, turnL c.1 c.2.1 c.2.2)
def tM (c : Int × Int × List Int) : Int × Int × List Int := (c.1, c.2.1, mirrL c.1 c.2.1 c.2.2)
def okT (c : Int × Int × List Int) : Prop := okC c.1 c.2.1 c.2.2
theorem tT_ok {c : Int × Int × List Int} (ok : okT c) : okT (tT c) := turn_ok ok
theorem tM_ok {c : Int × Int × List Int} (ok : okT c) : okT (tM c) := mirr_ok ok
theorem turnN {w h : Nat} {l : List Int} : turnL w h l = gridL h w fun r c => atL w l (h - 1 - c) r := rfl
theorem mirrN {w h : Nat} {l : List Int} : mirrL w h l = gridL w h fun r c => atL w l r (w - 1 - c) := rfl
theorem okT_nat {c : Int × Int × List Int} (ok : okT c) : ∃ (w h : Nat) (l : List Int), c = ((w : Int), (h : Int), l) ∧ 0 < w ∧ 0 < h ∧ l.length = w * h := by
  obtain ⟨w, h, l⟩ := c
  obtain ⟨hw, hh, hl⟩ := ok
  dsimp only at hw hh hl
  obtain ⟨w, rfl⟩ := Int.eq_ofNat_of_zero_le (show 0 ≤ w by omega)
  obtain ⟨h, rfl⟩ := Int.eq_ofNat_of_zero_le (show 0 ≤ h by omega)
  exact ⟨w, h, l, rfl, by omega, by omega, lenN hl⟩
theorem tM_M {c : Int × Int × List Int} (ok : okT c) : tM (tM c) = c := by
  obtain ⟨w, h, l, rfl, hw, hh, hl⟩ := okT_nat ok
  unfold tM; dsimp only
  rw [mirrN, mirrN]
  refine congrArg (fun x => ((w : Int), (h : Int), x)) ?_
  refine Eq.trans (gridL_congr w h _ _ fun r c hr hc => ?_) (gridL_self hl hw)
  rw [atL_grid _ (by omega) (by omega)]
  congr 1 <;> omega
theorem tT_MT {c : Int × Int × List Int} (ok : okT c) : tT (tM (tT c)) = tM c := by
  obtain ⟨w, h, l, rfl, hw, hh, hl⟩ := okT_nat ok
  unfold tM tT; dsimp only
  rw [mirrN, turnN, turnN, mirrN]
  refine congrArg (fun x => ((w : Int), (h : Int), x)) ?_
  refine gridL_congr w h _ _ fun r c hr hc => ?_
  rw [atL_grid _ (by omega) (by omega), atL_grid _ (by omega) (by omega)]
  congr 1 <;> omega
theorem tT_4 {c : Int × Int × List Int} (ok : okT c) : tT (tT (tT (tT c))) = c := by
  obtain ⟨w, h, l, rfl, hw, hh, hl⟩ := okT_nat ok
  unfold tT; dsimp only
  rw [turnN, turnN, turnN, turnN]
  refine congrArg (fun x => ((w : Int), (h : Int), x)) ?_
  refine Eq.trans (gridL_congr w h _ _ fun r c hr hc => ?_) (gridL_self hl hw)
  rw [atL_grid _ (by omega) (by omega), atL_grid _ (by omega) (by omega), atL_grid _ (by omega) (by omega)]
  congr 1 <;> omega
theorem tM_T {c : Int × Int × List Int} (ok : okT c) : tM (tT c) = tT (tT (tT (tM c))) := by
  have h := tT_MT ok
  rw [← h, tT_4 (tM_ok (tT_ok ok))]
def mv (c : Int × Int × List Int) (s : Int) : Int × Int × List Int := moveR c.1 c.2.1 c.2.2 s
theorem mv_ok {c : Int × Int × List Int} (s : Int) (ok : okT c) : okT (mv c s) := move_ok s ok
def aft (a b : Int) : Int :=
  let t := if 4 ≤ b then b % 4 - a % 4 + 4 else a % 4 + b % 4
  if (decide (4 ≤ a)) = (decide (4 ≤ b)) then t % 4 else t % 4 + 4
def und (a : Int) : Int := if a < 4 then (4 - a) % 4 else a
theorem sym_case {s : Int} (h : 0 ≤ s ∧ s ≤ 7) : s = 0 ∨ s = 1 ∨ s = 2 ∨ s = 3 ∨ s = 4 ∨ s = 5 ∨ s = 6 ∨ s = 7 := by omega
theorem mv0 (c : Int × Int × List Int) : mv c 0 = c := rfl
theorem mv1 (c : Int × Int × List Int) : mv c 1 = tT c := rfl
theorem mv2 (c : Int × Int × List Int) : mv c 2 = tT (tT c) := rfl
theorem mv3 (c : Int × Int × List Int) : mv c 3 = tT (tT (tT c)) := rfl
theorem mv4 (c : Int × Int × List Int) : mv c 4 = tM c := rfl
theorem mv5 (c : Int × Int × List Int) : mv c 5 = tT (tM c) := rfl
theorem mv6 (c : Int × Int × List Int) : mv c 6 = tT (tT (tM c)) := rfl
theorem mv7 (c : Int × Int × List Int) : mv c 7 = tT (tT (tT (tM c))) := rfl
theorem mv_mv {c : Int × Int × List Int} (ok : okT c) {a b : Int} (ha : 0 ≤ a ∧ a ≤ 7) (hb : 0 ≤ b ∧ b ≤ 7) : mv (mv c a) b = mv c (aft a b) := by
  have o1 := tT_ok ok
  have o2 := tT_ok o1
  have o3 := tT_ok o2
  have m0 := tM_ok ok
  have m1 := tT_ok m0
  have m2 := tT_ok m1
  have m3 := tT_ok m2
  rcases sym_case ha with rfl | rfl | rfl | rfl | rfl | rfl | rfl | rfl <;> rcases sym_case hb with rfl | rfl | rfl | rfl | rfl | rfl | rfl | rfl <;>
    simp only [show aft 0 0 = 0 from by decide, aft, Int.reduceLE, decide_true, decide_false, Int.reduceMod, Int.reduceAdd, Int.reduceSub, if_true, if_false, reduceCtorEq, Bool.false_eq_true, Bool.true_eq_false, mv0, mv1, mv2, mv3, mv4, mv5, mv6, mv7, tT_4 ok, tT_4 m0, tT_4 o1, tT_4 m1, tT_4 o2, tT_4 m2, tM_T ok, tM_T o1, tM_T o2, tM_T m0, tM_T m1, tM_T m2, tM_M ok]
theorem aft_in {a b : Int} (ha : 0 ≤ a ∧ a ≤ 7) (hb : 0 ≤ b ∧ b ≤ 7) : 0 ≤ aft a b ∧ aft a b ≤ 7 := by
  unfold aft; dsimp only
  split <;> split <;> omega
theorem und_in {a : Int} (ha : 0 ≤ a ∧ a ≤ 7) : 0 ≤ und a ∧ und a ≤ 7 := by unfold und; split <;> omega
theorem aft_und {a : Int} (ha : 0 ≤ a ∧ a ≤ 7) : aft a (und a) = 0 := by
  rcases sym_case ha with rfl | rfl | rfl | rfl | rfl | rfl | rfl | rfl <;> decide
theorem mv_und {c : Int × Int × List Int} (ok : okT c) {a : Int} (ha : 0 ≤ a ∧ a ≤ 7) : mv (mv c a) (und a) = c := by rw [mv_mv ok ha (und_in ha), aft_und ha, mv0]
def partR (w R C W : Nat) (l : List Int) : Nat → Nat → List Int
  | 0, _ => []
  | d + 1, r => (l.drop ((R + r) * w + C)).take W ++ partR w R C W l d (r + 1)
theorem rowL {w h R C W H r : Nat} {l : List Int} (hl : l.length = w * h) (hC : C + W ≤ w) (hR : R + H ≤ h) (hr : r < H) : (R + r) * w + C + W ≤ l.length ∧ ((l.drop ((R + r) * w + C)).take W).length = W := by
  have b1 : (R + r) * w + w ≤ h * w := by rw [← Nat.succ_mul]; exact Nat.mul_le_mul_right _ (by omega)
  rw [Nat.mul_comm h w] at b1
  refine ⟨by omega, ?_⟩
  rw [List.length_take, List.length_drop]; omega
theorem partR_len {w h R C W H : Nat} {l : List Int} (hl : l.length = w * h) (hC : C + W ≤ w) (hR : R + H ≤ h) : ∀ (d r : Nat), r + d ≤ H → (partR w R C W l d r).length = d * W := by
  intro d
  induction d with
  | zero => intro r _; simp [partR]
  | succ d ih =>
    intro r h1
    unfold partR
    rw [List.length_append, (rowL hl hC hR (show r < H by omega)).2, ih (r + 1) (by omega), Nat.succ_mul]; omega
theorem partR_row {w h R C W H : Nat} {l : List Int} (hl : l.length = w * h) (hC : C + W ≤ w) (hR : R + H ≤ h) : ∀ (d s q : Nat), s + d ≤ H → q < d → ((partR w R C W l d s).drop (q * W)).take W = (l.drop ((R + (s + q)) * w + C)).take W := by
  intro d
  induction d with
  | zero => intro s q _ h; omega
  | succ d ih =>
    intro s q h1 h2
    have hrow := (rowL hl hC hR (show s < H by omega)).2
    unfold partR
    cases q with
    | zero =>
      rw [Nat.zero_mul, List.drop_zero]
      rw [List.take_append_of_le_length (by omega), List.take_of_length_le (by omega)]
      rfl
    | succ q =>
      rw [Nat.succ_mul, List.drop_append, List.drop_of_length_le (by rw [hrow]; omega), List.nil_append, hrow, show q * W + W - W = q * W by omega, ih (s + 1) q (by omega) (by omega), show s + 1 + q = s + (q + 1) by omega]
theorem partR_mem {w R C W : Nat} {l : List Int} : ∀ (d r : Nat) (x : Int), x ∈ partR w R C W l d r → x ∈ l := by
  intro d
  induction d with
  | zero => intro r x h; simp [partR] at h
  | succ d ih =>
    intro r x h
    unfold partR at h
    rcases List.mem_append.1 h with h | h
    · exact List.mem_of_mem_drop (List.mem_of_mem_take h)
    · exact ih _ x h
theorem splice_same {l : List Int} {b W : Nat} (h : b + W ≤ l.length) : splice l b ((l.drop b).take W) = l := by
  unfold splice
  have : ((l.drop b).take W).length = W := by rw [List.length_take, List.length_drop]; omega
  rw [this, ← List.drop_drop, List.take_append_drop, List.take_append_drop]
theorem put_part {w h R C W H : Nat} {l p : List Int} (hl : l.length = w * h) (hC : C + W ≤ w) (hR : R + H ≤ h) (hp : ∀ r, r < H → (p.drop (r * W)).take W = (l.drop ((R + r) * w + C)).take W) : ∀ (d r : Nat), r + d ≤ H → putR w R C W p d r l = l := by
  intro d
  induction d with
  | zero => intro r _; rfl
  | succ d ih =>
    intro r h1
    unfold putR
    rw [hp r (by omega), splice_same (rowL hl hC hR (show r < H by omega)).1]
    exact ih (r + 1) (by omega)
theorem splice_mem {l ys : List Int} {b : Nat} {x : Int} (h : x ∈ splice l b ys) : x ∈ l ∨ x ∈ ys := by
  unfold splice at h
  rcases List.mem_append.1 h with h | h
  · exact .inl (List.mem_of_mem_take h)
  · rcases List.mem_append.1 h with h | h
    · exact .inr h
    · exact .inl (List.mem_of_mem_drop h)
theorem putR_mem {w R C W : Nat} {p : List Int} : ∀ (d r : Nat) (l : List Int) (x : Int), x ∈ putR w R C W p d r l → x ∈ l ∨ x ∈ p := by
  intro d
  induction d with
  | zero => intro r l x h; exact .inl h
  | succ d ih =>
    intro r l x h
    unfold putR at h
    rcases ih _ _ x h with h | h
    · rcases splice_mem h with h | h
      · exact .inl h
      · exact .inr (List.mem_of_mem_drop (List.mem_of_mem_take h))
    · exact .inr h
theorem splice_read {l ys : List Int} {b : Nat} (h : b + ys.length ≤ l.length) : ((splice l b ys).drop b).take ys.length = ys := by
  unfold splice
  have hb : (l.take b).length = b := by rw [List.length_take]; omega
  rw [List.drop_append, List.drop_of_length_le (by omega), List.nil_append, hb, Nat.sub_self, List.drop_zero, List.take_append_of_le_length (Nat.le_refl _), List.take_of_length_le (Nat.le_refl _)]
theorem splice_read_lt {l ys : List Int} {b a W : Nat} (h : a + W ≤ b) (hb : b ≤ l.length) : ((splice l b ys).drop a).take W = (l.drop a).take W := by
  unfold splice
  have hb' : (l.take b).length = b := by rw [List.length_take]; omega
  rw [List.drop_append_of_le_length (by omega), List.take_append_of_le_length (by rw [List.length_drop]; omega), List.drop_take, List.take_take, Nat.min_eq_left (by omega)]
theorem put_read {w h R C W H : Nat} {p : List Int} (hp : p.length = W * H) (hC : C + W ≤ w) (hR : R + H ≤ h) : ∀ (d r : Nat) (l : List Int), r + d ≤ H → l.length = w * h → (∀ q, q < r → ((putR w R C W p d r l).drop ((R + q) * w + C)).take W = (l.drop ((R + q) * w + C)).take W) ∧ (∀ q, r ≤ q → q < r + d → ((putR w R C W p d r l).drop ((R + q) * w + C)).take W = (p.drop (q * W)).take W) := by
  intro d
  induction d with
  | zero => intro r l _ _; exact ⟨fun _ _ => rfl, fun q h1 h2 => by omega⟩
  | succ d ih =>
    intro r l h1 h2
    have hrow := row_len hp (show r < H by omega)
    have hb := (rowL h2 hC hR (show r < H by omega)).1
    have hlen : (splice l ((R + r) * w + C) ((p.drop (r * W)).take W)).length = w * h := by rw [splice_len (by rw [hrow]; omega)]; exact h2
    obtain ⟨i1, i2⟩ := ih (r + 1) _ (by omega) hlen
    have hlt : ∀ q, q < r → (R + q) * w + C + W ≤ (R + r) * w + C := fun q hq => by
      have : (R + q) * w + w ≤ (R + r) * w := by rw [← Nat.succ_mul]; exact Nat.mul_le_mul_right _ (by omega)
      omega
    unfold putR
    refine ⟨fun q hq => ?_, fun q hq1 hq2 => ?_⟩
    · rw [i1 q (by omega), splice_read_lt (hlt q hq) (by omega)]
    · rcases Nat.lt_or_ge r q with h | h
      · exact i2 q (by omega) (by omega)
      · have : q = r := by omega
        subst this
        rw [i1 q (by omega)]
        have := splice_read (l := l) (b := (R + q) * w + C) (ys := (p.drop (q * W)).take W) (by rw [hrow]; omega)
        rw [hrow] at this; exact this
theorem part_of_rows {w R C W H : Nat} {l p : List Int} (hp : p.length = W * H) (hrow : ∀ q, q < H → (l.drop ((R + q) * w + C)).take W = (p.drop (q * W)).take W) : ∀ (d r : Nat), r + d = H → partR w R C W l d r = p.drop (r * W) := by
  intro d
  induction d with
  | zero =>
    intro r h
    have : r = H := by omega
    subst this
    rw [List.drop_of_length_le (by rw [hp, Nat.mul_comm]; omega)]; rfl
  | succ d ih =>
    intro r h
    unfold partR
    rw [hrow r (by omega), ih (r + 1) (by omega), Nat.succ_mul, ← List.drop_drop, List.take_append_drop]
/-! ### The walks -/
theorem take_snoc {l : List Int} {b j : Nat} (h : b + j < l.length) : (l.drop b).take (j + 1) = (l.drop b).take j ++ [l.getD (b + j) 0] := by
  rw [List.take_succ_eq_append_getElem (by rw [List.length_drop]; omega), List.getElem_drop, getD_lt h]
theorem splice_getD {l ys : List Int} {b : Nat} (h : b + ys.length ≤ l.length) (i : Nat) : (splice l b ys).getD i 0 = if b ≤ i ∧ i < b + ys.length then ys.getD (i - b) 0 else l.getD i 0 := by
  unfold splice
  have hb : (l.take b).length = b := by rw [List.length_take]; omega
  simp only [List.getD_eq_getElem?_getD]
  by_cases h1 : i < b
  · rw [if_neg (by omega), List.getElem?_append_left (by omega), List.getElem?_take_of_lt h1]
  · rw [List.getElem?_append_right (by omega), hb]
    by_cases h2 : i < b + ys.length
    · rw [if_pos (by omega), List.getElem?_append_left (by omega)]
    · rw [if_neg (by omega), List.getElem?_append_right (by omega), List.getElem?_drop]
      congr 2; omega
theorem part_getD {p : List Int} {a W j : Nat} (hj : j < W) : ((p.drop a).take W).getD j 0 = p.getD (a + j) 0 := by
  simp only [List.getD_eq_getElem?_getD]
  rw [List.getElem?_take_of_lt hj, List.getElem?_drop]
/-- What stands at a place after a part is put. -/
theorem putR_at {w h R C W H : Nat} {p : List Int} (hp : p.length = W * H) (hC : C + W ≤ w) (hR : R + H ≤ h) (hW : 0 < W) {r c : Nat} (hr : r < h) (hc : c < w) : ∀ (d s : Nat) (l : List Int), s + d ≤ H → l.length = w * h →
    (putR w R C W p d s l).getD (r * w + c) 0 = if (R + s ≤ r ∧ r < R + s + d) ∧ C ≤ c ∧ c < C + W then p.getD ((r - R) * W + (c - C)) 0 else l.getD (r * w + c) 0 := by
  intro d
  induction d with
  | zero => intro s l _ _; unfold putR; rw [if_neg (by omega)]
  | succ d ih =>
    intro s l hs hl
    unfold putR
    have hrl : ((p.drop (s * W)).take W).length = W := row_len hp (by omega)
    have hlt : (R + s) * w + w ≤ w * h := by rw [← Nat.succ_mul, Nat.mul_comm w h]; exact Nat.mul_le_mul_right _ (by omega)
    have hb : (R + s) * w + C + ((p.drop (s * W)).take W).length ≤ l.length := by rw [hrl, hl]; omega
    rw [ih (s + 1) _ (by omega) (by rw [splice_len hb, hl]), splice_getD hb, hrl]
    by_cases h1 : r = R + s
    · subst h1
      rw [if_neg (by omega)]
      by_cases h2 : C ≤ c ∧ c < C + W
      · rw [if_pos (by omega), if_pos (by omega), part_getD (by omega)]
        congr 1
        rw [Nat.add_sub_cancel_left]; omega
      · rw [if_neg (by omega), if_neg (by omega)]
    · have h3 : ¬ ((R + s) * w + C ≤ r * w + c ∧ r * w + c < (R + s) * w + C + W) := by
        rintro ⟨h3, h4⟩
        by_cases h5 : r < R + s
        · have : (r + 1) * w ≤ (R + s) * w := Nat.mul_le_mul_right _ h5
          rw [Nat.succ_mul] at this; omega
        · have : (R + s + 1) * w ≤ r * w := Nat.mul_le_mul_right _ (by omega)
          rw [Nat.succ_mul] at this; omega
      rw [if_neg h3]
      by_cases h4 : (R + (s + 1) ≤ r ∧ r < R + (s + 1) + d) ∧ C ≤ c ∧ c < C + W
      · rw [if_pos h4, if_pos (by omega)]
      · rw [if_neg h4, if_neg (by omega)]
theorem grid_ext {w h : Nat} {l : List Int} {f : Nat → Nat → Int} (hl : l.length = w * h) (hw : 0 < w) (e : ∀ r c, r < h → c < w → l.getD (r * w + c) 0 = f r c) : l = gridL w h f := by
  rw [← gridL_self hl hw]
  apply gridL_congr
  intro r c hr hc
  rw [← e r c hr hc]
  unfold atL
  rw [← Int.natCast_mul, ← Int.natCast_add, Int.toNat_natCast]
theorem grid_at {w h : Nat} {f : Nat → Nat → Int} {r c : Nat} (hr : r < h) (hc : c < w) : (gridL w h f).getD (r * w + c) 0 = f r c := by
  rw [List.getD_eq_getElem?_getD, gridL_get w h f r c hr hc]; rfl
/-- A place of a tile. -/
theorem tile_div {i r H : Nat} (h1 : i * H ≤ r) (h2 : r < i * H + H) : r / H = i ∧ r % H = r - i * H := by
  have hH : 0 < H := by omega
  have h3 : r / H = i := by
    have h4 := Nat.div_add_mod r H
    have h5 := Nat.mod_lt r hH
    have : r / H < i + 1 := by rw [Nat.div_lt_iff_lt_mul hH, Nat.succ_mul]; omega
    have : i ≤ r / H := by rw [Nat.le_div_iff_mul_le hH]; exact h1
    omega
  refine ⟨h3, ?_⟩
  have h4 := Nat.div_add_mod r H
  rw [h3, Nat.mul_comm] at h4; omega
/-- So much of a chart is tiles of a motif. -/
def tiled (w h W H : Nat) (m : List Int) (i k : Nat) (l : List Int) : Prop := l.length = w * h ∧ ∀ r c, r < h → c < w → (r < i * H ∨ (r < i * H + H ∧ c < k * W)) → l.getD (r * w + c) 0 = m.getD (r % H * W + c % W) 0
theorem tiled_step {w h W H i k : Nat} {m l : List Int} (hm : m.length = W * H) (hW : 0 < W) (hH : 0 < H) (hi : i * H + H ≤ h) (hk : k * W + W ≤ w) (t : tiled w h W H m i k l) : tiled w h W H m i (k + 1) (putR w (i * H) (k * W) W m H 0 l) := by
  refine ⟨putR_len w h (i * H) (k * W) W H m hm hk H 0 l (by omega) hi t.1, fun r c hr hc hx => ?_⟩
  rw [putR_at hm hk hi hW hr hc H 0 l (by omega) t.1]
  rw [Nat.succ_mul] at hx
  by_cases h1 : (i * H + 0 ≤ r ∧ r < i * H + 0 + H) ∧ k * W ≤ c ∧ c < k * W + W
  · rw [if_pos h1, (tile_div (i := i) (by omega) (by omega)).2, (tile_div (i := k) (by omega) (by omega)).2]
  · rw [if_neg h1]
    exact t.2 r c hr hc (by omega)
theorem tiled_row {w h W H i n : Nat} {m l : List Int} (hw : w = n * W) (t : tiled w h W H m i n l) : tiled w h W H m (i + 1) 0 l := by
  refine ⟨t.1, fun r c hr hc hx => t.2 r c hr hc ?_⟩
  rw [Nat.succ_mul] at hx
  omega
theorem tiled_end {w h W H n : Nat} {m l : List Int} (hh : h = n * H) (hw : 0 < w) (t : tiled w h W H m n 0 l) : l = gridL w h fun r c => m.getD (r % H * W + c % W) 0 :=
  grid_ext t.1 hw fun r c hr hc => t.2 r c hr hc (.inl (by omega))
theorem rep_len {n w h : Nat} (e : n = w * h) : (List.replicate n (0 : Int)).length = w * h := by rw [List.length_replicate, e]
theorem below_put {w h H : Nat} {a b : List Int} (hw : 0 < w) (ha : a.length = w * h) (hb : b.length = w * H) : putR w h 0 w b H 0 (putR w 0 0 w a h 0 (List.replicate (w * (h + H)) 0)) = a ++ b := by
  have h1 : (putR w 0 0 w a h 0 (List.replicate (w * (h + H)) 0)).length = w * (h + H) := putR_len w (h + H) 0 0 w h a ha (by omega) h 0 _ (by omega) (by omega) (rep_len rfl)
  have h2 : (putR w h 0 w b H 0 (putR w 0 0 w a h 0 (List.replicate (w * (h + H)) 0))).length = w * (h + H) := putR_len w (h + H) h 0 w H b hb (by omega) H 0 _ (by omega) (by omega) h1
  have key : ∀ r c, r < h + H → c < w → (putR w h 0 w b H 0 (putR w 0 0 w a h 0 (List.replicate (w * (h + H)) 0))).getD (r * w + c) 0 = (a ++ b).getD (r * w + c) 0 := fun r c hr hc => by
    rw [putR_at hb (by omega) (by omega) hw hr hc H 0 _ (by omega) h1, putR_at ha (by omega) (by omega) hw hr hc h 0 _ (by omega) (rep_len rfl)]
    simp only [Nat.add_zero, Nat.zero_add, Nat.sub_zero, List.getD_eq_getElem?_getD]
    by_cases hlt : r < h
    · have : r * w + w ≤ h * w := by rw [← Nat.succ_mul]; exact Nat.mul_le_mul_right _ hlt
      rw [if_neg (by omega), if_pos (by omega), List.getElem?_append_left (by rw [ha, Nat.mul_comm w h]; omega)]
    · have : h * w + (r - h) * w = r * w := by rw [← Nat.add_mul]; congr 1; omega
      rw [if_pos (by omega), List.getElem?_append_right (by rw [ha, Nat.mul_comm w h]; omega), ha, Nat.mul_comm w h]
      congr 2; omega
  rw [grid_ext (f := fun r c => (a ++ b).getD (r * w + c) 0) h2 hw key]
  exact (grid_ext (f := fun r c => (a ++ b).getD (r * w + c) 0) (by rw [List.length_append, ha, hb, Nat.mul_add]) hw (fun r c _ _ => rfl)).symm
def besideL (w W h : Nat) (a b : List Int) : List Int := gridL (w + W) h fun r c => if c < w then a.getD (r * w + c) 0 else b.getD (r * W + (c - w)) 0
theorem beside_put {w W h : Nat} {a b : List Int} (hw : 0 < w) (hW : 0 < W) (ha : a.length = w * h) (hb : b.length = W * h) : putR (w + W) 0 w W b h 0 (putR (w + W) 0 0 w a h 0 (List.replicate ((w + W) * h) 0)) = besideL w W h a b := by
  have h1 : (putR (w + W) 0 0 w a h 0 (List.replicate ((w + W) * h) 0)).length = (w + W) * h := putR_len (w + W) h 0 0 w h a ha (by omega) h 0 _ (by omega) (by omega) (rep_len rfl)
  have h2 : (putR (w + W) 0 w W b h 0 (putR (w + W) 0 0 w a h 0 (List.replicate ((w + W) * h) 0))).length = (w + W) * h := putR_len (w + W) h 0 w W h b hb (by omega) h 0 _ (by omega) (by omega) h1
  refine grid_ext h2 (by omega) fun r c hr hc => ?_
  rw [putR_at hb (by omega) (by omega) hW hr hc h 0 _ (by omega) h1, putR_at ha (by omega) (by omega) hw hr hc h 0 _ (by omega) (rep_len rfl)]
  simp only [Nat.add_zero, Nat.zero_add, Nat.sub_zero]
  by_cases hlt : c < w
  · rw [if_neg (by omega), if_pos (by omega), if_pos hlt]
  · rw [if_pos (by omega), if_neg hlt]
theorem all_getD {l : List Int} {p : Int → Prop} (h : ∀ x ∈ l, p x) {i : Nat} (hi : i < l.length) : p (l.getD i 0) := by
  rw [getD_lt hi]; exact h _ (List.getElem_mem _)
theorem at_lt {w h r c : Nat} (hr : r < h) (hc : c < w) : r * w + c < w * h := by
  have : (r + 1) * w ≤ h * w := Nat.mul_le_mul_right _ hr
  rw [Nat.succ_mul, Nat.mul_comm h w] at this; omega
theorem specPut0 {w h R C W H : Nat} {l p : List Int} (hw : w ≤ 8) (hh : h ≤ 8) (hl : l.length = w * h) (hp : p.length = W * H) (hC : C + W ≤ w) (hR : R + H ≤ h) (hW : 1 ≤ W) (k : Nat) (hk : 200 ≤ k) : spec_l2Put.f k (w : Int) (h : Int) l (W : Int) (H : Int) p (R : Int) (C : Int) = some ((w : Int), (h : Int), putR w R C W p H 0 l) := by
  have hHW : H * (W + 2) ≤ 80 := Nat.le_trans (Nat.mul_le_mul (show H ≤ 8 by omega) (show W + 2 ≤ 10 by omega)) (by omega)
  have h64 : w * h ≤ 64 := Nat.le_trans (Nat.mul_le_mul hw hh) (by omega)
  unfold spec_l2Put.f spec_l2Put.m
  rw [l2Own_eq k _ _ l (by omega)]; simp only [Option.bind_some]
  exact specPut_l hw hh hp hC hR hW H k 0 l (by omega) (by omega) hl
theorem blank_all (k : Nat) (w h : Int) : spec_l6Blank.f k w h = some (if (1 ≤ w ∧ w ≤ 8) ∧ 1 ≤ h ∧ h ≤ 8 then (w, h, List.replicate (w * h).toNat 0, true) else (0, 0, [], false)) := by
  unfold spec_l6Blank.f spec_l6Blank.m
  rw [l2Side_eq, l2Side_eq]
  by_cases h1 : 1 ≤ w ∧ w ≤ 8
  · rw [inB_of h1]
    by_cases h2 : 1 ≤ h ∧ h ≤ 8
    · have := mul_bd h1 h2
      rw [inB_of h2, if_pos ⟨h1, h2⟩]
      simp (disch := omega) only [Option.bind_some, Bool.not_true, Bool.not_false, cond_true, cond_false, Bool.true_and, Bool.false_and, Bool.and_true, Bool.and_false, Bool.false_eq_true, Bool.true_or, Bool.or_true, Bool.false_or, Bool.or_false, Bool.or_self, Bool.and_self, decide_true, decide_false, if_true, if_false, not_true, not_false_eq_true, not_true_eq_false, false_or, or_false, true_and, and_true, Bool.not_eq_true, Bool.true_eq_false, reduceCtorEq, w64_id, mkl_int]
    · rw [if_neg (fun h => h2 h.2), notB (fun h => h2 (inB_iff.1 h))]; rfl
  · rw [if_neg (fun h => h1 h.1), notB (fun h => h1 (inB_iff.1 h))]; rfl
theorem times_eq (k : Nat) (x : Int) : spec_l6Times.f k x = some (inB x 1 8) := by unfold spec_l6Times.f spec_l6Times.m; rw [specIn_eq]; rfl
theorem rep_row {X Y w h : Nat} {m : List Int} (hX : X * w ≤ 8) (hY : Y * h ≤ 8) (hw : 1 ≤ w) (hh : 1 ≤ h) (hm : m.length = w * h) (i : Nat) (hi : i < Y) : ∀ (d k j : Nat) (l : List Int), j + d = X → d + 200 < k → tiled (X * w) (Y * h) w h m i j l →
    ∃ l', tiled (X * w) (Y * h) w h m i X l' ∧ spec_RepeatMotif.l15 k (X : Int) (Y : Int) (w : Int) (h : Int) m 0 0 [] ((X * w : Nat) : Int) ((Y * h : Nat) : Int) l (i : Int) (j : Int) = spec_RepeatMotif.l10 (k - d - 1) (X : Int) (Y : Int) (w : Int) (h : Int) m 0 0 [] ((X * w : Nat) : Int) ((Y * h : Nat) : Int) l' ((i + 1 : Nat) : Int) := by
  have hi2 : i * h + h ≤ Y * h := by rw [← Nat.succ_mul]; exact Nat.mul_le_mul_right _ hi
  have hXX : X ≤ X * w := Nat.le_mul_of_pos_right X hw
  have hYY : Y ≤ Y * h := Nat.le_mul_of_pos_right Y hh
  intro d
  induction d with
  | zero =>
    intro k j l h1 h2 t
    obtain ⟨k, rfl⟩ := succ_of (show 0 < k by omega)
    have : j = X := by omega
    subst this
    refine ⟨l, t, ?_⟩
    simp only [spec_RepeatMotif.l15, spec_RepeatMotif.b15]
    rw [if_neg (by omega), w64_id (by omega), show ((i + 1 : Nat) : Int) = (i : Int) + 1 by omega]; rfl
  | succ d ih =>
    intro k j l h1 h2 t
    obtain ⟨k, rfl⟩ := succ_of (show 0 < k by omega)
    have hj2 : j * w + w ≤ X * w := by rw [← Nat.succ_mul]; exact Nat.mul_le_mul_right _ (by omega)
    obtain ⟨l', t', e⟩ := ih k (j + 1) _ (by omega) (by omega) (tiled_step hm (by omega) (by omega) hi2 hj2 t)
    refine ⟨l', t', ?_⟩
    rw [show k + 1 - (d + 1) - 1 = k - d - 1 by omega, ← e]
    simp only [spec_RepeatMotif.l15, spec_RepeatMotif.b15]
    rw [if_pos (by omega), ← nat_mul_cast, ← nat_mul_cast, w64_id (x := ((i * h : Nat) : Int)) (by omega), w64_id (x := ((j * w : Nat) : Int)) (by omega), specPut0 hX hY t.1 hm hj2 hi2 hw k (by omega)]
    simp only [Option.bind_some]
    rw [w64_id (by omega), show ((j + 1 : Nat) : Int) = (j : Int) + 1 by omega]
theorem rep_rows {X Y w h : Nat} {m : List Int} (hX : X * w ≤ 8) (hY : Y * h ≤ 8) (hw : 1 ≤ w) (hh : 1 ≤ h) (hm : m.length = w * h) (hX1 : 1 ≤ X) : ∀ (d k i : Nat) (l : List Int), i + d = Y → 10 * d + 300 < k → tiled (X * w) (Y * h) w h m i 0 l →
    spec_RepeatMotif.l10 k (X : Int) (Y : Int) (w : Int) (h : Int) m 0 0 [] ((X * w : Nat) : Int) ((Y * h : Nat) : Int) l (i : Int) = some (((X * w : Nat) : Int), ((Y * h : Nat) : Int), gridL (X * w) (Y * h) (fun r c => m.getD (r % h * w + c % w) 0), true) := by
  have hXX : X ≤ X * w := Nat.le_mul_of_pos_right X hw
  have hYY : Y ≤ Y * h := Nat.le_mul_of_pos_right Y hh
  intro d
  induction d with
  | zero =>
    intro k i l h1 h2 t
    obtain ⟨k, rfl⟩ := succ_of (show 0 < k by omega)
    have : i = Y := by omega
    subst this
    simp only [spec_RepeatMotif.l10, spec_RepeatMotif.b10]
    rw [if_neg (by omega), ← tiled_end rfl (by omega) t]
  | succ d ih =>
    intro k i l h1 h2 t
    obtain ⟨k, rfl⟩ := succ_of (show 0 < k by omega)
    obtain ⟨l', t', e⟩ := rep_row hX hY hw hh hm i (by omega) X k 0 l (by omega) (by omega) t
    simp only [spec_RepeatMotif.l10, spec_RepeatMotif.b10]
    rw [if_pos (by omega)]
    rw [show ((0 : Nat) : Int) = 0 from rfl] at e
    rw [e]
    exact ih _ (i + 1) l' (by omega) (by omega) (tiled_row rfl t')
def repL (w h : Int) (l : List Int) (x y : Int) : List Int := gridL (x * w).toNat (y * h).toNat fun r c => l.getD (r % h.toNat * w.toNat + c % w.toNat) 0
def repC (w h : Int) (l : List Int) (x y : Int) : Prop := goodB w h l = true ∧ (1 ≤ x ∧ x * w ≤ 8) ∧ 1 ≤ y ∧ y * h ≤ 8
instance (w h : Int) (l : List Int) (x y : Int) : Decidable (repC w h l x y) := by unfold repC; infer_instance
def repOut (w h : Int) (l : List Int) (x y : Int) : Int × Int × List Int × Bool := if repC w h l x y then (x * w, y * h, repL w h l x y, true) else (0, 0, [], false)
theorem side_mul {w x : Int} (hw : 1 ≤ w) (hx : 1 ≤ x) : 1 ≤ x * w ∧ x ≤ x * w := by
  have h1 : x * 1 ≤ x * w := Int.mul_le_mul_of_nonneg_left hw (by omega)
  omega
theorem side_le {w x : Int} (hw : 1 ≤ w ∧ w ≤ 8) (hx : 1 ≤ x ∧ x ≤ 8) : 1 ≤ x * w ∧ x * w ≤ 64 := mul_bd hx hw
theorem specRep_eq (k : Nat) (w h : Int) (l : List Int) (x y : Int) (hl : l.length ≤ 100000000000000) (hk : l.length + 1000 ≤ k) : spec_RepeatMotif.f k w h l x y = some (repOut w h l x y) := by
  unfold spec_RepeatMotif.f spec_RepeatMotif.m repOut
  rw [l2Good_eq k w h l hl (by omega)]; simp only [Option.bind_some]
  by_cases hg : goodB w h l = true
  · rw [hg, times_eq]; simp only [Option.bind_some, Bool.not_true, Bool.not_false, cond_true, cond_false, Bool.true_and, Bool.false_and, Bool.and_true, Bool.and_false, Bool.false_eq_true, Bool.true_or, Bool.or_true, Bool.false_or, Bool.or_false, Bool.or_self, Bool.and_self, decide_true, decide_false, if_true, if_false, not_true, not_false_eq_true, not_true_eq_false, false_or, or_false, true_and, and_true, Bool.not_eq_true, Bool.true_eq_false, reduceCtorEq]
    obtain ⟨hw, hh, hlen, _⟩ := good_of hg
    by_cases hx : 1 ≤ x ∧ x ≤ 8
    · rw [inB_of hx, times_eq]; simp only [Option.bind_some, Bool.not_true, Bool.not_false, cond_true, cond_false, Bool.true_and, Bool.false_and, Bool.and_true, Bool.and_false, Bool.false_eq_true, Bool.true_or, Bool.or_true, Bool.false_or, Bool.or_false, Bool.or_self, Bool.and_self, decide_true, decide_false, if_true, if_false, not_true, not_false_eq_true, not_true_eq_false, false_or, or_false, true_and, and_true, Bool.not_eq_true, Bool.true_eq_false, reduceCtorEq]
      by_cases hy : 1 ≤ y ∧ y ≤ 8
      · rw [inB_of hy, blank_all]; simp only [Option.bind_some, Bool.not_true, Bool.not_false, cond_true, cond_false, Bool.true_and, Bool.false_and, Bool.and_true, Bool.and_false, Bool.false_eq_true, Bool.true_or, Bool.or_true, Bool.false_or, Bool.or_false, Bool.or_self, Bool.and_self, decide_true, decide_false, if_true, if_false, not_true, not_false_eq_true, not_true_eq_false, false_or, or_false, true_and, and_true, Bool.not_eq_true, Bool.true_eq_false, reduceCtorEq]
        have b1 := side_le hw hx
        have b2 := side_le hh hy
        rw [w64_id (x := x * w) (by omega), w64_id (x := y * h) (by omega)]
        by_cases hc : x * w ≤ 8 ∧ y * h ≤ 8
        · have hrc : repC w h l x y := ⟨hg, ⟨hx.1, hc.1⟩, hy.1, hc.2⟩
          rw [if_pos (by omega), if_pos hrc]; simp only [Bool.not_true, Bool.not_false, cond_true, cond_false, Bool.true_and, Bool.false_and, Bool.and_true, Bool.and_false, Bool.false_eq_true, Bool.true_or, Bool.or_true, Bool.false_or, Bool.or_false, Bool.or_self, Bool.and_self, decide_true, decide_false, if_true, if_false, not_true, not_false_eq_true, not_true_eq_false, false_or, or_false, true_and, and_true, Bool.not_eq_true, Bool.true_eq_false, reduceCtorEq]
          unfold repL
          obtain ⟨w, rfl⟩ := Int.eq_ofNat_of_zero_le (show 0 ≤ w by omega)
          obtain ⟨h, rfl⟩ := Int.eq_ofNat_of_zero_le (show 0 ≤ h by omega)
          obtain ⟨x, rfl⟩ := Int.eq_ofNat_of_zero_le (show 0 ≤ x by omega)
          obtain ⟨y, rfl⟩ := Int.eq_ofNat_of_zero_le (show 0 ≤ y by omega)
          simp only [← nat_mul_cast, Int.toNat_natCast] at *
          exact rep_rows (by omega) (by omega) (by omega) (by omega) (lenN hlen) (by omega) y k 0 _ (by omega) (by omega) ⟨by rw [List.length_replicate], fun r c _ _ hx => by omega⟩
        · rw [if_neg (by omega), if_neg (fun h => hc ⟨h.2.1.2, h.2.2.2⟩)]; rfl
      · rw [notB (fun h => hy (inB_iff.1 h)), if_neg (fun h => hy ⟨h.2.2.1, Int.le_trans (side_mul hh.1 h.2.2.1).2 h.2.2.2⟩)]; rfl
    · rw [notB (fun h => hx (inB_iff.1 h)), if_neg (fun h => hx ⟨h.2.1.1, Int.le_trans (side_mul hw.1 h.2.1.1).2 h.2.1.2⟩)]; rfl
  · rw [notB hg, if_neg (fun h => hg h.1)]; rfl
theorem copies_eq (k : Nat) (w x : Int) (hw : 1 ≤ w ∧ w ≤ 8) : impl_isCopies.f k w x = some (decide (1 ≤ x ∧ x * w ≤ 8)) := by
  unfold impl_isCopies.f impl_isCopies.m
  by_cases hx : 1 ≤ x
  · rw [if_pos hx]
    have key : ∀ q : Int, quo .i64 8 w = some q → (x ≤ q ↔ x * w ≤ 8) → ((quo .i64 8 w).bind fun q1 => some (decide (x ≤ q1))) = some (decide (1 ≤ x ∧ x * w ≤ 8)) := fun q h1 h2 => by
      rw [h1]; simp only [Option.bind_some]
      congr 1
      exact decide_eq_decide.2 ⟨fun h => ⟨hx, h2.1 h⟩, fun h => h2.2 h.2⟩
    have hc : w = 1 ∨ w = 2 ∨ w = 3 ∨ w = 4 ∨ w = 5 ∨ w = 6 ∨ w = 7 ∨ w = 8 := by omega
    rcases hc with rfl | rfl | rfl | rfl | rfl | rfl | rfl | rfl
    · exact key 8 (by decide) (by omega)
    · exact key 4 (by decide) (by omega)
    · exact key 2 (by decide) (by omega)
    · exact key 2 (by decide) (by omega)
    · exact key 1 (by decide) (by omega)
    · exact key 1 (by decide) (by omega)
    · exact key 1 (by decide) (by omega)
    · exact key 1 (by decide) (by omega)
  · rw [if_neg hx, decide_eq_false (fun h => hx h.1)]
theorem tmodN (r h : Nat) (hh : 1 ≤ h) : rem (r : Int) (h : Int) = some ((r % h : Nat) : Int) := by
  unfold rem; rw [if_neg (by omega), ← Int.ofNat_tmod]
theorem iatN (k : Nat) {w h : Nat} {l : List Int} {r c : Nat} (hw : 1 ≤ w ∧ w ≤ 8) (hh : 1 ≤ h ∧ h ≤ 8) (hl : l.length = w * h) (hr : r < h) (hc : c < w) : impl_Chart_at.f k (w : Int) (h : Int) l (r : Int) (c : Int) = some (l.getD (r * w + c) 0) := by
  rw [iatC k w h l r c (by omega) (by omega) (by rw [hl, nat_mul_cast]) (by omega) (by omega)]
  unfold atL
  rw [← Int.natCast_mul, ← Int.natCast_add, Int.toNat_natCast]
theorem implRep_eq (k : Nat) (w h : Int) (l : List Int) (x y : Int) (hl : l.length ≤ 100000000000000) (hk : l.length + 1000 ≤ k) : impl_RepeatMotif.f k w h l x y = some (repOut w h l x y) := by
  unfold impl_RepeatMotif.f impl_RepeatMotif.m repOut
  rw [isChart_eq k w h l hl (by omega)]; simp only [Option.bind_some]
  by_cases hg : goodB w h l = true
  · obtain ⟨hw, hh, hlen, _⟩ := good_of hg
    rw [hg, copies_eq k w x hw]; simp only [Option.bind_some, Bool.not_true, Bool.not_false, cond_true, cond_false, Bool.true_and, Bool.false_and, Bool.and_true, Bool.and_false, Bool.false_eq_true, Bool.true_or, Bool.or_true, Bool.false_or, Bool.or_false, Bool.or_self, Bool.and_self, decide_true, decide_false, if_true, if_false, not_true, not_false_eq_true, not_true_eq_false, false_or, or_false, true_and, and_true, Bool.not_eq_true, Bool.true_eq_false, reduceCtorEq]
    by_cases hx : 1 ≤ x ∧ x * w ≤ 8
    · rw [decide_eq_true hx, copies_eq k h y hh]; simp only [Option.bind_some, Bool.not_true, Bool.not_false, cond_true, cond_false, Bool.true_and, Bool.false_and, Bool.and_true, Bool.and_false, Bool.false_eq_true, Bool.true_or, Bool.or_true, Bool.false_or, Bool.or_false, Bool.or_self, Bool.and_self, decide_true, decide_false, if_true, if_false, not_true, not_false_eq_true, not_true_eq_false, false_or, or_false, true_and, and_true, Bool.not_eq_true, Bool.true_eq_false, reduceCtorEq]
      by_cases hy : 1 ≤ y ∧ y * h ≤ 8
      · rw [decide_eq_true hy, if_pos (show repC w h l x y from ⟨hg, hx, hy⟩)]; simp only [Bool.not_true, Bool.not_false, cond_true, cond_false, Bool.true_and, Bool.false_and, Bool.and_true, Bool.and_false, Bool.false_eq_true, Bool.true_or, Bool.or_true, Bool.false_or, Bool.or_false, Bool.or_self, Bool.and_self, decide_true, decide_false, if_true, if_false, not_true, not_false_eq_true, not_true_eq_false, false_or, or_false, true_and, and_true, Bool.not_eq_true, Bool.true_eq_false, reduceCtorEq]
        have s1 := side_mul hw.1 hx.1
        have s2 := side_mul hh.1 hy.1
        rw [Int.mul_comm w x, Int.mul_comm h y, w64_id (x := x * w) (by omega), w64_id (x := y * h) (by omega)]
        unfold repL
        obtain ⟨w, rfl⟩ := Int.eq_ofNat_of_zero_le (show 0 ≤ w by omega)
        obtain ⟨h, rfl⟩ := Int.eq_ofNat_of_zero_le (show 0 ≤ h by omega)
        obtain ⟨x, rfl⟩ := Int.eq_ofNat_of_zero_le (show 0 ≤ x by omega)
        obtain ⟨y, rfl⟩ := Int.eq_ofNat_of_zero_le (show 0 ≤ y by omega)
        simp only [← nat_mul_cast, Int.toNat_natCast] at *
        have hlen' : l.length = w * h := by omega
        have hgr := grid_loop (fun k row acc => impl_makeChart__impl_RepeatMotif_1.l4 k ((x * w : Nat) : Int) (w : Int) (h : Int) l 0 0 [] ((x * w : Nat) : Int) ((y * h : Nat) : Int) acc ((y * h : Nat) : Int) row) (fun k row col acc => impl_makeChart__impl_RepeatMotif_1.l10 k ((x * w : Nat) : Int) (w : Int) (h : Int) l 0 0 [] ((x * w : Nat) : Int) ((y * h : Nat) : Int) acc row ((y * h : Nat) : Int) row ((x * w : Nat) : Int) col) (fun acc => some (((x * w : Nat) : Int), ((y * h : Nat) : Int), acc)) (x * w) (y * h) (by omega) (by omega)
          (fun k row col => impl_RepeatMotif_1.f k row col w h l) (fun r c => l.getD (r % h * w + c % w) 0)
          (fun k row acc => by simp only [impl_makeChart__impl_RepeatMotif_1.l4, impl_makeChart__impl_RepeatMotif_1.b4]) (fun k row col acc => by simp only [impl_makeChart__impl_RepeatMotif_1.l10, impl_makeChart__impl_RepeatMotif_1.b10])
          (fun k r c hr hc => by
            unfold impl_RepeatMotif_1.f impl_RepeatMotif_1.m
            rw [tmodN r h (by omega), tmodN c w (by omega)]; simp only [Option.bind_some]
            rw [iatN k (by omega) (by omega) hlen' (Nat.mod_lt _ (by omega)) (Nat.mod_lt _ (by omega))]; rfl) k (Nat.le_trans (Nat.mul_le_mul (show y * h + 1 ≤ 9 by omega) (show x * w + 2 ≤ 10 by omega)) (by omega))
        unfold impl_makeChart__impl_RepeatMotif_1.f impl_makeChart__impl_RepeatMotif_1.m
        rw [hgr]; rfl
      · rw [decide_eq_false hy, if_neg (fun h => hy h.2.2)]; rfl
    · rw [decide_eq_false hx, if_neg (fun h => hx h.2.1)]; rfl
  · rw [notB hg, if_neg (fun h => hg h.1)]; rfl
theorem quoN {w p : Nat} (hp : 1 ≤ p) (hw : w ≤ 8) : quo .i64 (w : Int) (p : Int) = some ((w / p : Nat) : Int) := by
  unfold quo
  rw [if_neg (by omega), ← Int.ofNat_tdiv]
  have : w / p ≤ w := Nat.div_le_self w p
  generalize w / p = q at *
  rw [show IntKind.i64.wrap (q : Int) = w64 (q : Int) from rfl, w64_id (by omega)]
theorem rem_ok {x y : Int} (h : ¬ y = 0) : rem x y = some (x.tmod y) := by unfold rem; rw [if_neg h]
def ringP (w h : Int) : List Int := (spec_l8Places.f 50 w h).getD []
theorem l8Places_k (w h : Int) (hw : 2 ≤ w ∧ w ≤ 8) (hh : 2 ≤ h ∧ h ≤ 8) (k : Nat) : spec_l8Places.f (k + 50) w h = some (ringP w h) := by
  have h1 : w = 2 ∨ w = 3 ∨ w = 4 ∨ w = 5 ∨ w = 6 ∨ w = 7 ∨ w = 8 := by omega
  have h2 : h = 2 ∨ h = 3 ∨ h = 4 ∨ h = 5 ∨ h = 6 ∨ h = 7 ∨ h = 8 := by omega
  rcases h1 with rfl | rfl | rfl | rfl | rfl | rfl | rfl <;> rcases h2 with rfl | rfl | rfl | rfl | rfl | rfl | rfl <;> (refine Eq.symm (Eq.symm ?_); kernel_rfl)
theorem l8Places_eq (w h : Int) (hw : 2 ≤ w ∧ w ≤ 8) (hh : 2 ≤ h ∧ h ≤ 8) (k : Nat) (hk : 50 ≤ k) : spec_l8Places.f k w h = some (ringP w h) := by
  obtain ⟨m, rfl⟩ : ∃ m, k = m + 50 := ⟨k - 50, by omega⟩
  exact l8Places_k w h hw hh m
theorem ringPlaces_k (w h : Int) (hw : 2 ≤ w ∧ w ≤ 8) (hh : 2 ≤ h ∧ h ≤ 8) (k : Nat) : impl_ringPlaces.f (k + 50) w h = some (ringP w h) := by
  have h1 : w = 2 ∨ w = 3 ∨ w = 4 ∨ w = 5 ∨ w = 6 ∨ w = 7 ∨ w = 8 := by omega
  have h2 : h = 2 ∨ h = 3 ∨ h = 4 ∨ h = 5 ∨ h = 6 ∨ h = 7 ∨ h = 8 := by omega
  rcases h1 with rfl | rfl | rfl | rfl | rfl | rfl | rfl <;> rcases h2 with rfl | rfl | rfl | rfl | rfl | rfl | rfl <;> (refine Eq.symm (Eq.symm ?_); kernel_rfl)
theorem ringPlaces_eq (w h : Int) (hw : 2 ≤ w ∧ w ≤ 8) (hh : 2 ≤ h ∧ h ≤ 8) (k : Nat) (hk : 50 ≤ k) : impl_ringPlaces.f k w h = some (ringP w h) := by
  obtain ⟨m, rfl⟩ : ∃ m, k = m + 50 := ⟨k - 50, by omega⟩
  exact ringPlaces_k w h hw hh m
def ringOk (w h : Int) : Bool := (ringP w h).all (fun p => decide (0 ≤ p) && decide (p < w * h)) && decide (((ringP w h).length : Int) = 2 * w + 2 * h - 4)
theorem ringOk_all (w h : Int) (hw : 2 ≤ w ∧ w ≤ 8) (hh : 2 ≤ h ∧ h ≤ 8) : ringOk w h = true := by
  have h1 : w = 2 ∨ w = 3 ∨ w = 4 ∨ w = 5 ∨ w = 6 ∨ w = 7 ∨ w = 8 := by omega
  have h2 : h = 2 ∨ h = 3 ∨ h = 4 ∨ h = 5 ∨ h = 6 ∨ h = 7 ∨ h = 8 := by omega
  rcases h1 with rfl | rfl | rfl | rfl | rfl | rfl | rfl <;> rcases h2 with rfl | rfl | rfl | rfl | rfl | rfl | rfl <;> (refine Eq.symm (Eq.symm ?_); kernel_rfl)
theorem ringP_of (w h : Int) (hw : 2 ≤ w ∧ w ≤ 8) (hh : 2 ≤ h ∧ h ≤ 8) : (∀ p ∈ ringP w h, 0 ≤ p ∧ p < w * h) ∧ ((ringP w h).length : Int) = 2 * w + 2 * h - 4 := by
  have := ringOk_all w h hw hh
  unfold ringOk at this
  simp only [Bool.and_eq_true, decide_eq_true_eq, List.all_eq_true] at this
  exact this
def ringR (ps ring : List Int) : Nat → Nat → List Int → List Int
  | 0, _, xs => xs
  | d + 1, i, xs => ringR ps ring d (i + 1) (xs.set (ps.getD i 0).toNat (ring.getD (Int.tmod i ring.length).toNat 0))
theorem ringR_len (ps ring : List Int) : ∀ d i xs, (ringR ps ring d i xs).length = xs.length := by
  intro d; induction d with
  | zero => intro i xs; rfl
  | succ d ih => intro i xs; simp only [ringR]; rw [ih]; simp
theorem l8Put_l (w h : Int) (ps ring : List Int) (hp : ps.length ≤ 1000) (hr : 0 < ring.length) : ∀ (d k i : Nat) (xs : List Int), i + d = ps.length → d < k → (∀ p ∈ ps, 0 ≤ p ∧ p < xs.length) → spec_l8Put.l4 k ring 0 0 [] w h xs ps (i : Int) = some (w, h, ringR ps ring d i xs) := by
  intro d
  induction d with
  | zero =>
    intro k i xs h1 h2 h3
    obtain ⟨k, rfl⟩ := succ_of h2
    simp (disch := omega) only [spec_l8Put.l4, spec_l8Put.b4, if_neg]; rfl
  | succ d ih =>
    intro k i xs h1 h2 h3
    obtain ⟨k, rfl⟩ := succ_of (show 0 < k by omega)
    have hm1 : 0 ≤ Int.tmod (i : Int) (ring.length : Int) := Int.tmod_nonneg _ (by omega)
    have hm2 : Int.tmod (i : Int) (ring.length : Int) < (ring.length : Int) := Int.tmod_lt_of_pos _ (by omega)
    have hb := h3 (ps.getD i 0) (by rw [getD_lt (by omega)]; exact List.getElem_mem _)
    have h := ih k (i + 1) (xs.set (ps.getD i 0).toNat (ring.getD (Int.tmod i ring.length).toNat 0)) (by omega) (by omega) (by simpa using h3)
    rw [show ((i + 1 : Nat) : Int) = (i : Int) + 1 by omega] at h
    simp (disch := omega) only [spec_l8Put.l4, spec_l8Put.b4, if_pos, chk_nat, Option.bind_some, rem_ok, w64_id]
    rw [chk_int ⟨hm1, hm2⟩]; simp only [Option.bind_some]
    rw [chk_int hb]; simp only [Option.bind_some]
    exact h
theorem withRing_l (w h : Int) (ps ring : List Int) (hp : ps.length ≤ 1000) (hr : 0 < ring.length) : ∀ (d k i : Nat) (xs : List Int), i + d = ps.length → d < k → (∀ p ∈ ps, 0 ≤ p ∧ p < xs.length) → impl_Chart_withRing.l4 k ring 0 0 [] w h xs ps ps.length (i : Int) = some (w, h, ringR ps ring d i xs) := by
  intro d
  induction d with
  | zero =>
    intro k i xs h1 h2 h3
    obtain ⟨k, rfl⟩ := succ_of h2
    simp (disch := omega) only [impl_Chart_withRing.l4, impl_Chart_withRing.b4, if_neg]; rfl
  | succ d ih =>
    intro k i xs h1 h2 h3
    obtain ⟨k, rfl⟩ := succ_of (show 0 < k by omega)
    have hm1 : 0 ≤ Int.tmod (i : Int) (ring.length : Int) := Int.tmod_nonneg _ (by omega)
    have hm2 : Int.tmod (i : Int) (ring.length : Int) < (ring.length : Int) := Int.tmod_lt_of_pos _ (by omega)
    have hb := h3 (ps.getD i 0) (by rw [getD_lt (by omega)]; exact List.getElem_mem _)
    have h := ih k (i + 1) (xs.set (ps.getD i 0).toNat (ring.getD (Int.tmod i ring.length).toNat 0)) (by omega) (by omega) (by simpa using h3)
    rw [show ((i + 1 : Nat) : Int) = (i : Int) + 1 by omega] at h
    simp (disch := omega) only [impl_Chart_withRing.l4, impl_Chart_withRing.b4, if_pos, chk_nat, Option.bind_some, rem_ok, w64_id]
    rw [chk_int ⟨hm1, hm2⟩]; simp only [Option.bind_some]
    rw [chk_int hb]; simp only [Option.bind_some]
    exact h
theorem l8Put_eq (w h : Int) (l ring : List Int) (hw : 2 ≤ w ∧ w ≤ 8) (hh : 2 ≤ h ∧ h ≤ 8) (hl : (l.length : Int) = w * h) (hr : 0 < ring.length) (k : Nat) (hk : 200 ≤ k) : spec_l8Put.f k w h l ring = some (w, h, ringR (ringP w h) ring (ringP w h).length 0 l) := by
  have hb := mul_bd (w := w) (h := h) (by omega) (by omega)
  have hp := ringP_of w h hw hh
  unfold spec_l8Put.f spec_l8Put.m
  rw [l2Own_eq k w h l (by omega), l8Places_eq w h hw hh k (by omega)]
  simp only [Option.bind_some]
  exact l8Put_l w h _ ring (by omega) hr _ k 0 l (by omega) (by omega) (fun p hpp => by have := hp.1 p hpp; omega)
theorem withRing_eq (w h : Int) (l ring : List Int) (hw : 2 ≤ w ∧ w ≤ 8) (hh : 2 ≤ h ∧ h ≤ 8) (hl : (l.length : Int) = w * h) (hr : 0 < ring.length) (k : Nat) (hk : 200 ≤ k) : impl_Chart_withRing.f k w h l ring = some (w, h, ringR (ringP w h) ring (ringP w h).length 0 l) := by
  have hb := mul_bd (w := w) (h := h) (by omega) (by omega)
  have hp := ringP_of w h hw hh
  unfold impl_Chart_withRing.f impl_Chart_withRing.m
  rw [copied_eq k w h l (by omega), ringPlaces_eq w h hw hh k (by omega)]
  simp only [Option.bind_some]
  exact withRing_l w h _ ring (by omega) hr _ k 0 l (by omega) (by omega) (fun p hpp => by have := hp.1 p hpp; omega)
theorem l8Length_eq (k : Nat) (w h : Int) (hw : 2 ≤ w ∧ w ≤ 8) (hh : 2 ≤ h ∧ h ≤ 8) : spec_l8Length.f k w h = some (2 * w + 2 * h - 4) := by
  unfold spec_l8Length.f spec_l8Length.m
  simp (disch := omega) only [w64_id]
theorem ringLength_eq (k : Nat) (w h : Int) (hw : 2 ≤ w ∧ w ≤ 8) (hh : 2 ≤ h ∧ h ≤ 8) : impl_ringLength.f k w h = some (2 * w + 2 * h - 4) := by
  unfold impl_ringLength.f impl_ringLength.m
  simp (disch := omega) only [w64_id]
  congr 1; omega
theorem l8Colors_eq (k : Nat) (l : List Int) (hl : l.length ≤ 100000000000000) (hk : l.length + 50 ≤ k) : spec_l8Colors.f k l = some (l.all colorB) := by
  unfold spec_l8Colors.f spec_l8Colors.m
  have hq := (all_loop (L := fun k i => spec_l8Colors.l3 k l (i : Int)) (n := l.length) (K0 := 20) (ok := fun i => colorB (l.getD i 0)) (f := some false) (fun k i hk hi => ?_)) l.length k 0 (by omega) (by omega)
  · rw [show ((0 : Nat) : Int) = 0 from rfl] at hq
    by_cases hc : l.all colorB = true
    · rw [hq.1 (some true) (fun k hk => by simp (disch := omega) only [spec_l8Colors.l3, spec_l8Colors.b3, if_neg]) (fun j _ hj => (allI_iff _ _).1 hc j hj), hc]
    · rw [hq.2 (exists_bad fun hn => hc ((allI_iff _ _).2 hn)), notB hc]
  · simp (disch := omega) only [spec_l8Colors.l3, spec_l8Colors.b3, if_pos, chk_nat, Option.bind_some, w64_id, l2Color_eq, Int.natCast_add, Int.cast_ofNat_Int]
    cases colorB (l.getD i 0) <;> simp only [Bool.not_true, Bool.not_false, cond_true, cond_false, Bool.true_and, Bool.false_and, Bool.and_true, Bool.and_false, Bool.false_eq_true, Bool.true_or, Bool.or_true, Bool.false_or, Bool.or_false, Bool.or_self, Bool.and_self, decide_true, decide_false, if_true, if_false, not_true, not_false_eq_true, not_true_eq_false, false_or, or_false, true_and, and_true, Bool.not_eq_true, Bool.true_eq_false, reduceCtorEq]
def patB (p : List Int) : Bool := p.all colorB && inB (p.length : Int) 1 8
theorem l8Pattern_eq (k : Nat) (l : List Int) (hl : l.length ≤ 100000000000000) (hk : l.length + 50 ≤ k) : spec_l8Pattern.f k l = some (patB l) := by
  unfold spec_l8Pattern.f spec_l8Pattern.m patB
  rw [l8Colors_eq k l hl hk, specIn_eq]; simp only [Option.bind_some]
  cases l.all colorB <;> rfl
theorem ringR_mem (ps r : List Int) (hr : 0 < r.length) : ∀ (d i : Nat) (xs : List Int) (x : Int), x ∈ ringR ps r d i xs → x ∈ xs ∨ x ∈ r := by
  intro d
  induction d with
  | zero => intro i xs x h; exact .inl h
  | succ d ih =>
    intro i xs x h
    unfold ringR at h
    rcases ih _ _ x h with h | h
    · rcases List.mem_or_eq_of_mem_set h with h | h
      · exact .inl h
      · have hm1 : 0 ≤ Int.tmod (i : Int) (r.length : Int) := Int.tmod_nonneg _ (by omega)
        have hm2 : Int.tmod (i : Int) (r.length : Int) < (r.length : Int) := Int.tmod_lt_of_pos _ (by omega)
        rw [getD_lt (by omega)] at h
        exact .inr (h ▸ List.getElem_mem _)
    · exact .inr h
theorem isPattern_eq (k : Nat) (l : List Int) (hl : l.length ≤ 100000000000000) (hk : l.length + 50 ≤ k) : impl_isPattern.f k l = some (patB l) := by
  unfold impl_isPattern.f impl_isPattern.m patB
  rw [areColors_eq k l hl hk, implIn_eq]; simp only [Option.bind_some]
  cases l.all colorB <;> cases inB (l.length : Int) 1 8 <;> rfl
theorem blank_eq (k : Nat) (w h : Int) (hw : 1 ≤ w ∧ w ≤ 8) (hh : 1 ≤ h ∧ h ≤ 8) : spec_l6Blank.f k w h = some (w, h, List.replicate (w * h).toNat 0, true) := by
  have := mul_bd hw hh
  unfold spec_l6Blank.f spec_l6Blank.m
  rw [l2Side_eq, l2Side_eq, inB_of hw, inB_of hh]
  simp (disch := omega) only [Option.bind_some, Bool.not_true, Bool.not_false, cond_true, cond_false, Bool.true_and, Bool.false_and, Bool.and_true, Bool.and_false, Bool.false_eq_true, Bool.true_or, Bool.or_true, Bool.false_or, Bool.or_false, Bool.or_self, Bool.and_self, decide_true, decide_false, if_true, if_false, not_true, not_false_eq_true, not_true_eq_false, false_or, or_false, true_and, and_true, Bool.not_eq_true, Bool.true_eq_false, reduceCtorEq, w64_id, mkl_int]
theorem make_k (w h : Int) (hw : 3 ≤ w ∧ w ≤ 8) (hh : 3 ≤ h ∧ h ≤ 8) (k : Nat) : impl_makeChart__impl_AddBorder_1.f (k + 100) w h = some (w, h, List.replicate (w * h).toNat 0) := by
  have h1 : w = 3 ∨ w = 4 ∨ w = 5 ∨ w = 6 ∨ w = 7 ∨ w = 8 := by omega
  have h2 : h = 3 ∨ h = 4 ∨ h = 5 ∨ h = 6 ∨ h = 7 ∨ h = 8 := by omega
  rcases h1 with rfl | rfl | rfl | rfl | rfl | rfl <;> rcases h2 with rfl | rfl | rfl | rfl | rfl | rfl <;> (refine Eq.symm (Eq.symm ?_); kernel_rfl)
theorem blank_good {w h : Int} (hw : 1 ≤ w ∧ w ≤ 8) (hh : 1 ≤ h ∧ h ≤ 8) : goodB w h (List.replicate (w * h).toNat 0) = true := by
  have := mul_bd hw hh
  unfold goodB
  rw [inB_of hw, inB_of hh]
  have h1 : (((w * h).toNat : Nat) : Int) = w * h := Int.toNat_of_nonneg (by omega)
  simp only [List.length_replicate, h1, decide_true, Bool.true_and, List.all_eq_true]
  intro x hx; rw [List.eq_of_mem_replicate hx]; rfl
def bordC (w h : Int) (l p : List Int) : Prop := goodB w h l = true ∧ patB p = true ∧ w ≤ 6 ∧ h ≤ 6 ∧ (2 * (w + 2) + 2 * (h + 2) - 4).tmod p.length = 0
def bordL (w h : Int) (l p : List Int) : List Int := ringR (ringP (w + 2) (h + 2)) p (ringP (w + 2) (h + 2)).length 0 (putR (w + 2).toNat 1 1 w.toNat l h.toNat 0 (List.replicate ((w + 2) * (h + 2)).toNat 0))
open Classical in
noncomputable def bordOut (w h : Int) (l p : List Int) : Int × Int × List Int × Bool := if bordC w h l p then (w + 2, h + 2, bordL w h l p, true) else (0, 0, [], false)
theorem put_len1 {w h : Int} {l : List Int} (h1 : goodB w h l = true) (hw : w ≤ 6) (hh : h ≤ 6) : ((putR (w + 2).toNat 1 1 w.toNat l h.toNat 0 (List.replicate ((w + 2) * (h + 2)).toNat 0)).length : Int) = (w + 2) * (h + 2) := by
  obtain ⟨gw, gh, hl, _⟩ := good_of h1
  obtain ⟨w, rfl⟩ := Int.eq_ofNat_of_zero_le (show 0 ≤ w by omega)
  obtain ⟨h, rfl⟩ := Int.eq_ofNat_of_zero_le (show 0 ≤ h by omega)
  have hl' := lenN hl
  have e1 : ((w : Int) + 2).toNat = w + 2 := by omega
  have e2 : (((w : Int) + 2) * ((h : Int) + 2)).toNat = (w + 2) * (h + 2) := by
    rw [show ((w : Int) + 2) * ((h : Int) + 2) = (((w + 2) * (h + 2) : Nat) : Int) by rw [nat_mul_cast]; rfl, Int.toNat_natCast]
  rw [e1, e2, Int.toNat_natCast, Int.toNat_natCast, putR_len (w + 2) (h + 2) 1 1 w h l hl' (by omega) h 0 _ (by omega) (by omega) (by simp), nat_mul_cast]; rfl
theorem bordOut_len (w h : Int) (l p : List Int) : (bordOut w h l p).2.2.1.length ≤ 64 := by
  unfold bordOut
  split
  · rename_i hc
    obtain ⟨h1, h2, h3, h4, _⟩ := hc
    obtain ⟨gw, gh, hl, _⟩ := good_of h1
    have := mul_bd (w := w + 2) (h := h + 2) (by omega) (by omega)
    have hp := put_len1 h1 h3 h4
    simp only [bordL]
    rw [ringR_len]; omega
  · simp
theorem addBorder_eq (k : Nat) (w h : Int) (l p : List Int) (hl : l.length ≤ 4194304) (hp : p.length ≤ 4194304) (hk : 5000000 ≤ k) : spec_AddBorder.f k w h l p = some (bordOut w h l p) ∧ impl_AddBorder.f k w h l p = some (bordOut w h l p) := by
  have hno : ∀ r, ¬ bordC w h l p → r = (0, 0, ([] : List Int), false) → some r = some (bordOut w h l p) := fun r hc hr => by unfold bordOut; rw [if_neg hc, hr]
  refine ⟨?_, ?_⟩
  · show spec_AddBorder.f k w h l p = some (bordOut w h l p)
    unfold spec_AddBorder.f spec_AddBorder.m
    rw [l2Good_eq k w h l (by omega) (by omega)]; simp only [Option.bind_some]
    cases h1 : goodB w h l
    · exact hno _ (fun hc => by have := hc.1; rw [h1] at this; cases this) rfl
    rw [l8Pattern_eq k p (by omega) (by omega)]; simp only [Option.bind_some, Bool.not_true, Bool.not_false, cond_true, cond_false, Bool.true_and, Bool.false_and, Bool.and_true, Bool.and_false, Bool.false_eq_true, Bool.true_or, Bool.or_true, Bool.false_or, Bool.or_false, Bool.or_self, Bool.and_self, decide_true, decide_false, if_true, if_false, not_true, not_false_eq_true, not_true_eq_false, false_or, or_false, true_and, and_true, Bool.not_eq_true, Bool.true_eq_false, reduceCtorEq]
    cases h2 : patB p
    · exact hno _ (fun hc => by have := hc.2.1; rw [h2] at this; cases this) rfl
    obtain ⟨gw, gh, gl, _⟩ := good_of h1
    rw [w64_id (x := w + 2) (by omega), w64_id (x := h + 2) (by omega)]
    by_cases h3 : w ≤ 6 ∧ h ≤ 6
    · have hpl : 1 ≤ (p.length : Int) ∧ (p.length : Int) ≤ 8 := by unfold patB at h2; simp only [Bool.and_eq_true, inB_iff] at h2; exact h2.2
      rw [blank_eq k (w + 2) (h + 2) (by omega) (by omega)]; simp only [Option.bind_some, Bool.not_true, Bool.not_false, cond_true, cond_false, Bool.true_and, Bool.false_and, Bool.and_true, Bool.and_false, Bool.false_eq_true, Bool.true_or, Bool.or_true, Bool.false_or, Bool.or_false, Bool.or_self, Bool.and_self, decide_true, decide_false, if_true, if_false, not_true, not_false_eq_true, not_true_eq_false, false_or, or_false, true_and, and_true, Bool.not_eq_true, Bool.true_eq_false, reduceCtorEq]
      rw [l8Length_eq k (w + 2) (h + 2) (by omega) (by omega)]; simp only [Option.bind_some]
      rw [rem_ok (by omega)]; simp only [Option.bind_some]
      by_cases h4 : (2 * (w + 2) + 2 * (h + 2) - 4).tmod (p.length : Int) = 0
      · have hput := (put_both (w + 2) (h + 2) _ w h l 1 1 (blank_good (by omega) (by omega)) h1 (by unfold fitsB; rw [inB_of (by omega), inB_of (by omega), inB_of (by omega), inB_of (by omega)]; rfl) k (by omega)).1
        simp only [h4, Bool.not_true, Bool.not_false, cond_true, cond_false, Bool.true_and, Bool.false_and, Bool.and_true, Bool.and_false, Bool.false_eq_true, Bool.true_or, Bool.or_true, Bool.false_or, Bool.or_false, Bool.or_self, Bool.and_self, decide_true, decide_false, if_true, if_false, not_true, not_false_eq_true, not_true_eq_false, false_or, or_false, true_and, and_true, Bool.not_eq_true, Bool.true_eq_false, reduceCtorEq]
        rw [hput]; simp only [Option.bind_some, show Int.toNat 1 = 1 from rfl]
        rw [l8Put_eq (w + 2) (h + 2) _ p (by omega) (by omega) (put_len1 h1 h3.1 h3.2) (by omega) k (by omega)]
        unfold bordOut
        rw [if_pos ⟨h1, h2, h3.1, h3.2, h4⟩]; rfl
      · simp only [h4, Bool.not_true, Bool.not_false, cond_true, cond_false, Bool.true_and, Bool.false_and, Bool.and_true, Bool.and_false, Bool.false_eq_true, Bool.true_or, Bool.or_true, Bool.false_or, Bool.or_false, Bool.or_self, Bool.and_self, decide_true, decide_false, if_true, if_false, not_true, not_false_eq_true, not_true_eq_false, false_or, or_false, true_and, and_true, Bool.not_eq_true, Bool.true_eq_false, reduceCtorEq]
        exact hno _ (fun hc => h4 hc.2.2.2.2) rfl
    · have hb : spec_l6Blank.f k (w + 2) (h + 2) = some (0, 0, [], false) := by
        unfold spec_l6Blank.f spec_l6Blank.m
        rw [l2Side_eq, l2Side_eq]; simp only [Option.bind_some]
        cases e1 : inB (w + 2) 1 8 <;> simp only [Bool.not_true, Bool.not_false, cond_true, cond_false, Bool.true_and, Bool.false_and, Bool.and_true, Bool.and_false, Bool.false_eq_true, Bool.true_or, Bool.or_true, Bool.false_or, Bool.or_false, Bool.or_self, Bool.and_self, decide_true, decide_false, if_true, if_false, not_true, not_false_eq_true, not_true_eq_false, false_or, or_false, true_and, and_true, Bool.not_eq_true, Bool.true_eq_false, reduceCtorEq]
        cases e2 : inB (h + 2) 1 8 <;> simp only [Bool.not_true, Bool.not_false, cond_true, cond_false, Bool.true_and, Bool.false_and, Bool.and_true, Bool.and_false, Bool.false_eq_true, Bool.true_or, Bool.or_true, Bool.false_or, Bool.or_false, Bool.or_self, Bool.and_self, decide_true, decide_false, if_true, if_false, not_true, not_false_eq_true, not_true_eq_false, false_or, or_false, true_and, and_true, Bool.not_eq_true, Bool.true_eq_false, reduceCtorEq]
        rw [inB_iff] at e1 e2; omega
      rw [hb]; simp only [Option.bind_some, Bool.not_true, Bool.not_false, cond_true, cond_false, Bool.true_and, Bool.false_and, Bool.and_true, Bool.and_false, Bool.false_eq_true, Bool.true_or, Bool.or_true, Bool.false_or, Bool.or_false, Bool.or_self, Bool.and_self, decide_true, decide_false, if_true, if_false, not_true, not_false_eq_true, not_true_eq_false, false_or, or_false, true_and, and_true, Bool.not_eq_true, Bool.true_eq_false, reduceCtorEq]
      exact hno _ (fun hc => h3 ⟨hc.2.2.1, hc.2.2.2.1⟩) rfl
  · show impl_AddBorder.f k w h l p = some (bordOut w h l p)
    unfold impl_AddBorder.f impl_AddBorder.m
    rw [isChart_eq k w h l (by omega) (by omega)]; simp only [Option.bind_some]
    cases h1 : goodB w h l
    · exact hno _ (fun hc => by have := hc.1; rw [h1] at this; cases this) rfl
    rw [isPattern_eq k p (by omega) (by omega)]; simp only [Option.bind_some, Bool.not_true, Bool.not_false, cond_true, cond_false, Bool.true_and, Bool.false_and, Bool.and_true, Bool.and_false, Bool.false_eq_true, Bool.true_or, Bool.or_true, Bool.false_or, Bool.or_false, Bool.or_self, Bool.and_self, decide_true, decide_false, if_true, if_false, not_true, not_false_eq_true, not_true_eq_false, false_or, or_false, true_and, and_true, Bool.not_eq_true, Bool.true_eq_false, reduceCtorEq]
    cases h2 : patB p
    · exact hno _ (fun hc => by have := hc.2.1; rw [h2] at this; cases this) rfl
    obtain ⟨gw, gh, gl, _⟩ := good_of h1
    rw [w64_id (x := w + 2) (by omega), w64_id (x := h + 2) (by omega), isSide_eq, isSide_eq]; simp only [Option.bind_some, Bool.not_true, Bool.not_false, cond_true, cond_false, Bool.true_and, Bool.false_and, Bool.and_true, Bool.and_false, Bool.false_eq_true, Bool.true_or, Bool.or_true, Bool.false_or, Bool.or_false, Bool.or_self, Bool.and_self, decide_true, decide_false, if_true, if_false, not_true, not_false_eq_true, not_true_eq_false, false_or, or_false, true_and, and_true, Bool.not_eq_true, Bool.true_eq_false, reduceCtorEq]
    cases e1 : inB (w + 2) 1 8
    · simp only [Bool.not_true, Bool.not_false, cond_true, cond_false, Bool.true_and, Bool.false_and, Bool.and_true, Bool.and_false, Bool.false_eq_true, Bool.true_or, Bool.or_true, Bool.false_or, Bool.or_false, Bool.or_self, Bool.and_self, decide_true, decide_false, if_true, if_false, not_true, not_false_eq_true, not_true_eq_false, false_or, or_false, true_and, and_true, Bool.not_eq_true, Bool.true_eq_false, reduceCtorEq]
      exact hno _ (fun hc => by have := hc.2.2.1; rw [inB_of (by omega)] at e1; cases e1) rfl
    cases e2 : inB (h + 2) 1 8
    · simp only [Bool.not_true, Bool.not_false, cond_true, cond_false, Bool.true_and, Bool.false_and, Bool.and_true, Bool.and_false, Bool.false_eq_true, Bool.true_or, Bool.or_true, Bool.false_or, Bool.or_false, Bool.or_self, Bool.and_self, decide_true, decide_false, if_true, if_false, not_true, not_false_eq_true, not_true_eq_false, false_or, or_false, true_and, and_true, Bool.not_eq_true, Bool.true_eq_false, reduceCtorEq]
      exact hno _ (fun hc => by have := hc.2.2.2.1; rw [inB_of (by omega)] at e2; cases e2) rfl
    rw [inB_iff] at e1 e2
    have hpl : 1 ≤ (p.length : Int) ∧ (p.length : Int) ≤ 8 := by unfold patB at h2; simp only [Bool.and_eq_true, inB_iff] at h2; exact h2.2
    obtain ⟨m, rfl⟩ : ∃ m, k = m + 100 := ⟨k - 100, by omega⟩
    rw [make_k (w + 2) (h + 2) (by omega) (by omega)]; simp only [Option.bind_some, Bool.not_true, Bool.not_false, cond_true, cond_false, Bool.true_and, Bool.false_and, Bool.and_true, Bool.and_false, Bool.false_eq_true, Bool.true_or, Bool.or_true, Bool.false_or, Bool.or_false, Bool.or_self, Bool.and_self, decide_true, decide_false, if_true, if_false, not_true, not_false_eq_true, not_true_eq_false, false_or, or_false, true_and, and_true, Bool.not_eq_true, Bool.true_eq_false, reduceCtorEq]
    rw [(put_both (w + 2) (h + 2) _ w h l 1 1 (blank_good (by omega) (by omega)) h1 (by unfold fitsB; rw [inB_of (by omega), inB_of (by omega), inB_of (by omega), inB_of (by omega)]; rfl) (m + 100) (by omega)).2]; simp only [Option.bind_some, show Int.toNat 1 = 1 from rfl]
    rw [ringLength_eq _ (w + 2) (h + 2) (by omega) (by omega)]; simp only [Option.bind_some]
    rw [rem_ok (by omega)]; simp only [Option.bind_some]
    by_cases h4 : (2 * (w + 2) + 2 * (h + 2) - 4).tmod (p.length : Int) = 0
    · simp only [h4, Bool.not_true, Bool.not_false, cond_true, cond_false, Bool.true_and, Bool.false_and, Bool.and_true, Bool.and_false, Bool.false_eq_true, Bool.true_or, Bool.or_true, Bool.false_or, Bool.or_false, Bool.or_self, Bool.and_self, decide_true, decide_false, if_true, if_false, not_true, not_false_eq_true, not_true_eq_false, false_or, or_false, true_and, and_true, Bool.not_eq_true, Bool.true_eq_false, reduceCtorEq]
      rw [withRing_eq (w + 2) (h + 2) _ p (by omega) (by omega) (put_len1 h1 (by omega) (by omega)) (by omega) _ (by omega)]
      unfold bordOut
      rw [if_pos ⟨h1, h2, by omega, by omega, h4⟩]; rfl
    · simp only [h4, Bool.not_true, Bool.not_false, cond_true, cond_false, Bool.true_and, Bool.false_and, Bool.and_true, Bool.and_false, Bool.false_eq_true, Bool.true_or, Bool.or_true, Bool.false_or, Bool.or_false, Bool.or_self, Bool.and_self, decide_true, decide_false, if_true, if_false, not_true, not_false_eq_true, not_true_eq_false, false_or, or_false, true_and, and_true, Bool.not_eq_true, Bool.true_eq_false, reduceCtorEq]
      exact hno _ (fun hc => h4 hc.2.2.2.2) rfl
theorem plainI10 {w h : Nat} (hw : w ≤ 8) (hh : h ≤ 8) (x : Int) (i : Nat) (hi : i < h) (n : Nat) (hn : n ≤ 500) : ∀ (d k j : Nat), j + d = w → d + 2 < k → impl_makeChart__impl_PlainChart_1.l10 k (w : Int) x 0 0 [] (w : Int) (h : Int) (List.replicate (n + j) x) (i : Int) (h : Int) (i : Int) (w : Int) (j : Int) = impl_makeChart__impl_PlainChart_1.l4 (k - d - 1) (w : Int) x 0 0 [] (w : Int) (h : Int) (List.replicate (n + w) x) (h : Int) ((i + 1 : Nat) : Int) := by
  intro d
  induction d with
  | zero =>
    intro k j h1 h2
    obtain ⟨k, rfl⟩ := succ_of (show 0 < k by omega)
    have : j = w := by omega
    subst this
    simp (disch := omega) only [impl_makeChart__impl_PlainChart_1.l10, impl_makeChart__impl_PlainChart_1.b10, if_neg, w64_id]
    rw [show ((i + 1 : Nat) : Int) = (i : Int) + 1 by omega]; rfl
  | succ d ih =>
    intro k j h1 h2
    obtain ⟨k, rfl⟩ := succ_of (show 0 < k by omega)
    have h4 := ih k (j + 1) (by omega) (by omega)
    rw [show k + 1 - (d + 1) - 1 = k - d - 1 by omega, ← h4]
    simp only [impl_makeChart__impl_PlainChart_1.l10, impl_makeChart__impl_PlainChart_1.b10, impl_PlainChart_1.f, impl_PlainChart_1.m, Option.bind_some]
    rw [if_pos (by omega), app_ok (by rw [List.length_replicate, List.length_singleton]; omega), w64_id (by omega), show ((j + 1 : Nat) : Int) = (j : Int) + 1 by omega, show n + (j + 1) = (n + j) + 1 by omega, List.replicate_succ']
    rfl
theorem plainI4 {w h : Nat} (hw : w ≤ 8) (hh : h ≤ 8) (x : Int) : ∀ (d k i : Nat), i + d = h → 12 * d + 5 < k → impl_makeChart__impl_PlainChart_1.l4 k (w : Int) x 0 0 [] (w : Int) (h : Int) (List.replicate (i * w) x) (h : Int) (i : Int) = some ((w : Int), (h : Int), List.replicate (h * w) x) := by
  intro d
  induction d with
  | zero =>
    intro k i h1 h2
    obtain ⟨k, rfl⟩ := succ_of (show 0 < k by omega)
    have : i = h := by omega
    subst this
    simp (disch := omega) only [impl_makeChart__impl_PlainChart_1.l4, impl_makeChart__impl_PlainChart_1.b4, if_neg]
  | succ d ih =>
    intro k i h1 h2
    obtain ⟨k, rfl⟩ := succ_of (show 0 < k by omega)
    have hb : i * w ≤ 64 := Nat.le_trans (Nat.mul_le_mul (show i ≤ 8 by omega) hw) (by omega)
    have h5 := plainI10 hw hh x i (by omega) (i * w) (by omega) w k 0 (by omega) (by omega)
    rw [Nat.add_zero, show ((0 : Nat) : Int) = 0 from rfl] at h5
    simp (disch := omega) only [impl_makeChart__impl_PlainChart_1.l4, impl_makeChart__impl_PlainChart_1.b4, if_pos]
    rw [h5, ← Nat.succ_mul]
    exact ih _ (i + 1) (by omega) (by omega)
theorem plainS {w h : Nat} (hw : w ≤ 8) (hh : h ≤ 8) (x : Int) : ∀ (d k i : Nat), i + d = h * w → d + 5 < k → spec_PlainChart.l7 k (w : Int) (h : Int) x 0 0 [] (w : Int) (h : Int) (List.replicate i x) (i : Int) = some ((w : Int), (h : Int), List.replicate (h * w) x, true) := by
  have hb : h * w ≤ 64 := Nat.le_trans (Nat.mul_le_mul hh hw) (by omega)
  have hc : (w : Int) * (h : Int) = ((h * w : Nat) : Int) := by rw [nat_mul_cast, Int.mul_comm]
  intro d
  induction d with
  | zero =>
    intro k i h1 h2
    obtain ⟨k, rfl⟩ := succ_of (show 0 < k by omega)
    have : i = h * w := by omega
    subst this
    simp only [spec_PlainChart.l7, spec_PlainChart.b7]
    rw [hc, w64_id (by omega), if_neg (by omega)]
  | succ d ih =>
    intro k i h1 h2
    obtain ⟨k, rfl⟩ := succ_of (show 0 < k by omega)
    have h4 := ih k (i + 1) (by omega) (by omega)
    simp only [spec_PlainChart.l7, spec_PlainChart.b7]
    rw [hc, w64_id (by omega), if_pos (by omega), app_ok (by rw [List.length_replicate, List.length_singleton]; omega), w64_id (by omega), ← List.replicate_succ', show ((i : Int) + 1) = ((i + 1 : Nat) : Int) by omega]
    exact h4
def plainOut (w h x : Int) : Int × Int × List Int × Bool := if inB w 1 8 = true ∧ inB h 1 8 = true ∧ colorB x = true then (w, h, List.replicate (h.toNat * w.toNat) x, true) else (0, 0, [], false)
theorem plainChart_eq (k : Nat) (w h x : Int) (hk : 1000 ≤ k) : impl_PlainChart.f k w h x = some (plainOut w h x) ∧ spec_PlainChart.f k w h x = some (plainOut w h x) := by
  unfold impl_PlainChart.f impl_PlainChart.m spec_PlainChart.f spec_PlainChart.m plainOut
  rw [isSide_eq, isSide_eq, l2Side_eq, l2Side_eq, isColor_eq, l2Color_eq]; simp only [Option.bind_some]
  cases e1 : inB w 1 8 <;> simp only [Bool.not_true, Bool.not_false, cond_true, cond_false, Bool.true_and, Bool.false_and, Bool.and_true, Bool.and_false, Bool.false_eq_true, Bool.true_or, Bool.or_true, Bool.false_or, Bool.or_false, Bool.or_self, Bool.and_self, decide_true, decide_false, if_true, if_false, not_true, not_false_eq_true, not_true_eq_false, false_or, or_false, true_and, and_true, Bool.not_eq_true, Bool.true_eq_false, reduceCtorEq, false_and]
  cases e2 : inB h 1 8 <;> simp only [Bool.not_true, Bool.not_false, cond_true, cond_false, Bool.true_and, Bool.false_and, Bool.and_true, Bool.and_false, Bool.false_eq_true, Bool.true_or, Bool.or_true, Bool.false_or, Bool.or_false, Bool.or_self, Bool.and_self, decide_true, decide_false, if_true, if_false, not_true, not_false_eq_true, not_true_eq_false, false_or, or_false, true_and, and_true, Bool.not_eq_true, Bool.true_eq_false, reduceCtorEq, false_and, and_false]
  cases e3 : colorB x <;> simp only [Bool.not_true, Bool.not_false, cond_true, cond_false, Bool.true_and, Bool.false_and, Bool.and_true, Bool.and_false, Bool.false_eq_true, Bool.true_or, Bool.or_true, Bool.false_or, Bool.or_false, Bool.or_self, Bool.and_self, decide_true, decide_false, if_true, if_false, not_true, not_false_eq_true, not_true_eq_false, false_or, or_false, true_and, and_true, Bool.not_eq_true, Bool.true_eq_false, reduceCtorEq, and_false]
  rw [inB_iff] at e1 e2
  obtain ⟨w, rfl⟩ := Int.eq_ofNat_of_zero_le (show 0 ≤ w by omega)
  obtain ⟨h, rfl⟩ := Int.eq_ofNat_of_zero_le (show 0 ≤ h by omega)
  simp only [Int.toNat_natCast]
  have hb : h * w ≤ 64 := Nat.le_trans (Nat.mul_le_mul (show h ≤ 8 by omega) (show w ≤ 8 by omega)) (by omega)
  have a1 := plainI4 (w := w) (h := h) (by omega) (by omega) x h k 0 (by omega) (by omega)
  have a2 := plainS (w := w) (h := h) (by omega) (by omega) x (h * w) k 0 (by omega) (by omega)
  rw [Nat.zero_mul, List.replicate_zero, show ((0 : Nat) : Int) = 0 from rfl] at a1
  rw [List.replicate_zero, show ((0 : Nat) : Int) = 0 from rfl] at a2
  unfold impl_makeChart__impl_PlainChart_1.f impl_makeChart__impl_PlainChart_1.m
  rw [a1, a2]
  exact ⟨rfl, rfl⟩
abbrev Ch := Int × Int × List Int
abbrev Dz := Int × Int × Int × Int
abbrev Cq := Int × Int × List Int × Bool
def gC (c : Ch) : Prop := goodB c.1 c.2.1 c.2.2 = true
def okD (d : Dz) : Bool :=
  if d.1 = 1 then inB d.2.1 1 8 && inB d.2.2.1 1 8 && colorB d.2.2.2
  else if d.1 = 6 then colorB d.2.1 && decide (d.2.2.1 = 0) && decide (d.2.2.2 = 0)
  else if d.1 = 9 then inB d.2.1 1 8 && inB d.2.2.1 1 8 && decide (d.2.2.2 = 0)
  else inB d.1 1 9 && decide (d.2.1 = 0) && decide (d.2.2.1 = 0) && decide (d.2.2.2 = 0)
theorem specOne_eq (k : Nat) (d : Dz) : spec_l9One.f k d.1 d.2.1 d.2.2.1 d.2.2.2 = some (okD d) := by
  unfold spec_l9One.f spec_l9One.m okD
  rw [l2Side_eq, l2Side_eq, l2Color_eq, l2Color_eq, specIn_eq]; simp only [Option.bind_some]
  by_cases h1 : d.1 = 1
  · rw [if_pos h1, if_pos h1]
    cases inB d.2.1 1 8 <;> simp only [Bool.not_true, Bool.not_false, cond_true, cond_false, Bool.true_and, Bool.false_and, Bool.and_true, Bool.and_false, Bool.false_eq_true, Bool.true_or, Bool.or_true, Bool.false_or, Bool.or_false, Bool.or_self, Bool.and_self, decide_true, decide_false, if_true, if_false, not_true, not_false_eq_true, not_true_eq_false, false_or, or_false, true_and, and_true, Bool.not_eq_true, Bool.true_eq_false, reduceCtorEq]
    cases inB d.2.2.1 1 8 <;> simp only [Bool.not_true, Bool.not_false, cond_true, cond_false, Bool.true_and, Bool.false_and, Bool.and_true, Bool.and_false, Bool.false_eq_true, Bool.true_or, Bool.or_true, Bool.false_or, Bool.or_false, Bool.or_self, Bool.and_self, decide_true, decide_false, if_true, if_false, not_true, not_false_eq_true, not_true_eq_false, false_or, or_false, true_and, and_true, Bool.not_eq_true, Bool.true_eq_false, reduceCtorEq]
  · rw [if_neg h1, if_neg h1]
    by_cases h2 : d.1 = 6
    · rw [if_pos h2, if_pos h2]
      cases colorB d.2.1 <;> simp only [Bool.not_true, Bool.not_false, cond_true, cond_false, Bool.true_and, Bool.false_and, Bool.and_true, Bool.and_false, Bool.false_eq_true, Bool.true_or, Bool.or_true, Bool.false_or, Bool.or_false, Bool.or_self, Bool.and_self, decide_true, decide_false, if_true, if_false, not_true, not_false_eq_true, not_true_eq_false, false_or, or_false, true_and, and_true, Bool.not_eq_true, Bool.true_eq_false, reduceCtorEq]
      by_cases e : d.2.2.1 = 0
      · rw [if_pos e, decide_eq_true e]; simp only [Bool.not_true, Bool.not_false, cond_true, cond_false, Bool.true_and, Bool.false_and, Bool.and_true, Bool.and_false, Bool.false_eq_true, Bool.true_or, Bool.or_true, Bool.false_or, Bool.or_false, Bool.or_self, Bool.and_self, decide_true, decide_false, if_true, if_false, not_true, not_false_eq_true, not_true_eq_false, false_or, or_false, true_and, and_true, Bool.not_eq_true, Bool.true_eq_false, reduceCtorEq]
      · rw [if_neg e, decide_eq_false e]; simp only [Bool.not_true, Bool.not_false, cond_true, cond_false, Bool.true_and, Bool.false_and, Bool.and_true, Bool.and_false, Bool.false_eq_true, Bool.true_or, Bool.or_true, Bool.false_or, Bool.or_false, Bool.or_self, Bool.and_self, decide_true, decide_false, if_true, if_false, not_true, not_false_eq_true, not_true_eq_false, false_or, or_false, true_and, and_true, Bool.not_eq_true, Bool.true_eq_false, reduceCtorEq]
    · rw [if_neg h2, if_neg h2]
      by_cases h3 : d.1 = 9
      · rw [if_pos h3, if_pos h3]
        cases inB d.2.1 1 8 <;> simp only [Bool.not_true, Bool.not_false, cond_true, cond_false, Bool.true_and, Bool.false_and, Bool.and_true, Bool.and_false, Bool.false_eq_true, Bool.true_or, Bool.or_true, Bool.false_or, Bool.or_false, Bool.or_self, Bool.and_self, decide_true, decide_false, if_true, if_false, not_true, not_false_eq_true, not_true_eq_false, false_or, or_false, true_and, and_true, Bool.not_eq_true, Bool.true_eq_false, reduceCtorEq]
        cases inB d.2.2.1 1 8 <;> simp only [Bool.not_true, Bool.not_false, cond_true, cond_false, Bool.true_and, Bool.false_and, Bool.and_true, Bool.and_false, Bool.false_eq_true, Bool.true_or, Bool.or_true, Bool.false_or, Bool.or_false, Bool.or_self, Bool.and_self, decide_true, decide_false, if_true, if_false, not_true, not_false_eq_true, not_true_eq_false, false_or, or_false, true_and, and_true, Bool.not_eq_true, Bool.true_eq_false, reduceCtorEq]
      · rw [if_neg h3, if_neg h3]
        cases inB d.1 1 9 <;> simp only [Bool.not_true, Bool.not_false, cond_true, cond_false, Bool.true_and, Bool.false_and, Bool.and_true, Bool.and_false, Bool.false_eq_true, Bool.true_or, Bool.or_true, Bool.false_or, Bool.or_false, Bool.or_self, Bool.and_self, decide_true, decide_false, if_true, if_false, not_true, not_false_eq_true, not_true_eq_false, false_or, or_false, true_and, and_true, Bool.not_eq_true, Bool.true_eq_false, reduceCtorEq]
        by_cases e : d.2.1 = 0
        · rw [if_pos e, decide_eq_true e]
          by_cases e2 : d.2.2.1 = 0
          · rw [if_pos e2, decide_eq_true e2]; simp only [Bool.not_true, Bool.not_false, cond_true, cond_false, Bool.true_and, Bool.false_and, Bool.and_true, Bool.and_false, Bool.false_eq_true, Bool.true_or, Bool.or_true, Bool.false_or, Bool.or_false, Bool.or_self, Bool.and_self, decide_true, decide_false, if_true, if_false, not_true, not_false_eq_true, not_true_eq_false, false_or, or_false, true_and, and_true, Bool.not_eq_true, Bool.true_eq_false, reduceCtorEq]
          · rw [if_neg e2, decide_eq_false e2]; simp only [Bool.not_true, Bool.not_false, cond_true, cond_false, Bool.true_and, Bool.false_and, Bool.and_true, Bool.and_false, Bool.false_eq_true, Bool.true_or, Bool.or_true, Bool.false_or, Bool.or_false, Bool.or_self, Bool.and_self, decide_true, decide_false, if_true, if_false, not_true, not_false_eq_true, not_true_eq_false, false_or, or_false, true_and, and_true, Bool.not_eq_true, Bool.true_eq_false, reduceCtorEq]
        · rw [if_neg e, decide_eq_false e]; simp only [Bool.not_true, Bool.not_false, cond_true, cond_false, Bool.true_and, Bool.false_and, Bool.and_true, Bool.and_false, Bool.false_eq_true, Bool.true_or, Bool.or_true, Bool.false_or, Bool.or_false, Bool.or_self, Bool.and_self, decide_true, decide_false, if_true, if_false, not_true, not_false_eq_true, not_true_eq_false, false_or, or_false, true_and, and_true, Bool.not_eq_true, Bool.true_eq_false, reduceCtorEq]
theorem makeD_eq (k : Nat) (t : Int) (n : List Int) (hn : n.length ≤ 3) : impl_makeDesign.f k t n = some (t, (n ++ [0, 0, 0]).getD 0 0, (n ++ [0, 0, 0]).getD 1 0, (n ++ [0, 0, 0]).getD 2 0) := by
  unfold impl_makeDesign.f impl_makeDesign.m
  rw [cloneI_eq k n (by omega)]; simp only [Option.bind_some]
  rw [app_ok (by simp; omega)]; simp only [Option.bind_some]
  have h3 : 3 ≤ (n ++ [0, 0, 0]).length := by simp
  rw [chk_int (i := 0) (by omega), chk_int (i := 1) (by omega), chk_int (i := 2) (by omega)]
  rfl
theorem implValid_eq (k : Nat) (d : Dz) : impl_Design_isValid.f k d.1 d.2.1 d.2.2.1 d.2.2.2 = some (okD d) := by
  obtain ⟨t, a, b, c⟩ := d
  unfold impl_Design_isValid.f impl_Design_isValid.m impl_Design_numbers.f impl_Design_numbers.m okD
  rw [implIn_eq, isSide_eq, isSide_eq, isColor_eq, isColor_eq]; simp only [Option.bind_some]
  by_cases h1 : t = 1
  · subst h1
    have hm := makeD_eq k 1 [a, b, c] (by simp)
    simp only [inB_of (show (1 : Int) ≤ 1 ∧ (1 : Int) ≤ 9 by omega), if_true, Bool.not_true, cond_false, Option.bind_some, hm]
    simp
    cases inB a 1 8 <;> cases inB b 1 8 <;> simp
  · by_cases h2 : t = 6
    · subst h2
      have hm := makeD_eq k 6 [a] (by simp)
      simp only [inB_of (show (1 : Int) ≤ 6 ∧ (6 : Int) ≤ 9 by omega), if_neg h1, if_true, Bool.not_true, cond_false, Option.bind_some, hm]
      simp
      by_cases e1 : b = 0 <;> by_cases e2 : c = 0 <;> simp [e1, e2]
    · by_cases h3 : t = 9
      · subst h3
        have hm := makeD_eq k 9 [a, b] (by simp)
        simp only [inB_of (show (1 : Int) ≤ 9 ∧ (9 : Int) ≤ 9 by omega), if_neg h1, if_neg h2, if_true, Bool.not_true, cond_false, Option.bind_some, hm]
        simp
        by_cases e2 : c = 0 <;> cases inB a 1 8 <;> cases inB b 1 8 <;> simp [e2]
      · have hm := makeD_eq k t [] (by simp)
        simp only [h1, h2, h3, if_false, Option.bind_some, hm]
        cases inB t 1 9
        · rfl
        · simp
          by_cases e1 : a = 0 <;> by_cases e2 : b = 0 <;> by_cases e3 : c = 0 <;> simp [e1, e2, e3]
noncomputable def topR (c : Ch) (d : Dz) : Cq :=
  if d.1 = 2 then (c.2.1, c.1, turnL c.1 c.2.1 c.2.2, true) else if d.1 = 3 then (c.1, c.2.1, mirrL c.1 c.2.1 c.2.2, true) else if d.1 = 6 then bordOut c.1 c.2.1 c.2.2 [d.2.1] else repOut c.1 c.2.1 c.2.2 d.2.1 d.2.2.1
theorem gC_len {c : Ch} (h : gC c) : c.2.2.length ≤ 64 := okC_len (good_ok h)
theorem specTop_eq (k : Nat) (c : Ch) (d : Dz) (hc : gC c) (hk : 5000000 ≤ k) : spec_l9Top.f k c.1 c.2.1 c.2.2 d.1 d.2.1 d.2.2.1 d.2.2.2 = some (topR c d) := by
  have hl := gC_len hc
  unfold spec_l9Top.f spec_l9Top.m topR
  by_cases h1 : d.1 = 2
  · rw [if_pos h1, if_pos h1, specTurn_eq (good_ok hc) k (by omega)]; rfl
  · rw [if_neg h1, if_neg h1]
    by_cases h2 : d.1 = 3
    · rw [if_pos h2, if_pos h2, specMirr_eq (good_ok hc) k (by omega)]; rfl
    · rw [if_neg h2, if_neg h2]
      by_cases h3 : d.1 = 6
      · rw [if_pos h3, if_pos h3, (addBorder_eq k _ _ _ _ (by omega) (by simp) hk).1]; rfl
      · rw [if_neg h3, if_neg h3, specRep_eq k _ _ _ _ _ (by omega) (by omega)]; rfl
theorem implTop_eq (k : Nat) (c : Ch) (d : Dz) (hc : gC c) (hk : 5000000 ≤ k) : impl_Design_one.f k d.1 d.2.1 d.2.2.1 d.2.2.2 c.1 c.2.1 c.2.2 = some (topR c d) := by
  have hl := gC_len hc
  unfold impl_Design_one.f impl_Design_one.m topR
  by_cases h1 : d.1 = 2
  · rw [if_pos h1, if_pos h1, implTurn_eq (good_ok hc) k (by omega)]; rfl
  · rw [if_neg h1, if_neg h1]
    by_cases h2 : d.1 = 3
    · rw [if_pos h2, if_pos h2, implMirr_eq (good_ok hc) k (by omega)]; rfl
    · rw [if_neg h2, if_neg h2]
      by_cases h3 : d.1 = 6
      · rw [if_pos h3, if_pos h3, (addBorder_eq k _ _ _ _ (by omega) (by simp) hk).2]; rfl
      · rw [if_neg h3, if_neg h3, implRep_eq k _ _ _ _ _ (by omega) (by omega)]; rfl
/-! ### Two charts joined -/
def joinC (a b : Ch) (bl : Bool) : Bool := if bl = true then decide (a.1 = b.1) && decide (a.2.1 + b.2.1 ≤ 8) else decide (a.2.1 = b.2.1) && decide (a.1 + b.1 ≤ 8)
def joinR (a b : Ch) (bl : Bool) : Cq := if joinC a b bl = true then (if bl = true then (a.1, a.2.1 + b.2.1, a.2.2 ++ b.2.2, true) else (a.1 + b.1, a.2.1, besideL a.1.toNat b.1.toNat a.2.1.toNat a.2.2 b.2.2, true)) else (0, 0, [], false)
theorem chN {c : Ch} (hc : gC c) : ∃ (w h : Nat) (l : List Int), c = ((w : Int), (h : Int), l) ∧ (1 ≤ w ∧ w ≤ 8) ∧ (1 ≤ h ∧ h ≤ 8) ∧ l.length = w * h ∧ ∀ x ∈ l, 0 ≤ x ∧ x ≤ 5 := by
  obtain ⟨w, h, l⟩ := c
  obtain ⟨hw, hh, hl, hx⟩ := good_of hc
  dsimp only at *
  obtain ⟨w, rfl⟩ := Int.eq_ofNat_of_zero_le (show 0 ≤ w by omega)
  obtain ⟨h, rfl⟩ := Int.eq_ofNat_of_zero_le (show 0 ≤ h by omega)
  exact ⟨w, h, l, rfl, by omega, by omega, lenN hl, hx⟩
theorem gC_of {w h : Nat} {l : List Int} (hw : 1 ≤ w ∧ w ≤ 8) (hh : 1 ≤ h ∧ h ≤ 8) (hl : l.length = w * h) (hx : ∀ x ∈ l, 0 ≤ x ∧ x ≤ 5) : gC ((w : Int), (h : Int), l) := by
  unfold gC goodB
  dsimp only
  rw [inB_of (by omega), inB_of (by omega), hl]
  simp only [Bool.true_and, Bool.and_eq_true, decide_eq_true_eq, List.all_eq_true]
  exact ⟨nat_mul_cast w h, fun x h => inB_of (hx x h)⟩
theorem specJoin_eq (k : Nat) (a b : Ch) (bl : Bool) (ha : gC a) (hb : gC b) (hk : 1000 ≤ k) : spec_l9Join.f k a.1 a.2.1 a.2.2 b.1 b.2.1 b.2.2 bl = some (joinR a b bl) := by
  obtain ⟨w, h, l, rfl, hw, hh, hl, hx⟩ := chN ha
  obtain ⟨W, H, m, rfl, hW, hH, hm, hy⟩ := chN hb
  unfold spec_l9Join.f spec_l9Join.m joinR joinC
  cases bl
  · simp only [cond_false, Bool.false_eq_true, if_false]
    rw [w64_id (by omega), blank_all]; simp only [Option.bind_some]
    by_cases h1 : w + W ≤ 8
    · rw [if_pos (by omega)]; simp only [Bool.not_true, cond_false]
      by_cases h2 : h = H
      · subst h2
        rw [if_neg (fun hn => hn rfl), decide_eq_true rfl, decide_eq_true (show (w : Int) + W ≤ 8 by omega)]
        simp only [Bool.and_self, if_true, Int.toNat_natCast]
        rw [show (w : Int) + (W : Int) = ((w + W : Nat) : Int) by omega]
        have er : (((w + W : Nat) : Int) * (h : Int)).toNat = (w + W) * h := by rw [← nat_mul_cast, Int.toNat_natCast]
        rw [er]
        have q1 := specPut0 (R := 0) (C := 0) (show w + W ≤ 8 by omega) hh.2 (rep_len (n := (w + W) * h) rfl) hl (by omega) (by omega) hw.1 k (by omega)
        have l1 : (putR (w + W) 0 0 w l h 0 (List.replicate ((w + W) * h) 0)).length = (w + W) * h := putR_len (w + W) h 0 0 w h l hl (by omega) h 0 _ (by omega) (by omega) (rep_len rfl)
        have q2 := specPut0 (R := 0) (C := w) (show w + W ≤ 8 by omega) hh.2 l1 hm (by omega) (by omega) hW.1 k (by omega)
        rw [show ((0 : Nat) : Int) = 0 from rfl] at q1 q2
        rw [q1]; simp only [Option.bind_some]
        rw [q2, beside_put hw.1 hW.1 hl hm]; rfl
      · rw [if_pos (by omega), decide_eq_false (show ¬ (h : Int) = H by omega)]; rfl
    · rw [if_neg (by omega), decide_eq_false (show ¬ (w : Int) + W ≤ 8 by omega)]; simp
  · simp only [cond_true, if_true]
    rw [w64_id (by omega), blank_all]; simp only [Option.bind_some]
    by_cases h1 : h + H ≤ 8
    · rw [if_pos (by omega)]; simp only [Bool.not_true, cond_false]
      by_cases h2 : w = W
      · subst h2
        rw [if_neg (fun hn => hn rfl), decide_eq_true rfl, decide_eq_true (show (h : Int) + H ≤ 8 by omega)]
        simp only [Bool.and_self, if_true]
        rw [show (h : Int) + (H : Int) = ((h + H : Nat) : Int) by omega]
        have er : ((w : Int) * ((h + H : Nat) : Int)).toNat = w * (h + H) := by rw [← nat_mul_cast, Int.toNat_natCast]
        rw [er]
        have q1 := specPut0 (R := 0) (C := 0) hw.2 (show h + H ≤ 8 by omega) (rep_len (n := w * (h + H)) rfl) hl (by omega) (by omega) hw.1 k (by omega)
        have l1 : (putR w 0 0 w l h 0 (List.replicate (w * (h + H)) 0)).length = w * (h + H) := putR_len w (h + H) 0 0 w h l hl (by omega) h 0 _ (by omega) (by omega) (rep_len rfl)
        have q2 := specPut0 (R := h) (C := 0) hw.2 (show h + H ≤ 8 by omega) l1 hm (by omega) (by omega) hW.1 k (by omega)
        rw [show ((0 : Nat) : Int) = 0 from rfl] at q1 q2
        rw [q1]; simp only [Option.bind_some]
        rw [q2, below_put hw.1 hl hm]; rfl
      · rw [if_pos (by omega), decide_eq_false (show ¬ (w : Int) = W by omega)]; rfl
    · rw [if_neg (by omega), decide_eq_false (show ¬ (h : Int) + H ≤ 8 by omega)]; simp
theorem implBeside_eq (k : Nat) (a b : Ch) (ha : gC a) (hb : gC b) (hk : 1000 ≤ k) : impl_beside.f k a.1 a.2.1 a.2.2 b.1 b.2.1 b.2.2 = some (joinR a b false) := by
  obtain ⟨w, h, l, rfl, hw, hh, hl, hx⟩ := chN ha
  obtain ⟨W, H, m, rfl, hW, hH, hm, hy⟩ := chN hb
  unfold impl_beside.f impl_beside.m joinR joinC
  simp only [Bool.false_eq_true, if_false]
  by_cases h2 : h = H
  · subst h2
    rw [if_neg (fun hn => hn rfl), decide_eq_true rfl, isSide_eq, w64_id (by omega)]; simp only [Option.bind_some, Bool.true_and]
    by_cases h1 : w + W ≤ 8
    · rw [inB_of (by omega), decide_eq_true (show (w : Int) + W ≤ 8 by omega)]; simp only [Bool.not_true, cond_false, if_true, Int.toNat_natCast]
      rw [show (w : Int) + (W : Int) = ((w + W : Nat) : Int) by omega]
      have hgr := grid_loop (fun k row acc => impl_makeChart__impl_beside_1.l4 k ((w + W : Nat) : Int) (w : Int) (h : Int) l (W : Int) (h : Int) m 0 0 [] ((w + W : Nat) : Int) (h : Int) acc (h : Int) row) (fun k row col acc => impl_makeChart__impl_beside_1.l10 k ((w + W : Nat) : Int) (w : Int) (h : Int) l (W : Int) (h : Int) m 0 0 [] ((w + W : Nat) : Int) (h : Int) acc row (h : Int) row ((w + W : Nat) : Int) col) (fun acc => some (((w + W : Nat) : Int), (h : Int), acc)) (w + W) h (by omega) (by omega)
        (fun k row col => impl_beside_1.f k row col w h l W h m) (fun r c => if c < w then l.getD (r * w + c) 0 else m.getD (r * W + (c - w)) 0)
        (fun k row acc => by simp only [impl_makeChart__impl_beside_1.l4, impl_makeChart__impl_beside_1.b4]) (fun k row col acc => by simp only [impl_makeChart__impl_beside_1.l10, impl_makeChart__impl_beside_1.b10])
        (fun k r c hr hc => by
          unfold impl_beside_1.f impl_beside_1.m
          by_cases e : c < w
          · rw [if_pos (by omega), if_pos e, iatN k hw hh hl hr e]; rfl
          · rw [if_neg (by omega), if_neg e, w64_id (by omega), show (c : Int) - (w : Int) = ((c - w : Nat) : Int) by omega, iatN k hW hh hm hr (by omega)]; rfl) k (Nat.le_trans (Nat.mul_le_mul (show h + 1 ≤ 9 by omega) (show w + W + 2 ≤ 10 by omega)) (by omega))
      unfold impl_makeChart__impl_beside_1.f impl_makeChart__impl_beside_1.m
      rw [hgr]; rfl
    · rw [notB (b := inB ((w : Int) + W) 1 8) (fun hn => h1 (by have := inB_iff.1 hn; omega)), decide_eq_false (show ¬ (w : Int) + W ≤ 8 by omega)]; simp
  · rw [if_pos (by omega), decide_eq_false (show ¬ (h : Int) = H by omega)]; rfl
theorem grow_eq (k : Nat) (n : Int) (hn : 0 ≤ n ∧ n ≤ 100000) : slices_Grow_int_int.f k n = some [] := by
  unfold slices_Grow_int_int.f slices_Grow_int_int.m
  rw [if_neg (by omega), w64_id (x := (0 : Int) - 0) (by omega), w64_id (x := n - (0 - 0)) (by omega)]
  by_cases e : 0 < n - (0 - 0)
  · rw [if_pos e, cutTo_int (by omega)]; simp only [Option.bind_some]
    unfold zer
    rw [if_pos (by omega)]; simp only [Option.bind_some]
    rw [cutTo_int (by omega)]; rfl
  · rw [if_neg e]
theorem concat_eq (k : Nat) (a b : List Int) (ha : a.length ≤ 1000) (hb : b.length ≤ 1000) (hk : 100 ≤ k) : slices_Concat_int_int.f k [a, b] = some (a ++ b) := by
  obtain ⟨k, rfl⟩ : ∃ j, k = j + 10 := ⟨k - 10, by omega⟩
  unfold slices_Concat_int_int.f slices_Concat_int_int.m
  rw [show (([a, b] : List (List Int)).length : Int) = 2 from rfl]
  rw [show k + 10 = (k + 9) + 1 from rfl]
  simp only [slices_Concat_int_int.l4, slices_Concat_int_int.b4]
  rw [if_pos (by omega), chk_int (by simp)]; simp only [Option.bind_some]
  rw [show ([a, b] : List (List Int)).getD (Int.toNat 0) [] = a from rfl, w64_id (x := (0 : Int) + (a.length : Int)) (by omega), if_neg (by omega), w64_id (x := (0 : Int) + 1) (by omega), if_pos (by omega), chk_int (by simp)]; simp only [Option.bind_some]
  rw [show ([a, b] : List (List Int)).getD (Int.toNat (0 + 1)) [] = b from rfl, w64_id (x := (0 : Int) + (a.length : Int) + (b.length : Int)) (by omega), if_neg (by omega), w64_id (x := (0 : Int) + 1 + 1) (by omega), if_neg (by omega), grow_eq _ _ (by omega)]; simp only [Option.bind_some]
  simp only [slices_Concat_int_int.l14, slices_Concat_int_int.b14]
  rw [show (([a, b] : List (List Int)).length : Int) = 2 from rfl, if_pos (by omega), chk_int (by simp)]; simp only [Option.bind_some]
  rw [show ([a, b] : List (List Int)).getD (Int.toNat 0) [] = a from rfl, app_ok (by simp; omega)]; simp only [Option.bind_some]
  rw [w64_id (x := (0 : Int) + 1) (by omega), if_pos (by omega), chk_int (by simp)]; simp only [Option.bind_some]
  rw [show ([a, b] : List (List Int)).getD (Int.toNat (0 + 1)) [] = b from rfl, app_ok (by simp; omega)]; simp only [Option.bind_some]
  rw [w64_id (x := (0 : Int) + 1 + 1) (by omega), if_neg (by omega), List.nil_append]
theorem implBelow_eq (k : Nat) (a b : Ch) (ha : gC a) (hb : gC b) (hk : 1000 ≤ k) : impl_below.f k a.1 a.2.1 a.2.2 b.1 b.2.1 b.2.2 = some (joinR a b true) := by
  have la := gC_len ha
  have lb := gC_len hb
  obtain ⟨w, h, l, rfl, hw, hh, hl, hx⟩ := chN ha
  obtain ⟨W, H, m, rfl, hW, hH, hm, hy⟩ := chN hb
  dsimp only at la lb
  unfold impl_below.f impl_below.m joinR joinC
  simp only [if_true]
  by_cases h2 : w = W
  · subst h2
    rw [if_neg (fun hn => hn rfl), decide_eq_true rfl, isSide_eq, w64_id (by omega)]; simp only [Option.bind_some, Bool.true_and]
    by_cases h1 : h + H ≤ 8
    · rw [inB_of (by omega), decide_eq_true (show (h : Int) + H ≤ 8 by omega)]; simp only [Bool.not_true, cond_false, if_true]
      rw [concat_eq k l m (by omega) (by omega) (by omega)]; rfl
    · rw [notB (b := inB ((h : Int) + H) 1 8) (fun hn => h1 (by have := inB_iff.1 hn; omega)), decide_eq_false (show ¬ (h : Int) + H ≤ 8 by omega)]; simp
  · rw [if_pos (by omega), decide_eq_false (show ¬ (w : Int) = W by omega)]; rfl
def cut3C (r : Cq) : Ch := (r.1, r.2.1, r.2.2.1)
/-- The stack after a step, or nothing if it fails. -/
noncomputable def doR (st : List Ch) (d : Dz) : Option (List Ch) :=
  if d.1 = 1 then (if st.length < 4 then some (st ++ [(d.2.1, d.2.2.1, List.replicate (d.2.2.1.toNat * d.2.1.toNat) d.2.2.2)]) else none)
  else if d.1 = 7 then (if 1 ≤ st.length ∧ st.length < 4 then some (st ++ [st.getD (st.length - 1) (0, 0, [])]) else none)
  else if d.1 = 4 ∨ d.1 = 5 ∨ d.1 = 8 then
    (if 2 ≤ st.length then
      (if d.1 = 8 then some (st.take (st.length - 2) ++ [st.getD (st.length - 1) (0, 0, []), st.getD (st.length - 2) (0, 0, [])])
      else if (joinR (st.getD (st.length - 2) (0, 0, [])) (st.getD (st.length - 1) (0, 0, [])) (decide (d.1 = 5))).2.2.2 = true then some (st.take (st.length - 2) ++ [cut3C (joinR (st.getD (st.length - 2) (0, 0, [])) (st.getD (st.length - 1) (0, 0, [])) (decide (d.1 = 5)))]) else none)
    else none)
  else (if 1 ≤ st.length then (if (topR (st.getD (st.length - 1) (0, 0, [])) d).2.2.2 = true then some (st.take (st.length - 1) ++ [cut3C (topR (st.getD (st.length - 1) (0, 0, [])) d)]) else none) else none)
def goodS (st : List Ch) : Prop := st.length ≤ 4 ∧ ∀ c ∈ st, gC c
theorem goodS_get {st : List Ch} (h : goodS st) {i : Nat} (hi : i < st.length) : gC (st.getD i (0, 0, [])) := by rw [getD_lt hi]; exact h.2 _ (List.getElem_mem hi)
/-- What a step is told to be. -/
def saysO (o : Option (List Ch)) (f : Option (List Ch × Bool)) : Prop := ∃ x b, f = some (x, b) ∧ o = if b = true then some x else none
theorem says_some {x : List Ch} : saysO (some x) (some (x, true)) := ⟨x, true, rfl, rfl⟩
theorem says_none {x : List Ch} : saysO none (some (x, false)) := ⟨x, false, rfl, rfl⟩
theorem says_if {x : List Ch} {b : Bool} : saysO (if b = true then some x else none) (some (x, b)) := ⟨x, b, rfl, rfl⟩
theorem okD_plain {d : Dz} (h : okD d = true) (e : d.1 = 1) : inB d.2.1 1 8 = true ∧ inB d.2.2.1 1 8 = true ∧ colorB d.2.2.2 = true := by
  unfold okD at h
  rw [if_pos e] at h
  simp only [Bool.and_eq_true] at h
  exact ⟨h.1.1, h.1.2, h.2⟩
theorem set_last {β : Type} {l : List β} {x : β} (h : 1 ≤ l.length) : l.set (l.length - 1) x = l.take (l.length - 1) ++ [x] := by
  apply List.ext_getElem?
  intro i
  rw [List.getElem?_set]
  by_cases e : l.length - 1 = i
  · subst e
    rw [if_pos rfl, if_pos (by omega), List.getElem?_append_right (by rw [List.length_take]; omega), List.length_take, Nat.min_eq_left (by omega), Nat.sub_self]; rfl
  · rw [if_neg e]
    by_cases e2 : i < l.length - 1
    · rw [List.getElem?_append_left (by rw [List.length_take]; omega), List.getElem?_take_of_lt e2]
    · rw [List.getElem?_eq_none (by omega), List.getElem?_eq_none (by rw [List.length_append, List.length_take, List.length_singleton]; omega)]
theorem specTwo_eq (k : Nat) (st : List Ch) (d : Dz) (hs : goodS st) (hd : d.1 = 4 ∨ d.1 = 5 ∨ d.1 = 8) (hk : 5000000 ≤ k) : saysO (doR st d) (spec_l9Two.f k st d.1 d.2.1 d.2.2.1 d.2.2.2) ∧ ∀ x, spec_l9Two.f k st d.1 d.2.1 d.2.2.1 d.2.2.2 = some (x, true) → x.length ≤ 4 := by
  have hl := hs.1
  unfold spec_l9Two.f spec_l9Two.m doR
  rw [if_neg (show ¬ d.1 = 1 by omega), if_neg (show ¬ d.1 = 7 by omega), if_pos hd]
  by_cases h2 : 2 ≤ st.length
  · have hlen : (st.take (st.length - 2)).length = st.length - 2 := by rw [List.length_take]; omega
    rw [if_pos h2, if_neg (show ¬ (st.length : Int) < 2 by omega), w64_id (x := (st.length : Int) - 2) (by omega), w64_id (x := (st.length : Int) - 1) (by omega), show (st.length : Int) - 2 = ((st.length - 2 : Nat) : Int) by omega, show (st.length : Int) - 1 = ((st.length - 1 : Nat) : Int) by omega, chk_nat (by omega), chk_nat (by omega), cutTo_int (by omega)]
    simp only [Option.bind_some, Int.toNat_natCast]
    rw [app_ok (by simp; omega), List.nil_append]; simp only [Option.bind_some]
    by_cases h8 : d.1 = 8
    · rw [if_pos h8, if_pos h8, app_ok (by simp; omega)]
      refine ⟨says_some, fun x hx => ?_⟩
      injection hx with hx; injection hx with hx _; subst hx
      rw [List.length_append, hlen]; simp; omega
    · rw [if_neg h8, if_neg h8, specJoin_eq k _ _ _ (goodS_get hs (by omega)) (goodS_get hs (by omega)) (by omega)]; simp only [Option.bind_some]
      rw [app_ok (by simp; omega)]
      refine ⟨says_if, fun x hx => ?_⟩
      injection hx with hx; injection hx with hx _; subst hx
      rw [List.length_append, hlen]; simp; omega
  · rw [if_neg h2, if_pos (by omega)]
    exact ⟨says_none, fun x hx => by injection hx with hx; injection hx with _ hx; cases hx⟩
theorem specDo_eq (k : Nat) (st : List Ch) (d : Dz) (hs : goodS st) (hd : okD d = true) (hk : 5000001 ≤ k) : saysO (doR st d) (spec_l9Do.f k st d.1 d.2.1 d.2.2.1 d.2.2.2) := by
  have hl := hs.1
  obtain ⟨k, rfl⟩ := succ_of (show 0 < k by omega)
  unfold spec_l9Do.f spec_l9Do.m
  rw [app_ok (by simp; omega), List.nil_append]; simp only [Option.bind_some]
  by_cases h1 : d.1 = 1
  · obtain ⟨p1, p2, p3⟩ := okD_plain hd h1
    rw [if_pos h1, (plainChart_eq (k + 1) _ _ _ (by omega)).2]; simp only [Option.bind_some]
    unfold plainOut
    rw [if_pos ⟨p1, p2, p3⟩, app_ok (by simp; omega)]; simp only [Option.bind_some]
    simp only [spec_l9Do.l3, spec_l9Do.b3, cond_true]
    unfold doR
    rw [if_pos h1]
    refine ⟨_, _, rfl, ?_⟩
    by_cases h4 : st.length < 4
    · rw [if_pos h4, if_pos (decide_eq_true (by rw [List.length_append, List.length_singleton]; omega))]
    · rw [if_neg h4, if_neg (by rw [List.length_append, List.length_singleton]; simp; omega)]
  · rw [if_neg h1]
    have two : (d.1 = 4 ∨ d.1 = 5 ∨ d.1 = 8) → saysO (doR st d) (spec_l9Do.l7 (k + 1) st d.1 d.2.1 d.2.2.1 d.2.2.2 st true (st.length : Int) true) := fun hd3 => by
      obtain ⟨⟨x, b, e1, e2⟩, e3⟩ := specTwo_eq k st d hs hd3 (by omega)
      simp only [spec_l9Do.l7, spec_l9Do.b7, cond_true]
      rw [e1]; simp only [Option.bind_some]
      obtain ⟨k, rfl⟩ := succ_of (show 0 < k by omega)
      simp only [spec_l9Do.l3, spec_l9Do.b3]
      cases b
      · simp only [cond_false]; rw [e2]; exact says_none
      · simp only [cond_true]; rw [e2, decide_eq_true (by have := e3 x e1; omega)]; exact says_some
    have rest : ¬ (d.1 = 4 ∨ d.1 = 5 ∨ d.1 = 8) → saysO (doR st d) (spec_l9Do.l7 (k + 1) st d.1 d.2.1 d.2.2.1 d.2.2.2 st true (st.length : Int) false) := fun hd3 => by
      simp only [spec_l9Do.l7, spec_l9Do.b7, cond_false]
      unfold doR
      rw [if_neg h1, if_neg hd3]
      by_cases h0 : st.length = 0
      · rw [if_pos (show (st.length : Int) = 0 by omega)]
        by_cases h7 : d.1 = 7
        · rw [if_pos h7, if_neg (show ¬ (1 ≤ st.length ∧ st.length < 4) by omega)]; exact says_none
        · rw [if_neg h7, if_neg (show ¬ 1 ≤ st.length by omega)]; exact says_none
      · rw [if_neg (show ¬ (st.length : Int) = 0 by omega), w64_id (x := (st.length : Int) - 1) (by omega), show (st.length : Int) - 1 = ((st.length - 1 : Nat) : Int) by omega, chk_nat (by omega)]; simp only [Option.bind_some]
        obtain ⟨k, rfl⟩ := succ_of (show 0 < k by omega)
        by_cases h7 : d.1 = 7
        · rw [if_pos h7, if_pos h7, app_ok (by simp; omega)]; simp only [Option.bind_some, spec_l9Do.l3, spec_l9Do.b3, cond_true]
          refine ⟨_, _, rfl, ?_⟩
          by_cases h4 : st.length < 4
          · rw [if_pos ⟨by omega, h4⟩, if_pos (decide_eq_true (by rw [List.length_append, List.length_singleton]; omega))]
          · rw [if_neg (show ¬ (1 ≤ st.length ∧ st.length < 4) by omega), if_neg (by rw [List.length_append, List.length_singleton]; simp; omega)]
        · rw [if_neg h7, if_neg h7, if_pos (show 1 ≤ st.length by omega), specTop_eq (k + 1) _ d (goodS_get hs (by omega)) (by omega)]; simp only [Option.bind_some, spec_l9Do.l3, spec_l9Do.b3]
          rw [upd_of, set_last (by omega)]
          cases e : (topR (st.getD (st.length - 1) (0, 0, [])) d).2.2.2
          · simp only [cond_false]; rw [if_neg (by simp)]; exact says_none
          · simp only [cond_true]
            rw [if_pos trivial, decide_eq_true (by rw [List.length_append, List.length_take, List.length_singleton]; omega)]
            exact says_some
    by_cases h4 : d.1 = 4
    · rw [if_pos h4, decide_eq_true h4]; exact two (.inl h4)
    · rw [if_neg h4]
      by_cases h5 : d.1 = 5
      · rw [if_pos h5, decide_eq_true h5]; exact two (.inr (.inl h5))
      · rw [if_neg h5]
        by_cases h8 : d.1 = 8
        · rw [decide_eq_true h8]; exact two (.inr (.inr h8))
        · rw [decide_eq_false h8]; exact rest (by omega)
theorem implRun_eq (k : Nat) (st : List Ch) (d : Dz) (hs : goodS st) (hd : okD d = true) (hk : 5000001 ≤ k) : saysO (doR st d) (impl_Design_run.f k d.1 d.2.1 d.2.2.1 d.2.2.2 st) := by
  have hl := hs.1
  have clone : ∀ (k : Nat) (l : List Ch), l.length ≤ 4 → slices_Clone_impl_Chart_impl_Chart.f k l = some l := fun k l h => by
    unfold slices_Clone_impl_Chart_impl_Chart.f; rw [app_ok (by simp; omega), List.nil_append]
  obtain ⟨k, rfl⟩ := succ_of (show 0 < k by omega)
  unfold impl_Design_run.f impl_Design_run.m
  by_cases h1 : d.1 = 1
  · obtain ⟨p1, p2, p3⟩ := okD_plain hd h1
    rw [if_pos h1, (plainChart_eq (k + 1) _ _ _ (by omega)).1, clone _ st hl]; simp only [Option.bind_some]
    unfold plainOut
    rw [if_pos ⟨p1, p2, p3⟩, app_ok (by simp; omega)]; simp only [Option.bind_some]
    unfold doR
    rw [if_pos h1]
    by_cases h4 : st.length < 4
    · rw [if_pos h4, decide_eq_true (show (st.length : Int) < 4 by omega)]; exact says_some
    · rw [if_neg h4, decide_eq_false (show ¬ (st.length : Int) < 4 by omega)]; exact says_none
  · rw [if_neg h1]
    by_cases h7 : d.1 = 7
    · rw [if_pos h7]
      unfold doR
      rw [if_neg h1, if_pos h7]
      by_cases h0 : st.length = 0
      · rw [if_pos (show (st.length : Int) = 0 by omega), if_neg (show ¬ (1 ≤ st.length ∧ st.length < 4) by omega)]; exact says_none
      · rw [if_neg (show ¬ (st.length : Int) = 0 by omega)]
        by_cases h4 : st.length = 4
        · rw [if_pos (show (st.length : Int) = 4 by omega), if_neg (show ¬ (1 ≤ st.length ∧ st.length < 4) by omega)]; exact says_none
        · have hg := goodS_get hs (show st.length - 1 < st.length by omega)
          rw [if_neg (show ¬ (st.length : Int) = 4 by omega), if_pos (show 1 ≤ st.length ∧ st.length < 4 by omega), clone _ st hl]; simp only [Option.bind_some]
          rw [w64_id (x := (st.length : Int) - 1) (by omega), show (st.length : Int) - 1 = ((st.length - 1 : Nat) : Int) by omega, chk_nat (by omega)]; simp only [Option.bind_some]
          rw [copied_eq _ _ _ _ (by have := gC_len hg; omega)]; simp only [Option.bind_some]
          rw [app_ok (by simp; omega)]
          exact says_some
    · rw [if_neg h7]
      have two : (d.1 = 4 ∨ d.1 = 5 ∨ d.1 = 8) → saysO (doR st d) (impl_Design_run.l12 (k + 1) st d.1 d.2.1 d.2.2.1 d.2.2.2 (st.length : Int) true) := fun hd3 => by
        simp only [impl_Design_run.l12, impl_Design_run.b12, cond_true]
        unfold doR
        rw [if_neg h1, if_neg h7, if_pos hd3]
        by_cases h2 : 2 ≤ st.length
        · have ga := goodS_get hs (show st.length - 2 < st.length by omega)
          have gb := goodS_get hs (show st.length - 1 < st.length by omega)
          rw [if_pos h2, if_neg (show ¬ (st.length : Int) < 2 by omega), w64_id (x := (st.length : Int) - 2) (by omega), w64_id (x := (st.length : Int) - 1) (by omega), show (st.length : Int) - 2 = ((st.length - 2 : Nat) : Int) by omega, show (st.length : Int) - 1 = ((st.length - 1 : Nat) : Int) by omega, chk_nat (by omega), chk_nat (by omega), cutTo_int (by omega)]
          simp only [Option.bind_some, Int.toNat_natCast]
          unfold impl_Design_two.f impl_Design_two.m
          have hlen : (st.take (st.length - 2)).length = st.length - 2 := by rw [List.length_take]; omega
          by_cases h4 : d.1 = 4
          · rw [if_pos h4, if_neg (show ¬ d.1 = 8 by omega), implBeside_eq k _ _ ga gb (by omega), clone _ _ (by omega), decide_eq_false (show ¬ d.1 = 5 by omega)]; simp only [Option.bind_some]
            rw [app_ok (by simp; omega)]
            exact says_if
          · rw [if_neg h4]
            by_cases h5 : d.1 = 5
            · rw [if_pos h5, if_neg (show ¬ d.1 = 8 by omega), implBelow_eq k _ _ ga gb (by omega), clone _ _ (by omega), decide_eq_true h5]; simp only [Option.bind_some]
              rw [app_ok (by simp; omega)]
              exact says_if
            · rw [if_neg h5, if_pos (show d.1 = 8 by omega), clone _ _ (by omega)]; simp only [Option.bind_some]
              rw [app_ok (by simp; omega)]
              exact says_some
        · rw [if_neg h2, if_pos (by omega)]; exact says_none
      have rest : ¬ (d.1 = 4 ∨ d.1 = 5 ∨ d.1 = 8) → saysO (doR st d) (impl_Design_run.l12 (k + 1) st d.1 d.2.1 d.2.2.1 d.2.2.2 (st.length : Int) false) := fun hd3 => by
        simp only [impl_Design_run.l12, impl_Design_run.b12, cond_false]
        unfold doR
        rw [if_neg h1, if_neg h7, if_neg hd3]
        by_cases h0 : st.length = 0
        · rw [if_pos (show (st.length : Int) = 0 by omega), if_neg (show ¬ 1 ≤ st.length by omega)]; exact says_none
        · have gb := goodS_get hs (show st.length - 1 < st.length by omega)
          have hlen : (st.take (st.length - 1)).length = st.length - 1 := by rw [List.length_take]; omega
          rw [if_neg (show ¬ (st.length : Int) = 0 by omega), if_pos (show 1 ≤ st.length by omega), w64_id (x := (st.length : Int) - 1) (by omega), show (st.length : Int) - 1 = ((st.length - 1 : Nat) : Int) by omega, chk_nat (by omega), cutTo_int (by omega)]
          simp only [Option.bind_some, Int.toNat_natCast]
          rw [implTop_eq k _ d gb (by omega), clone _ _ (by omega)]; simp only [Option.bind_some]
          rw [app_ok (by simp; omega)]
          exact says_if
      by_cases h4 : d.1 = 4
      · rw [if_pos h4, decide_eq_true h4]; exact two (.inl h4)
      · rw [if_neg h4]
        by_cases h5 : d.1 = 5
        · rw [if_pos h5, decide_eq_true h5]; exact two (.inr (.inl h5))
        · rw [if_neg h5]
          by_cases h8 : d.1 = 8
          · rw [decide_eq_true h8]; exact two (.inr (.inr h8))
          · rw [decide_eq_false h8]; exact rest (by omega)
theorem repL_at {w h x y : Nat} {l : List Int} {r c : Nat} (hr : r < y * h) (hc : c < x * w) : (repL (w : Int) (h : Int) l (x : Int) (y : Int)).getD (r * (x * w) + c) 0 = l.getD (r % h * w + c % w) 0 := by
  unfold repL
  rw [← nat_mul_cast, ← nat_mul_cast, Int.toNat_natCast, Int.toNat_natCast, Int.toNat_natCast, Int.toNat_natCast, grid_at hr hc]
theorem repL_len {w h x y : Nat} {l : List Int} : (repL (w : Int) (h : Int) l (x : Int) (y : Int)).length = (x * w) * (y * h) := by
  unfold repL
  rw [gridL_len, ← nat_mul_cast, ← nat_mul_cast, Int.toNat_natCast, Int.toNat_natCast]
theorem repL_good {w h x y : Nat} {l : List Int} (hg : goodB (w : Int) (h : Int) l = true) (hx : 1 ≤ x ∧ x * w ≤ 8) (hy : 1 ≤ y ∧ y * h ≤ 8) : goodB ((x * w : Nat) : Int) ((y * h : Nat) : Int) (repL (w : Int) (h : Int) l (x : Int) (y : Int)) = true := by
  obtain ⟨hw, hh, hlen, hcol⟩ := good_of hg
  have hl := lenN hlen
  have hx1 : 1 ≤ x * w := Nat.mul_le_mul hx.1 (show 1 ≤ w by omega)
  have hy1 : 1 ≤ y * h := Nat.mul_le_mul hy.1 (show 1 ≤ h by omega)
  unfold goodB
  rw [inB_of (by omega), inB_of (by omega), repL_len]
  simp only [Bool.true_and, Bool.and_eq_true, decide_eq_true_eq, List.all_eq_true]
  refine ⟨by rw [nat_mul_cast], fun q hq => ?_⟩
  unfold repL at hq
  refine inB_of (gridL_all _ _ _ (fun v => 0 ≤ v ∧ v ≤ 5) (fun r c hr hc => ?_) q hq)
  simp only [Int.toNat_natCast]
  exact all_getD (p := fun v => 0 ≤ v ∧ v ≤ 5) hcol (by rw [hl]; exact at_lt (Nat.mod_lt _ (by omega)) (Nat.mod_lt _ (by omega)))
theorem find_any {β : Type} {L : Nat → Nat → Option Int} {xs : List β} {d : β} {K0 : Nat} {ok : β → Bool} (hs : ∀ k i, K0 ≤ k → i < xs.length → L (k + 1) i = if ok (xs.getD i d) = true then some (i : Int) else L k (i + 1)) (he : ∀ k, K0 ≤ k → L (k + 1) xs.length = some (-1)) (k : Nat) (hk : K0 + xs.length < k) : ∃ r, L k 0 = some r ∧ decide (0 ≤ r) = xs.any ok := by
  have h := find_loop (ok := fun i => ok (xs.getD i d)) hs he xs.length k 0 (by omega) hk
  by_cases ha : xs.any ok = true
  · obtain ⟨x, hx, ho⟩ := List.any_eq_true.1 ha
    obtain ⟨j, hj, e⟩ := List.getElem_of_mem hx
    obtain ⟨m, h1, h2, h3⟩ := first_bad (n := xs.length) (ok := fun i => !ok (xs.getD i d)) (fun hn => by
      have := hn j hj
      rw [getD_lt hj, e, ho] at this; cases this)
    refine ⟨_, h.2 m (Nat.zero_le _) h1 (by cases e2 : ok (xs.getD m d) <;> simp_all) (fun j _ hj => by have := h3 j hj; cases e2 : ok (xs.getD j d) <;> simp_all), ?_⟩
    rw [ha]; simp
  · refine ⟨_, h.1 (fun j _ hj => ?_), ?_⟩
    · apply notB
      intro ho
      exact ha (List.any_eq_true.2 ⟨_, by rw [getD_lt hj]; exact List.getElem_mem hj, ho⟩)
    · rw [notB ha]; rfl
theorem col_at {w h r c : Nat} {l : List Int} (hl : l.length = w * h) (hx : ∀ x ∈ l, 0 ≤ x ∧ x ≤ 5) (hr : r < h) (hc : c < w) : 0 ≤ l.getD (r * w + c) 0 ∧ l.getD (r * w + c) 0 ≤ 5 := all_getD (p := fun v => 0 ≤ v ∧ v ≤ 5) hx (by rw [hl]; exact at_lt hr hc)
theorem gC_turn {c : Ch} (hc : gC c) : gC (c.2.1, c.1, turnL c.1 c.2.1 c.2.2) := by
  obtain ⟨w, h, l, rfl, hw, hh, hl, hx⟩ := chN hc
  refine gC_of hh hw (by rw [turnN, gridL_len]) fun x hm => ?_
  rw [turnN] at hm
  refine gridL_all _ _ _ (fun v => 0 ≤ v ∧ v ≤ 5) (fun r c hr hc => ?_) x hm
  unfold atL
  rw [show (h : Int) - 1 - ((c : Nat) : Int) = ((h - 1 - c : Nat) : Int) by omega, ← Int.natCast_mul, ← Int.natCast_add, Int.toNat_natCast]
  exact col_at hl hx (by omega) hr
theorem gC_mirr {c : Ch} (hc : gC c) : gC (c.1, c.2.1, mirrL c.1 c.2.1 c.2.2) := by
  obtain ⟨w, h, l, rfl, hw, hh, hl, hx⟩ := chN hc
  refine gC_of hw hh (by rw [mirrN, gridL_len]) fun x hm => ?_
  rw [mirrN] at hm
  refine gridL_all _ _ _ (fun v => 0 ≤ v ∧ v ≤ 5) (fun r c hr hc => ?_) x hm
  unfold atL
  rw [show (w : Int) - 1 - ((c : Nat) : Int) = ((w - 1 - c : Nat) : Int) by omega, ← Int.natCast_mul, ← Int.natCast_add, Int.toNat_natCast]
  exact col_at hl hx hr (by omega)
theorem gC_bord {w h : Int} {l p : List Int} (hc : bordC w h l p) : gC (w + 2, h + 2, bordL w h l p) := by
  obtain ⟨h1, h2, h3, h4, _⟩ := hc
  obtain ⟨gw, gh, gl, gx⟩ := good_of h1
  have hbl := put_len1 h1 h3 h4
  unfold patB at h2
  rw [Bool.and_eq_true, inB_iff] at h2
  unfold gC goodB
  simp only [Bool.and_eq_true, decide_eq_true_eq, List.all_eq_true, inB_iff]
  unfold bordL
  refine ⟨⟨⟨by omega, by omega⟩, by rw [ringR_len]; exact hbl⟩, fun x hx => ?_⟩
  rcases ringR_mem _ p (by omega) _ _ _ x hx with h | h
  · rcases putR_mem _ _ _ x h with h | h
    · rw [List.eq_of_mem_replicate h]; rfl
    · exact inB_of (gx x h)
  · exact List.all_eq_true.1 h2.1 x h
theorem gC_top {c : Ch} {d : Dz} (hc : gC c) (h : (topR c d).2.2.2 = true) : gC (cut3C (topR c d)) := by
  unfold topR cut3C at *
  by_cases h1 : d.1 = 2
  · rw [if_pos h1] at h ⊢; exact gC_turn hc
  · rw [if_neg h1] at h ⊢
    by_cases h2 : d.1 = 3
    · rw [if_pos h2] at h ⊢; exact gC_mirr hc
    · rw [if_neg h2] at h ⊢
      by_cases h3 : d.1 = 6
      · rw [if_pos h3] at h ⊢
        unfold bordOut at h ⊢
        by_cases hb : bordC c.1 c.2.1 c.2.2 [d.2.1]
        · rw [if_pos hb]; exact gC_bord hb
        · rw [if_neg hb] at h; cases h
      · rw [if_neg h3] at h ⊢
        unfold repOut at h ⊢
        by_cases hb : repC c.1 c.2.1 c.2.2 d.2.1 d.2.2.1
        · rw [if_pos hb]
          obtain ⟨hg, ⟨x1, x2⟩, y1, y2⟩ := hb
          obtain ⟨w, h, l, e, hw, hh, hl, hx⟩ := chN hc
          rw [e] at hg x2 y2 ⊢
          dsimp only at hg x2 y2 ⊢
          obtain ⟨x, ex⟩ := Int.eq_ofNat_of_zero_le (show 0 ≤ d.2.1 by omega)
          obtain ⟨y, ey⟩ := Int.eq_ofNat_of_zero_le (show 0 ≤ d.2.2.1 by omega)
          rw [ex] at x1 x2 ⊢; rw [ey] at y1 y2 ⊢
          rw [← nat_mul_cast] at x2 y2
          have := repL_good hg (show 1 ≤ x ∧ x * w ≤ 8 by omega) (show 1 ≤ y ∧ y * h ≤ 8 by omega)
          unfold gC
          dsimp only
          rw [← nat_mul_cast, ← nat_mul_cast]
          exact this
        · rw [if_neg hb] at h; cases h
theorem gC_join {a b : Ch} {bl : Bool} (ha : gC a) (hb : gC b) (h0 : (joinR a b bl).2.2.2 = true) : gC (cut3C (joinR a b bl)) := by
  obtain ⟨w, h, l, rfl, hw, hh, hl, hx⟩ := chN ha
  obtain ⟨W, H, m, rfl, hW, hH, hm, hy⟩ := chN hb
  unfold joinR at *
  cases hj : joinC ((w : Int), (h : Int), l) ((W : Int), (H : Int), m) bl
  · rw [hj] at h0; simp at h0
  · rw [if_pos rfl]
    unfold joinC at hj
    unfold cut3C
    cases bl
    · simp only [Bool.false_eq_true, if_false, Bool.and_eq_true, decide_eq_true_eq] at hj
      have e1 : h = H := by omega
      subst e1
      simp only [Bool.false_eq_true, if_false, Int.toNat_natCast]
      rw [show (w : Int) + (W : Int) = ((w + W : Nat) : Int) by omega]
      refine gC_of (by omega) hh (by unfold besideL; rw [gridL_len]) fun x hmx => ?_
      unfold besideL at hmx
      refine gridL_all _ _ _ (fun v => 0 ≤ v ∧ v ≤ 5) (fun r c hr hc => ?_) x hmx
      split
      · rename_i hlt; exact col_at hl hx hr hlt
      · exact col_at hm hy hr (by omega)
    · simp only [if_true, Bool.and_eq_true, decide_eq_true_eq] at hj
      have e1 : w = W := by omega
      subst e1
      simp only [if_true]
      rw [show (h : Int) + (H : Int) = ((h + H : Nat) : Int) by omega]
      refine gC_of hw (by omega) (by rw [List.length_append, hl, hm, Nat.mul_add]) fun x hmx => ?_
      rcases List.mem_append.1 hmx with h | h
      · exact hx x h
      · exact hy x h
theorem doR_good {st s : List Ch} {d : Dz} (hs : goodS st) (hd : okD d = true) (h : doR st d = some s) : goodS s := by
  obtain ⟨hl, hg⟩ := hs
  have hsub : ∀ n, ∀ c ∈ st.take n, gC c := fun n c hc => hg c (List.mem_of_mem_take hc)
  unfold doR at h
  by_cases h1 : d.1 = 1
  · rw [if_pos h1] at h
    by_cases h4 : st.length < 4
    · rw [if_pos h4] at h
      injection h with h; subst h
      refine ⟨by rw [List.length_append, List.length_singleton]; omega, fun c hc => ?_⟩
      rcases List.mem_append.1 hc with hc | hc
      · exact hg c hc
      · rw [List.mem_singleton] at hc; subst hc
        obtain ⟨p1, p2, p3⟩ := okD_plain hd h1
        have a1 := inB_iff.1 p1; have a2 := inB_iff.1 p2; have a3 := inB_iff.1 p3
        have := gC_of (w := d.2.1.toNat) (h := d.2.2.1.toNat) (l := List.replicate (d.2.2.1.toNat * d.2.1.toNat) d.2.2.2) (by omega) (by omega) (by rw [List.length_replicate, Nat.mul_comm]) (fun x hx => by rw [List.eq_of_mem_replicate hx]; exact a3)
        rw [Int.toNat_of_nonneg (by omega), Int.toNat_of_nonneg (by omega)] at this
        exact this
    · rw [if_neg h4] at h; cases h
  · rw [if_neg h1] at h
    by_cases h7 : d.1 = 7
    · rw [if_pos h7] at h
      by_cases h4 : 1 ≤ st.length ∧ st.length < 4
      · rw [if_pos h4] at h
        injection h with h; subst h
        refine ⟨by rw [List.length_append, List.length_singleton]; omega, fun c hc => ?_⟩
        rcases List.mem_append.1 hc with hc | hc
        · exact hg c hc
        · rw [List.mem_singleton] at hc; subst hc; exact goodS_get ⟨hl, hg⟩ (by omega)
      · rw [if_neg h4] at h; cases h
    · rw [if_neg h7] at h
      by_cases h3 : d.1 = 4 ∨ d.1 = 5 ∨ d.1 = 8
      · rw [if_pos h3] at h
        by_cases h2 : 2 ≤ st.length
        · rw [if_pos h2] at h
          have ga := goodS_get ⟨hl, hg⟩ (show st.length - 2 < st.length by omega)
          have gb := goodS_get ⟨hl, hg⟩ (show st.length - 1 < st.length by omega)
          by_cases h8 : d.1 = 8
          · rw [if_pos h8] at h
            injection h with h; subst h
            refine ⟨by rw [List.length_append, List.length_take]; simp; omega, fun c hc => ?_⟩
            rcases List.mem_append.1 hc with hc | hc
            · exact hsub _ c hc
            · simp only [List.mem_cons, List.not_mem_nil, or_false] at hc
              rcases hc with rfl | rfl
              · exact gb
              · exact ga
          · rw [if_neg h8] at h
            cases hj : (joinR (st.getD (st.length - 2) (0, 0, [])) (st.getD (st.length - 1) (0, 0, [])) (decide (d.1 = 5))).2.2.2
            · rw [hj] at h; cases h
            · rw [hj, if_pos rfl] at h
              injection h with h; subst h
              refine ⟨by rw [List.length_append, List.length_take]; simp; omega, fun c hc => ?_⟩
              rcases List.mem_append.1 hc with hc | hc
              · exact hsub _ c hc
              · rw [List.mem_singleton] at hc; subst hc; exact gC_join ga gb hj
        · rw [if_neg h2] at h; cases h
      · rw [if_neg h3] at h
        by_cases h2 : 1 ≤ st.length
        · rw [if_pos h2] at h
          have gb := goodS_get ⟨hl, hg⟩ (show st.length - 1 < st.length by omega)
          cases hj : (topR (st.getD (st.length - 1) (0, 0, [])) d).2.2.2
          · rw [hj] at h; cases h
          · rw [hj, if_pos rfl] at h
            injection h with h; subst h
            refine ⟨by rw [List.length_append, List.length_take]; simp; omega, fun c hc => ?_⟩
            rcases List.mem_append.1 hc with hc | hc
            · exact hsub _ c hc
            · rw [List.mem_singleton] at hc; subst hc; exact gC_top gb hj
        · rw [if_neg h2] at h; cases h
/-! ### Programs -/
def okP (p : List Dz) : Bool := decide (p.length ≤ 20) && p.all okD
theorem specGood_eq (k : Nat) (p : List Dz) (hl : p.length ≤ 5000000) (hk : p.length + 50 ≤ k) : spec_l9Good.f k p = some (okP p) := by
  unfold spec_l9Good.f spec_l9Good.m okP
  have hq := (all_loop (L := fun k i => spec_l9Good.l3 k p (i : Int)) (n := p.length) (K0 := 20) (ok := fun j => okD (p.getD j (0, 0, 0, 0))) (f := some false) (fun k i hk hi => ?_)) p.length k 0 (by omega) (by omega)
  · rw [show ((0 : Nat) : Int) = 0 from rfl] at hq
    by_cases ha : ∀ i, i < p.length → okD (p.getD i (0, 0, 0, 0)) = true
    · rw [hq.1 (some (decide ((p.length : Int) ≤ 20))) (fun k hk => by simp (disch := omega) only [spec_l9Good.l3, spec_l9Good.b3, if_neg]) (fun j _ hj => ha j hj)]
      have : p.all okD = true := List.all_eq_true.2 fun x hx => by
        obtain ⟨i, hi, e⟩ := List.getElem_of_mem hx
        have := ha i hi
        rwa [getD_lt hi, e] at this
      rw [this, Bool.and_true]
      congr 1
      exact decide_eq_decide.2 (by omega)
    · rw [hq.2 (exists_bad ha)]
      have : p.all okD = false := notB fun h => ha fun i hi => by rw [getD_lt hi]; exact List.all_eq_true.1 h _ (List.getElem_mem hi)
      rw [this, Bool.and_false]
  · simp (disch := omega) only [spec_l9Good.l3, spec_l9Good.b3, if_pos, chk_nat, Option.bind_some, w64_id, specOne_eq, Int.natCast_add, Int.cast_ofNat_Int]
    cases okD (p.getD i (0, 0, 0, 0)) <;> simp only [Bool.not_true, Bool.not_false, cond_true, cond_false, Bool.true_and, Bool.false_and, Bool.and_true, Bool.and_false, Bool.false_eq_true, Bool.true_or, Bool.or_true, Bool.false_or, Bool.or_false, Bool.or_self, Bool.and_self, decide_true, decide_false, if_true, if_false, not_true, not_false_eq_true, not_true_eq_false, false_or, or_false, true_and, and_true, Bool.not_eq_true, Bool.true_eq_false, reduceCtorEq]
theorem implProg_eq (k : Nat) (p : List Dz) (hl : p.length ≤ 5000000) (hk : p.length + 50 ≤ k) : impl_IsProgram.f k p = some (okP p) := by
  unfold impl_IsProgram.f impl_IsProgram.m okP
  by_cases h20 : p.length ≤ 20
  · rw [if_pos (by omega), decide_eq_true h20]
    unfold impl_areAll_impl_Design__impl_Design_isValid.f impl_areAll_impl_Design__impl_Design_isValid.m slices_ContainsFunc_impl_Design_impl_Design__impl_areAll_impl_Design_1__impl_Design_isValid.f slices_ContainsFunc_impl_Design_impl_Design__impl_areAll_impl_Design_1__impl_Design_isValid.m slices_IndexFunc_impl_Design_impl_Design__impl_areAll_impl_Design_1__impl_Design_isValid.f slices_IndexFunc_impl_Design_impl_Design__impl_areAll_impl_Design_1__impl_Design_isValid.m
    obtain ⟨r, h1, h2⟩ := find_any (L := fun k i => slices_IndexFunc_impl_Design_impl_Design__impl_areAll_impl_Design_1__impl_Design_isValid.l3 k p (p.length : Int) (i : Int)) (xs := p) (d := (0, 0, 0, 0)) (K0 := 20) (ok := fun d => !okD d) (fun k i hk hi => by
        simp (disch := omega) only [slices_IndexFunc_impl_Design_impl_Design__impl_areAll_impl_Design_1__impl_Design_isValid.l3, slices_IndexFunc_impl_Design_impl_Design__impl_areAll_impl_Design_1__impl_Design_isValid.b3, if_pos, chk_nat, Option.bind_some, w64_id, impl_areAll_impl_Design_1__impl_Design_isValid.f, impl_areAll_impl_Design_1__impl_Design_isValid.m, implValid_eq, Int.natCast_add, Int.cast_ofNat_Int]
        cases okD (p.getD i (0, 0, 0, 0)) <;> simp only [Bool.not_true, Bool.not_false, cond_true, cond_false, Bool.true_and, Bool.false_and, Bool.and_true, Bool.and_false, Bool.false_eq_true, Bool.true_or, Bool.or_true, Bool.false_or, Bool.or_false, Bool.or_self, Bool.and_self, decide_true, decide_false, if_true, if_false, not_true, not_false_eq_true, not_true_eq_false, false_or, or_false, true_and, and_true, Bool.not_eq_true, Bool.true_eq_false, reduceCtorEq])
      (fun k hk => by simp (disch := omega) only [slices_IndexFunc_impl_Design_impl_Design__impl_areAll_impl_Design_1__impl_Design_isValid.l3, slices_IndexFunc_impl_Design_impl_Design__impl_areAll_impl_Design_1__impl_Design_isValid.b3, if_neg]) k (by omega)
    rw [show ((0 : Nat) : Int) = 0 from rfl] at h1
    rw [h1]; simp only [Option.bind_some]
    rw [h2, Bool.true_and, List.all_eq_not_any_not]
  · rw [if_neg (by omega), decide_eq_false h20, Bool.false_and]
noncomputable def runR : List Dz → List Ch → List (List Ch)
  | [], _ => []
  | d :: r, st => match doR st d with | none => [] | some s => s :: runR r s
theorem runR_len : ∀ (p : List Dz) (st : List Ch), (runR p st).length ≤ p.length
  | [], _ => Nat.le_refl _
  | d :: r, st => by
    unfold runR
    cases doR st d with
    | none => exact Nat.zero_le _
    | some s => simp only [List.length_cons]; have := runR_len r s; omega
def lastR (L : List (List Ch)) (st : List Ch) : List Ch := match L with | [] => st | s :: r => lastR r s
def sizesR (L : List (List Ch)) : List Int := L.map fun s => (s.length : Int)
theorem specRun_l (p : List Dz) (hp : p.length ≤ 100) (ho : ∀ d ∈ p, okD d = true) : ∀ (n k i : Nat) (st : List Ch) (sz : List Int), i + n = p.length → goodS st → sz.length ≤ i → 5000010 + n < k → spec_l9Run.l4 k p st sz (i : Int) = some (lastR (runR (p.drop i) st) st, sz ++ sizesR (runR (p.drop i) st)) := by
  intro n
  induction n with
  | zero =>
    intro k i st sz h1 h2 h3 h4
    obtain ⟨k, rfl⟩ := succ_of (show 0 < k by omega)
    rw [List.drop_of_length_le (by omega)]
    simp (disch := omega) only [spec_l9Run.l4, spec_l9Run.b4, if_neg, runR, lastR, sizesR, List.map_nil, List.append_nil]
  | succ n ih =>
    intro k i st sz h1 h2 h3 h4
    obtain ⟨k, rfl⟩ := succ_of (show 0 < k by omega)
    have hi : i < p.length := by omega
    have hd : okD (p.getD i (0, 0, 0, 0)) = true := by rw [getD_lt hi]; exact ho _ (List.getElem_mem hi)
    obtain ⟨x, b, e1, e2⟩ := specDo_eq k st _ h2 hd (by omega)
    simp (disch := omega) only [spec_l9Run.l4, spec_l9Run.b4, if_pos, chk_nat, Option.bind_some]
    rw [e1]; simp only [Option.bind_some]
    rw [List.drop_eq_getElem_cons hi, ← getD_lt (d := ((0 : Int), (0 : Int), (0 : Int), (0 : Int))) hi]
    unfold runR
    rw [e2]
    cases b
    · simp only [Bool.not_true, Bool.not_false, cond_true, cond_false, Bool.true_and, Bool.false_and, Bool.and_true, Bool.and_false, Bool.false_eq_true, Bool.true_or, Bool.or_true, Bool.false_or, Bool.or_false, Bool.or_self, Bool.and_self, decide_true, decide_false, if_true, if_false, not_true, not_false_eq_true, not_true_eq_false, false_or, or_false, true_and, and_true, Bool.not_eq_true, Bool.true_eq_false, reduceCtorEq, sizesR, List.map_nil, List.append_nil, lastR]
    · simp only [Bool.not_true, cond_false, if_true]
      have hg : goodS x := doR_good h2 hd (by rw [e2]; rfl)
      rw [app_ok (by simp; omega), w64_id (by omega), show (i : Int) + 1 = ((i + 1 : Nat) : Int) by omega]; simp only [Option.bind_some]
      rw [ih k (i + 1) x _ (by omega) hg (by simp; omega) (by omega)]
      simp only [lastR, sizesR, List.map_cons, List.append_assoc, List.singleton_append]
theorem implStacks_l (p : List Dz) (hp : p.length ≤ 100) (ho : ∀ d ∈ p, okD d = true) : ∀ (n k i : Nat) (st : List Ch) (L : List (List Ch)), i + n = p.length → goodS st → L.length ≤ i → 5000010 + n < k → impl_stacks.l4 k L st p (p.length : Int) (i : Int) = some (L ++ runR (p.drop i) st) := by
  intro n
  induction n with
  | zero =>
    intro k i st L h1 h2 h3 h4
    obtain ⟨k, rfl⟩ := succ_of (show 0 < k by omega)
    rw [List.drop_of_length_le (by omega)]
    simp (disch := omega) only [impl_stacks.l4, impl_stacks.b4, if_neg, runR, List.append_nil]
  | succ n ih =>
    intro k i st L h1 h2 h3 h4
    obtain ⟨k, rfl⟩ := succ_of (show 0 < k by omega)
    have hi : i < p.length := by omega
    have hd : okD (p.getD i (0, 0, 0, 0)) = true := by rw [getD_lt hi]; exact ho _ (List.getElem_mem hi)
    obtain ⟨x, b, e1, e2⟩ := implRun_eq k st _ h2 hd (by omega)
    simp (disch := omega) only [impl_stacks.l4, impl_stacks.b4, if_pos, chk_nat, Option.bind_some]
    rw [e1]; simp only [Option.bind_some]
    rw [List.drop_eq_getElem_cons hi, ← getD_lt (d := ((0 : Int), (0 : Int), (0 : Int), (0 : Int))) hi]
    unfold runR
    rw [e2]
    cases b
    · simp only [Bool.not_true, Bool.not_false, cond_true, cond_false, Bool.true_and, Bool.false_and, Bool.and_true, Bool.and_false, Bool.false_eq_true, Bool.true_or, Bool.or_true, Bool.false_or, Bool.or_false, Bool.or_self, Bool.and_self, decide_true, decide_false, if_true, if_false, not_true, not_false_eq_true, not_true_eq_false, false_or, or_false, true_and, and_true, Bool.not_eq_true, Bool.true_eq_false, reduceCtorEq, List.append_nil]
    · simp only [Bool.not_true, cond_false, if_true]
      have hg : goodS x := doR_good h2 hd (by rw [e2]; rfl)
      rw [app_ok (by simp; omega), w64_id (by omega), show (i : Int) + 1 = ((i + 1 : Nat) : Int) by omega]; simp only [Option.bind_some]
      rw [ih k (i + 1) x _ (by omega) hg (by simp; omega) (by omega), List.append_assoc]; rfl
theorem okP_of {p : List Dz} (h : okP p = true) : p.length ≤ 20 ∧ ∀ d ∈ p, okD d = true := by
  unfold okP at h
  rw [Bool.and_eq_true, decide_eq_true_eq, List.all_eq_true] at h
  exact h
theorem goodS_nil : goodS [] := ⟨Nat.zero_le _, fun c hc => by cases hc⟩
theorem specRun_eq (k : Nat) (p : List Dz) (h : okP p = true) (hk : 5000100 ≤ k) : spec_l9Run.f k p = some (lastR (runR p []) [], sizesR (runR p [])) := by
  obtain ⟨h1, h2⟩ := okP_of h
  have := specRun_l p (by omega) h2 p.length k 0 [] [] (by omega) goodS_nil (Nat.le_refl _) (by omega)
  rw [List.drop_zero, List.nil_append] at this
  exact this
theorem implStacks_eq (k : Nat) (p : List Dz) (h : okP p = true) (hk : 5000100 ≤ k) : impl_stacks.f k p = some (runR p []) := by
  obtain ⟨h1, h2⟩ := okP_of h
  have := implStacks_l p (by omega) h2 p.length k 0 [] [] (by omega) goodS_nil (Nat.le_refl _) (by omega)
  rw [List.drop_zero, List.nil_append] at this
  exact this
noncomputable def failsOut (p : List Dz) : Int × Bool := if okP p = true then (((runR p []).length : Int), true) else (0, false)
theorem sizesR_len (L : List (List Ch)) : (sizesR L).length = L.length := List.length_map _
noncomputable def sizesOut (p : List Dz) : List Int × Bool := if okP p = true then (sizesR (runR p []), true) else ([], false)
theorem sizes_l (L : List (List Ch)) (hL : L.length ≤ 100) : ∀ (n k i : Nat), i + n = L.length → 20 + n < k → impl_StackSizes.l7 k ((sizesR L).take i) L (L.length : Int) (i : Int) = some (sizesR L, true) := by
  intro n
  induction n with
  | zero =>
    intro k i h1 h2
    obtain ⟨k, rfl⟩ := succ_of (show 0 < k by omega)
    simp (disch := omega) only [impl_StackSizes.l7, impl_StackSizes.b7, if_neg]
    rw [List.take_of_length_le (by rw [sizesR_len]; omega)]
  | succ n ih =>
    intro k i h1 h2
    obtain ⟨k, rfl⟩ := succ_of (show 0 < k by omega)
    have hi : i < L.length := by omega
    simp (disch := omega) only [impl_StackSizes.l7, impl_StackSizes.b7, if_pos, chk_nat, Option.bind_some]
    rw [app_ok (by simp only [List.length_take, List.length_singleton]; omega)]; simp only [Option.bind_some]
    rw [w64_id (by omega), show (i : Int) + 1 = ((i + 1 : Nat) : Int) by omega]
    have := ih k (i + 1) (by omega) (by omega)
    rw [List.take_succ_eq_append_getElem (by rw [sizesR_len]; omega)] at this
    have e : (sizesR L)[i]'(by rw [sizesR_len]; omega) = ((L.getD i []).length : Int) := by
      unfold sizesR; rw [List.getElem_map, getD_lt hi]
    rw [e] at this
    exact this
theorem sizes_eq (k : Nat) (p : List Dz) (hl : p.length ≤ 4194304) (hk : 5000100 ≤ k) : spec_StackSizes.f k p = some (sizesOut p) ∧ impl_StackSizes.f k p = some (sizesOut p) := by
  unfold spec_StackSizes.f spec_StackSizes.m impl_StackSizes.f impl_StackSizes.m sizesOut
  rw [specGood_eq k p (by omega) (by omega), implProg_eq k p (by omega) (by omega)]; simp only [Option.bind_some]
  cases h : okP p
  · exact ⟨rfl, rfl⟩
  · have h20 := (okP_of h).1
    have hr := runR_len p []
    rw [specRun_eq k p h hk, implStacks_eq k p h hk]
    refine ⟨rfl, ?_⟩
    simp only [Option.bind_some, Bool.not_true, cond_false, if_true]
    have := sizes_l (runR p []) (by omega) _ k 0 (Nat.zero_add _) (by omega)
    rw [List.take_zero] at this
    exact this
theorem both (p : List (Int × Int × Int × Int)) (hp : p.length ≤ 4194304) : ∃ r0 r1 k0, (∀ k, k0 ≤ k → spec_StackSizes.f k p = some (r0, r1)) ∧ (∀ k, k0 ≤ k → impl_StackSizes.f k p = some (r0, r1)) ∧ r0.length ≤ 4194304 := by
  refine ⟨(sizesOut p).1, (sizesOut p).2, 5000100, fun k hk => (sizes_eq k p hp hk).1, fun k hk => (sizes_eq k p hp hk).2, ?_⟩
  unfold sizesOut
  by_cases h : okP p = true
  · rw [if_pos h]
    have := (okP_of h).1
    have := runR_len p []
    dsimp only
    rw [sizesR_len]; omega
  · rw [if_neg h]; exact Nat.zero_le _
theorem szDesignS_ex (k : Nat) (l0 : List (Int × Int × Int × Int)) (a : Int) (h0 : 0 ≤ a) (h1 : a ≤ 1048576) (h_l0 : l0.length ≤ 140737488351232) : ∃ b, laws_szDesignS.f k l0 a = some b ∧ (b < 0 ∨ 0 ≤ b ∧ b ≤ a ∧ l0.length ≤ 1048576) := by
  unfold laws_szDesignS.f laws_szDesignS.m
  rw [w64_id (by omega)]
  by_cases h : a - (l0.length : Int) < 0
  · exact ⟨-1, if_pos h, .inl (by omega)⟩
  · exact ⟨_, if_neg h, .inr ⟨by omega, by omega, by omega⟩⟩
theorem toDesign_eq (k : Nat) (a0_0 : Int) (a0_1 : Int) (a0_2 : Int) (a0_3 : Int) : laws_toDesign.f k a0_0 a0_1 a0_2 a0_3 = some (a0_0, a0_1, a0_2, a0_3) := by
  unfold laws_toDesign.f laws_toDesign.m
  rfl
theorem toDesignS_l (l0 : List (Int × Int × Int × Int)) (hl : l0.length ≤ 4194304) : ∀ (d k i : Nat) (acc : List (Int × Int × Int × Int)), i + d = l0.length → acc.length = l0.length → acc.take i = l0.take i → d < k → laws_toDesignS.l4 k l0 acc (i : Int) = some l0 := by
  intro d
  induction d with
  | zero =>
    intro k i acc h1 h2 h3 h4
    obtain ⟨k, rfl⟩ := succ_of (show 0 < k by omega)
    simp (disch := omega) only [laws_toDesignS.l4, laws_toDesignS.b4, if_neg]
    rw [List.take_of_length_le (by omega), List.take_of_length_le (by omega)] at h3
    rw [h3]
  | succ d ih =>
    intro k i acc h1 h2 h3 h4
    obtain ⟨k, rfl⟩ := succ_of (show 0 < k by omega)
    have hi : i < l0.length := by omega
    have h := ih k (i + 1) (acc.set i (l0.getD i (0, 0, 0, 0))) (by omega) (by rw [List.length_set]; exact h2) (by
      rw [List.take_succ_eq_append_getElem (by rw [List.length_set]; omega), List.take_succ_eq_append_getElem hi, List.getElem_set_self, List.take_set_of_le (Nat.le_refl i), h3, getD_lt hi]) (by omega)
    rw [show ((i + 1 : Nat) : Int) = (i : Int) + 1 by omega] at h
    simp (disch := omega) only [laws_toDesignS.l4, laws_toDesignS.b4, if_pos, chk_nat, Option.bind_some, w64_id, toDesign_eq, upd_of]
    exact h
theorem toDesignS_eq (k : Nat) (l0 : List (Int × Int × Int × Int)) (h_l0 : l0.length ≤ 4194304) (hk : 5000000 ≤ k) : laws_toDesignS.f k l0 = some l0 := by
  unfold laws_toDesignS.f laws_toDesignS.m
  rw [mkl_int (by omega)]; simp only [Option.bind_some]
  exact toDesignS_l l0 h_l0 l0.length k 0 _ (by omega) (by simp) (by simp) (by omega)
theorem eqIntS_eq (k : Nat) (l0 : List Int) (h_l0 : l0.length ≤ 4194304) (hk : 5000000 ≤ k) : laws_eqIntS.f k l0 l0 = some true := by
  unfold laws_eqIntS.f laws_eqIntS.m
  have h := (all_loop (L := fun k i => laws_eqIntS.l6 k l0 l0 (i : Int)) (n := l0.length) (K0 := 20) (ok := fun _ => true) (f := some false) (fun k i hk hi => ?_)) l0.length k 0 (by omega) (by omega)
  · rw [show ((0 : Nat) : Int) = 0 from rfl] at h
    simp only [Bool.not_true, Bool.not_false, cond_true, cond_false, Bool.true_and, Bool.false_and, Bool.and_true, Bool.and_false, Bool.false_eq_true, Bool.true_or, Bool.or_true, Bool.false_or, Bool.or_false, Bool.or_self, Bool.and_self, decide_true, decide_false, if_true, if_false, not_true, not_false_eq_true, not_true_eq_false, false_or, or_false, true_and, and_true, Bool.not_eq_true, Bool.true_eq_false, reduceCtorEq, eq_self]
    exact h.1 (some true) (fun k hk => by simp (disch := omega) only [laws_eqIntS.l6, laws_eqIntS.b6, if_neg]) (fun _ _ _ => rfl)
  · simp (disch := omega) only [laws_eqIntS.l6, laws_eqIntS.b6, if_pos, chk_nat, Option.bind_some, w64_id, Bool.not_true, Bool.not_false, cond_true, cond_false, Bool.true_and, Bool.false_and, Bool.and_true, Bool.and_false, Bool.false_eq_true, Bool.true_or, Bool.or_true, Bool.false_or, Bool.or_false, Bool.or_self, Bool.and_self, decide_true, decide_false, if_true, if_false, not_true, not_false_eq_true, not_true_eq_false, false_or, or_false, true_and, and_true, Bool.not_eq_true, Bool.true_eq_false, reduceCtorEq, eq_self, Int.natCast_add, Int.cast_ofNat_Int]
theorem eqDesign_eq (k : Nat) (a0_0 : Int) (a0_1 : Int) (a0_2 : Int) (a0_3 : Int) : laws_eqDesign.f k a0_0 a0_1 a0_2 a0_3 a0_0 a0_1 a0_2 a0_3 = some true := by
  unfold laws_eqDesign.f laws_eqDesign.m
  simp (disch := omega) only [Option.bind_some, Bool.not_true, Bool.not_false, cond_true, cond_false, Bool.true_and, Bool.false_and, Bool.and_true, Bool.and_false, Bool.false_eq_true, Bool.true_or, Bool.or_true, Bool.false_or, Bool.or_false, Bool.or_self, Bool.and_self, decide_true, decide_false, if_true, if_false, not_true, not_false_eq_true, not_true_eq_false, false_or, or_false, true_and, and_true, Bool.not_eq_true, Bool.true_eq_false, reduceCtorEq, eq_self]
theorem eqDesignS_eq (k : Nat) (l0 : List (Int × Int × Int × Int)) (h_l0 : l0.length ≤ 4194304) (hk : 5000000 ≤ k) : laws_eqDesignS.f k l0 l0 = some true := by
  unfold laws_eqDesignS.f laws_eqDesignS.m
  have h := (all_loop (L := fun k i => laws_eqDesignS.l6 k l0 l0 (i : Int)) (n := l0.length) (K0 := 20) (ok := fun _ => true) (f := some false) (fun k i hk hi => ?_)) l0.length k 0 (by omega) (by omega)
  · rw [show ((0 : Nat) : Int) = 0 from rfl] at h
    simp only [Bool.not_true, Bool.not_false, cond_true, cond_false, Bool.true_and, Bool.false_and, Bool.and_true, Bool.and_false, Bool.false_eq_true, Bool.true_or, Bool.or_true, Bool.false_or, Bool.or_false, Bool.or_self, Bool.and_self, decide_true, decide_false, if_true, if_false, not_true, not_false_eq_true, not_true_eq_false, false_or, or_false, true_and, and_true, Bool.not_eq_true, Bool.true_eq_false, reduceCtorEq, eq_self]
    exact h.1 (some true) (fun k hk => by simp (disch := omega) only [laws_eqDesignS.l6, laws_eqDesignS.b6, if_neg]) (fun _ _ _ => rfl)
  · simp (disch := omega) only [laws_eqDesignS.l6, laws_eqDesignS.b6, if_pos, chk_nat, Option.bind_some, w64_id, eqDesign_eq, Bool.not_true, Bool.not_false, cond_true, cond_false, Bool.true_and, Bool.false_and, Bool.and_true, Bool.and_false, Bool.false_eq_true, Bool.true_or, Bool.or_true, Bool.false_or, Bool.or_false, Bool.or_self, Bool.and_self, decide_true, decide_false, if_true, if_false, not_true, not_false_eq_true, not_true_eq_false, false_or, or_false, true_and, and_true, Bool.not_eq_true, Bool.true_eq_false, reduceCtorEq, eq_self, Int.natCast_add, Int.cast_ofNat_Int]
def mkDesignS : Int → Nat → List (Int × Int × Int × Int)
  | _, 0 => []
  | x, n + 1 => (x, x + 1, x + 2, x + 3) :: mkDesignS (x + 4) n
theorem markDesignS_l : ∀ (q p : List (Int × Int × Int × Int)) (k : Nat) (x : Int), (p ++ q).length ≤ 4194304 → 0 ≤ x → x + 4 * q.length ≤ 1125899906842624 → q.length < k → laws_markDesignS.l3 k (p ++ q) x (p.length : Int) = some (x + 4 * q.length, p ++ mkDesignS x q.length) := by
  intro q
  induction q with
  | nil =>
    intro p k x h1 h2 h3 h4
    obtain ⟨k, rfl⟩ := succ_of (show 0 < k by omega)
    simp (disch := omega) only [laws_markDesignS.l3, laws_markDesignS.b3, List.append_nil, if_neg]
    simp [mkDesignS]
  | cons y q ih =>
    intro p k x h1 h2 h3 h4
    obtain ⟨k, rfl⟩ := succ_of (show 0 < k by omega)
    have hlt := lt_mid p y q
    have hpl : p.length ≤ 4194304 := by simp at h1; omega
    simp only [List.length_cons] at h3 h4
    have h := ih (p ++ [(x, x + 1, x + 2, x + 3)]) k (x + 4) (by simp at h1 ⊢; omega) (by omega) (by omega) (by omega)
    rw [← snoc_app, show (((p ++ [(x, x + 1, x + 2, x + 3)]).length : Nat) : Int) = (p.length : Int) + 1 by simp] at h
    simp (disch := omega) only [laws_markDesignS.l3, laws_markDesignS.b3, if_pos, chk_mid, Option.bind_some, upd_mid, set_mid, w64_id]
    simp only [Int.add_assoc, Int.reduceAdd] at h ⊢
    rw [h, List.append_assoc]
    simp only [List.length_cons, mkDesignS, List.singleton_append]
    congr 2
    omega
theorem markDesignS_ex (l0 : List (Int × Int × Int × Int)) (x : Int) (h_l0 : l0.length ≤ 4194304) (h0 : 0 ≤ x) (h1 : x ≤ 1099511627776) : ∃ (x' : Int) (l0' : List (Int × Int × Int × Int)), x ≤ x' ∧ x' ≤ x + 64 * l0.length ∧ l0'.length = l0.length ∧ ∀ k, 5000000 ≤ k → laws_markDesignS.f k l0 x = some (x', l0') := by
  refine ⟨x + 4 * l0.length, mkDesignS x l0.length, by omega, by omega, ?_, fun k hk => ?_⟩
  · generalize l0.length = n
    clear h0 h1
    induction n generalizing x with
    | zero => rfl
    | succ n ih => simp [mkDesignS, ih]
  · exact markDesignS_l l0 [] k x (by simpa using h_l0) h0 (by omega) (by omega)
def mkIntS : Int → Nat → List Int
  | _, 0 => []
  | x, n + 1 => x :: mkIntS (x + 1) n
theorem markIntS_l : ∀ (q p : List Int) (k : Nat) (x : Int), (p ++ q).length ≤ 4194304 → 0 ≤ x → x + 1 * q.length ≤ 1125899906842624 → q.length < k → laws_markIntS.l3 k (p ++ q) x (p.length : Int) = some (x + 1 * q.length, p ++ mkIntS x q.length) := by
  intro q
  induction q with
  | nil =>
    intro p k x h1 h2 h3 h4
    obtain ⟨k, rfl⟩ := succ_of (show 0 < k by omega)
    simp (disch := omega) only [laws_markIntS.l3, laws_markIntS.b3, List.append_nil, if_neg]
    simp [mkIntS]
  | cons y q ih =>
    intro p k x h1 h2 h3 h4
    obtain ⟨k, rfl⟩ := succ_of (show 0 < k by omega)
    have hlt := lt_mid p y q
    have hpl : p.length ≤ 4194304 := by simp at h1; omega
    simp only [List.length_cons] at h3 h4
    have h := ih (p ++ [x]) k (x + 1) (by simp at h1 ⊢; omega) (by omega) (by omega) (by omega)
    rw [← snoc_app, show (((p ++ [x]).length : Nat) : Int) = (p.length : Int) + 1 by simp] at h
    simp (disch := omega) only [laws_markIntS.l3, laws_markIntS.b3, if_pos, chk_mid, Option.bind_some, upd_mid, set_mid, w64_id]
    simp only [Int.add_assoc, Int.reduceAdd] at h ⊢
    rw [h, List.append_assoc]
    simp only [List.length_cons, mkIntS, List.singleton_append]
    congr 2
    omega
theorem heldIntS_l : ∀ (n : Nat) (p : List Int) (k : Nat) (x : Int), p.length + n ≤ 4194304 → 0 ≤ x → x + 1 * n ≤ 1125899906842624 → n < k → laws_heldIntS.l3 k (p ++ mkIntS x n) x (p.length : Int) = some (x + 1 * n) := by
  intro n
  induction n with
  | zero =>
    intro p k x h1 h2 h3 h4
    obtain ⟨k, rfl⟩ := succ_of (show 0 < k by omega)
    simp (disch := omega) only [mkIntS, laws_heldIntS.l3, laws_heldIntS.b3, List.append_nil, if_neg]
    simp
  | succ n ih =>
    intro p k x h1 h2 h3 h4
    obtain ⟨k, rfl⟩ := succ_of (show 0 < k by omega)
    have hlt := lt_mid p x (mkIntS (x + 1) n)
    have h := ih (p ++ [x]) k (x + 1) (by simp; omega) (by omega) (by omega) (by omega)
    rw [← snoc_app, show (((p ++ [x]).length : Nat) : Int) = (p.length : Int) + 1 by simp] at h
    simp (disch := omega) only [mkIntS, laws_heldIntS.l3, laws_heldIntS.b3, if_pos, chk_mid, Option.bind_some, getD_mid, w64_id, eq_self, Bool.not_true, Bool.not_false, cond_true, cond_false, Bool.true_and, Bool.false_and, Bool.and_true, Bool.and_false, Bool.false_eq_true, Bool.true_or, Bool.or_true, Bool.false_or, Bool.or_false, Bool.or_self, Bool.and_self, decide_true, decide_false, if_true, if_false, not_true, not_false_eq_true, not_true_eq_false, false_or, or_false, true_and, and_true, Bool.not_eq_true, Bool.true_eq_false, reduceCtorEq]
    simp only [Int.add_assoc, Int.reduceAdd, Bool.not_true, Bool.not_false, cond_true, cond_false, Bool.true_and, Bool.false_and, Bool.and_true, Bool.and_false, Bool.false_eq_true, Bool.true_or, Bool.or_true, Bool.false_or, Bool.or_false, Bool.or_self, Bool.and_self, decide_true, decide_false, if_true, if_false, not_true, not_false_eq_true, not_true_eq_false, false_or, or_false, true_and, and_true, Bool.not_eq_true, Bool.true_eq_false, reduceCtorEq, eq_self] at h ⊢
    rw [h]
    congr 1
    omega
theorem markIntS_ex (l0 : List Int) (x : Int) (h_l0 : l0.length ≤ 4194304) (h0 : 0 ≤ x) (h1 : x ≤ 1099511627776) : ∃ (x' : Int) (l0' : List Int), x ≤ x' ∧ x' ≤ x + 64 * l0.length ∧ l0'.length = l0.length ∧ ∀ k, 5000000 ≤ k → laws_markIntS.f k l0 x = some (x', l0') ∧ laws_heldIntS.f k l0' x = some x' := by
  refine ⟨x + 1 * l0.length, mkIntS x l0.length, by omega, by omega, ?_, fun k hk => ⟨?_, ?_⟩⟩
  · generalize l0.length = n
    clear h0 h1
    induction n generalizing x with
    | zero => rfl
    | succ n ih => simp [mkIntS, ih]
  · exact markIntS_l l0 [] k x (by simpa using h_l0) h0 (by omega) (by omega)
  · exact heldIntS_l l0.length [] k x (by simpa using h_l0) h0 (by omega) (by omega)
theorem pure_holds : Pure := by
  intro l0 hw0 hw1
  have hs0 : ∃ b, (∀ k, laws_szDesignS.f k l0 1048576 = some b) ∧ (b < 0 ∨ 0 ≤ b ∧ b ≤ 1048576 ∧ l0.length ≤ 1048576) := by
    obtain ⟨b, e, c⟩ := szDesignS_ex 0 l0 1048576 (by omega) (by omega) (by omega)
    exact ⟨b, fun k => e, c⟩
  obtain ⟨b0, es0, cs0⟩ := hs0
  by_cases nb0 : b0 < 0
  · refine ⟨0, ?_⟩
    unfold laws_FnExactStackSizes.f laws_FnExactStackSizes.m
    refine stepb (es0 _) ?_
    exact if_pos nb0
  obtain ⟨r0, r1, k0, hS, hI, hr_r0⟩ := both l0 (by omega)
  obtain ⟨K, hK⟩ : ∃ K, K = k0 + 10000000 := ⟨_, rfl⟩
  refine ⟨K, ?_⟩
  unfold laws_FnExactStackSizes.f laws_FnExactStackSizes.m
  refine stepb (es0 _) ?_
  refine ifn nb0 ?_
  refine stepb (show laws_toDesignS.f K l0 = some (l0) from toDesignS_eq K l0 (by omega) (by omega)) ?_
  refine stepb (hS K (by omega)) ?_
  refine stepb (show laws_toDesignS.f K l0 = some (l0) from toDesignS_eq K l0 (by omega) (by omega)) ?_
  refine stepb (hI K (by omega)) ?_
  refine stepb (show laws_eqIntS.f K r0 r0 = some true from eqIntS_eq K r0 (by omega) (by omega)) ?_
  refine condt ?_
  refine ifn (show ¬ ¬ r1 = r1 from fun h => h rfl) ?_
  refine stepb (show laws_toDesignS.f K l0 = some (l0) from toDesignS_eq K l0 (by omega) (by omega)) ?_
  refine stepb (show laws_eqDesignS.f K l0 l0 = some true from eqDesignS_eq K l0 (by omega) (by omega)) ?_
  refine condt ?_
  obtain ⟨y9, w9_l0, py9, qy9, my9_l0, ey9⟩ := markDesignS_ex l0 1 (by omega) (by omega) (by omega)
  refine stepb (ey9 K (by omega)) ?_
  refine ifn (show ¬ y9 < 0 by omega) ?_
  refine stepb (show laws_eqIntS.f K r0 r0 = some true from eqIntS_eq K r0 (by omega) (by omega)) ?_
  refine condt ?_
  refine ifn (show ¬ ¬ r1 = r1 from fun h => h rfl) ?_
  obtain ⟨y11, w11_r0, py11, qy11, my11_r0, ey11⟩ := markIntS_ex r0 1 (by omega) (by omega) (by omega)
  refine stepb (ey11 K (by omega)).1 ?_
  refine stepb (ey11 K (by omega)).2 ?_
  refine ifn (show ¬ y11 < 0 by omega) ?_
  refine ifn (show ¬ ¬ y11 = y11 from fun h => h rfl) ?_
  refine stepb (show laws_toDesignS.f K l0 = some (l0) from toDesignS_eq K l0 (by omega) (by omega)) ?_
  refine stepb (hI K (by omega)) ?_
  refine stepb (show laws_eqIntS.f K r0 r0 = some true from eqIntS_eq K r0 (by omega) (by omega)) ?_
  refine condt ?_
  refine ifn (show ¬ ¬ r1 = r1 from fun h => h rfl) ?_
  refine stepb (ey11 K (by omega)).2 ?_
  refine ifn (show ¬ y11 < 0 by omega) ?_
  refine ifn (show ¬ ¬ y11 = y11 from fun h => h rfl) ?_
  rfl
end Go.Proofs.Ytnoohdlmmknjlaa.DFnExactStackSizes
