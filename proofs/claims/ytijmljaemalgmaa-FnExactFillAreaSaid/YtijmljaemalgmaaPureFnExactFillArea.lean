/- The program's FillArea returns what the reference's FillArea returns, for every chart, area and color. -/
import Derived.Test.YtijmljaemalgmaaDFnExactFillArea
set_option linter.unusedVariables false
set_option linter.unusedSimpArgs false
set_option maxRecDepth 100000
namespace Go.Proofs.Ytijmljaemalgmaa.DFnExactFillArea
open Go Go.Proofs.YtijmljaemalgmaaD
theorem succ_of {k : Nat} (h : 0 < k) : ∃ j, k = j + 1 := ⟨k - 1, by omega⟩
theorem w64_id {x : Int} (h : -9223372036854775808 ≤ x ∧ x ≤ 9223372036854775807) : w64 x = x := by
  unfold w64 IntKind.wrap
  simp [IntKind.signed, IntKind.bits]
  omega
theorem chk_nat {n j : Nat} (h : j < n) : chk n (j : Int) = some j := by unfold chk; rw [if_pos (by omega)]; simp
theorem chk_int {n : Nat} {i : Int} (h : 0 ≤ i ∧ i < n) : chk n i = some i.toNat := by unfold chk; rw [if_pos h]
theorem cut_int {n : Nat} {i j : Int} (h : 0 ≤ i ∧ i ≤ j ∧ j ≤ n) : cut n i j = some (i.toNat, j.toNat - i.toNat) := by unfold cut; rw [if_pos h]
theorem cutTo_int {n : Nat} {j : Int} (h : 0 ≤ j ∧ j ≤ n) : cutTo n j = some j.toNat := by unfold cutTo; rw [if_pos h]
theorem cut3_int {n : Nat} {i j m : Int} (h : 0 ≤ i ∧ i ≤ j ∧ j ≤ m ∧ m ≤ n) : cut3 n i j m = some () := by unfold cut3; rw [if_pos h]
theorem mkl_int {L : Nat} {n c : Int} (h : 0 ≤ n ∧ n ≤ c ∧ c ≤ L) : mkl L n c = some n.toNat := by unfold mkl; rw [if_pos h]
theorem selfApp_nat {i lo m : Nat} (h : i ≤ lo) : selfApp i lo m = some (i + m) := by unfold selfApp; rw [if_pos h]
section
variable {β : Type}
theorem app_ok {L : Nat} {xs ys : List β} (h : xs.length + ys.length ≤ L) : app L xs ys = some (xs ++ ys) := by unfold app; rw [if_pos h]
theorem chk_mid (p : List β) (a : β) (q : List β) : chk (p ++ a :: q).length (p.length : Int) = some p.length := chk_nat (by simp)
theorem getD_mid (p : List β) (a : β) (q : List β) (d : β) : (p ++ a :: q).getD p.length d = a := by
  rw [List.getD_eq_getElem?_getD, List.getElem?_append_right (Nat.le_refl _)]; simp
theorem set_mid (p : List β) (a b : β) (q : List β) : (p ++ a :: q).set p.length b = p ++ b :: q := by
  rw [List.set_append_right _ _ (Nat.le_refl _)]; simp
theorem upd_mid (p : List β) (a : β) (q : List β) (d : β) (f : β → β) : upd (p ++ a :: q) p.length d f = p ++ f a :: q := by
  unfold upd; rw [getD_mid, set_mid]
theorem upd_len (xs : List β) (j : Nat) (d : β) (f : β → β) : (upd xs j d f).length = xs.length := by unfold upd; simp
theorem upd_of {xs : List β} {j : Nat} {d : β} {f : β → β} : upd xs j d f = xs.set j (f (xs.getD j d)) := rfl
theorem lt_mid (p : List β) (a : β) (q : List β) : (p.length : Int) < ((p ++ a :: q).length : Nat) := by simp; omega
theorem next_mid {p : List β} {a : β} {q : List β} (h : (p ++ a :: q).length ≤ 1152921504606846976) : w64 ((p.length : Int) + 1) = ((p ++ [a]).length : Nat) := by
  rw [w64_id (by simp at h; omega)]; simp
theorem snoc_app (p : List β) (a : β) (q : List β) : p ++ a :: q = (p ++ [a]) ++ q := by simp
theorem getD_lt {xs : List β} {i : Nat} {d : β} (h : i < xs.length) : xs.getD i d = xs[i] := by
  rw [List.getD_eq_getElem?_getD, List.getElem?_eq_getElem h]; rfl
theorem getD_set {xs : List β} {i j : Nat} {a d : β} (h : i < xs.length) : (xs.set i a).getD j d = if i = j then a else xs.getD j d := by
  rw [List.getD_eq_getElem?_getD, List.getD_eq_getElem?_getD, List.getElem?_set]
  split
  · rename_i e; subst e; simp [h]
  · rfl
theorem some_bind {γ : Type} (x : β) (f : β → Option γ) : (some x).bind f = f x := rfl
end
def inB (n lo hi : Int) : Bool := decide (lo ≤ n) && decide (n ≤ hi)
theorem inB_iff {n lo hi : Int} : inB n lo hi = true ↔ lo ≤ n ∧ n ≤ hi := by unfold inB; simp
theorem inB_of {n lo hi : Int} (h : lo ≤ n ∧ n ≤ hi) : inB n lo hi = true := inB_iff.2 h
theorem notB {b : Bool} (h : ¬ b = true) : b = false := by cases b <;> simp_all
theorem all_loop {β : Type} {L : Nat → Nat → Option β} {n K0 : Nat} {ok : Nat → Bool} {f : Option β} (hs : ∀ k i, K0 ≤ k → i < n → L (k + 1) i = if ok i = true then L k (i + 1) else f) :
    ∀ (d k i : Nat), i + d = n → K0 + d < k → (∀ e, (∀ k, K0 ≤ k → L (k + 1) n = e) → (∀ j, i ≤ j → j < n → ok j = true) → L k i = e) ∧ ((∃ j, i ≤ j ∧ j < n ∧ ok j = false) → L k i = f) := by
  intro d
  induction d with
  | zero =>
    intro k i h1 h2
    obtain ⟨k, rfl⟩ := succ_of (show 0 < k by omega)
    have : i = n := by omega
    subst this
    exact ⟨fun e he _ => he k (by omega), fun ⟨j, a, b, _⟩ => by omega⟩
  | succ d ih =>
    intro k i h1 h2
    obtain ⟨k, rfl⟩ := succ_of (show 0 < k by omega)
    have := ih k (i + 1) (by omega) (by omega)
    rw [hs k i (by omega) (by omega)]
    refine ⟨fun e he h => ?_, fun ⟨j, a, b, c⟩ => ?_⟩
    · rw [if_pos (h i (Nat.le_refl _) (by omega))]; exact this.1 e he fun j a b => h j (by omega) b
    · by_cases e : ok i = true
      · rw [if_pos e]
        refine this.2 ⟨j, ?_, b, c⟩
        rcases Nat.lt_or_ge i j with h | h
        · exact h
        · have : j = i := by omega
          subst this; rw [e] at c; cases c
      · rw [if_neg e]
theorem exists_bad {n : Nat} {ok : Nat → Bool} (h : ¬ ∀ i, i < n → ok i = true) : ∃ j, 0 ≤ j ∧ j < n ∧ ok j = false := by
  apply Classical.byContradiction; intro hn
  refine h fun j hj => ?_
  cases hc : ok j with
  | true => rfl
  | false => exact absurd ⟨j, Nat.zero_le _, hj, hc⟩ hn
theorem first_bad {n : Nat} {ok : Nat → Bool} (h : ¬ ∀ i, i < n → ok i = true) : ∃ j, j < n ∧ ok j = false ∧ ∀ i, i < j → ok i = true := by
  induction n with
  | zero => exact absurd (fun i hi => by omega) h
  | succ n ih =>
    by_cases h1 : ∀ i, i < n → ok i = true
    · refine ⟨n, by omega, ?_, h1⟩
      cases hc : ok n with
      | false => rfl
      | true => exact absurd (fun i hi => by
          rcases Nat.lt_or_ge i n with h' | h'
          · exact h1 i h'
          · have : i = n := by omega
            rw [this]; exact hc) h
    · obtain ⟨j, a, b, c⟩ := ih h1
      exact ⟨j, by omega, b, c⟩
theorem find_loop {L : Nat → Nat → Option Int} {n K0 : Nat} {ok : Nat → Bool} (hs : ∀ k i, K0 ≤ k → i < n → L (k + 1) i = if ok i = true then some (i : Int) else L k (i + 1)) (he : ∀ k, K0 ≤ k → L (k + 1) n = some (-1)) :
    ∀ (d k i : Nat), i + d = n → K0 + d < k → ((∀ j, i ≤ j → j < n → ok j = false) → L k i = some (-1)) ∧ (∀ m, i ≤ m → m < n → ok m = true → (∀ j, i ≤ j → j < m → ok j = false) → L k i = some (m : Int)) := by
  intro d
  induction d with
  | zero =>
    intro k i h1 h2
    obtain ⟨k, rfl⟩ := succ_of (show 0 < k by omega)
    have : i = n := by omega
    subst this
    exact ⟨fun _ => he k (by omega), fun m a b _ _ => by omega⟩
  | succ d ih =>
    intro k i h1 h2
    obtain ⟨k, rfl⟩ := succ_of (show 0 < k by omega)
    have := ih k (i + 1) (by omega) (by omega)
    rw [hs k i (by omega) (by omega)]
    refine ⟨fun h => ?_, fun m a b c h => ?_⟩
    · rw [if_neg (by rw [h i (Nat.le_refl _) (by omega)]; simp)]; exact this.1 fun j a b => h j (by omega) b
    · by_cases e : ok i = true
      · rw [if_pos e]
        rcases Nat.lt_or_ge i m with h' | h'
        · have := h i (Nat.le_refl _) h'; rw [e] at this; cases this
        · have : m = i := by omega
          rw [this]
      · rw [if_neg e]
        refine this.2 m ?_ b c fun j a b => h j (by omega) b
        rcases Nat.lt_or_ge i m with h' | h'
        · exact h'
        · have : m = i := by omega
          subst this; exact absurd c e
theorem stepb {α γ : Type} {a : Option α} {x : α} {f : α → Option γ} {r : Option γ} (h : a = some x) (g : f x = r) : a.bind f = r := by rw [h]; exact g
theorem ifn {γ : Type} {c : Prop} {i : Decidable c} {t e r : γ} (h : ¬ c) (g : e = r) : @ite γ c i t e = r := by rw [if_neg h]; exact g
theorem condt {γ : Type} {a b r : γ} (g : b = r) : cond (!true) a b = r := g
def colorB (x : Int) : Bool := inB x 0 5
def goodB (w h : Int) (l : List Int) : Bool := inB w 1 8 && inB h 1 8 && decide ((l.length : Int) = w * h) && l.all colorB
theorem mul_bd {w h : Int} (hw : 1 ≤ w ∧ w ≤ 8) (hh : 1 ≤ h ∧ h ≤ 8) : 1 ≤ w * h ∧ w * h ≤ 64 := by
  obtain ⟨a, b⟩ := hw; obtain ⟨c, d⟩ := hh
  have h1 : w = 1 ∨ w = 2 ∨ w = 3 ∨ w = 4 ∨ w = 5 ∨ w = 6 ∨ w = 7 ∨ w = 8 := by omega
  rcases h1 with rfl | rfl | rfl | rfl | rfl | rfl | rfl | rfl <;> omega
theorem good_of {w h : Int} {l : List Int} (hg : goodB w h l = true) : (1 ≤ w ∧ w ≤ 8) ∧ (1 ≤ h ∧ h ≤ 8) ∧ (l.length : Int) = w * h ∧ ∀ x ∈ l, 0 ≤ x ∧ x ≤ 5 := by
  unfold goodB at hg
  simp only [Bool.and_eq_true, decide_eq_true_eq, List.all_eq_true, inB_iff] at hg
  exact ⟨hg.1.1.1, hg.1.1.2, hg.1.2, fun x hx => inB_iff.1 (hg.2 x hx)⟩
theorem allI_iff (p : Int → Bool) (xs : List Int) : xs.all p = true ↔ ∀ i, i < xs.length → p (xs.getD i 0) = true := by
  rw [List.all_eq_true]
  constructor
  · intro h i hi; rw [getD_lt hi]; exact h _ (List.getElem_mem hi)
  · intro h x hx
    obtain ⟨i, hi, rfl⟩ := List.mem_iff_getElem.1 hx
    rw [← getD_lt (d := 0) hi]; exact h i hi
theorem specIn_eq (k : Nat) (n lo hi : Int) : spec_l1In.f k n lo hi = some (inB n lo hi) := by
  unfold spec_l1In.f spec_l1In.m inB; by_cases h : lo ≤ n <;> simp [h]
theorem implIn_eq (k : Nat) (n lo hi : Int) : impl_in.f k n lo hi = some (inB n lo hi) := by
  unfold impl_in.f impl_in.m inB; by_cases h : lo ≤ n <;> simp [h]
theorem l2Color_eq (k : Nat) (n : Int) : spec_l2Color.f k n = some (colorB n) := by unfold spec_l2Color.f spec_l2Color.m; rw [specIn_eq]; rfl
theorem l2Side_eq (k : Nat) (n : Int) : spec_l2Side.f k n = some (inB n 1 8) := by unfold spec_l2Side.f spec_l2Side.m; rw [specIn_eq]; rfl
theorem isColor_eq (k : Nat) (n : Int) : impl_isColor.f k n = some (colorB n) := by unfold impl_isColor.f impl_isColor.m; rw [implIn_eq]; rfl
theorem isSide_eq (k : Nat) (n : Int) : impl_isSide.f k n = some (inB n 1 8) := by unfold impl_isSide.f impl_isSide.m; rw [implIn_eq]; rfl
theorem l2Good_eq (k : Nat) (w h : Int) (l : List Int) (hl : l.length ≤ 100000000000000) (hk : l.length + 50 ≤ k) : spec_l2Good.f k w h l = some (goodB w h l) := by
  unfold spec_l2Good.f spec_l2Good.m
  have hq := (all_loop (L := fun k i => spec_l2Good.l3 k w h l (i : Int)) (n := l.length) (K0 := 20) (ok := fun i => colorB (l.getD i 0)) (f := some false) (fun k i hk hi => ?_)) l.length k 0 (by omega) (by omega)
  · rw [show ((0 : Nat) : Int) = 0 from rfl] at hq
    by_cases hc : l.all colorB = true
    · rw [hq.1 _ (fun k hk => ?_) (fun j _ hj => (allI_iff _ _).1 hc j hj)]
      simp (disch := omega) only [spec_l2Good.l3, spec_l2Good.b3, if_neg, l2Side_eq, Option.bind_some]
      unfold goodB
      cases e1 : inB w 1 8 <;> simp only [Bool.not_true, Bool.not_false, cond_true, cond_false, Bool.true_and, Bool.false_and, Bool.and_true, Bool.and_false, Bool.false_eq_true, Bool.true_or, Bool.or_true, Bool.false_or, Bool.or_false, Bool.or_self, Bool.and_self, decide_true, decide_false, if_true, if_false, not_true, not_false_eq_true, not_true_eq_false, false_or, or_false, true_and, and_true, Bool.not_eq_true, Bool.true_eq_false, reduceCtorEq]
      cases e2 : inB h 1 8 <;> simp only [Bool.not_true, Bool.not_false, cond_true, cond_false, Bool.true_and, Bool.false_and, Bool.and_true, Bool.and_false, Bool.false_eq_true, Bool.true_or, Bool.or_true, Bool.false_or, Bool.or_false, Bool.or_self, Bool.and_self, decide_true, decide_false, if_true, if_false, not_true, not_false_eq_true, not_true_eq_false, false_or, or_false, true_and, and_true, Bool.not_eq_true, Bool.true_eq_false, reduceCtorEq, hc, Option.bind_some]
      have := mul_bd (inB_iff.1 e1) (inB_iff.1 e2)
      rw [w64_id (by omega)]
    · rw [hq.2 (exists_bad fun hn => hc ((allI_iff _ _).2 hn))]
      unfold goodB; rw [notB hc]; simp
  · simp (disch := omega) only [spec_l2Good.l3, spec_l2Good.b3, if_pos, chk_nat, Option.bind_some, w64_id, l2Color_eq, Int.natCast_add, Int.cast_ofNat_Int]
    cases colorB (l.getD i 0) <;> simp only [Bool.not_true, Bool.not_false, cond_true, cond_false, Bool.true_and, Bool.false_and, Bool.and_true, Bool.and_false, Bool.false_eq_true, Bool.true_or, Bool.or_true, Bool.false_or, Bool.or_false, Bool.or_self, Bool.and_self, decide_true, decide_false, if_true, if_false, not_true, not_false_eq_true, not_true_eq_false, false_or, or_false, true_and, and_true, Bool.not_eq_true, Bool.true_eq_false, reduceCtorEq]
theorem areColors_eq (k : Nat) (l : List Int) (hl : l.length ≤ 100000000000000) (hk : l.length + 50 ≤ k) : impl_areAll_int__impl_isColor.f k l = some (l.all colorB) := by
  unfold impl_areAll_int__impl_isColor.f impl_areAll_int__impl_isColor.m slices_ContainsFunc_int_int__impl_areAll_int_1__impl_isColor.f slices_ContainsFunc_int_int__impl_areAll_int_1__impl_isColor.m slices_IndexFunc_int_int__impl_areAll_int_1__impl_isColor.f slices_IndexFunc_int_int__impl_areAll_int_1__impl_isColor.m
  have h := (find_loop (L := fun k i => slices_IndexFunc_int_int__impl_areAll_int_1__impl_isColor.l3 k l l.length (i : Int)) (n := l.length) (K0 := 20) (ok := fun i => !colorB (l.getD i 0)) (fun k i hk hi => ?_) (fun k hk => ?_)) l.length k 0 (by omega) (by omega)
  · rw [show ((0 : Nat) : Int) = 0 from rfl] at h
    by_cases ha : l.all colorB = true
    · rw [h.1 (fun j _ hj => by rw [(allI_iff _ _).1 ha j hj]; rfl), ha]; rfl
    · obtain ⟨m, h1, h2, h3⟩ := first_bad (n := l.length) (ok := fun i => colorB (l.getD i 0)) (fun hn => ha ((allI_iff _ _).2 hn))
      rw [h.2 m (Nat.zero_le _) h1 (by rw [h2]; rfl) (fun j _ hj => by rw [h3 j hj]; rfl), notB ha]
      simp
  · simp (disch := omega) only [slices_IndexFunc_int_int__impl_areAll_int_1__impl_isColor.l3, slices_IndexFunc_int_int__impl_areAll_int_1__impl_isColor.b3, impl_areAll_int_1__impl_isColor.f, impl_areAll_int_1__impl_isColor.m, isColor_eq, if_pos, chk_nat, Option.bind_some, w64_id, Int.natCast_add, Int.cast_ofNat_Int]
    cases colorB (l.getD i 0) <;> simp only [Bool.not_true, Bool.not_false, cond_true, cond_false, Bool.true_and, Bool.false_and, Bool.and_true, Bool.and_false, Bool.false_eq_true, Bool.true_or, Bool.or_true, Bool.false_or, Bool.or_false, Bool.or_self, Bool.and_self, decide_true, decide_false, if_true, if_false, not_true, not_false_eq_true, not_true_eq_false, false_or, or_false, true_and, and_true, Bool.not_eq_true, Bool.true_eq_false, reduceCtorEq]
  · simp (disch := omega) only [slices_IndexFunc_int_int__impl_areAll_int_1__impl_isColor.l3, slices_IndexFunc_int_int__impl_areAll_int_1__impl_isColor.b3, if_neg]
theorem isChart_eq (k : Nat) (w h : Int) (l : List Int) (hl : l.length ≤ 100000000000000) (hk : l.length + 50 ≤ k) : impl_IsChart.f k w h l = some (goodB w h l) := by
  unfold impl_IsChart.f impl_IsChart.m goodB
  rw [isSide_eq, isSide_eq, areColors_eq k l hl hk]
  simp only [Option.bind_some]
  cases e1 : inB w 1 8 <;> simp only [Bool.not_true, Bool.not_false, cond_true, cond_false, Bool.true_and, Bool.false_and, Bool.and_true, Bool.and_false, Bool.false_eq_true, Bool.true_or, Bool.or_true, Bool.false_or, Bool.or_false, Bool.or_self, Bool.and_self, decide_true, decide_false, if_true, if_false, not_true, not_false_eq_true, not_true_eq_false, false_or, or_false, true_and, and_true, Bool.not_eq_true, Bool.true_eq_false, reduceCtorEq]
  cases e2 : inB h 1 8 <;> simp only [Bool.not_true, Bool.not_false, cond_true, cond_false, Bool.true_and, Bool.false_and, Bool.and_true, Bool.and_false, Bool.false_eq_true, Bool.true_or, Bool.or_true, Bool.false_or, Bool.or_false, Bool.or_self, Bool.and_self, decide_true, decide_false, if_true, if_false, not_true, not_false_eq_true, not_true_eq_false, false_or, or_false, true_and, and_true, Bool.not_eq_true, Bool.true_eq_false, reduceCtorEq]
  have := mul_bd (inB_iff.1 e1) (inB_iff.1 e2)
  rw [w64_id (by omega)]
  by_cases e : (l.length : Int) = w * h <;> simp [e]
theorem cloneI_eq (k : Nat) (cs : List Int) (hl : cs.length ≤ 5000000) : slices_Clone_int_int.f k cs = some cs := by unfold slices_Clone_int_int.f; rw [app_ok (by simp; omega)]; rfl
theorem ownI_eq (k : Nat) (cs : List Int) (hl : cs.length ≤ 5000000) : spec_l1Own.f k cs = some cs := by unfold spec_l1Own.f spec_l1Own.m; rw [app_ok (by simp; omega)]; rfl
theorem copied_eq (k : Nat) (w h : Int) (l : List Int) (hl : l.length ≤ 5000000) : impl_Chart_copied.f k w h l = some (w, h, l) := by unfold impl_Chart_copied.f impl_Chart_copied.m; rw [cloneI_eq k l hl]; rfl
theorem l2Own_eq (k : Nat) (w h : Int) (l : List Int) (hl : l.length ≤ 5000000) : spec_l2Own.f k w h l = some (w, h, l) := by unfold spec_l2Own.f spec_l2Own.m; rw [ownI_eq k l hl]; rfl
theorem nat_mul_cast (a b : Nat) : ((a * b : Nat) : Int) = (a : Int) * b := Int.natCast_mul a b
theorem lenN {w h : Nat} {l : List Int} (hl : (l.length : Int) = (w : Int) * (h : Int)) : l.length = w * h := by rw [← nat_mul_cast] at hl; omega
theorem quoL {n p : Nat} (hp : 1 ≤ p) (hn : n ≤ 1000000) : quo .i64 (n : Int) (p : Int) = some ((n / p : Nat) : Int) := by
  unfold quo
  rw [if_neg (by omega), ← Int.ofNat_tdiv]
  have : n / p ≤ n := Nat.div_le_self n p
  generalize n / p = q at *
  rw [show IntKind.i64.wrap (q : Int) = w64 (q : Int) from rfl, w64_id (by omega)]
theorem remL (r h : Nat) (hh : 1 ≤ h) : rem (r : Int) (h : Int) = some ((r % h : Nat) : Int) := by
  unfold rem; rw [if_neg (by omega), ← Int.ofNat_tmod]
/-- The places above, left, right and below. -/
def nb (w h i : Nat) : List Int := (if 0 < i / w then [(i : Int) - w] else []) ++ ((if 0 < i % w then [(i : Int) - 1] else []) ++ ((if i % w + 1 < w then [(i : Int) + 1] else []) ++ (if i / w + 1 < h then [(i : Int) + w] else [])))
theorem nb_in {w h i : Nat} (hw : 1 ≤ w) (hi : i < w * h) : ∀ j ∈ nb w h i, 0 ≤ j ∧ j < ((w * h : Nat) : Int) := by
  intro j hj
  have hdm := Nat.div_add_mod i w
  have hc : i % w < w := Nat.mod_lt _ hw
  have hr : i / w < h := Nat.div_lt_of_lt_mul hi
  have b1 : 0 < i / w → w ≤ w * (i / w) := fun h => Nat.le_mul_of_pos_right w h
  have b2 : i / w + 1 < h → w * (i / w) + w + w ≤ w * h := fun h0 => by
    have : w * (i / w + 2) ≤ w * h := Nat.mul_le_mul_left _ (by omega)
    rw [Nat.mul_add] at this; omega
  have b3 : w * (i / w) + w ≤ w * h := by
    have : w * (i / w + 1) ≤ w * h := Nat.mul_le_mul_left _ (by omega)
    rw [Nat.mul_add] at this; omega
  unfold nb at hj
  simp only [List.mem_append] at hj
  rcases hj with hj | hj | hj | hj
  · split at hj
    · rename_i h0; rw [List.mem_singleton] at hj; have := b1 h0; omega
    · cases hj
  · split at hj
    · rename_i h0; rw [List.mem_singleton] at hj; omega
    · cases hj
  · split at hj
    · rename_i h0; rw [List.mem_singleton] at hj; omega
    · cases hj
  · split at hj
    · rename_i h0; rw [List.mem_singleton] at hj; have := b2 h0; omega
    · cases hj
theorem nb_len (w h i : Nat) : (nb w h i).length ≤ 4 := by
  unfold nb
  simp only [List.length_append]
  repeat' split
  all_goals simp
theorem specNext_eq (k : Nat) {w h i : Nat} (l : List Int) (hw : 1 ≤ w ∧ w ≤ 8) (hh : 1 ≤ h ∧ h ≤ 8) (hi : i < w * h) (hk : 10 ≤ k) : spec_l12Next.f k (w : Int) (h : Int) l (i : Int) = some (nb w h i) := by
  obtain ⟨k, rfl⟩ : ∃ j, k = j + 3 := ⟨k - 3, by omega⟩
  have h64 : w * h ≤ 64 := Nat.mul_le_mul hw.2 hh.2
  have hc : i % w < w := Nat.mod_lt _ (by omega)
  have hr : i / w < h := Nat.div_lt_of_lt_mul hi
  unfold spec_l12Next.f spec_l12Next.m nb
  rw [quoL hw.1 (by omega), remL i w hw.1]; simp only [Option.bind_some]
  have h7 : ∀ acc : List Int, acc.length ≤ 10 → spec_l12Next.l7 (k + 1) (i : Int) (w : Int) (h : Int) l ((i / w : Nat) : Int) acc = some (acc ++ (if i / w + 1 < h then [(i : Int) + w] else [])) := fun acc ha => by
    simp only [spec_l12Next.l7, spec_l12Next.b7]
    rw [w64_id (x := (h : Int) - 1) (by omega)]
    by_cases e : i / w + 1 < h
    · rw [if_pos (by omega), if_pos e, app_ok (by simp; omega), w64_id (by omega)]; rfl
    · rw [if_neg (by omega), if_neg e, List.append_nil]
  have h5 : ∀ acc : List Int, acc.length ≤ 8 → spec_l12Next.l5 (k + 2) (i : Int) (w : Int) (h : Int) l ((i / w : Nat) : Int) ((i % w : Nat) : Int) acc = some (acc ++ ((if i % w + 1 < w then [(i : Int) + 1] else []) ++ (if i / w + 1 < h then [(i : Int) + w] else []))) := fun acc ha => by
    rw [show k + 2 = (k + 1) + 1 from rfl]
    simp only [spec_l12Next.l5, spec_l12Next.b5]
    rw [w64_id (x := (w : Int) - 1) (by omega)]
    by_cases e : i % w + 1 < w
    · rw [if_pos (by omega), if_pos e, app_ok (by simp; omega), w64_id (by omega)]; simp only [Option.bind_some]
      rw [h7 _ (by simp; omega), List.append_assoc]
    · rw [if_neg (by omega), if_neg e, h7 _ (by omega), List.nil_append]
  have h3 : ∀ acc : List Int, acc.length ≤ 6 → spec_l12Next.l3 (k + 3) (i : Int) (w : Int) (h : Int) l ((i / w : Nat) : Int) ((i % w : Nat) : Int) acc = some (acc ++ ((if 0 < i % w then [(i : Int) - 1] else []) ++ ((if i % w + 1 < w then [(i : Int) + 1] else []) ++ (if i / w + 1 < h then [(i : Int) + w] else [])))) := fun acc ha => by
    rw [show k + 3 = (k + 2) + 1 from rfl]
    simp only [spec_l12Next.l3, spec_l12Next.b3]
    by_cases e : 0 < i % w
    · rw [if_pos (by omega), if_pos e, app_ok (by simp; omega), w64_id (by omega)]; simp only [Option.bind_some]
      rw [h5 _ (by simp; omega), List.append_assoc]
    · rw [if_neg (by omega), if_neg e, h5 _ (by omega), List.nil_append]
  by_cases e : 0 < i / w
  · rw [if_pos (by omega), if_pos e, app_ok (by simp), w64_id (by omega)]; simp only [Option.bind_some]
    rw [h3 _ (by simp), List.nil_append]
  · rw [if_neg (by omega), if_neg e, h3 _ (by simp), List.nil_append]
theorem hasPl_eq (k : Nat) (w h : Int) (l : List Int) (r c : Int) (hw : 1 ≤ w ∧ w ≤ 8) (hh : 1 ≤ h ∧ h ≤ 8) : impl_Chart_hasPlace.f k w h l r c = some (inB r 0 (h - 1) && inB c 0 (w - 1)) := by
  unfold impl_Chart_hasPlace.f impl_Chart_hasPlace.m
  simp only [Option.bind_some, implIn_eq]
  rw [w64_id (x := h - 1) (by omega), w64_id (x := w - 1) (by omega)]
  cases inB r 0 (h - 1) <;> simp only [Bool.not_true, Bool.not_false, cond_true, cond_false, Bool.true_and, Bool.false_and, Bool.and_true, Bool.and_false, Bool.false_eq_true, Bool.true_or, Bool.or_true, Bool.false_or, Bool.or_false, Bool.or_self, Bool.and_self, decide_true, decide_false, if_true, if_false, not_true, not_false_eq_true, not_true_eq_false, false_or, or_false, true_and, and_true, Bool.not_eq_true, Bool.true_eq_false, reduceCtorEq]
theorem inB_eq {n lo hi : Int} {p : Prop} [Decidable p] (h : (lo ≤ n ∧ n ≤ hi) ↔ p) : inB n lo hi = decide p := by
  by_cases e : p
  · rw [decide_eq_true e, inB_of (h.2 e)]
  · rw [decide_eq_false e, notB (fun hh => e (h.1 (inB_iff.1 hh)))]
theorem implBes_eq (k : Nat) {w h i : Nat} (l : List Int) (hw : 1 ≤ w ∧ w ≤ 8) (hh : 1 ≤ h ∧ h ≤ 8) (hi : i < w * h) (hk : 10 ≤ k) : impl_Chart_besides.f k (w : Int) (h : Int) l (i : Int) = some (nb w h i) := by
  obtain ⟨k, rfl⟩ : ∃ j, k = j + 5 := ⟨k - 5, by omega⟩
  have h64 : w * h ≤ 64 := Nat.mul_le_mul hw.2 hh.2
  have hc : i % w < w := Nat.mod_lt _ (by omega)
  have hr : i / w < h := Nat.div_lt_of_lt_mul hi
  unfold impl_Chart_besides.f impl_Chart_besides.m nb
  rw [quoL hw.1 (by omega), remL i w hw.1]; simp only [Option.bind_some]
  generalize i / w = q at hr ⊢
  generalize i % w = m at hc ⊢
  rw [show ((([(-1, 0), (0, -1), (0, 1), (1, 0)] : List (Int × Int)).length : Nat) : Int) = 4 from rfl]
  have step : ∀ (k : Nat) (x : Int) (n : Nat) (d0 d1 : Int) (v : Int) (p : Prop) [Decidable p] (acc : List Int), acc.length ≤ 10 → n < 4 → x = (n : Int) → ([(-1, 0), (0, -1), (0, 1), (1, 0)] : List (Int × Int)).getD n (0, 0) = (d0, d1) → -1 ≤ d0 → d0 ≤ 1 → -1 ≤ d1 → d1 ≤ 1 → v = (i : Int) + d0 * w + d1 → (((0 ≤ (q : Int) + d0 ∧ (q : Int) + d0 ≤ (h : Int) - 1) ∧ 0 ≤ (m : Int) + d1 ∧ (m : Int) + d1 ≤ (w : Int) - 1) ↔ p) → impl_Chart_besides.l5 (k + 1) (i : Int) (w : Int) (h : Int) l acc (q : Int) (m : Int) [(-1, 0), (0, -1), (0, 1), (1, 0)] 4 x = impl_Chart_besides.l5 k (i : Int) (w : Int) (h : Int) l (acc ++ (if p then [v] else [])) (q : Int) (m : Int) [(-1, 0), (0, -1), (0, 1), (1, 0)] 4 (x + 1) := fun k x n d0 d1 v p _ acc ha hn hx hg a1 a2 a3 a4 hv hp => by
    subst hx
    have hdw : -8 ≤ d0 * (w : Int) ∧ d0 * (w : Int) ≤ 8 := by
      rcases (show d0 = -1 ∨ d0 = 0 ∨ d0 = 1 by omega) with rfl | rfl | rfl <;> omega
    simp only [impl_Chart_besides.l5, impl_Chart_besides.b5]
    rw [if_pos (by omega), chk_nat (by simpa using hn)]; simp only [Option.bind_some]
    rw [hg, w64_id (x := (q : Int) + (d0, d1).1) (by dsimp only; omega), w64_id (x := (m : Int) + (d0, d1).2) (by dsimp only; omega), hasPl_eq k _ _ _ _ _ (by omega) (by omega)]; simp only [Option.bind_some]
    rw [w64_id (x := d0 * (w : Int)) (by omega), w64_id (x := (i : Int) + d0 * (w : Int)) (by omega), w64_id (x := (i : Int) + d0 * (w : Int) + d1) (by omega), w64_id (x := (n : Int) + 1) (by omega), ← hv]
    have hb : (inB ((q : Int) + d0) 0 ((h : Int) - 1) && inB ((m : Int) + d1) 0 ((w : Int) - 1)) = decide p := by
      unfold inB
      by_cases e : p
      · obtain ⟨⟨q1, q2⟩, q3, q4⟩ := hp.2 e
        rw [decide_eq_true q1, decide_eq_true q2, decide_eq_true q3, decide_eq_true q4, decide_eq_true e]; rfl
      · rw [decide_eq_false e]
        apply notB
        intro hh
        simp only [Bool.and_eq_true, decide_eq_true_eq] at hh
        exact e (hp.1 ⟨hh.1, hh.2⟩)
    rw [hb]
    by_cases e : p
    · rw [decide_eq_true e, if_pos e, cond_true, app_ok (by simp; omega)]; rfl
    · rw [decide_eq_false e, if_neg e, cond_false, List.append_nil]
  have fin_ : ∀ (k : Nat) (acc : List Int), impl_Chart_besides.l5 (k + 1) (i : Int) (w : Int) (h : Int) l acc (q : Int) (m : Int) [(-1, 0), (0, -1), (0, 1), (1, 0)] 4 4 = some acc := fun k acc => by
    simp only [impl_Chart_besides.l5, impl_Chart_besides.b5]
    rw [if_neg (by omega)]
  have ln : ∀ (p : Prop) [Decidable p] (v : Int), (if p then [v] else []).length ≤ 1 := fun p _ v => by split <;> simp
  have e1 := ln (0 < q) ((i : Int) - w)
  have e2 := ln (0 < m) ((i : Int) - 1)
  have e3 := ln (m + 1 < w) ((i : Int) + 1)
  rw [step (k + 4) 0 0 (-1) 0 ((i : Int) - w) (0 < q) [] (by simp) (by omega) rfl rfl (by omega) (by omega) (by omega) (by omega) (by omega) (by omega),
    step (k + 3) (0 + 1) 1 0 (-1) ((i : Int) - 1) (0 < m) _ (by simp only [List.length_append, List.length_nil]; omega) (by omega) rfl rfl (by omega) (by omega) (by omega) (by omega) (by omega) (by omega),
    step (k + 2) (0 + 1 + 1) 2 0 1 ((i : Int) + 1) (m + 1 < w) _ (by simp only [List.length_append, List.length_nil]; omega) (by omega) rfl rfl (by omega) (by omega) (by omega) (by omega) (by omega) (by omega),
    step (k + 1) (0 + 1 + 1 + 1) 3 1 0 ((i : Int) + w) (q + 1 < h) _ (by simp only [List.length_append, List.length_nil]; omega) (by omega) rfl rfl (by omega) (by omega) (by omega) (by omega) (by omega) (by omega),
    show (0 : Int) + 1 + 1 + 1 + 1 = 4 from rfl, fin_, List.nil_append, List.append_assoc, List.append_assoc]
def neg (o : List Int) : Nat := o.countP (fun x => decide (x < 0))
theorem neg_set {o : List Int} {j : Nat} {v : Int} (hj : j < o.length) (h0 : o.getD j 0 < 0) (hv : 0 ≤ v) : neg (o.set j v) + 1 = neg o := by
  unfold neg
  have h1 : o = o.take j ++ o[j] :: o.drop (j + 1) := by rw [← List.drop_eq_getElem_cons hj, List.take_append_drop]
  rw [getD_lt hj] at h0
  have h2 : o.set j v = o.take j ++ v :: o.drop (j + 1) := by rw [List.set_eq_take_append_cons_drop, if_pos hj]
  rw [h2]
  conv => rhs; rw [h1]
  rw [List.countP_append, List.countP_append, List.countP_cons_of_neg (by simp; omega), List.countP_cons_of_pos (by simpa using h0)]
  omega
theorem neg_le (o : List Int) : neg o ≤ o.length := List.countP_le_length
/-- The places of a list that are of the same color and in no area yet. -/
def fold1 (kn : List Int) (i : Nat) (n : Int) : List Int → List Int → List Int → List Int × List Int
  | [], o, m => (o, m)
  | j :: r, o, m => if o.getD j.toNat 0 < 0 ∧ kn.getD j.toNat 0 = kn.getD i 0 then fold1 kn i n r (o.set j.toNat n) (m ++ [j]) else fold1 kn i n r o m
def inL (N : Nat) (m : List Int) : Prop := ∀ j ∈ m, 0 ≤ j ∧ j < (N : Int)
theorem inL_snoc {N : Nat} {m : List Int} {j : Int} (h : inL N m) (hj : 0 ≤ j ∧ j < (N : Int)) : inL N (m ++ [j]) := by
  intro x hx; rw [List.mem_append, List.mem_singleton] at hx
  rcases hx with hx | rfl
  · exact h x hx
  · exact hj
theorem fold1_ok {N : Nat} {kn : List Int} {i : Nat} {n : Int} (hn : 0 ≤ n) : ∀ (r o m : List Int), inL N r → inL N m → o.length = N → (fold1 kn i n r o m).1.length = N ∧ inL N (fold1 kn i n r o m).2 ∧ (fold1 kn i n r o m).2.length + neg (fold1 kn i n r o m).1 = m.length + neg o ∧ m.length ≤ (fold1 kn i n r o m).2.length
  | [], o, m, _, hm, ho => ⟨ho, hm, rfl, Nat.le_refl _⟩
  | j :: r, o, m, hr, hm, ho => by
    have hj := hr j List.mem_cons_self
    have hr' : inL N r := fun x hx => hr x (List.mem_cons_of_mem _ hx)
    unfold fold1
    by_cases e : o.getD j.toNat 0 < 0 ∧ kn.getD j.toNat 0 = kn.getD i 0
    · rw [if_pos e]
      obtain ⟨a, b, c, d⟩ := fold1_ok hn r (o.set j.toNat n) (m ++ [j]) hr' (inL_snoc hm hj) (by rw [List.length_set]; exact ho)
      have := neg_set (o := o) (j := j.toNat) (v := n) (by omega) e.1 hn
      rw [List.length_append, List.length_singleton] at c d
      exact ⟨a, b, by omega, by omega⟩
    · rw [if_neg e]; exact fold1_ok hn r o m hr' hm ho
def bfs (w h : Nat) (kn : List Int) (i : Nat) (n : Int) : Nat → Nat → List Int → List Int → List Int
  | 0, _, o, _ => o
  | M + 1, q, o, m => if q < m.length then bfs w h kn i n M (q + 1) (fold1 kn i n (nb w h (m.getD q 0).toNat) o m).1 (fold1 kn i n (nb w h (m.getD q 0).toNat) o m).2 else o
theorem spec27 {w h i q : Nat} {kn : List Int} {n : Int} (hk8 : kn.length = w * h) (h64 : w * h ≤ 64) (hi : i < w * h) (hn : 0 ≤ n ∧ n ≤ 64) (nbs : List Int) (hnb : inL (w * h) nbs) (hnl : nbs.length ≤ 4) (hq : q ≤ 100) : ∀ (d k j : Nat) (o m : List Int), j + d = nbs.length → 2 * d + 1 < k → o.length = w * h → m.length + d ≤ 200 →
    ∃ k', k ≤ k' + 2 * d + 1 ∧ spec_l12Areas.l27 k (w : Int) (h : Int) kn o n (i : Int) m (q : Int) nbs (j : Int) = spec_l12Areas.l21 k' (w : Int) (h : Int) kn (fold1 kn i n (nbs.drop j) o m).1 n (i : Int) (fold1 kn i n (nbs.drop j) o m).2 ((q + 1 : Nat) : Int) := by
  intro d
  induction d with
  | zero =>
    intro k j o m h1 h2 h3 h4
    obtain ⟨k, rfl⟩ := succ_of (show 0 < k by omega)
    refine ⟨k, by omega, ?_⟩
    rw [List.drop_of_length_le (by omega)]
    simp only [spec_l12Areas.l27, spec_l12Areas.b27, fold1]
    rw [if_neg (by omega), w64_id (by omega), show (q : Int) + 1 = ((q + 1 : Nat) : Int) by omega]
  | succ d ih =>
    intro k j o m h1 h2 h3 h4
    obtain ⟨k, rfl⟩ : ∃ k', k = k' + 2 := ⟨k - 2, by omega⟩
    have hj : j < nbs.length := by omega
    have hv := hnb _ (List.getElem_mem hj)
    rw [← getD_lt (d := (0 : Int)) hj] at hv
    rw [List.drop_eq_getElem_cons hj, ← getD_lt (d := (0 : Int)) hj]
    rw [show k + 2 = (k + 1) + 1 from rfl]
    simp only [spec_l12Areas.l27, spec_l12Areas.b27]
    rw [if_pos (by omega), chk_nat hj]; simp only [Option.bind_some]
    rw [chk_int (n := o.length) (by omega), chk_int (n := kn.length) (i := nbs.getD j 0) (by omega), chk_nat (n := kn.length) (by omega)]; simp only [Option.bind_some]
    have hno : ∀ k, spec_l12Areas.l31 (k + 1) (w : Int) (h : Int) kn o n (i : Int) m (q : Int) nbs (j : Int) false = spec_l12Areas.l27 k (w : Int) (h : Int) kn o n (i : Int) m (q : Int) nbs ((j + 1 : Nat) : Int) := fun k => by
      simp only [spec_l12Areas.l31, spec_l12Areas.b31, cond_false]
      rw [w64_id (by omega), show (j : Int) + 1 = ((j + 1 : Nat) : Int) by omega]
    by_cases e1 : o.getD (nbs.getD j 0).toNat 0 < 0
    · rw [if_pos e1]
      by_cases e2 : kn.getD (nbs.getD j 0).toNat 0 = kn.getD i 0
      · rw [decide_eq_true e2]
        simp only [spec_l12Areas.l31, spec_l12Areas.b31, cond_true]
        rw [chk_nat hj]; simp only [Option.bind_some]
        rw [chk_int (n := o.length) (by omega), app_ok (by simp; omega), w64_id (by omega), show (j : Int) + 1 = ((j + 1 : Nat) : Int) by omega]; simp only [Option.bind_some]
        obtain ⟨k', q1, q2⟩ := ih k (j + 1) (o.set (nbs.getD j 0).toNat n) (m ++ [nbs.getD j 0]) (by omega) (by omega) (by rw [List.length_set]; exact h3) (by rw [List.length_append, List.length_singleton]; omega)
        refine ⟨k', by omega, ?_⟩
        rw [q2, fold1, if_pos ⟨e1, e2⟩]
      · rw [decide_eq_false e2, hno]
        obtain ⟨k', q1, q2⟩ := ih k (j + 1) o m (by omega) (by omega) h3 (by omega)
        refine ⟨k', by omega, ?_⟩
        rw [q2, fold1, if_neg (fun hh => e2 hh.2)]
    · rw [if_neg e1, hno]
      obtain ⟨k', q1, q2⟩ := ih k (j + 1) o m (by omega) (by omega) h3 (by omega)
      refine ⟨k', by omega, ?_⟩
      rw [q2, fold1, if_neg (fun hh => e1 hh.1)]
theorem spec21 {w h i : Nat} {kn : List Int} {n : Int} (hw : 1 ≤ w ∧ w ≤ 8) (hh : 1 ≤ h ∧ h ≤ 8) (hk8 : kn.length = w * h) (hi : i < w * h) (hn : 0 ≤ n ∧ n ≤ 64) : ∀ (M k q : Nat) (o m : List Int), (m.length - q) + neg o ≤ M → 20 * M + 50 < k → q ≤ m.length → m.length + neg o ≤ 70 → o.length = w * h → inL (w * h) m →
    ∃ k', k ≤ k' + 20 * M + 1 ∧ spec_l12Areas.l21 k (w : Int) (h : Int) kn o n (i : Int) m (q : Int) = spec_l12Areas.l11 k' (w : Int) (h : Int) kn (bfs w h kn i n M q o m) (n + 1) ((i + 1 : Nat) : Int) := by
  have h64 : w * h ≤ 64 := Nat.mul_le_mul hw.2 hh.2
  have stop : ∀ (k q : Nat) (o m : List Int), m.length ≤ q → spec_l12Areas.l21 (k + 1) (w : Int) (h : Int) kn o n (i : Int) m (q : Int) = spec_l12Areas.l11 k (w : Int) (h : Int) kn o (n + 1) ((i + 1 : Nat) : Int) := fun k q o m hq => by
    simp only [spec_l12Areas.l21, spec_l12Areas.b21]
    rw [if_neg (by omega), w64_id (by omega), w64_id (by omega), show (i : Int) + 1 = ((i + 1 : Nat) : Int) by omega]
  intro M
  induction M with
  | zero =>
    intro k q o m h1 h2 h3 h4 h5 h6
    obtain ⟨k, rfl⟩ := succ_of (show 0 < k by omega)
    exact ⟨k, by omega, stop k q o m (by omega)⟩
  | succ M ih =>
    intro k q o m h1 h2 h3 h4 h5 h6
    obtain ⟨k, rfl⟩ := succ_of (show 0 < k by omega)
    unfold bfs
    by_cases e : q < m.length
    · have hv := h6 _ (List.getElem_mem e)
      rw [← getD_lt (d := (0 : Int)) e] at hv
      obtain ⟨v, hv2⟩ := Int.eq_ofNat_of_zero_le hv.1
      have hvl : v < w * h := by omega
      have hnb : inL (w * h) (nb w h v) := nb_in hw.1 hvl
      rw [if_pos e, hv2, Int.toNat_natCast]
      simp only [spec_l12Areas.l21, spec_l12Areas.b21]
      rw [if_pos (by omega), chk_nat e]; simp only [Option.bind_some]
      rw [hv2, specNext_eq k kn hw hh hvl (by omega)]; simp only [Option.bind_some]
      have hl4 := nb_len w h v
      obtain ⟨k1, q1, q2⟩ := spec27 (q := q) hk8 h64 hi hn (nb w h v) hnb hl4 (by omega) _ k 0 o m (Nat.zero_add _) (by omega) h5 (by omega)
      rw [List.drop_zero, show ((0 : Nat) : Int) = 0 from rfl] at q2
      rw [q2]
      obtain ⟨f1, f2, f3, f4⟩ := fold1_ok (kn := kn) (i := i) hn.1 (nb w h v) o m hnb h6 h5
      obtain ⟨k', q3, q4⟩ := ih k1 (q + 1) _ _ (by omega) (by omega) (by omega) (by omega) f1 f2
      exact ⟨k', by omega, q4⟩
    · rw [if_neg e]
      exact ⟨k, by omega, stop k q o m (by omega)⟩
def outR (w h : Nat) (kn : List Int) : Nat → Nat → List Int → Int → List Int × Int
  | 0, _, o, n => (o, n)
  | d + 1, i, o, n => if 0 ≤ o.getD i 0 then outR w h kn d (i + 1) o n else outR w h kn d (i + 1) (bfs w h kn i n 70 0 (o.set i n) [(i : Int)]) (n + 1)
theorem bfs_len {w h i : Nat} {kn : List Int} {n : Int} (hw : 1 ≤ w) (hn : 0 ≤ n) : ∀ (M q : Nat) (o m : List Int), o.length = w * h → inL (w * h) m → (bfs w h kn i n M q o m).length = w * h := by
  intro M
  induction M with
  | zero => intro q o m h1 _; exact h1
  | succ M ih =>
    intro q o m h1 h2
    unfold bfs
    by_cases e : q < m.length
    · have hv := h2 _ (List.getElem_mem e)
      rw [← getD_lt (d := (0 : Int)) e] at hv
      rw [if_pos e]
      obtain ⟨f1, f2, _, _⟩ := fold1_ok (kn := kn) (i := i) hn (nb w h (m.getD q 0).toNat) o m (nb_in hw (by omega)) h2 h1
      exact ih _ _ _ f1 f2
    · rw [if_neg e]; exact h1
theorem outR_len {w h : Nat} {kn : List Int} (hw : 1 ≤ w) : ∀ (d i : Nat) (o : List Int) (n : Int), i + d ≤ w * h → 0 ≤ n → o.length = w * h → (outR w h kn d i o n).1.length = w * h ∧ n ≤ (outR w h kn d i o n).2 ∧ (outR w h kn d i o n).2 ≤ n + d := by
  intro d
  induction d with
  | zero => intro i o n _ _ h1; exact ⟨h1, Int.le_refl _, by unfold outR; simp⟩
  | succ d ih =>
    intro i o n hi hn h1
    unfold outR
    split
    · obtain ⟨a, b, c⟩ := ih (i + 1) o n (by omega) hn h1
      exact ⟨a, b, by omega⟩
    · obtain ⟨a, b, c⟩ := ih (i + 1) _ (n + 1) (by omega) (by omega) (bfs_len hw hn 70 0 (o.set i n) [(i : Int)] (by rw [List.length_set]; exact h1) (by intro j hj; rw [List.mem_singleton] at hj; subst hj; omega))
      exact ⟨a, by omega, by omega⟩
theorem spec11 {w h : Nat} {kn : List Int} (hw : 1 ≤ w ∧ w ≤ 8) (hh : 1 ≤ h ∧ h ≤ 8) (hk8 : kn.length = w * h) : ∀ (d k i : Nat) (o : List Int) (n : Int), i + d = w * h → 1500 * d + 50 < k → o.length = w * h → 0 ≤ n ∧ n ≤ i → spec_l12Areas.l11 k (w : Int) (h : Int) kn o n (i : Int) = some (outR w h kn d i o n) := by
  have h64 : w * h ≤ 64 := Nat.mul_le_mul hw.2 hh.2
  intro d
  induction d with
  | zero =>
    intro k i o n h1 h2 h3 h4
    obtain ⟨k, rfl⟩ := succ_of (show 0 < k by omega)
    simp only [spec_l12Areas.l11, spec_l12Areas.b11]
    rw [if_neg (by omega)]; rfl
  | succ d ih =>
    intro k i o n h1 h2 h3 h4
    obtain ⟨k, rfl⟩ := succ_of (show 0 < k by omega)
    have hi : i < o.length := by omega
    simp only [spec_l12Areas.l11, spec_l12Areas.b11]
    rw [if_pos (by omega), chk_nat hi]; simp only [Option.bind_some]
    unfold outR
    by_cases e : 0 ≤ o.getD i 0
    · rw [if_pos e, if_pos e, w64_id (by omega), show (i : Int) + 1 = ((i + 1 : Nat) : Int) by omega]
      exact ih k (i + 1) o n (by omega) (by omega) h3 (by omega)
    · rw [if_neg e, if_neg e]
      have hin : inL (w * h) [(i : Int)] := by intro j hj; rw [List.mem_singleton] at hj; subst hj; omega
      have hng := neg_le (o.set i n)
      rw [List.length_set] at hng
      obtain ⟨k', q1, q2⟩ := spec21 (i := i) (n := n) hw hh hk8 (by omega) (by omega) 70 k 0 (o.set i n) [(i : Int)] (by simp; omega) (by omega) (by simp) (by simp; omega) (by rw [List.length_set]; exact h3) hin
      rw [show ((0 : Nat) : Int) = 0 from rfl] at q2
      rw [q2]
      exact ih k' (i + 1) _ (n + 1) (by omega) (by omega) (bfs_len hw.1 h4.1 70 0 _ _ (by rw [List.length_set]; exact h3) hin) (by omega)
theorem specNeg {w h : Nat} {kn : List Int} (h64 : kn.length ≤ 64) : ∀ (d k i : Nat), i + d = kn.length → d < k → spec_l12Areas.l4 k (w : Int) (h : Int) kn (List.replicate i (-1)) (i : Int) = spec_l12Areas.l11 (k - d - 1) (w : Int) (h : Int) kn (List.replicate kn.length (-1)) 0 0 := by
  intro d
  induction d with
  | zero =>
    intro k i h1 h2
    obtain ⟨k, rfl⟩ := succ_of (show 0 < k by omega)
    simp only [spec_l12Areas.l4, spec_l12Areas.b4]
    rw [if_neg (by omega), show i = kn.length by omega]; rfl
  | succ d ih =>
    intro k i h1 h2
    obtain ⟨k, rfl⟩ := succ_of (show 0 < k by omega)
    simp only [spec_l12Areas.l4, spec_l12Areas.b4]
    rw [if_pos (by omega), app_ok (by simp; omega)]; simp only [Option.bind_some]
    rw [← List.replicate_succ', w64_id (by omega), show (i : Int) + 1 = ((i + 1 : Nat) : Int) by omega, ih k (i + 1) (by omega) (by omega), show k + 1 - (d + 1) - 1 = k - d - 1 by omega]
noncomputable def areasOut (w h : Nat) (kn : List Int) : List Int × Int := outR w h kn (w * h) 0 (List.replicate (w * h) (-1)) 0
theorem specAreas_eq (k : Nat) {w h : Nat} {kn : List Int} (hw : 1 ≤ w ∧ w ≤ 8) (hh : 1 ≤ h ∧ h ≤ 8) (hk8 : kn.length = w * h) (hk : 200000 ≤ k) : spec_l12Areas.f k (w : Int) (h : Int) kn = some (areasOut w h kn) := by
  have h64 : w * h ≤ 64 := Nat.mul_le_mul hw.2 hh.2
  unfold spec_l12Areas.f spec_l12Areas.m areasOut
  have h1 := specNeg (w := w) (h := h) (kn := kn) (by omega) kn.length k 0 (Nat.zero_add _) (by omega)
  rw [List.replicate_zero, show ((0 : Nat) : Int) = 0 from rfl] at h1
  rw [h1, hk8]
  exact spec11 hw hh hk8 (w * h) _ 0 _ 0 (Nat.zero_add _) (by omega) (by rw [List.length_replicate]) (by omega)
theorem mul_ok : ∀ n, n < 65 → math_bits_Mul64.m 0 1 ((n : Nat) : Int) = some (0, (n : Int)) := by decide +kernel
theorem repeat_l {n : Nat} (hn : n ≤ 64) : ∀ (d k x : Nat), 1 ≤ x → x ≤ n → n ≤ x + d → d < k → slices_Repeat_int_int.l9 k (List.replicate x (-1) ++ List.replicate (n - x) 0) (x : Int) = some (List.replicate n (-1)) := by
  intro d
  induction d with
  | zero =>
    intro k x h1 h2 h3 h4
    obtain ⟨k, rfl⟩ := succ_of (show 0 < k by omega)
    have : x = n := by omega
    subst this
    simp only [slices_Repeat_int_int.l9, slices_Repeat_int_int.b9]
    rw [if_neg (by simp), Nat.sub_self, List.replicate_zero, List.append_nil]
  | succ d ih =>
    intro k x h1 h2 h3 h4
    obtain ⟨k, rfl⟩ := succ_of (show 0 < k by omega)
    by_cases e : x = n
    · subst e
      simp only [slices_Repeat_int_int.l9, slices_Repeat_int_int.b9]
      rw [if_neg (by simp), Nat.sub_self, List.replicate_zero, List.append_nil]
    · have hlen : (List.replicate x (-1 : Int) ++ List.replicate (n - x) (0 : Int)).length = n := by rw [List.length_append, List.length_replicate, List.length_replicate]; omega
      simp only [slices_Repeat_int_int.l9, slices_Repeat_int_int.b9]
      rw [hlen, if_pos (by omega), cut_int (by omega), cutTo_int (by omega)]; simp only [Option.bind_some, Int.toNat_natCast]
      have ht : ((List.replicate x (-1 : Int) ++ List.replicate (n - x) (0 : Int)).drop 0).take x = List.replicate x (-1) := by
        rw [List.drop_zero, List.take_append_of_le_length (by simp), List.take_of_length_le (by simp)]
      rw [ht]
      have hl : lay (List.replicate x (-1 : Int) ++ List.replicate (n - x) (0 : Int)) x (n - x) (List.replicate x (-1)) = List.replicate (x + min x (n - x)) (-1) ++ List.replicate (n - (x + min x (n - x))) 0 := by
        unfold lay
        rw [List.take_append_of_le_length (by simp), List.take_of_length_le (by simp), List.take_replicate, List.length_replicate, List.drop_append, List.length_replicate, List.drop_of_length_le (by rw [List.length_replicate]; omega), List.nil_append, List.drop_replicate, ← List.append_assoc, List.replicate_append_replicate]
        congr 2 <;> omega
      rw [hl, List.length_replicate, w64_id (by omega), show (x : Int) + ((min x (n - x) : Nat) : Int) = ((x + min x (n - x) : Nat) : Int) by omega]
      exact ih k _ (by omega) (by omega) (by omega) (by omega)
theorem repeat_eq (k : Nat) {n : Nat} (hn : 1 ≤ n ∧ n ≤ 64) (hk : 100 ≤ k) : slices_Repeat_int_int.f k [-1] (n : Int) = some (List.replicate n (-1)) := by
  have hm := mul_ok n (by omega)
  have hm' : math_bits_Mul64.f k 1 (n : Int) = some (0, (n : Int)) := hm
  unfold slices_Repeat_int_int.f slices_Repeat_int_int.m math_bits_Mul.f math_bits_Mul.m
  have w1 : IntKind.u64.wrap ((([-1] : List Int).length : Nat) : Int) = 1 := by decide
  have w2 : IntKind.u64.wrap (n : Int) = (n : Int) := by
    unfold IntKind.wrap
    simp [IntKind.signed, IntKind.bits]
    omega
  rw [if_neg (by omega), w1, w2, hm']; simp only [Option.bind_some]
  rw [if_neg (by omega), if_neg (by omega), w64_id (by omega), mkl_int (by omega)]; simp only [Option.bind_some, Int.toNat_natCast, List.length_replicate, List.length_singleton]
  have hl : lay (List.replicate n (0 : Int)) 0 n [-1] = List.replicate 1 (-1) ++ List.replicate (n - 1) 0 := by
    unfold lay
    rw [List.take_zero, List.nil_append, List.take_of_length_le (by simp; omega), List.drop_replicate]
    simp
    omega
  rw [hl, Nat.min_eq_left hn.1]
  exact repeat_l hn.2 n k 1 (by omega) hn.1 (by omega) (by omega)
theorem impl20 {w h i q : Nat} {kn : List Int} {n : Int} (hk8 : kn.length = w * h) (h64 : w * h ≤ 64) (hi : i < w * h) (hn : 0 ≤ n ∧ n ≤ 64) (nbs : List Int) (hnb : inL (w * h) nbs) (hnl : nbs.length ≤ 4) (hq : q ≤ 100) (z : Int) : ∀ (d k j : Nat) (o m : List Int), j + d = nbs.length → 2 * d + 1 < k → o.length = w * h → m.length + d ≤ 200 →
    ∃ k', k ≤ k' + 2 * d + 1 ∧ impl_Chart_areas.l20 k (w : Int) (h : Int) kn o n (i : Int) m (q : Int) ((w * h : Nat) : Int) z nbs (nbs.length : Int) (j : Int) = impl_Chart_areas.l15 k' (w : Int) (h : Int) kn (fold1 kn i n (nbs.drop j) o m).1 n (i : Int) (fold1 kn i n (nbs.drop j) o m).2 ((q + 1 : Nat) : Int) ((w * h : Nat) : Int) z := by
  intro d
  induction d with
  | zero =>
    intro k j o m h1 h2 h3 h4
    obtain ⟨k, rfl⟩ := succ_of (show 0 < k by omega)
    refine ⟨k, by omega, ?_⟩
    rw [List.drop_of_length_le (by omega)]
    simp only [impl_Chart_areas.l20, impl_Chart_areas.b20, fold1]
    rw [if_neg (by omega), w64_id (by omega), show (q : Int) + 1 = ((q + 1 : Nat) : Int) by omega]
  | succ d ih =>
    intro k j o m h1 h2 h3 h4
    obtain ⟨k, rfl⟩ : ∃ k', k = k' + 2 := ⟨k - 2, by omega⟩
    have hj : j < nbs.length := by omega
    have hv := hnb _ (List.getElem_mem hj)
    rw [← getD_lt (d := (0 : Int)) hj] at hv
    rw [List.drop_eq_getElem_cons hj, ← getD_lt (d := (0 : Int)) hj]
    rw [show k + 2 = (k + 1) + 1 from rfl]
    simp only [impl_Chart_areas.l20, impl_Chart_areas.b20]
    rw [if_pos (by omega), chk_nat hj]; simp only [Option.bind_some]
    rw [chk_int (n := o.length) (by omega), chk_int (n := kn.length) (i := nbs.getD j 0) (by omega), chk_nat (n := kn.length) (by omega)]; simp only [Option.bind_some]
    have hno : ∀ k, impl_Chart_areas.l25 (k + 1) (w : Int) (h : Int) kn o n (i : Int) m (q : Int) (nbs.getD j 0) ((w * h : Nat) : Int) z nbs (nbs.length : Int) (j : Int) false = impl_Chart_areas.l20 k (w : Int) (h : Int) kn o n (i : Int) m (q : Int) ((w * h : Nat) : Int) z nbs (nbs.length : Int) ((j + 1 : Nat) : Int) := fun k => by
      simp only [impl_Chart_areas.l25, impl_Chart_areas.b25, cond_false]
      rw [w64_id (by omega), show (j : Int) + 1 = ((j + 1 : Nat) : Int) by omega]
    by_cases e1 : o.getD (nbs.getD j 0).toNat 0 < 0
    · rw [if_pos e1]
      by_cases e2 : kn.getD (nbs.getD j 0).toNat 0 = kn.getD i 0
      · rw [decide_eq_true e2]
        simp only [impl_Chart_areas.l25, impl_Chart_areas.b25, cond_true]
        rw [chk_int (n := o.length) (by omega), app_ok (by simp; omega), w64_id (by omega), show (j : Int) + 1 = ((j + 1 : Nat) : Int) by omega]; simp only [Option.bind_some]
        obtain ⟨k', q1, q2⟩ := ih k (j + 1) (o.set (nbs.getD j 0).toNat n) (m ++ [nbs.getD j 0]) (by omega) (by omega) (by rw [List.length_set]; exact h3) (by rw [List.length_append, List.length_singleton]; omega)
        refine ⟨k', by omega, ?_⟩
        rw [q2, fold1, if_pos ⟨e1, e2⟩]
      · rw [decide_eq_false e2, hno]
        obtain ⟨k', q1, q2⟩ := ih k (j + 1) o m (by omega) (by omega) h3 (by omega)
        refine ⟨k', by omega, ?_⟩
        rw [q2, fold1, if_neg (fun hh => e2 hh.2)]
    · rw [if_neg e1, hno]
      obtain ⟨k', q1, q2⟩ := ih k (j + 1) o m (by omega) (by omega) h3 (by omega)
      refine ⟨k', by omega, ?_⟩
      rw [q2, fold1, if_neg (fun hh => e1 hh.1)]
theorem impl15 {w h i : Nat} {kn : List Int} {n : Int} (hw : 1 ≤ w ∧ w ≤ 8) (hh : 1 ≤ h ∧ h ≤ 8) (hk8 : kn.length = w * h) (hi : i < w * h) (hn : 0 ≤ n ∧ n ≤ 64) : ∀ (M k q : Nat) (o m : List Int), (m.length - q) + neg o ≤ M → 20 * M + 50 < k → q ≤ m.length → m.length + neg o ≤ 70 → o.length = w * h → inL (w * h) m →
    ∃ k', k ≤ k' + 20 * M + 1 ∧ impl_Chart_areas.l15 k (w : Int) (h : Int) kn o n (i : Int) m (q : Int) ((w * h : Nat) : Int) (i : Int) = impl_Chart_areas.l4 k' (w : Int) (h : Int) kn (bfs w h kn i n M q o m) (n + 1) ((w * h : Nat) : Int) ((i + 1 : Nat) : Int) := by
  have h64 : w * h ≤ 64 := Nat.mul_le_mul hw.2 hh.2
  have stop : ∀ (k q : Nat) (o m : List Int), m.length ≤ q → impl_Chart_areas.l15 (k + 1) (w : Int) (h : Int) kn o n (i : Int) m (q : Int) ((w * h : Nat) : Int) (i : Int) = impl_Chart_areas.l4 k (w : Int) (h : Int) kn o (n + 1) ((w * h : Nat) : Int) ((i + 1 : Nat) : Int) := fun k q o m hq => by
    simp only [impl_Chart_areas.l15, impl_Chart_areas.b15]
    rw [if_neg (by omega), w64_id (by omega), w64_id (by omega), show (i : Int) + 1 = ((i + 1 : Nat) : Int) by omega]
  intro M
  induction M with
  | zero =>
    intro k q o m h1 h2 h3 h4 h5 h6
    obtain ⟨k, rfl⟩ := succ_of (show 0 < k by omega)
    exact ⟨k, by omega, stop k q o m (by omega)⟩
  | succ M ih =>
    intro k q o m h1 h2 h3 h4 h5 h6
    obtain ⟨k, rfl⟩ := succ_of (show 0 < k by omega)
    unfold bfs
    by_cases e : q < m.length
    · have hv := h6 _ (List.getElem_mem e)
      rw [← getD_lt (d := (0 : Int)) e] at hv
      obtain ⟨v, hv2⟩ := Int.eq_ofNat_of_zero_le hv.1
      have hvl : v < w * h := by omega
      have hnb : inL (w * h) (nb w h v) := nb_in hw.1 hvl
      rw [if_pos e, hv2, Int.toNat_natCast]
      simp only [impl_Chart_areas.l15, impl_Chart_areas.b15]
      rw [if_pos (by omega), chk_nat e]; simp only [Option.bind_some]
      rw [hv2, implBes_eq k kn hw hh hvl (by omega)]; simp only [Option.bind_some]
      have hl4 := nb_len w h v
      obtain ⟨k1, q1, q2⟩ := impl20 (q := q) hk8 h64 hi hn (nb w h v) hnb hl4 (by omega) (i : Int) _ k 0 o m (Nat.zero_add _) (by omega) h5 (by omega)
      rw [List.drop_zero, show ((0 : Nat) : Int) = 0 from rfl] at q2
      rw [q2]
      obtain ⟨f1, f2, f3, f4⟩ := fold1_ok (kn := kn) (i := i) hn.1 (nb w h v) o m hnb h6 h5
      obtain ⟨k', q3, q4⟩ := ih k1 (q + 1) _ _ (by omega) (by omega) (by omega) (by omega) f1 f2
      exact ⟨k', by omega, q4⟩
    · rw [if_neg e]
      exact ⟨k, by omega, stop k q o m (by omega)⟩
theorem impl4 {w h : Nat} {kn : List Int} (hw : 1 ≤ w ∧ w ≤ 8) (hh : 1 ≤ h ∧ h ≤ 8) (hk8 : kn.length = w * h) : ∀ (d k i : Nat) (o : List Int) (n : Int), i + d = w * h → 1500 * d + 50 < k → o.length = w * h → 0 ≤ n ∧ n ≤ i → impl_Chart_areas.l4 k (w : Int) (h : Int) kn o n ((w * h : Nat) : Int) (i : Int) = some (outR w h kn d i o n) := by
  have h64 : w * h ≤ 64 := Nat.mul_le_mul hw.2 hh.2
  intro d
  induction d with
  | zero =>
    intro k i o n h1 h2 h3 h4
    obtain ⟨k, rfl⟩ := succ_of (show 0 < k by omega)
    simp only [impl_Chart_areas.l4, impl_Chart_areas.b4]
    rw [if_neg (by omega)]; rfl
  | succ d ih =>
    intro k i o n h1 h2 h3 h4
    obtain ⟨k, rfl⟩ := succ_of (show 0 < k by omega)
    have hi : i < o.length := by omega
    simp only [impl_Chart_areas.l4, impl_Chart_areas.b4]
    rw [if_pos (by omega), chk_nat hi]; simp only [Option.bind_some]
    unfold outR
    by_cases e : 0 ≤ o.getD i 0
    · rw [if_pos e, if_pos e, w64_id (by omega), show (i : Int) + 1 = ((i + 1 : Nat) : Int) by omega]
      exact ih k (i + 1) o n (by omega) (by omega) h3 (by omega)
    · rw [if_neg e, if_neg e]
      have hin : inL (w * h) [(i : Int)] := by intro j hj; rw [List.mem_singleton] at hj; subst hj; omega
      have hng := neg_le (o.set i n)
      rw [List.length_set] at hng
      obtain ⟨k', q1, q2⟩ := impl15 (i := i) (n := n) hw hh hk8 (by omega) (by omega) 70 k 0 (o.set i n) [(i : Int)] (by simp; omega) (by omega) (by simp) (by simp; omega) (by rw [List.length_set]; exact h3) hin
      rw [show ((0 : Nat) : Int) = 0 from rfl] at q2
      rw [q2]
      exact ih k' (i + 1) _ (n + 1) (by omega) (by omega) (bfs_len hw.1 h4.1 70 0 _ _ (by rw [List.length_set]; exact h3) hin) (by omega)
theorem implAreas_eq (k : Nat) {w h : Nat} {kn : List Int} (hw : 1 ≤ w ∧ w ≤ 8) (hh : 1 ≤ h ∧ h ≤ 8) (hk8 : kn.length = w * h) (hk : 200000 ≤ k) : impl_Chart_areas.f k (w : Int) (h : Int) kn = some (areasOut w h kn) := by
  have h64 : w * h ≤ 64 := Nat.mul_le_mul hw.2 hh.2
  have h1 : 1 ≤ w * h := Nat.mul_le_mul hw.1 hh.1
  unfold impl_Chart_areas.f impl_Chart_areas.m areasOut
  rw [hk8, repeat_eq k ⟨h1, h64⟩ (by omega)]; simp only [Option.bind_some, List.length_replicate]
  exact impl4 hw hh hk8 (w * h) k 0 _ 0 (Nat.zero_add _) (by omega) (by rw [List.length_replicate]) (by omega)
def fillR (ar : List Int) (a x : Int) : Nat → Nat → List Int → List Int
  | 0, _, o => o
  | d + 1, i, o => fillR ar a x d (i + 1) (if ar.getD i 0 = a then o.set i x else o)
theorem fillR_len (ar : List Int) (a x : Int) : ∀ (d i : Nat) (o : List Int), (fillR ar a x d i o).length = o.length := by
  intro d
  induction d with
  | zero => intro i o; rfl
  | succ d ih => intro i o; unfold fillR; rw [ih]; split <;> simp
theorem specFill_l (ar : List Int) (a x w h : Int) (hl : ar.length ≤ 64) : ∀ (d k i : Nat) (o : List Int), i + d = ar.length → o.length = ar.length → d < k → spec_FillArea.l11 k a x 0 0 [] ar w h o (i : Int) = some (w, h, fillR ar a x d i o, true) := by
  intro d
  induction d with
  | zero =>
    intro k i o h1 h2 h3
    obtain ⟨k, rfl⟩ := succ_of (show 0 < k by omega)
    simp only [spec_FillArea.l11, spec_FillArea.b11]
    rw [if_neg (by omega)]; rfl
  | succ d ih =>
    intro k i o h1 h2 h3
    obtain ⟨k, rfl⟩ := succ_of (show 0 < k by omega)
    simp only [spec_FillArea.l11, spec_FillArea.b11]
    rw [if_pos (by omega), chk_nat (n := ar.length) (by omega), chk_nat (n := o.length) (by omega), w64_id (by omega), show (i : Int) + 1 = ((i + 1 : Nat) : Int) by omega]; simp only [Option.bind_some]
    unfold fillR
    by_cases e : ar.getD i 0 = a
    · rw [if_pos e, if_pos e]; exact ih k (i + 1) _ (by omega) (by rw [List.length_set]; exact h2) (by omega)
    · rw [if_neg e, if_neg e]; exact ih k (i + 1) _ (by omega) h2 (by omega)
theorem implFill_l (ar : List Int) (a x w h : Int) (hl : ar.length ≤ 64) : ∀ (d k i : Nat) (o : List Int), i + d = ar.length → o.length = ar.length → d < k → impl_FillArea.l11 k a x 0 0 [] w h o ar (ar.length : Int) (i : Int) = some (w, h, fillR ar a x d i o, true) := by
  intro d
  induction d with
  | zero =>
    intro k i o h1 h2 h3
    obtain ⟨k, rfl⟩ := succ_of (show 0 < k by omega)
    simp only [impl_FillArea.l11, impl_FillArea.b11]
    rw [if_neg (by omega)]; rfl
  | succ d ih =>
    intro k i o h1 h2 h3
    obtain ⟨k, rfl⟩ := succ_of (show 0 < k by omega)
    simp only [impl_FillArea.l11, impl_FillArea.b11]
    rw [if_pos (by omega), chk_nat (n := ar.length) (by omega), chk_nat (n := o.length) (by omega), w64_id (by omega), show (i : Int) + 1 = ((i + 1 : Nat) : Int) by omega]; simp only [Option.bind_some]
    unfold fillR
    by_cases e : ar.getD i 0 = a
    · rw [if_pos e, if_pos e]; exact ih k (i + 1) _ (by omega) (by rw [List.length_set]; exact h2) (by omega)
    · rw [if_neg e, if_neg e]; exact ih k (i + 1) _ (by omega) h2 (by omega)
noncomputable def fillOut (w h : Int) (l : List Int) (a x : Int) : Int × Int × List Int × Bool :=
  if goodB w h l = true ∧ colorB x = true ∧ inB a 0 ((areasOut w.toNat h.toNat l).2 - 1) = true then (w, h, fillR (areasOut w.toNat h.toNat l).1 a x (w.toNat * h.toNat) 0 l, true) else (0, 0, [], false)
theorem fill_eq (k : Nat) (w h : Int) (l : List Int) (a x : Int) (hl : l.length ≤ 4194304) (hk : 5000000 ≤ k) : spec_FillArea.f k w h l a x = some (fillOut w h l a x) ∧ impl_FillArea.f k w h l a x = some (fillOut w h l a x) := by
  unfold spec_FillArea.f spec_FillArea.m impl_FillArea.f impl_FillArea.m fillOut
  rw [l2Good_eq k w h l (by omega) (by omega), isChart_eq k w h l (by omega) (by omega), l2Color_eq, isColor_eq]; simp only [Option.bind_some]
  cases hg : goodB w h l
  · exact ⟨rfl, rfl⟩
  · cases hc : colorB x
    · exact ⟨rfl, rfl⟩
    · obtain ⟨hw, hh, hlen, _⟩ := good_of hg
      obtain ⟨w, rfl⟩ := Int.eq_ofNat_of_zero_le (show 0 ≤ w by omega)
      obtain ⟨h, rfl⟩ := Int.eq_ofNat_of_zero_le (show 0 ≤ h by omega)
      have hk8 := lenN hlen
      have hw' : 1 ≤ w ∧ w ≤ 8 := by omega
      have hh' : 1 ≤ h ∧ h ≤ 8 := by omega
      have h64 : w * h ≤ 64 := Nat.mul_le_mul hw'.2 hh'.2
      obtain ⟨o1, o2, o3⟩ := outR_len (kn := l) (h := h) hw'.1 (w * h) 0 (List.replicate (w * h) (-1)) 0 (by omega) (by omega) (by rw [List.length_replicate])
      rw [specAreas_eq k hw' hh' hk8 (by omega), implAreas_eq k hw' hh' hk8 (by omega)]
      simp only [Option.bind_some, Bool.not_true, cond_false, Int.toNat_natCast, true_and]
      rw [specIn_eq, implIn_eq, w64_id (by unfold areasOut; omega)]; simp only [Option.bind_some]
      cases hi : inB a 0 ((areasOut w h l).2 - 1)
      · exact ⟨rfl, rfl⟩
      · rw [l2Own_eq k _ _ _ (by omega), copied_eq k _ _ _ (by omega)]
        simp only [Option.bind_some, Bool.not_true, cond_false, if_true]
        have ho : (areasOut w h l).1.length = w * h := o1
        have s1 := specFill_l (areasOut w h l).1 a x (w : Int) (h : Int) (by omega) (w * h) k 0 l (by omega) (by omega) (by omega)
        have s2 := implFill_l (areasOut w h l).1 a x (w : Int) (h : Int) (by omega) (w * h) k 0 l (by omega) (by omega) (by omega)
        rw [show ((0 : Nat) : Int) = 0 from rfl] at s1 s2
        exact ⟨s1, s2⟩
theorem both (w h : Int) (l : List Int) (a x : Int) (hl : l.length ≤ 4194304) : ∃ r0 r1 r2 r3 k0, (∀ k, k0 ≤ k → spec_FillArea.f k w h l a x = some (r0, r1, r2, r3)) ∧ (∀ k, k0 ≤ k → impl_FillArea.f k w h l a x = some (r0, r1, r2, r3)) ∧ r2.length ≤ 4194304 := by
  refine ⟨(fillOut w h l a x).1, (fillOut w h l a x).2.1, (fillOut w h l a x).2.2.1, (fillOut w h l a x).2.2.2, 5000000, fun k hk => (fill_eq k w h l a x hl hk).1, fun k hk => (fill_eq k w h l a x hl hk).2, ?_⟩
  unfold fillOut
  split
  · dsimp only; rw [fillR_len]; exact hl
  · exact Nat.zero_le _
theorem szIntS_ex (k : Nat) (l0 : List Int) (a : Int) (h0 : 0 ≤ a) (h1 : a ≤ 1048576) (h_l0 : l0.length ≤ 140737488351232) : ∃ b, laws_szIntS.f k l0 a = some b ∧ (b < 0 ∨ 0 ≤ b ∧ b ≤ a ∧ l0.length ≤ 1048576) := by
  unfold laws_szIntS.f laws_szIntS.m
  rw [w64_id (by omega)]
  by_cases h : a - (l0.length : Int) < 0
  · exact ⟨-1, if_pos h, .inl (by omega)⟩
  · exact ⟨_, if_neg h, .inr ⟨by omega, by omega, by omega⟩⟩
theorem szChart_ex (k : Nat) (a0_0 : Int) (a0_1 : Int) (l0_2 : List Int) (a : Int) (h0 : 0 ≤ a) (h1 : a ≤ 1048576) (h_l0_2 : l0_2.length ≤ 140737488351232) : ∃ b, laws_szChart.f k a0_0 a0_1 l0_2 a = some b ∧ (b < 0 ∨ 0 ≤ b ∧ b ≤ a ∧ l0_2.length ≤ 1048576) := by
  unfold laws_szChart.f laws_szChart.m
  obtain ⟨b0, e0, c0⟩ := szIntS_ex k l0_2 a (by omega) (by omega) h_l0_2
  rw [e0]; simp only [Option.bind_some]
  by_cases n0 : b0 < 0
  · exact ⟨-1, if_pos n0, .inl (by omega)⟩
  rw [if_neg n0]
  exact ⟨_, rfl, .inr (by omega)⟩
theorem toIntS_l (l0 : List Int) (hl : l0.length ≤ 4194304) : ∀ (d k i : Nat) (acc : List Int), i + d = l0.length → acc.length = l0.length → acc.take i = l0.take i → d < k → laws_toIntS.l4 k l0 acc (i : Int) = some l0 := by
  intro d
  induction d with
  | zero =>
    intro k i acc h1 h2 h3 h4
    obtain ⟨k, rfl⟩ := succ_of (show 0 < k by omega)
    simp (disch := omega) only [laws_toIntS.l4, laws_toIntS.b4, if_neg]
    rw [List.take_of_length_le (by omega), List.take_of_length_le (by omega)] at h3
    rw [h3]
  | succ d ih =>
    intro k i acc h1 h2 h3 h4
    obtain ⟨k, rfl⟩ := succ_of (show 0 < k by omega)
    have hi : i < l0.length := by omega
    have h := ih k (i + 1) (acc.set i (l0.getD i 0)) (by omega) (by rw [List.length_set]; exact h2) (by
      rw [List.take_succ_eq_append_getElem (by rw [List.length_set]; omega), List.take_succ_eq_append_getElem hi, List.getElem_set_self, List.take_set_of_le (Nat.le_refl i), h3, getD_lt hi]) (by omega)
    rw [show ((i + 1 : Nat) : Int) = (i : Int) + 1 by omega] at h
    simp (disch := omega) only [laws_toIntS.l4, laws_toIntS.b4, if_pos, chk_nat, Option.bind_some, w64_id, upd_of]
    exact h
theorem toIntS_eq (k : Nat) (l0 : List Int) (h_l0 : l0.length ≤ 4194304) (hk : 5000000 ≤ k) : laws_toIntS.f k l0 = some l0 := by
  unfold laws_toIntS.f laws_toIntS.m
  rw [mkl_int (by omega)]; simp only [Option.bind_some]
  exact toIntS_l l0 h_l0 l0.length k 0 _ (by omega) (by simp) (by simp) (by omega)
theorem toChart_eq (k : Nat) (a0_0 : Int) (a0_1 : Int) (l0_2 : List Int) (h_l0_2 : l0_2.length ≤ 4194304) (hk : 5000000 ≤ k) : laws_toChart.f k a0_0 a0_1 l0_2 = some (a0_0, a0_1, l0_2) := by
  unfold laws_toChart.f laws_toChart.m
  simp (disch := omega) only [toIntS_eq, Option.bind_some]
theorem eqIntS_eq (k : Nat) (l0 : List Int) (h_l0 : l0.length ≤ 4194304) (hk : 5000000 ≤ k) : laws_eqIntS.f k l0 l0 = some true := by
  unfold laws_eqIntS.f laws_eqIntS.m
  have h := (all_loop (L := fun k i => laws_eqIntS.l6 k l0 l0 (i : Int)) (n := l0.length) (K0 := 20) (ok := fun _ => true) (f := some false) (fun k i hk hi => ?_)) l0.length k 0 (by omega) (by omega)
  · rw [show ((0 : Nat) : Int) = 0 from rfl] at h
    simp only [Bool.not_true, Bool.not_false, cond_true, cond_false, Bool.true_and, Bool.false_and, Bool.and_true, Bool.and_false, Bool.false_eq_true, Bool.true_or, Bool.or_true, Bool.false_or, Bool.or_false, Bool.or_self, Bool.and_self, decide_true, decide_false, if_true, if_false, not_true, not_false_eq_true, not_true_eq_false, false_or, or_false, true_and, and_true, Bool.not_eq_true, Bool.true_eq_false, reduceCtorEq, eq_self]
    exact h.1 (some true) (fun k hk => by simp (disch := omega) only [laws_eqIntS.l6, laws_eqIntS.b6, if_neg]) (fun _ _ _ => rfl)
  · simp (disch := omega) only [laws_eqIntS.l6, laws_eqIntS.b6, if_pos, chk_nat, Option.bind_some, w64_id, Bool.not_true, Bool.not_false, cond_true, cond_false, Bool.true_and, Bool.false_and, Bool.and_true, Bool.and_false, Bool.false_eq_true, Bool.true_or, Bool.or_true, Bool.false_or, Bool.or_false, Bool.or_self, Bool.and_self, decide_true, decide_false, if_true, if_false, not_true, not_false_eq_true, not_true_eq_false, false_or, or_false, true_and, and_true, Bool.not_eq_true, Bool.true_eq_false, reduceCtorEq, eq_self, Int.natCast_add, Int.cast_ofNat_Int]
theorem eqChart_eq (k : Nat) (a0_0 : Int) (a0_1 : Int) (l0_2 : List Int) (h_l0_2 : l0_2.length ≤ 4194304) (hk : 5000000 ≤ k) : laws_eqChart.f k a0_0 a0_1 l0_2 a0_0 a0_1 l0_2 = some true := by
  unfold laws_eqChart.f laws_eqChart.m
  simp (disch := omega) only [eqIntS_eq, Option.bind_some, Bool.not_true, Bool.not_false, cond_true, cond_false, Bool.true_and, Bool.false_and, Bool.and_true, Bool.and_false, Bool.false_eq_true, Bool.true_or, Bool.or_true, Bool.false_or, Bool.or_false, Bool.or_self, Bool.and_self, decide_true, decide_false, if_true, if_false, not_true, not_false_eq_true, not_true_eq_false, false_or, or_false, true_and, and_true, Bool.not_eq_true, Bool.true_eq_false, reduceCtorEq, eq_self]
def mkIntS : Int → Nat → List Int
  | _, 0 => []
  | x, n + 1 => x :: mkIntS (x + 1) n
theorem markIntS_l : ∀ (q p : List Int) (k : Nat) (x : Int), (p ++ q).length ≤ 4194304 → 0 ≤ x → x + 1 * q.length ≤ 1125899906842624 → q.length < k → laws_markIntS.l3 k (p ++ q) x (p.length : Int) = some (x + 1 * q.length, p ++ mkIntS x q.length) := by
  intro q
  induction q with
  | nil =>
    intro p k x h1 h2 h3 h4
    obtain ⟨k, rfl⟩ := succ_of (show 0 < k by omega)
    simp (disch := omega) only [laws_markIntS.l3, laws_markIntS.b3, List.append_nil, if_neg]
    simp [mkIntS]
  | cons y q ih =>
    intro p k x h1 h2 h3 h4
    obtain ⟨k, rfl⟩ := succ_of (show 0 < k by omega)
    have hlt := lt_mid p y q
    have hpl : p.length ≤ 4194304 := by simp at h1; omega
    simp only [List.length_cons] at h3 h4
    have h := ih (p ++ [x]) k (x + 1) (by simp at h1 ⊢; omega) (by omega) (by omega) (by omega)
    rw [← snoc_app, show (((p ++ [x]).length : Nat) : Int) = (p.length : Int) + 1 by simp] at h
    simp (disch := omega) only [laws_markIntS.l3, laws_markIntS.b3, if_pos, chk_mid, Option.bind_some, upd_mid, set_mid, w64_id]
    simp only [Int.add_assoc, Int.reduceAdd] at h ⊢
    rw [h, List.append_assoc]
    simp only [List.length_cons, mkIntS, List.singleton_append]
    congr 2
    omega
theorem heldIntS_l : ∀ (n : Nat) (p : List Int) (k : Nat) (x : Int), p.length + n ≤ 4194304 → 0 ≤ x → x + 1 * n ≤ 1125899906842624 → n < k → laws_heldIntS.l3 k (p ++ mkIntS x n) x (p.length : Int) = some (x + 1 * n) := by
  intro n
  induction n with
  | zero =>
    intro p k x h1 h2 h3 h4
    obtain ⟨k, rfl⟩ := succ_of (show 0 < k by omega)
    simp (disch := omega) only [mkIntS, laws_heldIntS.l3, laws_heldIntS.b3, List.append_nil, if_neg]
    simp
  | succ n ih =>
    intro p k x h1 h2 h3 h4
    obtain ⟨k, rfl⟩ := succ_of (show 0 < k by omega)
    have hlt := lt_mid p x (mkIntS (x + 1) n)
    have h := ih (p ++ [x]) k (x + 1) (by simp; omega) (by omega) (by omega) (by omega)
    rw [← snoc_app, show (((p ++ [x]).length : Nat) : Int) = (p.length : Int) + 1 by simp] at h
    simp (disch := omega) only [mkIntS, laws_heldIntS.l3, laws_heldIntS.b3, if_pos, chk_mid, Option.bind_some, getD_mid, w64_id, eq_self, Bool.not_true, Bool.not_false, cond_true, cond_false, Bool.true_and, Bool.false_and, Bool.and_true, Bool.and_false, Bool.false_eq_true, Bool.true_or, Bool.or_true, Bool.false_or, Bool.or_false, Bool.or_self, Bool.and_self, decide_true, decide_false, if_true, if_false, not_true, not_false_eq_true, not_true_eq_false, false_or, or_false, true_and, and_true, Bool.not_eq_true, Bool.true_eq_false, reduceCtorEq]
    simp only [Int.add_assoc, Int.reduceAdd, Bool.not_true, Bool.not_false, cond_true, cond_false, Bool.true_and, Bool.false_and, Bool.and_true, Bool.and_false, Bool.false_eq_true, Bool.true_or, Bool.or_true, Bool.false_or, Bool.or_false, Bool.or_self, Bool.and_self, decide_true, decide_false, if_true, if_false, not_true, not_false_eq_true, not_true_eq_false, false_or, or_false, true_and, and_true, Bool.not_eq_true, Bool.true_eq_false, reduceCtorEq, eq_self] at h ⊢
    rw [h]
    congr 1
    omega
theorem markIntS_ex (l0 : List Int) (x : Int) (h_l0 : l0.length ≤ 4194304) (h0 : 0 ≤ x) (h1 : x ≤ 1099511627776) : ∃ (x' : Int) (l0' : List Int), x ≤ x' ∧ x' ≤ x + 64 * l0.length ∧ l0'.length = l0.length ∧ ∀ k, 5000000 ≤ k → laws_markIntS.f k l0 x = some (x', l0') ∧ laws_heldIntS.f k l0' x = some x' := by
  refine ⟨x + 1 * l0.length, mkIntS x l0.length, by omega, by omega, ?_, fun k hk => ⟨?_, ?_⟩⟩
  · generalize l0.length = n
    clear h0 h1
    induction n generalizing x with
    | zero => rfl
    | succ n ih => simp [mkIntS, ih]
  · exact markIntS_l l0 [] k x (by simpa using h_l0) h0 (by omega) (by omega)
  · exact heldIntS_l l0.length [] k x (by simpa using h_l0) h0 (by omega) (by omega)
theorem markChart_ex (a0_0 : Int) (a0_1 : Int) (l0_2 : List Int) (x : Int) (h_l0_2 : l0_2.length ≤ 4194304) (h0 : 0 ≤ x) (h1 : x ≤ 549755813888) : ∃ (x' : Int) (l0_2' : List Int), x ≤ x' ∧ x' ≤ x + 64 * (l0_2.length : Int) ∧ l0_2'.length = l0_2.length ∧ ∀ k, 5000000 ≤ k → laws_markChart.f k a0_0 a0_1 l0_2 x = some (x', l0_2') ∧ laws_heldChart.f k a0_0 a0_1 l0_2' x = some x' := by
  obtain ⟨x0, l0_2', p0, q0, m0_l0_2, e0⟩ := markIntS_ex l0_2 x h_l0_2 (by omega) (by omega)
  refine ⟨x0, l0_2', by omega, by omega, m0_l0_2, fun k hk => ⟨?_, ?_⟩⟩
  · unfold laws_markChart.f laws_markChart.m
    simp (disch := omega) only [(e0 k hk).1, Option.bind_some, Bool.not_true, Bool.not_false, cond_true, cond_false, Bool.true_and, Bool.false_and, Bool.and_true, Bool.and_false, Bool.false_eq_true, Bool.true_or, Bool.or_true, Bool.false_or, Bool.or_false, Bool.or_self, Bool.and_self, decide_true, decide_false, if_true, if_false, not_true, not_false_eq_true, not_true_eq_false, false_or, or_false, true_and, and_true, Bool.not_eq_true, Bool.true_eq_false, reduceCtorEq]
  · unfold laws_heldChart.f laws_heldChart.m
    simp (disch := omega) only [(e0 k hk).2, Option.bind_some, if_neg, Bool.not_true, Bool.not_false, cond_true, cond_false, Bool.true_and, Bool.false_and, Bool.and_true, Bool.and_false, Bool.false_eq_true, Bool.true_or, Bool.or_true, Bool.false_or, Bool.or_false, Bool.or_self, Bool.and_self, decide_true, decide_false, if_true, if_false, not_true, not_false_eq_true, not_true_eq_false, false_or, or_false, true_and, and_true, Bool.not_eq_true, Bool.true_eq_false, reduceCtorEq]
theorem pure_holds : Pure := by
  intro a0_0 a0_1 l0_2 a1 a2 hw0 hw1 hw2 hw3 hw4 hw5
  have hs0 : ∃ b, (∀ k, laws_szChart.f k a0_0 a0_1 l0_2 1048576 = some b) ∧ (b < 0 ∨ 0 ≤ b ∧ b ≤ 1048576 ∧ l0_2.length ≤ 1048576) := by
    obtain ⟨b, e, c⟩ := szChart_ex 0 a0_0 a0_1 l0_2 1048576 (by omega) (by omega) (by omega)
    exact ⟨b, fun k => e, c⟩
  obtain ⟨b0, es0, cs0⟩ := hs0
  by_cases nb0 : b0 < 0
  · refine ⟨0, ?_⟩
    unfold laws_FnExactFillArea.f laws_FnExactFillArea.m
    refine stepb (es0 _) ?_
    exact if_pos nb0
  obtain ⟨r0, r1, r2, r3, k0, hS, hI, hr_r2⟩ := both a0_0 a0_1 l0_2 a1 a2 (by omega)
  obtain ⟨K, hK⟩ : ∃ K, K = k0 + 10000000 := ⟨_, rfl⟩
  refine ⟨K, ?_⟩
  unfold laws_FnExactFillArea.f laws_FnExactFillArea.m
  refine stepb (es0 _) ?_
  refine ifn nb0 ?_
  refine stepb (show laws_toChart.f K a0_0 a0_1 l0_2 = some (a0_0, a0_1, l0_2) from toChart_eq K a0_0 a0_1 l0_2 (by omega) (by omega)) ?_
  refine stepb (hS K (by omega)) ?_
  refine stepb (show laws_toChart.f K a0_0 a0_1 l0_2 = some (a0_0, a0_1, l0_2) from toChart_eq K a0_0 a0_1 l0_2 (by omega) (by omega)) ?_
  refine stepb (hI K (by omega)) ?_
  refine stepb (show laws_eqChart.f K r0 r1 r2 r0 r1 r2 = some true from eqChart_eq K r0 r1 r2 (by omega) (by omega)) ?_
  refine condt ?_
  refine ifn (show ¬ ¬ r3 = r3 from fun h => h rfl) ?_
  refine stepb (show laws_toChart.f K a0_0 a0_1 l0_2 = some (a0_0, a0_1, l0_2) from toChart_eq K a0_0 a0_1 l0_2 (by omega) (by omega)) ?_
  refine stepb (show laws_eqChart.f K a0_0 a0_1 l0_2 a0_0 a0_1 l0_2 = some true from eqChart_eq K a0_0 a0_1 l0_2 (by omega) (by omega)) ?_
  refine condt ?_
  obtain ⟨y9, w9_l0_2, py9, qy9, my9_l0_2, ey9⟩ := markChart_ex a0_0 a0_1 l0_2 1 (by omega) (by omega) (by omega)
  refine stepb (ey9 K (by omega)).1 ?_
  refine ifn (show ¬ y9 < 0 by omega) ?_
  refine stepb (show laws_eqChart.f K r0 r1 r2 r0 r1 r2 = some true from eqChart_eq K r0 r1 r2 (by omega) (by omega)) ?_
  refine condt ?_
  refine ifn (show ¬ ¬ r3 = r3 from fun h => h rfl) ?_
  obtain ⟨y11, w11_r2, py11, qy11, my11_r2, ey11⟩ := markChart_ex r0 r1 r2 1 (by omega) (by omega) (by omega)
  refine stepb (ey11 K (by omega)).1 ?_
  refine stepb (ey11 K (by omega)).2 ?_
  refine ifn (show ¬ y11 < 0 by omega) ?_
  refine ifn (show ¬ ¬ y11 = y11 from fun h => h rfl) ?_
  refine stepb (show laws_toChart.f K a0_0 a0_1 l0_2 = some (a0_0, a0_1, l0_2) from toChart_eq K a0_0 a0_1 l0_2 (by omega) (by omega)) ?_
  refine stepb (hI K (by omega)) ?_
  refine stepb (show laws_eqChart.f K r0 r1 r2 r0 r1 r2 = some true from eqChart_eq K r0 r1 r2 (by omega) (by omega)) ?_
  refine condt ?_
  refine ifn (show ¬ ¬ r3 = r3 from fun h => h rfl) ?_
  refine stepb (ey11 K (by omega)).2 ?_
  refine ifn (show ¬ y11 < 0 by omega) ?_
  refine ifn (show ¬ ¬ y11 = y11 from fun h => h rfl) ?_
  rfl
end Go.Proofs.Ytijmljaemalgmaa.DFnExactFillArea
