/- The program's ChangeColor returns what the reference's ChangeColor returns, for every chart and all colors. -/
import Derived.Test.YteiaakppjcpgcaaPFnExactChangeColorx5
namespace Go.Proofs.Yteiaakppjcpgcaa.Pure
open Go.RowKit Go.Proofs.Yteiaakppjcpgcaa.PFnExactChangeColor Go.Proofs.YteiaakppjcpgcaaW.PrintWords Go.Proofs.YteiaakppjcpgcaaW.PrintLast
theorem wrap_id {x : Int} (h : -9223372036854775808 ≤ x) (h' : x ≤ 9223372036854775807) : wrap64 x = x := by unfold wrap64; omega
theorem rd_get (l : List Int) (i : Nat) (h : i < l.length) : rd l (i : Int) = l[i] := by
  unfold rd; rw [Int.toNat_natCast, List.getD_eq_getElem?_getD, List.getElem?_eq_getElem h]; rfl
theorem succ_of {k : Nat} (h : 0 < k) : ∃ m, k = m + 1 := ⟨k - 1, by omega⟩
theorem toIntS_l (l : List Int) (hl : l.length ≤ 35184372088832) : ∀ (d k i : Nat) (acc : List Int), i + d = l.length → d < k → acc.length = l.length → (∀ j, j < i → acc[j]? = l[j]?) → laws_toIntS.l0 k l i acc = some l := by
  intro d
  induction d with
  | zero =>
    intro k i acc h1 h2 h3 h4
    obtain ⟨k, rfl⟩ := succ_of h2
    simp only [laws_toIntS.l0]; rw [if_neg (by omega)]
    have : acc = l := List.ext_getElem? fun j => by
      by_cases hj : j < i
      · exact h4 j hj
      · rw [List.getElem?_eq_none (by omega), List.getElem?_eq_none (by omega)]
    rw [this]
  | succ d ih =>
    intro k i acc h1 h2 h3 h4
    obtain ⟨k, rfl⟩ := succ_of (Nat.lt_of_le_of_lt (Nat.zero_le _) h2)
    simp only [laws_toIntS.l0]; rw [if_pos (by omega), if_pos (by omega), if_pos (by omega), wrap_id (by omega) (by omega), Int.toNat_natCast]
    refine ih k (i + 1) _ (by omega) (by omega) (by rw [List.length_set]; exact h3) fun j hj => ?_
    rw [List.getElem?_set]
    by_cases e : i = j
    · subst e; rw [if_pos rfl, if_pos (by omega), rd_get l i (by omega), List.getElem?_eq_getElem (by omega)]
    · rw [if_neg e]; exact h4 j (by omega)
theorem toIntS_eq (l : List Int) (hl : l.length ≤ 35184372088832) (k : Nat) (hk : l.length < k) : laws_toIntS.f k l = some l := by
  unfold laws_toIntS.f
  rw [if_pos (by omega), if_pos (by omega)]
  exact toIntS_l l hl l.length k 0 _ (by omega) hk (by simp) (fun j hj => by omega)
theorem eqIntS_l (l : List Int) (hl : l.length ≤ 35184372088832) : ∀ (d k i : Nat), i + d = l.length → d < k → laws_eqIntS.l0 k l l i = some true := by
  intro d
  induction d with
  | zero => intro k i h1 h2; obtain ⟨k, rfl⟩ := succ_of h2; simp only [laws_eqIntS.l0]; rw [if_neg (by omega)]
  | succ d ih =>
    intro k i h1 h2
    obtain ⟨k, rfl⟩ := succ_of (Nat.lt_of_le_of_lt (Nat.zero_le _) h2)
    simp only [laws_eqIntS.l0]; rw [if_pos (by omega), if_pos (by omega), if_pos (by omega), if_pos (by trivial), wrap_id (by omega) (by omega)]
    exact ih k (i + 1) (by omega) (by omega)
theorem eqIntS_eq (l : List Int) (hl : l.length ≤ 35184372088832) (k : Nat) (hk : l.length < k) : laws_eqIntS.f k l l = some true := by
  unfold laws_eqIntS.f; rw [if_pos rfl]; exact eqIntS_l l hl l.length k 0 (by omega) hk
def marks (a : Int) : Nat → List Int
  | 0 => []
  | n + 1 => a :: marks (a + 1) n
theorem marks_len (n : Nat) : ∀ a, (marks a n).length = n := by
  induction n with
  | zero => intro a; rfl
  | succ n ih => intro a; simp [marks, ih]
theorem marks_get (n : Nat) : ∀ (a : Int) (i : Nat), i < n → (marks a n)[i]? = some (a + i) := by
  induction n with
  | zero => intro a i h; omega
  | succ n ih =>
    intro a i h
    cases i with
    | zero => simp [marks]
    | succ i => simp only [marks, List.getElem?_cons_succ]; rw [ih (a + 1) i (by omega)]; congr 1; omega
theorem markIntS_l (n : Nat) (a : Int) (ha : 0 ≤ a) (hn : a + n ≤ 35184372088832) : ∀ (d k i : Nat) (acc : List Int), i + d = n → d < k → acc.length = n → (∀ j, j < i → acc[j]? = (marks a n)[j]?) → laws_markIntS.l0 k acc (a + i) i = some (a + n, marks a n) := by
  intro d
  induction d with
  | zero =>
    intro k i acc h1 h2 h3 h4
    obtain ⟨k, rfl⟩ := succ_of h2
    simp only [laws_markIntS.l0]; rw [if_neg (by omega)]
    have : acc = marks a n := List.ext_getElem? fun j => by
      by_cases hj : j < i
      · exact h4 j hj
      · rw [List.getElem?_eq_none (by omega), List.getElem?_eq_none (by rw [marks_len]; omega)]
    rw [this]; have : i = n := by omega
    rw [this]
  | succ d ih =>
    intro k i acc h1 h2 h3 h4
    obtain ⟨k, rfl⟩ := succ_of (Nat.lt_of_le_of_lt (Nat.zero_le _) h2)
    simp only [laws_markIntS.l0]; rw [if_pos (by omega), if_pos (by omega), wrap_id (by omega) (by omega), wrap_id (by omega) (by omega), Int.toNat_natCast]
    have := ih k (i + 1) (acc.set i (a + i)) (by omega) (by omega) (by rw [List.length_set]; exact h3) fun j hj => by
      rw [List.getElem?_set]
      by_cases e : i = j
      · subst e; rw [if_pos rfl, if_pos (by omega), marks_get n a i (by omega)]
      · rw [if_neg e]; exact h4 j (by omega)
    rw [show ((i + 1 : Nat) : Int) = (i : Int) + 1 by omega, ← Int.add_assoc] at this
    exact this
theorem markIntS_eq (l : List Int) (a : Int) (ha : 0 ≤ a) (hl : a + l.length ≤ 35184372088832) (k : Nat) (hk : l.length < k) : laws_markIntS.f k l a = some (a + l.length, marks a l.length) := by
  unfold laws_markIntS.f
  have := markIntS_l l.length a ha hl l.length k 0 l (by omega) hk rfl (fun j hj => by omega)
  simpa using this
theorem heldIntS_l (n : Nat) (a : Int) (ha : 0 ≤ a) (hn : a + n ≤ 35184372088832) : ∀ (d k i : Nat), i + d = n → d < k → laws_heldIntS.l0 k (marks a n) (a + i) i = some (a + n) := by
  intro d
  induction d with
  | zero =>
    intro k i h1 h2; obtain ⟨k, rfl⟩ := succ_of h2; simp only [laws_heldIntS.l0]; rw [if_neg (by rw [marks_len]; omega)]
    have : i = n := by omega
    rw [this]
  | succ d ih =>
    intro k i h1 h2
    obtain ⟨k, rfl⟩ := succ_of (Nat.lt_of_le_of_lt (Nat.zero_le _) h2)
    have hr : rd (marks a n) (i : Int) = a + i := by
      unfold rd; rw [Int.toNat_natCast, List.getD_eq_getElem?_getD, marks_get n a i (by omega)]; rfl
    simp only [laws_heldIntS.l0]; rw [if_pos (by rw [marks_len]; omega), if_pos (by omega), if_pos hr, wrap_id (by omega) (by omega), wrap_id (by omega) (by omega)]
    have := ih k (i + 1) (by omega) (by omega)
    rw [show ((i + 1 : Nat) : Int) = (i : Int) + 1 by omega, ← Int.add_assoc] at this
    exact this
theorem heldIntS_eq (n : Nat) (a : Int) (ha : 0 ≤ a) (hl : a + n ≤ 35184372088832) (k : Nat) (hk : n < k) : laws_heldIntS.f k (marks a n) a = some (a + n) := by
  unfold laws_heldIntS.f
  have := heldIntS_l n a ha hl n k 0 (by omega) hk
  simpa using this
theorem szIntS_eq (l : List Int) (a : Int) (ha : 0 ≤ a) (ha' : a ≤ 1048576) (hl : l.length * 8 ≤ 140737488351232) : laws_szIntS.f l a = some (if a < l.length then -1 else a - l.length) := by
  unfold laws_szIntS.f
  rw [wrap_id (by omega) (by omega)]
  by_cases h : a - (l.length : Int) < 0
  · rw [if_pos h, if_pos (by omega)]
  · rw [if_neg h, if_neg (by omega)]
def colorB (x : Int) : Bool := decide (0 ≤ x) && decide (x ≤ 5)
def sideB (x : Int) : Bool := decide (1 ≤ x) && decide (x ≤ 8)
def goodB (w h : Int) (l : List Int) : Bool := sideB w && sideB h && decide ((l.length : Int) = w * h) && l.all colorB
theorem l2Color_eq (x : Int) : spec_l2Color.f x = some (colorB x) := by
  unfold spec_l2Color.f spec_l1In.f colorB
  by_cases h : x ≥ 0
  · rw [if_pos h]; simp [show (0 : Int) ≤ x from h]
  · rw [if_neg h]; simp [show ¬ (0 : Int) ≤ x from h]
theorem l2Side_eq (x : Int) : spec_l2Side.f x = some (sideB x) := by
  unfold spec_l2Side.f spec_l1In.f sideB
  by_cases h : x ≥ 1
  · rw [if_pos h]; simp [show (1 : Int) ≤ x from h]
  · rw [if_neg h]; simp [show ¬ (1 : Int) ≤ x from h]
theorem side_of {x : Int} (h : sideB x = true) : 1 ≤ x ∧ x ≤ 8 := by unfold sideB at h; simpa using h
theorem color_of {x : Int} (h : colorB x = true) : 0 ≤ x ∧ x ≤ 5 := by unfold colorB at h; simpa using h
theorem mul_bd {w h : Int} (hw : 1 ≤ w ∧ w ≤ 8) (hh : 1 ≤ h ∧ h ≤ 8) : 1 ≤ w * h ∧ w * h ≤ 64 := by
  obtain ⟨a, b⟩ := hw; obtain ⟨c, d⟩ := hh
  have h1 : w = 1 ∨ w = 2 ∨ w = 3 ∨ w = 4 ∨ w = 5 ∨ w = 6 ∨ w = 7 ∨ w = 8 := by omega
  rcases h1 with rfl | rfl | rfl | rfl | rfl | rfl | rfl | rfl <;> omega
theorem good_of {w h : Int} {l : List Int} (hg : goodB w h l = true) : (1 ≤ w ∧ w ≤ 8) ∧ (1 ≤ h ∧ h ≤ 8) ∧ (l.length : Int) = w * h ∧ ∀ x ∈ l, 0 ≤ x ∧ x ≤ 5 := by
  unfold goodB at hg
  simp only [Bool.and_eq_true, decide_eq_true_eq, List.all_eq_true] at hg
  exact ⟨side_of hg.1.1.1, side_of hg.1.1.2, hg.1.2, fun x hx => color_of (hg.2 x hx)⟩
theorem l2Good_l (w h : Int) (l : List Int) (hl : l.length ≤ 35184372088832) : ∀ (d k i : Nat), i + d = l.length → d < k → (∀ j (hj : j < l.length), j < i → colorB l[j] = true) → spec_l2Good.l0 k i w h l = some (goodB w h l) := by
  intro d
  induction d with
  | zero =>
    intro k i h1 h2 h3
    obtain ⟨k, rfl⟩ := succ_of h2
    have hall : l.all colorB = true := by
      rw [List.all_eq_true]; intro x hx; obtain ⟨j, hj, rfl⟩ := List.mem_iff_getElem.1 hx; exact h3 j hj (by omega)
    simp only [spec_l2Good.l0]; rw [if_neg (by omega), l2Side_eq, l2Side_eq]
    simp only [Option.bind_some]
    unfold goodB
    cases e1 : sideB w <;> cases e2 : sideB h <;> simp [hall]
    rw [wrap_id (by have := mul_bd (side_of e1) (side_of e2); omega) (by have := mul_bd (side_of e1) (side_of e2); omega)]
    rfl
  | succ d ih =>
    intro k i h1 h2 h3
    obtain ⟨k, rfl⟩ := succ_of (Nat.lt_of_le_of_lt (Nat.zero_le _) h2)
    simp only [spec_l2Good.l0]; rw [if_pos (by omega), if_pos (by omega), l2Color_eq, rd_get l i (by omega)]
    simp only [Option.bind_some]
    by_cases hc : colorB l[i] = true
    · rw [if_pos hc, wrap_id (by omega) (by omega)]
      refine ih k (i + 1) (by omega) (by omega) fun j hj hji => ?_
      by_cases e : j = i
      · subst e; exact hc
      · exact h3 j hj (by omega)
    · rw [if_neg hc]
      have : l.all colorB = false := by
        rw [← Bool.not_eq_true, List.all_eq_true]; intro hh; exact hc (hh _ (List.getElem_mem _))
      unfold goodB; rw [this]; simp
theorem l2Good_eq (w h : Int) (l : List Int) (hl : l.length ≤ 35184372088832) (k : Nat) (hk : l.length < k) : spec_l2Good.f k w h l = some (goodB w h l) := by
  unfold spec_l2Good.f
  exact l2Good_l w h l hl l.length k 0 (by omega) hk (fun j hj hji => by omega)
theorem isColor_eq (x : Int) : impl_isColor.f x = some (colorB x) := by
  unfold impl_isColor.f impl_in.f colorB
  by_cases h : x ≥ 0
  · rw [if_pos h]; simp [show (0 : Int) ≤ x from h]
  · rw [if_neg h]; simp [show ¬ (0 : Int) ≤ x from h]
theorem isSide_eq (x : Int) : impl_isSide.f x = some (sideB x) := by
  unfold impl_isSide.f impl_in.f sideB
  by_cases h : x ≥ 1
  · rw [if_pos h]; simp [show (1 : Int) ≤ x from h]
  · rw [if_neg h]; simp [show ¬ (1 : Int) ≤ x from h]
theorem idxColor_l (l : List Int) (hl : l.length ≤ 35184372088832) : ∀ (d k i : Nat), i + d = l.length → d < k → (∀ j (hj : j < l.length), j < i → colorB l[j] = true) → ∃ r, slices_IndexFunc_int_int_v0.l0 k l l.length i = some r ∧ (decide (r ≥ 0) = !l.all colorB) := by
  intro d
  induction d with
  | zero =>
    intro k i h1 h2 h3
    obtain ⟨k, rfl⟩ := succ_of h2
    have hall : l.all colorB = true := by
      rw [List.all_eq_true]; intro x hx; obtain ⟨j, hj, rfl⟩ := List.mem_iff_getElem.1 hx; exact h3 j hj (by omega)
    refine ⟨-1, ?_, by rw [hall]; rfl⟩
    simp only [slices_IndexFunc_int_int_v0.l0]; rw [if_neg (by omega)]
  | succ d ih =>
    intro k i h1 h2 h3
    obtain ⟨k, rfl⟩ := succ_of (Nat.lt_of_le_of_lt (Nat.zero_le _) h2)
    simp only [slices_IndexFunc_int_int_v0.l0, impl_areAll_int_1_v0.f]; rw [if_pos (by omega), if_pos (by omega), if_pos (by omega), isColor_eq, rd_get l i (by omega)]
    simp only [Option.bind_some]
    by_cases hc : colorB l[i] = true
    · rw [hc]; simp only [Bool.not_true, Bool.false_eq_true, if_false]
      rw [wrap_id (by omega) (by omega)]
      refine ih k (i + 1) (by omega) (by omega) fun j hj hji => ?_
      by_cases e : j = i
      · subst e; exact hc
      · exact h3 j hj (by omega)
    · have hc' : colorB l[i] = false := by simpa using hc
      rw [hc']; simp only [Bool.not_false, if_true]
      have : l.all colorB = false := by
        rw [← Bool.not_eq_true, List.all_eq_true]; intro hh; exact hc (hh _ (List.getElem_mem _))
      exact ⟨_, rfl, by rw [this]; simp⟩
theorem areColors_eq (l : List Int) (hl : l.length ≤ 35184372088832) (k : Nat) (hk : l.length < k) : impl_areAll_int_v0.f k l = some (l.all colorB) := by
  obtain ⟨r, h1, h2⟩ := idxColor_l l hl l.length k 0 (by omega) hk (fun j hj hji => by omega)
  unfold impl_areAll_int_v0.f slices_ContainsFunc_int_int_v0.f slices_IndexFunc_int_int_v0.f
  rw [show (0 : Int) = ((0 : Nat) : Int) from rfl, h1]; simp only [Option.bind_some]
  rw [show decide (r ≥ ((0 : Nat) : Int)) = decide (r ≥ 0) from rfl, h2]; simp
theorem isChart_eq (w h : Int) (l : List Int) (hl : l.length ≤ 35184372088832) (k : Nat) (hk : l.length < k) : impl_IsChart.f k w h l = some (goodB w h l) := by
  unfold impl_IsChart.f
  rw [isSide_eq, isSide_eq, areColors_eq l hl k hk]
  simp only [Option.bind_some]
  unfold goodB
  cases e1 : sideB w <;> cases e2 : sideB h <;> simp
  rw [wrap_id (by have := mul_bd (side_of e1) (side_of e2); omega) (by have := mul_bd (side_of e1) (side_of e2); omega)]
  by_cases e : (l.length : Int) = w * h
  · rw [if_pos e]; simp [e]
  · rw [if_neg e]; simp [e]
theorem l1Own_eq (l : List Int) (hl : l.length ≤ 1048576) : spec_l1Own.f l = some l := by
  unfold spec_l1Own.f; simp only [Option.bind_some, List.nil_append, List.length_nil]; rw [if_pos (by omega)]
theorem l2Own_eq (w h : Int) (l : List Int) (hl : l.length ≤ 1048576) : spec_l2Own.f w h l = some (w, h, l) := by
  unfold spec_l2Own.f; rw [l1Own_eq l hl]; rfl
theorem cloneInt_eq (l : List Int) (hl : l.length ≤ 1048576) : slices_Clone_int_int.f l = some l := by
  unfold slices_Clone_int_int.f; rw [if_pos (by omega)]
theorem copied_eq (w h : Int) (l : List Int) (hl : l.length ≤ 1048576) : impl_Chart_copied.f w h l = some (w, h, l) := by
  unfold impl_Chart_copied.f; rw [cloneInt_eq l hl]; rfl
theorem map_step (f : Int → Int) (l : List Int) (i : Nat) (hi : i < l.length) (acc : List Int) (h : acc = (l.take i).map f ++ l.drop i) : acc.set i (f l[i]) = (l.take (i + 1)).map f ++ l.drop (i + 1) := by
  subst h
  apply List.ext_getElem?
  intro j
  have e1 : ((l.take i).map f).length = i := by simp; omega
  have e2 : ((l.take (i + 1)).map f).length = i + 1 := by simp; omega
  rw [List.getElem?_set]
  by_cases e : i = j
  · subst e
    rw [if_pos rfl, if_pos (by simp; omega), List.getElem?_append_left (by omega)]
    simp [List.getElem?_eq_getElem hi]
  · rw [if_neg e]
    rcases Nat.lt_or_ge j i with hj | hj
    · rw [List.getElem?_append_left (by omega), List.getElem?_append_left (by omega)]
      simp [hj, show j < i + 1 by omega]
    · rw [List.getElem?_append_right (by omega), List.getElem?_append_right (by omega), e1, e2]
      simp only [List.getElem?_drop]
      congr 1; omega
def chg (a b : Int) (x : Int) : Int := if x = a then b else x
theorem rd_acc (f : Int → Int) (l : List Int) (i : Nat) (hi : i < l.length) : rd ((l.take i).map f ++ l.drop i) (i : Int) = l[i] := by
  have e1 : ((l.take i).map f).length = i := by simp; omega
  unfold rd
  rw [Int.toNat_natCast, List.getD_eq_getElem?_getD, List.getElem?_append_right (by omega), e1]
  simp [List.getElem?_eq_getElem hi]
theorem acc_same (a b : Int) (l : List Int) (i : Nat) (hi : i < l.length) (h : ¬ l[i] = a) : (l.take i).map (chg a b) ++ l.drop i = (l.take (i + 1)).map (chg a b) ++ l.drop (i + 1) := by
  have e0 : l.drop i = l[i] :: l.drop (i + 1) := List.drop_eq_getElem_cons hi
  have e1 : l.take (i + 1) = l.take i ++ [l[i]] := by rw [List.take_succ_eq_append_getElem hi]
  rw [e0, e1, List.map_append]; simp [chg, h]
theorem acc_len (f : Int → Int) (l : List Int) (i : Nat) (hi : i ≤ l.length) : ((l.take i).map f ++ l.drop i).length = l.length := by simp; omega
theorem specCC_l (a b w h : Int) (l : List Int) (hl : l.length ≤ 1048576) : ∀ (d k i : Nat), i + d = l.length → d < k → spec_ChangeColor.l0 k a b i w h ((l.take i).map (chg a b) ++ l.drop i) = some (w, h, l.map (chg a b), true) := by
  intro d
  induction d with
  | zero =>
    intro k i h1 h2
    obtain ⟨k, rfl⟩ := succ_of h2
    have hi : i = l.length := by omega
    simp only [spec_ChangeColor.l0]; rw [if_neg (by rw [acc_len _ _ _ (by omega)]; omega)]
    subst hi; simp
  | succ d ih =>
    intro k i h1 h2
    obtain ⟨k, rfl⟩ := succ_of (Nat.lt_of_le_of_lt (Nat.zero_le _) h2)
    simp only [spec_ChangeColor.l0]; rw [if_pos (by rw [acc_len _ _ _ (by omega)]; omega), if_pos (by omega), rd_acc _ l i (by omega), wrap_id (by omega) (by omega)]
    by_cases e : l[i] = a
    · rw [if_pos e, Int.toNat_natCast]
      have := map_step (chg a b) l i (by omega) _ rfl
      rw [show chg a b l[i] = b by simp [chg, e]] at this
      rw [this]; exact ih k (i + 1) (by omega) (by omega)
    · rw [if_neg e, acc_same a b l i (by omega) e]; exact ih k (i + 1) (by omega) (by omega)
theorem implCC_l (a b w h : Int) (l : List Int) (hl : l.length ≤ 1048576) : ∀ (d k i : Nat), i + d = l.length → d < k → impl_ChangeColor.l0 k a b l.length i w h ((l.take i).map (chg a b) ++ l.drop i) = some (w, h, l.map (chg a b), true) := by
  intro d
  induction d with
  | zero =>
    intro k i h1 h2
    obtain ⟨k, rfl⟩ := succ_of h2
    have hi : i = l.length := by omega
    simp only [impl_ChangeColor.l0]; rw [if_neg (by omega)]
    subst hi; simp
  | succ d ih =>
    intro k i h1 h2
    obtain ⟨k, rfl⟩ := succ_of (Nat.lt_of_le_of_lt (Nat.zero_le _) h2)
    simp only [impl_ChangeColor.l0]; rw [if_pos (by omega), if_pos (by omega), if_pos (by rw [acc_len _ _ _ (by omega)]; omega), rd_acc _ l i (by omega), wrap_id (by omega) (by omega)]
    by_cases e : l[i] = a
    · rw [if_pos e, Int.toNat_natCast]
      have := map_step (chg a b) l i (by omega) _ rfl
      rw [show chg a b l[i] = b by simp [chg, e]] at this
      rw [this]; exact ih k (i + 1) (by omega) (by omega)
    · rw [if_neg e, acc_same a b l i (by omega) e]; exact ih k (i + 1) (by omega) (by omega)
def ccB (w h : Int) (l : List Int) (a b : Int) : Bool := goodB w h l && colorB a && colorB b
def ccR (w h : Int) (l : List Int) (a b : Int) : Int × Int × List Int × Bool := if ccB w h l a b = true then (w, h, l.map (chg a b), true) else (0, 0, [], false)
theorem specCC_eq (w h : Int) (l : List Int) (a b : Int) (hl : l.length ≤ 1048576) (k : Nat) (hk : l.length + 1 < k) : spec_ChangeColor.f k w h l a b = some (ccR w h l a b) := by
  obtain ⟨k, rfl⟩ := succ_of (show 0 < k by omega)
  have h0 := specCC_l a b w h l hl l.length k 0 (by omega) (by omega)
  simp only [List.take_zero, List.map_nil, List.nil_append, List.drop_zero] at h0
  unfold spec_ChangeColor.f ccR ccB
  rw [l2Good_eq w h l (by omega) _ (by omega), l2Color_eq, l2Color_eq]
  cases e1 : goodB w h l <;> cases e2 : colorB a <;> cases e3 : colorB b <;> simp [spec_ChangeColor.j0, l2Own_eq w h l hl]
  exact h0
theorem implCC_eq (w h : Int) (l : List Int) (a b : Int) (hl : l.length ≤ 1048576) (k : Nat) (hk : l.length + 1 < k) : impl_ChangeColor.f k w h l a b = some (ccR w h l a b) := by
  obtain ⟨k, rfl⟩ := succ_of (show 0 < k by omega)
  have h0 := implCC_l a b w h l hl l.length k 0 (by omega) (by omega)
  simp only [List.take_zero, List.map_nil, List.nil_append, List.drop_zero] at h0
  unfold impl_ChangeColor.f ccR ccB
  rw [isChart_eq w h l (by omega) _ (by omega), isColor_eq, isColor_eq]
  cases e1 : goodB w h l <;> cases e2 : colorB a <;> cases e3 : colorB b <;> simp [impl_ChangeColor.j0, copied_eq w h l hl]
  exact h0
theorem ccR_len (w h : Int) (l : List Int) (a b : Int) : (ccR w h l a b).2.2.1.length ≤ l.length := by unfold ccR; split <;> simp
theorem FnExactChangeColor : laws_FnExactChangeColor.Pure := by
  intro w h l a b _ _ hl _ _ _
  refine ⟨l.length + 10, ?_⟩
  unfold laws_FnExactChangeColor.f laws_szChart.f
  rw [szIntS_eq l 1048576 (by omega) (by omega) hl]
  by_cases hs : (1048576 : Int) < l.length
  · rw [if_pos hs]; simp
  · rw [if_neg hs]
    have hl' : l.length ≤ 1048576 := by omega
    simp only [Option.bind_some]
    rw [if_neg (by omega)]
    simp only [Option.bind_some]
    rw [if_neg (by omega)]
    have t1 : ∀ k, l.length < k → laws_toChart.f k w h l = some (w, h, l) := fun k hk => by unfold laws_toChart.f; rw [toIntS_eq l (by omega) k hk]; rfl
    have e1 : ∀ k, l.length < k → laws_eqChart.f k w h l w h l = some true := fun k hk => by unfold laws_eqChart.f; rw [if_pos rfl, if_pos rfl, eqIntS_eq l (by omega) k hk]; rfl
    have m1 : ∀ k, l.length < k → laws_markChart.f k w h l 1 = some (1 + (l.length : Int), marks 1 l.length) := fun k hk => by unfold laws_markChart.f; rw [markIntS_eq l 1 (by omega) (by omega) k hk]; rfl
    have hq := ccR_len w h l a b
    obtain ⟨⟨w', h', l', b'⟩, hr⟩ : ∃ r, ccR w h l a b = r := ⟨_, rfl⟩
    rw [hr] at hq
    have e2 : ∀ k, l.length < k → laws_eqChart.f k w' h' l' w' h' l' = some true := fun k hk => by unfold laws_eqChart.f; rw [if_pos rfl, if_pos rfl, eqIntS_eq l' (by simp at hq; omega) k (by simp at hq; omega)]; rfl
    have m2 : ∀ k, l.length < k → laws_markChart.f k w' h' l' 1 = some (1 + (l'.length : Int), marks 1 l'.length) := fun k hk => by unfold laws_markChart.f; rw [markIntS_eq l' 1 (by omega) (by simp at hq; omega) k (by simp at hq; omega)]; rfl
    have d2 : ∀ k, l.length < k → laws_heldChart.f k w' h' (marks 1 l'.length) 1 = some (1 + (l'.length : Int)) := fun k hk => by unfold laws_heldChart.f; rw [heldIntS_eq l'.length 1 (by omega) (by simp at hq; omega) k (by simp at hq; omega)]; simp only [Option.bind_some]; rw [if_neg (by omega)]
    have s1 : ∀ k, l.length + 1 < k → spec_ChangeColor.f k w h l a b = some (w', h', l', b') := fun k hk => by rw [specCC_eq w h l a b hl' k hk, hr]
    have g1 : ∀ k, l.length + 1 < k → impl_ChangeColor.f k w h l a b = some (w', h', l', b') := fun k hk => by rw [implCC_eq w h l a b hl' k hk, hr]
    rw [t1 (l.length + 10) (by omega)]; simp only [Option.bind_some]
    rw [s1 (l.length + 10) (by omega)]; simp only [Option.bind_some]
    rw [g1 (l.length + 10) (by omega)]; simp only [Option.bind_some]
    rw [e2 (l.length + 10) (by omega)]; simp only [Option.bind_some, if_true, bne_self_eq_false]
    simp only [laws_FnExactChangeColor.j0, laws_FnExactChangeColor.j1, laws_FnExactChangeColor.j2, Bool.false_eq_true, if_false]
    rw [t1 (l.length + 9) (by omega)]; simp only [Option.bind_some]
    rw [e1 (l.length + 9) (by omega)]; simp only [Option.bind_some, if_true]
    rw [m1 (l.length + 9) (by omega)]; simp only [Option.bind_some]
    rw [if_neg (by omega), e2 (l.length + 9) (by omega)]; simp only [Option.bind_some, if_true, bne_self_eq_false, Bool.false_eq_true, if_false]
    rw [m2 (l.length + 8) (by omega)]; simp only [Option.bind_some]
    rw [d2 (l.length + 8) (by omega)]; simp only [Option.bind_some, if_true]
    rw [if_neg (by omega), t1 (l.length + 8) (by omega)]; simp only [Option.bind_some]
    rw [g1 (l.length + 8) (by omega)]; simp only [Option.bind_some]
    rw [e2 (l.length + 8) (by omega)]; simp only [Option.bind_some, if_true, bne_self_eq_false, Bool.false_eq_true, if_false]
    rw [d2 (l.length + 7) (by omega)]; simp only [Option.bind_some, if_true]
    rw [if_neg (by omega)]
end Go.Proofs.Yteiaakppjcpgcaa.Pure
