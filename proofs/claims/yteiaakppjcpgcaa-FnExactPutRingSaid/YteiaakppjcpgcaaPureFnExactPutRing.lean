/- The program's PutRing returns what the reference's PutRing returns, for every chart and every ring. -/
import Derived.Test.YteiaakppjcpgcaaPFnExactPutRingx6
namespace Go.Proofs.Yteiaakppjcpgcaa.Pure
open Go.RowKit Go.Proofs.Yteiaakppjcpgcaa.PFnExactPutRing Go.Proofs.YteiaakppjcpgcaaW.PrintWords Go.Proofs.YteiaakppjcpgcaaW.PrintLast
set_option linter.unusedVariables false
set_option linter.unusedSimpArgs false
theorem wrap_id {x : Int} (h : -9223372036854775808 ≤ x) (h' : x ≤ 9223372036854775807) : wrap64 x = x := by unfold wrap64; omega
theorem rd_get (l : List Int) (i : Nat) (h : i < l.length) : rd l (i : Int) = l[i] := by
  unfold rd; rw [Int.toNat_natCast, List.getD_eq_getElem?_getD, List.getElem?_eq_getElem h]; rfl
theorem succ_of {k : Nat} (h : 0 < k) : ∃ m, k = m + 1 := ⟨k - 1, by omega⟩
theorem toIntS_l (l : List Int) (hl : l.length ≤ 35184372088832) : ∀ (d k i : Nat) (acc : List Int), i + d = l.length → d < k → acc.length = l.length → (∀ j, j < i → acc[j]? = l[j]?) → laws_toIntS.l0 k l i acc = some l := by
  intro d
  induction d with
  | zero =>
    intro k i acc h1 h2 h3 h4
    obtain ⟨k, rfl⟩ := succ_of h2
    simp only [laws_toIntS.l0]; rw [if_neg (by omega)]
    have : acc = l := List.ext_getElem? fun j => by
      by_cases hj : j < i
      · exact h4 j hj
      · rw [List.getElem?_eq_none (by omega), List.getElem?_eq_none (by omega)]
    rw [this]
  | succ d ih =>
    intro k i acc h1 h2 h3 h4
    obtain ⟨k, rfl⟩ := succ_of (Nat.lt_of_le_of_lt (Nat.zero_le _) h2)
    simp only [laws_toIntS.l0]; rw [if_pos (by omega), if_pos (by omega), if_pos (by omega), wrap_id (by omega) (by omega), Int.toNat_natCast]
    refine ih k (i + 1) _ (by omega) (by omega) (by rw [List.length_set]; exact h3) fun j hj => ?_
    rw [List.getElem?_set]
    by_cases e : i = j
    · subst e; rw [if_pos rfl, if_pos (by omega), rd_get l i (by omega), List.getElem?_eq_getElem (by omega)]
    · rw [if_neg e]; exact h4 j (by omega)
theorem toIntS_eq (l : List Int) (hl : l.length ≤ 35184372088832) (k : Nat) (hk : l.length < k) : laws_toIntS.f k l = some l := by
  unfold laws_toIntS.f
  rw [if_pos (by omega), if_pos (by omega)]
  exact toIntS_l l hl l.length k 0 _ (by omega) hk (by simp) (fun j hj => by omega)
theorem eqIntS_l (l : List Int) (hl : l.length ≤ 35184372088832) : ∀ (d k i : Nat), i + d = l.length → d < k → laws_eqIntS.l0 k l l i = some true := by
  intro d
  induction d with
  | zero => intro k i h1 h2; obtain ⟨k, rfl⟩ := succ_of h2; simp only [laws_eqIntS.l0]; rw [if_neg (by omega)]
  | succ d ih =>
    intro k i h1 h2
    obtain ⟨k, rfl⟩ := succ_of (Nat.lt_of_le_of_lt (Nat.zero_le _) h2)
    simp only [laws_eqIntS.l0]; rw [if_pos (by omega), if_pos (by omega), if_pos (by omega), if_pos (by trivial), wrap_id (by omega) (by omega)]
    exact ih k (i + 1) (by omega) (by omega)
theorem eqIntS_eq (l : List Int) (hl : l.length ≤ 35184372088832) (k : Nat) (hk : l.length < k) : laws_eqIntS.f k l l = some true := by
  unfold laws_eqIntS.f; rw [if_pos rfl]; exact eqIntS_l l hl l.length k 0 (by omega) hk
def marks (a : Int) : Nat → List Int
  | 0 => []
  | n + 1 => a :: marks (a + 1) n
theorem marks_len (n : Nat) : ∀ a, (marks a n).length = n := by
  induction n with
  | zero => intro a; rfl
  | succ n ih => intro a; simp [marks, ih]
theorem marks_get (n : Nat) : ∀ (a : Int) (i : Nat), i < n → (marks a n)[i]? = some (a + i) := by
  induction n with
  | zero => intro a i h; omega
  | succ n ih =>
    intro a i h
    cases i with
    | zero => simp [marks]
    | succ i => simp only [marks, List.getElem?_cons_succ]; rw [ih (a + 1) i (by omega)]; congr 1; omega
theorem markIntS_l (n : Nat) (a : Int) (ha : 0 ≤ a) (hn : a + n ≤ 35184372088832) : ∀ (d k i : Nat) (acc : List Int), i + d = n → d < k → acc.length = n → (∀ j, j < i → acc[j]? = (marks a n)[j]?) → laws_markIntS.l0 k acc (a + i) i = some (a + n, marks a n) := by
  intro d
  induction d with
  | zero =>
    intro k i acc h1 h2 h3 h4
    obtain ⟨k, rfl⟩ := succ_of h2
    simp only [laws_markIntS.l0]; rw [if_neg (by omega)]
    have : acc = marks a n := List.ext_getElem? fun j => by
      by_cases hj : j < i
      · exact h4 j hj
      · rw [List.getElem?_eq_none (by omega), List.getElem?_eq_none (by rw [marks_len]; omega)]
    rw [this]; have : i = n := by omega
    rw [this]
  | succ d ih =>
    intro k i acc h1 h2 h3 h4
    obtain ⟨k, rfl⟩ := succ_of (Nat.lt_of_le_of_lt (Nat.zero_le _) h2)
    simp only [laws_markIntS.l0]; rw [if_pos (by omega), if_pos (by omega), wrap_id (by omega) (by omega), wrap_id (by omega) (by omega), Int.toNat_natCast]
    have := ih k (i + 1) (acc.set i (a + i)) (by omega) (by omega) (by rw [List.length_set]; exact h3) fun j hj => by
      rw [List.getElem?_set]
      by_cases e : i = j
      · subst e; rw [if_pos rfl, if_pos (by omega), marks_get n a i (by omega)]
      · rw [if_neg e]; exact h4 j (by omega)
    rw [show ((i + 1 : Nat) : Int) = (i : Int) + 1 by omega, ← Int.add_assoc] at this
    exact this
theorem markIntS_eq (l : List Int) (a : Int) (ha : 0 ≤ a) (hl : a + l.length ≤ 35184372088832) (k : Nat) (hk : l.length < k) : laws_markIntS.f k l a = some (a + l.length, marks a l.length) := by
  unfold laws_markIntS.f
  have := markIntS_l l.length a ha hl l.length k 0 l (by omega) hk rfl (fun j hj => by omega)
  simpa using this
theorem heldIntS_l (n : Nat) (a : Int) (ha : 0 ≤ a) (hn : a + n ≤ 35184372088832) : ∀ (d k i : Nat), i + d = n → d < k → laws_heldIntS.l0 k (marks a n) (a + i) i = some (a + n) := by
  intro d
  induction d with
  | zero =>
    intro k i h1 h2; obtain ⟨k, rfl⟩ := succ_of h2; simp only [laws_heldIntS.l0]; rw [if_neg (by rw [marks_len]; omega)]
    have : i = n := by omega
    rw [this]
  | succ d ih =>
    intro k i h1 h2
    obtain ⟨k, rfl⟩ := succ_of (Nat.lt_of_le_of_lt (Nat.zero_le _) h2)
    have hr : rd (marks a n) (i : Int) = a + i := by
      unfold rd; rw [Int.toNat_natCast, List.getD_eq_getElem?_getD, marks_get n a i (by omega)]; rfl
    simp only [laws_heldIntS.l0]; rw [if_pos (by rw [marks_len]; omega), if_pos (by omega), if_pos hr, wrap_id (by omega) (by omega), wrap_id (by omega) (by omega)]
    have := ih k (i + 1) (by omega) (by omega)
    rw [show ((i + 1 : Nat) : Int) = (i : Int) + 1 by omega, ← Int.add_assoc] at this
    exact this
theorem heldIntS_eq (n : Nat) (a : Int) (ha : 0 ≤ a) (hl : a + n ≤ 35184372088832) (k : Nat) (hk : n < k) : laws_heldIntS.f k (marks a n) a = some (a + n) := by
  unfold laws_heldIntS.f
  have := heldIntS_l n a ha hl n k 0 (by omega) hk
  simpa using this
theorem szIntS_eq (l : List Int) (a : Int) (ha : 0 ≤ a) (ha' : a ≤ 1048576) (hl : l.length * 8 ≤ 140737488351232) : laws_szIntS.f l a = some (if a < l.length then -1 else a - l.length) := by
  unfold laws_szIntS.f
  rw [wrap_id (by omega) (by omega)]
  by_cases h : a - (l.length : Int) < 0
  · rw [if_pos h, if_pos (by omega)]
  · rw [if_neg h, if_neg (by omega)]
theorem szChart_eq (w h : Int) (l : List Int) (a : Int) (ha : 0 ≤ a) (ha' : a ≤ 1048576) (hl : l.length * 8 ≤ 140737488351232) : laws_szChart.f w h l a = some (if a < l.length then -1 else a - l.length) := by
  unfold laws_szChart.f
  rw [szIntS_eq l a ha ha' hl]
  simp only [Option.bind_some]
  by_cases e : a < (l.length : Int)
  · rw [if_pos e, if_pos (by omega)]
  · rw [if_neg e, if_neg (by omega)]
theorem toChart_eq (w h : Int) (l : List Int) (hl : l.length ≤ 1048576) (k : Nat) (hk : l.length < k) : laws_toChart.f k w h l = some (w, h, l) := by
  unfold laws_toChart.f; rw [toIntS_eq l (by omega) k hk]; rfl
theorem eqChart_eq (w h : Int) (l : List Int) (hl : l.length ≤ 1048576) (k : Nat) (hk : l.length < k) : laws_eqChart.f k w h l w h l = some true := by
  unfold laws_eqChart.f; rw [if_pos rfl, if_pos rfl, eqIntS_eq l (by omega) k hk]; rfl
theorem markChart_eq (w h : Int) (l : List Int) (a : Int) (ha : 0 ≤ a) (hl : a + l.length ≤ 35184372088832) (k : Nat) (hk : l.length < k) : laws_markChart.f k w h l a = some (a + (l.length : Int), marks a l.length) := by
  unfold laws_markChart.f; rw [markIntS_eq l a ha hl k hk]; rfl
theorem heldChart_eq (w h : Int) (n : Nat) (a : Int) (ha : 0 ≤ a) (hl : a + n ≤ 35184372088832) (k : Nat) (hk : n < k) : laws_heldChart.f k w h (marks a n) a = some (a + (n : Int)) := by
  unfold laws_heldChart.f; rw [heldIntS_eq n a ha hl k hk]; simp only [Option.bind_some]; rw [if_neg (by omega)]
def colorB (x : Int) : Bool := decide (0 ≤ x) && decide (x ≤ 5)
def sideB (x : Int) : Bool := decide (1 ≤ x) && decide (x ≤ 8)
def goodB (w h : Int) (l : List Int) : Bool := sideB w && sideB h && decide ((l.length : Int) = w * h) && l.all colorB
theorem l2Color_eq (x : Int) : spec_l2Color.f x = some (colorB x) := by
  unfold spec_l2Color.f spec_l1In.f colorB
  by_cases h : x ≥ 0
  · rw [if_pos h]; simp [show (0 : Int) ≤ x from h]
  · rw [if_neg h]; simp [show ¬ (0 : Int) ≤ x from h]
theorem l2Side_eq (x : Int) : spec_l2Side.f x = some (sideB x) := by
  unfold spec_l2Side.f spec_l1In.f sideB
  by_cases h : x ≥ 1
  · rw [if_pos h]; simp [show (1 : Int) ≤ x from h]
  · rw [if_neg h]; simp [show ¬ (1 : Int) ≤ x from h]
theorem side_of {x : Int} (h : sideB x = true) : 1 ≤ x ∧ x ≤ 8 := by unfold sideB at h; simpa using h
theorem color_of {x : Int} (h : colorB x = true) : 0 ≤ x ∧ x ≤ 5 := by unfold colorB at h; simpa using h
theorem mul_bd {w h : Int} (hw : 1 ≤ w ∧ w ≤ 8) (hh : 1 ≤ h ∧ h ≤ 8) : 1 ≤ w * h ∧ w * h ≤ 64 := by
  obtain ⟨a, b⟩ := hw; obtain ⟨c, d⟩ := hh
  have h1 : w = 1 ∨ w = 2 ∨ w = 3 ∨ w = 4 ∨ w = 5 ∨ w = 6 ∨ w = 7 ∨ w = 8 := by omega
  rcases h1 with rfl | rfl | rfl | rfl | rfl | rfl | rfl | rfl <;> omega
theorem good_of {w h : Int} {l : List Int} (hg : goodB w h l = true) : (1 ≤ w ∧ w ≤ 8) ∧ (1 ≤ h ∧ h ≤ 8) ∧ (l.length : Int) = w * h ∧ ∀ x ∈ l, 0 ≤ x ∧ x ≤ 5 := by
  unfold goodB at hg
  simp only [Bool.and_eq_true, decide_eq_true_eq, List.all_eq_true] at hg
  exact ⟨side_of hg.1.1.1, side_of hg.1.1.2, hg.1.2, fun x hx => color_of (hg.2 x hx)⟩
theorem l2Good_l (w h : Int) (l : List Int) (hl : l.length ≤ 35184372088832) : ∀ (d k i : Nat), i + d = l.length → d < k → (∀ j (hj : j < l.length), j < i → colorB l[j] = true) → spec_l2Good.l0 k i w h l = some (goodB w h l) := by
  intro d
  induction d with
  | zero =>
    intro k i h1 h2 h3
    obtain ⟨k, rfl⟩ := succ_of h2
    have hall : l.all colorB = true := by
      rw [List.all_eq_true]; intro x hx; obtain ⟨j, hj, rfl⟩ := List.mem_iff_getElem.1 hx; exact h3 j hj (by omega)
    simp only [spec_l2Good.l0]; rw [if_neg (by omega), l2Side_eq, l2Side_eq]
    simp only [Option.bind_some]
    unfold goodB
    cases e1 : sideB w <;> cases e2 : sideB h <;> simp [hall]
    rw [wrap_id (by have := mul_bd (side_of e1) (side_of e2); omega) (by have := mul_bd (side_of e1) (side_of e2); omega)]
    rfl
  | succ d ih =>
    intro k i h1 h2 h3
    obtain ⟨k, rfl⟩ := succ_of (Nat.lt_of_le_of_lt (Nat.zero_le _) h2)
    simp only [spec_l2Good.l0]; rw [if_pos (by omega), if_pos (by omega), l2Color_eq, rd_get l i (by omega)]
    simp only [Option.bind_some]
    by_cases hc : colorB l[i] = true
    · rw [if_pos hc, wrap_id (by omega) (by omega)]
      refine ih k (i + 1) (by omega) (by omega) fun j hj hji => ?_
      by_cases e : j = i
      · subst e; exact hc
      · exact h3 j hj (by omega)
    · rw [if_neg hc]
      have : l.all colorB = false := by
        rw [← Bool.not_eq_true, List.all_eq_true]; intro hh; exact hc (hh _ (List.getElem_mem _))
      unfold goodB; rw [this]; simp
theorem l2Good_eq (w h : Int) (l : List Int) (hl : l.length ≤ 35184372088832) (k : Nat) (hk : l.length < k) : spec_l2Good.f k w h l = some (goodB w h l) := by
  unfold spec_l2Good.f
  exact l2Good_l w h l hl l.length k 0 (by omega) hk (fun j hj hji => by omega)
theorem isColor_eq (x : Int) : impl_isColor.f x = some (colorB x) := by
  unfold impl_isColor.f impl_in.f colorB
  by_cases h : x ≥ 0
  · rw [if_pos h]; simp [show (0 : Int) ≤ x from h]
  · rw [if_neg h]; simp [show ¬ (0 : Int) ≤ x from h]
theorem isSide_eq (x : Int) : impl_isSide.f x = some (sideB x) := by
  unfold impl_isSide.f impl_in.f sideB
  by_cases h : x ≥ 1
  · rw [if_pos h]; simp [show (1 : Int) ≤ x from h]
  · rw [if_neg h]; simp [show ¬ (1 : Int) ≤ x from h]
theorem idxColor_l (l : List Int) (hl : l.length ≤ 35184372088832) : ∀ (d k i : Nat), i + d = l.length → d < k → (∀ j (hj : j < l.length), j < i → colorB l[j] = true) → ∃ r, slices_IndexFunc_int_int__areAll_int_1__isColor.l0 k l l.length i = some r ∧ (decide (r ≥ 0) = !l.all colorB) := by
  intro d
  induction d with
  | zero =>
    intro k i h1 h2 h3
    obtain ⟨k, rfl⟩ := succ_of h2
    have hall : l.all colorB = true := by
      rw [List.all_eq_true]; intro x hx; obtain ⟨j, hj, rfl⟩ := List.mem_iff_getElem.1 hx; exact h3 j hj (by omega)
    refine ⟨-1, ?_, by rw [hall]; rfl⟩
    simp only [slices_IndexFunc_int_int__areAll_int_1__isColor.l0]; rw [if_neg (by omega)]
  | succ d ih =>
    intro k i h1 h2 h3
    obtain ⟨k, rfl⟩ := succ_of (Nat.lt_of_le_of_lt (Nat.zero_le _) h2)
    simp only [slices_IndexFunc_int_int__areAll_int_1__isColor.l0, impl_areAll_int_1__isColor.f]; rw [if_pos (by omega), if_pos (by omega), if_pos (by omega), isColor_eq, rd_get l i (by omega)]
    simp only [Option.bind_some]
    by_cases hc : colorB l[i] = true
    · rw [hc]; simp only [Bool.not_true, Bool.false_eq_true, if_false]
      rw [wrap_id (by omega) (by omega)]
      refine ih k (i + 1) (by omega) (by omega) fun j hj hji => ?_
      by_cases e : j = i
      · subst e; exact hc
      · exact h3 j hj (by omega)
    · have hc' : colorB l[i] = false := by simpa using hc
      rw [hc']; simp only [Bool.not_false, if_true]
      have : l.all colorB = false := by
        rw [← Bool.not_eq_true, List.all_eq_true]; intro hh; exact hc (hh _ (List.getElem_mem _))
      exact ⟨_, rfl, by rw [this]; simp⟩
theorem areColors_eq (l : List Int) (hl : l.length ≤ 35184372088832) (k : Nat) (hk : l.length < k) : impl_areAll_int__isColor.f k l = some (l.all colorB) := by
  obtain ⟨r, h1, h2⟩ := idxColor_l l hl l.length k 0 (by omega) hk (fun j hj hji => by omega)
  unfold impl_areAll_int__isColor.f slices_ContainsFunc_int_int__areAll_int_1__isColor.f slices_IndexFunc_int_int__areAll_int_1__isColor.f
  rw [show (0 : Int) = ((0 : Nat) : Int) from rfl, h1]; simp only [Option.bind_some]
  rw [show decide (r ≥ ((0 : Nat) : Int)) = decide (r ≥ 0) from rfl, h2]; simp
theorem isChart_eq (w h : Int) (l : List Int) (hl : l.length ≤ 35184372088832) (k : Nat) (hk : l.length < k) : impl_IsChart.f k w h l = some (goodB w h l) := by
  unfold impl_IsChart.f
  rw [isSide_eq, isSide_eq, areColors_eq l hl k hk]
  simp only [Option.bind_some]
  unfold goodB
  cases e1 : sideB w <;> cases e2 : sideB h <;> simp
  rw [wrap_id (by have := mul_bd (side_of e1) (side_of e2); omega) (by have := mul_bd (side_of e1) (side_of e2); omega)]
  by_cases e : (l.length : Int) = w * h
  · rw [if_pos e]; simp [e]
  · rw [if_neg e]; simp [e]
theorem l1Own_eq (l : List Int) (hl : l.length ≤ 1048576) : spec_l1Own.f l = some l := by
  unfold spec_l1Own.f; simp only [Option.bind_some, List.nil_append, List.length_nil]; rw [if_pos (by omega)]
theorem l2Own_eq (w h : Int) (l : List Int) (hl : l.length ≤ 1048576) : spec_l2Own.f w h l = some (w, h, l) := by
  unfold spec_l2Own.f; rw [l1Own_eq l hl]; rfl
theorem cloneInt_eq (l : List Int) (hl : l.length ≤ 1048576) : slices_Clone_int_int.f l = some l := by
  unfold slices_Clone_int_int.f; rw [if_pos (by omega)]
theorem copied_eq (w h : Int) (l : List Int) (hl : l.length ≤ 1048576) : impl_Chart_copied.f w h l = some (w, h, l) := by
  unfold impl_Chart_copied.f; rw [cloneInt_eq l hl]; rfl
theorem l8Colors_l (l : List Int) (hl : l.length ≤ 35184372088832) : ∀ (d k i : Nat), i + d = l.length → d < k → (∀ j (hj : j < l.length), j < i → colorB l[j] = true) → spec_l8Colors.l0 k l i = some (l.all colorB) := by
  intro d
  induction d with
  | zero =>
    intro k i h1 h2 h3
    obtain ⟨k, rfl⟩ := succ_of h2
    have hall : l.all colorB = true := by
      rw [List.all_eq_true]; intro x hx; obtain ⟨j, hj, rfl⟩ := List.mem_iff_getElem.1 hx; exact h3 j hj (by omega)
    simp only [spec_l8Colors.l0]; rw [if_neg (by omega), hall]
  | succ d ih =>
    intro k i h1 h2 h3
    obtain ⟨k, rfl⟩ := succ_of (Nat.lt_of_le_of_lt (Nat.zero_le _) h2)
    simp only [spec_l8Colors.l0]; rw [if_pos (by omega), if_pos (by omega), l2Color_eq, rd_get l i (by omega)]
    simp only [Option.bind_some]
    by_cases hc : colorB l[i] = true
    · rw [if_pos hc, wrap_id (by omega) (by omega)]
      refine ih k (i + 1) (by omega) (by omega) fun j hj hji => ?_
      by_cases e : j = i
      · subst e; exact hc
      · exact h3 j hj (by omega)
    · rw [if_neg hc]
      have : l.all colorB = false := by
        rw [← Bool.not_eq_true, List.all_eq_true]; intro hh; exact hc (hh _ (List.getElem_mem _))
      rw [this]
theorem l8Colors_eq (l : List Int) (hl : l.length ≤ 35184372088832) (k : Nat) (hk : l.length < k) : spec_l8Colors.f k l = some (l.all colorB) := by
  unfold spec_l8Colors.f
  exact l8Colors_l l hl l.length k 0 (by omega) hk (fun j hj hji => by omega)
def ringSideB (x : Int) : Bool := decide (2 ≤ x) && decide (x ≤ 8)
theorem l8Side_eq (x : Int) : spec_l8Side.f x = some (ringSideB x) := by
  unfold spec_l8Side.f spec_l1In.f ringSideB
  by_cases h : x ≥ 2
  · rw [if_pos h]; simp [show (2 : Int) ≤ x from h]
  · rw [if_neg h]; simp [show ¬ (2 : Int) ≤ x from h]
theorem ringSide_of {x : Int} (h : ringSideB x = true) : 2 ≤ x ∧ x ≤ 8 := by unfold ringSideB at h; simpa using h
def ringB (w h : Int) (l : List Int) : Bool := goodB w h l && ringSideB w && ringSideB h
theorem l8Good_eq (w h : Int) (l : List Int) (hl : l.length ≤ 35184372088832) (k : Nat) (hk : l.length < k) : spec_l8Good.f k w h l = some (ringB w h l) := by
  unfold spec_l8Good.f ringB
  rw [l2Good_eq w h l hl k hk]; simp only [Option.bind_some, l8Side_eq]
  cases goodB w h l <;> cases ringSideB w <;> simp
theorem ringB_of {w h : Int} {l : List Int} (e : ringB w h l = true) : goodB w h l = true ∧ (2 ≤ w ∧ w ≤ 8) ∧ (2 ≤ h ∧ h ≤ 8) := by
  unfold ringB at e; simp only [Bool.and_eq_true] at e; exact ⟨e.1.1, ringSide_of e.1.2, ringSide_of e.2⟩
def ringP (w h : Int) : List Int := (spec_l8Places.f 40 w h).getD []
theorem l8Places_k (w h : Int) (hw : 2 ≤ w ∧ w ≤ 8) (hh : 2 ≤ h ∧ h ≤ 8) (k : Nat) : spec_l8Places.f (k + 40) w h = some (ringP w h) := by
  have h1 : w = 2 ∨ w = 3 ∨ w = 4 ∨ w = 5 ∨ w = 6 ∨ w = 7 ∨ w = 8 := by omega
  have h2 : h = 2 ∨ h = 3 ∨ h = 4 ∨ h = 5 ∨ h = 6 ∨ h = 7 ∨ h = 8 := by omega
  rcases h1 with rfl | rfl | rfl | rfl | rfl | rfl | rfl <;> rcases h2 with rfl | rfl | rfl | rfl | rfl | rfl | rfl <;> (refine Eq.symm (Eq.symm ?_); kernel_rfl)
theorem l8Places_eq (w h : Int) (hw : 2 ≤ w ∧ w ≤ 8) (hh : 2 ≤ h ∧ h ≤ 8) (k : Nat) (hk : 40 ≤ k) : spec_l8Places.f k w h = some (ringP w h) := by
  obtain ⟨m, rfl⟩ : ∃ m, k = m + 40 := ⟨k - 40, by omega⟩
  exact l8Places_k w h hw hh m
def ringOk (w h : Int) : Bool := (ringP w h).all (fun p => decide (0 ≤ p) && decide (p < w * h)) && decide (((ringP w h).length : Int) = 2 * w + 2 * h - 4)
theorem ringOk_all (w h : Int) (hw : 2 ≤ w ∧ w ≤ 8) (hh : 2 ≤ h ∧ h ≤ 8) : ringOk w h = true := by
  have h1 : w = 2 ∨ w = 3 ∨ w = 4 ∨ w = 5 ∨ w = 6 ∨ w = 7 ∨ w = 8 := by omega
  have h2 : h = 2 ∨ h = 3 ∨ h = 4 ∨ h = 5 ∨ h = 6 ∨ h = 7 ∨ h = 8 := by omega
  rcases h1 with rfl | rfl | rfl | rfl | rfl | rfl | rfl <;> rcases h2 with rfl | rfl | rfl | rfl | rfl | rfl | rfl <;> (refine Eq.symm (Eq.symm ?_); kernel_rfl)
theorem ringP_of (w h : Int) (hw : 2 ≤ w ∧ w ≤ 8) (hh : 2 ≤ h ∧ h ≤ 8) : (∀ p ∈ ringP w h, 0 ≤ p ∧ p < w * h) ∧ ((ringP w h).length : Int) = 2 * w + 2 * h - 4 := by
  have := ringOk_all w h hw hh
  unfold ringOk at this
  simp only [Bool.and_eq_true, decide_eq_true_eq, List.all_eq_true] at this
  exact this
def putR (ps ring : List Int) : Nat → Nat → List Int → List Int
  | 0, _, xs => xs
  | d + 1, i, xs => putR ps ring d (i + 1) (xs.set (rd ps i).toNat (rd ring (Int.tmod i ring.length)))
theorem putR_len (ps ring : List Int) : ∀ d i xs, (putR ps ring d i xs).length = xs.length := by
  intro d; induction d with
  | zero => intro i xs; rfl
  | succ d ih => intro i xs; simp only [putR]; rw [ih]; simp
theorem l8Put_l (w h : Int) (ps ring : List Int) (hp : ps.length ≤ 1000) (hr : 0 < ring.length) : ∀ (d k i : Nat) (xs : List Int), i + d = ps.length → d < k → (∀ p ∈ ps, 0 ≤ p ∧ p < xs.length) → spec_l8Put.l0 k ring i ps w h xs = some (w, h, putR ps ring d i xs) := by
  intro d
  induction d with
  | zero =>
    intro k i xs h1 h2 h3
    obtain ⟨k, rfl⟩ := succ_of h2
    simp only [spec_l8Put.l0]; rw [if_neg (by omega)]; rfl
  | succ d ih =>
    intro k i xs h1 h2 h3
    obtain ⟨k, rfl⟩ := succ_of (Nat.lt_of_le_of_lt (Nat.zero_le _) h2)
    have hm1 : 0 ≤ Int.tmod (i : Int) (ring.length : Int) := Int.tmod_nonneg _ (by omega)
    have hm2 : Int.tmod (i : Int) (ring.length : Int) < (ring.length : Int) := Int.tmod_lt_of_pos _ (by omega)
    have hb := h3 (rd ps i) (by rw [rd_get ps i (by omega)]; exact List.getElem_mem _)
    simp only [spec_l8Put.l0]
    rw [if_pos (by omega), if_pos (by omega), if_neg (by omega), if_pos hm1, if_pos hm2, if_pos hb.1, if_pos hb.2, wrap_id (by omega) (by omega)]
    exact ih k (i + 1) _ (by omega) (by omega) (by simpa using h3)
theorem l8Put_eq (w h : Int) (l ring : List Int) (hw : 2 ≤ w ∧ w ≤ 8) (hh : 2 ≤ h ∧ h ≤ 8) (hl : (l.length : Int) = w * h) (hr : 0 < ring.length) (k : Nat) (hk : 200 ≤ k) : spec_l8Put.f k w h l ring = some (w, h, putR (ringP w h) ring (ringP w h).length 0 l) := by
  have hb := mul_bd (w := w) (h := h) (by omega) (by omega)
  have hp := ringP_of w h hw hh
  unfold spec_l8Put.f
  rw [l2Own_eq w h l (by omega), l8Places_eq w h hw hh k (by omega)]
  simp only [Option.bind_some]
  exact l8Put_l w h _ ring (by omega) hr _ k 0 l (by omega) (by omega) (fun p hpp => by have := hp.1 p hpp; omega)
theorem l8Length_eq (w h : Int) (hw : 2 ≤ w ∧ w ≤ 8) (hh : 2 ≤ h ∧ h ≤ 8) : spec_l8Length.f w h = some (2 * w + 2 * h - 4) := by
  unfold spec_l8Length.f
  rw [wrap_id (x := 2 * w) (by omega) (by omega), wrap_id (x := 2 * h) (by omega) (by omega), wrap_id (x := 2 * w + 2 * h) (by omega) (by omega), wrap_id (by omega) (by omega)]
theorem isRingSide_eq (x : Int) : impl_isRingSide.f x = some (ringSideB x) := by
  unfold impl_isRingSide.f impl_in.f ringSideB
  by_cases h : x ≥ 2
  · rw [if_pos h]; simp [show (2 : Int) ≤ x from h]
  · rw [if_neg h]; simp [show ¬ (2 : Int) ≤ x from h]
theorem hasRing_eq (w h : Int) (l : List Int) (hl : l.length ≤ 35184372088832) (k : Nat) (hk : l.length < k) : impl_hasRing.f k w h l = some (ringB w h l) := by
  unfold impl_hasRing.f ringB
  rw [isChart_eq w h l hl k hk]; simp only [Option.bind_some, isRingSide_eq]
  cases goodB w h l <;> cases ringSideB w <;> simp
theorem ringPlaces_k (w h : Int) (hw : 2 ≤ w ∧ w ≤ 8) (hh : 2 ≤ h ∧ h ≤ 8) (k : Nat) : impl_ringPlaces.f (k + 40) w h = some (ringP w h) := by
  have h1 : w = 2 ∨ w = 3 ∨ w = 4 ∨ w = 5 ∨ w = 6 ∨ w = 7 ∨ w = 8 := by omega
  have h2 : h = 2 ∨ h = 3 ∨ h = 4 ∨ h = 5 ∨ h = 6 ∨ h = 7 ∨ h = 8 := by omega
  rcases h1 with rfl | rfl | rfl | rfl | rfl | rfl | rfl <;> rcases h2 with rfl | rfl | rfl | rfl | rfl | rfl | rfl <;> (refine Eq.symm (Eq.symm ?_); kernel_rfl)
theorem ringPlaces_eq (w h : Int) (hw : 2 ≤ w ∧ w ≤ 8) (hh : 2 ≤ h ∧ h ≤ 8) (k : Nat) (hk : 40 ≤ k) : impl_ringPlaces.f k w h = some (ringP w h) := by
  obtain ⟨m, rfl⟩ : ∃ m, k = m + 40 := ⟨k - 40, by omega⟩
  exact ringPlaces_k w h hw hh m
theorem withRing_l (w h : Int) (ps ring : List Int) (hp : ps.length ≤ 1000) (hr : 0 < ring.length) : ∀ (d k i : Nat) (xs : List Int), i + d = ps.length → d < k → (∀ p ∈ ps, 0 ≤ p ∧ p < xs.length) → impl_Chart_withRing.l0 k ring ps ps.length i w h xs = some (w, h, putR ps ring d i xs) := by
  intro d
  induction d with
  | zero =>
    intro k i xs h1 h2 h3
    obtain ⟨k, rfl⟩ := succ_of h2
    simp only [impl_Chart_withRing.l0]; rw [if_neg (by omega)]; rfl
  | succ d ih =>
    intro k i xs h1 h2 h3
    obtain ⟨k, rfl⟩ := succ_of (Nat.lt_of_le_of_lt (Nat.zero_le _) h2)
    have hm1 : 0 ≤ Int.tmod (i : Int) (ring.length : Int) := Int.tmod_nonneg _ (by omega)
    have hm2 : Int.tmod (i : Int) (ring.length : Int) < (ring.length : Int) := Int.tmod_lt_of_pos _ (by omega)
    have hb := h3 (rd ps i) (by rw [rd_get ps i (by omega)]; exact List.getElem_mem _)
    simp only [impl_Chart_withRing.l0]
    rw [if_pos (by omega), if_pos (by omega), if_pos (by omega), if_neg (by omega), if_pos hm1, if_pos hm2, if_pos hb.1, if_pos hb.2, wrap_id (by omega) (by omega)]
    exact ih k (i + 1) _ (by omega) (by omega) (by simpa using h3)
theorem withRing_eq (w h : Int) (l ring : List Int) (hw : 2 ≤ w ∧ w ≤ 8) (hh : 2 ≤ h ∧ h ≤ 8) (hl : (l.length : Int) = w * h) (hr : 0 < ring.length) (k : Nat) (hk : 200 ≤ k) : impl_Chart_withRing.f k w h l ring = some (w, h, putR (ringP w h) ring (ringP w h).length 0 l) := by
  have hb := mul_bd (w := w) (h := h) (by omega) (by omega)
  have hp := ringP_of w h hw hh
  unfold impl_Chart_withRing.f
  rw [copied_eq w h l (by omega), ringPlaces_eq w h hw hh k (by omega)]
  simp only [Option.bind_some]
  exact withRing_l w h _ ring (by omega) hr _ k 0 l (by omega) (by omega) (fun p hpp => by have := hp.1 p hpp; omega)
theorem ringLength_eq (w h : Int) (hw : 2 ≤ w ∧ w ≤ 8) (hh : 2 ≤ h ∧ h ≤ 8) : impl_ringLength.f w h = some (2 * w + 2 * h - 4) := by
  unfold impl_ringLength.f
  rw [wrap_id (x := w + h) (by omega) (by omega), wrap_id (x := 2 * (w + h)) (by omega) (by omega), wrap_id (by omega) (by omega)]
  congr 1; omega
def resR (w h : Int) (l ring : List Int) : Int × Int × List Int × Bool := if ringB w h l = true ∧ ring.all colorB = true ∧ (ring.length : Int) = 2 * w + 2 * h - 4 then (w, h, putR (ringP w h) ring (ringP w h).length 0 l, true) else (0, 0, [], false)
theorem res_len (w h : Int) (l ring : List Int) : (resR w h l ring).2.2.1.length ≤ 64 := by
  unfold resR; split
  · rename_i e
    have hg := (ringB_of e.1).1; have hb := good_of hg; have := mul_bd hb.1 hb.2.1
    simp only; rw [putR_len]; omega
  · simp
theorem spec_eq (w h : Int) (l ring : List Int) (hl : l.length ≤ 1048576) (hr : ring.length ≤ 1048576) (k : Nat) (hk : l.length + ring.length + 500 < k) : spec_PutRing.f k w h l ring = some (resR w h l ring) := by
  unfold spec_PutRing.f resR
  rw [l8Good_eq w h l (by omega) k (by omega)]; simp only [Option.bind_some]
  by_cases e : ringB w h l = true
  · obtain ⟨hg, hw, hh⟩ := ringB_of e
    rw [if_pos e, l8Colors_eq ring (by omega) k (by omega), l8Length_eq w h hw hh]; simp only [Option.bind_some]
    by_cases e2 : ring.all colorB = true
    · rw [if_pos e2]
      by_cases e3 : (ring.length : Int) = 2 * w + 2 * h - 4
      · rw [if_pos e3, if_pos ⟨e, e2, e3⟩, l8Put_eq w h l ring hw hh (good_of hg).2.2.1 (by omega) k (by omega)]; rfl
      · rw [if_neg e3, if_neg (fun h => e3 h.2.2)]
    · rw [if_neg e2, if_neg (fun h => e2 h.2.1)]
  · rw [if_neg e, if_neg (fun h => e h.1)]
theorem impl_eq (w h : Int) (l ring : List Int) (hl : l.length ≤ 1048576) (hr : ring.length ≤ 1048576) (k : Nat) (hk : l.length + ring.length + 500 < k) : impl_PutRing.f k w h l ring = some (resR w h l ring) := by
  unfold impl_PutRing.f resR
  rw [hasRing_eq w h l (by omega) k (by omega)]; simp only [Option.bind_some]
  by_cases e : ringB w h l = true
  · obtain ⟨hg, hw, hh⟩ := ringB_of e
    rw [if_pos e, areColors_eq ring (by omega) k (by omega), ringLength_eq w h hw hh]; simp only [Option.bind_some]
    by_cases e3 : (ring.length : Int) = 2 * w + 2 * h - 4
    · rw [if_pos e3]
      by_cases e2 : ring.all colorB = true
      · rw [if_pos e2, if_pos ⟨e, e2, e3⟩, withRing_eq w h l ring hw hh (good_of hg).2.2.1 (by omega) k (by omega)]; rfl
      · rw [if_neg e2, if_neg (fun h => e2 h.2.1)]
    · rw [if_neg e3, if_neg (fun h => e3 h.2.2)]
  · rw [if_neg e, if_neg (fun h => e h.1)]
theorem FnExactPutRing : laws_FnExactPutRing.Pure := by
  intro w h l ring _ _ hl _ hlr _
  refine ⟨l.length + ring.length + 1000, ?_⟩
  unfold laws_FnExactPutRing.f
  by_cases hs0 : (ring.length : Int) > 1048576
  · rw [if_pos hs0]
  · rw [if_neg hs0, szChart_eq w h l 1048576 (by omega) (by omega) hl]
    by_cases hs : (1048576 : Int) < l.length
    · rw [if_pos hs]; simp
    · rw [if_neg hs]
      have hq := res_len w h l ring
      have s1 : ∀ k, l.length + ring.length + 500 < k → spec_PutRing.f k w h l ring = some (resR w h l ring) := fun k hk => spec_eq w h l ring (by omega) (by omega) k hk
      have g1 : ∀ k, l.length + ring.length + 500 < k → impl_PutRing.f k w h l ring = some (resR w h l ring) := fun k hk => impl_eq w h l ring (by omega) (by omega) k hk
      have t1 : ∀ k, l.length < k → laws_toChart.f k w h l = some (w, h, l) := fun k hk => toChart_eq w h l (by omega) k hk
      have t2 : ∀ k, ring.length < k → laws_toIntS.f k ring = some ring := fun k hk => toIntS_eq ring (by omega) k hk
      have e1 : ∀ k, l.length < k → laws_eqChart.f k w h l w h l = some true := fun k hk => eqChart_eq w h l (by omega) k hk
      have e3 : ∀ k, ring.length < k → laws_eqIntS.f k ring ring = some true := fun k hk => eqIntS_eq ring (by omega) k hk
      have m1 : ∀ k, l.length < k → laws_markChart.f k w h l 1 = some (1 + (l.length : Int), marks 1 l.length) := fun k hk => markChart_eq w h l 1 (by omega) (by omega) k hk
      have m3 : ∀ k, ring.length < k → laws_markIntS.f k ring (1 + (l.length : Int)) = some (1 + (l.length : Int) + (ring.length : Int), marks (1 + (l.length : Int)) ring.length) := fun k hk => markIntS_eq ring _ (by omega) (by omega) k hk
      obtain ⟨⟨w', h', r, b⟩, hr⟩ : ∃ r, resR w h l ring = r := ⟨_, rfl⟩
      rw [hr] at s1 g1 hq
      have e2 : ∀ k, l.length + 64 < k → laws_eqChart.f k w' h' r w' h' r = some true := fun k hk => eqChart_eq w' h' r (by simp at hq; omega) k (by simp at hq; omega)
      have m2 : ∀ k, l.length + 64 < k → laws_markChart.f k w' h' r 1 = some (1 + (r.length : Int), marks 1 r.length) := fun k hk => markChart_eq w' h' r 1 (by omega) (by simp at hq; omega) k (by simp at hq; omega)
      have d2 : ∀ k, l.length + 64 < k → laws_heldChart.f k w' h' (marks 1 r.length) 1 = some (1 + (r.length : Int)) := fun k hk => heldChart_eq w' h' r.length 1 (by omega) (by simp at hq; omega) k (by simp at hq; omega)
      clear hr
      have n1 : ¬ (1 + (l.length : Int) + (ring.length : Int) < 0) := by omega
      have n2 : ¬ (1 + (r.length : Int) < 0) := by omega
      have n3 : ¬ (1048576 - (l.length : Int) < 0) := by omega
      simp only [laws_FnExactPutRing.j0, laws_FnExactPutRing.j1, laws_FnExactPutRing.j2, Option.bind_some, s1 (l.length + ring.length + 1000) (by omega), s1 (l.length + ring.length + 999) (by omega), s1 (l.length + ring.length + 998) (by omega), s1 (l.length + ring.length + 997) (by omega), g1 (l.length + ring.length + 1000) (by omega), g1 (l.length + ring.length + 999) (by omega), g1 (l.length + ring.length + 998) (by omega), g1 (l.length + ring.length + 997) (by omega), t1 (l.length + ring.length + 1000) (by omega), t1 (l.length + ring.length + 999) (by omega), t1 (l.length + ring.length + 998) (by omega), t1 (l.length + ring.length + 997) (by omega), t2 (l.length + ring.length + 1000) (by omega), t2 (l.length + ring.length + 999) (by omega), t2 (l.length + ring.length + 998) (by omega), t2 (l.length + ring.length + 997) (by omega), e1 (l.length + ring.length + 1000) (by omega), e1 (l.length + ring.length + 999) (by omega), e1 (l.length + ring.length + 998) (by omega), e1 (l.length + ring.length + 997) (by omega), e3 (l.length + ring.length + 1000) (by omega), e3 (l.length + ring.length + 999) (by omega), e3 (l.length + ring.length + 998) (by omega), e3 (l.length + ring.length + 997) (by omega), m1 (l.length + ring.length + 1000) (by omega), m1 (l.length + ring.length + 999) (by omega), m1 (l.length + ring.length + 998) (by omega), m1 (l.length + ring.length + 997) (by omega), m3 (l.length + ring.length + 1000) (by omega), m3 (l.length + ring.length + 999) (by omega), m3 (l.length + ring.length + 998) (by omega), m3 (l.length + ring.length + 997) (by omega), e2 (l.length + ring.length + 1000) (by omega), e2 (l.length + ring.length + 999) (by omega), e2 (l.length + ring.length + 998) (by omega), e2 (l.length + ring.length + 997) (by omega), m2 (l.length + ring.length + 1000) (by omega), m2 (l.length + ring.length + 999) (by omega), m2 (l.length + ring.length + 998) (by omega), m2 (l.length + ring.length + 997) (by omega), d2 (l.length + ring.length + 1000) (by omega), d2 (l.length + ring.length + 999) (by omega), d2 (l.length + ring.length + 998) (by omega), d2 (l.length + ring.length + 997) (by omega), if_true, bne_self_eq_false, Bool.false_eq_true, if_false, n1, n2, n3]
end Go.Proofs.Yteiaakppjcpgcaa.Pure
