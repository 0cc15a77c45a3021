/- The program's HasSymmetry returns what the reference's HasSymmetry returns, for every chart and every number. -/
import Derived.Test.YteiaakppjcpgcaaPFnExactHasSymmetryx7
namespace Go.Proofs.Yteiaakppjcpgcaa.Pure
open Go.RowKit Go.Proofs.Yteiaakppjcpgcaa.PFnExactHasSymmetry Go.Proofs.YteiaakppjcpgcaaW.PrintWords Go.Proofs.YteiaakppjcpgcaaW.PrintLast
set_option linter.unusedVariables false
set_option linter.unusedSimpArgs false
theorem wrap_id {x : Int} (h : -9223372036854775808 ≤ x) (h' : x ≤ 9223372036854775807) : wrap64 x = x := by unfold wrap64; omega
theorem rd_get (l : List Int) (i : Nat) (h : i < l.length) : rd l (i : Int) = l[i] := by
  unfold rd; rw [Int.toNat_natCast, List.getD_eq_getElem?_getD, List.getElem?_eq_getElem h]; rfl
theorem succ_of {k : Nat} (h : 0 < k) : ∃ m, k = m + 1 := ⟨k - 1, by omega⟩
theorem toIntS_l (l : List Int) (hl : l.length ≤ 35184372088832) : ∀ (d k i : Nat) (acc : List Int), i + d = l.length → d < k → acc.length = l.length → (∀ j, j < i → acc[j]? = l[j]?) → laws_toIntS.l0 k l i acc = some l := by
  intro d
  induction d with
  | zero =>
    intro k i acc h1 h2 h3 h4
    obtain ⟨k, rfl⟩ := succ_of h2
    simp only [laws_toIntS.l0]; rw [if_neg (by omega)]
    have : acc = l := List.ext_getElem? fun j => by
      by_cases hj : j < i
      · exact h4 j hj
      · rw [List.getElem?_eq_none (by omega), List.getElem?_eq_none (by omega)]
    rw [this]
  | succ d ih =>
    intro k i acc h1 h2 h3 h4
    obtain ⟨k, rfl⟩ := succ_of (Nat.lt_of_le_of_lt (Nat.zero_le _) h2)
    simp only [laws_toIntS.l0]; rw [if_pos (by omega), if_pos (by omega), if_pos (by omega), wrap_id (by omega) (by omega), Int.toNat_natCast]
    refine ih k (i + 1) _ (by omega) (by omega) (by rw [List.length_set]; exact h3) fun j hj => ?_
    rw [List.getElem?_set]
    by_cases e : i = j
    · subst e; rw [if_pos rfl, if_pos (by omega), rd_get l i (by omega), List.getElem?_eq_getElem (by omega)]
    · rw [if_neg e]; exact h4 j (by omega)
theorem toIntS_eq (l : List Int) (hl : l.length ≤ 35184372088832) (k : Nat) (hk : l.length < k) : laws_toIntS.f k l = some l := by
  unfold laws_toIntS.f
  rw [if_pos (by omega), if_pos (by omega)]
  exact toIntS_l l hl l.length k 0 _ (by omega) hk (by simp) (fun j hj => by omega)
theorem eqIntS_l (l : List Int) (hl : l.length ≤ 35184372088832) : ∀ (d k i : Nat), i + d = l.length → d < k → laws_eqIntS.l0 k l l i = some true := by
  intro d
  induction d with
  | zero => intro k i h1 h2; obtain ⟨k, rfl⟩ := succ_of h2; simp only [laws_eqIntS.l0]; rw [if_neg (by omega)]
  | succ d ih =>
    intro k i h1 h2
    obtain ⟨k, rfl⟩ := succ_of (Nat.lt_of_le_of_lt (Nat.zero_le _) h2)
    simp only [laws_eqIntS.l0]; rw [if_pos (by omega), if_pos (by omega), if_pos (by omega), if_pos (by trivial), wrap_id (by omega) (by omega)]
    exact ih k (i + 1) (by omega) (by omega)
theorem eqIntS_eq (l : List Int) (hl : l.length ≤ 35184372088832) (k : Nat) (hk : l.length < k) : laws_eqIntS.f k l l = some true := by
  unfold laws_eqIntS.f; rw [if_pos rfl]; exact eqIntS_l l hl l.length k 0 (by omega) hk
theorem szIntS_eq (l : List Int) (a : Int) (ha : 0 ≤ a) (ha' : a ≤ 1048576) (hl : l.length * 8 ≤ 140737488351232) : laws_szIntS.f l a = some (if a < l.length then -1 else a - l.length) := by
  unfold laws_szIntS.f
  rw [wrap_id (by omega) (by omega)]
  by_cases h : a - (l.length : Int) < 0
  · rw [if_pos h, if_pos (by omega)]
  · rw [if_neg h, if_neg (by omega)]
theorem szChart_eq (w h : Int) (l : List Int) (a : Int) (ha : 0 ≤ a) (ha' : a ≤ 1048576) (hl : l.length * 8 ≤ 140737488351232) : laws_szChart.f w h l a = some (if a < l.length then -1 else a - l.length) := by
  unfold laws_szChart.f
  rw [szIntS_eq l a ha ha' hl]
  simp only [Option.bind_some]
  by_cases e : a < (l.length : Int)
  · rw [if_pos e, if_pos (by omega)]
  · rw [if_neg e, if_neg (by omega)]
theorem toChart_eq (w h : Int) (l : List Int) (hl : l.length ≤ 1048576) (k : Nat) (hk : l.length < k) : laws_toChart.f k w h l = some (w, h, l) := by
  unfold laws_toChart.f; rw [toIntS_eq l (by omega) k hk]; rfl
theorem eqChart_eq (w h : Int) (l : List Int) (hl : l.length ≤ 1048576) (k : Nat) (hk : l.length < k) : laws_eqChart.f k w h l w h l = some true := by
  unfold laws_eqChart.f; rw [if_pos rfl, if_pos rfl, eqIntS_eq l (by omega) k hk]; rfl
def colorB (x : Int) : Bool := decide (0 ≤ x) && decide (x ≤ 5)
def sideB (x : Int) : Bool := decide (1 ≤ x) && decide (x ≤ 8)
def goodB (w h : Int) (l : List Int) : Bool := sideB w && sideB h && decide ((l.length : Int) = w * h) && l.all colorB
theorem l2Color_eq (x : Int) : spec_l2Color.f x = some (colorB x) := by
  unfold spec_l2Color.f spec_l1In.f colorB
  by_cases h : x ≥ 0
  · rw [if_pos h]; simp [show (0 : Int) ≤ x from h]
  · rw [if_neg h]; simp [show ¬ (0 : Int) ≤ x from h]
theorem l2Side_eq (x : Int) : spec_l2Side.f x = some (sideB x) := by
  unfold spec_l2Side.f spec_l1In.f sideB
  by_cases h : x ≥ 1
  · rw [if_pos h]; simp [show (1 : Int) ≤ x from h]
  · rw [if_neg h]; simp [show ¬ (1 : Int) ≤ x from h]
theorem side_of {x : Int} (h : sideB x = true) : 1 ≤ x ∧ x ≤ 8 := by unfold sideB at h; simpa using h
theorem color_of {x : Int} (h : colorB x = true) : 0 ≤ x ∧ x ≤ 5 := by unfold colorB at h; simpa using h
theorem mul_bd {w h : Int} (hw : 1 ≤ w ∧ w ≤ 8) (hh : 1 ≤ h ∧ h ≤ 8) : 1 ≤ w * h ∧ w * h ≤ 64 := by
  obtain ⟨a, b⟩ := hw; obtain ⟨c, d⟩ := hh
  have h1 : w = 1 ∨ w = 2 ∨ w = 3 ∨ w = 4 ∨ w = 5 ∨ w = 6 ∨ w = 7 ∨ w = 8 := by omega
  rcases h1 with rfl | rfl | rfl | rfl | rfl | rfl | rfl | rfl <;> omega
theorem good_of {w h : Int} {l : List Int} (hg : goodB w h l = true) : (1 ≤ w ∧ w ≤ 8) ∧ (1 ≤ h ∧ h ≤ 8) ∧ (l.length : Int) = w * h ∧ ∀ x ∈ l, 0 ≤ x ∧ x ≤ 5 := by
  unfold goodB at hg
  simp only [Bool.and_eq_true, decide_eq_true_eq, List.all_eq_true] at hg
  exact ⟨side_of hg.1.1.1, side_of hg.1.1.2, hg.1.2, fun x hx => color_of (hg.2 x hx)⟩
theorem l2Good_l (w h : Int) (l : List Int) (hl : l.length ≤ 35184372088832) : ∀ (d k i : Nat), i + d = l.length → d < k → (∀ j (hj : j < l.length), j < i → colorB l[j] = true) → spec_l2Good.l0 k i w h l = some (goodB w h l) := by
  intro d
  induction d with
  | zero =>
    intro k i h1 h2 h3
    obtain ⟨k, rfl⟩ := succ_of h2
    have hall : l.all colorB = true := by
      rw [List.all_eq_true]; intro x hx; obtain ⟨j, hj, rfl⟩ := List.mem_iff_getElem.1 hx; exact h3 j hj (by omega)
    simp only [spec_l2Good.l0]; rw [if_neg (by omega), l2Side_eq, l2Side_eq]
    simp only [Option.bind_some]
    unfold goodB
    cases e1 : sideB w <;> cases e2 : sideB h <;> simp [hall]
    rw [wrap_id (by have := mul_bd (side_of e1) (side_of e2); omega) (by have := mul_bd (side_of e1) (side_of e2); omega)]
    rfl
  | succ d ih =>
    intro k i h1 h2 h3
    obtain ⟨k, rfl⟩ := succ_of (Nat.lt_of_le_of_lt (Nat.zero_le _) h2)
    simp only [spec_l2Good.l0]; rw [if_pos (by omega), if_pos (by omega), l2Color_eq, rd_get l i (by omega)]
    simp only [Option.bind_some]
    by_cases hc : colorB l[i] = true
    · rw [if_pos hc, wrap_id (by omega) (by omega)]
      refine ih k (i + 1) (by omega) (by omega) fun j hj hji => ?_
      by_cases e : j = i
      · subst e; exact hc
      · exact h3 j hj (by omega)
    · rw [if_neg hc]
      have : l.all colorB = false := by
        rw [← Bool.not_eq_true, List.all_eq_true]; intro hh; exact hc (hh _ (List.getElem_mem _))
      unfold goodB; rw [this]; simp
theorem l2Good_eq (w h : Int) (l : List Int) (hl : l.length ≤ 35184372088832) (k : Nat) (hk : l.length < k) : spec_l2Good.f k w h l = some (goodB w h l) := by
  unfold spec_l2Good.f
  exact l2Good_l w h l hl l.length k 0 (by omega) hk (fun j hj hji => by omega)
theorem isColor_eq (x : Int) : impl_isColor.f x = some (colorB x) := by
  unfold impl_isColor.f impl_in.f colorB
  by_cases h : x ≥ 0
  · rw [if_pos h]; simp [show (0 : Int) ≤ x from h]
  · rw [if_neg h]; simp [show ¬ (0 : Int) ≤ x from h]
theorem isSide_eq (x : Int) : impl_isSide.f x = some (sideB x) := by
  unfold impl_isSide.f impl_in.f sideB
  by_cases h : x ≥ 1
  · rw [if_pos h]; simp [show (1 : Int) ≤ x from h]
  · rw [if_neg h]; simp [show ¬ (1 : Int) ≤ x from h]
theorem idxColor_l (l : List Int) (hl : l.length ≤ 35184372088832) : ∀ (d k i : Nat), i + d = l.length → d < k → (∀ j (hj : j < l.length), j < i → colorB l[j] = true) → ∃ r, slices_IndexFunc_int_int__areAll_int_1__isColor.l0 k l l.length i = some r ∧ (decide (r ≥ 0) = !l.all colorB) := by
  intro d
  induction d with
  | zero =>
    intro k i h1 h2 h3
    obtain ⟨k, rfl⟩ := succ_of h2
    have hall : l.all colorB = true := by
      rw [List.all_eq_true]; intro x hx; obtain ⟨j, hj, rfl⟩ := List.mem_iff_getElem.1 hx; exact h3 j hj (by omega)
    refine ⟨-1, ?_, by rw [hall]; rfl⟩
    simp only [slices_IndexFunc_int_int__areAll_int_1__isColor.l0]; rw [if_neg (by omega)]
  | succ d ih =>
    intro k i h1 h2 h3
    obtain ⟨k, rfl⟩ := succ_of (Nat.lt_of_le_of_lt (Nat.zero_le _) h2)
    simp only [slices_IndexFunc_int_int__areAll_int_1__isColor.l0, impl_areAll_int_1__isColor.f]; rw [if_pos (by omega), if_pos (by omega), if_pos (by omega), isColor_eq, rd_get l i (by omega)]
    simp only [Option.bind_some]
    by_cases hc : colorB l[i] = true
    · rw [hc]; simp only [Bool.not_true, Bool.false_eq_true, if_false]
      rw [wrap_id (by omega) (by omega)]
      refine ih k (i + 1) (by omega) (by omega) fun j hj hji => ?_
      by_cases e : j = i
      · subst e; exact hc
      · exact h3 j hj (by omega)
    · have hc' : colorB l[i] = false := by simpa using hc
      rw [hc']; simp only [Bool.not_false, if_true]
      have : l.all colorB = false := by
        rw [← Bool.not_eq_true, List.all_eq_true]; intro hh; exact hc (hh _ (List.getElem_mem _))
      exact ⟨_, rfl, by rw [this]; simp⟩
theorem areColors_eq (l : List Int) (hl : l.length ≤ 35184372088832) (k : Nat) (hk : l.length < k) : impl_areAll_int__isColor.f k l = some (l.all colorB) := by
  obtain ⟨r, h1, h2⟩ := idxColor_l l hl l.length k 0 (by omega) hk (fun j hj hji => by omega)
  unfold impl_areAll_int__isColor.f slices_ContainsFunc_int_int__areAll_int_1__isColor.f slices_IndexFunc_int_int__areAll_int_1__isColor.f
  rw [show (0 : Int) = ((0 : Nat) : Int) from rfl, h1]; simp only [Option.bind_some]
  rw [show decide (r ≥ ((0 : Nat) : Int)) = decide (r ≥ 0) from rfl, h2]; simp
theorem isChart_eq (w h : Int) (l : List Int) (hl : l.length ≤ 35184372088832) (k : Nat) (hk : l.length < k) : impl_IsChart.f k w h l = some (goodB w h l) := by
  unfold impl_IsChart.f
  rw [isSide_eq, isSide_eq, areColors_eq l hl k hk]
  simp only [Option.bind_some]
  unfold goodB
  cases e1 : sideB w <;> cases e2 : sideB h <;> simp
  rw [wrap_id (by have := mul_bd (side_of e1) (side_of e2); omega) (by have := mul_bd (side_of e1) (side_of e2); omega)]
  by_cases e : (l.length : Int) = w * h
  · rw [if_pos e]; simp [e]
  · rw [if_neg e]; simp [e]
theorem l1Own_eq (l : List Int) (hl : l.length ≤ 1048576) : spec_l1Own.f l = some l := by
  unfold spec_l1Own.f; simp only [Option.bind_some, List.nil_append, List.length_nil]; rw [if_pos (by omega)]
theorem l2Own_eq (w h : Int) (l : List Int) (hl : l.length ≤ 1048576) : spec_l2Own.f w h l = some (w, h, l) := by
  unfold spec_l2Own.f; rw [l1Own_eq l hl]; rfl
theorem cloneInt_eq (l : List Int) (hl : l.length ≤ 1048576) : slices_Clone_int_int.f l = some l := by
  unfold slices_Clone_int_int.f; rw [if_pos (by omega)]
theorem copied_eq (w h : Int) (l : List Int) (hl : l.length ≤ 1048576) : impl_Chart_copied.f w h l = some (w, h, l) := by
  unfold impl_Chart_copied.f; rw [cloneInt_eq l hl]; rfl
def gridL (w h : Nat) (f : Nat → Nat → Int) : List Int := (List.range h).flatMap fun r => (List.range w).map (f r)
theorem gridL_len (w h : Nat) (f : Nat → Nat → Int) : (gridL w h f).length = w * h := by
  unfold gridL
  induction h with
  | zero => simp
  | succ h ih => rw [List.range_succ, List.flatMap_append, List.length_append, ih]; simp [Nat.mul_succ]
theorem gridL_congr (w h : Nat) (f g : Nat → Nat → Int) (e : ∀ r c, r < h → c < w → f r c = g r c) : gridL w h f = gridL w h g := by
  unfold gridL
  show ((List.range h).map _).flatten = ((List.range h).map _).flatten
  congr 1
  apply List.map_congr_left
  intro r hr
  apply List.map_congr_left
  intro c hc
  exact e r c (by simpa using hr) (by simpa using hc)
theorem gridL_all (w h : Nat) (f : Nat → Nat → Int) (p : Int → Prop) (e : ∀ r c, r < h → c < w → p (f r c)) : ∀ x ∈ gridL w h f, p x := by
  intro x hx
  unfold gridL at hx
  simp only [List.mem_flatMap, List.mem_map, List.mem_range] at hx
  obtain ⟨r, hr, c, hc, rfl⟩ := hx
  exact e r c hr hc
theorem gridL_get (w h : Nat) (f : Nat → Nat → Int) (r c : Nat) (hr : r < h) (hc : c < w) : (gridL w h f)[r * w + c]? = some (f r c) := by
  unfold gridL
  induction h with
  | zero => omega
  | succ h ih =>
    rw [List.range_succ, List.flatMap_append]
    have hl : ((List.range h).flatMap fun r => (List.range w).map (f r)).length = w * h := gridL_len w h f
    by_cases e : r < h
    · rw [List.getElem?_append_left]
      · exact ih e
      · rw [hl]
        have : (r + 1) * w ≤ h * w := Nat.mul_le_mul_right _ e
        rw [Nat.add_mul, Nat.one_mul] at this
        rw [Nat.mul_comm w h]; omega
    · have : r = h := by omega
      subst this
      rw [List.getElem?_append_right (by rw [hl, Nat.mul_comm]; omega), hl, Nat.mul_comm w r, Nat.add_sub_cancel_left]
      simp [hc]
/-- Two loops, one in the other, that collect g row col. -/
theorem grid_loop {R : Type} (L0 : Nat → Int → List Int → Option R) (L1 : Nat → Int → Int → List Int → Option R) (fin : List Int → Option R) (w h : Nat) (hw : w ≤ 64) (hh : h ≤ 64) (g : Int → Int → Option Int) (f : Nat → Nat → Int)
    (h0 : ∀ k (row : Nat) acc, L0 (k + 1) row acc = if (row : Int) < h then L1 k row 0 acc else fin acc)
    (h1 : ∀ k (row col : Nat) acc, L1 (k + 1) row col acc = if (col : Int) < w then (g row col).bind (fun t => if acc.length < 17592186044416 then L1 k row (wrap64 ((col : Int) + 1)) (acc ++ [t]) else none) else L0 k (wrap64 ((row : Int) + 1)) acc)
    (hg : ∀ r c : Nat, r < h → c < w → g r c = some (f r c)) : ∀ k, (h + 1) * (w + 2) ≤ k → L0 k 0 [] = fin (gridL w h f) := by
  have row_ : ∀ (d k row : Nat) (col : Nat) (acc : List Int), row < h → col + d = w → acc.length + d ≤ 8192 → d < k →
      ∃ k', k' + d + 1 = k ∧ L1 k row col acc = L0 k' ((row + 1 : Nat) : Int) (acc ++ ((List.range w).drop col).map (f row)) := by
    intro d
    induction d with
    | zero =>
      intro k row col acc hr hc ha hk
      obtain ⟨k, rfl⟩ := succ_of hk
      refine ⟨k, rfl, ?_⟩
      rw [h1, if_neg (by omega), wrap_id (by omega) (by omega), List.drop_of_length_le (by simp; omega)]
      simp
    | succ d ih =>
      intro k row col acc hr hc ha hk
      obtain ⟨k, rfl⟩ := succ_of (Nat.lt_of_le_of_lt (Nat.zero_le _) hk)
      obtain ⟨k', e1, e2⟩ := ih k row (col + 1) (acc ++ [f row col]) hr (by omega) (by simp; omega) (by omega)
      refine ⟨k', by omega, ?_⟩
      rw [h1, if_pos (by omega), hg row col hr (by omega)]
      simp only [Option.bind_some]
      rw [if_pos (by omega), wrap_id (by omega) (by omega)]
      rw [show ((col : Int) + 1) = ((col + 1 : Nat) : Int) by omega, e2]
      congr 1
      rw [List.append_assoc]
      congr 1
      rw [List.drop_eq_getElem_cons (l := List.range w) (i := col) (by simp; omega)]
      simp
  have all_ : ∀ (d k row : Nat) (acc : List Int), row + d = h → acc.length ≤ 64 * row → (d + 1) * (w + 2) ≤ k → L0 k row acc = fin (acc ++ ((List.range h).drop row).flatMap fun r => (List.range w).map (f r)) := by
    intro d
    induction d with
    | zero =>
      intro k row acc hr ha hk
      obtain ⟨k, rfl⟩ := succ_of (show 0 < k by omega)
      rw [h0, if_neg (by omega), List.drop_of_length_le (by simp; omega)]
      simp
    | succ d ih =>
      intro k row acc hr ha hk
      rw [Nat.add_mul] at hk
      obtain ⟨k, rfl⟩ := succ_of (show 0 < k by omega)
      rw [h0, if_pos (by omega)]
      obtain ⟨k', e1, e2⟩ := row_ w k row 0 acc (by omega) (by omega) (by omega) (by omega)
      rw [show ((0 : Int)) = ((0 : Nat) : Int) from rfl, e2, ih k' (row + 1) _ (by omega) (by simp; omega) (by omega)]
      congr 1
      rw [List.append_assoc, List.drop_eq_getElem_cons (show row < (List.range h).length by simp; omega)]
      simp
  intro k hk
  have := all_ h k 0 [] (by omega) (by simp) hk
  simpa [gridL] using this
def atL (w : Int) (l : List Int) (r c : Int) : Int := rd l (r * w + c)
theorem at_bd {w h r c : Int} (hw : 1 ≤ w ∧ w ≤ 8) (hh : 1 ≤ h ∧ h ≤ 8) (hr : 0 ≤ r ∧ r < h) (hc : 0 ≤ c ∧ c < w) : 0 ≤ r * w ∧ r * w ≤ 64 ∧ 0 ≤ r * w + c ∧ r * w + c < w * h := by
  obtain ⟨a, b⟩ := hw; obtain ⟨a', b'⟩ := hh; obtain ⟨p, q⟩ := hr; obtain ⟨p', q'⟩ := hc
  have h1 : w = 1 ∨ w = 2 ∨ w = 3 ∨ w = 4 ∨ w = 5 ∨ w = 6 ∨ w = 7 ∨ w = 8 := by omega
  rcases h1 with rfl | rfl | rfl | rfl | rfl | rfl | rfl | rfl <;> omega
theorem implAt_eq (w h : Int) (l : List Int) (r c : Int) (hw : 1 ≤ w ∧ w ≤ 8) (hh : 1 ≤ h ∧ h ≤ 8) (hl : (l.length : Int) = w * h) (hr : 0 ≤ r ∧ r < h) (hc : 0 ≤ c ∧ c < w) : impl_Chart_at.f w h l r c = some (atL w l r c) := by
  have b := at_bd hw hh hr hc
  unfold impl_Chart_at.f atL
  rw [wrap_id (x := r * w) (by omega) (by omega), wrap_id (by omega) (by omega), if_pos (by omega), if_pos (by omega)]
theorem specAt_eq (w h : Int) (l : List Int) (r c : Int) (hw : 1 ≤ w ∧ w ≤ 8) (hh : 1 ≤ h ∧ h ≤ 8) (hl : (l.length : Int) = w * h) (hr : 0 ≤ r ∧ r < h) (hc : 0 ≤ c ∧ c < w) : spec_l2At.f w h l r c = some (atL w l r c) := by
  have b := at_bd hw hh hr hc
  unfold spec_l2At.f atL
  rw [wrap_id (x := r * w) (by omega) (by omega), wrap_id (by omega) (by omega), if_pos (by omega), if_pos (by omega)]
/-- A chart whose sides and knots are in order. -/
def okC (w h : Int) (l : List Int) : Prop := (1 ≤ w ∧ w ≤ 8) ∧ (1 ≤ h ∧ h ≤ 8) ∧ (l.length : Int) = w * h
def turnL (w h : Int) (l : List Int) : List Int := gridL h.toNat w.toNat fun r c => atL w l (h - 1 - c) r
def mirrL (w h : Int) (l : List Int) : List Int := gridL w.toNat h.toNat fun r c => atL w l r (w - 1 - c)
theorem turnL_len {w h : Int} {l : List Int} (ok : okC w h l) : ((turnL w h l).length : Int) = h * w := by
  unfold turnL; rw [gridL_len]; obtain ⟨a, b, _⟩ := ok
  rw [Int.natCast_mul, Int.toNat_of_nonneg (by omega), Int.toNat_of_nonneg (by omega)]
theorem mirrL_len {w h : Int} {l : List Int} (ok : okC w h l) : ((mirrL w h l).length : Int) = w * h := by
  unfold mirrL; rw [gridL_len]; obtain ⟨a, b, _⟩ := ok
  rw [Int.natCast_mul, Int.toNat_of_nonneg (by omega), Int.toNat_of_nonneg (by omega)]
theorem turn_ok {w h : Int} {l : List Int} (ok : okC w h l) : okC h w (turnL w h l) := ⟨ok.2.1, ok.1, turnL_len ok⟩
theorem mirr_ok {w h : Int} {l : List Int} (ok : okC w h l) : okC w h (mirrL w h l) := ⟨ok.1, ok.2.1, mirrL_len ok⟩
theorem rounds_bd {w h : Int} (hw : 1 ≤ w ∧ w ≤ 8) (hh : 1 ≤ h ∧ h ≤ 8) : (h.toNat + 1) * (w.toNat + 2) ≤ 90 := by
  have h1 : h.toNat + 1 ≤ 9 := by omega
  have h2 : w.toNat + 2 ≤ 10 := by omega
  exact Nat.mul_le_mul h1 h2
theorem specTurn_eq {w h : Int} {l : List Int} (ok : okC w h l) (k : Nat) (hk : 90 ≤ k) : spec_l4Turn.f k w h l = some (h, w, turnL w h l) := by
  obtain ⟨hw, hh, hl⟩ := ok
  have := grid_loop (fun k row acc => spec_l4Turn.l0 k row w h l h w acc) (fun k row col acc => spec_l4Turn.l1 k row col w h l h w acc) (fun acc => some (h, w, acc)) h.toNat w.toNat (by omega) (by omega)
    (fun row col => spec_l2At.f w h l (wrap64 (wrap64 (h - 1) - col)) row) (fun r c => atL w l (h - 1 - c) r)
    (fun k row acc => by simp only [spec_l4Turn.l0]; rw [Int.toNat_of_nonneg (by omega)]) (fun k row col acc => by simp only [spec_l4Turn.l1]; rw [Int.toNat_of_nonneg (by omega)])
    (fun r c hr hc => by rw [wrap_id (x := h - 1) (by omega) (by omega), wrap_id (by omega) (by omega)]; exact specAt_eq w h l _ _ hw hh hl (by omega) (by omega)) k (Nat.le_trans (rounds_bd hh hw) hk)
  exact this
theorem implTurn_eq {w h : Int} {l : List Int} (ok : okC w h l) (k : Nat) (hk : 90 ≤ k) : impl_Chart_turned.f k w h l = some (h, w, turnL w h l) := by
  obtain ⟨hw, hh, hl⟩ := ok
  have := grid_loop (fun k row acc => impl_makeChart__Chart_turned_1.l0 k h w row w h l h w acc) (fun k row col acc => impl_makeChart__Chart_turned_1.l1 k h row w row h col w h l h w acc) (fun acc => some (h, w, acc)) h.toNat w.toNat (by omega) (by omega)
    (fun row col => impl_Chart_turned_1.f row col w h l) (fun r c => atL w l (h - 1 - c) r)
    (fun k row acc => by simp only [impl_makeChart__Chart_turned_1.l0]; rw [Int.toNat_of_nonneg (by omega)]) (fun k row col acc => by simp only [impl_makeChart__Chart_turned_1.l1]; rw [Int.toNat_of_nonneg (by omega)])
    (fun r c hr hc => by simp only [impl_Chart_turned_1.f]; rw [wrap_id (x := h - 1) (by omega) (by omega), wrap_id (by omega) (by omega), implAt_eq w h l _ _ hw hh hl (by omega) (by omega)]; rfl) k (Nat.le_trans (rounds_bd hh hw) hk)
  unfold impl_Chart_turned.f impl_makeChart__Chart_turned_1.f
  show (impl_makeChart__Chart_turned_1.l0 k h w 0 w h l h w []).bind _ = _
  rw [this]; rfl
theorem specMirr_eq {w h : Int} {l : List Int} (ok : okC w h l) (k : Nat) (hk : 90 ≤ k) : spec_l4Mirror.f k w h l = some (w, h, mirrL w h l) := by
  obtain ⟨hw, hh, hl⟩ := ok
  have := grid_loop (fun k row acc => spec_l4Mirror.l0 k row w h l w h acc) (fun k row col acc => spec_l4Mirror.l1 k row col w h l w h acc) (fun acc => some (w, h, acc)) w.toNat h.toNat (by omega) (by omega)
    (fun row col => spec_l2At.f w h l row (wrap64 (wrap64 (w - 1) - col))) (fun r c => atL w l r (w - 1 - c))
    (fun k row acc => by simp only [spec_l4Mirror.l0]; rw [Int.toNat_of_nonneg (by omega)]) (fun k row col acc => by simp only [spec_l4Mirror.l1]; rw [Int.toNat_of_nonneg (by omega)])
    (fun r c hr hc => by rw [wrap_id (x := w - 1) (by omega) (by omega), wrap_id (by omega) (by omega)]; exact specAt_eq w h l _ _ hw hh hl (by omega) (by omega)) k (Nat.le_trans (rounds_bd hw hh) hk)
  exact this
theorem implMirr_eq {w h : Int} {l : List Int} (ok : okC w h l) (k : Nat) (hk : 90 ≤ k) : impl_Chart_mirrored.f k w h l = some (w, h, mirrL w h l) := by
  obtain ⟨hw, hh, hl⟩ := ok
  have := grid_loop (fun k row acc => impl_makeChart__Chart_mirrored_1.l0 k w h row w h l w h acc) (fun k row col acc => impl_makeChart__Chart_mirrored_1.l1 k w row h row w col w h l w h acc) (fun acc => some (w, h, acc)) w.toNat h.toNat (by omega) (by omega)
    (fun row col => impl_Chart_mirrored_1.f row col w h l) (fun r c => atL w l r (w - 1 - c))
    (fun k row acc => by simp only [impl_makeChart__Chart_mirrored_1.l0]; rw [Int.toNat_of_nonneg (by omega)]) (fun k row col acc => by simp only [impl_makeChart__Chart_mirrored_1.l1]; rw [Int.toNat_of_nonneg (by omega)])
    (fun r c hr hc => by simp only [impl_Chart_mirrored_1.f]; rw [wrap_id (x := w - 1) (by omega) (by omega), wrap_id (by omega) (by omega), implAt_eq w h l _ _ hw hh hl (by omega) (by omega)]; rfl) k (Nat.le_trans (rounds_bd hw hh) hk)
  unfold impl_Chart_mirrored.f impl_makeChart__Chart_mirrored_1.f
  show (impl_makeChart__Chart_mirrored_1.l0 k w h 0 w h l w h []).bind _ = _
  rw [this]; rfl
def turns : Nat → Int → Int → List Int → Int × Int × List Int
  | 0, w, h, l => (w, h, l)
  | n + 1, w, h, l => turns n h w (turnL w h l)
def moveR (w h : Int) (l : List Int) (s : Int) : Int × Int × List Int := if s ≥ 4 then turns (s % 4).toNat w h (mirrL w h l) else turns (s % 4).toNat w h l
theorem turns_ok (n : Nat) : ∀ {w h : Int} {l : List Int}, okC w h l → okC (turns n w h l).1 (turns n w h l).2.1 (turns n w h l).2.2 := by
  induction n with
  | zero => intro w h l ok; exact ok
  | succ n ih => intro w h l ok; exact ih (turn_ok ok)
theorem move_ok {w h : Int} {l : List Int} (s : Int) (ok : okC w h l) : okC (moveR w h l s).1 (moveR w h l s).2.1 (moveR w h l s).2.2 := by
  unfold moveR; split
  · exact turns_ok _ (mirr_ok ok)
  · exact turns_ok _ ok
theorem good_ok {w h : Int} {l : List Int} (hg : goodB w h l = true) : okC w h l := ⟨(good_of hg).1, (good_of hg).2.1, (good_of hg).2.2.1⟩
theorem tmod4 {s : Int} (hs : 0 ≤ s) : Int.tmod s 4 = s % 4 := Int.tmod_eq_emod_of_nonneg hs
theorem okC_len {w h : Int} {l : List Int} (ok : okC w h l) : l.length ≤ 64 := by have := mul_bd ok.1 ok.2.1; have := ok.2.2; omega
theorem specMove_l (s : Int) (hs : 0 ≤ s) : ∀ (d k i : Nat) (w h : Int) (l : List Int), okC w h l → (i : Int) + d = s % 4 → 90 + d < k → spec_l4Move.l0 k s i w h l = some (turns d w h l) := by
  intro d
  induction d with
  | zero => intro k i w h l ok h1 h2; obtain ⟨k, rfl⟩ := succ_of (show 0 < k by omega); simp only [spec_l4Move.l0]; rw [tmod4 hs, if_neg (by omega)]; rfl
  | succ d ih =>
    intro k i w h l ok h1 h2
    obtain ⟨k, rfl⟩ := succ_of (show 0 < k by omega)
    simp only [spec_l4Move.l0]; rw [tmod4 hs, if_pos (by omega), specTurn_eq ok k (by omega)]
    simp only [Option.bind_some]
    rw [wrap_id (by omega) (by omega), show ((i : Int) + 1) = ((i + 1 : Nat) : Int) by omega]
    exact ih k (i + 1) h w _ (turn_ok ok) (by omega) (by omega)
theorem specMove_eq {w h : Int} {l : List Int} {s : Int} (ok : okC w h l) (hs : 0 ≤ s) (k : Nat) (hk : 100 ≤ k) : spec_l4Move.f k w h l s = some (moveR w h l s) := by
  have hl := okC_len ok
  obtain ⟨k, rfl⟩ := succ_of (show 0 < k by omega)
  have h4 : ((s % 4).toNat : Int) = s % 4 := Int.toNat_of_nonneg (by omega)
  unfold spec_l4Move.f moveR
  rw [l2Own_eq w h l (by omega)]
  simp only [Option.bind_some]
  split
  · rw [specMirr_eq ok _ (by omega)]; simp only [Option.bind_some, spec_l4Move.j0]
    exact specMove_l s hs (s % 4).toNat k 0 w h _ (mirr_ok ok) (by omega) (by omega)
  · simp only [spec_l4Move.j0]
    exact specMove_l s hs (s % 4).toNat k 0 w h _ ok (by omega) (by omega)
theorem implMove_l (s : Int) : ∀ (d k i : Nat) (w h : Int) (l : List Int), okC w h l → (i : Int) + d = s % 4 → 90 + d < k → impl_Chart_moved.l0 k (s % 4) i w h l = some (turns d w h l) := by
  intro d
  induction d with
  | zero => intro k i w h l ok h1 h2; obtain ⟨k, rfl⟩ := succ_of (show 0 < k by omega); simp only [impl_Chart_moved.l0]; rw [if_neg (by omega)]; rfl
  | succ d ih =>
    intro k i w h l ok h1 h2
    obtain ⟨k, rfl⟩ := succ_of (show 0 < k by omega)
    simp only [impl_Chart_moved.l0]; rw [if_pos (by omega), implTurn_eq ok k (by omega)]
    simp only [Option.bind_some]
    rw [wrap_id (by omega) (by omega), show ((i : Int) + 1) = ((i + 1 : Nat) : Int) by omega]
    exact ih k (i + 1) h w _ (turn_ok ok) (by omega) (by omega)
theorem implMove_eq {w h : Int} {l : List Int} {s : Int} (ok : okC w h l) (hs : 0 ≤ s) (k : Nat) (hk : 100 ≤ k) : impl_Chart_moved.f k w h l s = some (moveR w h l s) := by
  have hl := okC_len ok
  obtain ⟨k, rfl⟩ := succ_of (show 0 < k by omega)
  have h4 : ((s % 4).toNat : Int) = s % 4 := Int.toNat_of_nonneg (by omega)
  unfold impl_Chart_moved.f moveR
  rw [copied_eq w h l (by omega)]
  simp only [Option.bind_some]
  split
  · rw [implMirr_eq ok _ (by omega)]; simp only [Option.bind_some, impl_Chart_moved.j0]; rw [tmod4 hs]
    exact implMove_l s (s % 4).toNat k 0 w h _ (mirr_ok ok) (by omega) (by omega)
  · simp only [impl_Chart_moved.j0]; rw [tmod4 hs]
    exact implMove_l s (s % 4).toNat k 0 w h _ ok (by omega) (by omega)
def symB (s : Int) : Bool := decide (0 ≤ s) && decide (s ≤ 7)
theorem symB_of {s : Int} (h : symB s = true) : 0 ≤ s ∧ s ≤ 7 := by unfold symB at h; simpa using h
theorem isSymm_eq (x : Int) : impl_isSymmetry.f x = some (symB x) := by
  unfold impl_isSymmetry.f impl_in.f symB
  by_cases h : x ≥ 0
  · rw [if_pos h]; simp [show (0 : Int) ≤ x from h]
  · rw [if_neg h]; simp [show ¬ (0 : Int) ≤ x from h]
theorem l4Symm_eq (x : Int) : spec_l4Symmetry.f x = some (symB x) := by
  unfold spec_l4Symmetry.f spec_l1In.f symB
  by_cases h : x ≥ 0
  · rw [if_pos h]; simp [show (0 : Int) ≤ x from h]
  · rw [if_neg h]; simp [show ¬ (0 : Int) ≤ x from h]
theorem eq_scan (a b : List Int) (n : Nat) (ha : a.length = n) (hb : b.length = n) (hn : n ≤ 35184372088832) (L : Nat → Int → Option Bool)
    (hL : ∀ k (i : Nat), i < n → L (k + 1) i = if rd a i = rd b i then L k (wrap64 ((i : Int) + 1)) else some false) (hE : ∀ k, L (k + 1) n = some true) : ∀ k, n < k → L k 0 = some (decide (a = b)) := by
  have go : ∀ (d k i : Nat), i + d = n → d < k → (∀ j, j < i → a[j]? = b[j]?) → L k i = some (decide (a = b)) := by
    intro d
    induction d with
    | zero =>
      intro k i h1 h2 h3
      obtain ⟨k, rfl⟩ := succ_of h2
      have : i = n := by omega
      subst this
      rw [hE]
      have : a = b := List.ext_getElem? fun j => by
        by_cases hj : j < i
        · exact h3 j hj
        · rw [List.getElem?_eq_none (by omega), List.getElem?_eq_none (by omega)]
      rw [this]; simp
    | succ d ih =>
      intro k i h1 h2 h3
      obtain ⟨k, rfl⟩ := succ_of (Nat.lt_of_le_of_lt (Nat.zero_le _) h2)
      rw [hL k i (by omega), rd_get a i (by omega), rd_get b i (by omega), wrap_id (by omega) (by omega)]
      by_cases e : a[i] = b[i]
      · rw [if_pos e, show ((i : Int) + 1) = ((i + 1 : Nat) : Int) by omega]
        refine ih k (i + 1) (by omega) (by omega) fun j hj => ?_
        by_cases e2 : j = i
        · subst e2; rw [List.getElem?_eq_getElem (by omega), List.getElem?_eq_getElem (by omega), e]
        · exact h3 j (by omega)
      · rw [if_neg e]
        have : ¬ a = b := by rintro rfl; exact e rfl
        simp [this]
  intro k hk
  exact go n k 0 (by omega) hk (fun j hj => by omega)
theorem specSame_eq {w h w' h' : Int} {l l' : List Int} (ok : okC w h l) (ok' : okC w' h' l') (k : Nat) (hk : 70 ≤ k) : spec_l4Same.f k w h l w' h' l' = some (decide ((w, h, l) = (w', h', l'))) := by
  unfold spec_l4Same.f
  obtain ⟨k, rfl⟩ := succ_of (show 0 < k by omega)
  by_cases e1 : w = w'
  · rw [if_pos e1]
    simp only [spec_l4Same.j0]
    by_cases e2 : h = h'
    · subst e1; subst e2
      have hb := mul_bd ok.1 ok.2.1
      have := eq_scan l l' l.length rfl (by have := ok.2.2; have := ok'.2.2; omega) (by have := ok.2.2; omega) (fun k i => spec_l4Same.l0 k i w h l w h l')
        (fun k i hi => by simp only [spec_l4Same.l0]; rw [if_pos (by omega), if_pos (by omega), if_pos (by have := ok.2.2; have := ok'.2.2; omega)])
        (fun k => by simp only [spec_l4Same.l0]; rw [if_neg (by omega)]) k (by have := ok.2.2; omega)
      simp only [bne_self_eq_false, Bool.false_eq_true, if_false]
      rw [this]; simp
    · have : (h != h') = true := by simp [e2]
      rw [if_pos this]; simp [e2]
  · rw [if_neg e1]; simp [spec_l4Same.j0, e1]
theorem implSame_eq {w h w' h' : Int} {l l' : List Int} (ok : okC w h l) (ok' : okC w' h' l') (k : Nat) (hk : 70 ≤ k) : impl_sameChart.f k w h l w' h' l' = some (decide ((w, h, l) = (w', h', l'))) := by
  unfold impl_sameChart.f
  by_cases e1 : w = w'
  · rw [if_pos e1]
    by_cases e2 : h = h'
    · rw [if_pos e2]; subst e1; subst e2
      have hb := mul_bd ok.1 ok.2.1
      have := eq_scan l l' l.length rfl (by have := ok.2.2; have := ok'.2.2; omega) (by have := ok.2.2; omega) (fun k i => slices_Equal_int_int.l0 k l l' l.length i)
        (fun k i hi => by simp only [slices_Equal_int_int.l0]; rw [if_pos (by omega), if_pos (by omega), if_pos (by omega), if_pos (by have := ok.2.2; have := ok'.2.2; omega)])
        (fun k => by simp only [slices_Equal_int_int.l0]; rw [if_neg (by omega)]) k (by have := ok.2.2; omega)
      unfold slices_Equal_int_int.f
      rw [if_pos (by have := ok.2.2; have := ok'.2.2; omega), this]; simp
    · rw [if_neg e2]; simp [e2]
  · rw [if_neg e1]; simp [e1]
def hasR (w h : Int) (l : List Int) (s : Int) : Bool × Bool := if goodB w h l = true ∧ symB s = true then (decide ((w, h, l) = ((moveR w h l s).1, (moveR w h l s).2.1, (moveR w h l s).2.2)), true) else (false, false)
theorem spec_eq (w h : Int) (l : List Int) (s : Int) (hl : l.length ≤ 1048576) (k : Nat) (hk : l.length + 500 < k) : spec_HasSymmetry.f k w h l s = some (hasR w h l s) := by
  unfold spec_HasSymmetry.f hasR
  obtain ⟨k, rfl⟩ := succ_of (show 0 < k by omega)
  rw [l2Good_eq w h l (by omega) _ (by omega)]; simp only [Option.bind_some]
  by_cases e : goodB w h l = true
  · rw [if_pos e, l4Symm_eq]; simp only [Option.bind_some]
    by_cases e2 : symB s = true
    · rw [if_pos ⟨e, e2⟩, e2]; simp only [spec_HasSymmetry.j0, Bool.not_true, Bool.false_eq_true, if_false]
      rw [specMove_eq (good_ok e) (symB_of e2).1 k (by omega)]; simp only [Option.bind_some]
      rw [specSame_eq (good_ok e) (move_ok s (good_ok e)) k (by omega)]; rfl
    · rw [if_neg (fun h => e2 h.2)]; simp [spec_HasSymmetry.j0, e2]
  · rw [if_neg e, if_neg (fun h => e h.1)]; simp [spec_HasSymmetry.j0]
theorem impl_eq (w h : Int) (l : List Int) (s : Int) (hl : l.length ≤ 1048576) (k : Nat) (hk : l.length + 500 < k) : impl_HasSymmetry.f k w h l s = some (hasR w h l s) := by
  unfold impl_HasSymmetry.f hasR
  obtain ⟨k, rfl⟩ := succ_of (show 0 < k by omega)
  rw [isChart_eq w h l (by omega) _ (by omega)]; simp only [Option.bind_some]
  by_cases e : goodB w h l = true
  · rw [if_pos e, isSymm_eq]; simp only [Option.bind_some]
    by_cases e2 : symB s = true
    · rw [if_pos ⟨e, e2⟩, e2]; simp only [impl_HasSymmetry.j0, Bool.not_true, Bool.false_eq_true, if_false]
      rw [implMove_eq (good_ok e) (symB_of e2).1 k (by omega)]; simp only [Option.bind_some]
      rw [implSame_eq (good_ok e) (move_ok s (good_ok e)) k (by omega)]; rfl
    · rw [if_neg (fun h => e2 h.2)]; simp [impl_HasSymmetry.j0, e2]
  · rw [if_neg e, if_neg (fun h => e h.1)]; simp [impl_HasSymmetry.j0]
theorem FnExactHasSymmetry : laws_FnExactHasSymmetry.Pure := by
  intro w h l s _ _ hl _ _
  refine ⟨l.length + 1000, ?_⟩
  unfold laws_FnExactHasSymmetry.f
  rw [szChart_eq w h l 1048576 (by omega) (by omega) hl]
  by_cases hs : (1048576 : Int) < l.length
  · rw [if_pos hs]; simp
  · rw [if_neg hs]
    have s1 : ∀ k, l.length + 500 < k → spec_HasSymmetry.f k w h l s = some (hasR w h l s) := fun k hk => spec_eq w h l s (by omega) k hk
    have g1 : ∀ k, l.length + 500 < k → impl_HasSymmetry.f k w h l s = some (hasR w h l s) := fun k hk => impl_eq w h l s (by omega) k hk
    have t1 : ∀ k, l.length < k → laws_toChart.f k w h l = some (w, h, l) := fun k hk => toChart_eq w h l (by omega) k hk
    have e1 : ∀ k, l.length < k → laws_eqChart.f k w h l w h l = some true := fun k hk => eqChart_eq w h l (by omega) k hk
    have n3 : ¬ (1048576 - (l.length : Int) < 0) := by omega
    simp only [laws_FnExactHasSymmetry.j0, Option.bind_some, s1 (l.length + 1000) (by omega), s1 (l.length + 999) (by omega), g1 (l.length + 1000) (by omega), g1 (l.length + 999) (by omega), t1 (l.length + 1000) (by omega), t1 (l.length + 999) (by omega), e1 (l.length + 1000) (by omega), e1 (l.length + 999) (by omega), if_true, bne_self_eq_false, Bool.false_eq_true, if_false, n3]
end Go.Proofs.Yteiaakppjcpgcaa.Pure
