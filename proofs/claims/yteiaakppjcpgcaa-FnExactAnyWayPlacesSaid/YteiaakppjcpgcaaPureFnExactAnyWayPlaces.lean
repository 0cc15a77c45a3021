/- The program's AnyWayPlaces returns what the reference's AnyWayPlaces returns, for every two charts. -/
import Derived.Test.YteiaakppjcpgcaaPFnExactAnyWayPlacesx10
namespace Go.Proofs.Yteiaakppjcpgcaa.Pure
open Go.RowKit Go.Proofs.Yteiaakppjcpgcaa.PFnExactAnyWayPlaces Go.Proofs.YteiaakppjcpgcaaW.PrintWords Go.Proofs.YteiaakppjcpgcaaW.PrintLast
set_option linter.unusedVariables false
set_option linter.unusedSimpArgs false
theorem wrap_id {x : Int} (h : -9223372036854775808 ≤ x) (h' : x ≤ 9223372036854775807) : wrap64 x = x := by unfold wrap64; omega
theorem rd_get (l : List Int) (i : Nat) (h : i < l.length) : rd l (i : Int) = l[i] := by
  unfold rd; rw [Int.toNat_natCast, List.getD_eq_getElem?_getD, List.getElem?_eq_getElem h]; rfl
theorem succ_of {k : Nat} (h : 0 < k) : ∃ m, k = m + 1 := ⟨k - 1, by omega⟩
theorem szIntS_eq (l0 : List Int) (a : Int) (h0 : 0 ≤ a) (h1 : a ≤ 1048576) (hll0 : l0.length ≤ 140737488351232) : ∃ b, laws_szIntS.f l0 a = some b ∧ (b < 0 ∨ 0 ≤ b ∧ b ≤ a ∧ l0.length ≤ 1048576) := by
  unfold laws_szIntS.f
  rw [wrap_id (by omega) (by omega)]
  by_cases e : a - (l0.length : Int) < 0
  · rw [if_pos e]; exact ⟨_, rfl, Or.inl (by omega)⟩
  · rw [if_neg e]; exact ⟨_, rfl, Or.inr (by omega)⟩
theorem szChart_eq (a0_0 : Int) (a0_1 : Int) (l0_2 : List Int) (a : Int) (h0 : 0 ≤ a) (h1 : a ≤ 1048576) (hll0_2 : l0_2.length ≤ 140737488351232) : ∃ b, laws_szChart.f a0_0 a0_1 l0_2 a = some b ∧ (b < 0 ∨ 0 ≤ b ∧ b ≤ a ∧ l0_2.length ≤ 1048576) := by
  unfold laws_szChart.f
  obtain ⟨b0, e0, c0⟩ := szIntS_eq l0_2 a (by omega) (by omega) (by omega)
  rw [e0]; simp only [Option.bind_some]
  by_cases f0 : b0 < 0
  · rw [if_pos f0]; exact ⟨_, rfl, Or.inl (by omega)⟩
  rw [if_neg f0]
  exact ⟨_, rfl, Or.inr (by omega)⟩
def cvIntS (l : List Int) : List Int := l
theorem cvIntS_len (l : List Int) : (cvIntS l).length = l.length := by rfl
theorem toIntS_l (l : List Int) (hl : l.length ≤ 4194304) : ∀ (d i : Nat) (acc : List Int), i + d = l.length → acc.length = l.length → (∀ j, j < i → acc[j]? = (cvIntS l)[j]?) → ∃ k0, ∀ k, k0 ≤ k → laws_toIntS.l0 k l i acc = some (cvIntS l) := by
  intro d
  induction d with
  | zero =>
    intro i acc h1 h2 h3; refine ⟨1, fun k hk => ?_⟩
    obtain ⟨k, rfl⟩ := succ_of (show 0 < k by omega)
    simp only [laws_toIntS.l0]; rw [if_neg (by omega)]
    congr 1
    apply List.ext_getElem?
    intro j
    by_cases hj : j < i
    · exact h3 j hj
    · rw [List.getElem?_eq_none (by omega), List.getElem?_eq_none (by rw [cvIntS_len]; omega)]
  | succ d ih =>
    intro i acc h1 h2 h3
    obtain ⟨k0, h0⟩ := ih (i + 1) (acc.set i (rd l i)) (by omega) (by simpa using h2) (by
      intro j hj
      by_cases e : j = i
      · subst e
        rw [List.getElem?_set_self (by omega)]
        unfold rd; rw [Int.toNat_natCast, List.getD_eq_getElem?_getD, List.getElem?_eq_getElem (show j < l.length by omega)]; simp [cvIntS, List.getElem?_eq_getElem (show j < l.length by omega)]
      · rw [List.getElem?_set_ne (fun h => e h.symm)]; exact h3 j (by omega))
    refine ⟨k0 + 1, fun k hk => ?_⟩
    obtain ⟨k, rfl⟩ := succ_of (show 0 < k by omega)
    simp only [laws_toIntS.l0]; rw [if_pos (by omega), if_pos (by omega)]; rw [if_pos (by omega), wrap_id (by omega) (by omega)]
    rw [Int.toNat_natCast]; exact h0 k (by omega)
theorem toIntS_ev (l : List Int) (hl : l.length ≤ 4194304) : ∃ k0, ∀ k, k0 ≤ k → laws_toIntS.f k l = some (cvIntS l) := by
  obtain ⟨k0, h0⟩ := toIntS_l l hl l.length 0 (List.replicate l.length 0) (by omega) (by simp) (fun j hj => by omega)
  refine ⟨k0, fun k hk => ?_⟩
  unfold laws_toIntS.f; rw [if_pos (by omega), Int.toNat_natCast, if_pos (by omega)]; exact h0 k hk
theorem toChart_ev (a0_0 : Int) (a0_1 : Int) (l0_2 : List Int) (hll0_2 : l0_2.length ≤ 4194304) : ∃ k0, ∀ k, k0 ≤ k → laws_toChart.f k a0_0 a0_1 l0_2 = some (a0_0, a0_1, cvIntS l0_2) := by
  obtain ⟨k0, h0⟩ := toIntS_ev l0_2 (by omega)
  refine ⟨k0, fun k hk => ?_⟩
  unfold laws_toChart.f; simp only [h0 k (by omega), Option.bind_some]
theorem eqIntS_l (l : List Int) (hl : l.length ≤ 4194304) : ∀ (d i : Nat), i + d = l.length → ∃ k0, ∀ k, k0 ≤ k → laws_eqIntS.l0 k l l i = some true := by
  intro d
  induction d with
  | zero =>
    intro i h; refine ⟨1, fun k hk => ?_⟩
    obtain ⟨k, rfl⟩ := succ_of (show 0 < k by omega)
    simp only [laws_eqIntS.l0]; rw [if_neg (by omega)]
  | succ d ih =>
    intro i h; obtain ⟨k0, h0⟩ := ih (i + 1) (by omega); refine ⟨k0 + 1, fun k hk => ?_⟩
    obtain ⟨k, rfl⟩ := succ_of (show 0 < k by omega)
    simp only [laws_eqIntS.l0]; rw [if_pos (by omega), if_pos (by omega), if_pos (by omega)]; simp only [if_true]
    rw [wrap_id (by omega) (by omega)]; exact h0 k (by omega)
theorem eqIntS_ev (l : List Int) (hl : l.length ≤ 4194304) : ∃ k0, ∀ k, k0 ≤ k → laws_eqIntS.f k l l = some true := by
  obtain ⟨k0, h0⟩ := eqIntS_l l hl l.length 0 (by omega)
  refine ⟨k0, fun k hk => ?_⟩
  unfold laws_eqIntS.f; rw [if_pos rfl]; exact h0 k hk
theorem eqChart_ev (a0_0 : Int) (a0_1 : Int) (l0_2 : List Int) (hll0_2 : l0_2.length ≤ 4194304) : ∃ k0, ∀ k, k0 ≤ k → laws_eqChart.f k a0_0 a0_1 l0_2 a0_0 a0_1 l0_2 = some true := by
  obtain ⟨k0, h0⟩ := eqIntS_ev l0_2 (by omega)
  refine ⟨k0, fun k hk => ?_⟩
  unfold laws_eqChart.f; simp [h0 k (by omega)]
def colorB (x : Int) : Bool := decide (0 ≤ x) && decide (x ≤ 5)
def sideB (x : Int) : Bool := decide (1 ≤ x) && decide (x ≤ 8)
def goodB (w h : Int) (l : List Int) : Bool := sideB w && sideB h && decide ((l.length : Int) = w * h) && l.all colorB
theorem l2Color_eq (x : Int) : spec_l2Color.f x = some (colorB x) := by
  unfold spec_l2Color.f spec_l1In.f colorB
  by_cases h : x ≥ 0
  · rw [if_pos h]; simp [show (0 : Int) ≤ x from h]
  · rw [if_neg h]; simp [show ¬ (0 : Int) ≤ x from h]
theorem l2Side_eq (x : Int) : spec_l2Side.f x = some (sideB x) := by
  unfold spec_l2Side.f spec_l1In.f sideB
  by_cases h : x ≥ 1
  · rw [if_pos h]; simp [show (1 : Int) ≤ x from h]
  · rw [if_neg h]; simp [show ¬ (1 : Int) ≤ x from h]
theorem side_of {x : Int} (h : sideB x = true) : 1 ≤ x ∧ x ≤ 8 := by unfold sideB at h; simpa using h
theorem color_of {x : Int} (h : colorB x = true) : 0 ≤ x ∧ x ≤ 5 := by unfold colorB at h; simpa using h
theorem mul_bd {w h : Int} (hw : 1 ≤ w ∧ w ≤ 8) (hh : 1 ≤ h ∧ h ≤ 8) : 1 ≤ w * h ∧ w * h ≤ 64 := by
  obtain ⟨a, b⟩ := hw; obtain ⟨c, d⟩ := hh
  have h1 : w = 1 ∨ w = 2 ∨ w = 3 ∨ w = 4 ∨ w = 5 ∨ w = 6 ∨ w = 7 ∨ w = 8 := by omega
  rcases h1 with rfl | rfl | rfl | rfl | rfl | rfl | rfl | rfl <;> omega
theorem good_of {w h : Int} {l : List Int} (hg : goodB w h l = true) : (1 ≤ w ∧ w ≤ 8) ∧ (1 ≤ h ∧ h ≤ 8) ∧ (l.length : Int) = w * h ∧ ∀ x ∈ l, 0 ≤ x ∧ x ≤ 5 := by
  unfold goodB at hg
  simp only [Bool.and_eq_true, decide_eq_true_eq, List.all_eq_true] at hg
  exact ⟨side_of hg.1.1.1, side_of hg.1.1.2, hg.1.2, fun x hx => color_of (hg.2 x hx)⟩
theorem l2Good_l (w h : Int) (l : List Int) (hl : l.length ≤ 35184372088832) : ∀ (d k i : Nat), i + d = l.length → d < k → (∀ j (hj : j < l.length), j < i → colorB l[j] = true) → spec_l2Good.l0 k i w h l = some (goodB w h l) := by
  intro d
  induction d with
  | zero =>
    intro k i h1 h2 h3
    obtain ⟨k, rfl⟩ := succ_of h2
    have hall : l.all colorB = true := by
      rw [List.all_eq_true]; intro x hx; obtain ⟨j, hj, rfl⟩ := List.mem_iff_getElem.1 hx; exact h3 j hj (by omega)
    simp only [spec_l2Good.l0]; rw [if_neg (by omega), l2Side_eq, l2Side_eq]
    simp only [Option.bind_some]
    unfold goodB
    cases e1 : sideB w <;> cases e2 : sideB h <;> simp [hall]
    rw [wrap_id (by have := mul_bd (side_of e1) (side_of e2); omega) (by have := mul_bd (side_of e1) (side_of e2); omega)]
    rfl
  | succ d ih =>
    intro k i h1 h2 h3
    obtain ⟨k, rfl⟩ := succ_of (Nat.lt_of_le_of_lt (Nat.zero_le _) h2)
    simp only [spec_l2Good.l0]; rw [if_pos (by omega), if_pos (by omega), l2Color_eq, rd_get l i (by omega)]
    simp only [Option.bind_some]
    by_cases hc : colorB l[i] = true
    · rw [if_pos hc, wrap_id (by omega) (by omega)]
      refine ih k (i + 1) (by omega) (by omega) fun j hj hji => ?_
      by_cases e : j = i
      · subst e; exact hc
      · exact h3 j hj (by omega)
    · rw [if_neg hc]
      have : l.all colorB = false := by
        rw [← Bool.not_eq_true, List.all_eq_true]; intro hh; exact hc (hh _ (List.getElem_mem _))
      unfold goodB; rw [this]; simp
theorem l2Good_eq (w h : Int) (l : List Int) (hl : l.length ≤ 35184372088832) (k : Nat) (hk : l.length < k) : spec_l2Good.f k w h l = some (goodB w h l) := by
  unfold spec_l2Good.f
  exact l2Good_l w h l hl l.length k 0 (by omega) hk (fun j hj hji => by omega)
theorem isColor_eq (x : Int) : impl_isColor.f x = some (colorB x) := by
  unfold impl_isColor.f impl_in.f colorB
  by_cases h : x ≥ 0
  · rw [if_pos h]; simp [show (0 : Int) ≤ x from h]
  · rw [if_neg h]; simp [show ¬ (0 : Int) ≤ x from h]
theorem isSide_eq (x : Int) : impl_isSide.f x = some (sideB x) := by
  unfold impl_isSide.f impl_in.f sideB
  by_cases h : x ≥ 1
  · rw [if_pos h]; simp [show (1 : Int) ≤ x from h]
  · rw [if_neg h]; simp [show ¬ (1 : Int) ≤ x from h]
theorem idxColor_l (l : List Int) (hl : l.length ≤ 35184372088832) : ∀ (d k i : Nat), i + d = l.length → d < k → (∀ j (hj : j < l.length), j < i → colorB l[j] = true) → ∃ r, slices_IndexFunc_int_int__areAll_int_1__isColor.l0 k l l.length i = some r ∧ (decide (r ≥ 0) = !l.all colorB) := by
  intro d
  induction d with
  | zero =>
    intro k i h1 h2 h3
    obtain ⟨k, rfl⟩ := succ_of h2
    have hall : l.all colorB = true := by
      rw [List.all_eq_true]; intro x hx; obtain ⟨j, hj, rfl⟩ := List.mem_iff_getElem.1 hx; exact h3 j hj (by omega)
    refine ⟨-1, ?_, by rw [hall]; rfl⟩
    simp only [slices_IndexFunc_int_int__areAll_int_1__isColor.l0]; rw [if_neg (by omega)]
  | succ d ih =>
    intro k i h1 h2 h3
    obtain ⟨k, rfl⟩ := succ_of (Nat.lt_of_le_of_lt (Nat.zero_le _) h2)
    simp only [slices_IndexFunc_int_int__areAll_int_1__isColor.l0, impl_areAll_int_1__isColor.f]; rw [if_pos (by omega), if_pos (by omega), if_pos (by omega), isColor_eq, rd_get l i (by omega)]
    simp only [Option.bind_some]
    by_cases hc : colorB l[i] = true
    · rw [hc]; simp only [Bool.not_true, Bool.false_eq_true, if_false]
      rw [wrap_id (by omega) (by omega)]
      refine ih k (i + 1) (by omega) (by omega) fun j hj hji => ?_
      by_cases e : j = i
      · subst e; exact hc
      · exact h3 j hj (by omega)
    · have hc' : colorB l[i] = false := by simpa using hc
      rw [hc']; simp only [Bool.not_false, if_true]
      have : l.all colorB = false := by
        rw [← Bool.not_eq_true, List.all_eq_true]; intro hh; exact hc (hh _ (List.getElem_mem _))
      exact ⟨_, rfl, by rw [this]; simp⟩
theorem areColors_eq (l : List Int) (hl : l.length ≤ 35184372088832) (k : Nat) (hk : l.length < k) : impl_areAll_int__isColor.f k l = some (l.all colorB) := by
  obtain ⟨r, h1, h2⟩ := idxColor_l l hl l.length k 0 (by omega) hk (fun j hj hji => by omega)
  unfold impl_areAll_int__isColor.f slices_ContainsFunc_int_int__areAll_int_1__isColor.f slices_IndexFunc_int_int__areAll_int_1__isColor.f
  rw [show (0 : Int) = ((0 : Nat) : Int) from rfl, h1]; simp only [Option.bind_some]
  rw [show decide (r ≥ ((0 : Nat) : Int)) = decide (r ≥ 0) from rfl, h2]; simp
theorem isChart_eq (w h : Int) (l : List Int) (hl : l.length ≤ 35184372088832) (k : Nat) (hk : l.length < k) : impl_IsChart.f k w h l = some (goodB w h l) := by
  unfold impl_IsChart.f
  rw [isSide_eq, isSide_eq, areColors_eq l hl k hk]
  simp only [Option.bind_some]
  unfold goodB
  cases e1 : sideB w <;> cases e2 : sideB h <;> simp
  rw [wrap_id (by have := mul_bd (side_of e1) (side_of e2); omega) (by have := mul_bd (side_of e1) (side_of e2); omega)]
  by_cases e : (l.length : Int) = w * h
  · rw [if_pos e]; simp [e]
  · rw [if_neg e]; simp [e]
theorem l1Own_eq (l : List Int) (hl : l.length ≤ 1048576) : spec_l1Own.f l = some l := by
  unfold spec_l1Own.f; simp only [Option.bind_some, List.nil_append, List.length_nil]; rw [if_pos (by omega)]
theorem l2Own_eq (w h : Int) (l : List Int) (hl : l.length ≤ 1048576) : spec_l2Own.f w h l = some (w, h, l) := by
  unfold spec_l2Own.f; rw [l1Own_eq l hl]; rfl
theorem cloneInt_eq (l : List Int) (hl : l.length ≤ 1048576) : slices_Clone_int_int.f l = some l := by
  unfold slices_Clone_int_int.f; rw [if_pos (by omega)]
theorem copied_eq (w h : Int) (l : List Int) (hl : l.length ≤ 1048576) : impl_Chart_copied.f w h l = some (w, h, l) := by
  unfold impl_Chart_copied.f; rw [cloneInt_eq l hl]; rfl
def gridL (w h : Nat) (f : Nat → Nat → Int) : List Int := (List.range h).flatMap fun r => (List.range w).map (f r)
theorem gridL_len (w h : Nat) (f : Nat → Nat → Int) : (gridL w h f).length = w * h := by
  unfold gridL
  induction h with
  | zero => simp
  | succ h ih => rw [List.range_succ, List.flatMap_append, List.length_append, ih]; simp [Nat.mul_succ]
theorem gridL_congr (w h : Nat) (f g : Nat → Nat → Int) (e : ∀ r c, r < h → c < w → f r c = g r c) : gridL w h f = gridL w h g := by
  unfold gridL
  show ((List.range h).map _).flatten = ((List.range h).map _).flatten
  congr 1
  apply List.map_congr_left
  intro r hr
  apply List.map_congr_left
  intro c hc
  exact e r c (by simpa using hr) (by simpa using hc)
theorem gridL_all (w h : Nat) (f : Nat → Nat → Int) (p : Int → Prop) (e : ∀ r c, r < h → c < w → p (f r c)) : ∀ x ∈ gridL w h f, p x := by
  intro x hx
  unfold gridL at hx
  simp only [List.mem_flatMap, List.mem_map, List.mem_range] at hx
  obtain ⟨r, hr, c, hc, rfl⟩ := hx
  exact e r c hr hc
theorem gridL_get (w h : Nat) (f : Nat → Nat → Int) (r c : Nat) (hr : r < h) (hc : c < w) : (gridL w h f)[r * w + c]? = some (f r c) := by
  unfold gridL
  induction h with
  | zero => omega
  | succ h ih =>
    rw [List.range_succ, List.flatMap_append]
    have hl : ((List.range h).flatMap fun r => (List.range w).map (f r)).length = w * h := gridL_len w h f
    by_cases e : r < h
    · rw [List.getElem?_append_left]
      · exact ih e
      · rw [hl]
        have : (r + 1) * w ≤ h * w := Nat.mul_le_mul_right _ e
        rw [Nat.add_mul, Nat.one_mul] at this
        rw [Nat.mul_comm w h]; omega
    · have : r = h := by omega
      subst this
      rw [List.getElem?_append_right (by rw [hl, Nat.mul_comm]; omega), hl, Nat.mul_comm w r, Nat.add_sub_cancel_left]
      simp [hc]
/-- Two loops, one in the other, that collect g row col. -/
theorem grid_loop {R : Type} (L0 : Nat → Int → List Int → Option R) (L1 : Nat → Int → Int → List Int → Option R) (fin : List Int → Option R) (w h : Nat) (hw : w ≤ 64) (hh : h ≤ 64) (g : Int → Int → Option Int) (f : Nat → Nat → Int)
    (h0 : ∀ k (row : Nat) acc, L0 (k + 1) row acc = if (row : Int) < h then L1 k row 0 acc else fin acc)
    (h1 : ∀ k (row col : Nat) acc, L1 (k + 1) row col acc = if (col : Int) < w then (g row col).bind (fun t => if acc.length < 17592186044416 then L1 k row (wrap64 ((col : Int) + 1)) (acc ++ [t]) else none) else L0 k (wrap64 ((row : Int) + 1)) acc)
    (hg : ∀ r c : Nat, r < h → c < w → g r c = some (f r c)) : ∀ k, (h + 1) * (w + 2) ≤ k → L0 k 0 [] = fin (gridL w h f) := by
  have row_ : ∀ (d k row : Nat) (col : Nat) (acc : List Int), row < h → col + d = w → acc.length + d ≤ 8192 → d < k →
      ∃ k', k' + d + 1 = k ∧ L1 k row col acc = L0 k' ((row + 1 : Nat) : Int) (acc ++ ((List.range w).drop col).map (f row)) := by
    intro d
    induction d with
    | zero =>
      intro k row col acc hr hc ha hk
      obtain ⟨k, rfl⟩ := succ_of hk
      refine ⟨k, rfl, ?_⟩
      rw [h1, if_neg (by omega), wrap_id (by omega) (by omega), List.drop_of_length_le (by simp; omega)]
      simp
    | succ d ih =>
      intro k row col acc hr hc ha hk
      obtain ⟨k, rfl⟩ := succ_of (Nat.lt_of_le_of_lt (Nat.zero_le _) hk)
      obtain ⟨k', e1, e2⟩ := ih k row (col + 1) (acc ++ [f row col]) hr (by omega) (by simp; omega) (by omega)
      refine ⟨k', by omega, ?_⟩
      rw [h1, if_pos (by omega), hg row col hr (by omega)]
      simp only [Option.bind_some]
      rw [if_pos (by omega), wrap_id (by omega) (by omega)]
      rw [show ((col : Int) + 1) = ((col + 1 : Nat) : Int) by omega, e2]
      congr 1
      rw [List.append_assoc]
      congr 1
      rw [List.drop_eq_getElem_cons (l := List.range w) (i := col) (by simp; omega)]
      simp
  have all_ : ∀ (d k row : Nat) (acc : List Int), row + d = h → acc.length ≤ 64 * row → (d + 1) * (w + 2) ≤ k → L0 k row acc = fin (acc ++ ((List.range h).drop row).flatMap fun r => (List.range w).map (f r)) := by
    intro d
    induction d with
    | zero =>
      intro k row acc hr ha hk
      obtain ⟨k, rfl⟩ := succ_of (show 0 < k by omega)
      rw [h0, if_neg (by omega), List.drop_of_length_le (by simp; omega)]
      simp
    | succ d ih =>
      intro k row acc hr ha hk
      rw [Nat.add_mul] at hk
      obtain ⟨k, rfl⟩ := succ_of (show 0 < k by omega)
      rw [h0, if_pos (by omega)]
      obtain ⟨k', e1, e2⟩ := row_ w k row 0 acc (by omega) (by omega) (by omega) (by omega)
      rw [show ((0 : Int)) = ((0 : Nat) : Int) from rfl, e2, ih k' (row + 1) _ (by omega) (by simp; omega) (by omega)]
      congr 1
      rw [List.append_assoc, List.drop_eq_getElem_cons (show row < (List.range h).length by simp; omega)]
      simp
  intro k hk
  have := all_ h k 0 [] (by omega) (by simp) hk
  simpa [gridL] using this
/-- The same, where the loops are known within the bounds alone. -/
theorem grid_loop2 {R : Type} (L0 : Nat → Int → List Int → Option R) (L1 : Nat → Int → Int → List Int → Option R) (fin : List Int → Option R) (w h : Nat) (hw : w ≤ 64) (hh : h ≤ 64) (g : Int → Int → Option Int) (f : Nat → Nat → Int)
    (h0 : ∀ k (row : Nat) acc, row ≤ h → L0 (k + 1) row acc = if (row : Int) < h then L1 k row 0 acc else fin acc)
    (h1 : ∀ k (row col : Nat) acc, row < h → col ≤ w → L1 (k + 1) row col acc = if (col : Int) < w then (g row col).bind (fun t => if acc.length < 17592186044416 then L1 k row (wrap64 ((col : Int) + 1)) (acc ++ [t]) else none) else L0 k (wrap64 ((row : Int) + 1)) acc)
    (hg : ∀ r c : Nat, r < h → c < w → g r c = some (f r c)) : ∀ k, (h + 1) * (w + 2) ≤ k → L0 k 0 [] = fin (gridL w h f) := by
  have row_ : ∀ (d k row : Nat) (col : Nat) (acc : List Int), row < h → col + d = w → acc.length + d ≤ 8192 → d < k →
      ∃ k', k' + d + 1 = k ∧ L1 k row col acc = L0 k' ((row + 1 : Nat) : Int) (acc ++ ((List.range w).drop col).map (f row)) := by
    intro d
    induction d with
    | zero =>
      intro k row col acc hr hc ha hk
      obtain ⟨k, rfl⟩ := succ_of hk
      refine ⟨k, rfl, ?_⟩
      rw [h1 k row col acc hr (by omega), if_neg (by omega), wrap_id (by omega) (by omega), List.drop_of_length_le (by simp; omega)]
      simp
    | succ d ih =>
      intro k row col acc hr hc ha hk
      obtain ⟨k, rfl⟩ := succ_of (Nat.lt_of_le_of_lt (Nat.zero_le _) hk)
      obtain ⟨k', e1, e2⟩ := ih k row (col + 1) (acc ++ [f row col]) hr (by omega) (by simp; omega) (by omega)
      refine ⟨k', by omega, ?_⟩
      rw [h1 k row col acc hr (by omega), if_pos (by omega), hg row col hr (by omega)]
      simp only [Option.bind_some]
      rw [if_pos (by omega), wrap_id (by omega) (by omega)]
      rw [show ((col : Int) + 1) = ((col + 1 : Nat) : Int) by omega, e2]
      congr 1
      rw [List.append_assoc]
      congr 1
      rw [List.drop_eq_getElem_cons (l := List.range w) (i := col) (by simp; omega)]
      simp
  have all_ : ∀ (d k row : Nat) (acc : List Int), row + d = h → acc.length ≤ 64 * row → (d + 1) * (w + 2) ≤ k → L0 k row acc = fin (acc ++ ((List.range h).drop row).flatMap fun r => (List.range w).map (f r)) := by
    intro d
    induction d with
    | zero =>
      intro k row acc hr ha hk
      obtain ⟨k, rfl⟩ := succ_of (show 0 < k by omega)
      rw [h0 k row acc (by omega), if_neg (by omega), List.drop_of_length_le (by simp; omega)]
      simp
    | succ d ih =>
      intro k row acc hr ha hk
      rw [Nat.add_mul] at hk
      obtain ⟨k, rfl⟩ := succ_of (show 0 < k by omega)
      rw [h0 k row acc (by omega), if_pos (by omega)]
      obtain ⟨k', e1, e2⟩ := row_ w k row 0 acc (by omega) (by omega) (by omega) (by omega)
      rw [show ((0 : Int)) = ((0 : Nat) : Int) from rfl, e2, ih k' (row + 1) _ (by omega) (by simp; omega) (by omega)]
      congr 1
      rw [List.append_assoc, List.drop_eq_getElem_cons (show row < (List.range h).length by simp; omega)]
      simp
  intro k hk
  have := all_ h k 0 [] (by omega) (by simp) hk
  simpa [gridL] using this
def atL (w : Int) (l : List Int) (r c : Int) : Int := rd l (r * w + c)
theorem at_bd {w h r c : Int} (hw : 1 ≤ w ∧ w ≤ 8) (hh : 1 ≤ h ∧ h ≤ 8) (hr : 0 ≤ r ∧ r < h) (hc : 0 ≤ c ∧ c < w) : 0 ≤ r * w ∧ r * w ≤ 64 ∧ 0 ≤ r * w + c ∧ r * w + c < w * h := by
  obtain ⟨a, b⟩ := hw; obtain ⟨a', b'⟩ := hh; obtain ⟨p, q⟩ := hr; obtain ⟨p', q'⟩ := hc
  have h1 : w = 1 ∨ w = 2 ∨ w = 3 ∨ w = 4 ∨ w = 5 ∨ w = 6 ∨ w = 7 ∨ w = 8 := by omega
  rcases h1 with rfl | rfl | rfl | rfl | rfl | rfl | rfl | rfl <;> omega
theorem implAt_eq (w h : Int) (l : List Int) (r c : Int) (hw : 1 ≤ w ∧ w ≤ 8) (hh : 1 ≤ h ∧ h ≤ 8) (hl : (l.length : Int) = w * h) (hr : 0 ≤ r ∧ r < h) (hc : 0 ≤ c ∧ c < w) : impl_Chart_at.f w h l r c = some (atL w l r c) := by
  have b := at_bd hw hh hr hc
  unfold impl_Chart_at.f atL
  rw [wrap_id (x := r * w) (by omega) (by omega), wrap_id (by omega) (by omega), if_pos (by omega), if_pos (by omega)]
theorem specAt_eq (w h : Int) (l : List Int) (r c : Int) (hw : 1 ≤ w ∧ w ≤ 8) (hh : 1 ≤ h ∧ h ≤ 8) (hl : (l.length : Int) = w * h) (hr : 0 ≤ r ∧ r < h) (hc : 0 ≤ c ∧ c < w) : spec_l2At.f w h l r c = some (atL w l r c) := by
  have b := at_bd hw hh hr hc
  unfold spec_l2At.f atL
  rw [wrap_id (x := r * w) (by omega) (by omega), wrap_id (by omega) (by omega), if_pos (by omega), if_pos (by omega)]
/-- A chart whose sides and knots are in order. -/
def okC (w h : Int) (l : List Int) : Prop := (1 ≤ w ∧ w ≤ 8) ∧ (1 ≤ h ∧ h ≤ 8) ∧ (l.length : Int) = w * h
def turnL (w h : Int) (l : List Int) : List Int := gridL h.toNat w.toNat fun r c => atL w l (h - 1 - c) r
def mirrL (w h : Int) (l : List Int) : List Int := gridL w.toNat h.toNat fun r c => atL w l r (w - 1 - c)
theorem turnL_len {w h : Int} {l : List Int} (ok : okC w h l) : ((turnL w h l).length : Int) = h * w := by
  unfold turnL; rw [gridL_len]; obtain ⟨a, b, _⟩ := ok
  rw [Int.natCast_mul, Int.toNat_of_nonneg (by omega), Int.toNat_of_nonneg (by omega)]
theorem mirrL_len {w h : Int} {l : List Int} (ok : okC w h l) : ((mirrL w h l).length : Int) = w * h := by
  unfold mirrL; rw [gridL_len]; obtain ⟨a, b, _⟩ := ok
  rw [Int.natCast_mul, Int.toNat_of_nonneg (by omega), Int.toNat_of_nonneg (by omega)]
theorem turn_ok {w h : Int} {l : List Int} (ok : okC w h l) : okC h w (turnL w h l) := ⟨ok.2.1, ok.1, turnL_len ok⟩
theorem mirr_ok {w h : Int} {l : List Int} (ok : okC w h l) : okC w h (mirrL w h l) := ⟨ok.1, ok.2.1, mirrL_len ok⟩
theorem rounds_bd {w h : Int} (hw : 1 ≤ w ∧ w ≤ 8) (hh : 1 ≤ h ∧ h ≤ 8) : (h.toNat + 1) * (w.toNat + 2) ≤ 90 := by
  have h1 : h.toNat + 1 ≤ 9 := by omega
  have h2 : w.toNat + 2 ≤ 10 := by omega
  exact Nat.mul_le_mul h1 h2
theorem specTurn_eq {w h : Int} {l : List Int} (ok : okC w h l) (k : Nat) (hk : 90 ≤ k) : spec_l4Turn.f k w h l = some (h, w, turnL w h l) := by
  obtain ⟨hw, hh, hl⟩ := ok
  have := grid_loop (fun k row acc => spec_l4Turn.l0 k row w h l h w acc) (fun k row col acc => spec_l4Turn.l1 k row col w h l h w acc) (fun acc => some (h, w, acc)) h.toNat w.toNat (by omega) (by omega)
    (fun row col => spec_l2At.f w h l (wrap64 (wrap64 (h - 1) - col)) row) (fun r c => atL w l (h - 1 - c) r)
    (fun k row acc => by simp only [spec_l4Turn.l0]; rw [Int.toNat_of_nonneg (by omega)]) (fun k row col acc => by simp only [spec_l4Turn.l1]; rw [Int.toNat_of_nonneg (by omega)])
    (fun r c hr hc => by rw [wrap_id (x := h - 1) (by omega) (by omega), wrap_id (by omega) (by omega)]; exact specAt_eq w h l _ _ hw hh hl (by omega) (by omega)) k (Nat.le_trans (rounds_bd hh hw) hk)
  exact this
theorem implTurn_eq {w h : Int} {l : List Int} (ok : okC w h l) (k : Nat) (hk : 90 ≤ k) : impl_Chart_turned.f k w h l = some (h, w, turnL w h l) := by
  obtain ⟨hw, hh, hl⟩ := ok
  have := grid_loop (fun k row acc => impl_makeChart__Chart_turned_1.l0 k h w row w h l h w acc) (fun k row col acc => impl_makeChart__Chart_turned_1.l1 k h row w row h col w h l h w acc) (fun acc => some (h, w, acc)) h.toNat w.toNat (by omega) (by omega)
    (fun row col => impl_Chart_turned_1.f row col w h l) (fun r c => atL w l (h - 1 - c) r)
    (fun k row acc => by simp only [impl_makeChart__Chart_turned_1.l0]; rw [Int.toNat_of_nonneg (by omega)]) (fun k row col acc => by simp only [impl_makeChart__Chart_turned_1.l1]; rw [Int.toNat_of_nonneg (by omega)])
    (fun r c hr hc => by simp only [impl_Chart_turned_1.f]; rw [wrap_id (x := h - 1) (by omega) (by omega), wrap_id (by omega) (by omega), implAt_eq w h l _ _ hw hh hl (by omega) (by omega)]; rfl) k (Nat.le_trans (rounds_bd hh hw) hk)
  unfold impl_Chart_turned.f impl_makeChart__Chart_turned_1.f
  show (impl_makeChart__Chart_turned_1.l0 k h w 0 w h l h w []).bind _ = _
  rw [this]; rfl
theorem specMirr_eq {w h : Int} {l : List Int} (ok : okC w h l) (k : Nat) (hk : 90 ≤ k) : spec_l4Mirror.f k w h l = some (w, h, mirrL w h l) := by
  obtain ⟨hw, hh, hl⟩ := ok
  have := grid_loop (fun k row acc => spec_l4Mirror.l0 k row w h l w h acc) (fun k row col acc => spec_l4Mirror.l1 k row col w h l w h acc) (fun acc => some (w, h, acc)) w.toNat h.toNat (by omega) (by omega)
    (fun row col => spec_l2At.f w h l row (wrap64 (wrap64 (w - 1) - col))) (fun r c => atL w l r (w - 1 - c))
    (fun k row acc => by simp only [spec_l4Mirror.l0]; rw [Int.toNat_of_nonneg (by omega)]) (fun k row col acc => by simp only [spec_l4Mirror.l1]; rw [Int.toNat_of_nonneg (by omega)])
    (fun r c hr hc => by rw [wrap_id (x := w - 1) (by omega) (by omega), wrap_id (by omega) (by omega)]; exact specAt_eq w h l _ _ hw hh hl (by omega) (by omega)) k (Nat.le_trans (rounds_bd hw hh) hk)
  exact this
theorem implMirr_eq {w h : Int} {l : List Int} (ok : okC w h l) (k : Nat) (hk : 90 ≤ k) : impl_Chart_mirrored.f k w h l = some (w, h, mirrL w h l) := by
  obtain ⟨hw, hh, hl⟩ := ok
  have := grid_loop (fun k row acc => impl_makeChart__Chart_mirrored_1.l0 k w h row w h l w h acc) (fun k row col acc => impl_makeChart__Chart_mirrored_1.l1 k w row h row w col w h l w h acc) (fun acc => some (w, h, acc)) w.toNat h.toNat (by omega) (by omega)
    (fun row col => impl_Chart_mirrored_1.f row col w h l) (fun r c => atL w l r (w - 1 - c))
    (fun k row acc => by simp only [impl_makeChart__Chart_mirrored_1.l0]; rw [Int.toNat_of_nonneg (by omega)]) (fun k row col acc => by simp only [impl_makeChart__Chart_mirrored_1.l1]; rw [Int.toNat_of_nonneg (by omega)])
    (fun r c hr hc => by simp only [impl_Chart_mirrored_1.f]; rw [wrap_id (x := w - 1) (by omega) (by omega), wrap_id (by omega) (by omega), implAt_eq w h l _ _ hw hh hl (by omega) (by omega)]; rfl) k (Nat.le_trans (rounds_bd hw hh) hk)
  unfold impl_Chart_mirrored.f impl_makeChart__Chart_mirrored_1.f
  show (impl_makeChart__Chart_mirrored_1.l0 k w h 0 w h l w h []).bind _ = _
  rw [this]; rfl
def turns : Nat → Int → Int → List Int → Int × Int × List Int
  | 0, w, h, l => (w, h, l)
  | n + 1, w, h, l => turns n h w (turnL w h l)
def moveR (w h : Int) (l : List Int) (s : Int) : Int × Int × List Int := if s ≥ 4 then turns (s % 4).toNat w h (mirrL w h l) else turns (s % 4).toNat w h l
theorem turns_ok (n : Nat) : ∀ {w h : Int} {l : List Int}, okC w h l → okC (turns n w h l).1 (turns n w h l).2.1 (turns n w h l).2.2 := by
  induction n with
  | zero => intro w h l ok; exact ok
  | succ n ih => intro w h l ok; exact ih (turn_ok ok)
theorem move_ok {w h : Int} {l : List Int} (s : Int) (ok : okC w h l) : okC (moveR w h l s).1 (moveR w h l s).2.1 (moveR w h l s).2.2 := by
  unfold moveR; split
  · exact turns_ok _ (mirr_ok ok)
  · exact turns_ok _ ok
theorem good_ok {w h : Int} {l : List Int} (hg : goodB w h l = true) : okC w h l := ⟨(good_of hg).1, (good_of hg).2.1, (good_of hg).2.2.1⟩
theorem tmod4 {s : Int} (hs : 0 ≤ s) : Int.tmod s 4 = s % 4 := Int.tmod_eq_emod_of_nonneg hs
theorem okC_len {w h : Int} {l : List Int} (ok : okC w h l) : l.length ≤ 64 := by have := mul_bd ok.1 ok.2.1; have := ok.2.2; omega
theorem specMove_l (s : Int) (hs : 0 ≤ s) : ∀ (d k i : Nat) (w h : Int) (l : List Int), okC w h l → (i : Int) + d = s % 4 → 90 + d < k → spec_l4Move.l0 k s i w h l = some (turns d w h l) := by
  intro d
  induction d with
  | zero => intro k i w h l ok h1 h2; obtain ⟨k, rfl⟩ := succ_of (show 0 < k by omega); simp only [spec_l4Move.l0]; rw [tmod4 hs, if_neg (by omega)]; rfl
  | succ d ih =>
    intro k i w h l ok h1 h2
    obtain ⟨k, rfl⟩ := succ_of (show 0 < k by omega)
    simp only [spec_l4Move.l0]; rw [tmod4 hs, if_pos (by omega), specTurn_eq ok k (by omega)]
    simp only [Option.bind_some]
    rw [wrap_id (by omega) (by omega), show ((i : Int) + 1) = ((i + 1 : Nat) : Int) by omega]
    exact ih k (i + 1) h w _ (turn_ok ok) (by omega) (by omega)
theorem specMove_eq {w h : Int} {l : List Int} {s : Int} (ok : okC w h l) (hs : 0 ≤ s) (k : Nat) (hk : 100 ≤ k) : spec_l4Move.f k w h l s = some (moveR w h l s) := by
  have hl := okC_len ok
  obtain ⟨k, rfl⟩ := succ_of (show 0 < k by omega)
  have h4 : ((s % 4).toNat : Int) = s % 4 := Int.toNat_of_nonneg (by omega)
  unfold spec_l4Move.f moveR
  rw [l2Own_eq w h l (by omega)]
  simp only [Option.bind_some]
  split
  · rw [specMirr_eq ok _ (by omega)]; simp only [Option.bind_some, spec_l4Move.j0]
    exact specMove_l s hs (s % 4).toNat k 0 w h _ (mirr_ok ok) (by omega) (by omega)
  · simp only [spec_l4Move.j0]
    exact specMove_l s hs (s % 4).toNat k 0 w h _ ok (by omega) (by omega)
theorem implMove_l (s : Int) : ∀ (d k i : Nat) (w h : Int) (l : List Int), okC w h l → (i : Int) + d = s % 4 → 90 + d < k → impl_Chart_moved.l0 k (s % 4) i w h l = some (turns d w h l) := by
  intro d
  induction d with
  | zero => intro k i w h l ok h1 h2; obtain ⟨k, rfl⟩ := succ_of (show 0 < k by omega); simp only [impl_Chart_moved.l0]; rw [if_neg (by omega)]; rfl
  | succ d ih =>
    intro k i w h l ok h1 h2
    obtain ⟨k, rfl⟩ := succ_of (show 0 < k by omega)
    simp only [impl_Chart_moved.l0]; rw [if_pos (by omega), implTurn_eq ok k (by omega)]
    simp only [Option.bind_some]
    rw [wrap_id (by omega) (by omega), show ((i : Int) + 1) = ((i + 1 : Nat) : Int) by omega]
    exact ih k (i + 1) h w _ (turn_ok ok) (by omega) (by omega)
theorem implMove_eq {w h : Int} {l : List Int} {s : Int} (ok : okC w h l) (hs : 0 ≤ s) (k : Nat) (hk : 100 ≤ k) : impl_Chart_moved.f k w h l s = some (moveR w h l s) := by
  have hl := okC_len ok
  obtain ⟨k, rfl⟩ := succ_of (show 0 < k by omega)
  have h4 : ((s % 4).toNat : Int) = s % 4 := Int.toNat_of_nonneg (by omega)
  unfold impl_Chart_moved.f moveR
  rw [copied_eq w h l (by omega)]
  simp only [Option.bind_some]
  split
  · rw [implMirr_eq ok _ (by omega)]; simp only [Option.bind_some, impl_Chart_moved.j0]; rw [tmod4 hs]
    exact implMove_l s (s % 4).toNat k 0 w h _ (mirr_ok ok) (by omega) (by omega)
  · simp only [impl_Chart_moved.j0]; rw [tmod4 hs]
    exact implMove_l s (s % 4).toNat k 0 w h _ ok (by omega) (by omega)
theorem eq_scan (a b : List Int) (n : Nat) (ha : a.length = n) (hb : b.length = n) (hn : n ≤ 35184372088832) (L : Nat → Int → Option Bool)
    (hL : ∀ k (i : Nat), i < n → L (k + 1) i = if rd a i = rd b i then L k (wrap64 ((i : Int) + 1)) else some false) (hE : ∀ k, L (k + 1) n = some true) : ∀ k, n < k → L k 0 = some (decide (a = b)) := by
  have go : ∀ (d k i : Nat), i + d = n → d < k → (∀ j, j < i → a[j]? = b[j]?) → L k i = some (decide (a = b)) := by
    intro d
    induction d with
    | zero =>
      intro k i h1 h2 h3
      obtain ⟨k, rfl⟩ := succ_of h2
      have : i = n := by omega
      subst this
      rw [hE]
      have : a = b := List.ext_getElem? fun j => by
        by_cases hj : j < i
        · exact h3 j hj
        · rw [List.getElem?_eq_none (by omega), List.getElem?_eq_none (by omega)]
      rw [this]; simp
    | succ d ih =>
      intro k i h1 h2 h3
      obtain ⟨k, rfl⟩ := succ_of (Nat.lt_of_le_of_lt (Nat.zero_le _) h2)
      rw [hL k i (by omega), rd_get a i (by omega), rd_get b i (by omega), wrap_id (by omega) (by omega)]
      by_cases e : a[i] = b[i]
      · rw [if_pos e, show ((i : Int) + 1) = ((i + 1 : Nat) : Int) by omega]
        refine ih k (i + 1) (by omega) (by omega) fun j hj => ?_
        by_cases e2 : j = i
        · subst e2; rw [List.getElem?_eq_getElem (by omega), List.getElem?_eq_getElem (by omega), e]
        · exact h3 j (by omega)
      · rw [if_neg e]
        have : ¬ a = b := by rintro rfl; exact e rfl
        simp [this]
  intro k hk
  exact go n k 0 (by omega) hk (fun j hj => by omega)
theorem specSame_eq {w h w' h' : Int} {l l' : List Int} (ok : okC w h l) (ok' : okC w' h' l') (k : Nat) (hk : 70 ≤ k) : spec_l4Same.f k w h l w' h' l' = some (decide ((w, h, l) = (w', h', l'))) := by
  unfold spec_l4Same.f
  obtain ⟨k, rfl⟩ := succ_of (show 0 < k by omega)
  by_cases e1 : w = w'
  · rw [if_pos e1]
    simp only [spec_l4Same.j0]
    by_cases e2 : h = h'
    · subst e1; subst e2
      have hb := mul_bd ok.1 ok.2.1
      have := eq_scan l l' l.length rfl (by have := ok.2.2; have := ok'.2.2; omega) (by have := ok.2.2; omega) (fun k i => spec_l4Same.l0 k i w h l w h l')
        (fun k i hi => by simp only [spec_l4Same.l0]; rw [if_pos (by omega), if_pos (by omega), if_pos (by have := ok.2.2; have := ok'.2.2; omega)])
        (fun k => by simp only [spec_l4Same.l0]; rw [if_neg (by omega)]) k (by have := ok.2.2; omega)
      simp only [bne_self_eq_false, Bool.false_eq_true, if_false]
      rw [this]; simp
    · have : (h != h') = true := by simp [e2]
      rw [if_pos this]; simp [e2]
  · rw [if_neg e1]; simp [spec_l4Same.j0, e1]
theorem implSame_eq {w h w' h' : Int} {l l' : List Int} (ok : okC w h l) (ok' : okC w' h' l') (k : Nat) (hk : 70 ≤ k) : impl_sameChart.f k w h l w' h' l' = some (decide ((w, h, l) = (w', h', l'))) := by
  unfold impl_sameChart.f
  by_cases e1 : w = w'
  · rw [if_pos e1]
    by_cases e2 : h = h'
    · rw [if_pos e2]; subst e1; subst e2
      have hb := mul_bd ok.1 ok.2.1
      have := eq_scan l l' l.length rfl (by have := ok.2.2; have := ok'.2.2; omega) (by have := ok.2.2; omega) (fun k i => slices_Equal_int_int.l0 k l l' l.length i)
        (fun k i hi => by simp only [slices_Equal_int_int.l0]; rw [if_pos (by omega), if_pos (by omega), if_pos (by omega), if_pos (by have := ok.2.2; have := ok'.2.2; omega)])
        (fun k => by simp only [slices_Equal_int_int.l0]; rw [if_neg (by omega)]) k (by have := ok.2.2; omega)
      unfold slices_Equal_int_int.f
      rw [if_pos (by have := ok.2.2; have := ok'.2.2; omega), this]; simp
    · rw [if_neg e2]; simp [e2]
  · rw [if_neg e1]; simp [e1]
def partL (w : Int) (l : List Int) (R C H W : Int) : List Int := gridL W.toNat H.toNat (fun r c => atL w l (R + r) (C + c))
theorem part_ok (w : Int) (l : List Int) (R C H W : Int) (hW : 1 ≤ W ∧ W ≤ 8) (hH : 1 ≤ H ∧ H ≤ 8) : okC W H (partL w l R C H W) := by
  refine ⟨hW, hH, ?_⟩
  unfold partL; rw [gridL_len, Int.natCast_mul, Int.toNat_of_nonneg (by omega), Int.toNat_of_nonneg (by omega)]
theorem implPart_eq {w h : Int} {l : List Int} (ok : okC w h l) (R C H W : Int) (hW : 1 ≤ W) (hH : 1 ≤ H) (hR : 0 ≤ R) (hC : 0 ≤ C) (hRH : R + H ≤ h) (hCW : C + W ≤ w) (k : Nat) (hk : 90 ≤ k) : impl_Chart_part.f k w h l R C H W = some (W, H, partL w l R C H W) := by
  obtain ⟨hw, hh, hl⟩ := ok
  have := grid_loop (fun k row acc => impl_makeChart__Chart_part_1.l0 k W H row w h l R C W H acc) (fun k row col acc => impl_makeChart__Chart_part_1.l1 k W row H row W col w h l R C W H acc) (fun acc => some (W, H, acc)) W.toNat H.toNat (by omega) (by omega)
    (fun row col => impl_Chart_part_1.f row col w h l R C) (fun r c => atL w l (R + r) (C + c))
    (fun k row acc => by simp only [impl_makeChart__Chart_part_1.l0]; rw [Int.toNat_of_nonneg (by omega)]) (fun k row col acc => by simp only [impl_makeChart__Chart_part_1.l1]; rw [Int.toNat_of_nonneg (by omega)])
    (fun r c hr hc => by simp only [impl_Chart_part_1.f]; rw [wrap_id (x := R + r) (by omega) (by omega), wrap_id (x := C + c) (by omega) (by omega), implAt_eq w h l _ _ hw hh hl (by omega) (by omega)]; rfl) k (Nat.le_trans (rounds_bd (by omega) (by omega)) hk)
  unfold impl_Chart_part.f impl_makeChart__Chart_part_1.f
  show (impl_makeChart__Chart_part_1.l0 k W H 0 w h l R C W H []).bind _ = _
  rw [this]; rfl
theorem specPart_eq {w h : Int} {l : List Int} (ok : okC w h l) (R C H W : Int) (hW : 1 ≤ W) (hH : 1 ≤ H) (hR : 0 ≤ R) (hC : 0 ≤ C) (hRH : R + H ≤ h) (hCW : C + W ≤ w) (k : Nat) (hk : 90 ≤ k) : spec_l2Part.f k w h l R C H W = some (W, H, partL w l R C H W) := by
  obtain ⟨hw, hh, hl⟩ := ok
  have := grid_loop2 (fun k row acc => spec_l2Part.l0 k R C H W (R + row) w h l W H acc) (fun k row col acc => spec_l2Part.l1 k R C H W (R + row) (C + col) w h l W H acc) (fun acc => some (W, H, acc)) W.toNat H.toNat (by omega) (by omega)
    (fun row col => spec_l2At.f w h l (R + row) (C + col)) (fun r c => atL w l (R + r) (C + c))
    (fun k row acc hr => by
      simp only [spec_l2Part.l0]; rw [wrap_id (x := R + H) (by omega) (by omega)]
      by_cases e : (row : Int) < (H.toNat : Int)
      · rw [if_pos e, if_pos (by omega), Int.add_zero]
      · rw [if_neg e, if_neg (by omega)])
    (fun k row col acc hr hc => by
      simp only [spec_l2Part.l1]; rw [wrap_id (x := C + W) (by omega) (by omega), wrap_id (x := C + col + 1) (by omega) (by omega), wrap_id (x := R + row + 1) (by omega) (by omega), wrap_id (x := (col : Int) + 1) (by omega) (by omega), wrap_id (x := (row : Int) + 1) (by omega) (by omega), Int.add_assoc, Int.add_assoc]
      by_cases e : (col : Int) < (W.toNat : Int)
      · rw [if_pos e, if_pos (by omega)]
      · rw [if_neg e, if_neg (by omega)])
    (fun r c hr hc => specAt_eq w h l _ _ hw hh hl (by omega) (by omega)) k (Nat.le_trans (rounds_bd (by omega) (by omega)) hk)
  unfold spec_l2Part.f
  rw [Int.add_zero] at this
  exact this
def colsR (m : Int → Int → Bool) : Nat → Int → Int → List S112 → List S112
  | 0, _, _, acc => acc
  | d + 1, row, col, acc => colsR m d row (col + 1) (if m row col = true then acc ++ [(⟨row, col⟩ : S112)] else acc)
def rowsR (m : Int → Int → Bool) (nc : Nat) : Nat → Int → List S112 → List S112
  | 0, _, acc => acc
  | d + 1, row, acc => rowsR m nc d (row + 1) (colsR m nc row 0 acc)
theorem colsR_len (m : Int → Int → Bool) : ∀ (d : Nat) (row col : Int) (acc : List S112), (colsR m d row col acc).length ≤ acc.length + d := by
  intro d
  induction d with
  | zero => intro row col acc; simp [colsR]
  | succ d ih => intro row col acc; simp only [colsR]; refine Nat.le_trans (ih _ _ _) ?_; split <;> simp <;> omega
theorem rowsR_len (m : Int → Int → Bool) (nc : Nat) : ∀ (d : Nat) (row : Int) (acc : List S112), (rowsR m nc d row acc).length ≤ acc.length + d * nc := by
  intro d
  induction d with
  | zero => intro row acc; simp [rowsR]
  | succ d ih => intro row acc; simp only [rowsR]; refine Nat.le_trans (ih _ _) ?_; have := colsR_len m nc row 0 acc; rw [Nat.add_mul]; omega
/-- Two loops over all places of a window. -/
theorem places_loop (L0 : Nat → List S112 → Int → Option (List S112)) (L1 : Nat → List S112 → Int → Int → Option (List S112)) (w h mw mh : Int) (m : Int → Int → Bool) (hw : 1 ≤ w ∧ w ≤ 8) (hh : 1 ≤ h ∧ h ≤ 8) (hmw : 1 ≤ mw ∧ mw ≤ 8) (hmh : 1 ≤ mh ∧ mh ≤ 8)
    (h0 : ∀ k acc row, L0 (k + 1) acc row = if wrap64 (row + mh) ≤ h then L1 k acc row 0 else some acc)
    (h1 : ∀ k acc row col, 100 ≤ k → 0 ≤ row → row + mh ≤ h → 0 ≤ col → col ≤ 8 → L1 (k + 1) acc row col = if wrap64 (col + mw) ≤ w then (if m row col = true then (if acc.length < 8796093022208 then L1 k (acc ++ [(⟨row, col⟩ : S112)]) row (wrap64 (col + 1)) else none) else L1 k acc row (wrap64 (col + 1))) else L0 k acc (wrap64 (row + 1))) :
    ∀ k, 300 ≤ k → L0 k [] 0 = some (rowsR m (w - mw + 1).toNat (h - mh + 1).toNat 0 []) := by
  have row_ : ∀ (d k : Nat) (row col : Int) (acc : List S112), 0 ≤ row → row + mh ≤ h → 0 ≤ col → col + d = max (w - mw + 1) 0 → acc.length + d ≤ 1000 → 100 + d < k → ∃ k', k' + d + 1 = k ∧ L1 k acc row col = L0 k' (colsR m d row col acc) (row + 1) := by
    intro d
    induction d with
    | zero =>
      intro k row col acc hr hr2 hc hd hl hk
      obtain ⟨k, rfl⟩ := succ_of (show 0 < k by omega)
      refine ⟨k, rfl, ?_⟩
      rw [h1 k acc row col (by omega) hr hr2 hc (by omega), wrap_id (x := col + mw) (by omega) (by omega), if_neg (by omega), wrap_id (by omega) (by omega)]; rfl
    | succ d ih =>
      intro k row col acc hr hr2 hc hd hl hk
      obtain ⟨k, rfl⟩ := succ_of (show 0 < k by omega)
      rw [h1 k acc row col (by omega) hr hr2 hc (by omega), wrap_id (x := col + mw) (by omega) (by omega), if_pos (by omega), wrap_id (x := col + 1) (by omega) (by omega)]
      simp only [colsR]
      by_cases e : m row col = true
      · rw [if_pos e, if_pos (by omega), if_pos e]
        obtain ⟨k', e1, e2⟩ := ih k row (col + 1) (acc ++ [(⟨row, col⟩ : S112)]) hr hr2 (by omega) (by omega) (by simp; omega) (by omega)
        exact ⟨k', by omega, e2⟩
      · rw [if_neg e, if_neg e]
        obtain ⟨k', e1, e2⟩ := ih k row (col + 1) acc hr hr2 (by omega) (by omega) (by omega) (by omega)
        exact ⟨k', by omega, e2⟩
  have all_ : ∀ (d k : Nat) (row : Int) (acc : List S112), 0 ≤ row → row + d = max (h - mh + 1) 0 → acc.length + 8 * d ≤ 500 → 110 + 11 * d ≤ k → L0 k acc row = some (rowsR m (w - mw + 1).toNat d row acc) := by
    intro d
    induction d with
    | zero =>
      intro k row acc hr hd hl hk
      obtain ⟨k, rfl⟩ := succ_of (show 0 < k by omega)
      rw [h0, wrap_id (by omega) (by omega), if_neg (by omega)]; rfl
    | succ d ih =>
      intro k row acc hr hd hl hk
      obtain ⟨k, rfl⟩ := succ_of (show 0 < k by omega)
      rw [h0, wrap_id (by omega) (by omega), if_pos (by omega)]
      obtain ⟨k', e1, e2⟩ := row_ (w - mw + 1).toNat k row 0 acc hr (by omega) (by omega) (by omega) (by omega) (by omega)
      rw [e2]
      have hcl := colsR_len m (w - mw + 1).toNat row 0 acc
      rw [ih k' (row + 1) _ (by omega) (by omega) (by omega) (by omega)]
      rfl
  intro k hk
  exact all_ _ k 0 [] (by omega) (by omega) (by simp; omega) (by omega)
def placesR (w h : Int) (l : List Int) (mw mh : Int) (ml : List Int) : List S112 := rowsR (fun r c => decide (partL w l r c mh mw = ml)) (w - mw + 1).toNat (h - mh + 1).toNat 0 []
theorem placesR_len {w h : Int} {l : List Int} {mw mh : Int} {ml : List Int} (ok : okC w h l) (okm : okC mw mh ml) : (placesR w h l mw mh ml).length ≤ 64 := by
  unfold placesR
  refine Nat.le_trans (rowsR_len _ _ _ _ _) ?_
  have a := ok.1; have b := ok.2.1; have c := okm.1; have d := okm.2.1
  have h1 : (w - mw + 1).toNat ≤ 8 := by omega
  have h2 : (h - mh + 1).toNat ≤ 8 := by omega
  have := Nat.mul_le_mul h2 h1
  simpa using this
theorem specPlaces_eq {w h : Int} {l : List Int} {mw mh : Int} {ml : List Int} (ok : okC w h l) (okm : okC mw mh ml) (k : Nat) (hk : 300 ≤ k) : spec_l6Places.f k w h l mw mh ml = some (placesR w h l mw mh ml) := by
  unfold spec_l6Places.f placesR
  refine places_loop (fun k acc row => spec_l6Places.l0 k acc row w h l mw mh ml) (fun k acc row col => spec_l6Places.l1 k acc row col w h l mw mh ml) w h mw mh _ ok.1 ok.2.1 okm.1 okm.2.1 (fun k acc row => by simp only [spec_l6Places.l0]) ?_ k hk
  intro k acc row col hk hr hr2 hc hc8
  have a := ok.1; have b := okm.1; have b2 := okm.2.1
  simp only [spec_l6Places.l1]
  rw [wrap_id (x := col + mw) (by omega) (by omega)]
  by_cases e : col + mw ≤ w
  · rw [if_pos e, if_pos e, specPart_eq ok row col mh mw b.1 b2.1 hr hc hr2 e k (by omega)]; simp only [Option.bind_some]
    rw [specSame_eq okm (part_ok w l row col mh mw b b2) k (by omega)]; simp only [Option.bind_some]
    congr 1
    simp only [Prod.mk.injEq, true_and, decide_eq_true_eq]
    exact propext ⟨fun h => h.symm, fun h => h.symm⟩
  · rw [if_neg e, if_neg e]
theorem implPlaces_eq {w h : Int} {l : List Int} {mw mh : Int} {ml : List Int} (ok : okC w h l) (okm : okC mw mh ml) (k : Nat) (hk : 300 ≤ k) : impl_Chart_places.f k w h l mw mh ml = some (placesR w h l mw mh ml) := by
  unfold impl_Chart_places.f placesR
  refine places_loop (fun k acc row => impl_Chart_places.l0 k acc row w h l mw mh ml) (fun k acc row col => impl_Chart_places.l1 k acc row col w h l mw mh ml) w h mw mh _ ok.1 ok.2.1 okm.1 okm.2.1 (fun k acc row => by simp only [impl_Chart_places.l0]) ?_ k hk
  intro k acc row col hk hr hr2 hc hc8
  have a := ok.1; have b := okm.1; have b2 := okm.2.1
  simp only [impl_Chart_places.l1]
  rw [wrap_id (x := col + mw) (by omega) (by omega)]
  by_cases e : col + mw ≤ w
  · rw [if_pos e, if_pos e, implPart_eq ok row col mh mw b.1 b2.1 hr hc hr2 e k (by omega)]; simp only [Option.bind_some]
    rw [implSame_eq (part_ok w l row col mh mw b b2) okm k (by omega)]; simp only [Option.bind_some]
    congr 1
    simp only [Prod.mk.injEq, true_and, decide_eq_true_eq]
  · rw [if_neg e, if_neg e]
def sameB (m : Int × Int × List Int) (d : S26) : Bool := decide ((d.f0, d.f1, d.f2) = m)
/-- What both count. -/
def anyR (w h : Int) (l : List Int) (mw mh : Int) (ml : List Int) : Nat → Int → List S26 → Int → Int
  | 0, _, _, n => n
  | d + 1, s, met, n => if met.any (sameB (moveR mw mh ml s)) = true then anyR w h l mw mh ml d (s + 1) met n else anyR w h l mw mh ml d (s + 1) (met ++ [(⟨(moveR mw mh ml s).1, (moveR mw mh ml s).2.1, (moveR mw mh ml s).2.2⟩ : S26)]) (n + ((placesR w h l (moveR mw mh ml s).1 (moveR mw mh ml s).2.1 (moveR mw mh ml s).2.2).length : Int))
theorem rdC_get (l : List S26) (i : Nat) (h : i < l.length) : rd_T26 l (i : Int) = l[i] := by
  unfold rd_T26; rw [Int.toNat_natCast, List.getD_eq_getElem?_getD, List.getElem?_eq_getElem h]; rfl
def okM (met : List S26) : Prop := ∀ d ∈ met, okC d.f0 d.f1 d.f2
theorem okM_snoc {met : List S26} {a b : Int} {c : List Int} (h : okM met) (hc : okC a b c) : okM (met ++ [(⟨a, b, c⟩ : S26)]) := by
  intro d hd; rw [List.mem_append, List.mem_singleton] at hd
  rcases hd with hd | rfl
  · exact h d hd
  · exact hc
theorem drop_any {met : List S26} (p : S26 → Bool) (i : Nat) (h : i < met.length) : (met.drop i).any p = (p met[i] || (met.drop (i + 1)).any p) := by
  rw [List.drop_eq_getElem_cons h]; rfl
theorem specKnown {w h : Int} {l : List Int} {mw mh : Int} {ml : List Int} (met : List S26) (hm : okM met) (hl : met.length ≤ 100) (a b : Int) (c : List Int) (hc : okC a b c) (n s : Int) : ∀ (d k i : Nat) (x : Bool), i + d = met.length → 100 + d < k → ∃ k', k' + d = k ∧ spec_AnyWayPlaces.l1 k met n s x i w h l mw mh ml a b c = spec_AnyWayPlaces.l1 k' met n s (x || (met.drop i).any (sameB (a, b, c))) met.length w h l mw mh ml a b c := by
  intro d
  induction d with
  | zero => intro k i x h1 h2; refine ⟨k, rfl, ?_⟩; rw [List.drop_of_length_le (by omega), show i = met.length by omega]; simp
  | succ d ih =>
    intro k i x h1 h2
    obtain ⟨k, rfl⟩ := succ_of (show 0 < k by omega)
    conv => enter [1, k', 2, 1]; simp only [spec_AnyWayPlaces.l1]
    rw [if_pos (by omega), wrap_id (by omega) (by omega), rdC_get met i (by omega), drop_any _ i (by omega)]
    by_cases e : x = true
    · rw [if_pos e]
      obtain ⟨k', e1, e2⟩ := ih k (i + 1) true (by omega) (by omega)
      refine ⟨k', by omega, ?_⟩
      rw [show ((i : Int) + 1) = ((i + 1 : Nat) : Int) by omega, e2, e]; simp
    · rw [if_neg e, if_pos (by omega), specSame_eq (hm _ (List.getElem_mem _)) hc k (by omega)]; simp only [Option.bind_some]
      obtain ⟨k', e1, e2⟩ := ih k (i + 1) (decide ((met[i].f0, met[i].f1, met[i].f2) = (a, b, c))) (by omega) (by omega)
      refine ⟨k', by omega, ?_⟩
      rw [show ((i : Int) + 1) = ((i + 1 : Nat) : Int) by omega, e2]
      have : x = false := by simpa using e
      rw [this]; rfl
theorem specAny_l {w h : Int} {l : List Int} {mw mh : Int} {ml : List Int} (ok : okC w h l) (okm : okC mw mh ml) : ∀ (d k : Nat) (s : Int) (met : List S26) (n : Int), s + d = 8 → 0 ≤ s → okM met → met.length + d ≤ 8 → 0 ≤ n → n + 64 * d ≤ 600 → 400 + 20 * d ≤ k → spec_AnyWayPlaces.l0 k met n s w h l mw mh ml = some (anyR w h l mw mh ml d s met n, true) := by
  intro d
  induction d with
  | zero => intro k s met n h1 h2 h3 h4 h5 h6 h7; obtain ⟨k, rfl⟩ := succ_of (show 0 < k by omega); simp only [spec_AnyWayPlaces.l0]; rw [if_neg (by omega)]; rfl
  | succ d ih =>
    intro k s met n h1 h2 h3 h4 h5 h6 h7
    obtain ⟨k, rfl⟩ := succ_of (show 0 < k by omega)
    simp only [spec_AnyWayPlaces.l0]; rw [if_pos (by omega), specMove_eq okm h2 k (by omega)]; simp only [Option.bind_some]
    have hmv := move_ok s okm
    obtain ⟨k', e1, e2⟩ := specKnown (w := w) (h := h) (l := l) (mw := mw) (mh := mh) (ml := ml) met h3 (by omega) _ _ _ hmv n s met.length k 0 false (by omega) (by omega)
    rw [show ((0 : Nat) : Int) = 0 from rfl] at e2
    rw [e2]
    obtain ⟨k', rfl⟩ := succ_of (show 0 < k' by omega)
    simp only [spec_AnyWayPlaces.l1, List.drop_zero, Bool.false_or]
    rw [if_neg (by omega), wrap_id (x := s + 1) (by omega) (by omega)]
    simp only [anyR]
    by_cases e : met.any (sameB (moveR mw mh ml s)) = true
    · rw [if_pos e, if_pos e]; exact ih k' (s + 1) met n (by omega) (by omega) h3 (by omega) h5 (by omega) (by omega)
    · rw [if_neg e, if_neg e, if_pos (by omega), specPlaces_eq ok hmv k' (by omega)]; simp only [Option.bind_some]
      have hp := placesR_len ok hmv
      rw [wrap_id (by omega) (by omega)]
      exact ih k' (s + 1) _ _ (by omega) (by omega) (okM_snoc h3 hmv) (by simp; omega) (by omega) (by omega) (by omega)
theorem implIdx (met : List S26) (hm : okM met) (hl : met.length ≤ 100) (a b : Int) (c : List Int) (hc : okC a b c) : ∀ (d k i : Nat), i + d = met.length → 100 + d < k → (met.take i).any (sameB (a, b, c)) = false → ∃ r, impl_Chart__Chart_1__AnyWayPlaces_1_2.l0 k met met.length i a b c = some r ∧ decide (r ≥ 0) = met.any (sameB (a, b, c)) := by
  intro d
  induction d with
  | zero =>
    intro k i h1 h2 h3
    obtain ⟨k, rfl⟩ := succ_of (show 0 < k by omega)
    refine ⟨-1, by simp only [impl_Chart__Chart_1__AnyWayPlaces_1_2.l0]; rw [if_neg (by omega)], ?_⟩
    rw [List.take_of_length_le (by omega)] at h3; rw [h3]; rfl
  | succ d ih =>
    intro k i h1 h2 h3
    obtain ⟨k, rfl⟩ := succ_of (show 0 < k by omega)
    simp only [impl_Chart__Chart_1__AnyWayPlaces_1_2.l0]
    rw [if_pos (by omega), if_pos (by omega), if_pos (by omega), rdC_get met i (by omega)]
    unfold impl_Chart_1__AnyWayPlaces_1.f impl_AnyWayPlaces_1.f
    rw [implSame_eq (hm _ (List.getElem_mem _)) hc k (by omega)]; simp only [Option.bind_some, Bool.not_not]
    by_cases e : decide ((met[i].f0, met[i].f1, met[i].f2) = (a, b, c)) = true
    · rw [if_pos e]
      refine ⟨_, rfl, ?_⟩
      have : met.any (sameB (a, b, c)) = true := List.any_eq_true.2 ⟨met[i], List.getElem_mem _, e⟩
      rw [this]; simp
    · rw [if_neg e, wrap_id (by omega) (by omega)]
      refine ih k (i + 1) (by omega) (by omega) ?_
      rw [List.take_succ_eq_append_getElem (by omega), List.any_append, h3]
      simpa [sameB] using e
theorem implKnown (met : List S26) (hm : okM met) (hl : met.length ≤ 100) (a b : Int) (c : List Int) (hc : okC a b c) (k : Nat) (hk : 100 + met.length < k) : impl_Chart__AnyWayPlaces_1.f k met a b c = some (!met.any (sameB (a, b, c))) := by
  obtain ⟨r, h1, h2⟩ := implIdx met hm hl a b c hc met.length k 0 (by omega) hk (by simp)
  unfold impl_Chart__AnyWayPlaces_1.f impl_Chart__Chart_1__AnyWayPlaces_1.f impl_Chart__Chart_1__AnyWayPlaces_1_2.f
  rw [show (0 : Int) = ((0 : Nat) : Int) from rfl, h1]; simp only [Option.bind_some]
  rw [show decide (r ≥ ((0 : Nat) : Int)) = decide (r ≥ 0) from rfl, h2]
theorem implAny_l {w h : Int} {l : List Int} {mw mh : Int} {ml : List Int} (ok : okC w h l) (okm : okC mw mh ml) : ∀ (d k : Nat) (s : Int) (met : List S26) (n : Int), s + d = 8 → 0 ≤ s → okM met → met.length + d ≤ 8 → 0 ≤ n → n + 64 * d ≤ 600 → 400 + 20 * d ≤ k → impl_AnyWayPlaces.l0 k n met s w h l mw mh ml = some (anyR w h l mw mh ml d s met n, true) := by
  intro d
  induction d with
  | zero => intro k s met n h1 h2 h3 h4 h5 h6 h7; obtain ⟨k, rfl⟩ := succ_of (show 0 < k by omega); simp only [impl_AnyWayPlaces.l0]; rw [if_neg (by omega)]; rfl
  | succ d ih =>
    intro k s met n h1 h2 h3 h4 h5 h6 h7
    obtain ⟨k, rfl⟩ := succ_of (show 0 < k by omega)
    simp only [impl_AnyWayPlaces.l0]; rw [if_pos (by omega), implMove_eq okm h2 k (by omega)]; simp only [Option.bind_some]
    have hmv := move_ok s okm
    rw [implKnown met h3 (by omega) _ _ _ hmv k (by omega)]; simp only [Option.bind_some]
    rw [wrap_id (x := s + 1) (by omega) (by omega)]
    simp only [anyR]
    by_cases e : met.any (sameB (moveR mw mh ml s)) = true
    · rw [if_neg (by rw [e]; simp), if_pos e]; exact ih k (s + 1) met n (by omega) (by omega) h3 (by omega) h5 (by omega) (by omega)
    · have e' : met.any (sameB (moveR mw mh ml s)) = false := by simpa using e
      rw [if_pos (by rw [e']; rfl), if_neg e, if_pos (by omega), implPlaces_eq ok hmv k (by omega)]; simp only [Option.bind_some]
      have hp := placesR_len ok hmv
      rw [wrap_id (x := n + _) (by omega) (by omega)]
      exact ih k (s + 1) _ _ (by omega) (by omega) (okM_snoc h3 hmv) (by simp; omega) (by omega) (by omega) (by omega)
theorem both (w h : Int) (l : List Int) (mw mh : Int) (ml : List Int) (hl : l.length ≤ 4194304) (hml : ml.length ≤ 4194304) : ∃ r0 r1 k0, (∀ k, k0 ≤ k → spec_AnyWayPlaces.f k w h l mw mh ml = some (r0, r1)) ∧ (∀ k, k0 ≤ k → impl_AnyWayPlaces.f k w h l mw mh ml = some (r0, r1)) := by
  by_cases e : goodB w h l = true
  · by_cases e2 : goodB mw mh ml = true
    · refine ⟨anyR w h l mw mh ml 8 0 [] 0, true, l.length + ml.length + 1000, fun k hk => ?_, fun k hk => ?_⟩
      · unfold spec_AnyWayPlaces.f; simp only [l2Good_eq w h l (by omega) k (by omega), l2Good_eq mw mh ml (by omega) k (by omega), Option.bind_some, e, e2, if_true]
        obtain ⟨k, rfl⟩ := succ_of (show 0 < k by omega)
        simp only [spec_AnyWayPlaces.j0, Bool.not_true, Bool.false_eq_true, if_false]
        exact specAny_l (good_ok e) (good_ok e2) 8 k 0 [] 0 (by omega) (by omega) (by intro d hd; simp at hd) (by simp) (by omega) (by omega) (by omega)
      · unfold impl_AnyWayPlaces.f; simp only [isChart_eq w h l (by omega) k (by omega), isChart_eq mw mh ml (by omega) k (by omega), Option.bind_some, e, e2, if_true]
        obtain ⟨k, rfl⟩ := succ_of (show 0 < k by omega)
        simp only [impl_AnyWayPlaces.j0, Bool.not_true, Bool.false_eq_true, if_false]
        exact implAny_l (good_ok e) (good_ok e2) 8 k 0 [] 0 (by omega) (by omega) (by intro d hd; simp at hd) (by simp) (by omega) (by omega) (by omega)
    · refine ⟨0, false, l.length + ml.length + 1000, fun k hk => ?_, fun k hk => ?_⟩
      · unfold spec_AnyWayPlaces.f; simp only [l2Good_eq w h l (by omega) k (by omega), l2Good_eq mw mh ml (by omega) k (by omega), Option.bind_some, e, if_true]
        obtain ⟨k, rfl⟩ := succ_of (show 0 < k by omega)
        simp [spec_AnyWayPlaces.j0, e2]
      · unfold impl_AnyWayPlaces.f; simp only [isChart_eq w h l (by omega) k (by omega), isChart_eq mw mh ml (by omega) k (by omega), Option.bind_some, e, if_true]
        obtain ⟨k, rfl⟩ := succ_of (show 0 < k by omega)
        simp [impl_AnyWayPlaces.j0, e2]
  · refine ⟨0, false, l.length + ml.length + 1000, fun k hk => ?_, fun k hk => ?_⟩
    · unfold spec_AnyWayPlaces.f; simp only [l2Good_eq w h l (by omega) k (by omega), Option.bind_some, e, if_false]
      obtain ⟨k, rfl⟩ := succ_of (show 0 < k by omega)
      simp [spec_AnyWayPlaces.j0]
    · unfold impl_AnyWayPlaces.f; simp only [isChart_eq w h l (by omega) k (by omega), Option.bind_some, e, if_false]
      obtain ⟨k, rfl⟩ := succ_of (show 0 < k by omega)
      simp [impl_AnyWayPlaces.j0]
theorem FnExactAnyWayPlaces : laws_FnExactAnyWayPlaces.Pure := by
  intro a0_0 a0_1 l0_2 a1_0 a1_1 l1_2 _ _ hwl0_2 _ _ _ hwl1_2 _
  obtain ⟨b0, e0, c0⟩ := szChart_eq a0_0 a0_1 l0_2 1048576 (by omega) (by omega) (by omega)
  by_cases hs0 : b0 < 0
  · refine ⟨0, ?_⟩
    unfold laws_FnExactAnyWayPlaces.f; simp only [Option.bind_some, if_true, if_false, e0, hs0]
  obtain ⟨b1, e1, c1⟩ := szChart_eq a1_0 a1_1 l1_2 b0 (by omega) (by omega) (by omega)
  by_cases hs1 : b1 < 0
  · refine ⟨0, ?_⟩
    unfold laws_FnExactAnyWayPlaces.f; simp only [Option.bind_some, if_true, if_false, e0, hs0, e1, hs1]
  obtain ⟨kt0, t0⟩ := toChart_ev a0_0 a0_1 l0_2 (by omega)
  have zll0_2 := cvIntS_len l0_2
  generalize hcl0_2 : cvIntS l0_2 = ml0_2 at zll0_2 t0
  obtain ⟨kt1, t1⟩ := toChart_ev a1_0 a1_1 l1_2 (by omega)
  have zll1_2 := cvIntS_len l1_2
  generalize hcl1_2 : cvIntS l1_2 = ml1_2 at zll1_2 t1
  obtain ⟨r0, r1, kb, sp_, im_⟩ := both a0_0 a0_1 ml0_2 a1_0 a1_1 ml1_2 (by omega) (by omega)
  obtain ⟨ke0, q0⟩ := eqChart_ev a0_0 a0_1 ml0_2 (by omega)
  obtain ⟨ke1, q1⟩ := eqChart_ev a1_0 a1_1 ml1_2 (by omega)
  obtain ⟨K, hK⟩ : ∃ K, K = kt0 + kt1 + kb + ke0 + ke1 := ⟨_, rfl⟩
  refine ⟨K + 6, ?_⟩
  unfold laws_FnExactAnyWayPlaces.f
  simp only [laws_FnExactAnyWayPlaces.j0, Option.bind_some, if_true, if_false, bne_self_eq_false, Bool.false_eq_true, e0, hs0, e1, hs1, t0 (K + 6) (by omega), t1 (K + 6) (by omega), sp_ (K + 6) (by omega), im_ (K + 6) (by omega), q0 (K + 6) (by omega), q1 (K + 6) (by omega), t0 (K + 5) (by omega), t1 (K + 5) (by omega), sp_ (K + 5) (by omega), im_ (K + 5) (by omega), q0 (K + 5) (by omega), q1 (K + 5) (by omega), t0 (K + 4) (by omega), t1 (K + 4) (by omega), sp_ (K + 4) (by omega), im_ (K + 4) (by omega), q0 (K + 4) (by omega), q1 (K + 4) (by omega), t0 (K + 3) (by omega), t1 (K + 3) (by omega), sp_ (K + 3) (by omega), im_ (K + 3) (by omega), q0 (K + 3) (by omega), q1 (K + 3) (by omega), t0 (K + 2) (by omega), t1 (K + 2) (by omega), sp_ (K + 2) (by omega), im_ (K + 2) (by omega), q0 (K + 2) (by omega), q1 (K + 2) (by omega), t0 (K + 1) (by omega), t1 (K + 1) (by omega), sp_ (K + 1) (by omega), im_ (K + 1) (by omega), q0 (K + 1) (by omega), q1 (K + 1) (by omega)]
end Go.Proofs.Yteiaakppjcpgcaa.Pure
