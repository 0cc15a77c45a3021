/- The program's FewestChanges returns what the reference's FewestChanges returns, for every chart and every number. -/
import Derived.Test.YtijmljaemalgmaaPFnExactFewestChangesx9
namespace Go.Proofs.Ytijmljaemalgmaa.Pure
open Go.RowKit Go.Proofs.Ytijmljaemalgmaa.PFnExactFewestChanges Go.Proofs.YtijmljaemalgmaaW.PrintWords Go.Proofs.YtijmljaemalgmaaW.PrintLast
set_option linter.unusedVariables false
set_option linter.unusedSimpArgs false
theorem wrap_id {x : Int} (h : -9223372036854775808 ≤ x) (h' : x ≤ 9223372036854775807) : wrap64 x = x := by unfold wrap64; omega
theorem rd_get (l : List Int) (i : Nat) (h : i < l.length) : rd l (i : Int) = l[i] := by
  unfold rd; rw [Int.toNat_natCast, List.getD_eq_getElem?_getD, List.getElem?_eq_getElem h]; rfl
theorem succ_of {k : Nat} (h : 0 < k) : ∃ m, k = m + 1 := ⟨k - 1, by omega⟩
theorem szIntS_eq (l0 : List Int) (a : Int) (h0 : 0 ≤ a) (h1 : a ≤ 1048576) (hll0 : l0.length ≤ 140737488351232) : ∃ b, laws_szIntS.f l0 a = some b ∧ (b < 0 ∨ 0 ≤ b ∧ b ≤ a ∧ l0.length ≤ 1048576) := by
  unfold laws_szIntS.f
  rw [wrap_id (by omega) (by omega)]
  by_cases e : a - (l0.length : Int) < 0
  · rw [if_pos e]; exact ⟨_, rfl, Or.inl (by omega)⟩
  · rw [if_neg e]; exact ⟨_, rfl, Or.inr (by omega)⟩
theorem szChart_eq (a0_0 : Int) (a0_1 : Int) (l0_2 : List Int) (a : Int) (h0 : 0 ≤ a) (h1 : a ≤ 1048576) (hll0_2 : l0_2.length ≤ 140737488351232) : ∃ b, laws_szChart.f a0_0 a0_1 l0_2 a = some b ∧ (b < 0 ∨ 0 ≤ b ∧ b ≤ a ∧ l0_2.length ≤ 1048576) := by
  unfold laws_szChart.f
  obtain ⟨b0, e0, c0⟩ := szIntS_eq l0_2 a (by omega) (by omega) (by omega)
  rw [e0]; simp only [Option.bind_some]
  by_cases f0 : b0 < 0
  · rw [if_pos f0]; exact ⟨_, rfl, Or.inl (by omega)⟩
  rw [if_neg f0]
  exact ⟨_, rfl, Or.inr (by omega)⟩
def cvIntS (l : List Int) : List Int := l
theorem cvIntS_len (l : List Int) : (cvIntS l).length = l.length := by rfl
theorem toIntS_l (l : List Int) (hl : l.length ≤ 4194304) : ∀ (d i : Nat) (acc : List Int), i + d = l.length → acc.length = l.length → (∀ j, j < i → acc[j]? = (cvIntS l)[j]?) → ∃ k0, ∀ k, k0 ≤ k → laws_toIntS.l0 k l i acc = some (cvIntS l) := by
  intro d
  induction d with
  | zero =>
    intro i acc h1 h2 h3; refine ⟨1, fun k hk => ?_⟩
    obtain ⟨k, rfl⟩ := succ_of (show 0 < k by omega)
    simp only [laws_toIntS.l0]; rw [if_neg (by omega)]
    congr 1
    apply List.ext_getElem?
    intro j
    by_cases hj : j < i
    · exact h3 j hj
    · rw [List.getElem?_eq_none (by omega), List.getElem?_eq_none (by rw [cvIntS_len]; omega)]
  | succ d ih =>
    intro i acc h1 h2 h3
    obtain ⟨k0, h0⟩ := ih (i + 1) (acc.set i (rd l i)) (by omega) (by simpa using h2) (by
      intro j hj
      by_cases e : j = i
      · subst e
        rw [List.getElem?_set_self (by omega)]
        unfold rd; rw [Int.toNat_natCast, List.getD_eq_getElem?_getD, List.getElem?_eq_getElem (show j < l.length by omega)]; simp [cvIntS, List.getElem?_eq_getElem (show j < l.length by omega)]
      · rw [List.getElem?_set_ne (fun h => e h.symm)]; exact h3 j (by omega))
    refine ⟨k0 + 1, fun k hk => ?_⟩
    obtain ⟨k, rfl⟩ := succ_of (show 0 < k by omega)
    simp only [laws_toIntS.l0]; rw [if_pos (by omega), if_pos (by omega)]; rw [if_pos (by omega), wrap_id (by omega) (by omega)]
    rw [Int.toNat_natCast]; exact h0 k (by omega)
theorem toIntS_ev (l : List Int) (hl : l.length ≤ 4194304) : ∃ k0, ∀ k, k0 ≤ k → laws_toIntS.f k l = some (cvIntS l) := by
  obtain ⟨k0, h0⟩ := toIntS_l l hl l.length 0 (List.replicate l.length 0) (by omega) (by simp) (fun j hj => by omega)
  refine ⟨k0, fun k hk => ?_⟩
  unfold laws_toIntS.f; rw [if_pos (by omega), Int.toNat_natCast, if_pos (by omega)]; exact h0 k hk
theorem toChart_ev (a0_0 : Int) (a0_1 : Int) (l0_2 : List Int) (hll0_2 : l0_2.length ≤ 4194304) : ∃ k0, ∀ k, k0 ≤ k → laws_toChart.f k a0_0 a0_1 l0_2 = some (a0_0, a0_1, cvIntS l0_2) := by
  obtain ⟨k0, h0⟩ := toIntS_ev l0_2 (by omega)
  refine ⟨k0, fun k hk => ?_⟩
  unfold laws_toChart.f; simp only [h0 k (by omega), Option.bind_some]
theorem eqIntS_l (l : List Int) (hl : l.length ≤ 4194304) : ∀ (d i : Nat), i + d = l.length → ∃ k0, ∀ k, k0 ≤ k → laws_eqIntS.l0 k l l i = some true := by
  intro d
  induction d with
  | zero =>
    intro i h; refine ⟨1, fun k hk => ?_⟩
    obtain ⟨k, rfl⟩ := succ_of (show 0 < k by omega)
    simp only [laws_eqIntS.l0]; rw [if_neg (by omega)]
  | succ d ih =>
    intro i h; obtain ⟨k0, h0⟩ := ih (i + 1) (by omega); refine ⟨k0 + 1, fun k hk => ?_⟩
    obtain ⟨k, rfl⟩ := succ_of (show 0 < k by omega)
    simp only [laws_eqIntS.l0]; rw [if_pos (by omega), if_pos (by omega), if_pos (by omega)]; simp only [if_true]
    rw [wrap_id (by omega) (by omega)]; exact h0 k (by omega)
theorem eqIntS_ev (l : List Int) (hl : l.length ≤ 4194304) : ∃ k0, ∀ k, k0 ≤ k → laws_eqIntS.f k l l = some true := by
  obtain ⟨k0, h0⟩ := eqIntS_l l hl l.length 0 (by omega)
  refine ⟨k0, fun k hk => ?_⟩
  unfold laws_eqIntS.f; rw [if_pos rfl]; exact h0 k hk
theorem eqChart_ev (a0_0 : Int) (a0_1 : Int) (l0_2 : List Int) (hll0_2 : l0_2.length ≤ 4194304) : ∃ k0, ∀ k, k0 ≤ k → laws_eqChart.f k a0_0 a0_1 l0_2 a0_0 a0_1 l0_2 = some true := by
  obtain ⟨k0, h0⟩ := eqIntS_ev l0_2 (by omega)
  refine ⟨k0, fun k hk => ?_⟩
  unfold laws_eqChart.f; simp [h0 k (by omega)]
def colorB (x : Int) : Bool := decide (0 ≤ x) && decide (x ≤ 5)
def sideB (x : Int) : Bool := decide (1 ≤ x) && decide (x ≤ 8)
def goodB (w h : Int) (l : List Int) : Bool := sideB w && sideB h && decide ((l.length : Int) = w * h) && l.all colorB
theorem l2Color_eq (x : Int) : spec_l2Color.f x = some (colorB x) := by
  unfold spec_l2Color.f spec_l1In.f colorB
  by_cases h : x ≥ 0
  · rw [if_pos h]; simp [show (0 : Int) ≤ x from h]
  · rw [if_neg h]; simp [show ¬ (0 : Int) ≤ x from h]
theorem l2Side_eq (x : Int) : spec_l2Side.f x = some (sideB x) := by
  unfold spec_l2Side.f spec_l1In.f sideB
  by_cases h : x ≥ 1
  · rw [if_pos h]; simp [show (1 : Int) ≤ x from h]
  · rw [if_neg h]; simp [show ¬ (1 : Int) ≤ x from h]
theorem side_of {x : Int} (h : sideB x = true) : 1 ≤ x ∧ x ≤ 8 := by unfold sideB at h; simpa using h
theorem color_of {x : Int} (h : colorB x = true) : 0 ≤ x ∧ x ≤ 5 := by unfold colorB at h; simpa using h
theorem mul_bd {w h : Int} (hw : 1 ≤ w ∧ w ≤ 8) (hh : 1 ≤ h ∧ h ≤ 8) : 1 ≤ w * h ∧ w * h ≤ 64 := by
  obtain ⟨a, b⟩ := hw; obtain ⟨c, d⟩ := hh
  have h1 : w = 1 ∨ w = 2 ∨ w = 3 ∨ w = 4 ∨ w = 5 ∨ w = 6 ∨ w = 7 ∨ w = 8 := by omega
  rcases h1 with rfl | rfl | rfl | rfl | rfl | rfl | rfl | rfl <;> omega
theorem good_of {w h : Int} {l : List Int} (hg : goodB w h l = true) : (1 ≤ w ∧ w ≤ 8) ∧ (1 ≤ h ∧ h ≤ 8) ∧ (l.length : Int) = w * h ∧ ∀ x ∈ l, 0 ≤ x ∧ x ≤ 5 := by
  unfold goodB at hg
  simp only [Bool.and_eq_true, decide_eq_true_eq, List.all_eq_true] at hg
  exact ⟨side_of hg.1.1.1, side_of hg.1.1.2, hg.1.2, fun x hx => color_of (hg.2 x hx)⟩
theorem l2Good_l (w h : Int) (l : List Int) (hl : l.length ≤ 35184372088832) : ∀ (d k i : Nat), i + d = l.length → d < k → (∀ j (hj : j < l.length), j < i → colorB l[j] = true) → spec_l2Good.l0 k i w h l = some (goodB w h l) := by
  intro d
  induction d with
  | zero =>
    intro k i h1 h2 h3
    obtain ⟨k, rfl⟩ := succ_of h2
    have hall : l.all colorB = true := by
      rw [List.all_eq_true]; intro x hx; obtain ⟨j, hj, rfl⟩ := List.mem_iff_getElem.1 hx; exact h3 j hj (by omega)
    simp only [spec_l2Good.l0]; rw [if_neg (by omega), l2Side_eq, l2Side_eq]
    simp only [Option.bind_some]
    unfold goodB
    cases e1 : sideB w <;> cases e2 : sideB h <;> simp [hall]
    rw [wrap_id (by have := mul_bd (side_of e1) (side_of e2); omega) (by have := mul_bd (side_of e1) (side_of e2); omega)]
    rfl
  | succ d ih =>
    intro k i h1 h2 h3
    obtain ⟨k, rfl⟩ := succ_of (Nat.lt_of_le_of_lt (Nat.zero_le _) h2)
    simp only [spec_l2Good.l0]; rw [if_pos (by omega), if_pos (by omega), l2Color_eq, rd_get l i (by omega)]
    simp only [Option.bind_some]
    by_cases hc : colorB l[i] = true
    · rw [if_pos hc, wrap_id (by omega) (by omega)]
      refine ih k (i + 1) (by omega) (by omega) fun j hj hji => ?_
      by_cases e : j = i
      · subst e; exact hc
      · exact h3 j hj (by omega)
    · rw [if_neg hc]
      have : l.all colorB = false := by
        rw [← Bool.not_eq_true, List.all_eq_true]; intro hh; exact hc (hh _ (List.getElem_mem _))
      unfold goodB; rw [this]; simp
theorem l2Good_eq (w h : Int) (l : List Int) (hl : l.length ≤ 35184372088832) (k : Nat) (hk : l.length < k) : spec_l2Good.f k w h l = some (goodB w h l) := by
  unfold spec_l2Good.f
  exact l2Good_l w h l hl l.length k 0 (by omega) hk (fun j hj hji => by omega)
theorem isColor_eq (x : Int) : impl_isColor.f x = some (colorB x) := by
  unfold impl_isColor.f impl_in.f colorB
  by_cases h : x ≥ 0
  · rw [if_pos h]; simp [show (0 : Int) ≤ x from h]
  · rw [if_neg h]; simp [show ¬ (0 : Int) ≤ x from h]
theorem isSide_eq (x : Int) : impl_isSide.f x = some (sideB x) := by
  unfold impl_isSide.f impl_in.f sideB
  by_cases h : x ≥ 1
  · rw [if_pos h]; simp [show (1 : Int) ≤ x from h]
  · rw [if_neg h]; simp [show ¬ (1 : Int) ≤ x from h]
theorem idxColor_l (l : List Int) (hl : l.length ≤ 35184372088832) : ∀ (d k i : Nat), i + d = l.length → d < k → (∀ j (hj : j < l.length), j < i → colorB l[j] = true) → ∃ r, slices_IndexFunc_int_int__areAll_int_1__isColor.l0 k l l.length i = some r ∧ (decide (r ≥ 0) = !l.all colorB) := by
  intro d
  induction d with
  | zero =>
    intro k i h1 h2 h3
    obtain ⟨k, rfl⟩ := succ_of h2
    have hall : l.all colorB = true := by
      rw [List.all_eq_true]; intro x hx; obtain ⟨j, hj, rfl⟩ := List.mem_iff_getElem.1 hx; exact h3 j hj (by omega)
    refine ⟨-1, ?_, by rw [hall]; rfl⟩
    simp only [slices_IndexFunc_int_int__areAll_int_1__isColor.l0]; rw [if_neg (by omega)]
  | succ d ih =>
    intro k i h1 h2 h3
    obtain ⟨k, rfl⟩ := succ_of (Nat.lt_of_le_of_lt (Nat.zero_le _) h2)
    simp only [slices_IndexFunc_int_int__areAll_int_1__isColor.l0, impl_areAll_int_1__isColor.f]; rw [if_pos (by omega), if_pos (by omega), if_pos (by omega), isColor_eq, rd_get l i (by omega)]
    simp only [Option.bind_some]
    by_cases hc : colorB l[i] = true
    · rw [hc]; simp only [Bool.not_true, Bool.false_eq_true, if_false]
      rw [wrap_id (by omega) (by omega)]
      refine ih k (i + 1) (by omega) (by omega) fun j hj hji => ?_
      by_cases e : j = i
      · subst e; exact hc
      · exact h3 j hj (by omega)
    · have hc' : colorB l[i] = false := by simpa using hc
      rw [hc']; simp only [Bool.not_false, if_true]
      have : l.all colorB = false := by
        rw [← Bool.not_eq_true, List.all_eq_true]; intro hh; exact hc (hh _ (List.getElem_mem _))
      exact ⟨_, rfl, by rw [this]; simp⟩
theorem areColors_eq (l : List Int) (hl : l.length ≤ 35184372088832) (k : Nat) (hk : l.length < k) : impl_areAll_int__isColor.f k l = some (l.all colorB) := by
  obtain ⟨r, h1, h2⟩ := idxColor_l l hl l.length k 0 (by omega) hk (fun j hj hji => by omega)
  unfold impl_areAll_int__isColor.f slices_ContainsFunc_int_int__areAll_int_1__isColor.f slices_IndexFunc_int_int__areAll_int_1__isColor.f
  rw [show (0 : Int) = ((0 : Nat) : Int) from rfl, h1]; simp only [Option.bind_some]
  rw [show decide (r ≥ ((0 : Nat) : Int)) = decide (r ≥ 0) from rfl, h2]; simp
theorem isChart_eq (w h : Int) (l : List Int) (hl : l.length ≤ 35184372088832) (k : Nat) (hk : l.length < k) : impl_IsChart.f k w h l = some (goodB w h l) := by
  unfold impl_IsChart.f
  rw [isSide_eq, isSide_eq, areColors_eq l hl k hk]
  simp only [Option.bind_some]
  unfold goodB
  cases e1 : sideB w <;> cases e2 : sideB h <;> simp
  rw [wrap_id (by have := mul_bd (side_of e1) (side_of e2); omega) (by have := mul_bd (side_of e1) (side_of e2); omega)]
  by_cases e : (l.length : Int) = w * h
  · rw [if_pos e]; simp [e]
  · rw [if_neg e]; simp [e]
theorem l1Own_eq (l : List Int) (hl : l.length ≤ 1048576) : spec_l1Own.f l = some l := by
  unfold spec_l1Own.f; simp only [Option.bind_some, List.nil_append, List.length_nil]; rw [if_pos (by omega)]
theorem l2Own_eq (w h : Int) (l : List Int) (hl : l.length ≤ 1048576) : spec_l2Own.f w h l = some (w, h, l) := by
  unfold spec_l2Own.f; rw [l1Own_eq l hl]; rfl
theorem cloneInt_eq (l : List Int) (hl : l.length ≤ 1048576) : slices_Clone_int_int.f l = some l := by
  unfold slices_Clone_int_int.f; rw [if_pos (by omega)]
theorem copied_eq (w h : Int) (l : List Int) (hl : l.length ≤ 1048576) : impl_Chart_copied.f w h l = some (w, h, l) := by
  unfold impl_Chart_copied.f; rw [cloneInt_eq l hl]; rfl
def gridL (w h : Nat) (f : Nat → Nat → Int) : List Int := (List.range h).flatMap fun r => (List.range w).map (f r)
theorem gridL_len (w h : Nat) (f : Nat → Nat → Int) : (gridL w h f).length = w * h := by
  unfold gridL
  induction h with
  | zero => simp
  | succ h ih => rw [List.range_succ, List.flatMap_append, List.length_append, ih]; simp [Nat.mul_succ]
theorem gridL_congr (w h : Nat) (f g : Nat → Nat → Int) (e : ∀ r c, r < h → c < w → f r c = g r c) : gridL w h f = gridL w h g := by
  unfold gridL
  show ((List.range h).map _).flatten = ((List.range h).map _).flatten
  congr 1
  apply List.map_congr_left
  intro r hr
  apply List.map_congr_left
  intro c hc
  exact e r c (by simpa using hr) (by simpa using hc)
theorem gridL_all (w h : Nat) (f : Nat → Nat → Int) (p : Int → Prop) (e : ∀ r c, r < h → c < w → p (f r c)) : ∀ x ∈ gridL w h f, p x := by
  intro x hx
  unfold gridL at hx
  simp only [List.mem_flatMap, List.mem_map, List.mem_range] at hx
  obtain ⟨r, hr, c, hc, rfl⟩ := hx
  exact e r c hr hc
theorem gridL_get (w h : Nat) (f : Nat → Nat → Int) (r c : Nat) (hr : r < h) (hc : c < w) : (gridL w h f)[r * w + c]? = some (f r c) := by
  unfold gridL
  induction h with
  | zero => omega
  | succ h ih =>
    rw [List.range_succ, List.flatMap_append]
    have hl : ((List.range h).flatMap fun r => (List.range w).map (f r)).length = w * h := gridL_len w h f
    by_cases e : r < h
    · rw [List.getElem?_append_left]
      · exact ih e
      · rw [hl]
        have : (r + 1) * w ≤ h * w := Nat.mul_le_mul_right _ e
        rw [Nat.add_mul, Nat.one_mul] at this
        rw [Nat.mul_comm w h]; omega
    · have : r = h := by omega
      subst this
      rw [List.getElem?_append_right (by rw [hl, Nat.mul_comm]; omega), hl, Nat.mul_comm w r, Nat.add_sub_cancel_left]
      simp [hc]
/-- Two loops, one in the other, that collect g row col. -/
theorem grid_loop {R : Type} (L0 : Nat → Int → List Int → Option R) (L1 : Nat → Int → Int → List Int → Option R) (fin : List Int → Option R) (w h : Nat) (hw : w ≤ 64) (hh : h ≤ 64) (g : Int → Int → Option Int) (f : Nat → Nat → Int)
    (h0 : ∀ k (row : Nat) acc, L0 (k + 1) row acc = if (row : Int) < h then L1 k row 0 acc else fin acc)
    (h1 : ∀ k (row col : Nat) acc, L1 (k + 1) row col acc = if (col : Int) < w then (g row col).bind (fun t => if acc.length < 17592186044416 then L1 k row (wrap64 ((col : Int) + 1)) (acc ++ [t]) else none) else L0 k (wrap64 ((row : Int) + 1)) acc)
    (hg : ∀ r c : Nat, r < h → c < w → g r c = some (f r c)) : ∀ k, (h + 1) * (w + 2) ≤ k → L0 k 0 [] = fin (gridL w h f) := by
  have row_ : ∀ (d k row : Nat) (col : Nat) (acc : List Int), row < h → col + d = w → acc.length + d ≤ 8192 → d < k →
      ∃ k', k' + d + 1 = k ∧ L1 k row col acc = L0 k' ((row + 1 : Nat) : Int) (acc ++ ((List.range w).drop col).map (f row)) := by
    intro d
    induction d with
    | zero =>
      intro k row col acc hr hc ha hk
      obtain ⟨k, rfl⟩ := succ_of hk
      refine ⟨k, rfl, ?_⟩
      rw [h1, if_neg (by omega), wrap_id (by omega) (by omega), List.drop_of_length_le (by simp; omega)]
      simp
    | succ d ih =>
      intro k row col acc hr hc ha hk
      obtain ⟨k, rfl⟩ := succ_of (Nat.lt_of_le_of_lt (Nat.zero_le _) hk)
      obtain ⟨k', e1, e2⟩ := ih k row (col + 1) (acc ++ [f row col]) hr (by omega) (by simp; omega) (by omega)
      refine ⟨k', by omega, ?_⟩
      rw [h1, if_pos (by omega), hg row col hr (by omega)]
      simp only [Option.bind_some]
      rw [if_pos (by omega), wrap_id (by omega) (by omega)]
      rw [show ((col : Int) + 1) = ((col + 1 : Nat) : Int) by omega, e2]
      congr 1
      rw [List.append_assoc]
      congr 1
      rw [List.drop_eq_getElem_cons (l := List.range w) (i := col) (by simp; omega)]
      simp
  have all_ : ∀ (d k row : Nat) (acc : List Int), row + d = h → acc.length ≤ 64 * row → (d + 1) * (w + 2) ≤ k → L0 k row acc = fin (acc ++ ((List.range h).drop row).flatMap fun r => (List.range w).map (f r)) := by
    intro d
    induction d with
    | zero =>
      intro k row acc hr ha hk
      obtain ⟨k, rfl⟩ := succ_of (show 0 < k by omega)
      rw [h0, if_neg (by omega), List.drop_of_length_le (by simp; omega)]
      simp
    | succ d ih =>
      intro k row acc hr ha hk
      rw [Nat.add_mul] at hk
      obtain ⟨k, rfl⟩ := succ_of (show 0 < k by omega)
      rw [h0, if_pos (by omega)]
      obtain ⟨k', e1, e2⟩ := row_ w k row 0 acc (by omega) (by omega) (by omega) (by omega)
      rw [show ((0 : Int)) = ((0 : Nat) : Int) from rfl, e2, ih k' (row + 1) _ (by omega) (by simp; omega) (by omega)]
      congr 1
      rw [List.append_assoc, List.drop_eq_getElem_cons (show row < (List.range h).length by simp; omega)]
      simp
  intro k hk
  have := all_ h k 0 [] (by omega) (by simp) hk
  simpa [gridL] using this
def atL (w : Int) (l : List Int) (r c : Int) : Int := rd l (r * w + c)
theorem at_bd {w h r c : Int} (hw : 1 ≤ w ∧ w ≤ 8) (hh : 1 ≤ h ∧ h ≤ 8) (hr : 0 ≤ r ∧ r < h) (hc : 0 ≤ c ∧ c < w) : 0 ≤ r * w ∧ r * w ≤ 64 ∧ 0 ≤ r * w + c ∧ r * w + c < w * h := by
  obtain ⟨a, b⟩ := hw; obtain ⟨a', b'⟩ := hh; obtain ⟨p, q⟩ := hr; obtain ⟨p', q'⟩ := hc
  have h1 : w = 1 ∨ w = 2 ∨ w = 3 ∨ w = 4 ∨ w = 5 ∨ w = 6 ∨ w = 7 ∨ w = 8 := by omega
  rcases h1 with rfl | rfl | rfl | rfl | rfl | rfl | rfl | rfl <;> omega
theorem implAt_eq (w h : Int) (l : List Int) (r c : Int) (hw : 1 ≤ w ∧ w ≤ 8) (hh : 1 ≤ h ∧ h ≤ 8) (hl : (l.length : Int) = w * h) (hr : 0 ≤ r ∧ r < h) (hc : 0 ≤ c ∧ c < w) : impl_Chart_at.f w h l r c = some (atL w l r c) := by
  have b := at_bd hw hh hr hc
  unfold impl_Chart_at.f atL
  rw [wrap_id (x := r * w) (by omega) (by omega), wrap_id (by omega) (by omega), if_pos (by omega), if_pos (by omega)]
theorem specAt_eq (w h : Int) (l : List Int) (r c : Int) (hw : 1 ≤ w ∧ w ≤ 8) (hh : 1 ≤ h ∧ h ≤ 8) (hl : (l.length : Int) = w * h) (hr : 0 ≤ r ∧ r < h) (hc : 0 ≤ c ∧ c < w) : spec_l2At.f w h l r c = some (atL w l r c) := by
  have b := at_bd hw hh hr hc
  unfold spec_l2At.f atL
  rw [wrap_id (x := r * w) (by omega) (by omega), wrap_id (by omega) (by omega), if_pos (by omega), if_pos (by omega)]
/-- A chart whose sides and knots are in order. -/
def okC (w h : Int) (l : List Int) : Prop := (1 ≤ w ∧ w ≤ 8) ∧ (1 ≤ h ∧ h ≤ 8) ∧ (l.length : Int) = w * h
def turnL (w h : Int) (l : List Int) : List Int := gridL h.toNat w.toNat fun r c => atL w l (h - 1 - c) r
def mirrL (w h : Int) (l : List Int) : List Int := gridL w.toNat h.toNat fun r c => atL w l r (w - 1 - c)
theorem turnL_len {w h : Int} {l : List Int} (ok : okC w h l) : ((turnL w h l).length : Int) = h * w := by
  unfold turnL; rw [gridL_len]; obtain ⟨a, b, _⟩ := ok
  rw [Int.natCast_mul, Int.toNat_of_nonneg (by omega), Int.toNat_of_nonneg (by omega)]
theorem mirrL_len {w h : Int} {l : List Int} (ok : okC w h l) : ((mirrL w h l).length : Int) = w * h := by
  unfold mirrL; rw [gridL_len]; obtain ⟨a, b, _⟩ := ok
  rw [Int.natCast_mul, Int.toNat_of_nonneg (by omega), Int.toNat_of_nonneg (by omega)]
theorem turn_ok {w h : Int} {l : List Int} (ok : okC w h l) : okC h w (turnL w h l) := ⟨ok.2.1, ok.1, turnL_len ok⟩
theorem mirr_ok {w h : Int} {l : List Int} (ok : okC w h l) : okC w h (mirrL w h l) := ⟨ok.1, ok.2.1, mirrL_len ok⟩
theorem rounds_bd {w h : Int} (hw : 1 ≤ w ∧ w ≤ 8) (hh : 1 ≤ h ∧ h ≤ 8) : (h.toNat + 1) * (w.toNat + 2) ≤ 90 := by
  have h1 : h.toNat + 1 ≤ 9 := by omega
  have h2 : w.toNat + 2 ≤ 10 := by omega
  exact Nat.mul_le_mul h1 h2
theorem specTurn_eq {w h : Int} {l : List Int} (ok : okC w h l) (k : Nat) (hk : 90 ≤ k) : spec_l4Turn.f k w h l = some (h, w, turnL w h l) := by
  obtain ⟨hw, hh, hl⟩ := ok
  have := grid_loop (fun k row acc => spec_l4Turn.l0 k row w h l h w acc) (fun k row col acc => spec_l4Turn.l1 k row col w h l h w acc) (fun acc => some (h, w, acc)) h.toNat w.toNat (by omega) (by omega)
    (fun row col => spec_l2At.f w h l (wrap64 (wrap64 (h - 1) - col)) row) (fun r c => atL w l (h - 1 - c) r)
    (fun k row acc => by simp only [spec_l4Turn.l0]; rw [Int.toNat_of_nonneg (by omega)]) (fun k row col acc => by simp only [spec_l4Turn.l1]; rw [Int.toNat_of_nonneg (by omega)])
    (fun r c hr hc => by rw [wrap_id (x := h - 1) (by omega) (by omega), wrap_id (by omega) (by omega)]; exact specAt_eq w h l _ _ hw hh hl (by omega) (by omega)) k (Nat.le_trans (rounds_bd hh hw) hk)
  exact this
theorem implTurn_eq {w h : Int} {l : List Int} (ok : okC w h l) (k : Nat) (hk : 90 ≤ k) : impl_Chart_turned.f k w h l = some (h, w, turnL w h l) := by
  obtain ⟨hw, hh, hl⟩ := ok
  have := grid_loop (fun k row acc => impl_makeChart__Chart_turned_1.l0 k h w row w h l h w acc) (fun k row col acc => impl_makeChart__Chart_turned_1.l1 k h row w row h col w h l h w acc) (fun acc => some (h, w, acc)) h.toNat w.toNat (by omega) (by omega)
    (fun row col => impl_Chart_turned_1.f row col w h l) (fun r c => atL w l (h - 1 - c) r)
    (fun k row acc => by simp only [impl_makeChart__Chart_turned_1.l0]; rw [Int.toNat_of_nonneg (by omega)]) (fun k row col acc => by simp only [impl_makeChart__Chart_turned_1.l1]; rw [Int.toNat_of_nonneg (by omega)])
    (fun r c hr hc => by simp only [impl_Chart_turned_1.f]; rw [wrap_id (x := h - 1) (by omega) (by omega), wrap_id (by omega) (by omega), implAt_eq w h l _ _ hw hh hl (by omega) (by omega)]; rfl) k (Nat.le_trans (rounds_bd hh hw) hk)
  unfold impl_Chart_turned.f impl_makeChart__Chart_turned_1.f
  show (impl_makeChart__Chart_turned_1.l0 k h w 0 w h l h w []).bind _ = _
  rw [this]; rfl
theorem specMirr_eq {w h : Int} {l : List Int} (ok : okC w h l) (k : Nat) (hk : 90 ≤ k) : spec_l4Mirror.f k w h l = some (w, h, mirrL w h l) := by
  obtain ⟨hw, hh, hl⟩ := ok
  have := grid_loop (fun k row acc => spec_l4Mirror.l0 k row w h l w h acc) (fun k row col acc => spec_l4Mirror.l1 k row col w h l w h acc) (fun acc => some (w, h, acc)) w.toNat h.toNat (by omega) (by omega)
    (fun row col => spec_l2At.f w h l row (wrap64 (wrap64 (w - 1) - col))) (fun r c => atL w l r (w - 1 - c))
    (fun k row acc => by simp only [spec_l4Mirror.l0]; rw [Int.toNat_of_nonneg (by omega)]) (fun k row col acc => by simp only [spec_l4Mirror.l1]; rw [Int.toNat_of_nonneg (by omega)])
    (fun r c hr hc => by rw [wrap_id (x := w - 1) (by omega) (by omega), wrap_id (by omega) (by omega)]; exact specAt_eq w h l _ _ hw hh hl (by omega) (by omega)) k (Nat.le_trans (rounds_bd hw hh) hk)
  exact this
theorem implMirr_eq {w h : Int} {l : List Int} (ok : okC w h l) (k : Nat) (hk : 90 ≤ k) : impl_Chart_mirrored.f k w h l = some (w, h, mirrL w h l) := by
  obtain ⟨hw, hh, hl⟩ := ok
  have := grid_loop (fun k row acc => impl_makeChart__Chart_mirrored_1.l0 k w h row w h l w h acc) (fun k row col acc => impl_makeChart__Chart_mirrored_1.l1 k w row h row w col w h l w h acc) (fun acc => some (w, h, acc)) w.toNat h.toNat (by omega) (by omega)
    (fun row col => impl_Chart_mirrored_1.f row col w h l) (fun r c => atL w l r (w - 1 - c))
    (fun k row acc => by simp only [impl_makeChart__Chart_mirrored_1.l0]; rw [Int.toNat_of_nonneg (by omega)]) (fun k row col acc => by simp only [impl_makeChart__Chart_mirrored_1.l1]; rw [Int.toNat_of_nonneg (by omega)])
    (fun r c hr hc => by simp only [impl_Chart_mirrored_1.f]; rw [wrap_id (x := w - 1) (by omega) (by omega), wrap_id (by omega) (by omega), implAt_eq w h l _ _ hw hh hl (by omega) (by omega)]; rfl) k (Nat.le_trans (rounds_bd hw hh) hk)
  unfold impl_Chart_mirrored.f impl_makeChart__Chart_mirrored_1.f
  show (impl_makeChart__Chart_mirrored_1.l0 k w h 0 w h l w h []).bind _ = _
  rw [this]; rfl
def turns : Nat → Int → Int → List Int → Int × Int × List Int
  | 0, w, h, l => (w, h, l)
  | n + 1, w, h, l => turns n h w (turnL w h l)
def moveR (w h : Int) (l : List Int) (s : Int) : Int × Int × List Int := if s ≥ 4 then turns (s % 4).toNat w h (mirrL w h l) else turns (s % 4).toNat w h l
theorem turns_ok (n : Nat) : ∀ {w h : Int} {l : List Int}, okC w h l → okC (turns n w h l).1 (turns n w h l).2.1 (turns n w h l).2.2 := by
  induction n with
  | zero => intro w h l ok; exact ok
  | succ n ih => intro w h l ok; exact ih (turn_ok ok)
theorem move_ok {w h : Int} {l : List Int} (s : Int) (ok : okC w h l) : okC (moveR w h l s).1 (moveR w h l s).2.1 (moveR w h l s).2.2 := by
  unfold moveR; split
  · exact turns_ok _ (mirr_ok ok)
  · exact turns_ok _ ok
theorem good_ok {w h : Int} {l : List Int} (hg : goodB w h l = true) : okC w h l := ⟨(good_of hg).1, (good_of hg).2.1, (good_of hg).2.2.1⟩
theorem tmod4 {s : Int} (hs : 0 ≤ s) : Int.tmod s 4 = s % 4 := Int.tmod_eq_emod_of_nonneg hs
theorem okC_len {w h : Int} {l : List Int} (ok : okC w h l) : l.length ≤ 64 := by have := mul_bd ok.1 ok.2.1; have := ok.2.2; omega
theorem specMove_l (s : Int) (hs : 0 ≤ s) : ∀ (d k i : Nat) (w h : Int) (l : List Int), okC w h l → (i : Int) + d = s % 4 → 90 + d < k → spec_l4Move.l0 k s i w h l = some (turns d w h l) := by
  intro d
  induction d with
  | zero => intro k i w h l ok h1 h2; obtain ⟨k, rfl⟩ := succ_of (show 0 < k by omega); simp only [spec_l4Move.l0]; rw [tmod4 hs, if_neg (by omega)]; rfl
  | succ d ih =>
    intro k i w h l ok h1 h2
    obtain ⟨k, rfl⟩ := succ_of (show 0 < k by omega)
    simp only [spec_l4Move.l0]; rw [tmod4 hs, if_pos (by omega), specTurn_eq ok k (by omega)]
    simp only [Option.bind_some]
    rw [wrap_id (by omega) (by omega), show ((i : Int) + 1) = ((i + 1 : Nat) : Int) by omega]
    exact ih k (i + 1) h w _ (turn_ok ok) (by omega) (by omega)
theorem specMove_eq {w h : Int} {l : List Int} {s : Int} (ok : okC w h l) (hs : 0 ≤ s) (k : Nat) (hk : 100 ≤ k) : spec_l4Move.f k w h l s = some (moveR w h l s) := by
  have hl := okC_len ok
  obtain ⟨k, rfl⟩ := succ_of (show 0 < k by omega)
  have h4 : ((s % 4).toNat : Int) = s % 4 := Int.toNat_of_nonneg (by omega)
  unfold spec_l4Move.f moveR
  rw [l2Own_eq w h l (by omega)]
  simp only [Option.bind_some]
  split
  · rw [specMirr_eq ok _ (by omega)]; simp only [Option.bind_some, spec_l4Move.j0]
    exact specMove_l s hs (s % 4).toNat k 0 w h _ (mirr_ok ok) (by omega) (by omega)
  · simp only [spec_l4Move.j0]
    exact specMove_l s hs (s % 4).toNat k 0 w h _ ok (by omega) (by omega)
theorem implMove_l (s : Int) : ∀ (d k i : Nat) (w h : Int) (l : List Int), okC w h l → (i : Int) + d = s % 4 → 90 + d < k → impl_Chart_moved.l0 k (s % 4) i w h l = some (turns d w h l) := by
  intro d
  induction d with
  | zero => intro k i w h l ok h1 h2; obtain ⟨k, rfl⟩ := succ_of (show 0 < k by omega); simp only [impl_Chart_moved.l0]; rw [if_neg (by omega)]; rfl
  | succ d ih =>
    intro k i w h l ok h1 h2
    obtain ⟨k, rfl⟩ := succ_of (show 0 < k by omega)
    simp only [impl_Chart_moved.l0]; rw [if_pos (by omega), implTurn_eq ok k (by omega)]
    simp only [Option.bind_some]
    rw [wrap_id (by omega) (by omega), show ((i : Int) + 1) = ((i + 1 : Nat) : Int) by omega]
    exact ih k (i + 1) h w _ (turn_ok ok) (by omega) (by omega)
theorem implMove_eq {w h : Int} {l : List Int} {s : Int} (ok : okC w h l) (hs : 0 ≤ s) (k : Nat) (hk : 100 ≤ k) : impl_Chart_moved.f k w h l s = some (moveR w h l s) := by
  have hl := okC_len ok
  obtain ⟨k, rfl⟩ := succ_of (show 0 < k by omega)
  have h4 : ((s % 4).toNat : Int) = s % 4 := Int.toNat_of_nonneg (by omega)
  unfold impl_Chart_moved.f moveR
  rw [copied_eq w h l (by omega)]
  simp only [Option.bind_some]
  split
  · rw [implMirr_eq ok _ (by omega)]; simp only [Option.bind_some, impl_Chart_moved.j0]; rw [tmod4 hs]
    exact implMove_l s (s % 4).toNat k 0 w h _ (mirr_ok ok) (by omega) (by omega)
  · simp only [impl_Chart_moved.j0]; rw [tmod4 hs]
    exact implMove_l s (s % 4).toNat k 0 w h _ ok (by omega) (by omega)
def symB (s : Int) : Bool := decide (0 ≤ s) && decide (s ≤ 7)
theorem symB_of {s : Int} (h : symB s = true) : 0 ≤ s ∧ s ≤ 7 := by unfold symB at h; simpa using h
theorem isSymm_eq (x : Int) : impl_isSymmetry.f x = some (symB x) := by
  unfold impl_isSymmetry.f impl_in.f symB
  by_cases h : x ≥ 0
  · rw [if_pos h]; simp [show (0 : Int) ≤ x from h]
  · rw [if_neg h]; simp [show ¬ (0 : Int) ≤ x from h]
theorem l4Symm_eq (x : Int) : spec_l4Symmetry.f x = some (symB x) := by
  unfold spec_l4Symmetry.f spec_l1In.f symB
  by_cases h : x ≥ 0
  · rw [if_pos h]; simp [show (0 : Int) ≤ x from h]
  · rw [if_neg h]; simp [show ¬ (0 : Int) ≤ x from h]
theorem atL_map (f : Int → Int) {w h : Int} {p : List Int} (ok : okC w h p) {r c : Int} (hr : 0 ≤ r ∧ r < h) (hc : 0 ≤ c ∧ c < w) : atL w (p.map f) r c = f (atL w p r c) := by
  have b := at_bd ok.1 ok.2.1 hr hc
  have hl := ok.2.2
  obtain ⟨i, hi⟩ := Int.eq_ofNat_of_zero_le b.2.2.1
  unfold atL; rw [hi, rd_get _ i (by rw [List.length_map]; omega), rd_get p i (by omega), List.getElem_map]
theorem gridL_map (w h : Nat) (g : Nat → Nat → Int) (f : Int → Int) : (gridL w h g).map f = gridL w h fun r c => f (g r c) := by
  unfold gridL; rw [List.map_flatMap]; congr 1; funext r; rw [List.map_map]; rfl
theorem turnL_map (f : Int → Int) {w h : Int} {p : List Int} (ok : okC w h p) : turnL w h (p.map f) = (turnL w h p).map f := by
  unfold turnL; rw [gridL_map]; apply gridL_congr; intro r c hr hc
  exact atL_map f ok (by have := ok.2.1; omega) (by have := ok.1; omega)
theorem mirrL_map (f : Int → Int) {w h : Int} {p : List Int} (ok : okC w h p) : mirrL w h (p.map f) = (mirrL w h p).map f := by
  unfold mirrL; rw [gridL_map]; apply gridL_congr; intro r c hr hc
  exact atL_map f ok (by have := ok.2.1; omega) (by have := ok.1; omega)
theorem turns_map (f : Int → Int) (n : Nat) : ∀ {w h : Int} {p : List Int}, okC w h p → turns n w h (p.map f) = ((turns n w h p).1, (turns n w h p).2.1, (turns n w h p).2.2.map f) := by
  induction n with
  | zero => intro w h p ok; rfl
  | succ n ih => intro w h p ok; simp only [turns]; rw [turnL_map f ok]; exact ih (turn_ok ok)
theorem moveR_map (f : Int → Int) {w h : Int} {p : List Int} (s : Int) (ok : okC w h p) : moveR w h (p.map f) s = ((moveR w h p s).1, (moveR w h p s).2.1, (moveR w h p s).2.2.map f) := by
  unfold moveR; split
  · rw [mirrL_map f ok]; exact turns_map f _ (mirr_ok ok)
  · exact turns_map f _ ok
def idL (n : Nat) : List Int := (List.range n).map fun (i : Nat) => (i : Int)
theorem idL_map (l : List Int) : (idL l.length).map (rd l) = l := by
  unfold idL; rw [List.map_map]
  apply List.ext_getElem
  · simp
  · intro i h1 h2; rw [List.getElem_map, List.getElem_range]; exact rd_get l i h2
/-- Where each knot comes from. -/
def permN (w h s : Nat) : List Nat := (moveR w h (idL (w * h)) s).2.2.map Int.toNat
def oneI (p : List Nat) : Nat → List Bool → Nat → List Nat → Option (List Bool × List Nat)
  | 0, _, _, _ => none
  | f + 1, met, k, o => if met.getD k true then some (met, o) else oneI p f (met.set k true) (p.getD k 0) (o ++ [k])
def allI (p : List Nat) : Nat → Nat → List Bool → List (List Nat) → Option (List (List Nat))
  | 0, _, _, out => some out
  | d + 1, i, met, out => (oneI p 6 met i []).bind fun r => allI p d (i + 1) r.1 (if r.2.isEmpty then out else out ++ [r.2])
def oneS (q : List Nat) : Nat → Nat → List Nat → Option (List Nat)
  | 0, _, _ => none
  | f + 1, k, o => if o.contains k then some o else oneS q f (q.getD k 0) (o ++ [k])
def allS (q : List Nat) : Nat → Nat → List Nat → List (List Nat) → Option (List (List Nat))
  | 0, _, _, out => some out
  | d + 1, i, seen, out => if seen.contains i then allS q d (i + 1) seen out else (oneS q 6 i []).bind fun o => allS q d (i + 1) (seen ++ o) (out ++ [o])
def lastN (p : List Nat) (i : Nat) : Nat := (List.range p.length).foldl (fun a k => if p.getD k 0 == i then k else a) 0
def invN (p : List Nat) : List Nat := (List.range p.length).map (lastN p)
def chk (w h s : Nat) : Bool :=
  let p := permN w h s
  match allI p (w * h) 0 (List.replicate (w * h) false) [], allS (invN p) (w * h) 0 [] [] with
  | some a, some b => (a.length == b.length) && (a.zip b).all (fun z => z.1.isPerm z.2 && z.1.all (fun k => decide (k < w * h))) && p.all (fun k => decide (k < w * h)) && (moveR w h (idL (w * h)) s).2.2.all (fun x => decide (0 ≤ x)) && (invN p).all (fun k => decide (k < w * h)) && decide ((moveR w h (idL (w * h)) s).1 = w) && decide ((moveR w h (idL (w * h)) s).2.1 = h)
  | _, _ => false
def cntN (l : List Int) (o : List Nat) (c : Nat) : Nat := o.countP fun (k : Nat) => rd l (k : Int) == (c : Int)
def cntL (l : List Int) (o : List Nat) : List Nat := (List.range 6).map (cntN l o)
def bestF : List Nat → Nat → Nat → Nat → Nat × Nat
  | [], _, b, m => (b, m)
  | n :: ns, c, b, m => if n > m then bestF ns (c + 1) c n else bestF ns (c + 1) b m
def IsBest (cs : List Nat) (b m : Nat) : Prop := (∀ x ∈ cs, x ≤ m) ∧ cs[b]? = some m ∧ ∀ j, j < b → ∃ x, cs[j]? = some x ∧ x < m
theorem bestF_is : ∀ (ns pre : List Nat) (b m : Nat), (pre = [] → b = 0 ∧ m = 0) → (pre ≠ [] → IsBest pre b m) → pre ++ ns ≠ [] → IsBest (pre ++ ns) (bestF ns pre.length b m).1 (bestF ns pre.length b m).2 := by
  intro ns
  induction ns with
  | nil => intro pre b m h0 h1 h2; simp only [bestF, List.append_nil] at *; exact h1 h2
  | cons n ns ih =>
    intro pre b m h0 h1 h2
    have e : pre ++ n :: ns = (pre ++ [n]) ++ ns := by simp
    rw [e]; simp only [bestF]
    have hl : pre.length + 1 = (pre ++ [n]).length := by simp
    by_cases hp : pre = []
    · obtain ⟨rfl, rfl⟩ := h0 hp
      subst hp
      by_cases hn : n > 0
      · rw [if_pos hn, hl]
        exact ih [n] 0 n (by simp) (fun _ => ⟨by simp, by simp, by omega⟩) (by simp)
      · rw [if_neg hn, hl]
        have : n = 0 := by omega
        subst this
        exact ih [0] 0 0 (by simp) (fun _ => ⟨by simp, by simp, by omega⟩) (by simp)
    · obtain ⟨a1, a2, a3⟩ := h1 hp
      have hb : b < pre.length := by
        have := List.getElem?_eq_some_iff.1 a2; exact this.1
      by_cases hn : n > m
      · rw [if_pos hn, hl]
        refine ih (pre ++ [n]) pre.length n (by simp) (fun _ => ⟨?_, ?_, ?_⟩) (by simp)
        · intro x hx; rw [List.mem_append, List.mem_singleton] at hx
          rcases hx with hx | rfl
          · have := a1 x hx; omega
          · omega
        · simp
        · intro j hj
          refine ⟨pre[j], ?_, ?_⟩
          · rw [List.getElem?_append_left hj, List.getElem?_eq_getElem hj]
          · have := a1 pre[j] (List.getElem_mem _); omega
      · rw [if_neg hn, hl]
        refine ih (pre ++ [n]) b m (by simp) (fun _ => ⟨?_, ?_, ?_⟩) (by simp)
        · intro x hx; rw [List.mem_append, List.mem_singleton] at hx
          rcases hx with hx | rfl
          · exact a1 x hx
          · omega
        · rw [List.getElem?_append_left hb, a2]
        · intro j hj
          obtain ⟨x, hx, hxm⟩ := a3 j hj
          exact ⟨x, by rw [List.getElem?_append_left (by omega), hx], hxm⟩
theorem IsBest.uniq {cs : List Nat} {b m b' m' : Nat} (h : IsBest cs b m) (h' : IsBest cs b' m') : b = b' ∧ m = m' := by
  obtain ⟨h1, h2, h3⟩ := h; obtain ⟨h1', h2', h3'⟩ := h'
  have e : m = m' := Nat.le_antisymm (h1' m (List.mem_of_getElem? h2)) (h1 m' (List.mem_of_getElem? h2'))
  refine ⟨?_, e⟩
  rcases Nat.lt_trichotomy b b' with hlt | rfl | hgt
  · obtain ⟨x, hx, hxm⟩ := h3' b hlt; rw [h2] at hx; injection hx with hx; omega
  · rfl
  · obtain ⟨x, hx, hxm⟩ := h3 b' hgt; rw [h2'] at hx; injection hx with hx; omega
def bestR (l : List Int) (o : List Nat) : Nat × Nat := bestF (cntL l o) 0 0 0
theorem bestR_is (l : List Int) (o : List Nat) : IsBest (cntL l o) (bestR l o).1 (bestR l o).2 := by
  have h : cntL l o ≠ [] := by unfold cntL; simp
  have := bestF_is (cntL l o) [] 0 0 (fun _ => ⟨rfl, rfl⟩) (fun h => absurd rfl h) (by simpa using h)
  simpa [bestR] using this
theorem cntL_perm {o o' : List Nat} (l : List Int) (h : o.Perm o') : cntL l o = cntL l o' := by
  unfold cntL; apply List.map_congr_left; intro c _; exact h.countP_eq _
def fillN (out : List Int) (o : List Nat) (v : Int) : List Int := o.foldl (fun a k => a.set k v) out
theorem fillN_get (v : Int) (o : List Nat) : ∀ (out : List Int) (j : Nat), (fillN out o v)[j]? = if j ∈ o then out[j]?.map (fun _ => v) else out[j]? := by
  induction o with
  | nil => intro out j; simp [fillN]
  | cons k o ih =>
    intro out j
    show (fillN (out.set k v) o v)[j]? = _
    rw [ih, List.getElem?_set]
    by_cases e : k = j
    · subst e
      by_cases hk : k < out.length
      · simp [hk]
      · simp [hk]
    · have : j ∈ k :: o ↔ j ∈ o := by simp [Ne.symm e]
      simp [e, Ne.symm e]
theorem fillN_perm {o o' : List Nat} (out : List Int) (v : Int) (h : o.Perm o') : fillN out o v = fillN out o' v := by
  apply List.ext_getElem?; intro j
  rw [fillN_get, fillN_get]; simp only [h.mem_iff]
theorem fillN_len (out : List Int) (o : List Nat) (v : Int) : (fillN out o v).length = out.length := by
  unfold fillN
  induction o generalizing out with
  | nil => rfl
  | cons k o ih => simp only [List.foldl_cons]; rw [ih, List.length_set]
def stepC (l : List Int) (st : List Int × Int) (o : List Nat) : List Int × Int := (fillN st.1 o ((bestR l o).1 : Int), st.2 + (o.length : Int) - ((bestR l o).2 : Int))
theorem stepC_perm {o o' : List Nat} (l : List Int) (st : List Int × Int) (h : o.Perm o') : stepC l st o = stepC l st o' := by
  unfold stepC bestR; rw [cntL_perm l h, fillN_perm _ _ h, h.length_eq]
theorem fold_perm (l : List Int) : ∀ (a b : List (List Nat)) (st : List Int × Int), a.length = b.length → (∀ z ∈ a.zip b, z.1.Perm z.2) → a.foldl (stepC l) st = b.foldl (stepC l) st := by
  intro a
  induction a with
  | nil => intro b st h _; cases b with
    | nil => rfl
    | cons _ _ => simp at h
  | cons x a ih => intro b st h hz; cases b with
    | nil => simp at h
    | cons y b =>
      simp only [List.foldl_cons]
      rw [stepC_perm l st (hz (x, y) (by simp)), ih b _ (by simpa using h) (fun z hz' => hz z (by simp [hz']))]
theorem cntL_le (l : List Int) (o : List Nat) (c : Nat) : cntN l o c ≤ o.length := List.countP_le_length
theorem best_le (l : List Int) (o : List Nat) : (bestR l o).2 ≤ o.length ∧ (bestR l o).1 < 6 := by
  obtain ⟨_, h2, _⟩ := bestR_is l o
  have h3 := List.mem_of_getElem? h2
  have h4 := (List.getElem?_eq_some_iff.1 h2).1
  unfold cntL at h3 h4
  rw [List.mem_map] at h3
  obtain ⟨c, _, hc⟩ := h3
  refine ⟨by rw [← hc]; exact cntL_le l o c, by simpa using h4⟩
theorem chk_of {w h s : Nat} (hc : chk w h s = true) : ∃ a b, allI (permN w h s) (w * h) 0 (List.replicate (w * h) false) [] = some a ∧ allS (invN (permN w h s)) (w * h) 0 [] [] = some b ∧ a.length = b.length ∧ (∀ z ∈ a.zip b, z.1.Perm z.2 ∧ ∀ k ∈ z.1, k < w * h) ∧ (∀ k ∈ permN w h s, k < w * h) ∧ (∀ x ∈ (moveR w h (idL (w * h)) s).2.2, 0 ≤ x) ∧ (∀ k ∈ invN (permN w h s), k < w * h) ∧ (moveR w h (idL (w * h)) s).1 = w ∧ (moveR w h (idL (w * h)) s).2.1 = h := by
  unfold chk at hc
  dsimp only at hc
  split at hc
  · next a b e1 e2 =>
    refine ⟨a, b, e1, e2, ?_⟩
    simp only [Bool.and_eq_true, beq_iff_eq, List.all_eq_true, decide_eq_true_eq] at hc
    obtain ⟨⟨⟨⟨⟨⟨h1, h2⟩, h3⟩, h4⟩, h5⟩, h6⟩, h7⟩ := hc
    exact ⟨h1, fun z hz => ⟨List.isPerm_iff.1 (h2 z hz).1, fun k hk => (h2 z hz).2 k hk⟩, h3, h4, h5, h6, h7⟩
  · exact absurd hc (by simp)
set_option maxRecDepth 100000
theorem chk_0 : ((List.range 8).all fun w => (List.range 8).all fun h => chk (w + 1) (h + 1) 0) = true := by decide +kernel
theorem chk_2 : ((List.range 8).all fun w => (List.range 8).all fun h => chk (w + 1) (h + 1) 2) = true := by decide +kernel
theorem chk_4 : ((List.range 8).all fun w => (List.range 8).all fun h => chk (w + 1) (h + 1) 4) = true := by decide +kernel
theorem chk_6 : ((List.range 8).all fun w => (List.range 8).all fun h => chk (w + 1) (h + 1) 6) = true := by decide +kernel
theorem chk_odd : ((List.range 4).all fun s => (List.range 8).all fun w => chk (w + 1) (w + 1) (2 * s + 1)) = true := by decide +kernel
theorem chk_asked {w h s : Nat} (hw : 1 ≤ w ∧ w ≤ 8) (hh : 1 ≤ h ∧ h ≤ 8) (hs : s ≤ 7) (ha : s % 2 = 0 ∨ w = h) : chk w h s = true := by
  have go : ∀ t, ((List.range 8).all fun w => (List.range 8).all fun h => chk (w + 1) (h + 1) t) = true → chk w h t = true := by
    intro t ht
    have := List.all_eq_true.1 (List.all_eq_true.1 ht (w - 1) (by rw [List.mem_range]; omega)) (h - 1) (by rw [List.mem_range]; omega)
    rwa [show w - 1 + 1 = w by omega, show h - 1 + 1 = h by omega] at this
  by_cases e : s % 2 = 0
  · have : s = 0 ∨ s = 2 ∨ s = 4 ∨ s = 6 := by omega
    rcases this with rfl | rfl | rfl | rfl
    · exact go _ chk_0
    · exact go _ chk_2
    · exact go _ chk_4
    · exact go _ chk_6
  · have e2 : w = h := by omega
    subst e2
    have := List.all_eq_true.1 (List.all_eq_true.1 chk_odd (s / 2) (by rw [List.mem_range]; omega)) (w - 1) (by rw [List.mem_range]; omega)
    rwa [show w - 1 + 1 = w by omega, show 2 * (s / 2) + 1 = s by omega] at this
theorem move_odd (w h : Int) (l : List Int) {s : Int} (hs : 0 ≤ s ∧ s ≤ 7) (ho : s % 2 = 1) : (moveR w h l s).1 = h := by
  have : s = 1 ∨ s = 3 ∨ s = 5 ∨ s = 7 := by omega
  rcases this with rfl | rfl | rfl | rfl <;> rfl
def cI (o : List Nat) : List Int := o.map fun (n : Nat) => (n : Int)
theorem cI_len (o : List Nat) : (cI o).length = o.length := by unfold cI; simp
theorem cI_snoc (o : List Nat) (k : Nat) : cI o ++ [(k : Int)] = cI (o ++ [k]) := by unfold cI; simp
theorem cI_app (o o' : List Nat) : cI o ++ cI o' = cI (o ++ o') := by unfold cI; simp
theorem rd_cI (o : List Nat) (i : Nat) (h : i < o.length) : rd (cI o) (i : Int) = ((o.getD i 0 : Nat) : Int) := by
  rw [rd_get _ i (by rw [cI_len]; exact h)]; unfold cI; rw [List.getElem_map, List.getD_eq_getElem?_getD, List.getElem?_eq_getElem h]; rfl
theorem getD_lt {P : List Nat} {n i : Nat} (hP : ∀ k ∈ P, k < n) (h : i < P.length) : P.getD i 0 < n := by
  rw [List.getD_eq_getElem?_getD, List.getElem?_eq_getElem h]; exact hP _ (List.getElem_mem _)
theorem oneI_len (P : List Nat) : ∀ (f : Nat) (met : List Bool) (k : Nat) (o : List Nat) (met' : List Bool) (o' : List Nat), oneI P f met k o = some (met', o') → o'.length ≤ o.length + f ∧ met'.length = met.length := by
  intro f
  induction f with
  | zero => intro met k o met' o' h; simp [oneI] at h
  | succ f ih =>
    intro met k o met' o' h
    simp only [oneI] at h
    split at h
    · injection h with h; injection h with h1 h2; subst h1; subst h2; omega
    · have := ih _ _ _ _ _ h; simp at this; omega
theorem implOne {P : List Nat} {n : Nat} (hP : ∀ k ∈ P, k < n) (hl : P.length = n) (hn : n ≤ 64) (out : List (List Int)) (hout : out.length ≤ 1000) (i : Nat) (hi : i ≤ 64) (W H : Int) : ∀ (f K : Nat) (met : List Bool) (k : Nat) (o : List Nat) (met' : List Bool) (o' : List Nat), oneI P f met k o = some (met', o') → met.length = n → k < n → o.length + f ≤ 1000 → f < K → ∃ K', K ≤ K' + f ∧ K' < K ∧ impl_orbits.l1 K out (cI o) k met n i W H (cI P) = impl_orbits.l0 K' (if o'.isEmpty then out else out ++ [cI o']) met' n ((i + 1 : Nat) : Int) W H (cI P) := by
  intro f
  induction f with
  | zero => intro K met k o met' o' h; simp [oneI] at h
  | succ f ih =>
    intro K met k o met' o' h hm hk ho hf
    obtain ⟨K, rfl⟩ := succ_of (show 0 < K by omega)
    simp only [oneI] at h
    simp only [impl_orbits.l1]
    have hrd : rdOf false met (k : Int) = met.getD k true := by
      unfold rdOf; rw [Int.toNat_natCast, List.getD_eq_getElem?_getD, List.getD_eq_getElem?_getD, List.getElem?_eq_getElem (by omega)]; rfl
    rw [if_pos (by omega), if_pos (by omega), hrd]
    split at h
    · next e =>
      injection h with h; injection h with h1 h2; subst h1; subst h2
      refine ⟨K, by omega, by omega, ?_⟩
      rw [if_pos e, wrap_id (by omega) (by omega), show ((i : Int) + 1) = ((i + 1 : Nat) : Int) by omega, cI_len]
      cases o with
      | nil => rw [if_neg (by simp)]; rfl
      | cons x o => rw [if_pos (by simp), if_pos (by omega)]; rfl
    · next e =>
      rw [if_neg e, cI_len, if_pos (by omega), if_pos (by rw [cI_len]; omega), rd_cI P k (by omega), Int.toNat_natCast, cI_snoc]
      obtain ⟨K', e1, e2, e3⟩ := ih K _ _ _ _ _ h (by simp; omega) (getD_lt hP (by omega)) (by simp; omega) (by omega)
      exact ⟨K', by omega, by omega, e3⟩
def cLL (a : List (List Nat)) : List (List Int) := a.map cI
theorem implAll {P : List Nat} {n : Nat} (hP : ∀ k ∈ P, k < n) (hl : P.length = n) (hn : n ≤ 64) (W H : Int) : ∀ (d K i : Nat) (met : List Bool) (out a : List (List Nat)), allI P d i met out = some a → i + d = n → met.length = n → out.length ≤ i → 20 + 10 * d ≤ K → impl_orbits.l0 K (cLL out) met n i W H (cI P) = some (cLL a, true) := by
  intro d
  induction d with
  | zero =>
    intro K i met out a h hi hm ho hK
    obtain ⟨K, rfl⟩ := succ_of (show 0 < K by omega)
    simp only [allI] at h; injection h with h; subst h
    simp only [impl_orbits.l0]; rw [if_neg (by omega)]
  | succ d ih =>
    intro K i met out a h hi hm ho hK
    obtain ⟨K, rfl⟩ := succ_of (show 0 < K by omega)
    simp only [allI] at h
    simp only [impl_orbits.l0]; rw [if_pos (by omega)]
    cases h1 : oneI P 6 met i [] with
    | none => rw [h1] at h; simp at h
    | some r =>
      obtain ⟨met', o'⟩ := r
      rw [h1] at h; simp only [Option.bind_some] at h
      have hlen := oneI_len P 6 met i [] met' o' h1
      obtain ⟨K', e1, e2, e3⟩ := implOne hP hl hn (cLL out) (by unfold cLL; simp; omega) i (by omega) W H 6 K met i [] met' o' h1 hm (by omega) (by simp) (by omega)
      rw [show (([] : List Int)) = cI [] from rfl, e3]
      have hc : (if o'.isEmpty = true then cLL out else cLL out ++ [cI o']) = cLL (if o'.isEmpty then out else out ++ [o']) := by
        cases o' with
        | nil => rfl
        | cons x o' => simp [cLL]
      rw [hc]
      refine ih K' (i + 1) met' _ a h (by omega) (by omega) ?_ (by omega)
      split
      · omega
      · rw [List.length_append]; simp; omega
theorem grid_id (w h : Nat) : gridL w h (fun r c => ((r : Int) * (w : Int)) + (c : Int)) = idL (w * h) := by
  apply List.ext_getElem?
  intro j
  by_cases hj : j < w * h
  · have hw : 0 < w := by rcases Nat.eq_zero_or_pos w with rfl | h; simp at hj; exact h
    have hr : j / w < h := Nat.div_lt_of_lt_mul hj
    have hc : j % w < w := Nat.mod_lt _ hw
    have e : j / w * w + j % w = j := by rw [Nat.mul_comm]; exact Nat.div_add_mod j w
    have := gridL_get w h (fun r c => ((r : Int) * (w : Int)) + (c : Int)) (j / w) (j % w) hr hc
    rw [e] at this; rw [this]
    unfold idL; rw [List.getElem?_map, List.getElem?_range hj]
    simp only [Option.map_some]; congr 1
    rw [← Int.natCast_mul, ← Int.natCast_add, e]
  · rw [List.getElem?_eq_none (by rw [gridL_len]; omega), List.getElem?_eq_none (by unfold idL; simp; omega)]
theorem idL_ok {w h : Nat} (hw : 1 ≤ w ∧ w ≤ 8) (hh : 1 ≤ h ∧ h ≤ 8) : okC (w : Int) (h : Int) (idL (w * h)) := ⟨by omega, by omega, by unfold idL; simp⟩
theorem implMakeId {w h : Nat} (hw : 1 ≤ w ∧ w ≤ 8) (hh : 1 ≤ h ∧ h ≤ 8) (k : Nat) (hk : 90 ≤ k) : impl_makeChart__orbits_1.f k w h w = some ((w : Int), (h : Int), idL (w * h)) := by
  have := grid_loop (fun k row acc => impl_makeChart__orbits_1.l0 k w h row w w h acc) (fun k row col acc => impl_makeChart__orbits_1.l1 k w row h row w col w w h acc) (fun acc => some ((w : Int), (h : Int), acc)) w h (by omega) (by omega)
    (fun row col => impl_orbits_1.f row col w) (fun r c => ((r : Int) * (w : Int)) + (c : Int))
    (fun k row acc => by simp only [impl_makeChart__orbits_1.l0]) (fun k row col acc => by simp only [impl_makeChart__orbits_1.l1])
    (fun r c hr hc => by
      have b : r * w ≤ 64 := by have := Nat.mul_le_mul (show r ≤ 8 by omega) (show w ≤ 8 by omega); omega
      have b2 : (r : Int) * (w : Int) ≤ 64 := by rw [← Int.natCast_mul]; omega
      have b3 : 0 ≤ (r : Int) * (w : Int) := by rw [← Int.natCast_mul]; omega
      simp only [impl_orbits_1.f]; rw [wrap_id (x := (r : Int) * (w : Int)) (by omega) (by omega), wrap_id (by omega) (by omega)]) k (by have := Nat.mul_le_mul (show h + 1 ≤ 9 by omega) (show w + 2 ≤ 10 by omega); omega)
  unfold impl_makeChart__orbits_1.f
  rw [this, grid_id]
theorem perm_cI {w h s : Nat} (hp : ∀ x ∈ (moveR w h (idL (w * h)) s).2.2, 0 ≤ x) : (moveR w h (idL (w * h)) s).2.2 = cI (permN w h s) := by
  unfold permN cI; rw [List.map_map]
  conv => lhs; rw [← List.map_id (moveR w h (idL (w * h)) s).2.2]
  apply List.map_congr_left
  intro x hx; have := hp x hx; simp; omega
theorem permN_len {w h s : Nat} (hw : 1 ≤ w ∧ w ≤ 8) (hh : 1 ≤ h ∧ h ≤ 8) (hc : (moveR w h (idL (w * h)) s).1 = w) (hc' : (moveR w h (idL (w * h)) s).2.1 = h) : (permN w h s).length = w * h := by
  have := (move_ok (s : Int) (idL_ok hw hh)).2.2
  rw [hc, hc'] at this
  unfold permN; rw [List.length_map]
  rw [← Int.natCast_mul] at this; omega
theorem implOrbits_yes {w h s : Nat} (hw : 1 ≤ w ∧ w ≤ 8) (hh : 1 ≤ h ∧ h ≤ 8) {a : List (List Nat)} (ha : allI (permN w h s) (w * h) 0 (List.replicate (w * h) false) [] = some a) (hP : ∀ k ∈ permN w h s, k < w * h) (hp : ∀ x ∈ (moveR w h (idL (w * h)) s).2.2, 0 ≤ x) (hc : (moveR w h (idL (w * h)) s).1 = w) (hc' : (moveR w h (idL (w * h)) s).2.1 = h) (k : Nat) (hk : 1000 ≤ k) : impl_orbits.f k w h s = some (cLL a, true) := by
  have hn : w * h ≤ 64 := Nat.mul_le_mul hw.2 hh.2
  have hnI : (w : Int) * (h : Int) ≤ 64 := by rw [← Int.natCast_mul]; omega
  have hnI0 : 0 ≤ (w : Int) * (h : Int) := by rw [← Int.natCast_mul]; omega
  unfold impl_orbits.f
  rw [implMakeId hw hh k (by omega)]; simp only [Option.bind_some]
  rw [implMove_eq (idL_ok hw hh) (by omega) k (by omega)]; simp only [Option.bind_some]
  rw [if_pos hc, wrap_id (by omega) (by omega), if_pos hnI0]
  rw [show ((w : Int) * (h : Int)).toNat = w * h by rw [← Int.natCast_mul, Int.toNat_natCast]]
  rw [if_pos (by omega), perm_cI hp, List.length_replicate]
  exact implAll hP (permN_len hw hh hc hc') hn _ _ (w * h) k 0 _ [] a ha (by omega) (by simp) (by simp) (by omega)
theorem implOrbits_no {w h s : Nat} (hw : 1 ≤ w ∧ w ≤ 8) (hh : 1 ≤ h ∧ h ≤ 8) (hs : s ≤ 7) (ho : s % 2 = 1) (hne : w ≠ h) (k : Nat) (hk : 1000 ≤ k) : impl_orbits.f k w h s = some ([], false) := by
  unfold impl_orbits.f
  rw [implMakeId hw hh k (by omega)]; simp only [Option.bind_some]
  rw [implMove_eq (idL_ok hw hh) (by omega) k (by omega)]; simp only [Option.bind_some]
  rw [if_neg (by rw [move_odd _ _ _ (by omega) (by omega)]; omega)]
theorem cntN_snoc (l : List Int) (o : List Nat) (k c : Nat) : cntN l (o ++ [k]) c = cntN l o c + (if rd l (k : Int) = (c : Int) then 1 else 0) := by
  unfold cntN; rw [List.countP_append, List.countP_singleton]; simp
theorem cntL_set (l : List Int) (o : List Nat) (k c : Nat) (hc : c < 6) (hk : rd l (k : Int) = (c : Int)) : (cI (cntL l o)).set c (rd (cI (cntL l o)) (c : Int) + 1) = cI (cntL l (o ++ [k])) := by
  have hlen : (cntL l o).length = 6 := by unfold cntL; simp
  have hg : ∀ (o : List Nat) (j : Nat), j < 6 → (cntL l o)[j]? = some (cntN l o j) := by
    intro o j hj; unfold cntL; rw [List.getElem?_map, List.getElem?_range hj]; rfl
  rw [rd_cI _ c (by omega)]
  apply List.ext_getElem?
  intro j
  rw [List.getElem?_set]
  unfold cI
  simp only [List.getElem?_map, List.length_map]
  by_cases hj : j < 6
  · rw [hg o j hj, hg (o ++ [k]) j hj]
    simp only [Option.map_some, cntN_snoc]
    by_cases e : c = j
    · subst e
      rw [if_pos rfl, if_pos (by omega), if_pos hk, List.getD_eq_getElem?_getD, hg o c hj]; simp
    · rw [if_neg e, if_neg (by rw [hk]; omega)]; simp
  · rw [if_neg (by omega), List.getElem?_eq_none (by omega), List.getElem?_eq_none (by unfold cntL; simp; omega)]
theorem max_l (cs : List Nat) (hc : cs.length ≤ 100) : ∀ (d k i m : Nat), i + d = cs.length → d < k → ∃ M, slices_Max_int_int.l0 k (cI cs) m i = some ((M : Nat) : Int) ∧ m ≤ M ∧ (∀ x ∈ cs.drop i, x ≤ M) ∧ (M = m ∨ M ∈ cs.drop i) := by
  intro d
  induction d with
  | zero =>
    intro k i m h1 h2
    obtain ⟨k, rfl⟩ := succ_of h2
    refine ⟨m, ?_, Nat.le_refl _, ?_, .inl rfl⟩
    · simp only [slices_Max_int_int.l0]; rw [if_neg (by rw [cI_len]; omega)]
    · rw [List.drop_of_length_le (by omega)]; simp
  | succ d ih =>
    intro k i m h1 h2
    obtain ⟨k, rfl⟩ := succ_of (show 0 < k by omega)
    simp only [slices_Max_int_int.l0]
    rw [if_pos (by rw [cI_len]; omega), if_pos (by omega), rd_cI cs i (by omega), wrap_id (by omega) (by omega)]
    have hd : cs.drop i = cs.getD i 0 :: cs.drop (i + 1) := by
      rw [List.drop_eq_getElem_cons (by omega), List.getD_eq_getElem?_getD, List.getElem?_eq_getElem (by omega)]; rfl
    have hmx : mx (m : Int) ((cs.getD i 0 : Nat) : Int) = ((max m (cs.getD i 0) : Nat) : Int) := by
      unfold mx; split <;> omega
    obtain ⟨M, e1, e2, e3, e4⟩ := ih k (i + 1) (max m (cs.getD i 0)) (by omega) (by omega)
    refine ⟨M, ?_, by omega, ?_, ?_⟩
    · rw [hmx, show ((i : Int) + 1) = ((i + 1 : Nat) : Int) by omega]; exact e1
    · rw [hd]; intro x hx; rw [List.mem_cons] at hx
      rcases hx with rfl | hx
      · omega
      · exact e3 x hx
    · rw [hd]
      rcases e4 with e4 | e4
      · rcases Nat.le_total m (cs.getD i 0) with hle | hle
        · rw [Nat.max_eq_right hle] at e4; right; rw [e4]; exact List.mem_cons_self
        · rw [Nat.max_eq_left hle] at e4; left; exact e4
      · right; exact List.mem_cons_of_mem _ e4
theorem max_eq {cs : List Nat} {b m : Nat} (hb : IsBest cs b m) (hc : cs.length ≤ 100) (k : Nat) (hk : 101 ≤ k) : slices_Max_int_int.f k (cI cs) = some (m : Int) := by
  have hb1 := (List.getElem?_eq_some_iff.1 hb.2.1).1
  unfold slices_Max_int_int.f
  rw [if_neg (by rw [cI_len]; omega), if_pos (by rw [cI_len]; omega), show (0 : Int) = ((0 : Nat) : Int) from rfl, rd_cI cs 0 (by omega)]
  obtain ⟨M, e1, e2, e3, e4⟩ := max_l cs hc (cs.length - 1) k 1 (cs.getD 0 0) (by omega) (by omega)
  rw [show ((1 : Nat) : Int) = 1 from rfl] at e1
  rw [e1]
  have hd : cs = cs.getD 0 0 :: cs.drop 1 := by
    cases cs with
    | nil => simp at hb1
    | cons x cs => simp
  have hM : M ∈ cs := by
    rcases e4 with rfl | e4
    · rw [hd]; simp
    · exact List.mem_of_mem_drop e4
  have h1 := hb.1 M hM
  have h2 : m ≤ M := by
    have hm := List.mem_of_getElem? hb.2.1
    rw [hd, List.mem_cons] at hm
    rcases hm with rfl | hm
    · exact e2
    · exact e3 m hm
  rw [Nat.le_antisymm h1 h2]
theorem index_l {cs : List Nat} {b m : Nat} (hb : IsBest cs b m) (hc : cs.length ≤ 100) : ∀ (d k i : Nat), i + d = b → d < k → slices_Index_int_int.l0 k (cI cs) m cs.length i = some (b : Int) := by
  have hb1 := (List.getElem?_eq_some_iff.1 hb.2.1).1
  intro d
  induction d with
  | zero =>
    intro k i h1 h2
    obtain ⟨k, rfl⟩ := succ_of h2
    have : i = b := by omega
    subst this
    simp only [slices_Index_int_int.l0]
    rw [if_pos (by omega), if_pos (by omega), if_pos (by rw [cI_len]; omega), rd_cI cs i (by omega), List.getD_eq_getElem?_getD, hb.2.1, if_pos (by simp)]
  | succ d ih =>
    intro k i h1 h2
    obtain ⟨k, rfl⟩ := succ_of (show 0 < k by omega)
    obtain ⟨x, hx, hxm⟩ := hb.2.2 i (by omega)
    simp only [slices_Index_int_int.l0]
    rw [if_pos (by omega), if_pos (by omega), if_pos (by rw [cI_len]; omega), rd_cI cs i (by omega), List.getD_eq_getElem?_getD, hx, if_neg (by simp; omega), wrap_id (by omega) (by omega)]
    exact ih k (i + 1) (by omega) (by omega)
theorem index_eq {cs : List Nat} {b m : Nat} (hb : IsBest cs b m) (hc : cs.length ≤ 100) (k : Nat) (hk : 101 ≤ k) : slices_Index_int_int.f k (cI cs) m = some (b : Int) := by
  have hb1 := (List.getElem?_eq_some_iff.1 hb.2.1).1
  unfold slices_Index_int_int.f
  rw [cI_len]
  exact index_l hb hc b k 0 (by omega) (by omega)
theorem rdL_get (a : List (List Nat)) (i : Nat) (h : i < a.length) : rd_L1 (cLL a) (i : Int) = cI (a[i]) := by
  unfold rd_L1 cLL; rw [Int.toNat_natCast, List.getD_eq_getElem?_getD, List.getElem?_map, List.getElem?_eq_getElem h]; rfl
theorem fillN_snoc (out : List Int) (o : List Nat) (k : Nat) (v : Int) : (fillN out o v).set k v = fillN out (o ++ [k]) v := by unfold fillN; rw [List.foldl_append]; rfl
theorem take_snoc {o : List Nat} {j : Nat} (h : j < o.length) : o.take j ++ [o.getD j 0] = o.take (j + 1) := by
  rw [List.take_succ_eq_append_getElem h, List.getD_eq_getElem?_getD, List.getElem?_eq_getElem h]; rfl
theorem implFill {w h : Int} {l out : List Int} {o : List Nat} {b m : Nat} {cs : List Nat} (hb : IsBest cs b m) (hc : cs.length ≤ 100) (ho : ∀ k ∈ o, k < out.length) (hol : o.length ≤ 100) (ok : Bool) (ch : Int) (a : List (List Int)) (n i : Int) : ∀ (d K j : Nat), j + d = o.length → 110 + d < K → ∃ K', K = K' + d + 1 ∧ impl_Chart_complete.l2 K ok ch m a n i (cI cs) (cI o) o.length j w h l w h (fillN out (o.take j) b) = impl_Chart_complete.l0 K' ok ch a n (wrap64 (i + 1)) w h l w h (fillN out o b) := by
  intro d
  induction d with
  | zero =>
    intro K j h1 h2
    obtain ⟨K, rfl⟩ := succ_of (show 0 < K by omega)
    refine ⟨K, rfl, ?_⟩
    simp only [impl_Chart_complete.l2]; rw [if_neg (by omega), List.take_of_length_le (by omega)]
  | succ d ih =>
    intro K j h1 h2
    obtain ⟨K, rfl⟩ := succ_of (show 0 < K by omega)
    have hj : j < o.length := by omega
    have hb2 := getD_lt ho hj
    obtain ⟨K', e1, e2⟩ := ih K (j + 1) (by omega) (by omega)
    refine ⟨K', by omega, ?_⟩
    rw [← e2]
    conv => lhs; simp only [impl_Chart_complete.l2]
    rw [if_pos (by omega), if_pos (by omega), if_pos (by rw [cI_len]; omega), index_eq hb hc K (by omega)]; simp only [Option.bind_some]
    rw [rd_cI o j hj, if_pos (by omega), if_pos (by rw [fillN_len]; omega), wrap_id (by omega) (by omega), Int.toNat_natCast, fillN_snoc, take_snoc hj]; rfl
theorem implCount {w h : Int} {l out : List Int} {o : List Nat} (hlc : ∀ x ∈ l, 0 ≤ x ∧ x ≤ 5) (ho : ∀ k ∈ o, k < l.length) (hol : o.length ≤ 100) (ok : Bool) (ch : Int) (a : List (List Int)) (n i : Int) : ∀ (d K j : Nat), j + d = o.length → d < K → ∃ K', K = K' + d + 1 ∧ impl_Chart_complete.l1 K ok ch (cI o) a n i (cI (cntL l (o.take j))) (cI o) o.length j w h l w h out = (slices_Max_int_int.f K' (cI (cntL l o))).bind fun t => impl_Chart_complete.l2 K' ok (wrap64 (ch + wrap64 ((o.length : Int) - t))) t a n i (cI (cntL l o)) (cI o) o.length 0 w h l w h out := by
  intro d
  induction d with
  | zero =>
    intro K j h1 h2
    obtain ⟨K, rfl⟩ := succ_of (show 0 < K by omega)
    refine ⟨K, rfl, ?_⟩
    simp only [impl_Chart_complete.l1]; rw [if_neg (by omega), List.take_of_length_le (by omega), cI_len]
  | succ d ih =>
    intro K j h1 h2
    obtain ⟨K, rfl⟩ := succ_of (show 0 < K by omega)
    have hj : j < o.length := by omega
    have hb2 := getD_lt ho hj
    obtain ⟨K', e1, e2⟩ := ih K (j + 1) (by omega) (by omega)
    refine ⟨K', by omega, ?_⟩
    rw [← e2]
    conv => lhs; simp only [impl_Chart_complete.l1]
    have hcol := hlc _ (List.getElem_mem hb2)
    obtain ⟨c, hc⟩ := Int.eq_ofNat_of_zero_le hcol.1
    have hrd : rd l ((o.getD j 0 : Nat) : Int) = (c : Int) := by rw [rd_get l _ hb2]; exact hc
    have hc6 : c < 6 := by omega
    have hcl : (cI (cntL l (o.take j))).length = 6 := by rw [cI_len]; unfold cntL; simp
    have hle : cntN l (o.take j) c ≤ 100 := Nat.le_trans (cntL_le l _ c) (by rw [List.length_take]; omega)
    have hrc : rd (cI (cntL l (o.take j))) (c : Int) = (cntN l (o.take j) c : Int) := by
      rw [rd_cI _ c (by unfold cntL; simp; omega)]; unfold cntL; rw [List.getD_eq_getElem?_getD, List.getElem?_map, List.getElem?_range hc6]; rfl
    rw [if_pos (by omega), if_pos (by omega), if_pos (by rw [cI_len]; omega), rd_cI o j hj, hrd, if_pos (by omega), if_pos (by omega), if_pos (by omega), if_pos (by rw [hcl]; omega), wrap_id (x := rd (cI (cntL l (o.take j))) (c : Int) + 1) (by omega) (by omega), wrap_id (x := (j : Int) + 1) (by omega) (by omega), Int.toNat_natCast, cntL_set l _ _ c hc6 hrd, take_snoc hj]; rfl
theorem cnt_nil (l : List Int) : (List.replicate 6 0 : List Int) = cI (cntL l []) := by unfold cntL cI cntN; simp; rfl
theorem implComplete_l {w h : Int} {l : List Int} (hlc : ∀ x ∈ l, 0 ≤ x ∧ x ≤ 5) (a : List (List Nat)) (ha : ∀ o ∈ a, o.length ≤ 64 ∧ ∀ k ∈ o, k < l.length) (hal : a.length ≤ 64) (ok : Bool) : ∀ (d K i : Nat) (st : List Int × Int), i + d = a.length → st.1.length = l.length → 0 ≤ st.2 → st.2 + 64 * d ≤ 10000 → 200 + 200 * d ≤ K → impl_Chart_complete.l0 K ok st.2 (cLL a) a.length i w h l w h st.1 = some (w, h, ((a.drop i).foldl (stepC l) st).1, ((a.drop i).foldl (stepC l) st).2, ok) := by
  intro d
  induction d with
  | zero =>
    intro K i st h1 h2 h3 h4 h5
    obtain ⟨K, rfl⟩ := succ_of (show 0 < K by omega)
    simp only [impl_Chart_complete.l0]; rw [if_neg (by omega), List.drop_of_length_le (by omega)]; rfl
  | succ d ih =>
    intro K i st h1 h2 h3 h4 h5
    obtain ⟨K, rfl⟩ := succ_of (show 0 < K by omega)
    have hi : i < a.length := by omega
    obtain ⟨hol, hok⟩ := ha _ (List.getElem_mem hi)
    have hbest := bestR_is l a[i]
    have hble := best_le l a[i]
    have hcl : (cntL l a[i]).length ≤ 100 := by unfold cntL; simp
    simp only [impl_Chart_complete.l0]
    rw [if_pos (by omega), if_pos (by omega), if_pos (by unfold cLL; rw [List.length_map]; omega), if_pos (by omega), rdL_get a i hi, cnt_nil l, cI_len]
    obtain ⟨K', e1, e2⟩ := implCount (w := w) (h := h) (out := st.1) hlc hok (by omega) ok st.2 (cLL a) a.length i a[i].length K 0 (by omega) (by omega)
    rw [show a[i].take 0 = [] from rfl, show ((0 : Nat) : Int) = 0 from rfl] at e2
    rw [e2, max_eq hbest hcl K' (by omega)]; simp only [Option.bind_some]
    obtain ⟨K2, e3, e4⟩ := implFill (w := w) (h := h) (l := l) (out := st.1) hbest hcl (by rw [h2]; exact hok) (by omega) ok (wrap64 (st.2 + wrap64 ((a[i].length : Int) - ((bestR l a[i]).2 : Int)))) (cLL a) a.length i a[i].length K' 0 (by omega) (by omega)
    rw [show fillN st.1 (a[i].take 0) ((bestR l a[i]).1 : Int) = st.1 from rfl, show ((0 : Nat) : Int) = 0 from rfl] at e4
    rw [e4, wrap_id (x := (i : Int) + 1) (by omega) (by omega), wrap_id (x := (a[i].length : Int) - _) (by omega) (by omega), wrap_id (by omega) (by omega)]
    have hd : a.drop i = a[i] :: a.drop (i + 1) := List.drop_eq_getElem_cons hi
    rw [hd, List.foldl_cons]
    have := ih K2 (i + 1) (stepC l st a[i]) (by omega) (by unfold stepC; simp only [fillN_len]; exact h2) (by unfold stepC; simp only; omega) (by unfold stepC; simp only; omega) (by omega)
    rw [← this]
    unfold stepC; simp only
    rw [show st.2 + ((a[i].length : Int) - ((bestR l a[i]).2 : Int)) = st.2 + (a[i].length : Int) - ((bestR l a[i]).2 : Int) by omega]
    rfl
theorem has_l (l : List Int) (x : Int) (hl : l.length ≤ 1048576) : ∀ (d k i : Nat), i + d = l.length → d < k → (∀ j (hj : j < l.length), j < i → l[j] ≠ x) → spec_l1Has.l0 k l x i = some (decide (x ∈ l)) := by
  intro d
  induction d with
  | zero =>
    intro k i h1 h2 h3
    obtain ⟨k, rfl⟩ := succ_of h2
    simp only [spec_l1Has.l0]; rw [if_neg (by omega)]
    congr 1; symm; rw [decide_eq_false_iff_not]
    intro hx; obtain ⟨j, hj, e⟩ := List.mem_iff_getElem.1 hx; exact h3 j hj (by omega) e
  | succ d ih =>
    intro k i h1 h2 h3
    obtain ⟨k, rfl⟩ := succ_of (show 0 < k by omega)
    simp only [spec_l1Has.l0]; rw [if_pos (by omega), if_pos (by omega), rd_get l i (by omega)]
    by_cases e : l[i] = x
    · rw [if_pos e]; congr 1; symm; rw [decide_eq_true_iff, ← e]; exact List.getElem_mem _
    · rw [if_neg e, wrap_id (by omega) (by omega)]
      refine ih k (i + 1) (by omega) (by omega) fun j hj hji => ?_
      by_cases e2 : j = i
      · subst e2; exact e
      · exact h3 j hj (by omega)
theorem has_eq (l : List Int) (x : Int) (hl : l.length ≤ 1048576) (k : Nat) (hk : l.length < k) : spec_l1Has.f k l x = some (decide (x ∈ l)) := has_l l x hl l.length k 0 (by omega) hk (fun j hj hji => by omega)
theorem mem_cI (o : List Nat) (k : Nat) : decide (((k : Nat) : Int) ∈ cI o) = o.contains k := by
  rw [Bool.eq_iff_iff, decide_eq_true_iff, List.contains_iff_mem]
  unfold cI; rw [List.mem_map]
  constructor
  · rintro ⟨n, hn, e⟩; have : n = k := by omega
    subst this; exact hn
  · intro h; exact ⟨k, h, rfl⟩
theorem specPlaces_l1 {w h s : Int} {l l' : List Int} {P : List Nat} {n i : Nat} (hl : l'.length = n) (hPl : P.length = n) (hn : n ≤ 64) (hi : i < n) (W H : Int) (hrd : ∀ j, j < n → (rd l' (j : Int) = 1 ↔ P.getD j 0 = i)) (base : List Int) (hb : base.length = n) : ∀ (d K j : Nat), j + d = n → d < K → ∃ K', K = K' + d + 1 ∧ spec_l4Places.l1 K s i j (base.set i (((List.range j).foldl (fun a k => if P.getD k 0 == i then k else a) 0 : Nat) : Int)) w h l W H l' = spec_l4Places.l0 K' s ((i + 1 : Nat) : Int) (base.set i (((List.range n).foldl (fun a k => if P.getD k 0 == i then k else a) 0 : Nat) : Int)) w h l := by
  intro d
  induction d with
  | zero =>
    intro K j h1 h2
    obtain ⟨K, rfl⟩ := succ_of (show 0 < K by omega)
    refine ⟨K, rfl, ?_⟩
    simp only [spec_l4Places.l1]; rw [if_neg (by omega), wrap_id (by omega) (by omega), show j = n by omega]; rfl
  | succ d ih =>
    intro K j h1 h2
    obtain ⟨K, rfl⟩ := succ_of (show 0 < K by omega)
    obtain ⟨K', e1, e2⟩ := ih K (j + 1) (by omega) (by omega)
    refine ⟨K', by omega, ?_⟩
    rw [← e2, List.range_succ, List.foldl_append]
    conv => lhs; simp only [spec_l4Places.l1]
    rw [if_pos (by omega), if_pos (by omega), wrap_id (by omega) (by omega)]
    simp only [List.foldl_cons, List.foldl_nil]
    by_cases e : P.getD j 0 = i
    · rw [if_pos ((hrd j (by omega)).2 e), if_pos (by omega), if_pos (by rw [List.length_set]; omega), Int.toNat_natCast, List.set_set, if_pos (by simpa using e)]; rfl
    · rw [if_neg (fun hh => e ((hrd j (by omega)).1 hh)), if_neg (by simpa using e)]; rfl
def mkL (n i : Nat) : List Int := (List.replicate n 0).set i 1
theorem mkL_rd {n i k : Nat} (hi : i < n) (hk : k < n) : rd (mkL n i) (k : Int) = 1 ↔ k = i := by
  rw [rd_get _ k (by unfold mkL; simp; omega)]
  unfold mkL; rw [List.getElem_set]
  split
  · next e => simp [e]
  · next e => simp; omega
def partInv (P : List Nat) (n i : Nat) : List Int := cI ((List.range i).map (lastN P)) ++ List.replicate (n - i) 0
theorem partInv_len {P : List Nat} {n i : Nat} (hi : i ≤ n) : (partInv P n i).length = n := by unfold partInv; rw [List.length_append, cI_len]; simp; omega
theorem partInv_set {P : List Nat} {n i : Nat} (hi : i < n) : (partInv P n i).set i (lastN P i : Int) = partInv P n (i + 1) := by
  unfold partInv
  have h1 : (cI ((List.range i).map (lastN P))).length = i := by rw [cI_len]; simp
  have e : n - i = (n - (i + 1)) + 1 := by omega
  rw [List.set_append, if_neg (by omega), h1, Nat.sub_self, e, List.replicate_succ, List.set_cons_zero, List.range_succ, List.map_append, ← cI_app]
  simp [cI]
theorem partInv_zero {P : List Nat} {n i : Nat} (hi : i < n) : (partInv P n i).set i 0 = partInv P n i := by
  unfold partInv
  have h1 : (cI ((List.range i).map (lastN P))).length = i := by rw [cI_len]; simp
  have e : n - i = (n - (i + 1)) + 1 := by omega
  rw [List.set_append, if_neg (by omega), h1, Nat.sub_self, e, List.replicate_succ, List.set_cons_zero]
theorem specPlaces_yes {w h s : Nat} {l : List Int} (hw : 1 ≤ w ∧ w ≤ 8) (hh : 1 ≤ h ∧ h ≤ 8) (hll : l.length = w * h) (hP : ∀ k ∈ permN w h s, k < w * h) (hp : ∀ x ∈ (moveR w h (idL (w * h)) s).2.2, 0 ≤ x) (hc : (moveR w h (idL (w * h)) s).1 = w) (hc' : (moveR w h (idL (w * h)) s).2.1 = h) (k : Nat) (hk : 10000 ≤ k) : spec_l4Places.f k w h l s = some (cI (invN (permN w h s))) := by
  have hn : w * h ≤ 64 := Nat.mul_le_mul hw.2 hh.2
  have hPl := permN_len hw hh hc hc'
  generalize hPP : permN w h s = P at *
  have go : ∀ (d K i : Nat), i + d = w * h → 300 + 100 * d ≤ K → spec_l4Places.l0 K s i (partInv P (w * h) i) w h l = some (cI (invN P)) := by
    intro d
    induction d with
    | zero =>
      intro K i h1 h2
      obtain ⟨K, rfl⟩ := succ_of (show 0 < K by omega)
      simp only [spec_l4Places.l0]; rw [if_neg (by omega)]
      unfold partInv invN; rw [show w * h - i = 0 by omega, show i = P.length by omega]; simp
    | succ d ih =>
      intro K i h1 h2
      obtain ⟨K, rfl⟩ := succ_of (show 0 < K by omega)
      simp only [spec_l4Places.l0]
      rw [if_pos (by omega), if_pos (by omega), if_pos (by omega)]; simp only [Option.bind_some]
      rw [if_pos (by omega), if_pos (by simp; omega), Int.toNat_natCast, Int.toNat_natCast, hll]
      have hmk : (List.replicate (w * h) 0).set i 1 = (idL (w * h)).map (rd (mkL (w * h) i)) := by
        have h0 : (mkL (w * h) i).length = w * h := by unfold mkL; simp
        have := idL_map (mkL (w * h) i); rw [h0] at this; rw [this]; rfl
      have okM : okC (w : Int) (h : Int) ((idL (w * h)).map (rd (mkL (w * h) i))) := ⟨by omega, by omega, by rw [List.length_map]; exact (idL_ok hw hh).2.2⟩
      rw [hmk, specMove_eq okM (by omega) K (by omega), moveR_map _ _ (idL_ok hw hh)]; simp only [Option.bind_some]
      rw [perm_cI hp, hPP]
      have hmapl : ((cI P).map (rd (mkL (w * h) i))).length = w * h := by rw [List.length_map, cI_len]; exact hPl
      obtain ⟨K', e1, e2⟩ := specPlaces_l1 (w := w) (h := h) (s := s) (l := l) hmapl hPl hn (show i < w * h by omega) (moveR w h (idL (w * h)) s).1 (moveR w h (idL (w * h)) s).2.1 (fun j hj => by
        rw [rd_get _ j (by omega), List.getElem_map]
        have : (cI P)[j]'(by rw [cI_len]; omega) = ((P.getD j 0 : Nat) : Int) := by rw [← rd_cI P j (by omega), rd_get _ j (by rw [cI_len]; omega)]
        rw [this]; exact mkL_rd (by omega) (getD_lt hP (by omega))) (partInv P (w * h) i) (partInv_len (by omega)) (w * h) K 0 (by omega) (by omega)
      rw [show (List.range 0).foldl (fun a k => if P.getD k 0 == i then k else a) 0 = 0 from rfl, show (((0 : Nat)) : Int) = 0 from rfl, partInv_zero (by omega)] at e2
      rw [e2]
      have : (List.range (w * h)).foldl (fun a k => if P.getD k 0 == i then k else a) 0 = lastN P i := by unfold lastN; rw [hPl]
      rw [this, partInv_set (by omega)]
      exact ih K' (i + 1) (by omega) (by omega)
  unfold spec_l4Places.f
  rw [if_pos (by omega), if_pos (by omega), Int.toNat_natCast, hll]
  exact go (w * h) k 0 (by omega) (by omega)
theorem oneS_len (Q : List Nat) : ∀ (f k : Nat) (o o' : List Nat), oneS Q f k o = some o' → o'.length ≤ o.length + f := by
  intro f
  induction f with
  | zero => intro k o o' h; simp [oneS] at h
  | succ f ih =>
    intro k o o' h
    simp only [oneS] at h
    split at h
    · injection h with h; subst h; omega
    · have := ih _ _ _ h; simp at this; omega
theorem oneS_mem {Q : List Nat} {n : Nat} (hQ : ∀ k ∈ Q, k < n) (hl : Q.length = n) : ∀ (f k : Nat) (o o' : List Nat), oneS Q f k o = some o' → k < n → (∀ x ∈ o, x < n) → ∀ x ∈ o', x < n := by
  intro f
  induction f with
  | zero => intro k o o' h; simp [oneS] at h
  | succ f ih =>
    intro k o o' h hk ho
    simp only [oneS] at h
    split at h
    · injection h with h; subst h; exact ho
    · refine ih _ _ _ h (getD_lt hQ (by omega)) ?_
      intro x hx; rw [List.mem_append, List.mem_singleton] at hx
      rcases hx with hx | rfl
      · exact ho x hx
      · exact hk
theorem specOne {w h : Int} {l out : List Int} {Q : List Nat} {n : Nat} (hQ : ∀ k ∈ Q, k < n) (hl : Q.length = n) (hn : n ≤ 64) (ch : Int) (seen : List Nat) (hs : seen.length ≤ 1000) (i : Int) : ∀ (f K k : Nat) (o o' : List Nat), oneS Q f k o = some o' → k < n → o.length + f ≤ 100 → 110 + f < K → ∃ K', K ≤ K' + f ∧ K' < K ∧ spec_l4Complete.l1 K ch (cI Q) (cI seen) i (cI o) k (cI Q) w h l w h out = spec_l4Complete.l2 K' ch (cI (seen ++ o')) i (cI o') 0 0 0 (cI Q) w h l w h out := by
  intro f
  induction f with
  | zero => intro K k o o' h; simp [oneS] at h
  | succ f ih =>
    intro K k o o' h hk ho hK
    obtain ⟨K, rfl⟩ := succ_of (show 0 < K by omega)
    simp only [oneS] at h
    simp only [spec_l4Complete.l1]
    rw [has_eq (cI o) k (by rw [cI_len]; omega) K (by rw [cI_len]; omega), mem_cI]; simp only [Option.bind_some]
    split at h
    · next e =>
      injection h with h; subst h
      refine ⟨K, by omega, by omega, ?_⟩
      rw [if_pos e, cI_len, cI_len, if_pos (by omega), cI_app]
    · next e =>
      rw [if_neg e, cI_len, if_pos (by omega), if_pos (by omega), if_pos (by rw [cI_len]; omega), rd_cI Q k (by omega), cI_snoc]
      obtain ⟨K', e1, e2, e3⟩ := ih K _ _ _ h (getD_lt hQ (by omega)) (by simp; omega) (by omega)
      exact ⟨K', by omega, by omega, e3⟩
theorem specCount {w h : Int} {l out Q' : List Int} {o : List Nat} (ho : ∀ k ∈ o, k < l.length) (hol : o.length ≤ 100) (ch i b m : Int) (seen : List Int) (c : Nat) : ∀ (d K j : Nat), j + d = o.length → d < K → ∃ K', K = K' + d + 1 ∧ spec_l4Complete.l3 K ch seen i (cI o) b m c (cntN l (o.take j) c : Int) j Q' w h l w h out = if (cntN l o c : Int) > m then spec_l4Complete.l2 K' ch seen i (cI o) c (cntN l o c : Int) (wrap64 ((c : Int) + 1)) Q' w h l w h out else spec_l4Complete.l2 K' ch seen i (cI o) b m (wrap64 ((c : Int) + 1)) Q' w h l w h out := by
  intro d
  induction d with
  | zero =>
    intro K j h1 h2
    obtain ⟨K, rfl⟩ := succ_of (show 0 < K by omega)
    refine ⟨K, rfl, ?_⟩
    simp only [spec_l4Complete.l3]; rw [if_neg (by rw [cI_len]; omega), List.take_of_length_le (by omega)]
  | succ d ih =>
    intro K j h1 h2
    obtain ⟨K, rfl⟩ := succ_of (show 0 < K by omega)
    have hj : j < o.length := by omega
    have hb2 := getD_lt ho hj
    obtain ⟨K', e1, e2⟩ := ih K (j + 1) (by omega) (by omega)
    refine ⟨K', by omega, ?_⟩
    rw [← e2]
    conv => lhs; simp only [spec_l4Complete.l3]
    have hle : cntN l (o.take j) c ≤ 100 := Nat.le_trans (cntL_le l _ c) (by rw [List.length_take]; omega)
    rw [if_pos (by rw [cI_len]; omega), if_pos (by omega), rd_cI o j hj, if_pos (by omega), if_pos (by omega), wrap_id (x := (j : Int) + 1) (by omega) (by omega), wrap_id (by omega) (by omega), ← take_snoc hj, cntN_snoc]
    by_cases e : rd l ((o.getD j 0 : Nat) : Int) = (c : Int)
    · rw [if_pos e, if_pos e]; rfl
    · rw [if_neg e, if_neg e]; rfl
theorem specBest {w h : Int} {l out Q' : List Int} {o : List Nat} (ho : ∀ k ∈ o, k < l.length) (hol : o.length ≤ 100) (ch i : Int) (seen : List Int) : ∀ (d K c b m : Nat), c + d = 6 → 110 * (d + 1) ≤ K → ∃ K', K ≤ K' + 110 * (d + 1) ∧ K' < K ∧ spec_l4Complete.l2 K ch seen i (cI o) b m c Q' w h l w h out = spec_l4Complete.l4 K' (wrap64 ((wrap64 (ch + (o.length : Int))) - ((bestF ((cntL l o).drop c) c b m).2 : Int))) seen i ((bestF ((cntL l o).drop c) c b m).1 : Int) 0 Q' (cI o) w h l w h out := by
  intro d
  induction d with
  | zero =>
    intro K c b m h1 h2
    obtain ⟨K, rfl⟩ := succ_of (show 0 < K by omega)
    refine ⟨K, by omega, by omega, ?_⟩
    have : (cntL l o).drop c = [] := List.drop_of_length_le (by unfold cntL; simp; omega)
    rw [this]
    simp only [spec_l4Complete.l2, bestF]; rw [if_neg (by omega), cI_len]
  | succ d ih =>
    intro K c b m h1 h2
    obtain ⟨K, rfl⟩ := succ_of (show 0 < K by omega)
    have hd : (cntL l o).drop c = cntN l o c :: (cntL l o).drop (c + 1) := by
      rw [List.drop_eq_getElem_cons (by unfold cntL; simp; omega)]; congr 1; unfold cntL; simp
    obtain ⟨K1, e1, e2⟩ := specCount (w := w) (h := h) (out := out) (Q' := Q') ho hol ch i b m seen c o.length K 0 (by omega) (by omega)
    simp only [spec_l4Complete.l2]
    rw [if_pos (by omega)]
    rw [show cntN l (o.take 0) c = 0 from rfl, show (((0 : Nat)) : Int) = 0 from rfl] at e2
    rw [e2, hd, wrap_id (by omega) (by omega), show ((c : Int) + 1) = ((c + 1 : Nat) : Int) by omega]
    simp only [bestF]
    by_cases e : cntN l o c > m
    · rw [if_pos (by omega), if_pos e]
      obtain ⟨K', f1, f2, f3⟩ := ih K1 (c + 1) c (cntN l o c) (by omega) (by omega)
      exact ⟨K', by omega, by omega, f3⟩
    · rw [if_neg (by omega), if_neg e]
      obtain ⟨K', f1, f2, f3⟩ := ih K1 (c + 1) b m (by omega) (by omega)
      exact ⟨K', by omega, by omega, f3⟩
theorem specFill {w h : Int} {l out Q' : List Int} {o : List Nat} (ho : ∀ k ∈ o, k < out.length) (hol : o.length ≤ 100) (ch i b : Int) (seen : List Int) : ∀ (d K j : Nat), j + d = o.length → d < K → ∃ K', K = K' + d + 1 ∧ spec_l4Complete.l4 K ch seen i b j Q' (cI o) w h l w h (fillN out (o.take j) b) = spec_l4Complete.l0 K' ch seen (wrap64 (i + 1)) Q' w h l w h (fillN out o b) := by
  intro d
  induction d with
  | zero =>
    intro K j h1 h2
    obtain ⟨K, rfl⟩ := succ_of (show 0 < K by omega)
    refine ⟨K, rfl, ?_⟩
    simp only [spec_l4Complete.l4]; rw [if_neg (by rw [cI_len]; omega), List.take_of_length_le (by omega)]
  | succ d ih =>
    intro K j h1 h2
    obtain ⟨K, rfl⟩ := succ_of (show 0 < K by omega)
    have hj : j < o.length := by omega
    have hb2 := getD_lt ho hj
    obtain ⟨K', e1, e2⟩ := ih K (j + 1) (by omega) (by omega)
    refine ⟨K', by omega, ?_⟩
    rw [← e2]
    conv => lhs; simp only [spec_l4Complete.l4]
    rw [if_pos (by rw [cI_len]; omega), if_pos (by omega), rd_cI o j hj, if_pos (by omega), if_pos (by rw [fillN_len]; omega), wrap_id (by omega) (by omega), Int.toNat_natCast, fillN_snoc, take_snoc hj]; rfl
theorem specComplete_l {w h : Int} {l : List Int} {Q : List Nat} {n : Nat} (hQ : ∀ k ∈ Q, k < n) (hl : Q.length = n) (hn : n ≤ 64) (hll : l.length = n) : ∀ (d K i : Nat) (seen : List Nat) (outN b : List (List Nat)) (st : List Int × Int), allS Q d i seen outN = some b → i + d = n → st.1.length = n → 0 ≤ st.2 → st.2 + 64 * d ≤ 10000 → seen.length ≤ 6 * i → 1200 + 1200 * d ≤ K → ∃ rest, b = outN ++ rest ∧ spec_l4Complete.l0 K st.2 (cI seen) i (cI Q) w h l w h st.1 = some (w, h, (rest.foldl (stepC l) st).1, (rest.foldl (stepC l) st).2) := by
  intro d
  induction d with
  | zero =>
    intro K i seen outN b st h1 h2 h3 h4 h5 h6 h7
    obtain ⟨K, rfl⟩ := succ_of (show 0 < K by omega)
    simp only [allS] at h1; injection h1 with h1; subst h1
    refine ⟨[], by simp, ?_⟩
    simp only [spec_l4Complete.l0]; rw [if_neg (by omega)]; rfl
  | succ d ih =>
    intro K i seen outN b st h1 h2 h3 h4 h5 h6 h7
    obtain ⟨K, rfl⟩ := succ_of (show 0 < K by omega)
    simp only [allS] at h1
    simp only [spec_l4Complete.l0]
    rw [if_pos (by omega), has_eq (cI seen) i (by rw [cI_len]; omega) K (by rw [cI_len]; omega), mem_cI]; simp only [Option.bind_some]
    split at h1
    · next e =>
      rw [if_pos e, wrap_id (by omega) (by omega), show ((i : Int) + 1) = ((i + 1 : Nat) : Int) by omega]
      exact ih K (i + 1) seen outN b st h1 (by omega) h3 h4 (by omega) (by omega) (by omega)
    · next e =>
      rw [if_neg e]
      cases h8 : oneS Q 6 i [] with
      | none => rw [h8] at h1; simp at h1
      | some o =>
        rw [h8] at h1; simp only [Option.bind_some] at h1
        have hol := oneS_len Q 6 i [] o h8
        have hom := oneS_mem hQ hl 6 i [] o h8 (by omega) (by simp)
        simp only [List.length_nil] at hol
        have hble := best_le l o
        obtain ⟨K1, a1, a2, a3⟩ := specOne (w := w) (h := h) (l := l) (out := st.1) hQ hl hn st.2 seen (by omega) i 6 K i [] o h8 (by omega) (by simp) (by omega)
        rw [show (([] : List Int)) = cI [] from rfl, a3]
        obtain ⟨K2, b1, b2, b3⟩ := specBest (w := w) (h := h) (l := l) (out := st.1) (Q' := cI Q) (o := o) (by rw [hll]; exact hom) (by omega) st.2 i (cI (seen ++ o)) 6 K1 0 0 0 (by omega) (by omega)
        rw [show (((0 : Nat)) : Int) = 0 from rfl] at b3
        rw [b3, List.drop_zero]
        obtain ⟨K3, c1, c2⟩ := specFill (w := w) (h := h) (l := l) (out := st.1) (Q' := cI Q) (o := o) (by rw [h3]; exact hom) (by omega) (wrap64 ((wrap64 (st.2 + (o.length : Int))) - ((bestF (cntL l o) 0 0 0).2 : Int))) i ((bestF (cntL l o) 0 0 0).1 : Int) (cI (seen ++ o)) o.length K2 0 (by omega) (by omega)
        rw [show fillN st.1 (o.take 0) ((bestF (cntL l o) 0 0 0).1 : Int) = st.1 from rfl, show (((0 : Nat)) : Int) = 0 from rfl] at c2
        have hb2 : (bestF (cntL l o) 0 0 0).2 ≤ o.length := hble.1
        rw [c2, wrap_id (x := (i : Int) + 1) (by omega) (by omega), wrap_id (x := st.2 + (o.length : Int)) (by omega) (by omega), wrap_id (by omega) (by omega), show ((i : Int) + 1) = ((i + 1 : Nat) : Int) by omega]
        obtain ⟨rest, r1, r2⟩ := ih K3 (i + 1) (seen ++ o) (outN ++ [o]) b (stepC l st o) h1 (by omega) (by unfold stepC; simp only [fillN_len]; exact h3) (by unfold stepC bestR; simp only; omega) (by unfold stepC bestR; simp only; omega) (by rw [List.length_append]; omega) (by omega)
        refine ⟨o :: rest, by rw [r1]; simp, ?_⟩
        rw [List.foldl_cons]
        exact r2
theorem invN_len (P : List Nat) : (invN P).length = P.length := by unfold invN; simp
/-- A completed chart and the number of its changes, whichever orbits both walk. -/
theorem complete_both {w h s : Nat} {l : List Int} (hw : 1 ≤ w ∧ w ≤ 8) (hh : 1 ≤ h ∧ h ≤ 8) (hs : s ≤ 7) (ha : s % 2 = 0 ∨ w = h) (hll : l.length = w * h) (hlc : ∀ x ∈ l, 0 ≤ x ∧ x ≤ 5) : ∃ (r : List Int) (n : Int), r.length = w * h ∧ (∀ k, 100000 ≤ k → spec_l4Complete.f k w h l s = some ((w : Int), (h : Int), r, n)) ∧ (∀ k, 100000 ≤ k → impl_Chart_complete.f k w h l s = some ((w : Int), (h : Int), r, n, true)) := by
  have hn : w * h ≤ 64 := Nat.mul_le_mul hw.2 hh.2
  obtain ⟨a, b, ea, eb, hlen, hz, hP, hp, hQ, hc, hc'⟩ := chk_of (chk_asked hw hh hs ha)
  have hPl := permN_len hw hh hc hc'
  have hfold := fold_perm l a b (l, 0) hlen (fun z hz' => (hz z hz').1)
  have step_len : ∀ (a : List (List Nat)) (st : List Int × Int), (a.foldl (stepC l) st).1.length = st.1.length := by
    intro a
    induction a with
    | nil => intro st; rfl
    | cons x a ih => intro st; rw [List.foldl_cons, ih]; unfold stepC; simp only [fillN_len]
  refine ⟨(b.foldl (stepC l) (l, 0)).1, (b.foldl (stepC l) (l, 0)).2, by rw [step_len]; exact hll, fun k hk => ?_, fun k hk => ?_⟩
  · unfold spec_l4Complete.f
    rw [l2Own_eq _ _ l (by omega)]; simp only [Option.bind_some]
    rw [specPlaces_yes hw hh hll hP hp hc hc' k (by omega)]; simp only [Option.bind_some]
    obtain ⟨rest, r1, r2⟩ := specComplete_l (w := w) (h := h) (l := l) hQ (by rw [invN_len]; exact hPl) hn hll (w * h) k 0 [] [] b (l, 0) eb (by omega) hll (by simp) (by simp; omega) (by simp) (by omega)
    rw [List.nil_append] at r1; subst r1
    exact r2
  · unfold impl_Chart_complete.f
    rw [implOrbits_yes hw hh ea hP hp hc hc' k (by omega)]; simp only [Option.bind_some]
    rw [copied_eq _ _ l (by omega)]; simp only [Option.bind_some]
    have hal : a.length ≤ 64 := by
      have key : ∀ (d i : Nat) (met : List Bool) (out r : List (List Nat)), allI (permN w h s) d i met out = some r → r.length ≤ out.length + d := by
        intro d
        induction d with
        | zero => intro i met out r hr; simp only [allI] at hr; injection hr with hr; subst hr; omega
        | succ d ih =>
          intro i met out r hr
          simp only [allI] at hr
          cases h1 : oneI (permN w h s) 6 met i [] with
          | none => rw [h1] at hr; simp at hr
          | some z =>
            rw [h1] at hr; simp only [Option.bind_some] at hr
            have := ih _ _ _ _ hr
            split at this
            · omega
            · rw [List.length_append] at this; simp at this; omega
      have := key _ _ _ _ _ ea; simp at this; omega
    have hao : ∀ o ∈ a, o.length ≤ 64 ∧ ∀ k ∈ o, k < l.length := by
      have key : ∀ (d i : Nat) (met : List Bool) (out r : List (List Nat)), allI (permN w h s) d i met out = some r → (∀ o ∈ out, o.length ≤ 64) → ∀ o ∈ r, o.length ≤ 64 := by
        intro d
        induction d with
        | zero => intro i met out r hr ho; simp only [allI] at hr; injection hr with hr; subst hr; exact ho
        | succ d ih =>
          intro i met out r hr ho
          simp only [allI] at hr
          cases h1 : oneI (permN w h s) 6 met i [] with
          | none => rw [h1] at hr; simp at hr
          | some z =>
            rw [h1] at hr; simp only [Option.bind_some] at hr
            refine ih _ _ _ _ hr ?_
            have hlz := oneI_len _ 6 met i [] z.1 z.2 h1
            intro o hoo
            split at hoo
            · exact ho o hoo
            · rw [List.mem_append, List.mem_singleton] at hoo
              rcases hoo with hoo | rfl
              · exact ho o hoo
              · have := hlz.1; simp at this; omega
      intro o ho
      refine ⟨key _ _ _ _ _ ea (by simp) o ho, ?_⟩
      obtain ⟨i, hi, e⟩ := List.mem_iff_getElem.1 ho
      rw [hll]
      refine (hz (a[i], b[i]'(by omega)) ?_).2 |> fun hh2 => by rw [← e]; exact hh2
      rw [List.mem_iff_getElem]
      exact ⟨i, by rw [List.length_zip]; omega, by rw [List.getElem_zip]⟩
    have := implComplete_l (w := w) (h := h) hlc a hao hal true a.length k 0 (l, 0) (by omega) rfl (by simp) (by simp; omega) (by omega)
    rw [List.drop_zero, hfold] at this
    unfold cLL at this ⊢
    rw [List.length_map]
    exact this
theorem complete_no {w h s : Nat} {l : List Int} (hw : 1 ≤ w ∧ w ≤ 8) (hh : 1 ≤ h ∧ h ≤ 8) (hs : s ≤ 7) (ho : s % 2 = 1) (hne : w ≠ h) (hll : l.length = w * h) (k : Nat) (hk : 100000 ≤ k) : impl_Chart_complete.f k w h l s = some ((w : Int), (h : Int), l, 0, false) := by
  have hn : w * h ≤ 64 := Nat.mul_le_mul hw.2 hh.2
  unfold impl_Chart_complete.f
  rw [implOrbits_no hw hh hs ho hne k (by omega)]; simp only [Option.bind_some]
  rw [copied_eq _ _ l (by omega)]; simp only [Option.bind_some]
  obtain ⟨k, rfl⟩ := succ_of (show 0 < k by omega)
  simp only [impl_Chart_complete.l0]; rw [if_neg (by simp)]
def askedB (w h : Int) (l : List Int) (s : Int) : Bool := goodB w h l && symB s && (decide (s % 2 = 0) || decide (w = h))
theorem asked_eq (w h : Int) (l : List Int) (s : Int) (hl : l.length ≤ 4194304) (k : Nat) (hk : l.length < k) : spec_l4Asked.f k w h l s = some (askedB w h l s) := by
  unfold spec_l4Asked.f askedB
  rw [l2Good_eq w h l (by omega) k (by omega)]; simp only [Option.bind_some]
  by_cases e : goodB w h l = true
  · rw [if_pos e, l4Symm_eq]; simp only [Option.bind_some]
    by_cases e2 : symB s = true
    · have := symB_of e2
      rw [if_pos e2, Int.tmod_eq_emod_of_nonneg (by omega)]
      by_cases e3 : s % 2 = 0
      · rw [if_pos e3]; simp [e, e2, e3]
      · rw [if_neg e3]; simp [e, e2, e3]
        rw [Bool.eq_iff_iff]; simp
    · rw [if_neg e2]; simp [e2]
  · rw [if_neg e]; simp [e]
/-- All that both need: what is asked, the completed chart, or none. -/
theorem complete_ev (w h : Int) (l : List Int) (s : Int) (hl : l.length ≤ 4194304) : (askedB w h l s = true ∧ ∃ (r : List Int) (n : Int), r.length ≤ 64 ∧ (∀ k, 100000 ≤ k → spec_l4Complete.f k w h l s = some (w, h, r, n)) ∧ (∀ k, 100000 ≤ k → impl_Chart_complete.f k w h l s = some (w, h, r, n, true))) ∨ (askedB w h l s = false ∧ (goodB w h l = true → symB s = true → ∀ k, 100000 ≤ k → impl_Chart_complete.f k w h l s = some (w, h, l, 0, false))) := by
  by_cases e : goodB w h l = true
  · by_cases e2 : symB s = true
    · have hs := symB_of e2
      have hg := good_of e
      obtain ⟨w, rfl⟩ := Int.eq_ofNat_of_zero_le (show 0 ≤ w by omega)
      obtain ⟨h, rfl⟩ := Int.eq_ofNat_of_zero_le (show 0 ≤ h by omega)
      obtain ⟨s, rfl⟩ := Int.eq_ofNat_of_zero_le hs.1
      have hw : 1 ≤ w ∧ w ≤ 8 := by omega
      have hh : 1 ≤ h ∧ h ≤ 8 := by omega
      have hll : l.length = w * h := by have := hg.2.2.1; rw [← Int.natCast_mul] at this; omega
      by_cases ha : s % 2 = 0 ∨ w = h
      · left
        refine ⟨?_, ?_⟩
        · unfold askedB; rw [e, e2]; simp only [Bool.true_and, Bool.or_eq_true, decide_eq_true_eq]; omega
        · obtain ⟨r, n, h1, h2, h3⟩ := complete_both hw hh (by omega) ha hll hg.2.2.2
          have := Nat.mul_le_mul hw.2 hh.2
          exact ⟨r, n, by omega, h2, h3⟩
      · right
        refine ⟨?_, fun _ _ k hk => complete_no hw hh (by omega) (by omega) (by omega) hll k hk⟩
        unfold askedB; rw [e, e2, ← Bool.not_eq_true]; simp only [Bool.true_and, Bool.or_eq_true, decide_eq_true_eq]; omega
    · right; exact ⟨by unfold askedB; simp [e2], fun _ h2 => absurd h2 e2⟩
  · right; exact ⟨by unfold askedB; simp [e], fun h1 => absurd h1 e⟩
theorem both (w h : Int) (l : List Int) (s : Int) (hl : l.length ≤ 4194304) : ∃ r0 r1 k0, (∀ k, k0 ≤ k → spec_FewestChanges.f k w h l s = some (r0, r1)) ∧ (∀ k, k0 ≤ k → impl_FewestChanges.f k w h l s = some (r0, r1)) := by
  rcases complete_ev w h l s hl with ⟨ha, r, n, hr, h1, h2⟩ | ⟨ha, h2⟩
  · refine ⟨n, true, l.length + 100001, fun k hk => ?_, fun k hk => ?_⟩
    · unfold spec_FewestChanges.f; rw [asked_eq w h l s hl k (by omega)]; simp only [Option.bind_some]; rw [if_pos ha, h1 k (by omega)]; rfl
    · unfold askedB at ha; simp only [Bool.and_eq_true] at ha
      unfold impl_FewestChanges.f; rw [isChart_eq w h l (by omega) k (by omega)]; simp only [Option.bind_some]; rw [if_pos ha.1.1, isSymm_eq]; simp only [Option.bind_some]
      rw [if_pos ha.1.2, h2 k (by omega)]; rfl
  · refine ⟨0, false, l.length + 100001, fun k hk => ?_, fun k hk => ?_⟩
    · unfold spec_FewestChanges.f; rw [asked_eq w h l s hl k (by omega)]; simp only [Option.bind_some]; rw [if_neg (by simp [ha])]
    · unfold impl_FewestChanges.f; rw [isChart_eq w h l (by omega) k (by omega)]; simp only [Option.bind_some]
      by_cases e : goodB w h l = true
      · rw [if_pos e, isSymm_eq]; simp only [Option.bind_some]
        by_cases e2 : symB s = true
        · rw [if_pos e2, h2 e e2 k (by omega)]; rfl
        · rw [if_neg e2]
      · rw [if_neg e]
theorem FnExactFewestChanges : laws_FnExactFewestChanges.Pure := by
  intro a0_0 a0_1 l0_2 a1 _ _ hwl0_2 _ _
  obtain ⟨b0, e0, c0⟩ := szChart_eq a0_0 a0_1 l0_2 1048576 (by omega) (by omega) (by omega)
  by_cases hs0 : b0 < 0
  · refine ⟨0, ?_⟩
    unfold laws_FnExactFewestChanges.f; simp only [Option.bind_some, if_true, if_false, e0, hs0]
  obtain ⟨kt0, t0⟩ := toChart_ev a0_0 a0_1 l0_2 (by omega)
  have zll0_2 := cvIntS_len l0_2
  generalize hcl0_2 : cvIntS l0_2 = ml0_2 at zll0_2 t0
  obtain ⟨r0, r1, kb, sp_, im_⟩ := both a0_0 a0_1 ml0_2 a1 (by omega)
  obtain ⟨ke0, q0⟩ := eqChart_ev a0_0 a0_1 ml0_2 (by omega)
  obtain ⟨K, hK⟩ : ∃ K, K = kt0 + kb + ke0 := ⟨_, rfl⟩
  refine ⟨K + 6, ?_⟩
  unfold laws_FnExactFewestChanges.f
  simp only [laws_FnExactFewestChanges.j0, Option.bind_some, if_true, if_false, bne_self_eq_false, Bool.false_eq_true, e0, hs0, t0 (K + 6) (by omega), sp_ (K + 6) (by omega), im_ (K + 6) (by omega), q0 (K + 6) (by omega), t0 (K + 5) (by omega), sp_ (K + 5) (by omega), im_ (K + 5) (by omega), q0 (K + 5) (by omega), t0 (K + 4) (by omega), sp_ (K + 4) (by omega), im_ (K + 4) (by omega), q0 (K + 4) (by omega), t0 (K + 3) (by omega), sp_ (K + 3) (by omega), im_ (K + 3) (by omega), q0 (K + 3) (by omega), t0 (K + 2) (by omega), sp_ (K + 2) (by omega), im_ (K + 2) (by omega), q0 (K + 2) (by omega), t0 (K + 1) (by omega), sp_ (K + 1) (by omega), im_ (K + 1) (by omega), q0 (K + 1) (by omega)]
end Go.Proofs.Ytijmljaemalgmaa.Pure
