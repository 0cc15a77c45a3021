/- The program's NewWeaving returns what the reference's NewWeaving returns, for every chart. -/
import Derived.Test.YtebljeaeoedgjaaPFnExactNewWeavingx4
namespace Go.Proofs.Ytebljeaeoedgjaa.Pure
open Go.RowKit Go.Proofs.Ytebljeaeoedgjaa.PFnExactNewWeaving Go.Proofs.YtebljeaeoedgjaaW.PrintWords Go.Proofs.YtebljeaeoedgjaaW.PrintLast
set_option linter.unusedVariables false
set_option linter.unusedSimpArgs false
theorem wrap_id {x : Int} (h : -9223372036854775808 ≤ x) (h' : x ≤ 9223372036854775807) : wrap64 x = x := by unfold wrap64; omega
theorem rd_get (l : List Int) (i : Nat) (h : i < l.length) : rd l (i : Int) = l[i] := by
  unfold rd; rw [Int.toNat_natCast, List.getD_eq_getElem?_getD, List.getElem?_eq_getElem h]; rfl
theorem succ_of {k : Nat} (h : 0 < k) : ∃ m, k = m + 1 := ⟨k - 1, by omega⟩
theorem szIntS_eq (l0 : List Int) (a : Int) (h0 : 0 ≤ a) (h1 : a ≤ 1048576) (hll0 : l0.length ≤ 140737488351232) : ∃ b, laws_szIntS.f l0 a = some b ∧ (b < 0 ∨ 0 ≤ b ∧ b ≤ a ∧ l0.length ≤ 1048576) := by
  unfold laws_szIntS.f
  rw [wrap_id (by omega) (by omega)]
  by_cases e : a - (l0.length : Int) < 0
  · rw [if_pos e]; exact ⟨_, rfl, Or.inl (by omega)⟩
  · rw [if_neg e]; exact ⟨_, rfl, Or.inr (by omega)⟩
theorem szChart_eq (a0_0 : Int) (a0_1 : Int) (l0_2 : List Int) (a : Int) (h0 : 0 ≤ a) (h1 : a ≤ 1048576) (hll0_2 : l0_2.length ≤ 140737488351232) : ∃ b, laws_szChart.f a0_0 a0_1 l0_2 a = some b ∧ (b < 0 ∨ 0 ≤ b ∧ b ≤ a ∧ l0_2.length ≤ 1048576) := by
  unfold laws_szChart.f
  obtain ⟨b0, e0, c0⟩ := szIntS_eq l0_2 a (by omega) (by omega) (by omega)
  rw [e0]; simp only [Option.bind_some]
  by_cases f0 : b0 < 0
  · rw [if_pos f0]; exact ⟨_, rfl, Or.inl (by omega)⟩
  rw [if_neg f0]
  exact ⟨_, rfl, Or.inr (by omega)⟩
def cvIntS (l : List Int) : List Int := l
theorem cvIntS_len (l : List Int) : (cvIntS l).length = l.length := by rfl
theorem toIntS_l (l : List Int) (hl : l.length ≤ 4194304) : ∀ (d i : Nat) (acc : List Int), i + d = l.length → acc.length = l.length → (∀ j, j < i → acc[j]? = (cvIntS l)[j]?) → ∃ k0, ∀ k, k0 ≤ k → laws_toIntS.l0 k l i acc = some (cvIntS l) := by
  intro d
  induction d with
  | zero =>
    intro i acc h1 h2 h3; refine ⟨1, fun k hk => ?_⟩
    obtain ⟨k, rfl⟩ := succ_of (show 0 < k by omega)
    simp only [laws_toIntS.l0]; rw [if_neg (by omega)]
    congr 1
    apply List.ext_getElem?
    intro j
    by_cases hj : j < i
    · exact h3 j hj
    · rw [List.getElem?_eq_none (by omega), List.getElem?_eq_none (by rw [cvIntS_len]; omega)]
  | succ d ih =>
    intro i acc h1 h2 h3
    obtain ⟨k0, h0⟩ := ih (i + 1) (acc.set i (rd l i)) (by omega) (by simpa using h2) (by
      intro j hj
      by_cases e : j = i
      · subst e
        rw [List.getElem?_set_self (by omega)]
        unfold rd; rw [Int.toNat_natCast, List.getD_eq_getElem?_getD, List.getElem?_eq_getElem (show j < l.length by omega)]; simp [cvIntS, List.getElem?_eq_getElem (show j < l.length by omega)]
      · rw [List.getElem?_set_ne (fun h => e h.symm)]; exact h3 j (by omega))
    refine ⟨k0 + 1, fun k hk => ?_⟩
    obtain ⟨k, rfl⟩ := succ_of (show 0 < k by omega)
    simp only [laws_toIntS.l0]; rw [if_pos (by omega), if_pos (by omega)]; rw [if_pos (by omega), wrap_id (by omega) (by omega)]
    rw [Int.toNat_natCast]; exact h0 k (by omega)
theorem toIntS_ev (l : List Int) (hl : l.length ≤ 4194304) : ∃ k0, ∀ k, k0 ≤ k → laws_toIntS.f k l = some (cvIntS l) := by
  obtain ⟨k0, h0⟩ := toIntS_l l hl l.length 0 (List.replicate l.length 0) (by omega) (by simp) (fun j hj => by omega)
  refine ⟨k0, fun k hk => ?_⟩
  unfold laws_toIntS.f; rw [if_pos (by omega), Int.toNat_natCast, if_pos (by omega)]; exact h0 k hk
theorem toChart_ev (a0_0 : Int) (a0_1 : Int) (l0_2 : List Int) (hll0_2 : l0_2.length ≤ 4194304) : ∃ k0, ∀ k, k0 ≤ k → laws_toChart.f k a0_0 a0_1 l0_2 = some (a0_0, a0_1, cvIntS l0_2) := by
  obtain ⟨k0, h0⟩ := toIntS_ev l0_2 (by omega)
  refine ⟨k0, fun k hk => ?_⟩
  unfold laws_toChart.f; simp only [h0 k (by omega), Option.bind_some]
theorem eqIntS_l (l : List Int) (hl : l.length ≤ 4194304) : ∀ (d i : Nat), i + d = l.length → ∃ k0, ∀ k, k0 ≤ k → laws_eqIntS.l0 k l l i = some true := by
  intro d
  induction d with
  | zero =>
    intro i h; refine ⟨1, fun k hk => ?_⟩
    obtain ⟨k, rfl⟩ := succ_of (show 0 < k by omega)
    simp only [laws_eqIntS.l0]; rw [if_neg (by omega)]
  | succ d ih =>
    intro i h; obtain ⟨k0, h0⟩ := ih (i + 1) (by omega); refine ⟨k0 + 1, fun k hk => ?_⟩
    obtain ⟨k, rfl⟩ := succ_of (show 0 < k by omega)
    simp only [laws_eqIntS.l0]; rw [if_pos (by omega), if_pos (by omega), if_pos (by omega)]; simp only [if_true]
    rw [wrap_id (by omega) (by omega)]; exact h0 k (by omega)
theorem eqIntS_ev (l : List Int) (hl : l.length ≤ 4194304) : ∃ k0, ∀ k, k0 ≤ k → laws_eqIntS.f k l l = some true := by
  obtain ⟨k0, h0⟩ := eqIntS_l l hl l.length 0 (by omega)
  refine ⟨k0, fun k hk => ?_⟩
  unfold laws_eqIntS.f; rw [if_pos rfl]; exact h0 k hk
theorem eqChart_ev (a0_0 : Int) (a0_1 : Int) (l0_2 : List Int) (hll0_2 : l0_2.length ≤ 4194304) : ∃ k0, ∀ k, k0 ≤ k → laws_eqChart.f k a0_0 a0_1 l0_2 a0_0 a0_1 l0_2 = some true := by
  obtain ⟨k0, h0⟩ := eqIntS_ev l0_2 (by omega)
  refine ⟨k0, fun k hk => ?_⟩
  unfold laws_eqChart.f; simp [h0 k (by omega)]
theorem eqDeviation_eq (a0_0 : Int) (a0_1 : Int) : laws_eqDeviation.f a0_0 a0_1 a0_0 a0_1 = some true := by
  unfold laws_eqDeviation.f; simp
theorem eqDeviationS_l (l : List (S64)) (hl : l.length ≤ 4194304) : ∀ (d i : Nat), i + d = l.length → ∃ k0, ∀ k, k0 ≤ k → laws_eqDeviationS.l0 k l l i = some true := by
  intro d
  induction d with
  | zero =>
    intro i h; refine ⟨1, fun k hk => ?_⟩
    obtain ⟨k, rfl⟩ := succ_of (show 0 < k by omega)
    simp only [laws_eqDeviationS.l0]; rw [if_neg (by omega)]
  | succ d ih =>
    intro i h; obtain ⟨k0, h0⟩ := ih (i + 1) (by omega); refine ⟨k0 + 1, fun k hk => ?_⟩
    obtain ⟨k, rfl⟩ := succ_of (show 0 < k by omega)
    simp only [laws_eqDeviationS.l0]; rw [if_pos (by omega), if_pos (by omega), if_pos (by omega)]; simp only [eqDeviation_eq, Option.bind_some, if_true]
    rw [wrap_id (by omega) (by omega)]; exact h0 k (by omega)
theorem eqDeviationS_ev (l : List (S64)) (hl : l.length ≤ 4194304) : ∃ k0, ∀ k, k0 ≤ k → laws_eqDeviationS.f k l l = some true := by
  obtain ⟨k0, h0⟩ := eqDeviationS_l l hl l.length 0 (by omega)
  refine ⟨k0, fun k hk => ?_⟩
  unfold laws_eqDeviationS.f; rw [if_pos rfl]; exact h0 k hk
theorem eqWeaving_ev (a0_0 : Int) (a0_1 : Int) (l0_2 : List Int) (l0_3 : List Int) (a0_4 : Int) (l0_5 : List (S64)) (a0_6 : Bool) (hll0_2 : l0_2.length ≤ 4194304) (hll0_3 : l0_3.length ≤ 4194304) (hll0_5 : l0_5.length ≤ 4194304) : ∃ k0, ∀ k, k0 ≤ k → laws_eqWeaving.f k a0_0 a0_1 l0_2 l0_3 a0_4 l0_5 a0_6 a0_0 a0_1 l0_2 l0_3 a0_4 l0_5 a0_6 = some true := by
  obtain ⟨k0, h0⟩ := eqChart_ev a0_0 a0_1 l0_2 (by omega)
  obtain ⟨k1, h1⟩ := eqIntS_ev l0_3 (by omega)
  obtain ⟨k2, h2⟩ := eqDeviationS_ev l0_5 (by omega)
  refine ⟨k0 + k1 + k2, fun k hk => ?_⟩
  unfold laws_eqWeaving.f; simp [h0 k (by omega), h1 k (by omega), h2 k (by omega)]
theorem mhIntS_l : ∀ (d : Nat) (xs : List Int) (a : Int) (i : Nat), i + d = xs.length → xs.length ≤ 4194304 → 0 ≤ a → a + 1 * d ≤ 4503599627370496 → ∃ (n : Int) (ys : List Int) (k0 : Nat), 0 ≤ n ∧ n ≤ 1 * d ∧ ys.length = xs.length ∧ (∀ j, j < i → ys[j]? = xs[j]?) ∧ (∀ k, k0 ≤ k → laws_markIntS.l0 k xs a i = some (a + n, ys)) ∧ (∀ k, k0 ≤ k → laws_heldIntS.l0 k ys a i = some (a + n)) := by
  intro d
  induction d with
  | zero =>
    intro xs a i h1 h2 h3 h4
    refine ⟨0, xs, 1, by omega, by omega, rfl, fun _ _ => rfl, fun k hk => ?_, fun k hk => ?_⟩
    · obtain ⟨k, rfl⟩ := succ_of (show 0 < k by omega)
      simp only [laws_markIntS.l0]; rw [if_neg (by omega), Int.add_zero]
    · obtain ⟨k, rfl⟩ := succ_of (show 0 < k by omega)
      simp only [laws_heldIntS.l0]; rw [if_neg (by omega), Int.add_zero]
  | succ d ih =>
    intro xs a i h1 h2 h3 h4
    obtain ⟨n, ys, k0, g1, g2, g3, g4, g5, g6⟩ := ih (xs.set i a) (a + 1) (i + 1) (by simp only [List.length_set]; omega) (by simp only [List.length_set]; omega) (by omega) (by omega)
    simp only [List.length_set] at g3
    have hi : ys[i]? = some a := by rw [g4 i (by omega), List.getElem?_set_self (by omega)]
    have hr : rd ys (i : Int) = a := by unfold rd; rw [Int.toNat_natCast, List.getD_eq_getElem?_getD, hi]; rfl
    have hs : ∀ v, rd (xs.set i v) (i : Int) = v := fun v => by unfold rd; rw [Int.toNat_natCast, List.getD_eq_getElem?_getD, List.getElem?_set_self (by omega)]; rfl
    have w1 : wrap64 (a + 1) = a + 1 := wrap_id (by omega) (by omega)
    have wi : wrap64 ((i : Int) + 1) = ((i + 1 : Nat) : Int) := by rw [wrap_id (by omega) (by omega)]; rfl
    refine ⟨n + 1, ys, k0 + 1, by omega, by omega, g3, fun j hj => ?_, fun k hk => ?_, fun k hk => ?_⟩
    · rw [g4 j (by omega), List.getElem?_set_ne (by omega)]
    · obtain ⟨k, rfl⟩ := succ_of (show 0 < k by omega)
      simp only [laws_markIntS.l0]; rw [if_pos (by omega), if_pos (by omega)]
      simp only [Option.bind_some, Int.toNat_natCast, hs, List.set_set, w1, wi]
      rw [g5 k (by omega)]; simp only [Option.some.injEq, Prod.mk.injEq, and_true]; omega
    · obtain ⟨k, rfl⟩ := succ_of (show 0 < k by omega)
      simp only [laws_heldIntS.l0]; rw [if_pos (by omega), if_pos (by omega)]
      simp only [hr, w1, wi, if_true]
      rw [g6 k (by omega)]; simp only [Option.some.injEq]; omega
theorem mhIntS_ev (l : List Int) (hl : l.length ≤ 4194304) (a : Int) (h0 : 0 ≤ a) (h1 : a ≤ 1125899906842624) : ∃ (n : Int) (y0 : List Int) (k0 : Nat), 0 ≤ n ∧ n ≤ 4194304 ∧ y0.length = l.length ∧ (∀ k, k0 ≤ k → laws_markIntS.f k l a = some (a + n, y0)) ∧ (∀ k, k0 ≤ k → laws_heldIntS.f k y0 a = some (a + n)) := by
  obtain ⟨n, ys, k0, g1, g2, g3, g4, g5, g6⟩ := mhIntS_l l.length l a 0 (by omega) hl h0 (by omega)
  exact ⟨n, ys, k0, g1, by omega, g3, fun k hk => g5 k hk, fun k hk => g6 k hk⟩
theorem mhChart_ev (a0_0 : Int) (a0_1 : Int) (l0_2 : List Int) (hll0_2 : l0_2.length ≤ 4194304) (a : Int) (h0 : 0 ≤ a) (h1 : a ≤ 1125899902648320) : ∃ (n : Int) (y_l0_2 : List Int) (k0 : Nat), 0 ≤ n ∧ n ≤ 4194304 ∧ y_l0_2.length = l0_2.length ∧ (∀ k, k0 ≤ k → laws_markChart.f k a0_0 a0_1 l0_2 a = some (a + n, y_l0_2)) ∧ (∀ k, k0 ≤ k → laws_heldChart.f k a0_0 a0_1 y_l0_2 a = some (a + n)) := by
  obtain ⟨n0, y_l0_2, k0, p0, q0, z_l0_2, m0, e0⟩ := mhIntS_ev l0_2 (by omega) (a) (by omega) (by omega)
  have ea : a + n0 = a + (n0) := by omega
  have u0 : ¬ (a + n0 < 0) := by omega
  refine ⟨n0, y_l0_2, k0, by omega, by omega, z_l0_2, fun k hk => ?_, fun k hk => ?_⟩
  · unfold laws_markChart.f; simp only [m0 k (by omega), Option.bind_some, ea]
  · unfold laws_heldChart.f; simp only [e0 k (by omega), Option.bind_some, u0, if_false]; try rw [ea]
theorem mhDeviationS_l : ∀ (d : Nat) (xs : List (S64)) (a : Int) (i : Nat), i + d = xs.length → xs.length ≤ 4194304 → 0 ≤ a → a + 2 * d ≤ 4503599627370496 → ∃ (n : Int) (ys : List (S64)) (k0 : Nat), 0 ≤ n ∧ n ≤ 2 * d ∧ ys.length = xs.length ∧ (∀ j, j < i → ys[j]? = xs[j]?) ∧ (∀ k, k0 ≤ k → laws_markDeviationS.l0 k xs a i = some (a + n, ys)) ∧ (∀ k, k0 ≤ k → laws_heldDeviationS.l0 k ys a i = some (a + n)) := by
  intro d
  induction d with
  | zero =>
    intro xs a i h1 h2 h3 h4
    refine ⟨0, xs, 1, by omega, by omega, rfl, fun _ _ => rfl, fun k hk => ?_, fun k hk => ?_⟩
    · obtain ⟨k, rfl⟩ := succ_of (show 0 < k by omega)
      simp only [laws_markDeviationS.l0]; rw [if_neg (by omega), Int.add_zero]
    · obtain ⟨k, rfl⟩ := succ_of (show 0 < k by omega)
      simp only [laws_heldDeviationS.l0]; rw [if_neg (by omega), Int.add_zero]
  | succ d ih =>
    intro xs a i h1 h2 h3 h4
    obtain ⟨n, ys, k0, g1, g2, g3, g4, g5, g6⟩ := ih (xs.set i (⟨a, a + 1⟩ : S64)) (a + 1 + 1) (i + 1) (by simp only [List.length_set]; omega) (by simp only [List.length_set]; omega) (by omega) (by omega)
    simp only [List.length_set] at g3
    have hi : ys[i]? = some (⟨a, a + 1⟩ : S64) := by rw [g4 i (by omega), List.getElem?_set_self (by omega)]
    have hr : rd_T64 ys (i : Int) = (⟨a, a + 1⟩ : S64) := by unfold rd_T64; rw [Int.toNat_natCast, List.getD_eq_getElem?_getD, hi]; rfl
    have hs : ∀ v, rd_T64 (xs.set i v) (i : Int) = v := fun v => by unfold rd_T64; rw [Int.toNat_natCast, List.getD_eq_getElem?_getD, List.getElem?_set_self (by omega)]; rfl
    have w1 : wrap64 (a + 1) = a + 1 := wrap_id (by omega) (by omega)
    have w2 : wrap64 (a + 1 + 1) = a + 1 + 1 := wrap_id (by omega) (by omega)
    have wi : wrap64 ((i : Int) + 1) = ((i + 1 : Nat) : Int) := by rw [wrap_id (by omega) (by omega)]; rfl
    refine ⟨n + 2, ys, k0 + 1, by omega, by omega, g3, fun j hj => ?_, fun k hk => ?_, fun k hk => ?_⟩
    · rw [g4 j (by omega), List.getElem?_set_ne (by omega)]
    · obtain ⟨k, rfl⟩ := succ_of (show 0 < k by omega)
      simp only [laws_markDeviationS.l0]; rw [if_pos (by omega), if_pos (by omega)]
      simp only [Option.bind_some, Int.toNat_natCast, hs, List.set_set, w1, w2, wi]
      rw [g5 k (by omega)]; simp only [Option.some.injEq, Prod.mk.injEq, and_true]; omega
    · obtain ⟨k, rfl⟩ := succ_of (show 0 < k by omega)
      simp only [laws_heldDeviationS.l0]; rw [if_pos (by omega), if_pos (by omega)]
      simp only [hr, w1, w2, wi, if_true]
      rw [g6 k (by omega)]; simp only [Option.some.injEq]; omega
theorem mhDeviationS_ev (l : List (S64)) (hl : l.length ≤ 4194304) (a : Int) (h0 : 0 ≤ a) (h1 : a ≤ 1125899906842624) : ∃ (n : Int) (y0 : List (S64)) (k0 : Nat), 0 ≤ n ∧ n ≤ 8388608 ∧ y0.length = l.length ∧ (∀ k, k0 ≤ k → laws_markDeviationS.f k l a = some (a + n, y0)) ∧ (∀ k, k0 ≤ k → laws_heldDeviationS.f k y0 a = some (a + n)) := by
  obtain ⟨n, ys, k0, g1, g2, g3, g4, g5, g6⟩ := mhDeviationS_l l.length l a 0 (by omega) hl h0 (by omega)
  exact ⟨n, ys, k0, g1, by omega, g3, fun k hk => g5 k hk, fun k hk => g6 k hk⟩
theorem mhWeaving_ev (a0_0 : Int) (a0_1 : Int) (l0_2 : List Int) (l0_3 : List Int) (a0_4 : Int) (l0_5 : List (S64)) (a0_6 : Bool) (hll0_2 : l0_2.length ≤ 4194304) (hll0_3 : l0_3.length ≤ 4194304) (hll0_5 : l0_5.length ≤ 4194304) (a : Int) (h0 : 0 ≤ a) (h1 : a ≤ 1125899890065408) : ∃ (n : Int) (y_l0_2 : List Int) (y_l0_3 : List Int) (y_l0_5 : List (S64)) (k0 : Nat), 0 ≤ n ∧ n ≤ 16777216 ∧ y_l0_2.length = l0_2.length ∧ y_l0_3.length = l0_3.length ∧ y_l0_5.length = l0_5.length ∧ (∀ k, k0 ≤ k → laws_markWeaving.f k a0_0 a0_1 l0_2 l0_3 a0_4 l0_5 a0_6 a = some (a + n, y_l0_2, y_l0_3, y_l0_5)) ∧ (∀ k, k0 ≤ k → laws_heldWeaving.f k a0_0 a0_1 y_l0_2 y_l0_3 a0_4 y_l0_5 a0_6 a = some (a + n)) := by
  obtain ⟨n0, y_l0_2, k0, p0, q0, z_l0_2, m0, e0⟩ := mhChart_ev a0_0 a0_1 l0_2 (by omega) (a) (by omega) (by omega)
  obtain ⟨n1, y_l0_3, k1, p1, q1, z_l0_3, m1, e1⟩ := mhIntS_ev l0_3 (by omega) (a + n0) (by omega) (by omega)
  obtain ⟨n2, y_l0_5, k2, p2, q2, z_l0_5, m2, e2⟩ := mhDeviationS_ev l0_5 (by omega) (a + n0 + n1) (by omega) (by omega)
  have ea : a + n0 + n1 + n2 = a + (n0 + n1 + n2) := by omega
  have u0 : ¬ (a + n0 < 0) := by omega
  have u1 : ¬ (a + n0 + n1 < 0) := by omega
  have u2 : ¬ (a + n0 + n1 + n2 < 0) := by omega
  refine ⟨n0 + n1 + n2, y_l0_2, y_l0_3, y_l0_5, k0 + k1 + k2, by omega, by omega, z_l0_2, z_l0_3, z_l0_5, fun k hk => ?_, fun k hk => ?_⟩
  · unfold laws_markWeaving.f; simp only [m0 k (by omega), m1 k (by omega), m2 k (by omega), Option.bind_some, ea]
  · unfold laws_heldWeaving.f; simp only [e0 k (by omega), e1 k (by omega), e2 k (by omega), Option.bind_some, u0, u1, u2, if_false]; try rw [ea]
def colorB (x : Int) : Bool := decide (0 ≤ x) && decide (x ≤ 5)
def sideB (x : Int) : Bool := decide (1 ≤ x) && decide (x ≤ 8)
def goodB (w h : Int) (l : List Int) : Bool := sideB w && sideB h && decide ((l.length : Int) = w * h) && l.all colorB
theorem l2Color_eq (x : Int) : spec_l2Color.f x = some (colorB x) := by
  unfold spec_l2Color.f spec_l1In.f colorB
  by_cases h : x ≥ 0
  · rw [if_pos h]; simp [show (0 : Int) ≤ x from h]
  · rw [if_neg h]; simp [show ¬ (0 : Int) ≤ x from h]
theorem l2Side_eq (x : Int) : spec_l2Side.f x = some (sideB x) := by
  unfold spec_l2Side.f spec_l1In.f sideB
  by_cases h : x ≥ 1
  · rw [if_pos h]; simp [show (1 : Int) ≤ x from h]
  · rw [if_neg h]; simp [show ¬ (1 : Int) ≤ x from h]
theorem side_of {x : Int} (h : sideB x = true) : 1 ≤ x ∧ x ≤ 8 := by unfold sideB at h; simpa using h
theorem color_of {x : Int} (h : colorB x = true) : 0 ≤ x ∧ x ≤ 5 := by unfold colorB at h; simpa using h
theorem mul_bd {w h : Int} (hw : 1 ≤ w ∧ w ≤ 8) (hh : 1 ≤ h ∧ h ≤ 8) : 1 ≤ w * h ∧ w * h ≤ 64 := by
  obtain ⟨a, b⟩ := hw; obtain ⟨c, d⟩ := hh
  have h1 : w = 1 ∨ w = 2 ∨ w = 3 ∨ w = 4 ∨ w = 5 ∨ w = 6 ∨ w = 7 ∨ w = 8 := by omega
  rcases h1 with rfl | rfl | rfl | rfl | rfl | rfl | rfl | rfl <;> omega
theorem good_of {w h : Int} {l : List Int} (hg : goodB w h l = true) : (1 ≤ w ∧ w ≤ 8) ∧ (1 ≤ h ∧ h ≤ 8) ∧ (l.length : Int) = w * h ∧ ∀ x ∈ l, 0 ≤ x ∧ x ≤ 5 := by
  unfold goodB at hg
  simp only [Bool.and_eq_true, decide_eq_true_eq, List.all_eq_true] at hg
  exact ⟨side_of hg.1.1.1, side_of hg.1.1.2, hg.1.2, fun x hx => color_of (hg.2 x hx)⟩
theorem l2Good_l (w h : Int) (l : List Int) (hl : l.length ≤ 35184372088832) : ∀ (d k i : Nat), i + d = l.length → d < k → (∀ j (hj : j < l.length), j < i → colorB l[j] = true) → spec_l2Good.l0 k i w h l = some (goodB w h l) := by
  intro d
  induction d with
  | zero =>
    intro k i h1 h2 h3
    obtain ⟨k, rfl⟩ := succ_of h2
    have hall : l.all colorB = true := by
      rw [List.all_eq_true]; intro x hx; obtain ⟨j, hj, rfl⟩ := List.mem_iff_getElem.1 hx; exact h3 j hj (by omega)
    simp only [spec_l2Good.l0]; rw [if_neg (by omega), l2Side_eq, l2Side_eq]
    simp only [Option.bind_some]
    unfold goodB
    cases e1 : sideB w <;> cases e2 : sideB h <;> simp [hall]
    rw [wrap_id (by have := mul_bd (side_of e1) (side_of e2); omega) (by have := mul_bd (side_of e1) (side_of e2); omega)]
    rfl
  | succ d ih =>
    intro k i h1 h2 h3
    obtain ⟨k, rfl⟩ := succ_of (Nat.lt_of_le_of_lt (Nat.zero_le _) h2)
    simp only [spec_l2Good.l0]; rw [if_pos (by omega), if_pos (by omega), l2Color_eq, rd_get l i (by omega)]
    simp only [Option.bind_some]
    by_cases hc : colorB l[i] = true
    · rw [if_pos hc, wrap_id (by omega) (by omega)]
      refine ih k (i + 1) (by omega) (by omega) fun j hj hji => ?_
      by_cases e : j = i
      · subst e; exact hc
      · exact h3 j hj (by omega)
    · rw [if_neg hc]
      have : l.all colorB = false := by
        rw [← Bool.not_eq_true, List.all_eq_true]; intro hh; exact hc (hh _ (List.getElem_mem _))
      unfold goodB; rw [this]; simp
theorem l2Good_eq (w h : Int) (l : List Int) (hl : l.length ≤ 35184372088832) (k : Nat) (hk : l.length < k) : spec_l2Good.f k w h l = some (goodB w h l) := by
  unfold spec_l2Good.f
  exact l2Good_l w h l hl l.length k 0 (by omega) hk (fun j hj hji => by omega)
theorem isColor_eq (x : Int) : impl_isColor.f x = some (colorB x) := by
  unfold impl_isColor.f impl_in.f colorB
  by_cases h : x ≥ 0
  · rw [if_pos h]; simp [show (0 : Int) ≤ x from h]
  · rw [if_neg h]; simp [show ¬ (0 : Int) ≤ x from h]
theorem isSide_eq (x : Int) : impl_isSide.f x = some (sideB x) := by
  unfold impl_isSide.f impl_in.f sideB
  by_cases h : x ≥ 1
  · rw [if_pos h]; simp [show (1 : Int) ≤ x from h]
  · rw [if_neg h]; simp [show ¬ (1 : Int) ≤ x from h]
theorem idxColor_l (l : List Int) (hl : l.length ≤ 35184372088832) : ∀ (d k i : Nat), i + d = l.length → d < k → (∀ j (hj : j < l.length), j < i → colorB l[j] = true) → ∃ r, slices_IndexFunc_int_int__areAll_int_1__isColor.l0 k l l.length i = some r ∧ (decide (r ≥ 0) = !l.all colorB) := by
  intro d
  induction d with
  | zero =>
    intro k i h1 h2 h3
    obtain ⟨k, rfl⟩ := succ_of h2
    have hall : l.all colorB = true := by
      rw [List.all_eq_true]; intro x hx; obtain ⟨j, hj, rfl⟩ := List.mem_iff_getElem.1 hx; exact h3 j hj (by omega)
    refine ⟨-1, ?_, by rw [hall]; rfl⟩
    simp only [slices_IndexFunc_int_int__areAll_int_1__isColor.l0]; rw [if_neg (by omega)]
  | succ d ih =>
    intro k i h1 h2 h3
    obtain ⟨k, rfl⟩ := succ_of (Nat.lt_of_le_of_lt (Nat.zero_le _) h2)
    simp only [slices_IndexFunc_int_int__areAll_int_1__isColor.l0, impl_areAll_int_1__isColor.f]; rw [if_pos (by omega), if_pos (by omega), if_pos (by omega), isColor_eq, rd_get l i (by omega)]
    simp only [Option.bind_some]
    by_cases hc : colorB l[i] = true
    · rw [hc]; simp only [Bool.not_true, Bool.false_eq_true, if_false]
      rw [wrap_id (by omega) (by omega)]
      refine ih k (i + 1) (by omega) (by omega) fun j hj hji => ?_
      by_cases e : j = i
      · subst e; exact hc
      · exact h3 j hj (by omega)
    · have hc' : colorB l[i] = false := by simpa using hc
      rw [hc']; simp only [Bool.not_false, if_true]
      have : l.all colorB = false := by
        rw [← Bool.not_eq_true, List.all_eq_true]; intro hh; exact hc (hh _ (List.getElem_mem _))
      exact ⟨_, rfl, by rw [this]; simp⟩
theorem areColors_eq (l : List Int) (hl : l.length ≤ 35184372088832) (k : Nat) (hk : l.length < k) : impl_areAll_int__isColor.f k l = some (l.all colorB) := by
  obtain ⟨r, h1, h2⟩ := idxColor_l l hl l.length k 0 (by omega) hk (fun j hj hji => by omega)
  unfold impl_areAll_int__isColor.f slices_ContainsFunc_int_int__areAll_int_1__isColor.f slices_IndexFunc_int_int__areAll_int_1__isColor.f
  rw [show (0 : Int) = ((0 : Nat) : Int) from rfl, h1]; simp only [Option.bind_some]
  rw [show decide (r ≥ ((0 : Nat) : Int)) = decide (r ≥ 0) from rfl, h2]; simp
theorem isChart_eq (w h : Int) (l : List Int) (hl : l.length ≤ 35184372088832) (k : Nat) (hk : l.length < k) : impl_IsChart.f k w h l = some (goodB w h l) := by
  unfold impl_IsChart.f
  rw [isSide_eq, isSide_eq, areColors_eq l hl k hk]
  simp only [Option.bind_some]
  unfold goodB
  cases e1 : sideB w <;> cases e2 : sideB h <;> simp
  rw [wrap_id (by have := mul_bd (side_of e1) (side_of e2); omega) (by have := mul_bd (side_of e1) (side_of e2); omega)]
  by_cases e : (l.length : Int) = w * h
  · rw [if_pos e]; simp [e]
  · rw [if_neg e]; simp [e]
theorem l1Own_eq (l : List Int) (hl : l.length ≤ 1048576) : spec_l1Own.f l = some l := by
  unfold spec_l1Own.f; simp only [Option.bind_some, List.nil_append, List.length_nil]; rw [if_pos (by omega)]
theorem l2Own_eq (w h : Int) (l : List Int) (hl : l.length ≤ 1048576) : spec_l2Own.f w h l = some (w, h, l) := by
  unfold spec_l2Own.f; rw [l1Own_eq l hl]; rfl
theorem cloneInt_eq (l : List Int) (hl : l.length ≤ 1048576) : slices_Clone_int_int.f l = some l := by
  unfold slices_Clone_int_int.f; rw [if_pos (by omega)]
theorem copied_eq (w h : Int) (l : List Int) (hl : l.length ≤ 1048576) : impl_Chart_copied.f w h l = some (w, h, l) := by
  unfold impl_Chart_copied.f; rw [cloneInt_eq l hl]; rfl
theorem both (w h : Int) (l : List Int) (hl : l.length ≤ 4194304) : ∃ r0 r1 r2 r3 r4 r5 r6 r7 k0, (∀ k, k0 ≤ k → spec_NewWeaving.f k w h l = some (r0, r1, r2, r3, r4, r5, r6, r7)) ∧ (∀ k, k0 ≤ k → impl_NewWeaving.f k w h l = some (r0, r1, r2, r3, r4, r5, r6, r7)) ∧ r2.length ≤ 4194304 ∧ r3.length ≤ 4194304 ∧ r5.length ≤ 4194304 := by
  by_cases e : goodB w h l = true
  · have hb := good_of e
    have := mul_bd hb.1 hb.2.1
    refine ⟨w, h, l, [], 0, [], false, true, l.length + 1, fun k hk => ?_, fun k hk => ?_, by omega, by simp, by simp⟩
    · unfold spec_NewWeaving.f; simp only [l2Good_eq w h l (by omega) k (by omega), Option.bind_some, e, if_true, l2Own_eq w h l (by omega)]
    · unfold impl_NewWeaving.f; simp only [isChart_eq w h l (by omega) k (by omega), Option.bind_some, e, if_true, copied_eq w h l (by omega)]
  · refine ⟨0, 0, [], [], 0, [], false, false, l.length + 1, fun k hk => ?_, fun k hk => ?_, by simp, by simp, by simp⟩
    · unfold spec_NewWeaving.f; simp only [l2Good_eq w h l (by omega) k (by omega), Option.bind_some, e, if_false]; rfl
    · unfold impl_NewWeaving.f; simp only [isChart_eq w h l (by omega) k (by omega), Option.bind_some, e, if_false]; rfl
theorem FnExactNewWeaving : laws_FnExactNewWeaving.Pure := by
  intro a0_0 a0_1 l0_2 _ _ hwl0_2 _
  obtain ⟨b0, e0, c0⟩ := szChart_eq a0_0 a0_1 l0_2 1048576 (by omega) (by omega) (by omega)
  by_cases hs0 : b0 < 0
  · refine ⟨0, ?_⟩
    unfold laws_FnExactNewWeaving.f; simp only [Option.bind_some, if_true, if_false, e0, hs0]
  obtain ⟨kt0, t0⟩ := toChart_ev a0_0 a0_1 l0_2 (by omega)
  have zll0_2 := cvIntS_len l0_2
  generalize hcl0_2 : cvIntS l0_2 = ml0_2 at zll0_2 t0
  obtain ⟨r0, r1, r2, r3, r4, r5, r6, r7, kb, sp_, im_, hrr2, hrr3, hrr5⟩ := both a0_0 a0_1 ml0_2 (by omega)
  obtain ⟨ke0, q0⟩ := eqWeaving_ev r0 r1 r2 r3 r4 r5 r6 (by omega) (by omega) (by omega)
  obtain ⟨ke1, q1⟩ := eqChart_ev a0_0 a0_1 ml0_2 (by omega)
  obtain ⟨na0, ya00, ka0, pa0, qa0, za00, ma0, da0⟩ := mhChart_ev a0_0 a0_1 ml0_2 (by omega) (1) (by omega) (by omega)
  have ua0 : ¬ (1 + na0 < 0) := by omega
  obtain ⟨nb1, yb10, yb11, yb12, kb1, pb1, qb1, zb10, zb11, zb12, mb1, db1⟩ := mhWeaving_ev r0 r1 r2 r3 r4 r5 r6 (by omega) (by omega) (by omega) (1) (by omega) (by omega)
  have ub1 : ¬ (1 + nb1 < 0) := by omega
  obtain ⟨K, hK⟩ : ∃ K, K = kt0 + kb + ke0 + ke1 + ka0 + kb1 := ⟨_, rfl⟩
  refine ⟨K + 6, ?_⟩
  unfold laws_FnExactNewWeaving.f
  simp only [laws_FnExactNewWeaving.j0, laws_FnExactNewWeaving.j1, laws_FnExactNewWeaving.j2, Option.bind_some, if_true, if_false, bne_self_eq_false, Bool.false_eq_true, e0, hs0, ua0, ub1, t0 (K + 6) (by omega), sp_ (K + 6) (by omega), im_ (K + 6) (by omega), q0 (K + 6) (by omega), q1 (K + 6) (by omega), ma0 (K + 6) (by omega), da0 (K + 6) (by omega), mb1 (K + 6) (by omega), db1 (K + 6) (by omega), t0 (K + 5) (by omega), sp_ (K + 5) (by omega), im_ (K + 5) (by omega), q0 (K + 5) (by omega), q1 (K + 5) (by omega), ma0 (K + 5) (by omega), da0 (K + 5) (by omega), mb1 (K + 5) (by omega), db1 (K + 5) (by omega), t0 (K + 4) (by omega), sp_ (K + 4) (by omega), im_ (K + 4) (by omega), q0 (K + 4) (by omega), q1 (K + 4) (by omega), ma0 (K + 4) (by omega), da0 (K + 4) (by omega), mb1 (K + 4) (by omega), db1 (K + 4) (by omega), t0 (K + 3) (by omega), sp_ (K + 3) (by omega), im_ (K + 3) (by omega), q0 (K + 3) (by omega), q1 (K + 3) (by omega), ma0 (K + 3) (by omega), da0 (K + 3) (by omega), mb1 (K + 3) (by omega), db1 (K + 3) (by omega), t0 (K + 2) (by omega), sp_ (K + 2) (by omega), im_ (K + 2) (by omega), q0 (K + 2) (by omega), q1 (K + 2) (by omega), ma0 (K + 2) (by omega), da0 (K + 2) (by omega), mb1 (K + 2) (by omega), db1 (K + 2) (by omega), t0 (K + 1) (by omega), sp_ (K + 1) (by omega), im_ (K + 1) (by omega), q0 (K + 1) (by omega), q1 (K + 1) (by omega), ma0 (K + 1) (by omega), da0 (K + 1) (by omega), mb1 (K + 1) (by omega), db1 (K + 1) (by omega)]
end Go.Proofs.Ytebljeaeoedgjaa.Pure
