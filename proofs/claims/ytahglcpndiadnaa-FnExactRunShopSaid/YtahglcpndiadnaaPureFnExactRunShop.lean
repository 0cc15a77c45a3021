/- The program's RunShop returns what the reference's RunShop returns, for every shop and every list of steps. -/
import Derived.Test.YtahglcpndiadnaaPFnExactRunShopx13
namespace Go.Proofs.Ytahglcpndiadnaa.Pure
open Go.RowKit Go.Proofs.Ytahglcpndiadnaa.PFnExactRunShop Go.Proofs.YtahglcpndiadnaaW.PrintWords Go.Proofs.YtahglcpndiadnaaW.PrintLast
set_option linter.unusedVariables false
set_option linter.unusedSimpArgs false
theorem wrap_id {x : Int} (h : -9223372036854775808 ≤ x) (h' : x ≤ 9223372036854775807) : wrap64 x = x := by unfold wrap64; omega
theorem rd_get (l : List Int) (i : Nat) (h : i < l.length) : rd l (i : Int) = l[i] := by
  unfold rd; rw [Int.toNat_natCast, List.getD_eq_getElem?_getD, List.getElem?_eq_getElem h]; rfl
theorem succ_of {k : Nat} (h : 0 < k) : ∃ m, k = m + 1 := ⟨k - 1, by omega⟩
theorem szCarpetS_eq (l0 : List (S143)) (a : Int) (h0 : 0 ≤ a) (h1 : a ≤ 1048576) (hll0 : l0.length ≤ 140737488351232) : ∃ b, laws_szCarpetS.f l0 a = some b ∧ (b < 0 ∨ 0 ≤ b ∧ b ≤ a ∧ l0.length ≤ 1048576) := by
  unfold laws_szCarpetS.f
  rw [wrap_id (by omega) (by omega)]
  by_cases e : a - (l0.length : Int) < 0
  · rw [if_pos e]; exact ⟨_, rfl, Or.inl (by omega)⟩
  · rw [if_neg e]; exact ⟨_, rfl, Or.inr (by omega)⟩
theorem szShop_eq (a0_0 : Int) (a0_1 : Int) (l0_2 : List (S143)) (a0_3 : Int) (a : Int) (h0 : 0 ≤ a) (h1 : a ≤ 1048576) (hll0_2 : l0_2.length ≤ 140737488351232) : ∃ b, laws_szShop.f a0_0 a0_1 l0_2 a0_3 a = some b ∧ (b < 0 ∨ 0 ≤ b ∧ b ≤ a ∧ l0_2.length ≤ 1048576) := by
  unfold laws_szShop.f
  obtain ⟨b0, e0, c0⟩ := szCarpetS_eq l0_2 a (by omega) (by omega) (by omega)
  rw [e0]; simp only [Option.bind_some]
  by_cases f0 : b0 < 0
  · rw [if_pos f0]; exact ⟨_, rfl, Or.inl (by omega)⟩
  rw [if_neg f0]
  exact ⟨_, rfl, Or.inr (by omega)⟩
theorem szShopStepS_eq (l0 : List (S39)) (a : Int) (h0 : 0 ≤ a) (h1 : a ≤ 1048576) (hll0 : l0.length ≤ 140737488351232) : ∃ b, laws_szShopStepS.f l0 a = some b ∧ (b < 0 ∨ 0 ≤ b ∧ b ≤ a ∧ l0.length ≤ 1048576) := by
  unfold laws_szShopStepS.f
  rw [wrap_id (by omega) (by omega)]
  by_cases e : a - (l0.length : Int) < 0
  · rw [if_pos e]; exact ⟨_, rfl, Or.inl (by omega)⟩
  · rw [if_neg e]; exact ⟨_, rfl, Or.inr (by omega)⟩
theorem toCarpet_eq (a0_0 : Int) (a0_1 : Int) (a0_2 : Int) (a0_3 : Int) (a0_4 : Int) : laws_toCarpet.f a0_0 a0_1 a0_2 a0_3 a0_4 = some (a0_0, a0_1, a0_2, a0_3, a0_4) := by
  rfl
def cvECarpetS (x : S143) : S34 := ⟨x.f0, x.f1, x.f2, x.f3, x.f4⟩
def cvCarpetS (l : List S143) : List S34 := l.map cvECarpetS
theorem cvCarpetS_len (l : List (S143)) : (cvCarpetS l).length = l.length := by simp [cvCarpetS]
theorem toCarpetS_l (l : List (S143)) (hl : l.length ≤ 4194304) : ∀ (d i : Nat) (acc : List S34), i + d = l.length → acc.length = l.length → (∀ j, j < i → acc[j]? = (cvCarpetS l)[j]?) → ∃ k0, ∀ k, k0 ≤ k → laws_toCarpetS.l0 k l i acc = some (cvCarpetS l) := by
  intro d
  induction d with
  | zero =>
    intro i acc h1 h2 h3; refine ⟨1, fun k hk => ?_⟩
    obtain ⟨k, rfl⟩ := succ_of (show 0 < k by omega)
    simp only [laws_toCarpetS.l0]; rw [if_neg (by omega)]
    congr 1
    apply List.ext_getElem?
    intro j
    by_cases hj : j < i
    · exact h3 j hj
    · rw [List.getElem?_eq_none (by omega), List.getElem?_eq_none (by rw [cvCarpetS_len]; omega)]
  | succ d ih =>
    intro i acc h1 h2 h3
    obtain ⟨k0, h0⟩ := ih (i + 1) (acc.set i (cvECarpetS (rd_T143 l i))) (by omega) (by simpa using h2) (by
      intro j hj
      by_cases e : j = i
      · subst e
        rw [List.getElem?_set_self (by omega)]
        unfold rd_T143; rw [Int.toNat_natCast, List.getD_eq_getElem?_getD, List.getElem?_eq_getElem (show j < l.length by omega)]; simp [cvCarpetS, List.getElem?_eq_getElem (show j < l.length by omega)]
      · rw [List.getElem?_set_ne (fun h => e h.symm)]; exact h3 j (by omega))
    refine ⟨k0 + 1, fun k hk => ?_⟩
    obtain ⟨k, rfl⟩ := succ_of (show 0 < k by omega)
    simp only [laws_toCarpetS.l0]; rw [if_pos (by omega), if_pos (by omega)]; rw [toCarpet_eq]; simp only [Option.bind_some]; rw [if_pos (by omega), wrap_id (by omega) (by omega)]
    rw [Int.toNat_natCast]; exact h0 k (by omega)
theorem toCarpetS_ev (l : List (S143)) (hl : l.length ≤ 4194304) : ∃ k0, ∀ k, k0 ≤ k → laws_toCarpetS.f k l = some (cvCarpetS l) := by
  obtain ⟨k0, h0⟩ := toCarpetS_l l hl l.length 0 (List.replicate l.length z34) (by omega) (by simp) (fun j hj => by omega)
  refine ⟨k0, fun k hk => ?_⟩
  unfold laws_toCarpetS.f; rw [if_pos (by omega), Int.toNat_natCast, if_pos (by omega)]; exact h0 k hk
theorem toShop_ev (a0_0 : Int) (a0_1 : Int) (l0_2 : List (S143)) (a0_3 : Int) (hll0_2 : l0_2.length ≤ 4194304) : ∃ k0, ∀ k, k0 ≤ k → laws_toShop.f k a0_0 a0_1 l0_2 a0_3 = some (a0_0, a0_1, cvCarpetS l0_2, a0_3) := by
  obtain ⟨k0, h0⟩ := toCarpetS_ev l0_2 (by omega)
  refine ⟨k0, fun k hk => ?_⟩
  unfold laws_toShop.f; simp only [h0 k (by omega), Option.bind_some]
theorem toShopStep_eq (a0_0 : Int) (a0_1 : Int) (a0_2 : Int) : laws_toShopStep.f a0_0 a0_1 a0_2 = some (a0_0, a0_1, a0_2) := by
  rfl
def cvEShopStepS (x : S39) : S30 := ⟨x.f0, x.f1, x.f2⟩
def cvShopStepS (l : List S39) : List S30 := l.map cvEShopStepS
theorem cvShopStepS_len (l : List (S39)) : (cvShopStepS l).length = l.length := by simp [cvShopStepS]
theorem toShopStepS_l (l : List (S39)) (hl : l.length ≤ 4194304) : ∀ (d i : Nat) (acc : List S30), i + d = l.length → acc.length = l.length → (∀ j, j < i → acc[j]? = (cvShopStepS l)[j]?) → ∃ k0, ∀ k, k0 ≤ k → laws_toShopStepS.l0 k l i acc = some (cvShopStepS l) := by
  intro d
  induction d with
  | zero =>
    intro i acc h1 h2 h3; refine ⟨1, fun k hk => ?_⟩
    obtain ⟨k, rfl⟩ := succ_of (show 0 < k by omega)
    simp only [laws_toShopStepS.l0]; rw [if_neg (by omega)]
    congr 1
    apply List.ext_getElem?
    intro j
    by_cases hj : j < i
    · exact h3 j hj
    · rw [List.getElem?_eq_none (by omega), List.getElem?_eq_none (by rw [cvShopStepS_len]; omega)]
  | succ d ih =>
    intro i acc h1 h2 h3
    obtain ⟨k0, h0⟩ := ih (i + 1) (acc.set i (cvEShopStepS (rd_T39 l i))) (by omega) (by simpa using h2) (by
      intro j hj
      by_cases e : j = i
      · subst e
        rw [List.getElem?_set_self (by omega)]
        unfold rd_T39; rw [Int.toNat_natCast, List.getD_eq_getElem?_getD, List.getElem?_eq_getElem (show j < l.length by omega)]; simp [cvShopStepS, List.getElem?_eq_getElem (show j < l.length by omega)]
      · rw [List.getElem?_set_ne (fun h => e h.symm)]; exact h3 j (by omega))
    refine ⟨k0 + 1, fun k hk => ?_⟩
    obtain ⟨k, rfl⟩ := succ_of (show 0 < k by omega)
    simp only [laws_toShopStepS.l0]; rw [if_pos (by omega), if_pos (by omega)]; rw [toShopStep_eq]; simp only [Option.bind_some]; rw [if_pos (by omega), wrap_id (by omega) (by omega)]
    rw [Int.toNat_natCast]; exact h0 k (by omega)
theorem toShopStepS_ev (l : List (S39)) (hl : l.length ≤ 4194304) : ∃ k0, ∀ k, k0 ≤ k → laws_toShopStepS.f k l = some (cvShopStepS l) := by
  obtain ⟨k0, h0⟩ := toShopStepS_l l hl l.length 0 (List.replicate l.length z30) (by omega) (by simp) (fun j hj => by omega)
  refine ⟨k0, fun k hk => ?_⟩
  unfold laws_toShopStepS.f; rw [if_pos (by omega), Int.toNat_natCast, if_pos (by omega)]; exact h0 k hk
theorem eqCarpet_eq (a0_0 : Int) (a0_1 : Int) (a0_2 : Int) (a0_3 : Int) (a0_4 : Int) : laws_eqCarpet.f a0_0 a0_1 a0_2 a0_3 a0_4 a0_0 a0_1 a0_2 a0_3 a0_4 = some true := by
  unfold laws_eqCarpet.f; simp
theorem eqCarpetS_l (l : List (S34)) (hl : l.length ≤ 4194304) : ∀ (d i : Nat), i + d = l.length → ∃ k0, ∀ k, k0 ≤ k → laws_eqCarpetS.l0 k l l i = some true := by
  intro d
  induction d with
  | zero =>
    intro i h; refine ⟨1, fun k hk => ?_⟩
    obtain ⟨k, rfl⟩ := succ_of (show 0 < k by omega)
    simp only [laws_eqCarpetS.l0]; rw [if_neg (by omega)]
  | succ d ih =>
    intro i h; obtain ⟨k0, h0⟩ := ih (i + 1) (by omega); refine ⟨k0 + 1, fun k hk => ?_⟩
    obtain ⟨k, rfl⟩ := succ_of (show 0 < k by omega)
    simp only [laws_eqCarpetS.l0]; rw [if_pos (by omega), if_pos (by omega), if_pos (by omega)]; simp only [eqCarpet_eq, Option.bind_some, if_true]
    rw [wrap_id (by omega) (by omega)]; exact h0 k (by omega)
theorem eqCarpetS_ev (l : List (S34)) (hl : l.length ≤ 4194304) : ∃ k0, ∀ k, k0 ≤ k → laws_eqCarpetS.f k l l = some true := by
  obtain ⟨k0, h0⟩ := eqCarpetS_l l hl l.length 0 (by omega)
  refine ⟨k0, fun k hk => ?_⟩
  unfold laws_eqCarpetS.f; rw [if_pos rfl]; exact h0 k hk
theorem eqShop_ev (a0_0 : Int) (a0_1 : Int) (l0_2 : List (S34)) (a0_3 : Int) (hll0_2 : l0_2.length ≤ 4194304) : ∃ k0, ∀ k, k0 ≤ k → laws_eqShop.f k a0_0 a0_1 l0_2 a0_3 a0_0 a0_1 l0_2 a0_3 = some true := by
  obtain ⟨k0, h0⟩ := eqCarpetS_ev l0_2 (by omega)
  refine ⟨k0, fun k hk => ?_⟩
  unfold laws_eqShop.f; simp [h0 k (by omega)]
theorem eqShopStep_eq (a0_0 : Int) (a0_1 : Int) (a0_2 : Int) : laws_eqShopStep.f a0_0 a0_1 a0_2 a0_0 a0_1 a0_2 = some true := by
  unfold laws_eqShopStep.f; simp
theorem eqShopStepS_l (l : List (S30)) (hl : l.length ≤ 4194304) : ∀ (d i : Nat), i + d = l.length → ∃ k0, ∀ k, k0 ≤ k → laws_eqShopStepS.l0 k l l i = some true := by
  intro d
  induction d with
  | zero =>
    intro i h; refine ⟨1, fun k hk => ?_⟩
    obtain ⟨k, rfl⟩ := succ_of (show 0 < k by omega)
    simp only [laws_eqShopStepS.l0]; rw [if_neg (by omega)]
  | succ d ih =>
    intro i h; obtain ⟨k0, h0⟩ := ih (i + 1) (by omega); refine ⟨k0 + 1, fun k hk => ?_⟩
    obtain ⟨k, rfl⟩ := succ_of (show 0 < k by omega)
    simp only [laws_eqShopStepS.l0]; rw [if_pos (by omega), if_pos (by omega), if_pos (by omega)]; simp only [eqShopStep_eq, Option.bind_some, if_true]
    rw [wrap_id (by omega) (by omega)]; exact h0 k (by omega)
theorem eqShopStepS_ev (l : List (S30)) (hl : l.length ≤ 4194304) : ∃ k0, ∀ k, k0 ≤ k → laws_eqShopStepS.f k l l = some true := by
  obtain ⟨k0, h0⟩ := eqShopStepS_l l hl l.length 0 (by omega)
  refine ⟨k0, fun k hk => ?_⟩
  unfold laws_eqShopStepS.f; rw [if_pos rfl]; exact h0 k hk
theorem mhCarpetS_l : ∀ (d : Nat) (xs : List (S34)) (a : Int) (i : Nat), i + d = xs.length → xs.length ≤ 4194304 → 0 ≤ a → a + 5 * d ≤ 4503599627370496 → ∃ (n : Int) (ys : List (S34)) (k0 : Nat), 0 ≤ n ∧ n ≤ 5 * d ∧ ys.length = xs.length ∧ (∀ j, j < i → ys[j]? = xs[j]?) ∧ (∀ k, k0 ≤ k → laws_markCarpetS.l0 k xs a i = some (a + n, ys)) ∧ (∀ k, k0 ≤ k → laws_heldCarpetS.l0 k ys a i = some (a + n)) := by
  intro d
  induction d with
  | zero =>
    intro xs a i h1 h2 h3 h4
    refine ⟨0, xs, 1, by omega, by omega, rfl, fun _ _ => rfl, fun k hk => ?_, fun k hk => ?_⟩
    · obtain ⟨k, rfl⟩ := succ_of (show 0 < k by omega)
      rw [laws_markCarpetS.l0, if_neg (by omega), Int.add_zero]
    · obtain ⟨k, rfl⟩ := succ_of (show 0 < k by omega)
      rw [laws_heldCarpetS.l0, if_neg (by omega), Int.add_zero]
  | succ d ih =>
    intro xs a i h1 h2 h3 h4
    obtain ⟨n, ys, k0, g1, g2, g3, g4, g5, g6⟩ := ih (xs.set i (⟨a, a + 1, a + 1 + 1, a + 1 + 1 + 1, a + 1 + 1 + 1 + 1⟩ : S34)) (a + 1 + 1 + 1 + 1 + 1) (i + 1) (by simp only [List.length_set]; omega) (by simp only [List.length_set]; omega) (by omega) (by omega)
    simp only [List.length_set] at g3
    have hi : ys[i]? = some (⟨a, a + 1, a + 1 + 1, a + 1 + 1 + 1, a + 1 + 1 + 1 + 1⟩ : S34) := by rw [g4 i (by omega), List.getElem?_set_self (by omega)]
    have hr : rd_T34 ys (i : Int) = (⟨a, a + 1, a + 1 + 1, a + 1 + 1 + 1, a + 1 + 1 + 1 + 1⟩ : S34) := by unfold rd_T34; rw [Int.toNat_natCast, List.getD_eq_getElem?_getD, hi]; rfl
    have hs : ∀ v, rd_T34 (xs.set i v) (i : Int) = v := fun v => by unfold rd_T34; rw [Int.toNat_natCast, List.getD_eq_getElem?_getD, List.getElem?_set_self (by omega)]; rfl
    have w1 := Aside0.mk (wrap_id (x := a + 1) (by omega) (by omega))
    have w2 := Aside0.mk (wrap_id (x := a + 1 + 1) (by omega) (by omega))
    have w3 := Aside0.mk (wrap_id (x := a + 1 + 1 + 1) (by omega) (by omega))
    have w4 := Aside0.mk (wrap_id (x := a + 1 + 1 + 1 + 1) (by omega) (by omega))
    have w5 := Aside0.mk (wrap_id (x := a + 1 + 1 + 1 + 1 + 1) (by omega) (by omega))
    have wi := Aside0.mk (show wrap64 ((i : Int) + 1) = ((i + 1 : Nat) : Int) by rw [wrap_id (by omega) (by omega)]; rfl)
    refine ⟨n + 5, ys, k0 + 1, by omega, by omega, g3, fun j hj => ?_, fun k hk => ?_, fun k hk => ?_⟩
    · rw [g4 j (by omega), List.getElem?_set_ne (by omega)]
    · obtain ⟨k, rfl⟩ := succ_of (show 0 < k by omega)
      rw [laws_markCarpetS.l0, if_pos (by omega), if_pos (by omega)]
      (try simp only [Int.toNat_natCast, w1.out, w2.out, w3.out, w4.out, w5.out, wi.out])
      (repeat (rw [Option.bind_some]; (try simp only [hs, List.set_set])))
      (try simp only [hs, List.set_set, wi.out])
      rw [g5 k (by omega)]; simp only [Option.some.injEq, Prod.mk.injEq, and_true]; omega
    · obtain ⟨k, rfl⟩ := succ_of (show 0 < k by omega)
      rw [laws_heldCarpetS.l0, if_pos (by omega), if_pos (by omega)]
      simp only [hr, w1.out, w2.out, w3.out, w4.out, w5.out, wi.out, if_true]
      rw [g6 k (by omega)]; simp only [Option.some.injEq]; omega
theorem mhCarpetS_ev (l : List (S34)) (hl : l.length ≤ 4194304) (a : Int) (h0 : 0 ≤ a) (h1 : a ≤ 1125899906842624) : ∃ (n : Int) (y0 : List (S34)) (k0 : Nat), 0 ≤ n ∧ n ≤ 20971520 ∧ y0.length = l.length ∧ (∀ k, k0 ≤ k → laws_markCarpetS.f k l a = some (a + n, y0)) ∧ (∀ k, k0 ≤ k → laws_heldCarpetS.f k y0 a = some (a + n)) := by
  obtain ⟨n, ys, k0, g1, g2, g3, g4, g5, g6⟩ := mhCarpetS_l l.length l a 0 (by omega) hl h0 (by omega)
  exact ⟨n, ys, k0, g1, by omega, g3, fun k hk => g5 k hk, fun k hk => g6 k hk⟩
theorem mhShop_ev (a0_0 : Int) (a0_1 : Int) (l0_2 : List (S34)) (a0_3 : Int) (hll0_2 : l0_2.length ≤ 4194304) (a : Int) (h0 : 0 ≤ a) (h1 : a ≤ 1125899885871104) : ∃ (n : Int) (y_l0_2 : List (S34)) (k0 : Nat), 0 ≤ n ∧ n ≤ 20971520 ∧ y_l0_2.length = l0_2.length ∧ (∀ k, k0 ≤ k → laws_markShop.f k a0_0 a0_1 l0_2 a0_3 a = some (a + n, y_l0_2)) ∧ (∀ k, k0 ≤ k → laws_heldShop.f k a0_0 a0_1 y_l0_2 a0_3 a = some (a + n)) := by
  obtain ⟨n0, y_l0_2, k0, p0, q0, z_l0_2, m0, e0⟩ := mhCarpetS_ev l0_2 (by omega) (a) (by omega) (by omega)
  have ea : a + n0 = a + (n0) := by omega
  have u0 : ¬ (a + n0 < 0) := by omega
  refine ⟨n0, y_l0_2, k0, by omega, by omega, z_l0_2, fun k hk => ?_, fun k hk => ?_⟩
  · unfold laws_markShop.f; simp only [m0 k (by omega), Option.bind_some, ea]
  · unfold laws_heldShop.f; simp only [e0 k (by omega), Option.bind_some, u0, if_false]; try rw [ea]
theorem mhShopStepS_l : ∀ (d : Nat) (xs : List (S30)) (a : Int) (i : Nat), i + d = xs.length → xs.length ≤ 4194304 → 0 ≤ a → a + 3 * d ≤ 4503599627370496 → ∃ (n : Int) (ys : List (S30)) (k0 : Nat), 0 ≤ n ∧ n ≤ 3 * d ∧ ys.length = xs.length ∧ (∀ j, j < i → ys[j]? = xs[j]?) ∧ (∀ k, k0 ≤ k → laws_markShopStepS.l0 k xs a i = some (a + n, ys)) ∧ True := by
  intro d
  induction d with
  | zero =>
    intro xs a i h1 h2 h3 h4
    refine ⟨0, xs, 1, by omega, by omega, rfl, fun _ _ => rfl, fun k hk => ?_, ?_⟩
    · obtain ⟨k, rfl⟩ := succ_of (show 0 < k by omega)
      rw [laws_markShopStepS.l0, if_neg (by omega), Int.add_zero]
    · trivial
  | succ d ih =>
    intro xs a i h1 h2 h3 h4
    obtain ⟨n, ys, k0, g1, g2, g3, g4, g5, g6⟩ := ih (xs.set i (⟨a, a + 1, a + 1 + 1⟩ : S30)) (a + 1 + 1 + 1) (i + 1) (by simp only [List.length_set]; omega) (by simp only [List.length_set]; omega) (by omega) (by omega)
    simp only [List.length_set] at g3
    have hi : ys[i]? = some (⟨a, a + 1, a + 1 + 1⟩ : S30) := by rw [g4 i (by omega), List.getElem?_set_self (by omega)]
    have hr : rd_T30 ys (i : Int) = (⟨a, a + 1, a + 1 + 1⟩ : S30) := by unfold rd_T30; rw [Int.toNat_natCast, List.getD_eq_getElem?_getD, hi]; rfl
    have hs : ∀ v, rd_T30 (xs.set i v) (i : Int) = v := fun v => by unfold rd_T30; rw [Int.toNat_natCast, List.getD_eq_getElem?_getD, List.getElem?_set_self (by omega)]; rfl
    have w1 := Aside0.mk (wrap_id (x := a + 1) (by omega) (by omega))
    have w2 := Aside0.mk (wrap_id (x := a + 1 + 1) (by omega) (by omega))
    have w3 := Aside0.mk (wrap_id (x := a + 1 + 1 + 1) (by omega) (by omega))
    have wi := Aside0.mk (show wrap64 ((i : Int) + 1) = ((i + 1 : Nat) : Int) by rw [wrap_id (by omega) (by omega)]; rfl)
    refine ⟨n + 3, ys, k0 + 1, by omega, by omega, g3, fun j hj => ?_, fun k hk => ?_, ?_⟩
    · rw [g4 j (by omega), List.getElem?_set_ne (by omega)]
    · obtain ⟨k, rfl⟩ := succ_of (show 0 < k by omega)
      rw [laws_markShopStepS.l0, if_pos (by omega), if_pos (by omega)]
      (try simp only [Int.toNat_natCast, w1.out, w2.out, w3.out, wi.out])
      (repeat (rw [Option.bind_some]; (try simp only [hs, List.set_set])))
      (try simp only [hs, List.set_set, wi.out])
      rw [g5 k (by omega)]; simp only [Option.some.injEq, Prod.mk.injEq, and_true]; omega
    · trivial
theorem mhShopStepS_ev (l : List (S30)) (hl : l.length ≤ 4194304) (a : Int) (h0 : 0 ≤ a) (h1 : a ≤ 1125899906842624) : ∃ (n : Int) (y0 : List (S30)) (k0 : Nat), 0 ≤ n ∧ n ≤ 12582912 ∧ y0.length = l.length ∧ (∀ k, k0 ≤ k → laws_markShopStepS.f k l a = some (a + n, y0)) ∧ True := by
  obtain ⟨n, ys, k0, g1, g2, g3, g4, g5, g6⟩ := mhShopStepS_l l.length l a 0 (by omega) hl h0 (by omega)
  exact ⟨n, ys, k0, g1, by omega, g3, fun k hk => g5 k hk, trivial⟩
def inB (n lo hi : Int) : Bool := decide (n ≥ lo) && decide (n ≤ hi)
theorem inB_iff {n lo hi : Int} : inB n lo hi = true ↔ lo ≤ n ∧ n ≤ hi := by unfold inB; simp
def carpB (day looms : Int) (c : S34) : Bool := inB c.f0 1 500 && inB c.f1 0 c.f0 && inB c.f2 0 4 && inB c.f4 0 day && (if c.f2 = 1 then inB c.f3 1 looms else if c.f2 = 0 then decide (c.f1 = 0) && decide (c.f3 = 0) else decide (c.f1 = c.f0) && decide (c.f3 = 0))
/-- No earlier carpet is on the same loom. -/
def soloB (cs : List S34) (i : Nat) (c : S34) : Bool := (cs.take i).all fun d => !(decide (c.f3 > 0) && decide (d.f3 = c.f3))
def rowsB (day looms : Int) (cs : List S34) : Bool := (List.range cs.length).all fun i => carpB day looms (cs.getD i ⟨0, 0, 0, 0, 0⟩) && soloB cs i (cs.getD i ⟨0, 0, 0, 0, 0⟩)
def shopB (day looms : Int) (cs : List S34) (money : Int) : Bool := inB day 0 4000 && inB looms 1 4 && inB money 0 1000000 && decide (cs.length ≤ 8) && rowsB day looms cs
theorem carpB_woven {day looms : Int} {c : S34} (h : carpB day looms c = true) : c.f3 > 0 ↔ c.f2 = 1 := by
  unfold carpB at h
  simp only [Bool.and_eq_true, inB_iff] at h
  obtain ⟨_, h5⟩ := h
  constructor
  · intro hp
    by_cases e : c.f2 = 1
    · exact e
    · rw [if_neg e] at h5
      split at h5 <;> simp at h5 <;> omega
  · intro e; rw [if_pos e, inB_iff] at h5; omega
theorem carpB_day {day day' looms : Int} {c : S34} (h : carpB day looms c = true) (hd : day ≤ day') : carpB day' looms c = true := by
  unfold carpB at h ⊢
  simp only [Bool.and_eq_true, inB_iff] at h ⊢
  exact ⟨⟨h.1.1, h.1.2.1, by omega⟩, h.2⟩
theorem rowsB_iff {day looms : Int} {cs : List S34} : rowsB day looms cs = true ↔ ∀ (i : Nat) (c : S34), cs[i]? = some c → carpB day looms c = true ∧ ∀ (j : Nat) (d : S34), j < i → cs[j]? = some d → c.f3 > 0 → d.f3 ≠ c.f3 := by
  unfold rowsB
  rw [List.all_eq_true]
  constructor
  · intro h i c hc
    have hi := (List.getElem?_eq_some_iff.1 hc).1
    have := h i (List.mem_range.2 hi)
    rw [List.getD_eq_getElem?_getD, hc] at this
    simp only [Option.getD_some, Bool.and_eq_true] at this
    refine ⟨this.1, fun j d hj hd hp he => ?_⟩
    have h2 := this.2
    unfold soloB at h2
    rw [List.all_eq_true] at h2
    have hm : d ∈ cs.take i := List.mem_of_getElem? (i := j) (by rw [List.getElem?_take, if_pos hj, hd])
    have := h2 d hm
    simp [hp, he] at this
  · intro h i hi
    rw [List.mem_range] at hi
    have hc : cs[i]? = some cs[i] := List.getElem?_eq_getElem hi
    obtain ⟨h1, h2⟩ := h i _ hc
    rw [List.getD_eq_getElem?_getD, hc]
    simp only [Option.getD_some, Bool.and_eq_true]
    refine ⟨h1, ?_⟩
    unfold soloB
    rw [List.all_eq_true]
    intro d hd
    obtain ⟨j, hj⟩ := List.mem_iff_getElem?.1 hd
    rw [List.getElem?_take] at hj
    split at hj
    · next hji =>
      by_cases hp : cs[i].f3 > 0
      · have := h2 j d hji hj hp
        simp [this]
      · simp [hp]
    · exact absurd hj (by simp)
/-- The first carpet on a loom, or -1. -/
def onB (cs : List S34) (loom : Int) : Int := match cs.findIdx? (fun c => decide (c.f2 = 1) && decide (c.f3 = loom)) with | some i => (i : Int) | none => -1
theorem onB_none {cs : List S34} {loom : Int} : onB cs loom < 0 ↔ ∀ c ∈ cs, ¬ (c.f2 = 1 ∧ c.f3 = loom) := by
  unfold onB
  split
  · next i h =>
    rw [List.findIdx?_eq_some_iff_getElem] at h
    obtain ⟨hi, hp, _⟩ := h
    simp only [Bool.and_eq_true, decide_eq_true_eq] at hp
    constructor
    · intro hl; omega
    · intro hh; exact absurd hp (hh _ (List.getElem_mem _))
  · next h =>
    rw [List.findIdx?_eq_none_iff] at h
    constructor
    · intro _ c hc; have := h c hc; simpa using this
    · intro _; omega
theorem onB_eq {cs : List S34} {loom : Int} {i : Nat} {c : S34} (hc : cs[i]? = some c) (h1 : c.f2 = 1) (h2 : c.f3 = loom) : onB cs loom = (i : Int) ↔ ∀ (j : Nat) (d : S34), j < i → cs[j]? = some d → ¬ (d.f2 = 1 ∧ d.f3 = loom) := by
  have hi := (List.getElem?_eq_some_iff.1 hc).1
  have hg := (List.getElem?_eq_some_iff.1 hc).2
  unfold onB
  split
  · next k h =>
    rw [List.findIdx?_eq_some_iff_getElem] at h
    obtain ⟨hk, hp, hq⟩ := h
    simp only [Bool.and_eq_true, decide_eq_true_eq] at hp
    constructor
    · intro e j d hj hd hh
      have : k = i := by omega
      subst this
      have := hq j hj
      rw [(List.getElem?_eq_some_iff.1 hd).2] at this
      simp [hh.1, hh.2] at this
    · intro hall
      rcases Nat.lt_trichotomy k i with hlt | e | hgt
      · exact absurd hp (hall k _ hlt (List.getElem?_eq_getElem hk))
      · rw [e]
      · have := hq i hgt
        rw [hg] at this; simp [h1, h2] at this
  · next h =>
    rw [List.findIdx?_eq_none_iff] at h
    have := h c (List.mem_of_getElem? hc)
    simp [h1, h2] at this
/-- What the program asks of each carpet. -/
def rowsI (day looms : Int) (cs : List S34) : Bool := (List.range cs.length).all fun i => carpB day looms (cs.getD i ⟨0, 0, 0, 0, 0⟩) && !(decide ((cs.getD i ⟨0, 0, 0, 0, 0⟩).f2 = 1) && decide (onB cs (cs.getD i ⟨0, 0, 0, 0, 0⟩).f3 ≠ (i : Int)))
theorem rowsI_eq (day looms : Int) (cs : List S34) : rowsI day looms cs = rowsB day looms cs := by
  rw [Bool.eq_iff_iff, rowsB_iff]
  unfold rowsI; rw [List.all_eq_true]
  have key : (∀ i ∈ List.range cs.length, (carpB day looms (cs.getD i ⟨0, 0, 0, 0, 0⟩) && !(decide ((cs.getD i ⟨0, 0, 0, 0, 0⟩).f2 = 1) && decide (onB cs (cs.getD i ⟨0, 0, 0, 0, 0⟩).f3 ≠ (i : Int)))) = true) ↔ ∀ (i : Nat) (c : S34), cs[i]? = some c → carpB day looms c = true ∧ (c.f2 = 1 → onB cs c.f3 = (i : Int)) := by
    constructor
    · intro h i c hc
      have := h i (List.mem_range.2 (List.getElem?_eq_some_iff.1 hc).1)
      rw [List.getD_eq_getElem?_getD, hc] at this
      simp only [Option.getD_some, Bool.and_eq_true] at this
      refine ⟨this.1, fun e => ?_⟩
      have h2 := this.2
      simpa [e] using h2
    · intro h i hi
      rw [List.mem_range] at hi
      obtain ⟨h1, h2⟩ := h i _ (List.getElem?_eq_getElem hi)
      rw [List.getD_eq_getElem?_getD, List.getElem?_eq_getElem hi]
      simp only [Option.getD_some, Bool.and_eq_true]
      refine ⟨h1, ?_⟩
      by_cases e : cs[i].f2 = 1
      · simp [e, h2 e]
      · simp [e]
  rw [key]
  constructor
  · intro h i c hc
    obtain ⟨h1, h2⟩ := h i c hc
    refine ⟨h1, fun j d hj hd hp he => ?_⟩
    have hw := (carpB_woven h1).1 hp
    have hd1 := (h j d hd).1
    exact (onB_eq hc hw rfl).1 (h2 hw) j d hj hd ⟨(carpB_woven hd1).1 (by omega), he⟩
  · intro h i c hc
    obtain ⟨h1, h2⟩ := h i c hc
    refine ⟨h1, fun hw => (onB_eq hc hw rfl).2 fun j d hj hd hh => ?_⟩
    exact h2 j d hj hd ((carpB_woven h1).2 hw) hh.2
def newC (value day : Int) : S34 := ⟨value, 0, 0, 0, day⟩
def okStepS (looms : Int) (n : Nat) (kind carpet value : Int) : Bool :=
  if kind = 1 then decide (carpet = 0) && decide (value ≥ 1) else if kind = 2 then decide (carpet = 0) && inB value 1 500 else
  inB carpet 0 ((n : Int) - 1) && (if kind = 3 then inB value 1 looms else if kind = 4 then inB value 1 20 else if kind = 7 then decide (value ≥ 1) else (decide (kind = 5) || decide (kind = 6)) && decide (value = 0))
def chR (c : S34) (kind value day : Int) : S34 :=
  if kind = 3 then ⟨c.f0, c.f1, 1, value, day⟩ else if kind = 4 then ⟨c.f0, wrap64 (c.f1 + value), c.f2, c.f3, day⟩ else if kind = 5 then ⟨c.f0, c.f1, 2, 0, day⟩ else if kind = 6 then ⟨c.f0, c.f1, 3, c.f3, day⟩ else ⟨c.f0, c.f1, 4, c.f3, day⟩
def chOk (c : S34) (kind day : Int) : Bool :=
  if kind = 3 then decide (c.f2 = 0) else if kind = 4 then decide (c.f2 = 1) && decide (day - c.f4 ≥ 1) else if kind = 5 then decide (c.f2 = 1) else if kind = 6 then decide (c.f2 = 2) else decide (c.f2 = 3) && decide (day - c.f4 ≥ 3)
def keepIf (b : Bool) (day looms : Int) (cs : List S34) (money : Int) : Option (Int × Int × List S34 × Int) := if b then some (day, looms, cs, money) else none
def makeS (day looms : Int) (cs : List S34) (money kind carpet value : Int) : Option (Int × Int × List S34 × Int) :=
  if kind = 1 then keepIf (!decide (value > 4000 - day)) (day + value) looms cs money
  else if kind = 2 then keepIf (shopB day looms (cs ++ [newC value day]) money) day looms (cs ++ [newC value day]) money
  else keepIf (!(decide (kind = 7) && decide (value > 1000000 - money)) && (chOk (rd_T34 cs carpet) kind day && shopB day looms (cs.set carpet.toNat (chR (rd_T34 cs carpet) kind value day)) (if kind = 7 then money + value else money))) day looms (cs.set carpet.toNat (chR (rd_T34 cs carpet) kind value day)) (if kind = 7 then money + value else money)
def stepS (day looms : Int) (cs : List S34) (money kind carpet value : Int) : Option (Int × Int × List S34 × Int) :=
  if okStepS looms cs.length kind carpet value then makeS day looms cs money kind carpet value else none
def validI (kind carpet value : Int) : Bool :=
  if kind = 1 ∨ kind = 2 then decide (carpet = 0) && decide (value ≥ 1) else if kind = 3 ∨ kind = 7 then decide (value ≥ 1) else if kind = 4 then inB value 1 20 else (decide (kind = 5) || decide (kind = 6)) && decide (value = 0)
def canI (day : Int) (cs : List S34) (c : S34) (kind value : Int) : Bool :=
  if kind = 3 then decide (c.f2 = 0) && decide (onB cs value < 0) else if kind = 4 then decide (c.f2 = 1) && decide (day - c.f4 ≥ 1) && decide (value ≤ c.f0 - c.f1) else if kind = 5 then decide (c.f2 = 1) && decide (c.f1 = c.f0) else if kind = 6 then decide (c.f2 = 2) else decide (c.f2 = 3) && decide (day - c.f4 ≥ 3)
def stepI (day looms : Int) (cs : List S34) (money kind carpet value : Int) : Option (Int × Int × List S34 × Int) :=
  if validI kind carpet value then
    if kind = 1 then keepIf (shopB (wrap64 (day + value)) looms cs money) (wrap64 (day + value)) looms cs money
    else if kind = 2 then keepIf (shopB day looms (cs ++ [newC value day]) money) day looms (cs ++ [newC value day]) money
    else keepIf (inB carpet 0 ((cs.length : Int) - 1) && canI day cs (rd_T34 cs carpet) kind value && shopB day looms (cs.set carpet.toNat (chR (rd_T34 cs carpet) kind value day)) (if kind = 7 then wrap64 (money + value) else money)) day looms (cs.set carpet.toNat (chR (rd_T34 cs carpet) kind value day)) (if kind = 7 then wrap64 (money + value) else money)
  else none
theorem shopB_of {day looms money : Int} {cs : List S34} (h : shopB day looms cs money = true) : (0 ≤ day ∧ day ≤ 4000) ∧ (1 ≤ looms ∧ looms ≤ 4) ∧ (0 ≤ money ∧ money ≤ 1000000) ∧ cs.length ≤ 8 ∧ rowsB day looms cs = true := by
  unfold shopB at h; simp only [Bool.and_eq_true, inB_iff, decide_eq_true_eq] at h
  exact ⟨h.1.1.1.1, h.1.1.1.2, h.1.1.2, h.1.2, h.2⟩
theorem shopB_mk {day looms money : Int} {cs : List S34} (h1 : 0 ≤ day ∧ day ≤ 4000) (h2 : 1 ≤ looms ∧ looms ≤ 4) (h3 : 0 ≤ money ∧ money ≤ 1000000) (h4 : cs.length ≤ 8) (h5 : rowsB day looms cs = true) : shopB day looms cs money = true := by
  unfold shopB; simp only [Bool.and_eq_true, inB_iff, decide_eq_true_eq]; exact ⟨⟨⟨⟨h1, h2⟩, h3⟩, h4⟩, h5⟩
theorem keepIf_congr {b b' : Bool} {d l m d' l' m' : Int} {c c' : List S34} (hb : b = b') (h : b = true → d = d' ∧ l = l' ∧ c = c' ∧ m = m') : keepIf b d l c m = keepIf b' d' l' c' m' := by
  subst hb; unfold keepIf
  cases b with
  | false => rfl
  | true => obtain ⟨rfl, rfl, rfl, rfl⟩ := h rfl; rfl
theorem rowsB_day {day day' looms : Int} {cs : List S34} (h : rowsB day looms cs = true) (hd : day ≤ day') : rowsB day' looms cs = true := by
  rw [rowsB_iff] at h ⊢
  exact fun i c hc => ⟨carpB_day (h i c hc).1 hd, (h i c hc).2⟩
theorem atC_get {cs : List S34} {i : Int} (h : inB i 0 ((cs.length : Int) - 1) = true) : cs[i.toNat]? = some (rd_T34 cs i) ∧ i.toNat < cs.length := by
  rw [inB_iff] at h
  have hl : i.toNat < cs.length := by omega
  exact ⟨by unfold rd_T34; rw [List.getD_eq_getElem?_getD, List.getElem?_eq_getElem hl]; rfl, hl⟩
theorem set_carp {day looms money : Int} {cs : List S34} {i : Nat} {c : S34} (h : shopB day looms (cs.set i c) money = true) (hi : i < cs.length) : carpB day looms c = true ∧ ∀ (j : Nat) (d : S34), j ≠ i → cs[j]? = some d → c.f3 > 0 → d.f3 ≠ c.f3 := by
  have h := (shopB_of h).2.2.2.2
  rw [rowsB_iff] at h
  have hc : (cs.set i c)[i]? = some c := by rw [List.getElem?_set]; simp [hi]
  refine ⟨(h i c hc).1, fun j d hji hd hp he => ?_⟩
  have hd' : (cs.set i c)[j]? = some d := by rw [List.getElem?_set, if_neg (Ne.symm hji)]; exact hd
  rcases Nat.lt_or_gt_of_ne hji with hlt | hgt
  · exact (h i c hc).2 j d hlt hd' hp he
  · exact (h j d hd').2 i c hgt hc (by omega) he.symm
theorem step_eq {day looms money kind carpet value : Int} {cs : List S34} (hs : shopB day looms cs money = true) (hv : -9223372036854775808 ≤ value ∧ value ≤ 9223372036854775807) : stepI day looms cs money kind carpet value = stepS day looms cs money kind carpet value := by
  obtain ⟨a1, a2, a3, a4, a5⟩ := shopB_of hs
  unfold stepI stepS makeS
  by_cases k1 : kind = 1
  · subst k1
    simp only [validI, okStepS, if_true, true_or]
    by_cases e : (decide (carpet = 0) && decide (value ≥ 1)) = true
    · rw [if_pos e, if_pos e]
      have hv1 : value ≥ 1 := by simp at e; exact e.2
      apply keepIf_congr
      · by_cases g : value > 4000 - day
        · rw [decide_eq_true g]
          cases hq : shopB (wrap64 (day + value)) looms cs money with
          | false => rfl
          | true => have := (shopB_of hq).1; unfold wrap64 at this; omega
        · rw [decide_eq_false g]
          rw [wrap_id (by omega) (by omega)]
          exact shopB_mk (by omega) a2 a3 a4 (rowsB_day a5 (by omega))
      · intro hb; have := (shopB_of hb).1
        refine ⟨?_, rfl, rfl, rfl⟩
        unfold wrap64 at this ⊢; omega
    · rw [if_neg e, if_neg e]
  · by_cases k2 : kind = 2
    · subst k2
      simp only [validI, okStepS, or_true, if_true, if_neg (show ¬ (2 : Int) = 1 by omega)]
      by_cases e0 : carpet = 0
      · by_cases e1 : value ≥ 1
        · by_cases e2 : value ≤ 500
          · have : inB value 1 500 = true := inB_iff.2 ⟨e1, e2⟩
            simp [e0, e1, this]
          · have h1 : inB value 1 500 = false := by rw [← Bool.not_eq_true, inB_iff]; omega
            have h2 : shopB day looms (cs ++ [newC value day]) money = false := by
              rw [← Bool.not_eq_true]; intro hq
              have := (rowsB_iff.1 (shopB_of hq).2.2.2.2 cs.length (newC value day) (by simp)).1
              unfold carpB newC at this; simp only [Bool.and_eq_true, inB_iff] at this; omega
            simp [e0, e1, h1, h2, keepIf]
        · have h1 : inB value 1 500 = false := by rw [← Bool.not_eq_true, inB_iff]; omega
          simp [e1, h1]
      · simp [e0]
    · simp only [if_neg k1, if_neg k2]
      by_cases hr : inB carpet 0 ((cs.length : Int) - 1) = true
      · obtain ⟨hg, hl⟩ := atC_get hr
        generalize hcc : rd_T34 cs carpet = c at *
        have hcarp := (rowsB_iff.1 a5 _ _ hg).1
        have hcarp' := hcarp
        unfold carpB at hcarp'
        simp only [Bool.and_eq_true, inB_iff] at hcarp'
        obtain ⟨⟨⟨⟨c0, c1⟩, c2⟩, c4⟩, c3⟩ := hcarp'
        rw [hr]
        by_cases k3 : kind = 3
        · subst k3
          simp only [validI, okStepS, chOk, canI, hr, if_true, or_true, true_or, if_neg (show ¬ (3 : Int) = 1 by omega), if_neg (show ¬ (3 : Int) = 2 by omega), if_neg (show ¬ (3 : Int) = 7 by omega), if_neg (show ¬ ((3 : Int) = 1 ∨ (3 : Int) = 2) by omega), Bool.true_and, show decide ((3 : Int) = 7) = false from rfl, Bool.false_and, Bool.not_false]
          by_cases e1 : value ≥ 1
          · rw [if_pos (by simpa using e1)]
            by_cases e2 : value ≤ looms
            · rw [if_pos (inB_iff.2 ⟨e1, e2⟩)]
              apply keepIf_congr _ (fun _ => ⟨rfl, rfl, rfl, rfl⟩)
              by_cases e3 : c.f2 = 0
              · rw [decide_eq_true e3, Bool.true_and, Bool.true_and]
                cases hq : shopB day looms (cs.set carpet.toNat (chR c 3 value day)) money with
                | false => simp
                | true =>
                  have := (set_carp hq hl).2
                  simp only [Bool.and_true, decide_eq_true_eq]
                  rw [onB_none]
                  intro d hd hh
                  obtain ⟨j, hj⟩ := List.mem_iff_getElem?.1 hd
                  by_cases ej : j = carpet.toNat
                  · subst ej; rw [hg] at hj; injection hj with hj; subst hj; omega
                  · exact this j d ej hj (by simp [chR]; omega) (by simp [chR]; omega)
              · rw [decide_eq_false e3]; rfl
            · have h1 : inB value 1 looms = false := by rw [← Bool.not_eq_true, inB_iff]; omega
              rw [if_neg (by simp [h1])]
              have h2 : shopB day looms (cs.set carpet.toNat (chR c 3 value day)) money = false := by
                rw [← Bool.not_eq_true]; intro hq
                have := (set_carp hq hl).1
                unfold carpB chR at this; simp [inB_iff] at this; omega
              rw [h2]; simp [keepIf]
          · have h1 : inB value 1 looms = false := by rw [← Bool.not_eq_true, inB_iff]; omega
            rw [if_neg (by simpa using e1), if_neg (by simp [h1])]
        · by_cases k4 : kind = 4
          · subst k4
            simp only [validI, okStepS, chOk, canI, hr, if_true, if_neg (show ¬ (4 : Int) = 1 by omega), if_neg (show ¬ (4 : Int) = 2 by omega), if_neg (show ¬ (4 : Int) = 3 by omega), if_neg (show ¬ (4 : Int) = 7 by omega), if_neg (show ¬ ((4 : Int) = 1 ∨ (4 : Int) = 2) by omega), if_neg (show ¬ ((4 : Int) = 3 ∨ (4 : Int) = 7) by omega), Bool.true_and, show decide ((4 : Int) = 7) = false from rfl, Bool.false_and, Bool.not_false]
            by_cases e1 : inB value 1 20 = true
            · rw [if_pos e1, if_pos e1]
              apply keepIf_congr _ (fun _ => ⟨rfl, rfl, rfl, rfl⟩)
              by_cases e2 : value ≤ c.f0 - c.f1
              · simp [e2]
              · have h2 : shopB day looms (cs.set carpet.toNat (chR c 4 value day)) money = false := by
                  rw [← Bool.not_eq_true]; intro hq
                  have := (set_carp hq hl).1
                  rw [inB_iff] at e1
                  unfold carpB chR at this; simp [inB_iff] at this
                  rw [wrap_id (by omega) (by omega)] at this; omega
                rw [h2]; simp
            · rw [if_neg e1, if_neg e1]
          · by_cases k5 : kind = 5
            · subst k5
              simp only [validI, okStepS, chOk, canI, hr, if_true, if_neg (show ¬ (5 : Int) = 1 by omega), if_neg (show ¬ (5 : Int) = 2 by omega), if_neg (show ¬ (5 : Int) = 3 by omega), if_neg (show ¬ (5 : Int) = 4 by omega), if_neg (show ¬ (5 : Int) = 7 by omega), if_neg (show ¬ ((5 : Int) = 1 ∨ (5 : Int) = 2) by omega), if_neg (show ¬ ((5 : Int) = 3 ∨ (5 : Int) = 7) by omega), Bool.true_and, show decide ((5 : Int) = 7) = false from rfl, show decide ((5 : Int) = 5) = true from rfl, Bool.true_or, Bool.false_and, Bool.not_false]
              by_cases e1 : value = 0
              · rw [if_pos (by simpa using e1), if_pos (by simpa using e1)]
                apply keepIf_congr _ (fun _ => ⟨rfl, rfl, rfl, rfl⟩)
                by_cases e2 : c.f1 = c.f0
                · simp [e2]
                · have h2 : shopB day looms (cs.set carpet.toNat (chR c 5 value day)) money = false := by
                    rw [← Bool.not_eq_true]; intro hq
                    have := (set_carp hq hl).1
                    unfold carpB chR at this; simp [inB_iff] at this; omega
                  rw [h2]; simp
              · rw [if_neg (by simpa using e1), if_neg (by simpa using e1)]
            · by_cases k6 : kind = 6
              · subst k6
                simp only [validI, okStepS, chOk, canI, hr, if_true, if_neg (show ¬ (6 : Int) = 1 by omega), if_neg (show ¬ (6 : Int) = 2 by omega), if_neg (show ¬ (6 : Int) = 3 by omega), if_neg (show ¬ (6 : Int) = 4 by omega), if_neg (show ¬ (6 : Int) = 5 by omega), if_neg (show ¬ (6 : Int) = 7 by omega), if_neg (show ¬ ((6 : Int) = 1 ∨ (6 : Int) = 2) by omega), if_neg (show ¬ ((6 : Int) = 3 ∨ (6 : Int) = 7) by omega), Bool.true_and, show decide ((6 : Int) = 7) = false from rfl, show decide ((6 : Int) = 6) = true from rfl, Bool.or_true, Bool.false_and, Bool.not_false]
              · by_cases k7 : kind = 7
                · subst k7
                  simp only [validI, okStepS, chOk, canI, hr, if_true, or_true, if_neg (show ¬ (7 : Int) = 1 by omega), if_neg (show ¬ (7 : Int) = 2 by omega), if_neg (show ¬ (7 : Int) = 3 by omega), if_neg (show ¬ (7 : Int) = 4 by omega), if_neg (show ¬ (7 : Int) = 5 by omega), if_neg (show ¬ (7 : Int) = 6 by omega), if_neg (show ¬ ((7 : Int) = 1 ∨ (7 : Int) = 2) by omega), Bool.true_and, show decide ((7 : Int) = 7) = true from rfl]
                  by_cases e1 : value ≥ 1
                  · rw [if_pos (by simpa using e1), if_pos (by simpa using e1)]
                    by_cases e2 : value > 1000000 - money
                    · have h2 : shopB day looms (cs.set carpet.toNat (chR c 7 value day)) (wrap64 (money + value)) = false := by
                        rw [← Bool.not_eq_true]; intro hq
                        have := (shopB_of hq).2.2.1
                        unfold wrap64 at this; omega
                      rw [h2]; simp [keepIf, e2]
                    · rw [wrap_id (by omega) (by omega)]
                      apply keepIf_congr _ (fun _ => ⟨rfl, rfl, rfl, rfl⟩)
                      simp [e2]
                  · rw [if_neg (by simpa using e1), if_neg (by simpa using e1)]
                · have h1 : validI kind carpet value = false := by unfold validI; simp [k1, k2, k3, k4, k5, k6, k7]
                  have h2 : okStepS looms cs.length kind carpet value = false := by unfold okStepS; simp [k1, k2, k3, k4, k5, k6, k7]
                  rw [h1, h2]; rfl
      · have hr' : inB carpet 0 ((cs.length : Int) - 1) = false := by simpa using hr
        rw [hr']
        have h2 : okStepS looms cs.length kind carpet value = false := by unfold okStepS; rw [if_neg k1, if_neg k2, hr']; rfl
        rw [h2]; simp [keepIf]
theorem keepIf_some {b : Bool} {d l m d' l' m' : Int} {c c' : List S34} (h : keepIf b d l c m = some (d', l', c', m')) : b = true ∧ d = d' ∧ l = l' ∧ c = c' ∧ m = m' := by
  unfold keepIf at h
  cases b with
  | false => simp at h
  | true => simp only [if_true, Option.some.injEq, Prod.mk.injEq] at h; exact ⟨rfl, h⟩
theorem stepS_good {day looms money kind carpet value day' looms' money' : Int} {cs cs' : List S34} (hs : shopB day looms cs money = true) (hv : -9223372036854775808 ≤ value ∧ value ≤ 9223372036854775807) (h : stepS day looms cs money kind carpet value = some (day', looms', cs', money')) : shopB day' looms' cs' money' = true := by
  rw [← step_eq hs hv] at h
  unfold stepI at h
  split at h
  · split at h
    · obtain ⟨hb, rfl, rfl, rfl, rfl⟩ := keepIf_some h; exact hb
    · split at h
      · obtain ⟨hb, rfl, rfl, rfl, rfl⟩ := keepIf_some h; exact hb
      · obtain ⟨hb, rfl, rfl, rfl, rfl⟩ := keepIf_some h; rw [Bool.and_eq_true] at hb; exact hb.2
  · exact absurd h (by simp)
/-- How a carpet goes on. -/
def GoesOn (day' : Int) (old c : S34) : Prop := c.f0 = old.f0 ∧ old.f1 ≤ c.f1 ∧ old.f2 ≤ c.f2 ∧ c.f2 ≤ old.f2 + 1 ∧ (c.f2 ≥ 2 → c.f1 = c.f0) ∧ (c.f2 = 4 → old.f2 ≠ 4 → old.f2 = 3 ∧ day' - old.f4 ≥ 3)
theorem goesOn_same {day looms day' : Int} {c : S34} (h : carpB day looms c = true) : GoesOn day' c c := by
  have hc := h
  unfold carpB at hc
  simp only [Bool.and_eq_true, inB_iff] at hc
  refine ⟨rfl, Int.le_refl _, Int.le_refl _, by omega, fun h2 => ?_, fun h4 h5 => absurd h4 h5⟩
  have h3 := hc.2
  rw [if_neg (by omega), if_neg (by omega)] at h3
  simp at h3; exact h3.1
theorem stepS_law {day looms money kind carpet value day' looms' money' : Int} {cs cs' : List S34} (hs : shopB day looms cs money = true) (hv : -9223372036854775808 ≤ value ∧ value ≤ 9223372036854775807) (h : stepS day looms cs money kind carpet value = some (day', looms', cs', money')) : ∀ (i : Nat) (old : S34), cs[i]? = some old → ∃ c, cs'[i]? = some c ∧ GoesOn day' old c := by
  have hgood := stepS_good hs hv h
  have hrows := (shopB_of hs).2.2.2.2
  rw [rowsB_iff] at hrows
  unfold stepS at h
  split at h
  · next hok =>
    unfold makeS at h
    split at h
    · obtain ⟨hb, rfl, rfl, rfl, rfl⟩ := keepIf_some h
      exact fun i old ho => ⟨old, ho, goesOn_same (hrows i old ho).1⟩
    · split at h
      · obtain ⟨hb, rfl, rfl, rfl, rfl⟩ := keepIf_some h
        intro i old ho
        have hi := (List.getElem?_eq_some_iff.1 ho).1
        exact ⟨old, by rw [List.getElem?_append_left hi]; exact ho, goesOn_same (hrows i old ho).1⟩
      · next k1 k2 =>
        obtain ⟨hb, rfl, rfl, rfl, rfl⟩ := keepIf_some h
        unfold okStepS at hok
        rw [if_neg k1, if_neg k2, Bool.and_eq_true] at hok
        obtain ⟨hr, hok⟩ := hok
        obtain ⟨hg, hl⟩ := atC_get hr
        have hnew := (set_carp hgood hl).1
        intro i old ho
        by_cases e : carpet.toNat = i
        · subst e
          rw [hg] at ho; injection ho with ho
          refine ⟨_, by rw [List.getElem?_set]; simp [hl]; rfl, ?_⟩
          rw [ho] at hb hnew ⊢
          have hold := (hrows _ old (by rw [hg, ho])).1
          unfold carpB at hold hnew
          simp only [Bool.and_eq_true, inB_iff] at hold hnew
          obtain ⟨⟨⟨⟨c0, c1⟩, c2⟩, c4⟩, c3⟩ := hold
          obtain ⟨⟨⟨⟨d0, d1⟩, d2⟩, d4⟩, d3⟩ := hnew
          rw [Bool.and_eq_true, Bool.and_eq_true] at hb
          obtain ⟨_, hch, _⟩ := hb
          unfold chOk at hch
          by_cases k3 : kind = 3
          · subst k3; simp [chR] at hch ⊢ d3 d2 d1 d0 d4
            refine ⟨by simp, by simp, ?_, ?_, ?_, ?_⟩ <;> simp <;> omega
          · by_cases k4 : kind = 4
            · subst k4
              have hv20 : 1 ≤ value ∧ value ≤ 20 := by simpa [inB_iff] using hok
              simp [chR] at hch ⊢ d3 d2 d1 d0 d4
              have hw : wrap64 (old.f1 + value) = old.f1 + value := wrap_id (by omega) (by omega)
              rw [hw] at *
              refine ⟨by simp, ?_, by simp, ?_, ?_, ?_⟩ <;> simp <;> omega
            · by_cases k5 : kind = 5
              · subst k5; simp [chR] at hch ⊢ d3 d2 d1 d0 d4
                refine ⟨by simp, by simp, ?_, ?_, ?_, ?_⟩ <;> simp <;> omega
              · by_cases k6 : kind = 6
                · subst k6; simp [chR] at hch ⊢ d3 d2 d1 d0 d4
                  refine ⟨by simp, by simp, ?_, ?_, ?_, ?_⟩ <;> simp <;> omega
                · simp [chR, k3, k4, k5, k6] at hch ⊢ d3 d2 d1 d0 d4
                  refine ⟨by simp, by simp, ?_, ?_, ?_, ?_⟩ <;> simp <;> omega
        · exact ⟨old, by rw [List.getElem?_set, if_neg e]; exact ho, goesOn_same (hrows i old ho).1⟩
  · exact absurd h (by simp)
theorem implIn_eq (n lo hi : Int) : impl_in.f n lo hi = some (inB n lo hi) := by
  unfold impl_in.f inB
  by_cases h : n ≥ lo
  · rw [if_pos h]; simp [h]
  · rw [if_neg h]; simp [h]
theorem specIn_eq (n lo hi : Int) : spec_l1In.f n lo hi = some (inB n lo hi) := by
  unfold spec_l1In.f inB
  by_cases h : n ≥ lo
  · rw [if_pos h]; simp [h]
  · rw [if_neg h]; simp [h]
theorem getD_at (cs : List S34) (i : Nat) : cs.getD i ⟨0, 0, 0, 0, 0⟩ = rd_T34 cs (i : Int) := by unfold rd_T34; rw [Int.toNat_natCast]; rfl
theorem implCarpet_eq (k : Nat) (hk : 1 ≤ k) (day looms money : Int) (cs : List S34) (a b c d e : Int) : impl_Shop_isCarpet.f k day looms cs money a b c d e = some (carpB day looms ⟨a, b, c, d, e⟩) := by
  obtain ⟨k, rfl⟩ := succ_of (show 0 < k by omega)
  unfold impl_Shop_isCarpet.f carpB
  simp only [implIn_eq, Option.bind_some, impl_Shop_isCarpet.j0]
  cases h1 : inB a 1 500 <;> simp
  cases h2 : inB b 0 a <;> simp
  cases h3 : inB c 0 4 <;> simp
  cases h4 : inB e 0 day <;> simp
  by_cases h5 : c = 0
  · subst h5; by_cases h6 : b = 0 <;> simp [h6] <;> (try (rw [Bool.eq_iff_iff]; simp))
  · by_cases h6 : c = 1
    · simp [h5, h6]
    · by_cases h7 : b = a <;> simp [h5, h6, h7] <;> (try (rw [Bool.eq_iff_iff]; simp))
theorem specCarpet_eq (k : Nat) (hk : 1 ≤ k) (day looms money : Int) (cs : List S34) (a b c d e : Int) : spec_l25Carpet.f k day looms cs money a b c d e = some (carpB day looms ⟨a, b, c, d, e⟩) := by
  obtain ⟨k, rfl⟩ := succ_of (show 0 < k by omega)
  unfold spec_l25Carpet.f carpB
  simp only [specIn_eq, Option.bind_some, spec_l25Carpet.j0]
  cases h1 : inB a 1 500 <;> simp
  cases h2 : inB b 0 a <;> simp
  cases h3 : inB c 0 4 <;> simp
  cases h4 : inB e 0 day <;> simp
  by_cases h6 : c = 1
  · simp [h6]
  · by_cases h5 : c = 0
    · subst h5; by_cases h7 : d = 0 <;> simp [h7] <;> (try (rw [Bool.eq_iff_iff]; simp))
    · by_cases h7 : d = 0 <;> simp [h5, h6, h7] <;> (try (rw [Bool.eq_iff_iff]; simp))
theorem onLoom_l (cs : List S34) (hl : cs.length ≤ 35184372088832) (loom : Int) : ∀ (d k i : Nat), i + d = cs.length → d < k → (∀ j, j < i → ∀ c, cs[j]? = some c → ¬ (c.f2 = 1 ∧ c.f3 = loom)) → impl_Carpet__Shop_onLoom_1.l0 k cs cs.length i loom = some (onB cs loom) := by
  intro d
  induction d with
  | zero =>
    intro k i h1 h2 h3
    obtain ⟨k, rfl⟩ := succ_of h2
    simp only [impl_Carpet__Shop_onLoom_1.l0]; rw [if_neg (by omega)]
    have : cs.findIdx? (fun c => decide (c.f2 = 1) && decide (c.f3 = loom)) = none := by
      rw [List.findIdx?_eq_none_iff]; intro c hc
      obtain ⟨j, hj⟩ := List.mem_iff_getElem?.1 hc
      have := h3 j (by have := (List.getElem?_eq_some_iff.1 hj).1; omega) c hj
      simpa using this
    unfold onB; rw [this]
  | succ d ih =>
    intro k i h1 h2 h3
    obtain ⟨k, rfl⟩ := succ_of (show 0 < k by omega)
    have hi : i < cs.length := by omega
    have hg : cs[i]? = some cs[i] := List.getElem?_eq_getElem hi
    have ha : rd_T34 cs (i : Int) = cs[i] := by unfold rd_T34; rw [Int.toNat_natCast, List.getD_eq_getElem?_getD, hg]; rfl
    simp only [impl_Carpet__Shop_onLoom_1.l0, impl_Shop_onLoom_1.f, ha]
    rw [if_pos (by omega), if_pos (by omega), if_pos (by omega), wrap_id (by omega) (by omega)]
    by_cases e : cs[i].f2 = 1 ∧ cs[i].f3 = loom
    · rw [if_pos e.1]; simp only [Option.bind_some]; rw [if_pos (by simpa using e.2)]
      congr 1; symm
      exact (onB_eq hg e.1 e.2).2 fun j d' hj hd => h3 j hj d' hd
    · have hn := ih k (i + 1) (by omega) (by omega) (fun j hj c hc => by
        by_cases e2 : j = i
        · subst e2; rw [hg] at hc; injection hc with hc; subst hc; exact e
        · exact h3 j (by omega) c hc)
      rw [show ((i : Int) + 1) = ((i + 1 : Nat) : Int) by omega]
      by_cases e1 : cs[i].f2 = 1
      · rw [if_pos e1]; simp only [Option.bind_some]
        rw [if_neg (by simp; exact fun h => e ⟨e1, h⟩)]; exact hn
      · rw [if_neg e1]; simp only [Option.bind_some, Bool.false_eq_true, if_false]; exact hn
theorem onLoom_eq (k : Nat) (day looms money : Int) (cs : List S34) (hl : cs.length ≤ 35184372088832) (hk : cs.length < k) (loom : Int) : impl_Shop_onLoom.f k day looms cs money loom = some (onB cs loom) := by
  unfold impl_Shop_onLoom.f impl_Carpet__Shop_onLoom_1.f
  have := onLoom_l cs hl loom cs.length k 0 (by omega) hk (fun j hj => absurd hj (by omega))
  rw [show ((0 : Nat) : Int) = 0 from rfl] at this
  rw [this]; rfl
def pI (day looms : Int) (cs : List S34) (i : Nat) : Bool := carpB day looms (rd_T34 cs (i : Int)) && !(decide ((rd_T34 cs (i : Int)).f2 = 1) && decide (onB cs (rd_T34 cs (i : Int)).f3 ≠ (i : Int)))
theorem rowsI_pI (day looms : Int) (cs : List S34) : rowsI day looms cs = (List.range cs.length).all (pI day looms cs) := by unfold rowsI pI; simp only [getD_at]
theorem isShop_l (day looms money : Int) (cs : List S34) (hl : cs.length ≤ 1000) : ∀ (d k i : Nat), i + d = cs.length → cs.length + d + 5 < k → (∀ j, j < i → pI day looms cs j = true) → impl_IsShop.l0 k cs cs.length i day looms cs money = some (rowsI day looms cs) := by
  intro d
  induction d with
  | zero =>
    intro k i h1 h2 h3
    obtain ⟨k, rfl⟩ := succ_of (show 0 < k by omega)
    simp only [impl_IsShop.l0]; rw [if_neg (by omega), rowsI_pI]
    congr 1; symm; rw [List.all_eq_true]; intro j hj; rw [List.mem_range] at hj; exact h3 j (by omega)
  | succ d ih =>
    intro k i h1 h2 h3
    obtain ⟨k, rfl⟩ := succ_of (show 0 < k by omega)
    simp only [impl_IsShop.l0]
    rw [if_pos (by omega), if_pos (by omega), if_pos (by omega), implCarpet_eq k (by omega)]; simp only [Option.bind_some]
    have hfail : pI day looms cs i = false → rowsI day looms cs = false := by
      intro hp; rw [rowsI_pI, ← Bool.not_eq_true, List.all_eq_true]; intro hh
      have := hh i (by rw [List.mem_range]; omega); rw [hp] at this; exact absurd this (by simp)
    have hcont : pI day looms cs i = true → impl_IsShop.l0 k cs cs.length (wrap64 ((i : Int) + 1)) day looms cs money = some (rowsI day looms cs) := by
      intro hp; rw [wrap_id (by omega) (by omega), show ((i : Int) + 1) = ((i + 1 : Nat) : Int) by omega]
      refine ih k (i + 1) (by omega) (by omega) fun j hj => ?_
      by_cases e : j = i
      · subst e; exact hp
      · exact h3 j (by omega)
    by_cases e1 : carpB day looms (rd_T34 cs (i : Int)) = true
    · rw [if_pos e1]
      by_cases e2 : (rd_T34 cs (i : Int)).f2 = 1
      · rw [if_pos e2, onLoom_eq k _ _ _ cs (by omega) (by omega)]; simp only [Option.bind_some]
        by_cases e3 : onB cs (rd_T34 cs (i : Int)).f3 = (i : Int)
        · rw [if_pos e3]; exact hcont (by unfold pI; simp [e1, e3])
        · rw [if_neg e3, hfail (by unfold pI; simp [e2, e3])]
      · rw [if_neg e2]; exact hcont (by unfold pI; simp [e1, e2])
    · rw [if_neg e1, hfail (by unfold pI; simp [e1])]
theorem isShop_eq (k : Nat) (day looms money : Int) (cs : List S34) (hl : cs.length ≤ 140737488355328) (hk : 100 ≤ k) : impl_IsShop.f k day looms cs money = some (shopB day looms cs money) := by
  obtain ⟨k, rfl⟩ := succ_of (show 0 < k by omega)
  unfold impl_IsShop.f shopB impl_isDay.f
  simp only [implIn_eq, Option.bind_some, impl_IsShop.j0]
  cases h1 : inB day 0 4000 <;> simp
  cases h2 : inB looms 1 4 <;> simp
  by_cases h4 : (cs.length : Int) > 8
  · rw [if_pos h4]; have : ¬ cs.length ≤ 8 := by omega
    simp [this]
  · rw [if_neg h4]
    cases h3 : inB money 0 1000000 <;> simp
    have := isShop_l day looms money cs (by omega) cs.length k 0 (by omega) (by omega) (fun j hj => absurd hj (by omega))
    rw [show ((0 : Nat) : Int) = 0 from rfl] at this
    rw [this, rowsI_eq]; have : cs.length ≤ 8 := by omega
    simp [this]
def pS (day looms : Int) (cs : List S34) (i : Nat) : Bool := carpB day looms (rd_T34 cs (i : Int)) && soloB cs i (rd_T34 cs (i : Int))
theorem rowsB_pS (day looms : Int) (cs : List S34) : rowsB day looms cs = (List.range cs.length).all (pS day looms cs) := by unfold rowsB pS; simp only [getD_at]
theorem good_l1 (day looms money : Int) (cs : List S34) (hl : cs.length ≤ 1000) (i : Nat) (hi : i < cs.length) : ∀ (d k j : Nat), j + d = i → d < k → (∀ c ∈ cs.take j, ¬ ((rd_T34 cs (i : Int)).f3 > 0 ∧ c.f3 = (rd_T34 cs (i : Int)).f3)) → ∃ k', k' + d + 1 = k ∧ ((soloB cs i (rd_T34 cs (i : Int)) = true ∧ spec_l25Good.l1 k i j day looms cs money = spec_l25Good.l0 k' ((i + 1 : Nat) : Int) day looms cs money) ∨ (soloB cs i (rd_T34 cs (i : Int)) = false ∧ spec_l25Good.l1 k i j day looms cs money = some false)) := by
  intro d
  induction d with
  | zero =>
    intro k j h1 h2 h3
    obtain ⟨k, rfl⟩ := succ_of (show 0 < k by omega)
    have : j = i := by omega
    subst this
    refine ⟨k, rfl, .inl ⟨?_, ?_⟩⟩
    · unfold soloB; rw [List.all_eq_true]; intro c hc; have := h3 c hc; rw [Bool.not_eq_true', ← Bool.not_eq_true]; simp only [Bool.and_eq_true, decide_eq_true_eq]; exact this
    · simp only [spec_l25Good.l1]; rw [if_neg (by omega), wrap_id (by omega) (by omega)]; rfl
  | succ d ih =>
    intro k j h1 h2 h3
    obtain ⟨k, rfl⟩ := succ_of (show 0 < k by omega)
    have hj : j < cs.length := by omega
    have haj : rd_T34 cs (j : Int) = cs[j] := by unfold rd_T34; rw [Int.toNat_natCast, List.getD_eq_getElem?_getD, List.getElem?_eq_getElem hj]; rfl
    have htake : cs.take (j + 1) = cs.take j ++ [cs[j]] := List.take_succ_eq_append_getElem hj
    have hmem : cs[j] ∈ cs.take i := List.mem_of_getElem? (i := j) (by rw [List.getElem?_take, if_pos (by omega), List.getElem?_eq_getElem hj])
    simp only [spec_l25Good.l1]
    rw [if_pos (by omega), if_pos (by omega), if_pos (by omega), wrap_id (by omega) (by omega), show ((j : Int) + 1) = ((j + 1 : Nat) : Int) by omega, haj]
    have hcont : ¬ ((rd_T34 cs (i : Int)).f3 > 0 ∧ cs[j].f3 = (rd_T34 cs (i : Int)).f3) → ∃ k', k' + (d + 1) + 1 = k + 1 ∧ ((soloB cs i (rd_T34 cs (i : Int)) = true ∧ spec_l25Good.l1 k i ((j + 1 : Nat) : Int) day looms cs money = spec_l25Good.l0 k' ((i + 1 : Nat) : Int) day looms cs money) ∨ (soloB cs i (rd_T34 cs (i : Int)) = false ∧ spec_l25Good.l1 k i ((j + 1 : Nat) : Int) day looms cs money = some false)) := by
      intro hn
      obtain ⟨k', e1, e2⟩ := ih k (j + 1) (by omega) (by omega) (fun c hc => by
        rw [htake, List.mem_append, List.mem_singleton] at hc
        rcases hc with hc | rfl
        · exact h3 c hc
        · exact hn)
      exact ⟨k', by omega, e2⟩
    by_cases e1 : (rd_T34 cs (i : Int)).f3 > 0
    · rw [if_pos e1, if_pos (by omega), if_pos (by omega)]
      by_cases e2 : cs[j].f3 = (rd_T34 cs (i : Int)).f3
      · rw [if_pos e2]
        refine ⟨k - (d + 1), by omega, .inr ⟨?_, rfl⟩⟩
        unfold soloB; rw [← Bool.not_eq_true, List.all_eq_true]; intro hh
        have := hh _ hmem
        simp [e1, e2] at this
      · rw [if_neg e2]; exact hcont (fun h => e2 h.2)
    · rw [if_neg e1]; exact hcont (fun h => e1 h.1)
theorem good_l (day looms money : Int) (cs : List S34) (hl : cs.length ≤ 8) : ∀ (d k i : Nat), i + d = cs.length → 12 * d + 5 < k → (∀ j, j < i → pS day looms cs j = true) → spec_l25Good.l0 k i day looms cs money = some (rowsB day looms cs) := by
  intro d
  induction d with
  | zero =>
    intro k i h1 h2 h3
    obtain ⟨k, rfl⟩ := succ_of (show 0 < k by omega)
    simp only [spec_l25Good.l0]; rw [if_neg (by omega), rowsB_pS]
    congr 1; symm; rw [List.all_eq_true]; intro j hj; rw [List.mem_range] at hj; exact h3 j (by omega)
  | succ d ih =>
    intro k i h1 h2 h3
    obtain ⟨k, rfl⟩ := succ_of (show 0 < k by omega)
    simp only [spec_l25Good.l0]
    rw [if_pos (by omega), if_pos (by omega), specCarpet_eq k (by omega)]; simp only [Option.bind_some]
    have hfail : pS day looms cs i = false → rowsB day looms cs = false := by
      intro hp; rw [rowsB_pS, ← Bool.not_eq_true, List.all_eq_true]; intro hh
      have := hh i (by rw [List.mem_range]; omega); rw [hp] at this; exact absurd this (by simp)
    by_cases e1 : carpB day looms (rd_T34 cs (i : Int)) = true
    · rw [if_pos e1]
      obtain ⟨k', f1, f2⟩ := good_l1 day looms money cs (by omega) i (by omega) i k 0 (by omega) (by omega) (by simp)
      rw [show ((0 : Nat) : Int) = 0 from rfl] at f2
      rcases f2 with ⟨g1, g2⟩ | ⟨g1, g2⟩
      · rw [g2]
        refine ih k' (i + 1) (by omega) (by omega) fun j hj => ?_
        by_cases e : j = i
        · subst e; unfold pS; simp [e1, g1]
        · exact h3 j (by omega)
      · rw [g2, hfail (by unfold pS; simp [g1])]
    · rw [if_neg e1, hfail (by unfold pS; simp [e1])]
theorem good_eq (k : Nat) (day looms money : Int) (cs : List S34) (hl : cs.length ≤ 140737488355328) (hk : 200 ≤ k) : spec_l25Good.f k day looms cs money = some (shopB day looms cs money) := by
  obtain ⟨k, rfl⟩ := succ_of (show 0 < k by omega)
  unfold spec_l25Good.f shopB spec_l2Day.f
  simp only [specIn_eq, Option.bind_some, spec_l25Good.j0]
  cases h1 : inB day 0 4000 <;> simp
  cases h2 : inB looms 1 4 <;> simp
  cases h3 : inB money 0 1000000 <;> simp
  by_cases h4 : (cs.length : Int) > 8
  · have : ¬ cs.length ≤ 8 := by omega
    have h5 : 8 < cs.length := by omega
    have h7 : ¬ (cs.length : Int) ≤ 8 := by omega
    simp [this, h5, h7]
  · have h5 : cs.length ≤ 8 := by omega
    have h6 : ¬ 8 < cs.length := by omega
    have := good_l day looms money cs h5 cs.length k 0 (by omega) (by omega) (fun j hj => absurd hj (by omega))
    rw [show ((0 : Nat) : Int) = 0 from rfl] at this
    have h8 : ¬ (8 : Int) < cs.length := by omega
    simp [h5, h6, h8, this]
theorem valid_eq (k : Nat) (hk : 2 ≤ k) (kind carpet value : Int) : impl_ShopStep_isValid.f k kind carpet value = some (validI kind carpet value) := by
  obtain ⟨k, rfl⟩ := succ_of (show 0 < k by omega)
  obtain ⟨k, rfl⟩ := succ_of (show 0 < k by omega)
  unfold impl_ShopStep_isValid.f validI
  simp only [impl_ShopStep_isValid.j0, impl_ShopStep_isValid.j1, implIn_eq, Option.bind_some]
  by_cases k1 : kind = 1
  · subst k1; by_cases h : carpet = 0 <;> simp [h]
  · by_cases k2 : kind = 2
    · subst k2; by_cases h : carpet = 0 <;> simp [h]
    · by_cases k3 : kind = 3
      · subst k3; simp
      · by_cases k7 : kind = 7
        · subst k7; simp
        · by_cases k4 : kind = 4
          · subst k4; simp
          · by_cases k5 : kind = 5
            · subst k5; simp; try (rw [Bool.eq_iff_iff]; simp)
            · by_cases k6 : kind = 6
              · subst k6; simp; try (rw [Bool.eq_iff_iff]; simp)
              · simp [k1, k2, k3, k4, k5, k6, k7]
theorem change_eq {day looms money kind carpet value : Int} {cs : List S34} (hr : inB carpet 0 ((cs.length : Int) - 1) = true) (hv : validI kind carpet value = true) (k1 : ¬ kind = 1) (k2 : ¬ kind = 2) : impl_Shop_change.f day looms cs money kind carpet value = some (day, looms, cs.set carpet.toNat (chR (rd_T34 cs carpet) kind value day), if kind = 7 then wrap64 (money + value) else money) := by
  obtain ⟨hg, hl⟩ := atC_get hr
  rw [inB_iff] at hr
  have hat : ∀ c : S34, rd_T34 (cs.set carpet.toNat c) carpet = c := by
    intro c; unfold rd_T34; rw [List.getD_eq_getElem?_getD, List.getElem?_set]; simp [hl]
  unfold impl_Shop_change.f
  rw [if_pos (by omega), if_pos (by omega)]; simp only [Option.bind_some, hat, List.set_set]
  unfold chR
  by_cases k3 : kind = 3
  · subst k3; simp
  · by_cases k4 : kind = 4
    · subst k4; simp
    · by_cases k5 : kind = 5
      · subst k5; simp
      · by_cases k6 : kind = 6
        · subst k6; simp
        · by_cases k7 : kind = 7
          · subst k7; simp
          · unfold validI at hv; simp [k1, k2, k3, k4, k5, k6, k7] at hv
theorem can_eq (k : Nat) {day looms money kind carpet value : Int} {cs : List S34} (c : S34) (hl : cs.length ≤ 1000) (hk : 1001 < k) (hd : 0 ≤ day ∧ day ≤ 4000) (hc4 : 0 ≤ c.f4 ∧ c.f4 ≤ 4000) (hc0 : 0 ≤ c.f0 ∧ c.f0 ≤ 500) (hc1 : 0 ≤ c.f1 ∧ c.f1 ≤ 500) : impl_Shop_canChange.f k day looms cs money kind carpet value c.f0 c.f1 c.f2 c.f3 c.f4 = some (canI day cs c kind value) := by
  unfold impl_Shop_canChange.f canI
  rw [wrap_id (x := day - c.f4) (by omega) (by omega), wrap_id (x := c.f0 - c.f1) (by omega) (by omega)]
  by_cases k3 : kind = 3
  · subst k3; rw [if_pos rfl, if_pos rfl, onLoom_eq k _ _ _ cs (by omega) (by omega)]
    by_cases e : c.f2 = 0 <;> simp [e]
  · by_cases k4 : kind = 4
    · subst k4; by_cases e : c.f2 = 1
      · by_cases e2 : day - c.f4 ≥ 1 <;> simp [e, e2]
      · simp [e]
    · by_cases k5 : kind = 5
      · subst k5; by_cases e : c.f2 = 1 <;> simp [e] <;> (try (rw [Bool.eq_iff_iff]; simp))
      · by_cases k6 : kind = 6
        · subst k6; simp; try (rw [Bool.eq_iff_iff]; simp)
        · by_cases e : c.f2 = 3 <;> simp [k3, k4, k5, k6, e]
def outR (r : Option (Int × Int × List S34 × Int)) : Int × Int × List S34 × Int × Bool := match r with | some (d, l, c, m) => (d, l, c, m, true) | none => (0, 0, [], 0, false)
theorem clone_eq (cs : List S34) (hl : cs.length ≤ 4194304) : impl_Carpet_109.f cs = some cs := by unfold impl_Carpet_109.f; rw [if_pos (by omega)]
theorem implStep_eq (k : Nat) {day looms money kind carpet value : Int} {cs : List S34} (hs : shopB day looms cs money = true) (hk : 2000 ≤ k) : impl_Shop_step.f k day looms cs money kind carpet value = some (outR (stepI day looms cs money kind carpet value)) := by
  obtain ⟨a1, a2, a3, a4, a5⟩ := shopB_of hs
  unfold impl_Shop_step.f stepI impl_Shop_copied.f
  rw [valid_eq k (by omega), clone_eq cs (by omega)]; simp only [Option.bind_some]
  by_cases hv : validI kind carpet value = true
  · rw [if_pos hv, if_pos hv]
    by_cases k1 : kind = 1
    · subst k1
      rw [if_pos rfl, if_pos rfl, isShop_eq k _ _ _ cs (by omega) (by omega)]; simp only [Option.bind_some]
      cases shopB (wrap64 (day + value)) looms cs money <;> rfl
    · rw [if_neg k1, if_neg k1]
      by_cases k2 : kind = 2
      · subst k2
        rw [if_pos rfl, if_pos rfl, if_pos (by omega)]; (try simp only [Option.bind_some])
        rw [isShop_eq k _ _ _ _ (by simp; omega) (by omega)]; simp only [Option.bind_some]
        unfold newC
        cases shopB day looms (cs ++ [⟨value, 0, 0, 0, day⟩]) money <;> rfl
      · rw [if_neg k2, if_neg k2, wrap_id (by omega) (by omega), implIn_eq]; simp only [Option.bind_some]
        by_cases hr : inB carpet 0 ((cs.length : Int) - 1) = true
        · have hr' := inB_iff.1 hr
          obtain ⟨hg, hl⟩ := atC_get hr
          have hcarp := (rowsB_iff.1 a5 _ _ hg).1
          unfold carpB at hcarp
          simp only [Bool.and_eq_true, inB_iff] at hcarp
          rw [if_pos hr, if_pos (by omega), if_pos (by omega)]
          rw [can_eq k (rd_T34 cs carpet) (by omega) (by omega) a1 (by omega) (by omega) (by omega)]; simp only [Option.bind_some]
          obtain ⟨k, rfl⟩ := succ_of (show 0 < k by omega)
          simp only [impl_Shop_step.j0]
          by_cases hc : canI day cs (rd_T34 cs carpet) kind value = true
          · rw [hc]; simp only [Bool.not_true, Bool.false_eq_true, if_false]
            rw [change_eq hr hv k1 k2]; simp only [Option.bind_some]
            rw [isShop_eq k _ _ _ _ (by rw [List.length_set]; omega) (by omega)]; simp only [Option.bind_some]
            rw [hr]; simp only [Bool.true_and]
            cases shopB day looms (cs.set carpet.toNat (chR (rd_T34 cs carpet) kind value day)) (if kind = 7 then wrap64 (money + value) else money) <;> rfl
          · have hc' : canI day cs (rd_T34 cs carpet) kind value = false := by simpa using hc
            rw [hc']; simp [keepIf, outR]
        · have hr' : inB carpet 0 ((cs.length : Int) - 1) = false := by simpa using hr
          rw [if_neg hr]
          obtain ⟨k, rfl⟩ := succ_of (show 0 < k by omega)
          simp only [impl_Shop_step.j0, if_true]
          rw [hr']; simp [keepIf, outR]
  · rw [if_neg hv, if_neg hv]; rfl
theorem okStep_eq {looms : Int} (day money kind carpet value : Int) (cs : List S34) (hl : cs.length ≤ 1000) : spec_l25Step.f day looms cs money kind carpet value = some (okStepS looms cs.length kind carpet value) := by
  unfold spec_l25Step.f okStepS
  rw [wrap_id (by omega) (by omega)]
  simp only [specIn_eq, Option.bind_some]
  by_cases k1 : kind = 1
  · subst k1; by_cases h : carpet = 0 <;> simp [h]
  · by_cases k2 : kind = 2
    · subst k2; by_cases h : carpet = 0 <;> simp [h]
    · rw [if_neg k1, if_neg k1, if_neg k2, if_neg k2]
      cases hr : inB carpet 0 ((cs.length : Int) - 1)
      · simp
      · by_cases k3 : kind = 3
        · subst k3; simp
        · by_cases k4 : kind = 4
          · subst k4; simp
          · by_cases k7 : kind = 7
            · subst k7; simp
            · by_cases k5 : kind = 5
              · subst k5; simp; try (rw [Bool.eq_iff_iff]; simp)
              · by_cases k6 : kind = 6
                · subst k6; simp; try (rw [Bool.eq_iff_iff]; simp)
                · simp [k3, k4, k5, k6, k7]
theorem chS_eq (c : S34) {day kind value : Int} (carpet : Int) (hd : 0 ≤ day ∧ day ≤ 4000) (hc4 : 0 ≤ c.f4 ∧ c.f4 ≤ 4000) (hkk : kind = 3 ∨ kind = 4 ∨ kind = 5 ∨ kind = 6 ∨ kind = 7) : spec_l25Change.f c.f0 c.f1 c.f2 c.f3 c.f4 kind carpet value day = some ((chR c kind value day).f0, (chR c kind value day).f1, (chR c kind value day).f2, (chR c kind value day).f3, (chR c kind value day).f4, chOk c kind day) := by
  unfold spec_l25Change.f chR chOk
  rw [wrap_id (x := day - c.f4) (by omega) (by omega)]
  rcases hkk with rfl | rfl | rfl | rfl | rfl
  · simp; try (rw [Bool.eq_iff_iff]; simp)
  · by_cases e : c.f2 = 1 <;> simp [e]
  · simp; try (rw [Bool.eq_iff_iff]; simp)
  · simp; try (rw [Bool.eq_iff_iff]; simp)
  · by_cases e : c.f2 = 3 <;> simp [e]
theorem specOwn_eq (day looms money : Int) (cs : List S34) (hl : cs.length ≤ 4194304) : spec_l25Own.f day looms cs money = some (day, looms, cs, money) := by
  unfold spec_l25Own.f; simp only [Option.bind_some]; rw [if_pos (by simp; omega)]; rfl
theorem kinds_of {looms : Int} {n : Nat} {kind carpet value : Int} (h : okStepS looms n kind carpet value = true) (k1 : ¬ kind = 1) (k2 : ¬ kind = 2) : inB carpet 0 ((n : Int) - 1) = true ∧ (kind = 3 ∨ kind = 4 ∨ kind = 5 ∨ kind = 6 ∨ kind = 7) := by
  unfold okStepS at h
  rw [if_neg k1, if_neg k2, Bool.and_eq_true] at h
  refine ⟨h.1, ?_⟩
  have h := h.2
  by_cases k3 : kind = 3
  · exact .inl k3
  · by_cases k4 : kind = 4
    · exact .inr (.inl k4)
    · by_cases k7 : kind = 7
      · exact .inr (.inr (.inr (.inr k7)))
      · rw [if_neg k3, if_neg k4, if_neg k7] at h; simp at h; omega
/-- What the reference makes: a shop, and whether it stands. -/
theorem specMake_eq (k : Nat) {day looms money kind carpet value : Int} {cs : List S34} (hs : shopB day looms cs money = true) (hok : okStepS looms cs.length kind carpet value = true) (hk : 2000 ≤ k) : ∃ (d l m : Int) (c : List S34) (b : Bool), spec_l25Make.f k day looms cs money kind carpet value = some (d, l, c, m, b) ∧ makeS day looms cs money kind carpet value = (if b = true then some (d, l, c, m) else none) := by
  obtain ⟨a1, a2, a3, a4, a5⟩ := shopB_of hs
  unfold spec_l25Make.f makeS
  rw [specOwn_eq _ _ _ cs (by omega)]; simp only [Option.bind_some]
  by_cases k1 : kind = 1
  · subst k1
    rw [if_pos rfl, if_pos rfl, wrap_id (x := 4000 - day) (by omega) (by omega)]
    unfold okStepS at hok; rw [if_pos rfl] at hok; simp at hok
    by_cases e : value > 4000 - day
    · rw [if_pos e]; refine ⟨_, _, _, _, _, rfl, ?_⟩; simp [keepIf, e]
    · rw [if_neg e, wrap_id (by omega) (by omega)]; refine ⟨_, _, _, _, _, rfl, ?_⟩; simp [keepIf, e]
  · rw [if_neg k1, if_neg k1]
    by_cases k2 : kind = 2
    · subst k2
      rw [if_pos rfl, if_pos rfl, if_pos (by omega)]; (try simp only [Option.bind_some])
      rw [good_eq k _ _ _ _ (by simp; omega) (by omega)]; simp only [Option.bind_some]
      refine ⟨_, _, _, _, _, rfl, ?_⟩; unfold keepIf newC; rfl
    · obtain ⟨hr, hkk⟩ := kinds_of hok k1 k2
      have hr' := inB_iff.1 hr
      obtain ⟨hg, hl⟩ := atC_get hr
      have hcarp := (rowsB_iff.1 a5 _ _ hg).1
      unfold carpB at hcarp
      simp only [Bool.and_eq_true, inB_iff] at hcarp
      have hv7 : kind = 7 → value ≥ 1 := by
        intro e; subst e; unfold okStepS at hok; rw [if_neg (by omega), if_neg (by omega), Bool.and_eq_true, if_neg (by omega), if_neg (by omega), if_pos rfl] at hok; simpa using hok.2
      rw [if_neg k2, if_neg k2]
      have hch : ∀ c : S34, (⟨c.f0, c.f1, c.f2, c.f3, c.f4⟩ : S34) = c := fun c => rfl
      by_cases k7 : kind = 7
      · rw [if_pos k7, wrap_id (x := 1000000 - money) (by omega) (by omega)]
        by_cases e : value > 1000000 - money
        · rw [if_pos e]; refine ⟨_, _, _, _, _, rfl, ?_⟩; simp [keepIf, k7, e]
        · rw [if_neg e, if_pos (by omega), if_pos (by omega)]
          have h7 := hv7 k7
          rw [chS_eq (rd_T34 cs carpet) carpet a1 (by omega) hkk]; simp only [Option.bind_some, hch]
          rw [if_pos (by omega)]; (try simp only [Option.bind_some])
          rw [wrap_id (x := money + value) (by omega) (by omega)]
          cases hc : chOk (rd_T34 cs carpet) kind day
          · rw [if_neg (by simp)]; refine ⟨_, _, _, _, _, rfl, ?_⟩; simp [keepIf]
          · rw [if_pos rfl, good_eq k _ _ _ _ (by rw [List.length_set]; omega) (by omega)]; simp only [Option.bind_some]
            refine ⟨_, _, _, _, _, rfl, ?_⟩; unfold keepIf; simp [k7, e]
      · rw [if_neg k7, if_pos (by omega), if_pos (by omega)]
        rw [chS_eq (rd_T34 cs carpet) carpet a1 (by omega) hkk]; simp only [Option.bind_some, hch]
        rw [if_pos (by omega)]; (try simp only [Option.bind_some])
        cases hc : chOk (rd_T34 cs carpet) kind day
        · rw [if_neg (by simp)]; refine ⟨_, _, _, _, _, rfl, ?_⟩; simp [keepIf]
        · rw [if_pos rfl, good_eq k _ _ _ _ (by rw [List.length_set]; omega) (by omega)]; simp only [Option.bind_some]
          refine ⟨_, _, _, _, _, rfl, ?_⟩; unfold keepIf; simp [k7]
def runR : List S30 → Int → Int → List S34 → Int → Int → Int × Int × List S34 × Int × Int
  | [], d, l, c, m, n => (d, l, c, m, n)
  | x :: xs, d, l, c, m, n => match stepS d l c m x.f0 x.f1 x.f2 with | some (d', l', c', m') => runR xs d' l' c' m' (n + 1) | none => runR xs d l c m n
theorem rdX_get (l : List S30) (i : Nat) (h : i < l.length) : rd_T30 l (i : Int) = l[i] := by
  unfold rd_T30; rw [Int.toNat_natCast, List.getD_eq_getElem?_getD, List.getElem?_eq_getElem h]; rfl
def okX (l : List S30) : Prop := ∀ x ∈ l, -9223372036854775808 ≤ x.f2 ∧ x.f2 ≤ 9223372036854775807
theorem runR_good : ∀ (xs : List S30) {d l m : Int} {c : List S34} (n : Int), okX xs → shopB d l c m = true → shopB (runR xs d l c m n).1 (runR xs d l c m n).2.1 (runR xs d l c m n).2.2.1 (runR xs d l c m n).2.2.2.1 = true := by
  intro xs
  induction xs with
  | nil => intro d l m c n _ hs; exact hs
  | cons x xs ih =>
    intro d l m c n ho hs
    have hx := ho x (by simp)
    have ho' : okX xs := fun y hy => ho y (by simp [hy])
    simp only [runR]
    cases h : stepS d l c m x.f0 x.f1 x.f2 with
    | none => exact ih n ho' hs
    | some r => obtain ⟨d', l', c', m'⟩ := r; exact ih (n + 1) ho' (stepS_good hs hx h)
theorem implRun_l {steps : List S30} (hst : okX steps) (hl : steps.length ≤ 40) : ∀ (e K i : Nat) (d l m n : Int) (c : List S34), i + e = steps.length → shopB d l c m = true → 0 ≤ n → n + e ≤ 1000 → 3000 + e ≤ K → impl_RunShop.l0 K n steps steps.length i d l c m = some ((runR (steps.drop i) d l c m n).1, (runR (steps.drop i) d l c m n).2.1, (runR (steps.drop i) d l c m n).2.2.1, (runR (steps.drop i) d l c m n).2.2.2.1, (runR (steps.drop i) d l c m n).2.2.2.2, true) := by
  intro e
  induction e with
  | zero =>
    intro K i d l m n c h1 hs h2 h3 h4
    obtain ⟨K, rfl⟩ := succ_of (show 0 < K by omega)
    simp only [impl_RunShop.l0]; rw [if_neg (by omega), List.drop_of_length_le (by omega)]; rfl
  | succ e ih =>
    intro K i d l m n c h1 hs h2 h3 h4
    obtain ⟨K, rfl⟩ := succ_of (show 0 < K by omega)
    have hi : i < steps.length := by omega
    have hd : steps.drop i = steps[i] :: steps.drop (i + 1) := List.drop_eq_getElem_cons hi
    have hx := hst _ (List.getElem_mem hi)
    simp only [impl_RunShop.l0]
    rw [if_pos (by omega), if_pos (by omega), if_pos (by omega), rdX_get steps i hi, implStep_eq K hs (by omega), step_eq hs hx]; simp only [Option.bind_some]
    rw [hd]; simp only [runR]
    rw [wrap_id (x := (i : Int) + 1) (by omega) (by omega), show ((i : Int) + 1) = ((i + 1 : Nat) : Int) by omega]
    cases h : stepS d l c m steps[i].f0 steps[i].f1 steps[i].f2 with
    | none => simp only [outR, Bool.false_eq_true, if_false]; exact ih K (i + 1) d l m n c (by omega) hs h2 (by omega) (by omega)
    | some r =>
      obtain ⟨d', l', c', m'⟩ := r
      simp only [outR, if_true]
      rw [wrap_id (by omega) (by omega)]
      exact ih K (i + 1) d' l' m' (n + 1) c' (by omega) (stepS_good hs hx h) (by omega) (by omega) (by omega)
theorem specRun_l {steps : List S30} (hst : okX steps) (hl : steps.length ≤ 40) : ∀ (e K i : Nat) (d l m n : Int) (c : List S34), i + e = steps.length → shopB d l c m = true → 0 ≤ n → n + e ≤ 1000 → 3000 + e ≤ K → spec_RunShop.l0 K steps n i d l c m = some ((runR (steps.drop i) d l c m n).1, (runR (steps.drop i) d l c m n).2.1, (runR (steps.drop i) d l c m n).2.2.1, (runR (steps.drop i) d l c m n).2.2.2.1, (runR (steps.drop i) d l c m n).2.2.2.2, true) := by
  intro e
  induction e with
  | zero =>
    intro K i d l m n c h1 hs h2 h3 h4
    obtain ⟨K, rfl⟩ := succ_of (show 0 < K by omega)
    simp only [spec_RunShop.l0]; rw [if_neg (by omega), List.drop_of_length_le (by omega)]; rfl
  | succ e ih =>
    intro K i d l m n c h1 hs h2 h3 h4
    obtain ⟨K, rfl⟩ := succ_of (show 0 < K by omega)
    have hi : i < steps.length := by omega
    have hd : steps.drop i = steps[i] :: steps.drop (i + 1) := List.drop_eq_getElem_cons hi
    have hx := hst _ (List.getElem_mem hi)
    have a4 := (shopB_of hs).2.2.2.1
    simp only [spec_RunShop.l0]
    rw [if_pos (by omega), if_pos (by omega), rdX_get steps i hi, okStep_eq _ _ _ _ _ _ (by omega)]; simp only [Option.bind_some]
    rw [hd]; simp only [runR]
    rw [wrap_id (x := (i : Int) + 1) (by omega) (by omega), wrap_id (x := n + 1) (by omega) (by omega), show ((i : Int) + 1) = ((i + 1 : Nat) : Int) by omega]
    have hno : stepS d l c m steps[i].f0 steps[i].f1 steps[i].f2 = none → spec_RunShop.l0 K steps n ((i + 1 : Nat) : Int) d l c m = some ((runR (steps.drop (i + 1)) d l c m n).1, (runR (steps.drop (i + 1)) d l c m n).2.1, (runR (steps.drop (i + 1)) d l c m n).2.2.1, (runR (steps.drop (i + 1)) d l c m n).2.2.2.1, (runR (steps.drop (i + 1)) d l c m n).2.2.2.2, true) := fun _ => ih K (i + 1) d l m n c (by omega) hs h2 (by omega) (by omega)
    by_cases hok : okStepS l c.length steps[i].f0 steps[i].f1 steps[i].f2 = true
    · rw [if_pos hok]
      obtain ⟨d', l', m', c', b, e1, e2⟩ := specMake_eq K (value := steps[i].f2) hs hok (by omega)
      have h : stepS d l c m steps[i].f0 steps[i].f1 steps[i].f2 = if b = true then some (d', l', c', m') else none := by unfold stepS; rw [if_pos hok]; exact e2
      rw [e1]; simp only [Option.bind_some]
      cases b with
      | false =>
        have h' : stepS d l c m steps[i].f0 steps[i].f1 steps[i].f2 = none := by rw [h]; rfl
        rw [h']; simp only [Bool.false_eq_true, if_false]; exact hno h'
      | true =>
        have h' : stepS d l c m steps[i].f0 steps[i].f1 steps[i].f2 = some (d', l', c', m') := by rw [h]; rfl
        rw [h']; simp only [if_true]
        exact ih K (i + 1) d' l' m' (n + 1) c' (by omega) (stepS_good hs hx h') (by omega) (by omega) (by omega)
    · have h' : stepS d l c m steps[i].f0 steps[i].f1 steps[i].f2 = none := by unfold stepS; rw [if_neg hok]
      rw [if_neg hok, h']; exact hno h'
theorem run_both (day looms : Int) (cs : List S34) (money : Int) (steps : List S30) (hl : cs.length ≤ 140737488355328) (hl2 : steps.length ≤ 140737488355328) (hst : okX steps) : (shopB day looms cs money = true ∧ steps.length ≤ 40 ∧ (∀ k, 5000 ≤ k → spec_RunShop.f k day looms cs money steps = some ((runR steps day looms cs money 0).1, (runR steps day looms cs money 0).2.1, (runR steps day looms cs money 0).2.2.1, (runR steps day looms cs money 0).2.2.2.1, (runR steps day looms cs money 0).2.2.2.2, true)) ∧ (∀ k, 5000 ≤ k → impl_RunShop.f k day looms cs money steps = some ((runR steps day looms cs money 0).1, (runR steps day looms cs money 0).2.1, (runR steps day looms cs money 0).2.2.1, (runR steps day looms cs money 0).2.2.2.1, (runR steps day looms cs money 0).2.2.2.2, true))) ∨ (¬ (shopB day looms cs money = true ∧ steps.length ≤ 40) ∧ (∀ k, 5000 ≤ k → spec_RunShop.f k day looms cs money steps = some (0, 0, [], 0, 0, false)) ∧ (∀ k, 5000 ≤ k → impl_RunShop.f k day looms cs money steps = some (0, 0, [], 0, 0, false))) := by
  by_cases hs : shopB day looms cs money = true
  · have a4 := (shopB_of hs).2.2.2.1
    by_cases h40 : steps.length ≤ 40
    · refine .inl ⟨hs, h40, fun k hk => ?_, fun k hk => ?_⟩
      · unfold spec_RunShop.f; rw [good_eq k _ _ _ cs (by omega) (by omega)]; simp only [Option.bind_some]
        obtain ⟨k, rfl⟩ := succ_of (show 0 < k by omega)
        rw [if_pos hs]; simp only [spec_RunShop.j0]
        rw [if_neg (by simp; omega), specOwn_eq _ _ _ cs (by omega)]; simp only [Option.bind_some]
        exact specRun_l hst h40 steps.length k 0 _ _ _ 0 _ (by omega) hs (by omega) (by omega) (by omega)
      · unfold impl_RunShop.f; rw [isShop_eq k _ _ _ cs (by omega) (by omega)]; simp only [Option.bind_some]
        obtain ⟨k, rfl⟩ := succ_of (show 0 < k by omega)
        rw [if_pos hs]; simp only [impl_RunShop.j0]
        rw [if_neg (by simp; omega)]; unfold impl_Shop_copied.f; rw [clone_eq cs (by omega)]; simp only [Option.bind_some]
        exact implRun_l hst h40 steps.length k 0 _ _ _ 0 _ (by omega) hs (by omega) (by omega) (by omega)
    · refine .inr ⟨fun h => h40 h.2, fun k hk => ?_, fun k hk => ?_⟩
      · unfold spec_RunShop.f; rw [good_eq k _ _ _ cs (by omega) (by omega)]; simp only [Option.bind_some]
        obtain ⟨k, rfl⟩ := succ_of (show 0 < k by omega)
        rw [if_pos hs]; simp only [spec_RunShop.j0]
        rw [if_pos (by simp; omega)]
      · unfold impl_RunShop.f; rw [isShop_eq k _ _ _ cs (by omega) (by omega)]; simp only [Option.bind_some]
        obtain ⟨k, rfl⟩ := succ_of (show 0 < k by omega)
        rw [if_pos hs]; simp only [impl_RunShop.j0]
        rw [if_pos (by simp; omega)]
  · refine .inr ⟨fun h => hs h.1, fun k hk => ?_, fun k hk => ?_⟩
    · unfold spec_RunShop.f; rw [good_eq k _ _ _ cs (by omega) (by omega)]; simp only [Option.bind_some]
      obtain ⟨k, rfl⟩ := succ_of (show 0 < k by omega)
      rw [if_neg hs]; simp [spec_RunShop.j0]
    · unfold impl_RunShop.f; rw [isShop_eq k _ _ _ cs (by omega) (by omega)]; simp only [Option.bind_some]
      obtain ⟨k, rfl⟩ := succ_of (show 0 < k by omega)
      rw [if_neg hs]; simp [impl_RunShop.j0]
theorem runR_len (xs : List S30) {d l m : Int} {c : List S34} (n : Int) (ho : okX xs) (hs : shopB d l c m = true) : (runR xs d l c m n).2.2.1.length ≤ 8 := (shopB_of (runR_good xs n ho hs)).2.2.2.1
-- WFT (hcl1 ▸ steps_wf l1 (by assumption))
theorem wf_bd {x : Int} (h : (Lit.int .i64 x).wf = true) : -9223372036854775808 ≤ x ∧ x ≤ 9223372036854775807 := by
  unfold Lit.wf at h; rw [Bool.and_eq_true] at h
  have h1 := of_decide_eq_true h.1; have h2 := of_decide_eq_true h.2
  exact ⟨h1, h2⟩
theorem steps_wf (l : List S39) (h : ∀ y0 ∈ l, ((Lit.int .i64 y0.f0).wf = true) ∧ ((Lit.int .i64 y0.f1).wf = true) ∧ (Lit.int .i64 y0.f2).wf = true) : okX (cvShopStepS l) := by
  intro x hx
  unfold cvShopStepS at hx; rw [List.mem_map] at hx
  obtain ⟨y, hy, rfl⟩ := hx
  exact wf_bd (h y hy).2.2
theorem both (day looms : Int) (cs : List S34) (money : Int) (steps : List S30) (hl : cs.length ≤ 4194304) (hl2 : steps.length ≤ 4194304) (hst : okX steps) : ∃ r0 r1 r2 r3 r4 r5 k0, (∀ k, k0 ≤ k → spec_RunShop.f k day looms cs money steps = some (r0, r1, r2, r3, r4, r5)) ∧ (∀ k, k0 ≤ k → impl_RunShop.f k day looms cs money steps = some (r0, r1, r2, r3, r4, r5)) ∧ r2.length ≤ 4194304 := by
  rcases run_both day looms cs money steps (by omega) (by omega) hst with ⟨hs, h40, h1, h2⟩ | ⟨_, h1, h2⟩
  · exact ⟨_, _, _, _, _, _, 5000, h1, h2, Nat.le_trans (runR_len steps 0 hst hs) (by omega)⟩
  · exact ⟨_, _, _, _, _, _, 5000, h1, h2, by simp⟩
theorem FnExactRunShop : laws_FnExactRunShop.Pure := by
  intro a0_0 a0_1 l0_2 a0_3 l1 _ _ hwl0_2 _ _ hwl1 _
  obtain ⟨b0, e0, c0⟩ := szShop_eq a0_0 a0_1 l0_2 a0_3 1048576 (by omega) (by omega) (by omega)
  by_cases hs0 : b0 < 0
  · refine ⟨0, ?_⟩
    unfold laws_FnExactRunShop.f; simp only [Option.bind_some, if_true, if_false, e0, hs0]
  obtain ⟨b1, e1, c1⟩ := szShopStepS_eq l1 b0 (by omega) (by omega) (by omega)
  by_cases hs1 : b1 < 0
  · refine ⟨0, ?_⟩
    unfold laws_FnExactRunShop.f; simp only [Option.bind_some, if_true, if_false, e0, hs0, e1, hs1]
  obtain ⟨kt0, t0⟩ := toShop_ev a0_0 a0_1 l0_2 a0_3 (by omega)
  have zll0_2 := cvCarpetS_len l0_2
  generalize hcl0_2 : cvCarpetS l0_2 = ml0_2 at zll0_2 t0
  obtain ⟨kt1, t1⟩ := toShopStepS_ev l1 (by omega)
  have zll1 := cvShopStepS_len l1
  generalize hcl1 : cvShopStepS l1 = ml1 at zll1 t1
  obtain ⟨r0, r1, r2, r3, r4, r5, kb, sp_, im_, hrr2⟩ := both a0_0 a0_1 ml0_2 a0_3 ml1 (by omega) (by omega) (hcl1 ▸ steps_wf l1 (by assumption))
  obtain ⟨ke0, q0⟩ := eqShop_ev r0 r1 r2 r3 (by omega)
  obtain ⟨ke1, q1⟩ := eqShop_ev a0_0 a0_1 ml0_2 a0_3 (by omega)
  obtain ⟨ke2, q2⟩ := eqShopStepS_ev ml1 (by omega)
  obtain ⟨na0, ya00, ka0, pa0, qa0, za00, ma0, da0⟩ := mhShop_ev a0_0 a0_1 ml0_2 a0_3 (by omega) (1) (by omega) (by omega)
  have ua0 : ¬ (1 + na0 < 0) := by omega
  obtain ⟨na1, ya10, ka1, pa1, qa1, za10, ma1, da1⟩ := mhShopStepS_ev ml1 (by omega) (1 + na0) (by omega) (by omega)
  have ua1 : ¬ (1 + na0 + na1 < 0) := by omega
  obtain ⟨nb2, yb20, kb2, pb2, qb2, zb20, mb2, db2⟩ := mhShop_ev r0 r1 r2 r3 (by omega) (1) (by omega) (by omega)
  have ub2 : ¬ (1 + nb2 < 0) := by omega
  obtain ⟨K, hK⟩ : ∃ K, K = kt0 + kt1 + kb + ke0 + ke1 + ke2 + ka0 + ka1 + kb2 := ⟨_, rfl⟩
  refine ⟨K + 6, ?_⟩
  unfold laws_FnExactRunShop.f
  simp only [laws_FnExactRunShop.j0, laws_FnExactRunShop.j1, laws_FnExactRunShop.j2, Option.bind_some, if_true, if_false, bne_self_eq_false, Bool.false_eq_true, e0, hs0, e1, hs1, ua0, ua1, ub2, t0 (K + 6) (by omega), t1 (K + 6) (by omega), sp_ (K + 6) (by omega), im_ (K + 6) (by omega), q0 (K + 6) (by omega), q1 (K + 6) (by omega), q2 (K + 6) (by omega), ma0 (K + 6) (by omega), da0 (K + 6) (by omega), ma1 (K + 6) (by omega), mb2 (K + 6) (by omega), db2 (K + 6) (by omega), t0 (K + 5) (by omega), t1 (K + 5) (by omega), sp_ (K + 5) (by omega), im_ (K + 5) (by omega), q0 (K + 5) (by omega), q1 (K + 5) (by omega), q2 (K + 5) (by omega), ma0 (K + 5) (by omega), da0 (K + 5) (by omega), ma1 (K + 5) (by omega), mb2 (K + 5) (by omega), db2 (K + 5) (by omega), t0 (K + 4) (by omega), t1 (K + 4) (by omega), sp_ (K + 4) (by omega), im_ (K + 4) (by omega), q0 (K + 4) (by omega), q1 (K + 4) (by omega), q2 (K + 4) (by omega), ma0 (K + 4) (by omega), da0 (K + 4) (by omega), ma1 (K + 4) (by omega), mb2 (K + 4) (by omega), db2 (K + 4) (by omega), t0 (K + 3) (by omega), t1 (K + 3) (by omega), sp_ (K + 3) (by omega), im_ (K + 3) (by omega), q0 (K + 3) (by omega), q1 (K + 3) (by omega), q2 (K + 3) (by omega), ma0 (K + 3) (by omega), da0 (K + 3) (by omega), ma1 (K + 3) (by omega), mb2 (K + 3) (by omega), db2 (K + 3) (by omega), t0 (K + 2) (by omega), t1 (K + 2) (by omega), sp_ (K + 2) (by omega), im_ (K + 2) (by omega), q0 (K + 2) (by omega), q1 (K + 2) (by omega), q2 (K + 2) (by omega), ma0 (K + 2) (by omega), da0 (K + 2) (by omega), ma1 (K + 2) (by omega), mb2 (K + 2) (by omega), db2 (K + 2) (by omega), t0 (K + 1) (by omega), t1 (K + 1) (by omega), sp_ (K + 1) (by omega), im_ (K + 1) (by omega), q0 (K + 1) (by omega), q1 (K + 1) (by omega), q2 (K + 1) (by omega), ma0 (K + 1) (by omega), da0 (K + 1) (by omega), ma1 (K + 1) (by omega), mb2 (K + 1) (by omega), db2 (K + 1) (by omega)]
end Go.Proofs.Ytahglcpndiadnaa.Pure
