/- No carpet is sold before all its rows are made and it is washed. -/
import Derived.Test.YtahglcpndiadnaaDFnShops
set_option linter.unusedVariables false
set_option linter.unusedSimpArgs false
set_option maxRecDepth 100000
namespace Go.Proofs.Ytahglcpndiadnaa.DFnShops
open Go Go.Proofs.YtahglcpndiadnaaD
theorem succ_of {k : Nat} (h : 0 < k) : ∃ j, k = j + 1 := ⟨k - 1, by omega⟩
theorem w64_id {x : Int} (h : -9223372036854775808 ≤ x ∧ x ≤ 9223372036854775807) : w64 x = x := by
  unfold w64 IntKind.wrap
  simp [IntKind.signed, IntKind.bits]
  omega
theorem chk_nat {n j : Nat} (h : j < n) : chk n (j : Int) = some j := by unfold chk; rw [if_pos (by omega)]; simp
theorem chk_int {n : Nat} {i : Int} (h : 0 ≤ i ∧ i < n) : chk n i = some i.toNat := by unfold chk; rw [if_pos h]
theorem cut_int {n : Nat} {i j : Int} (h : 0 ≤ i ∧ i ≤ j ∧ j ≤ n) : cut n i j = some (i.toNat, j.toNat - i.toNat) := by unfold cut; rw [if_pos h]
theorem cutTo_int {n : Nat} {j : Int} (h : 0 ≤ j ∧ j ≤ n) : cutTo n j = some j.toNat := by unfold cutTo; rw [if_pos h]
theorem cut3_int {n : Nat} {i j m : Int} (h : 0 ≤ i ∧ i ≤ j ∧ j ≤ m ∧ m ≤ n) : cut3 n i j m = some () := by unfold cut3; rw [if_pos h]
theorem mkl_int {L : Nat} {n c : Int} (h : 0 ≤ n ∧ n ≤ c ∧ c ≤ L) : mkl L n c = some n.toNat := by unfold mkl; rw [if_pos h]
theorem selfApp_nat {i lo m : Nat} (h : i ≤ lo) : selfApp i lo m = some (i + m) := by unfold selfApp; rw [if_pos h]
section
variable {β : Type}
theorem app_ok {L : Nat} {xs ys : List β} (h : xs.length + ys.length ≤ L) : app L xs ys = some (xs ++ ys) := by unfold app; rw [if_pos h]
theorem chk_mid (p : List β) (a : β) (q : List β) : chk (p ++ a :: q).length (p.length : Int) = some p.length := chk_nat (by simp)
theorem getD_mid (p : List β) (a : β) (q : List β) (d : β) : (p ++ a :: q).getD p.length d = a := by
  rw [List.getD_eq_getElem?_getD, List.getElem?_append_right (Nat.le_refl _)]; simp
theorem set_mid (p : List β) (a b : β) (q : List β) : (p ++ a :: q).set p.length b = p ++ b :: q := by
  rw [List.set_append_right _ _ (Nat.le_refl _)]; simp
theorem upd_mid (p : List β) (a : β) (q : List β) (d : β) (f : β → β) : upd (p ++ a :: q) p.length d f = p ++ f a :: q := by
  unfold upd; rw [getD_mid, set_mid]
theorem upd_len (xs : List β) (j : Nat) (d : β) (f : β → β) : (upd xs j d f).length = xs.length := by unfold upd; simp
theorem upd_of {xs : List β} {j : Nat} {d : β} {f : β → β} : upd xs j d f = xs.set j (f (xs.getD j d)) := rfl
theorem lt_mid (p : List β) (a : β) (q : List β) : (p.length : Int) < ((p ++ a :: q).length : Nat) := by simp; omega
theorem next_mid {p : List β} {a : β} {q : List β} (h : (p ++ a :: q).length ≤ 1152921504606846976) : w64 ((p.length : Int) + 1) = ((p ++ [a]).length : Nat) := by
  rw [w64_id (by simp at h; omega)]; simp
theorem snoc_app (p : List β) (a : β) (q : List β) : p ++ a :: q = (p ++ [a]) ++ q := by simp
theorem getD_lt {xs : List β} {i : Nat} {d : β} (h : i < xs.length) : xs.getD i d = xs[i] := by
  rw [List.getD_eq_getElem?_getD, List.getElem?_eq_getElem h]; rfl
theorem getD_set {xs : List β} {i j : Nat} {a d : β} (h : i < xs.length) : (xs.set i a).getD j d = if i = j then a else xs.getD j d := by
  rw [List.getD_eq_getElem?_getD, List.getD_eq_getElem?_getD, List.getElem?_set]
  split
  · rename_i e; subst e; simp [h]
  · rfl
theorem some_bind {γ : Type} (x : β) (f : β → Option γ) : (some x).bind f = f x := rfl
end
def inB (n lo hi : Int) : Bool := decide (lo ≤ n) && decide (n ≤ hi)
theorem inB_iff {n lo hi : Int} : inB n lo hi = true ↔ lo ≤ n ∧ n ≤ hi := by unfold inB; simp
theorem inB_of {n lo hi : Int} (h : lo ≤ n ∧ n ≤ hi) : inB n lo hi = true := inB_iff.2 h
theorem notB {b : Bool} (h : ¬ b = true) : b = false := by cases b <;> simp_all
theorem all_loop {β : Type} {L : Nat → Nat → Option β} {n K0 : Nat} {ok : Nat → Bool} {f : Option β} (hs : ∀ k i, K0 ≤ k → i < n → L (k + 1) i = if ok i = true then L k (i + 1) else f) :
    ∀ (d k i : Nat), i + d = n → K0 + d < k → (∀ e, (∀ k, K0 ≤ k → L (k + 1) n = e) → (∀ j, i ≤ j → j < n → ok j = true) → L k i = e) ∧ ((∃ j, i ≤ j ∧ j < n ∧ ok j = false) → L k i = f) := by
  intro d
  induction d with
  | zero =>
    intro k i h1 h2
    obtain ⟨k, rfl⟩ := succ_of (show 0 < k by omega)
    have : i = n := by omega
    subst this
    exact ⟨fun e he _ => he k (by omega), fun ⟨j, a, b, _⟩ => by omega⟩
  | succ d ih =>
    intro k i h1 h2
    obtain ⟨k, rfl⟩ := succ_of (show 0 < k by omega)
    have := ih k (i + 1) (by omega) (by omega)
    rw [hs k i (by omega) (by omega)]
    refine ⟨fun e he h => ?_, fun ⟨j, a, b, c⟩ => ?_⟩
    · rw [if_pos (h i (Nat.le_refl _) (by omega))]; exact this.1 e he fun j a b => h j (by omega) b
    · by_cases e : ok i = true
      · rw [if_pos e]
        refine this.2 ⟨j, ?_, b, c⟩
        rcases Nat.lt_or_ge i j with h | h
        · exact h
        · have : j = i := by omega
          subst this; rw [e] at c; cases c
      · rw [if_neg e]
theorem exists_bad {n : Nat} {ok : Nat → Bool} (h : ¬ ∀ i, i < n → ok i = true) : ∃ j, 0 ≤ j ∧ j < n ∧ ok j = false := by
  apply Classical.byContradiction; intro hn
  refine h fun j hj => ?_
  cases hc : ok j with
  | true => rfl
  | false => exact absurd ⟨j, Nat.zero_le _, hj, hc⟩ hn
theorem first_bad {n : Nat} {ok : Nat → Bool} (h : ¬ ∀ i, i < n → ok i = true) : ∃ j, j < n ∧ ok j = false ∧ ∀ i, i < j → ok i = true := by
  induction n with
  | zero => exact absurd (fun i hi => by omega) h
  | succ n ih =>
    by_cases h1 : ∀ i, i < n → ok i = true
    · refine ⟨n, by omega, ?_, h1⟩
      cases hc : ok n with
      | false => rfl
      | true => exact absurd (fun i hi => by
          rcases Nat.lt_or_ge i n with h' | h'
          · exact h1 i h'
          · have : i = n := by omega
            rw [this]; exact hc) h
    · obtain ⟨j, a, b, c⟩ := ih h1
      exact ⟨j, by omega, b, c⟩
theorem find_loop {L : Nat → Nat → Option Int} {n K0 : Nat} {ok : Nat → Bool} (hs : ∀ k i, K0 ≤ k → i < n → L (k + 1) i = if ok i = true then some (i : Int) else L k (i + 1)) (he : ∀ k, K0 ≤ k → L (k + 1) n = some (-1)) :
    ∀ (d k i : Nat), i + d = n → K0 + d < k → ((∀ j, i ≤ j → j < n → ok j = false) → L k i = some (-1)) ∧ (∀ m, i ≤ m → m < n → ok m = true → (∀ j, i ≤ j → j < m → ok j = false) → L k i = some (m : Int)) := by
  intro d
  induction d with
  | zero =>
    intro k i h1 h2
    obtain ⟨k, rfl⟩ := succ_of (show 0 < k by omega)
    have : i = n := by omega
    subst this
    exact ⟨fun _ => he k (by omega), fun m a b _ _ => by omega⟩
  | succ d ih =>
    intro k i h1 h2
    obtain ⟨k, rfl⟩ := succ_of (show 0 < k by omega)
    have := ih k (i + 1) (by omega) (by omega)
    rw [hs k i (by omega) (by omega)]
    refine ⟨fun h => ?_, fun m a b c h => ?_⟩
    · rw [if_neg (by rw [h i (Nat.le_refl _) (by omega)]; simp)]; exact this.1 fun j a b => h j (by omega) b
    · by_cases e : ok i = true
      · rw [if_pos e]
        rcases Nat.lt_or_ge i m with h' | h'
        · have := h i (Nat.le_refl _) h'; rw [e] at this; cases this
        · have : m = i := by omega
          rw [this]
      · rw [if_neg e]
        refine this.2 m ?_ b c fun j a b => h j (by omega) b
        rcases Nat.lt_or_ge i m with h' | h'
        · exact h'
        · have : m = i := by omega
          subst this; exact absurd c e
theorem stepb {α γ : Type} {a : Option α} {x : α} {f : α → Option γ} {r : Option γ} (h : a = some x) (g : f x = r) : a.bind f = r := by rw [h]; exact g
theorem ifn {γ : Type} {c : Prop} {i : Decidable c} {t e r : γ} (h : ¬ c) (g : e = r) : @ite γ c i t e = r := by rw [if_neg h]; exact g
theorem condt {γ : Type} {a b r : γ} (g : b = r) : cond (!true) a b = r := g
def Yl {α : Type} (x : Option α) (P : α → Prop) : Prop := ∃ a, x = some a ∧ P a
theorem Yl.bind {α β : Type} {x : Option α} {f : α → Option β} {P : α → Prop} {Q : β → Prop} (h : Yl x P) (g : ∀ a, P a → Yl (f a) Q) : Yl (x.bind f) Q := by
  obtain ⟨a, rfl, ha⟩ := h; exact g a ha
theorem Yl.mono {α : Type} {x : Option α} {P Q : α → Prop} (h : Yl x P) (g : ∀ a, P a → Q a) : Yl x Q := by
  obtain ⟨a, e, ha⟩ := h; exact ⟨a, e, g a ha⟩
theorem Yl.ret {α : Type} {a : α} {P : α → Prop} (h : P a) : Yl (some a) P := ⟨a, rfl, h⟩
theorem Yl.ite {α : Type} {c : Prop} [i : Decidable c] {t e : Option α} {P : α → Prop} (ht : c → Yl t P) (he : ¬ c → Yl e P) : Yl (@ite _ c i t e) P := by
  by_cases h : c
  · rw [if_pos h]; exact ht h
  · rw [if_neg h]; exact he h
theorem Yl.cond {α : Type} {c : Bool} {t e : Option α} {P : α → Prop} (ht : c = true → Yl t P) (he : c = false → Yl e P) : Yl (cond c t e) P := by
  cases c
  · exact he rfl
  · exact ht rfl
def By (l : List Int) : Prop := ∀ y ∈ l, 0 ≤ y ∧ y ≤ 255
theorem By.of {l : List Int} (h : ∀ y ∈ l, (Lit.int .u8 y).wf = true) : By l := by
  intro y hy; have h := h y hy
  unfold Lit.wf at h; rw [Bool.and_eq_true] at h
  have h1 := of_decide_eq_true h.1; have h2 := of_decide_eq_true h.2
  exact ⟨h1, h2⟩
theorem byteBits (q : Int) : 0 ≤ band .u64 q 255 ∧ band .u64 q 255 ≤ 255 := by
  have h : (BitVec.ofInt 64 q &&& BitVec.ofInt 64 255).toNat ≤ 255 := by
    rw [BitVec.toNat_and]
    exact Nat.le_trans Nat.and_le_right (by decide)
  change 0 ≤ IntKind.wrap .u64 ((((BitVec.ofInt 64 q &&& BitVec.ofInt 64 255).toNat : Nat)) : Int) ∧ IntKind.wrap .u64 ((((BitVec.ofInt 64 q &&& BitVec.ofInt 64 255).toNat : Nat)) : Int) ≤ 255
  generalize (BitVec.ofInt 64 q &&& BitVec.ofInt 64 255).toNat = n at *
  unfold IntKind.wrap
  simp [IntKind.signed, IntKind.bits]
  omega
theorem next_ok (k : Nat) {l : List Int} {a : Int} (s : Int) (hb : By l) (h : 0 ≤ a ∧ a ≤ 1000000000000000) (hk : 5 ≤ k) : Yl (spec_l1Cur_next.f k l a s) fun r => r.2.1 = l ∧ r.2.2.1 = a + 1 ∧ 0 ≤ r.1 ∧ r.1 ≤ 255 := by
  obtain ⟨k, rfl⟩ := succ_of (show 0 < k by omega)
  have key : ∀ b : Int, 0 ≤ b ∧ b ≤ 255 → Yl (spec_l1Cur_next.l2 (k + 1) l a s b) fun r => r.2.1 = l ∧ r.2.2.1 = a + 1 ∧ 0 ≤ r.1 ∧ r.1 ≤ 255 := fun b hbb => by
    simp only [spec_l1Cur_next.l2, spec_l1Cur_next.b2]
    rw [w64_id (x := a + 1) (by omega)]
    refine Yl.ite (fun _ => Yl.ret ⟨rfl, rfl, hbb⟩) fun _ => ?_
    unfold shr; rw [if_neg (by omega)]; simp only [Option.bind_some]
    refine Yl.ret ⟨rfl, rfl, ?_⟩
    have := byteBits ((IntKind.u64.wrap (IntKind.u64.wrap (IntKind.u64.wrap (s * 6364136223846793005) + IntKind.u64.wrap b) + 102323)).fdiv (2 ^ min (Int.toNat 40) IntKind.u64.bits))
    rw [w64_id (by omega)]; exact this
  unfold spec_l1Cur_next.f spec_l1Cur_next.m
  refine Yl.ite (fun hlt => ?_) fun _ => key 0 (by omega)
  rw [chk_int (by omega)]; simp only [Option.bind_some]
  have hi : a.toNat < l.length := by omega
  have := hb _ (List.getElem_mem hi)
  rw [getD_lt hi, w64_id (by omega)]
  exact key _ this
theorem pick_ok (k : Nat) {l : List Int} {a : Int} (s n : Int) (hb : By l) (h : 0 ≤ a ∧ a ≤ 1000000000000) (hk : 5 ≤ k) : Yl (spec_l1Cur_pick.f k l a s n) fun r => r.2.1 = l ∧ a ≤ r.2.2.1 ∧ r.2.2.1 ≤ a + 2 ∧ 0 ≤ r.1 ∧ (r.1 = 0 ∨ r.1 < n) ∧ r.1 ≤ 65535 := by
  unfold spec_l1Cur_pick.f spec_l1Cur_pick.m
  refine Yl.ite (fun _ => Yl.ret ⟨rfl, by simp, by dsimp only; omega, by simp⟩) fun hn => ?_
  refine Yl.bind (next_ok k s hb (by omega) hk) ?_
  rintro ⟨b, l', a', s'⟩ ⟨e1, e2, e3, e4⟩
  dsimp only at *; subst e1; subst e2
  refine Yl.ite (fun hn2 => ?_) fun _ => ?_
  · refine Yl.bind (next_ok k s' hb (by omega) hk) ?_
    rintro ⟨c, l2, a2, s2⟩ ⟨f1, f2, f3, f4⟩
    dsimp only at *; subst f1; subst f2
    rw [w64_id (x := b * 256) (by omega), w64_id (by omega)]
    unfold rem; rw [if_neg (by omega)]; simp only [Option.bind_some]
    rw [Int.tmod_eq_emod_of_nonneg (by omega)]
    have := Int.emod_nonneg (b * 256 + c) (show n ≠ 0 by omega)
    have := Int.emod_lt_of_pos (b * 256 + c) (show 0 < n by omega)
    have : (b * 256 + c) % n ≤ b * 256 + c := by
      rcases Int.lt_or_le (b * 256 + c) n with h | h
      · rw [Int.emod_eq_of_lt (by omega) h]; omega
      · omega
    exact Yl.ret ⟨rfl, by dsimp only; omega, by dsimp only; omega, by omega, by omega, by dsimp only; omega⟩
  · unfold rem; rw [if_neg (by omega)]; simp only [Option.bind_some]
    rw [Int.tmod_eq_emod_of_nonneg (by omega)]
    have := Int.emod_nonneg b (show n ≠ 0 by omega)
    have := Int.emod_lt_of_pos b (show 0 < n by omega)
    exact Yl.ret ⟨rfl, by dsimp only; omega, by dsimp only; omega, by omega, by omega, by dsimp only; omega⟩
theorem one_ok (k : Nat) {l : List Int} {a : Int} (s n : Int) (hb : By l) (h : 0 ≤ a ∧ a ≤ 1000000000000) (hk : 5 ≤ k) : Yl (spec_l1Cur_one.f k l a s n) fun r => r.2.1 = l ∧ a ≤ r.2.2.1 ∧ r.2.2.1 ≤ a + 2 := by
  unfold spec_l1Cur_one.f spec_l1Cur_one.m
  refine Yl.bind (pick_ok k s n hb h hk) ?_
  rintro ⟨b, l', a', s'⟩ ⟨e1, e2, e3, e4⟩
  exact Yl.ret ⟨e1, e2, e3⟩
theorem among_ok (k : Nat) {l : List Int} {a : Int} (s : Int) {xs : List Int} (lo hi : Int) (hx : 0 < xs.length ∧ xs.length ≤ 60000) (hm : ∀ x ∈ xs, lo ≤ x ∧ x ≤ hi) (hb : By l) (h : 0 ≤ a ∧ a ≤ 1000000000000) (hk : 5 ≤ k) : Yl (spec_l1Cur_among_2.f k l a s xs) fun r => r.2.1 = l ∧ r.2.2.2.2 = xs ∧ a ≤ r.2.2.1 ∧ r.2.2.1 ≤ a + 2 ∧ lo ≤ r.1 ∧ r.1 ≤ hi := by
  unfold spec_l1Cur_among_2.f spec_l1Cur_among_2.m
  refine Yl.bind (pick_ok k s _ hb h hk) ?_
  rintro ⟨b, l', a', s'⟩ ⟨e1, e2, e3, e4, e5, e6⟩
  dsimp only at *
  rw [chk_int (by omega)]; simp only [Option.bind_some]
  have hi : b.toNat < xs.length := by omega
  have := hm _ (List.getElem_mem hi)
  rw [getD_lt hi]
  exact Yl.ret ⟨e1, rfl, e2, e3, this⟩
theorem among_any (k : Nat) {l : List Int} {a : Int} (s : Int) {xs : List Int} (hx : 0 < xs.length ∧ xs.length ≤ 60000) (hb : By l) (h : 0 ≤ a ∧ a ≤ 1000000000000) (hk : 5 ≤ k) : Yl (spec_l1Cur_among_2.f k l a s xs) fun r => r.2.1 = l ∧ r.2.2.2.2 = xs ∧ a ≤ r.2.2.1 ∧ r.2.2.1 ≤ a + 2 := by
  unfold spec_l1Cur_among_2.f spec_l1Cur_among_2.m
  refine Yl.bind (pick_ok k s _ hb h hk) ?_
  rintro ⟨b, l', a', s'⟩ ⟨e1, e2, e3, e4, e5, e6⟩
  dsimp only at *
  rw [chk_int (by omega)]; simp only [Option.bind_some]
  exact Yl.ret ⟨e1, rfl, e2, e3⟩
theorem quo2 {x : Int} {β : Type} {f : Int → Option β} {P : β → Prop} (h : ∀ q, Yl (f q) P) : Yl ((quo .i64 x 2).bind f) P := by
  unfold quo; rw [if_neg (by omega)]; exact h _
abbrev C5 := Int × Int × Int × Int × Int
def rdC (xs : List C5) (i : Int) : C5 := xs.getD i.toNat (0, 0, 0, 0, 0)
theorem rdC_nat (xs : List C5) (i : Nat) : rdC xs (i : Int) = xs.getD i (0, 0, 0, 0, 0) := by unfold rdC; rw [Int.toNat_natCast]
theorem w64_eq (x : Int) : w64 x = (x + 9223372036854775808) % 18446744073709551616 - 9223372036854775808 := by
  unfold w64 IntKind.wrap
  simp [IntKind.signed, IntKind.bits]
  omega
def carpB (day looms : Int) (c : C5) : Bool := inB c.1 1 500 && inB c.2.1 0 c.1 && inB c.2.2.1 0 4 && inB c.2.2.2.2 0 day && (if c.2.2.1 = 1 then inB c.2.2.2.1 1 looms else if c.2.2.1 = 0 then decide (c.2.1 = 0) && decide (c.2.2.2.1 = 0) else decide (c.2.1 = c.1) && decide (c.2.2.2.1 = 0))
/-- No earlier carpet is on the same loom. -/
def soloB (cs : List C5) (i : Nat) (c : C5) : Bool := (cs.take i).all fun d => !(decide (c.2.2.2.1 > 0) && decide (d.2.2.2.1 = c.2.2.2.1))
def rowsB (day looms : Int) (cs : List C5) : Bool := (List.range cs.length).all fun i => carpB day looms (cs.getD i ⟨0, 0, 0, 0, 0⟩) && soloB cs i (cs.getD i ⟨0, 0, 0, 0, 0⟩)
def shopB (day looms : Int) (cs : List C5) (money : Int) : Bool := inB day 0 4000 && inB looms 1 4 && inB money 0 1000000 && decide (cs.length ≤ 8) && rowsB day looms cs
theorem carpB_woven {day looms : Int} {c : C5} (h : carpB day looms c = true) : c.2.2.2.1 > 0 ↔ c.2.2.1 = 1 := by
  unfold carpB at h
  simp only [Bool.and_eq_true, inB_iff] at h
  obtain ⟨_, h5⟩ := h
  constructor
  · intro hp
    by_cases e : c.2.2.1 = 1
    · exact e
    · rw [if_neg e] at h5
      split at h5 <;> simp at h5 <;> omega
  · intro e; rw [if_pos e, inB_iff] at h5; omega
theorem carpB_day {day day' looms : Int} {c : C5} (h : carpB day looms c = true) (hd : day ≤ day') : carpB day' looms c = true := by
  unfold carpB at h ⊢
  simp only [Bool.and_eq_true, inB_iff] at h ⊢
  exact ⟨⟨h.1.1, h.1.2.1, by omega⟩, h.2⟩
theorem rowsB_iff {day looms : Int} {cs : List C5} : rowsB day looms cs = true ↔ ∀ (i : Nat) (c : C5), cs[i]? = some c → carpB day looms c = true ∧ ∀ (j : Nat) (d : C5), j < i → cs[j]? = some d → c.2.2.2.1 > 0 → d.2.2.2.1 ≠ c.2.2.2.1 := by
  unfold rowsB
  rw [List.all_eq_true]
  constructor
  · intro h i c hc
    have hi := (List.getElem?_eq_some_iff.1 hc).1
    have := h i (List.mem_range.2 hi)
    rw [List.getD_eq_getElem?_getD, hc] at this
    simp only [Option.getD_some, Bool.and_eq_true] at this
    refine ⟨this.1, fun j d hj hd hp he => ?_⟩
    have h2 := this.2
    unfold soloB at h2
    rw [List.all_eq_true] at h2
    have hm : d ∈ cs.take i := List.mem_of_getElem? (i := j) (by rw [List.getElem?_take, if_pos hj, hd])
    have := h2 d hm
    simp [hp, he] at this
  · intro h i hi
    rw [List.mem_range] at hi
    have hc : cs[i]? = some cs[i] := List.getElem?_eq_getElem hi
    obtain ⟨h1, h2⟩ := h i _ hc
    rw [List.getD_eq_getElem?_getD, hc]
    simp only [Option.getD_some, Bool.and_eq_true]
    refine ⟨h1, ?_⟩
    unfold soloB
    rw [List.all_eq_true]
    intro d hd
    obtain ⟨j, hj⟩ := List.mem_iff_getElem?.1 hd
    rw [List.getElem?_take] at hj
    split at hj
    · next hji =>
      by_cases hp : cs[i].2.2.2.1 > 0
      · have := h2 j d hji hj hp
        simp [this]
      · simp [hp]
    · exact absurd hj (by simp)
/-- The first carpet on a loom, or -1. -/
def onB (cs : List C5) (loom : Int) : Int := match cs.findIdx? (fun c => decide (c.2.2.1 = 1) && decide (c.2.2.2.1 = loom)) with | some i => (i : Int) | none => -1
theorem onB_none {cs : List C5} {loom : Int} : onB cs loom < 0 ↔ ∀ c ∈ cs, ¬ (c.2.2.1 = 1 ∧ c.2.2.2.1 = loom) := by
  unfold onB
  split
  · next i h =>
    rw [List.findIdx?_eq_some_iff_getElem] at h
    obtain ⟨hi, hp, _⟩ := h
    simp only [Bool.and_eq_true, decide_eq_true_eq] at hp
    constructor
    · intro hl; omega
    · intro hh; exact absurd hp (hh _ (List.getElem_mem _))
  · next h =>
    rw [List.findIdx?_eq_none_iff] at h
    constructor
    · intro _ c hc; have := h c hc; simpa using this
    · intro _; omega
theorem onB_eq {cs : List C5} {loom : Int} {i : Nat} {c : C5} (hc : cs[i]? = some c) (h1 : c.2.2.1 = 1) (h2 : c.2.2.2.1 = loom) : onB cs loom = (i : Int) ↔ ∀ (j : Nat) (d : C5), j < i → cs[j]? = some d → ¬ (d.2.2.1 = 1 ∧ d.2.2.2.1 = loom) := by
  have hi := (List.getElem?_eq_some_iff.1 hc).1
  have hg := (List.getElem?_eq_some_iff.1 hc).2
  unfold onB
  split
  · next k h =>
    rw [List.findIdx?_eq_some_iff_getElem] at h
    obtain ⟨hk, hp, hq⟩ := h
    simp only [Bool.and_eq_true, decide_eq_true_eq] at hp
    constructor
    · intro e j d hj hd hh
      have : k = i := by omega
      subst this
      have := hq j hj
      rw [(List.getElem?_eq_some_iff.1 hd).2] at this
      simp [hh.1, hh.2] at this
    · intro hall
      rcases Nat.lt_trichotomy k i with hlt | e | hgt
      · exact absurd hp (hall k _ hlt (List.getElem?_eq_getElem hk))
      · rw [e]
      · have := hq i hgt
        rw [hg] at this; simp [h1, h2] at this
  · next h =>
    rw [List.findIdx?_eq_none_iff] at h
    have := h c (List.mem_of_getElem? hc)
    simp [h1, h2] at this
/-- What the program asks of each carpet. -/
def rowsI (day looms : Int) (cs : List C5) : Bool := (List.range cs.length).all fun i => carpB day looms (cs.getD i ⟨0, 0, 0, 0, 0⟩) && !(decide ((cs.getD i ⟨0, 0, 0, 0, 0⟩).2.2.1 = 1) && decide (onB cs (cs.getD i ⟨0, 0, 0, 0, 0⟩).2.2.2.1 ≠ (i : Int)))
theorem rowsI_eq (day looms : Int) (cs : List C5) : rowsI day looms cs = rowsB day looms cs := by
  rw [Bool.eq_iff_iff, rowsB_iff]
  unfold rowsI; rw [List.all_eq_true]
  have key : (∀ i ∈ List.range cs.length, (carpB day looms (cs.getD i ⟨0, 0, 0, 0, 0⟩) && !(decide ((cs.getD i ⟨0, 0, 0, 0, 0⟩).2.2.1 = 1) && decide (onB cs (cs.getD i ⟨0, 0, 0, 0, 0⟩).2.2.2.1 ≠ (i : Int)))) = true) ↔ ∀ (i : Nat) (c : C5), cs[i]? = some c → carpB day looms c = true ∧ (c.2.2.1 = 1 → onB cs c.2.2.2.1 = (i : Int)) := by
    constructor
    · intro h i c hc
      have := h i (List.mem_range.2 (List.getElem?_eq_some_iff.1 hc).1)
      rw [List.getD_eq_getElem?_getD, hc] at this
      simp only [Option.getD_some, Bool.and_eq_true] at this
      refine ⟨this.1, fun e => ?_⟩
      have h2 := this.2
      simpa [e] using h2
    · intro h i hi
      rw [List.mem_range] at hi
      obtain ⟨h1, h2⟩ := h i _ (List.getElem?_eq_getElem hi)
      rw [List.getD_eq_getElem?_getD, List.getElem?_eq_getElem hi]
      simp only [Option.getD_some, Bool.and_eq_true]
      refine ⟨h1, ?_⟩
      by_cases e : cs[i].2.2.1 = 1
      · simp [e, h2 e]
      · simp [e]
  rw [key]
  constructor
  · intro h i c hc
    obtain ⟨h1, h2⟩ := h i c hc
    refine ⟨h1, fun j d hj hd hp he => ?_⟩
    have hw := (carpB_woven h1).1 hp
    have hd1 := (h j d hd).1
    exact (onB_eq hc hw rfl).1 (h2 hw) j d hj hd ⟨(carpB_woven hd1).1 (by omega), he⟩
  · intro h i c hc
    obtain ⟨h1, h2⟩ := h i c hc
    refine ⟨h1, fun hw => (onB_eq hc hw rfl).2 fun j d hj hd hh => ?_⟩
    exact h2 j d hj hd ((carpB_woven h1).2 hw) hh.2
def newC (value day : Int) : C5 := ⟨value, 0, 0, 0, day⟩
def okStepS (looms : Int) (n : Nat) (kind carpet value : Int) : Bool :=
  if kind = 1 then decide (carpet = 0) && decide (value ≥ 1) else if kind = 2 then decide (carpet = 0) && inB value 1 500 else
  inB carpet 0 ((n : Int) - 1) && (if kind = 3 then inB value 1 looms else if kind = 4 then inB value 1 20 else if kind = 7 then decide (value ≥ 1) else (decide (kind = 5) || decide (kind = 6)) && decide (value = 0))
def chR (c : C5) (kind value day : Int) : C5 :=
  if kind = 3 then ⟨c.1, c.2.1, 1, value, day⟩ else if kind = 4 then ⟨c.1, w64 (c.2.1 + value), c.2.2.1, c.2.2.2.1, day⟩ else if kind = 5 then ⟨c.1, c.2.1, 2, 0, day⟩ else if kind = 6 then ⟨c.1, c.2.1, 3, c.2.2.2.1, day⟩ else ⟨c.1, c.2.1, 4, c.2.2.2.1, day⟩
def chOk (c : C5) (kind day : Int) : Bool :=
  if kind = 3 then decide (c.2.2.1 = 0) else if kind = 4 then decide (c.2.2.1 = 1) && decide (day - c.2.2.2.2 ≥ 1) else if kind = 5 then decide (c.2.2.1 = 1) else if kind = 6 then decide (c.2.2.1 = 2) else decide (c.2.2.1 = 3) && decide (day - c.2.2.2.2 ≥ 3)
def keepIf (b : Bool) (day looms : Int) (cs : List C5) (money : Int) : Option (Int × Int × List C5 × Int) := if b then some (day, looms, cs, money) else none
def makeS (day looms : Int) (cs : List C5) (money kind carpet value : Int) : Option (Int × Int × List C5 × Int) :=
  if kind = 1 then keepIf (!decide (value > 4000 - day)) (day + value) looms cs money
  else if kind = 2 then keepIf (shopB day looms (cs ++ [newC value day]) money) day looms (cs ++ [newC value day]) money
  else keepIf (!(decide (kind = 7) && decide (value > 1000000 - money)) && (chOk (rdC cs carpet) kind day && shopB day looms (cs.set carpet.toNat (chR (rdC cs carpet) kind value day)) (if kind = 7 then money + value else money))) day looms (cs.set carpet.toNat (chR (rdC cs carpet) kind value day)) (if kind = 7 then money + value else money)
def stepS (day looms : Int) (cs : List C5) (money kind carpet value : Int) : Option (Int × Int × List C5 × Int) :=
  if okStepS looms cs.length kind carpet value then makeS day looms cs money kind carpet value else none
def validI (kind carpet value : Int) : Bool :=
  if kind = 1 ∨ kind = 2 then decide (carpet = 0) && decide (value ≥ 1) else if kind = 3 ∨ kind = 7 then decide (value ≥ 1) else if kind = 4 then inB value 1 20 else (decide (kind = 5) || decide (kind = 6)) && decide (value = 0)
def canI (day : Int) (cs : List C5) (c : C5) (kind value : Int) : Bool :=
  if kind = 3 then decide (c.2.2.1 = 0) && decide (onB cs value < 0) else if kind = 4 then decide (c.2.2.1 = 1) && decide (day - c.2.2.2.2 ≥ 1) && decide (value ≤ c.1 - c.2.1) else if kind = 5 then decide (c.2.2.1 = 1) && decide (c.2.1 = c.1) else if kind = 6 then decide (c.2.2.1 = 2) else decide (c.2.2.1 = 3) && decide (day - c.2.2.2.2 ≥ 3)
def stepI (day looms : Int) (cs : List C5) (money kind carpet value : Int) : Option (Int × Int × List C5 × Int) :=
  if validI kind carpet value then
    if kind = 1 then keepIf (shopB (w64 (day + value)) looms cs money) (w64 (day + value)) looms cs money
    else if kind = 2 then keepIf (shopB day looms (cs ++ [newC value day]) money) day looms (cs ++ [newC value day]) money
    else keepIf (inB carpet 0 ((cs.length : Int) - 1) && canI day cs (rdC cs carpet) kind value && shopB day looms (cs.set carpet.toNat (chR (rdC cs carpet) kind value day)) (if kind = 7 then w64 (money + value) else money)) day looms (cs.set carpet.toNat (chR (rdC cs carpet) kind value day)) (if kind = 7 then w64 (money + value) else money)
  else none
theorem shopB_of {day looms money : Int} {cs : List C5} (h : shopB day looms cs money = true) : (0 ≤ day ∧ day ≤ 4000) ∧ (1 ≤ looms ∧ looms ≤ 4) ∧ (0 ≤ money ∧ money ≤ 1000000) ∧ cs.length ≤ 8 ∧ rowsB day looms cs = true := by
  unfold shopB at h; simp only [Bool.and_eq_true, inB_iff, decide_eq_true_eq] at h
  exact ⟨h.1.1.1.1, h.1.1.1.2, h.1.1.2, h.1.2, h.2⟩
theorem shopB_mk {day looms money : Int} {cs : List C5} (h1 : 0 ≤ day ∧ day ≤ 4000) (h2 : 1 ≤ looms ∧ looms ≤ 4) (h3 : 0 ≤ money ∧ money ≤ 1000000) (h4 : cs.length ≤ 8) (h5 : rowsB day looms cs = true) : shopB day looms cs money = true := by
  unfold shopB; simp only [Bool.and_eq_true, inB_iff, decide_eq_true_eq]; exact ⟨⟨⟨⟨h1, h2⟩, h3⟩, h4⟩, h5⟩
theorem keepIf_congr {b b' : Bool} {d l m d' l' m' : Int} {c c' : List C5} (hb : b = b') (h : b = true → d = d' ∧ l = l' ∧ c = c' ∧ m = m') : keepIf b d l c m = keepIf b' d' l' c' m' := by
  subst hb; unfold keepIf
  cases b with
  | false => rfl
  | true => obtain ⟨rfl, rfl, rfl, rfl⟩ := h rfl; rfl
theorem rowsB_day {day day' looms : Int} {cs : List C5} (h : rowsB day looms cs = true) (hd : day ≤ day') : rowsB day' looms cs = true := by
  rw [rowsB_iff] at h ⊢
  exact fun i c hc => ⟨carpB_day (h i c hc).1 hd, (h i c hc).2⟩
theorem atC_get {cs : List C5} {i : Int} (h : inB i 0 ((cs.length : Int) - 1) = true) : cs[i.toNat]? = some (rdC cs i) ∧ i.toNat < cs.length := by
  rw [inB_iff] at h
  have hl : i.toNat < cs.length := by omega
  exact ⟨by unfold rdC; rw [List.getD_eq_getElem?_getD, List.getElem?_eq_getElem hl]; rfl, hl⟩
theorem set_carp {day looms money : Int} {cs : List C5} {i : Nat} {c : C5} (h : shopB day looms (cs.set i c) money = true) (hi : i < cs.length) : carpB day looms c = true ∧ ∀ (j : Nat) (d : C5), j ≠ i → cs[j]? = some d → c.2.2.2.1 > 0 → d.2.2.2.1 ≠ c.2.2.2.1 := by
  have h := (shopB_of h).2.2.2.2
  rw [rowsB_iff] at h
  have hc : (cs.set i c)[i]? = some c := by rw [List.getElem?_set]; simp [hi]
  refine ⟨(h i c hc).1, fun j d hji hd hp he => ?_⟩
  have hd' : (cs.set i c)[j]? = some d := by rw [List.getElem?_set, if_neg (Ne.symm hji)]; exact hd
  rcases Nat.lt_or_gt_of_ne hji with hlt | hgt
  · exact (h i c hc).2 j d hlt hd' hp he
  · exact (h j d hd').2 i c hgt hc (by omega) he.symm
theorem step_eq {day looms money kind carpet value : Int} {cs : List C5} (hs : shopB day looms cs money = true) (hv : -9223372036854775808 ≤ value ∧ value ≤ 9223372036854775807) : stepI day looms cs money kind carpet value = stepS day looms cs money kind carpet value := by
  obtain ⟨a1, a2, a3, a4, a5⟩ := shopB_of hs
  unfold stepI stepS makeS
  by_cases k1 : kind = 1
  · subst k1
    simp only [validI, okStepS, if_true, true_or]
    by_cases e : (decide (carpet = 0) && decide (value ≥ 1)) = true
    · rw [if_pos e, if_pos e]
      have hv1 : value ≥ 1 := by simp at e; exact e.2
      apply keepIf_congr
      · by_cases g : value > 4000 - day
        · rw [decide_eq_true g]
          cases hq : shopB (w64 (day + value)) looms cs money with
          | false => rfl
          | true => have := (shopB_of hq).1; rw [w64_eq] at this; omega
        · rw [decide_eq_false g]
          rw [w64_id (by omega)]
          exact shopB_mk (by omega) a2 a3 a4 (rowsB_day a5 (by omega))
      · intro hb; have := (shopB_of hb).1
        refine ⟨?_, rfl, rfl, rfl⟩
        rw [w64_eq] at this ⊢; omega
    · rw [if_neg e, if_neg e]
  · by_cases k2 : kind = 2
    · subst k2
      simp only [validI, okStepS, or_true, if_true, if_neg (show ¬ (2 : Int) = 1 by omega)]
      by_cases e0 : carpet = 0
      · by_cases e1 : value ≥ 1
        · by_cases e2 : value ≤ 500
          · have : inB value 1 500 = true := inB_iff.2 ⟨e1, e2⟩
            simp [e0, e1, this]
          · have h1 : inB value 1 500 = false := by rw [← Bool.not_eq_true, inB_iff]; omega
            have h2 : shopB day looms (cs ++ [newC value day]) money = false := by
              rw [← Bool.not_eq_true]; intro hq
              have := (rowsB_iff.1 (shopB_of hq).2.2.2.2 cs.length (newC value day) (by simp)).1
              unfold carpB newC at this; simp only [Bool.and_eq_true, inB_iff] at this; omega
            simp [e0, e1, h1, h2, keepIf]
        · have h1 : inB value 1 500 = false := by rw [← Bool.not_eq_true, inB_iff]; omega
          simp [e1, h1]
      · simp [e0]
    · simp only [if_neg k1, if_neg k2]
      by_cases hr : inB carpet 0 ((cs.length : Int) - 1) = true
      · obtain ⟨hg, hl⟩ := atC_get hr
        generalize hcc : rdC cs carpet = c at *
        have hcarp := (rowsB_iff.1 a5 _ _ hg).1
        have hcarp' := hcarp
        unfold carpB at hcarp'
        simp only [Bool.and_eq_true, inB_iff] at hcarp'
        obtain ⟨⟨⟨⟨c0, c1⟩, c2⟩, c4⟩, c3⟩ := hcarp'
        rw [hr]
        by_cases k3 : kind = 3
        · subst k3
          simp only [validI, okStepS, chOk, canI, hr, if_true, or_true, true_or, if_neg (show ¬ (3 : Int) = 1 by omega), if_neg (show ¬ (3 : Int) = 2 by omega), if_neg (show ¬ (3 : Int) = 7 by omega), if_neg (show ¬ ((3 : Int) = 1 ∨ (3 : Int) = 2) by omega), Bool.true_and, show decide ((3 : Int) = 7) = false from rfl, Bool.false_and, Bool.not_false]
          by_cases e1 : value ≥ 1
          · rw [if_pos (by simpa using e1)]
            by_cases e2 : value ≤ looms
            · rw [if_pos (inB_iff.2 ⟨e1, e2⟩)]
              apply keepIf_congr _ (fun _ => ⟨rfl, rfl, rfl, rfl⟩)
              by_cases e3 : c.2.2.1 = 0
              · rw [decide_eq_true e3, Bool.true_and, Bool.true_and]
                cases hq : shopB day looms (cs.set carpet.toNat (chR c 3 value day)) money with
                | false => simp
                | true =>
                  have := (set_carp hq hl).2
                  simp only [Bool.and_true, decide_eq_true_eq]
                  rw [onB_none]
                  intro d hd hh
                  obtain ⟨j, hj⟩ := List.mem_iff_getElem?.1 hd
                  by_cases ej : j = carpet.toNat
                  · subst ej; rw [hg] at hj; injection hj with hj; subst hj; omega
                  · exact this j d ej hj (by simp [chR]; omega) (by simp [chR]; omega)
              · rw [decide_eq_false e3]; rfl
            · have h1 : inB value 1 looms = false := by rw [← Bool.not_eq_true, inB_iff]; omega
              rw [if_neg (by simp [h1])]
              have h2 : shopB day looms (cs.set carpet.toNat (chR c 3 value day)) money = false := by
                rw [← Bool.not_eq_true]; intro hq
                have := (set_carp hq hl).1
                unfold carpB chR at this; simp [inB_iff] at this; omega
              rw [h2]; simp [keepIf]
          · have h1 : inB value 1 looms = false := by rw [← Bool.not_eq_true, inB_iff]; omega
            rw [if_neg (by simpa using e1), if_neg (by simp [h1])]
        · by_cases k4 : kind = 4
          · subst k4
            simp only [validI, okStepS, chOk, canI, hr, if_true, if_neg (show ¬ (4 : Int) = 1 by omega), if_neg (show ¬ (4 : Int) = 2 by omega), if_neg (show ¬ (4 : Int) = 3 by omega), if_neg (show ¬ (4 : Int) = 7 by omega), if_neg (show ¬ ((4 : Int) = 1 ∨ (4 : Int) = 2) by omega), if_neg (show ¬ ((4 : Int) = 3 ∨ (4 : Int) = 7) by omega), Bool.true_and, show decide ((4 : Int) = 7) = false from rfl, Bool.false_and, Bool.not_false]
            by_cases e1 : inB value 1 20 = true
            · rw [if_pos e1, if_pos e1]
              apply keepIf_congr _ (fun _ => ⟨rfl, rfl, rfl, rfl⟩)
              by_cases e2 : value ≤ c.1 - c.2.1
              · simp [e2]
              · have h2 : shopB day looms (cs.set carpet.toNat (chR c 4 value day)) money = false := by
                  rw [← Bool.not_eq_true]; intro hq
                  have := (set_carp hq hl).1
                  rw [inB_iff] at e1
                  unfold carpB chR at this; simp [inB_iff] at this
                  rw [w64_id (by omega)] at this; omega
                rw [h2]; simp
            · rw [if_neg e1, if_neg e1]
          · by_cases k5 : kind = 5
            · subst k5
              simp only [validI, okStepS, chOk, canI, hr, if_true, if_neg (show ¬ (5 : Int) = 1 by omega), if_neg (show ¬ (5 : Int) = 2 by omega), if_neg (show ¬ (5 : Int) = 3 by omega), if_neg (show ¬ (5 : Int) = 4 by omega), if_neg (show ¬ (5 : Int) = 7 by omega), if_neg (show ¬ ((5 : Int) = 1 ∨ (5 : Int) = 2) by omega), if_neg (show ¬ ((5 : Int) = 3 ∨ (5 : Int) = 7) by omega), Bool.true_and, show decide ((5 : Int) = 7) = false from rfl, show decide ((5 : Int) = 5) = true from rfl, Bool.true_or, Bool.false_and, Bool.not_false]
              by_cases e1 : value = 0
              · rw [if_pos (by simpa using e1), if_pos (by simpa using e1)]
                apply keepIf_congr _ (fun _ => ⟨rfl, rfl, rfl, rfl⟩)
                by_cases e2 : c.2.1 = c.1
                · simp [e2]
                · have h2 : shopB day looms (cs.set carpet.toNat (chR c 5 value day)) money = false := by
                    rw [← Bool.not_eq_true]; intro hq
                    have := (set_carp hq hl).1
                    unfold carpB chR at this; simp [inB_iff] at this; omega
                  rw [h2]; simp
              · rw [if_neg (by simpa using e1), if_neg (by simpa using e1)]
            · by_cases k6 : kind = 6
              · subst k6
                simp only [validI, okStepS, chOk, canI, hr, if_true, if_neg (show ¬ (6 : Int) = 1 by omega), if_neg (show ¬ (6 : Int) = 2 by omega), if_neg (show ¬ (6 : Int) = 3 by omega), if_neg (show ¬ (6 : Int) = 4 by omega), if_neg (show ¬ (6 : Int) = 5 by omega), if_neg (show ¬ (6 : Int) = 7 by omega), if_neg (show ¬ ((6 : Int) = 1 ∨ (6 : Int) = 2) by omega), if_neg (show ¬ ((6 : Int) = 3 ∨ (6 : Int) = 7) by omega), Bool.true_and, show decide ((6 : Int) = 7) = false from rfl, show decide ((6 : Int) = 6) = true from rfl, Bool.or_true, Bool.false_and, Bool.not_false]
              · by_cases k7 : kind = 7
                · subst k7
                  simp only [validI, okStepS, chOk, canI, hr, if_true, or_true, if_neg (show ¬ (7 : Int) = 1 by omega), if_neg (show ¬ (7 : Int) = 2 by omega), if_neg (show ¬ (7 : Int) = 3 by omega), if_neg (show ¬ (7 : Int) = 4 by omega), if_neg (show ¬ (7 : Int) = 5 by omega), if_neg (show ¬ (7 : Int) = 6 by omega), if_neg (show ¬ ((7 : Int) = 1 ∨ (7 : Int) = 2) by omega), Bool.true_and, show decide ((7 : Int) = 7) = true from rfl]
                  by_cases e1 : value ≥ 1
                  · rw [if_pos (by simpa using e1), if_pos (by simpa using e1)]
                    by_cases e2 : value > 1000000 - money
                    · have h2 : shopB day looms (cs.set carpet.toNat (chR c 7 value day)) (w64 (money + value)) = false := by
                        rw [← Bool.not_eq_true]; intro hq
                        have := (shopB_of hq).2.2.1
                        rw [w64_eq] at this; omega
                      rw [h2]; simp [keepIf, e2]
                    · rw [w64_id (by omega)]
                      apply keepIf_congr _ (fun _ => ⟨rfl, rfl, rfl, rfl⟩)
                      simp [e2]
                  · rw [if_neg (by simpa using e1), if_neg (by simpa using e1)]
                · have h1 : validI kind carpet value = false := by unfold validI; simp [k1, k2, k3, k4, k5, k6, k7]
                  have h2 : okStepS looms cs.length kind carpet value = false := by unfold okStepS; simp [k1, k2, k3, k4, k5, k6, k7]
                  rw [h1, h2]; rfl
      · have hr' : inB carpet 0 ((cs.length : Int) - 1) = false := by simpa using hr
        rw [hr']
        have h2 : okStepS looms cs.length kind carpet value = false := by unfold okStepS; rw [if_neg k1, if_neg k2, hr']; rfl
        rw [h2]; simp [keepIf]
theorem keepIf_some {b : Bool} {d l m d' l' m' : Int} {c c' : List C5} (h : keepIf b d l c m = some (d', l', c', m')) : b = true ∧ d = d' ∧ l = l' ∧ c = c' ∧ m = m' := by
  unfold keepIf at h
  cases b with
  | false => simp at h
  | true => simp only [if_true, Option.some.injEq, Prod.mk.injEq] at h; exact ⟨rfl, h⟩
theorem stepS_good {day looms money kind carpet value day' looms' money' : Int} {cs cs' : List C5} (hs : shopB day looms cs money = true) (hv : -9223372036854775808 ≤ value ∧ value ≤ 9223372036854775807) (h : stepS day looms cs money kind carpet value = some (day', looms', cs', money')) : shopB day' looms' cs' money' = true := by
  rw [← step_eq hs hv] at h
  unfold stepI at h
  split at h
  · split at h
    · obtain ⟨hb, rfl, rfl, rfl, rfl⟩ := keepIf_some h; exact hb
    · split at h
      · obtain ⟨hb, rfl, rfl, rfl, rfl⟩ := keepIf_some h; exact hb
      · obtain ⟨hb, rfl, rfl, rfl, rfl⟩ := keepIf_some h; rw [Bool.and_eq_true] at hb; exact hb.2
  · exact absurd h (by simp)
/-- How a carpet goes on. -/
def GoesOn (day' : Int) (old c : C5) : Prop := c.1 = old.1 ∧ old.2.1 ≤ c.2.1 ∧ old.2.2.1 ≤ c.2.2.1 ∧ c.2.2.1 ≤ old.2.2.1 + 1 ∧ (c.2.2.1 ≥ 2 → c.2.1 = c.1) ∧ (c.2.2.1 = 4 → old.2.2.1 ≠ 4 → old.2.2.1 = 3 ∧ day' - old.2.2.2.2 ≥ 3)
theorem goesOn_same {day looms day' : Int} {c : C5} (h : carpB day looms c = true) : GoesOn day' c c := by
  have hc := h
  unfold carpB at hc
  simp only [Bool.and_eq_true, inB_iff] at hc
  refine ⟨rfl, Int.le_refl _, Int.le_refl _, by omega, fun h2 => ?_, fun h4 h5 => absurd h4 h5⟩
  have h3 := hc.2
  rw [if_neg (by omega), if_neg (by omega)] at h3
  simp at h3; exact h3.1
theorem stepS_law {day looms money kind carpet value day' looms' money' : Int} {cs cs' : List C5} (hs : shopB day looms cs money = true) (hv : -9223372036854775808 ≤ value ∧ value ≤ 9223372036854775807) (h : stepS day looms cs money kind carpet value = some (day', looms', cs', money')) : ∀ (i : Nat) (old : C5), cs[i]? = some old → ∃ c, cs'[i]? = some c ∧ GoesOn day' old c := by
  have hgood := stepS_good hs hv h
  have hrows := (shopB_of hs).2.2.2.2
  rw [rowsB_iff] at hrows
  unfold stepS at h
  split at h
  · next hok =>
    unfold makeS at h
    split at h
    · obtain ⟨hb, rfl, rfl, rfl, rfl⟩ := keepIf_some h
      exact fun i old ho => ⟨old, ho, goesOn_same (hrows i old ho).1⟩
    · split at h
      · obtain ⟨hb, rfl, rfl, rfl, rfl⟩ := keepIf_some h
        intro i old ho
        have hi := (List.getElem?_eq_some_iff.1 ho).1
        exact ⟨old, by rw [List.getElem?_append_left hi]; exact ho, goesOn_same (hrows i old ho).1⟩
      · next k1 k2 =>
        obtain ⟨hb, rfl, rfl, rfl, rfl⟩ := keepIf_some h
        unfold okStepS at hok
        rw [if_neg k1, if_neg k2, Bool.and_eq_true] at hok
        obtain ⟨hr, hok⟩ := hok
        obtain ⟨hg, hl⟩ := atC_get hr
        have hnew := (set_carp hgood hl).1
        intro i old ho
        by_cases e : carpet.toNat = i
        · subst e
          rw [hg] at ho; injection ho with ho
          refine ⟨_, by rw [List.getElem?_set]; simp [hl]; rfl, ?_⟩
          rw [ho] at hb hnew ⊢
          have hold := (hrows _ old (by rw [hg, ho])).1
          unfold carpB at hold hnew
          simp only [Bool.and_eq_true, inB_iff] at hold hnew
          obtain ⟨⟨⟨⟨c0, c1⟩, c2⟩, c4⟩, c3⟩ := hold
          obtain ⟨⟨⟨⟨d0, d1⟩, d2⟩, d4⟩, d3⟩ := hnew
          rw [Bool.and_eq_true, Bool.and_eq_true] at hb
          obtain ⟨_, hch, _⟩ := hb
          unfold chOk at hch
          by_cases k3 : kind = 3
          · subst k3; simp [chR] at hch ⊢ d3 d2 d1 d0 d4
            refine ⟨by simp, by simp, ?_, ?_, ?_, ?_⟩ <;> simp <;> omega
          · by_cases k4 : kind = 4
            · subst k4
              have hv20 : 1 ≤ value ∧ value ≤ 20 := by simpa [inB_iff] using hok
              simp [chR] at hch ⊢ d3 d2 d1 d0 d4
              have hw : w64 (old.2.1 + value) = old.2.1 + value := w64_id (by omega)
              rw [hw] at *
              refine ⟨by simp, ?_, by simp, ?_, ?_, ?_⟩ <;> simp <;> omega
            · by_cases k5 : kind = 5
              · subst k5; simp [chR] at hch ⊢ d3 d2 d1 d0 d4
                refine ⟨by simp, by simp, ?_, ?_, ?_, ?_⟩ <;> simp <;> omega
              · by_cases k6 : kind = 6
                · subst k6; simp [chR] at hch ⊢ d3 d2 d1 d0 d4
                  refine ⟨by simp, by simp, ?_, ?_, ?_, ?_⟩ <;> simp <;> omega
                · simp [chR, k3, k4, k5, k6] at hch ⊢ d3 d2 d1 d0 d4
                  refine ⟨by simp, by simp, ?_, ?_, ?_, ?_⟩ <;> simp <;> omega
        · exact ⟨old, by rw [List.getElem?_set, if_neg e]; exact ho, goesOn_same (hrows i old ho).1⟩
  · exact absurd h (by simp)
theorem implIn_eq (k : Nat) (n lo hi : Int) : impl_in.f k n lo hi = some (inB n lo hi) := by
  unfold impl_in.f impl_in.m inB; by_cases h : lo ≤ n <;> simp [h]
theorem specIn_eq (k : Nat) (n lo hi : Int) : spec_l1In.f k n lo hi = some (inB n lo hi) := by
  unfold spec_l1In.f spec_l1In.m inB; by_cases h : lo ≤ n <;> simp [h]
theorem implCarpet_eq (k : Nat) (day looms money : Int) (cs : List C5) (a b c d e : Int) : impl_Shop_isCarpet.f k day looms cs money a b c d e = some (carpB day looms ⟨a, b, c, d, e⟩) := by
  unfold impl_Shop_isCarpet.f impl_Shop_isCarpet.m carpB
  simp only [implIn_eq, Option.bind_some]
  cases h1 : inB a 1 500 <;> simp only [Bool.not_true, Bool.not_false, cond_true, cond_false, Bool.true_and, Bool.false_and, Bool.and_true, Bool.and_false, Bool.false_eq_true, Bool.true_or, Bool.or_true, Bool.false_or, Bool.or_false, Bool.or_self, Bool.and_self, decide_true, decide_false, if_true, if_false, not_true, not_false_eq_true, not_true_eq_false, false_or, or_false, true_and, and_true, Bool.not_eq_true, Bool.true_eq_false, reduceCtorEq]
  cases h2 : inB b 0 a <;> simp only [Bool.not_true, Bool.not_false, cond_true, cond_false, Bool.true_and, Bool.false_and, Bool.and_true, Bool.and_false, Bool.false_eq_true, Bool.true_or, Bool.or_true, Bool.false_or, Bool.or_false, Bool.or_self, Bool.and_self, decide_true, decide_false, if_true, if_false, not_true, not_false_eq_true, not_true_eq_false, false_or, or_false, true_and, and_true, Bool.not_eq_true, Bool.true_eq_false, reduceCtorEq]
  cases h3 : inB c 0 4 <;> simp only [Bool.not_true, Bool.not_false, cond_true, cond_false, Bool.true_and, Bool.false_and, Bool.and_true, Bool.and_false, Bool.false_eq_true, Bool.true_or, Bool.or_true, Bool.false_or, Bool.or_false, Bool.or_self, Bool.and_self, decide_true, decide_false, if_true, if_false, not_true, not_false_eq_true, not_true_eq_false, false_or, or_false, true_and, and_true, Bool.not_eq_true, Bool.true_eq_false, reduceCtorEq]
  cases h4 : inB e 0 day <;> simp only [Bool.not_true, Bool.not_false, cond_true, cond_false, Bool.true_and, Bool.false_and, Bool.and_true, Bool.and_false, Bool.false_eq_true, Bool.true_or, Bool.or_true, Bool.false_or, Bool.or_false, Bool.or_self, Bool.and_self, decide_true, decide_false, if_true, if_false, not_true, not_false_eq_true, not_true_eq_false, false_or, or_false, true_and, and_true, Bool.not_eq_true, Bool.true_eq_false, reduceCtorEq]
  by_cases h5 : c = 0
  · subst h5; by_cases h6 : b = 0 <;> simp [h6]
  · by_cases h6 : c = 1
    · simp [h5, h6]
    · by_cases h7 : b = a <;> simp [h5, h6, h7]
theorem specCarpet_eq (k : Nat) (day looms money : Int) (cs : List C5) (a b c d e : Int) : spec_l25Carpet.f k day looms cs money a b c d e = some (carpB day looms ⟨a, b, c, d, e⟩) := by
  unfold spec_l25Carpet.f spec_l25Carpet.m carpB
  simp only [specIn_eq, Option.bind_some]
  cases h1 : inB a 1 500 <;> simp only [Bool.not_true, Bool.not_false, cond_true, cond_false, Bool.true_and, Bool.false_and, Bool.and_true, Bool.and_false, Bool.false_eq_true, Bool.true_or, Bool.or_true, Bool.false_or, Bool.or_false, Bool.or_self, Bool.and_self, decide_true, decide_false, if_true, if_false, not_true, not_false_eq_true, not_true_eq_false, false_or, or_false, true_and, and_true, Bool.not_eq_true, Bool.true_eq_false, reduceCtorEq]
  cases h2 : inB b 0 a <;> simp only [Bool.not_true, Bool.not_false, cond_true, cond_false, Bool.true_and, Bool.false_and, Bool.and_true, Bool.and_false, Bool.false_eq_true, Bool.true_or, Bool.or_true, Bool.false_or, Bool.or_false, Bool.or_self, Bool.and_self, decide_true, decide_false, if_true, if_false, not_true, not_false_eq_true, not_true_eq_false, false_or, or_false, true_and, and_true, Bool.not_eq_true, Bool.true_eq_false, reduceCtorEq]
  cases h3 : inB c 0 4 <;> simp only [Bool.not_true, Bool.not_false, cond_true, cond_false, Bool.true_and, Bool.false_and, Bool.and_true, Bool.and_false, Bool.false_eq_true, Bool.true_or, Bool.or_true, Bool.false_or, Bool.or_false, Bool.or_self, Bool.and_self, decide_true, decide_false, if_true, if_false, not_true, not_false_eq_true, not_true_eq_false, false_or, or_false, true_and, and_true, Bool.not_eq_true, Bool.true_eq_false, reduceCtorEq]
  cases h4 : inB e 0 day <;> simp only [Bool.not_true, Bool.not_false, cond_true, cond_false, Bool.true_and, Bool.false_and, Bool.and_true, Bool.and_false, Bool.false_eq_true, Bool.true_or, Bool.or_true, Bool.false_or, Bool.or_false, Bool.or_self, Bool.and_self, decide_true, decide_false, if_true, if_false, not_true, not_false_eq_true, not_true_eq_false, false_or, or_false, true_and, and_true, Bool.not_eq_true, Bool.true_eq_false, reduceCtorEq]
  by_cases h6 : c = 1
  · simp [h6]
  · by_cases h5 : c = 0
    · subst h5; by_cases h7 : d = 0 <;> simp [h7]
    · by_cases h7 : d = 0 <;> simp [h5, h6, h7]
theorem onLoom_eq (k : Nat) (day looms money : Int) (cs : List C5) (hl : cs.length ≤ 100000000000000) (hk : cs.length + 50 < k) (loom : Int) : impl_Shop_onLoom.f k day looms cs money loom = some (onB cs loom) := by
  unfold impl_Shop_onLoom.f impl_Shop_onLoom.m slices_IndexFunc_impl_Carpet_impl_Carpet__impl_Shop_onLoom_1.f slices_IndexFunc_impl_Carpet_impl_Carpet__impl_Shop_onLoom_1.m
  have h := (find_loop (L := fun k i => slices_IndexFunc_impl_Carpet_impl_Carpet__impl_Shop_onLoom_1.l3 k cs loom cs.length (i : Int)) (n := cs.length) (K0 := 20) (ok := fun i => decide ((cs.getD i (0, 0, 0, 0, 0)).2.2.1 = 1) && decide ((cs.getD i (0, 0, 0, 0, 0)).2.2.2.1 = loom)) (fun k i hk hi => ?_) (fun k hk => ?_)) cs.length k 0 (by omega) (by omega)
  · rw [show ((0 : Nat) : Int) = 0 from rfl] at h
    by_cases ha : ∀ i, i < cs.length → (!(decide ((cs.getD i (0, 0, 0, 0, 0)).2.2.1 = 1) && decide ((cs.getD i (0, 0, 0, 0, 0)).2.2.2.1 = loom))) = true
    · rw [h.1 (fun j _ hj => by have := ha j hj; rwa [Bool.not_eq_true'] at this)]
      have : onB cs loom = -1 := by
        unfold onB
        have hn : cs.findIdx? (fun c => decide (c.2.2.1 = 1) && decide (c.2.2.2.1 = loom)) = none := by
          rw [List.findIdx?_eq_none_iff]; intro c hc
          obtain ⟨j, hj, rfl⟩ := List.mem_iff_getElem.1 hc
          have := ha j hj
          rw [getD_lt hj, Bool.not_eq_true'] at this; exact this
        rw [hn]
      rw [this]; rfl
    · obtain ⟨t, h1, h2, h3⟩ := first_bad ha
      rw [Bool.not_eq_false'] at h2
      rw [h.2 t (Nat.zero_le _) h1 h2 (fun j _ hj => by have := h3 j hj; rwa [Bool.not_eq_true'] at this)]
      simp only [Bool.and_eq_true, decide_eq_true_eq] at h2
      rw [getD_lt h1] at h2
      have := (onB_eq (List.getElem?_eq_getElem h1) h2.1 h2.2).2 (fun j d hj hd hc => by
        have := h3 j hj
        rw [getD_lt (by omega), (List.getElem?_eq_some_iff.1 hd).2] at this
        simp [hc.1, hc.2] at this)
      rw [this]; rfl
  · simp (disch := omega) only [slices_IndexFunc_impl_Carpet_impl_Carpet__impl_Shop_onLoom_1.l3, slices_IndexFunc_impl_Carpet_impl_Carpet__impl_Shop_onLoom_1.b3, impl_Shop_onLoom_1.f, impl_Shop_onLoom_1.m, if_pos, chk_nat, Option.bind_some, w64_id, Int.natCast_add, Int.cast_ofNat_Int]
    by_cases e : (cs.getD i (0, 0, 0, 0, 0)).2.2.1 = 1 <;> by_cases e2 : (cs.getD i (0, 0, 0, 0, 0)).2.2.2.1 = loom <;> simp only [e, e2, Bool.not_true, Bool.not_false, cond_true, cond_false, Bool.true_and, Bool.false_and, Bool.and_true, Bool.and_false, Bool.false_eq_true, Bool.true_or, Bool.or_true, Bool.false_or, Bool.or_false, Bool.or_self, Bool.and_self, decide_true, decide_false, if_true, if_false, not_true, not_false_eq_true, not_true_eq_false, false_or, or_false, true_and, and_true, Bool.not_eq_true, Bool.true_eq_false, reduceCtorEq, Option.bind_some]
  · simp (disch := omega) only [slices_IndexFunc_impl_Carpet_impl_Carpet__impl_Shop_onLoom_1.l3, slices_IndexFunc_impl_Carpet_impl_Carpet__impl_Shop_onLoom_1.b3, if_neg]
theorem isShop_eq (k : Nat) (day looms money : Int) (cs : List C5) (hk : 300 ≤ k) : impl_IsShop.f k day looms cs money = some (shopB day looms cs money) := by
  unfold impl_IsShop.f impl_IsShop.m shopB impl_isDay.f impl_isDay.m
  simp only [implIn_eq, Option.bind_some]
  cases h1 : inB day 0 4000 <;> simp only [Bool.not_true, Bool.not_false, cond_true, cond_false, Bool.true_and, Bool.false_and, Bool.and_true, Bool.and_false, Bool.false_eq_true, Bool.true_or, Bool.or_true, Bool.false_or, Bool.or_false, Bool.or_self, Bool.and_self, decide_true, decide_false, if_true, if_false, not_true, not_false_eq_true, not_true_eq_false, false_or, or_false, true_and, and_true, Bool.not_eq_true, Bool.true_eq_false, reduceCtorEq]
  cases h2 : inB looms 1 4 <;> simp only [Bool.not_true, Bool.not_false, cond_true, cond_false, Bool.true_and, Bool.false_and, Bool.and_true, Bool.and_false, Bool.false_eq_true, Bool.true_or, Bool.or_true, Bool.false_or, Bool.or_false, Bool.or_self, Bool.and_self, decide_true, decide_false, if_true, if_false, not_true, not_false_eq_true, not_true_eq_false, false_or, or_false, true_and, and_true, Bool.not_eq_true, Bool.true_eq_false, reduceCtorEq]
  by_cases h4 : 8 < (cs.length : Int)
  · rw [if_pos h4, decide_eq_false (show ¬ cs.length ≤ 8 by omega)]; simp only [Bool.not_true, Bool.not_false, cond_true, cond_false, Bool.true_and, Bool.false_and, Bool.and_true, Bool.and_false, Bool.false_eq_true, Bool.true_or, Bool.or_true, Bool.false_or, Bool.or_false, Bool.or_self, Bool.and_self, decide_true, decide_false, if_true, if_false, not_true, not_false_eq_true, not_true_eq_false, false_or, or_false, true_and, and_true, Bool.not_eq_true, Bool.true_eq_false, reduceCtorEq]
  · rw [if_neg h4, decide_eq_true (show cs.length ≤ 8 by omega)]
    cases h3 : inB money 0 1000000 <;> simp only [Bool.not_true, Bool.not_false, cond_true, cond_false, Bool.true_and, Bool.false_and, Bool.and_true, Bool.and_false, Bool.false_eq_true, Bool.true_or, Bool.or_true, Bool.false_or, Bool.or_false, Bool.or_self, Bool.and_self, decide_true, decide_false, if_true, if_false, not_true, not_false_eq_true, not_true_eq_false, false_or, or_false, true_and, and_true, Bool.not_eq_true, Bool.true_eq_false, reduceCtorEq]
    rw [← rowsI_eq]
    have hq := (all_loop (L := fun k i => impl_IsShop.l6 k day looms cs money cs cs.length (i : Int)) (n := cs.length) (K0 := 200) (ok := fun i => carpB day looms (cs.getD i (0, 0, 0, 0, 0)) && !(decide ((cs.getD i (0, 0, 0, 0, 0)).2.2.1 = 1) && decide (onB cs (cs.getD i (0, 0, 0, 0, 0)).2.2.2.1 ≠ (i : Int)))) (f := some false) (fun k i hk hi => ?_)) cs.length k 0 (by omega) (by omega)
    · rw [show ((0 : Nat) : Int) = 0 from rfl] at hq
      unfold rowsI
      by_cases hc : (List.range cs.length).all (fun i => carpB day looms (cs.getD i (0, 0, 0, 0, 0)) && !(decide ((cs.getD i (0, 0, 0, 0, 0)).2.2.1 = 1) && decide (onB cs (cs.getD i (0, 0, 0, 0, 0)).2.2.2.1 ≠ (i : Int)))) = true
      · rw [hc]
        rw [List.all_eq_true] at hc
        exact hq.1 (some true) (fun k hk => by simp (disch := omega) only [impl_IsShop.l6, impl_IsShop.b6, if_neg]) (fun j _ hj => hc j (List.mem_range.2 hj))
      · rw [notB hc]
        exact hq.2 (exists_bad fun hn => hc (by rw [List.all_eq_true]; intro j hj; exact hn j (List.mem_range.1 hj)))
    · simp (disch := omega) only [impl_IsShop.l6, impl_IsShop.b6, if_pos, chk_nat, Option.bind_some, w64_id, implCarpet_eq, onLoom_eq, Int.natCast_add, Int.cast_ofNat_Int]
      cases q1 : carpB day looms (cs.getD i (0, 0, 0, 0, 0)) <;> simp only [q1, Bool.not_true, Bool.not_false, cond_true, cond_false, Bool.true_and, Bool.false_and, Bool.and_true, Bool.and_false, Bool.false_eq_true, Bool.true_or, Bool.or_true, Bool.false_or, Bool.or_false, Bool.or_self, Bool.and_self, decide_true, decide_false, if_true, if_false, not_true, not_false_eq_true, not_true_eq_false, false_or, or_false, true_and, and_true, Bool.not_eq_true, Bool.true_eq_false, reduceCtorEq]
      by_cases q2 : (cs.getD i (0, 0, 0, 0, 0)).2.2.1 = 1
      · by_cases q3 : onB cs (cs.getD i (0, 0, 0, 0, 0)).2.2.2.1 = (i : Int) <;> simp only [q2, q3, Bool.not_true, Bool.not_false, cond_true, cond_false, Bool.true_and, Bool.false_and, Bool.and_true, Bool.and_false, Bool.false_eq_true, Bool.true_or, Bool.or_true, Bool.false_or, Bool.or_false, Bool.or_self, Bool.and_self, decide_true, decide_false, if_true, if_false, not_true, not_false_eq_true, not_true_eq_false, false_or, or_false, true_and, and_true, Bool.not_eq_true, Bool.true_eq_false, reduceCtorEq, ne_eq]
      · simp only [q2, Bool.not_true, Bool.not_false, cond_true, cond_false, Bool.true_and, Bool.false_and, Bool.and_true, Bool.and_false, Bool.false_eq_true, Bool.true_or, Bool.or_true, Bool.false_or, Bool.or_false, Bool.or_self, Bool.and_self, decide_true, decide_false, if_true, if_false, not_true, not_false_eq_true, not_true_eq_false, false_or, or_false, true_and, and_true, Bool.not_eq_true, Bool.true_eq_false, reduceCtorEq]
theorem good_l1 (day looms money : Int) (cs : List C5) (hl : cs.length ≤ 1000) (i : Nat) (hi : i < cs.length) : ∀ (d k j : Nat), j + d = i → d + 2 < k → (∀ c ∈ cs.take j, ¬ ((rdC cs (i : Int)).2.2.2.1 > 0 ∧ c.2.2.2.1 = (rdC cs (i : Int)).2.2.2.1)) → ((soloB cs i (rdC cs (i : Int)) = true ∧ spec_l25Good.l14 k day looms cs money (i : Int) (j : Int) = spec_l25Good.l6 (k - d - 1) day looms cs money ((i + 1 : Nat) : Int)) ∨ (soloB cs i (rdC cs (i : Int)) = false ∧ spec_l25Good.l14 k day looms cs money (i : Int) (j : Int) = some false)) := by
  intro d
  induction d with
  | zero =>
    intro k j h1 h2 h3
    obtain ⟨k, rfl⟩ := succ_of (show 0 < k by omega)
    have : j = i := by omega
    subst this
    refine .inl ⟨?_, ?_⟩
    · unfold soloB; rw [List.all_eq_true]; intro c hc; have := h3 c hc; rw [Bool.not_eq_true', ← Bool.not_eq_true]; simp only [Bool.and_eq_true, decide_eq_true_eq]; exact this
    · simp (disch := omega) only [spec_l25Good.l14, spec_l25Good.b14, if_neg, w64_id]; rfl
  | succ d ih =>
    intro k j h1 h2 h3
    obtain ⟨k, rfl⟩ := succ_of (show 0 < k by omega)
    have hj : j < cs.length := by omega
    have haj : cs.getD j (0, 0, 0, 0, 0) = cs[j] := getD_lt hj
    have htake : cs.take (j + 1) = cs.take j ++ [cs[j]] := List.take_succ_eq_append_getElem hj
    have hmem : cs[j] ∈ cs.take i := List.mem_of_getElem? (i := j) (by rw [List.getElem?_take, if_pos (by omega), List.getElem?_eq_getElem hj])
    simp (disch := omega) only [spec_l25Good.l14, spec_l25Good.b14, if_pos, chk_nat, Option.bind_some, w64_id, haj]
    rw [← rdC_nat, show ((j : Int) + 1) = ((j + 1 : Nat) : Int) by omega]
    have hcont : ¬ ((rdC cs (i : Int)).2.2.2.1 > 0 ∧ cs[j].2.2.2.1 = (rdC cs (i : Int)).2.2.2.1) → ((soloB cs i (rdC cs (i : Int)) = true ∧ spec_l25Good.l14 k day looms cs money (i : Int) ((j + 1 : Nat) : Int) = spec_l25Good.l6 (k + 1 - (d + 1) - 1) day looms cs money ((i + 1 : Nat) : Int)) ∨ (soloB cs i (rdC cs (i : Int)) = false ∧ spec_l25Good.l14 k day looms cs money (i : Int) ((j + 1 : Nat) : Int) = some false)) := by
      intro hn
      rw [show k + 1 - (d + 1) - 1 = k - d - 1 by omega]
      exact ih k (j + 1) (by omega) (by omega) (fun c hc => by
        rw [htake, List.mem_append, List.mem_singleton] at hc
        rcases hc with hc | rfl
        · exact h3 c hc
        · exact hn)
    by_cases e1 : 0 < (rdC cs (i : Int)).2.2.2.1
    · simp only [e1, Bool.not_true, Bool.not_false, cond_true, cond_false, Bool.true_and, Bool.false_and, Bool.and_true, Bool.and_false, Bool.false_eq_true, Bool.true_or, Bool.or_true, Bool.false_or, Bool.or_false, Bool.or_self, Bool.and_self, decide_true, decide_false, if_true, if_false, not_true, not_false_eq_true, not_true_eq_false, false_or, or_false, true_and, and_true, Bool.not_eq_true, Bool.true_eq_false, reduceCtorEq]
      by_cases e2 : cs[j].2.2.2.1 = (rdC cs (i : Int)).2.2.2.1
      · simp only [e2, Bool.not_true, Bool.not_false, cond_true, cond_false, Bool.true_and, Bool.false_and, Bool.and_true, Bool.and_false, Bool.false_eq_true, Bool.true_or, Bool.or_true, Bool.false_or, Bool.or_false, Bool.or_self, Bool.and_self, decide_true, decide_false, if_true, if_false, not_true, not_false_eq_true, not_true_eq_false, false_or, or_false, true_and, and_true, Bool.not_eq_true, Bool.true_eq_false, reduceCtorEq]
        refine .inr ?_
        unfold soloB; rw [← Bool.not_eq_true, List.all_eq_true]; intro hh
        have := hh _ hmem
        simp [e1, e2] at this
      · simp only [e2, Bool.not_true, Bool.not_false, cond_true, cond_false, Bool.true_and, Bool.false_and, Bool.and_true, Bool.and_false, Bool.false_eq_true, Bool.true_or, Bool.or_true, Bool.false_or, Bool.or_false, Bool.or_self, Bool.and_self, decide_true, decide_false, if_true, if_false, not_true, not_false_eq_true, not_true_eq_false, false_or, or_false, true_and, and_true, Bool.not_eq_true, Bool.true_eq_false, reduceCtorEq]; exact hcont (fun h => e2 h.2)
    · simp only [e1, Bool.not_true, Bool.not_false, cond_true, cond_false, Bool.true_and, Bool.false_and, Bool.and_true, Bool.and_false, Bool.false_eq_true, Bool.true_or, Bool.or_true, Bool.false_or, Bool.or_false, Bool.or_self, Bool.and_self, decide_true, decide_false, if_true, if_false, not_true, not_false_eq_true, not_true_eq_false, false_or, or_false, true_and, and_true, Bool.not_eq_true, Bool.true_eq_false, reduceCtorEq]; exact hcont (fun h => e1 h.1)
def pS (day looms : Int) (cs : List C5) (i : Nat) : Bool := carpB day looms (rdC cs (i : Int)) && soloB cs i (rdC cs (i : Int))
theorem rowsB_pS (day looms : Int) (cs : List C5) : rowsB day looms cs = (List.range cs.length).all (pS day looms cs) := by unfold rowsB pS; simp only [rdC_nat]
theorem good_l (day looms money : Int) (cs : List C5) (hl : cs.length ≤ 8) : ∀ (d k i : Nat), i + d = cs.length → 12 * d + 5 < k → (∀ j, j < i → pS day looms cs j = true) → spec_l25Good.l6 k day looms cs money (i : Int) = some (rowsB day looms cs) := by
  intro d
  induction d with
  | zero =>
    intro k i h1 h2 h3
    obtain ⟨k, rfl⟩ := succ_of (show 0 < k by omega)
    simp (disch := omega) only [spec_l25Good.l6, spec_l25Good.b6, if_neg]; rw [rowsB_pS]
    congr 1; symm; rw [List.all_eq_true]; intro j hj; rw [List.mem_range] at hj; exact h3 j (by omega)
  | succ d ih =>
    intro k i h1 h2 h3
    obtain ⟨k, rfl⟩ := succ_of (show 0 < k by omega)
    simp (disch := omega) only [spec_l25Good.l6, spec_l25Good.b6, if_pos, chk_nat, Option.bind_some, specCarpet_eq]
    rw [← rdC_nat]
    have hfail : pS day looms cs i = false → rowsB day looms cs = false := by
      intro hp; rw [rowsB_pS, ← Bool.not_eq_true, List.all_eq_true]; intro hh
      have := hh i (by rw [List.mem_range]; omega); rw [hp] at this; exact absurd this (by simp)
    by_cases e1 : carpB day looms (rdC cs (i : Int)) = true
    · rw [show ((rdC cs (i : Int)).1, (rdC cs (i : Int)).2.1, (rdC cs (i : Int)).2.2.1, (rdC cs (i : Int)).2.2.2.1, (rdC cs (i : Int)).2.2.2.2) = rdC cs (i : Int) from rfl, e1]; simp only [Bool.not_true, Bool.not_false, cond_true, cond_false, Bool.true_and, Bool.false_and, Bool.and_true, Bool.and_false, Bool.false_eq_true, Bool.true_or, Bool.or_true, Bool.false_or, Bool.or_false, Bool.or_self, Bool.and_self, decide_true, decide_false, if_true, if_false, not_true, not_false_eq_true, not_true_eq_false, false_or, or_false, true_and, and_true, Bool.not_eq_true, Bool.true_eq_false, reduceCtorEq]
      have f2 := good_l1 day looms money cs (by omega) i (by omega) i k 0 (by omega) (by omega) (by simp)
      rw [show ((0 : Nat) : Int) = 0 from rfl] at f2
      rcases f2 with ⟨g1, g2⟩ | ⟨g1, g2⟩
      · rw [g2]
        refine ih _ (i + 1) (by omega) (by omega) fun j hj => ?_
        by_cases e : j = i
        · subst e; unfold pS; simp [e1, g1]
        · exact h3 j (by omega)
      · rw [g2, hfail (by unfold pS; simp [g1])]
    · rw [show ((rdC cs (i : Int)).1, (rdC cs (i : Int)).2.1, (rdC cs (i : Int)).2.2.1, (rdC cs (i : Int)).2.2.2.1, (rdC cs (i : Int)).2.2.2.2) = rdC cs (i : Int) from rfl, notB e1]; simp only [Bool.not_true, Bool.not_false, cond_true, cond_false, Bool.true_and, Bool.false_and, Bool.and_true, Bool.and_false, Bool.false_eq_true, Bool.true_or, Bool.or_true, Bool.false_or, Bool.or_false, Bool.or_self, Bool.and_self, decide_true, decide_false, if_true, if_false, not_true, not_false_eq_true, not_true_eq_false, false_or, or_false, true_and, and_true, Bool.not_eq_true, Bool.true_eq_false, reduceCtorEq]
      rw [hfail (by unfold pS; simp [e1])]
theorem good_eq (k : Nat) (day looms money : Int) (cs : List C5) (hk : 300 ≤ k) : spec_l25Good.f k day looms cs money = some (shopB day looms cs money) := by
  unfold spec_l25Good.f spec_l25Good.m shopB spec_l2Day.f spec_l2Day.m
  simp only [specIn_eq, Option.bind_some]
  cases h1 : inB day 0 4000 <;> simp only [Bool.not_true, Bool.not_false, cond_true, cond_false, Bool.true_and, Bool.false_and, Bool.and_true, Bool.and_false, Bool.false_eq_true, Bool.true_or, Bool.or_true, Bool.false_or, Bool.or_false, Bool.or_self, Bool.and_self, decide_true, decide_false, if_true, if_false, not_true, not_false_eq_true, not_true_eq_false, false_or, or_false, true_and, and_true, Bool.not_eq_true, Bool.true_eq_false, reduceCtorEq]
  cases h2 : inB looms 1 4 <;> simp only [Bool.not_true, Bool.not_false, cond_true, cond_false, Bool.true_and, Bool.false_and, Bool.and_true, Bool.and_false, Bool.false_eq_true, Bool.true_or, Bool.or_true, Bool.false_or, Bool.or_false, Bool.or_self, Bool.and_self, decide_true, decide_false, if_true, if_false, not_true, not_false_eq_true, not_true_eq_false, false_or, or_false, true_and, and_true, Bool.not_eq_true, Bool.true_eq_false, reduceCtorEq]
  cases h3 : inB money 0 1000000 <;> simp only [Bool.not_true, Bool.not_false, cond_true, cond_false, Bool.true_and, Bool.false_and, Bool.and_true, Bool.and_false, Bool.false_eq_true, Bool.true_or, Bool.or_true, Bool.false_or, Bool.or_false, Bool.or_self, Bool.and_self, decide_true, decide_false, if_true, if_false, not_true, not_false_eq_true, not_true_eq_false, false_or, or_false, true_and, and_true, Bool.not_eq_true, Bool.true_eq_false, reduceCtorEq]
  by_cases h4 : 8 < (cs.length : Int)
  · rw [if_pos h4, decide_eq_false (show ¬ cs.length ≤ 8 by omega)]; simp only [Bool.not_true, Bool.not_false, cond_true, cond_false, Bool.true_and, Bool.false_and, Bool.and_true, Bool.and_false, Bool.false_eq_true, Bool.true_or, Bool.or_true, Bool.false_or, Bool.or_false, Bool.or_self, Bool.and_self, decide_true, decide_false, if_true, if_false, not_true, not_false_eq_true, not_true_eq_false, false_or, or_false, true_and, and_true, Bool.not_eq_true, Bool.true_eq_false, reduceCtorEq]
  · rw [if_neg h4, decide_eq_true (show cs.length ≤ 8 by omega)]; simp only [Bool.not_true, Bool.not_false, cond_true, cond_false, Bool.true_and, Bool.false_and, Bool.and_true, Bool.and_false, Bool.false_eq_true, Bool.true_or, Bool.or_true, Bool.false_or, Bool.or_false, Bool.or_self, Bool.and_self, decide_true, decide_false, if_true, if_false, not_true, not_false_eq_true, not_true_eq_false, false_or, or_false, true_and, and_true, Bool.not_eq_true, Bool.true_eq_false, reduceCtorEq]
    exact good_l day looms money cs (by omega) cs.length k 0 (by omega) (by omega) (fun j hj => absurd hj (by omega))
theorem valid_eq (k : Nat) (hk : 3 ≤ k) (kind carpet value : Int) : impl_ShopStep_isValid.f k kind carpet value = some (validI kind carpet value) := by
  obtain ⟨k, rfl⟩ := succ_of (show 0 < k by omega)
  obtain ⟨k, rfl⟩ := succ_of (show 0 < k by omega)
  unfold impl_ShopStep_isValid.f impl_ShopStep_isValid.m validI
  simp only [impl_ShopStep_isValid.l3, impl_ShopStep_isValid.b3, impl_ShopStep_isValid.l6, impl_ShopStep_isValid.b6, implIn_eq, Option.bind_some]
  by_cases k1 : kind = 1
  · subst k1; by_cases h : carpet = 0 <;> simp [h]
  · by_cases k2 : kind = 2
    · subst k2; by_cases h : carpet = 0 <;> simp [h]
    · by_cases k3 : kind = 3
      · subst k3; simp
      · by_cases k7 : kind = 7
        · subst k7; simp
        · by_cases k4 : kind = 4
          · subst k4; simp
          · by_cases k5 : kind = 5
            · subst k5; simp
            · by_cases k6 : kind = 6
              · subst k6; simp
              · simp [k1, k2, k3, k4, k5, k6, k7]
theorem change_eq (k : Nat) {day looms money kind carpet value : Int} {cs : List C5} (hr : inB carpet 0 ((cs.length : Int) - 1) = true) (hv : validI kind carpet value = true) (k1 : ¬ kind = 1) (k2 : ¬ kind = 2) : impl_Shop_change.f k day looms cs money kind carpet value = some (day, looms, cs.set carpet.toNat (chR (rdC cs carpet) kind value day), if kind = 7 then w64 (money + value) else money) := by
  obtain ⟨hg, hl⟩ := atC_get hr
  rw [inB_iff] at hr
  have hat : ∀ c : C5, (cs.set carpet.toNat c).getD carpet.toNat (0, 0, 0, 0, 0) = c := fun c => by
    rw [getD_set hl, if_pos rfl]
  unfold impl_Shop_change.f impl_Shop_change.m
  rw [chk_int (by omega)]; simp only [Option.bind_some, upd_of, hat, List.set_set]
  have hrd : cs.getD carpet.toNat (0, 0, 0, 0, 0) = rdC cs carpet := rfl
  rw [hrd]
  unfold chR
  by_cases k3 : kind = 3
  · subst k3; simp
  · by_cases k4 : kind = 4
    · subst k4; simp
    · by_cases k5 : kind = 5
      · subst k5; simp
      · by_cases k6 : kind = 6
        · subst k6; simp
        · by_cases k7 : kind = 7
          · subst k7; simp
          · unfold validI at hv; simp [k1, k2, k3, k4, k5, k6, k7] at hv
theorem can_eq (k : Nat) {day looms money kind carpet value : Int} {cs : List C5} (c : C5) (hl : cs.length ≤ 1000) (hk : 1100 < k) (hd : 0 ≤ day ∧ day ≤ 4000) (hc4 : 0 ≤ c.2.2.2.2 ∧ c.2.2.2.2 ≤ 4000) (hc0 : 0 ≤ c.1 ∧ c.1 ≤ 500) (hc1 : 0 ≤ c.2.1 ∧ c.2.1 ≤ 500) : impl_Shop_canChange.f k day looms cs money kind carpet value c.1 c.2.1 c.2.2.1 c.2.2.2.1 c.2.2.2.2 = some (canI day cs c kind value) := by
  unfold impl_Shop_canChange.f impl_Shop_canChange.m canI
  rw [w64_id (x := day - c.2.2.2.2) (by omega), w64_id (x := c.1 - c.2.1) (by omega)]
  by_cases k3 : kind = 3
  · subst k3; rw [if_pos rfl, if_pos rfl, onLoom_eq k _ _ _ cs (by omega) (by omega)]
    by_cases e : c.2.2.1 = 0 <;> simp [e]
  · by_cases k4 : kind = 4
    · subst k4; by_cases e : c.2.2.1 = 1
      · by_cases e2 : 1 ≤ day - c.2.2.2.2 <;> simp [e, e2]
      · simp [e]
    · by_cases k5 : kind = 5
      · subst k5; by_cases e : c.2.2.1 = 1 <;> simp [e]
      · by_cases k6 : kind = 6
        · subst k6; simp
        · by_cases e : c.2.2.1 = 3 <;> simp [k3, k4, k5, k6, e]
def outR (r : Option (Int × Int × List C5 × Int)) : Int × Int × List C5 × Int × Bool := match r with | some (d, l, c, m) => (d, l, c, m, true) | none => (0, 0, [], 0, false)
theorem clone_eq (k : Nat) (cs : List C5) (hl : cs.length ≤ 4194304) : slices_Clone_impl_Carpet_impl_Carpet.f k cs = some cs := by unfold slices_Clone_impl_Carpet_impl_Carpet.f; rw [app_ok (by simp; omega)]; rfl
theorem implStep_eq (k : Nat) {day looms money kind carpet value : Int} {cs : List C5} (hs : shopB day looms cs money = true) (hk : 2000 ≤ k) : impl_Shop_step.f k day looms cs money kind carpet value = some (outR (stepI day looms cs money kind carpet value)) := by
  obtain ⟨a1, a2, a3, a4, a5⟩ := shopB_of hs
  obtain ⟨k, rfl⟩ := succ_of (show 0 < k by omega)
  have key : ∀ (d l : Int) (c : List C5) (m : Int), impl_Shop_step.l5 (k + 1) 0 0 [] 0 d l c m = some (outR (keepIf (shopB d l c m) d l c m)) := fun d l c m => by
    simp only [impl_Shop_step.l5, impl_Shop_step.b5]
    rw [isShop_eq k _ _ _ c (by omega)]; simp only [Option.bind_some]
    cases shopB d l c m <;> rfl
  unfold impl_Shop_step.f impl_Shop_step.m stepI impl_Shop_copied.f impl_Shop_copied.m
  rw [valid_eq (k + 1) (by omega), clone_eq (k + 1) cs (by omega)]; simp only [Option.bind_some]
  by_cases hv : validI kind carpet value = true
  · simp only [hv, Bool.not_true, Bool.not_false, cond_true, cond_false, Bool.true_and, Bool.false_and, Bool.and_true, Bool.and_false, Bool.false_eq_true, Bool.true_or, Bool.or_true, Bool.false_or, Bool.or_false, Bool.or_self, Bool.and_self, decide_true, decide_false, if_true, if_false, not_true, not_false_eq_true, not_true_eq_false, false_or, or_false, true_and, and_true, Bool.not_eq_true, Bool.true_eq_false, reduceCtorEq]
    by_cases k1 : kind = 1
    · subst k1; simp only [Bool.not_true, Bool.not_false, cond_true, cond_false, Bool.true_and, Bool.false_and, Bool.and_true, Bool.and_false, Bool.false_eq_true, Bool.true_or, Bool.or_true, Bool.false_or, Bool.or_false, Bool.or_self, Bool.and_self, decide_true, decide_false, if_true, if_false, not_true, not_false_eq_true, not_true_eq_false, false_or, or_false, true_and, and_true, Bool.not_eq_true, Bool.true_eq_false, reduceCtorEq]; exact key _ _ _ _
    · simp only [k1, Bool.not_true, Bool.not_false, cond_true, cond_false, Bool.true_and, Bool.false_and, Bool.and_true, Bool.and_false, Bool.false_eq_true, Bool.true_or, Bool.or_true, Bool.false_or, Bool.or_false, Bool.or_self, Bool.and_self, decide_true, decide_false, if_true, if_false, not_true, not_false_eq_true, not_true_eq_false, false_or, or_false, true_and, and_true, Bool.not_eq_true, Bool.true_eq_false, reduceCtorEq]
      by_cases k2 : kind = 2
      · subst k2; simp only [Bool.not_true, Bool.not_false, cond_true, cond_false, Bool.true_and, Bool.false_and, Bool.and_true, Bool.and_false, Bool.false_eq_true, Bool.true_or, Bool.or_true, Bool.false_or, Bool.or_false, Bool.or_self, Bool.and_self, decide_true, decide_false, if_true, if_false, not_true, not_false_eq_true, not_true_eq_false, false_or, or_false, true_and, and_true, Bool.not_eq_true, Bool.true_eq_false, reduceCtorEq]
        rw [app_ok (by simp; omega)]; simp only [Option.bind_some]
        exact key _ _ _ _
      · simp only [k2, Bool.not_true, Bool.not_false, cond_true, cond_false, Bool.true_and, Bool.false_and, Bool.and_true, Bool.and_false, Bool.false_eq_true, Bool.true_or, Bool.or_true, Bool.false_or, Bool.or_false, Bool.or_self, Bool.and_self, decide_true, decide_false, if_true, if_false, not_true, not_false_eq_true, not_true_eq_false, false_or, or_false, true_and, and_true, Bool.not_eq_true, Bool.true_eq_false, reduceCtorEq]
        rw [w64_id (by omega), implIn_eq]; simp only [Option.bind_some]
        by_cases hr : inB carpet 0 ((cs.length : Int) - 1) = true
        · have hr' := inB_iff.1 hr
          obtain ⟨hg, hl⟩ := atC_get hr
          have hcarp := (rowsB_iff.1 a5 _ _ hg).1
          unfold carpB at hcarp
          simp only [Bool.and_eq_true, inB_iff] at hcarp
          simp only [hr, Bool.not_true, Bool.not_false, cond_true, cond_false, Bool.true_and, Bool.false_and, Bool.and_true, Bool.and_false, Bool.false_eq_true, Bool.true_or, Bool.or_true, Bool.false_or, Bool.or_false, Bool.or_self, Bool.and_self, decide_true, decide_false, if_true, if_false, not_true, not_false_eq_true, not_true_eq_false, false_or, or_false, true_and, and_true, Bool.not_eq_true, Bool.true_eq_false, reduceCtorEq]
          rw [chk_int (by omega)]; simp only [Option.bind_some]
          have hrd : cs.getD carpet.toNat (0, 0, 0, 0, 0) = rdC cs carpet := rfl
          rw [hrd, can_eq (k + 1) (rdC cs carpet) (by omega) (by omega) a1 (by omega) (by omega) (by omega)]; simp only [Option.bind_some]
          by_cases hc : canI day cs (rdC cs carpet) kind value = true
          · simp only [hc, Bool.not_true, Bool.not_false, cond_true, cond_false, Bool.true_and, Bool.false_and, Bool.and_true, Bool.and_false, Bool.false_eq_true, Bool.true_or, Bool.or_true, Bool.false_or, Bool.or_false, Bool.or_self, Bool.and_self, decide_true, decide_false, if_true, if_false, not_true, not_false_eq_true, not_true_eq_false, false_or, or_false, true_and, and_true, Bool.not_eq_true, Bool.true_eq_false, reduceCtorEq]
            rw [change_eq (k + 1) hr hv k1 k2]; simp only [Option.bind_some]
            rw [key]
          · simp only [notB hc, Bool.not_true, Bool.not_false, cond_true, cond_false, Bool.true_and, Bool.false_and, Bool.and_true, Bool.and_false, Bool.false_eq_true, Bool.true_or, Bool.or_true, Bool.false_or, Bool.or_false, Bool.or_self, Bool.and_self, decide_true, decide_false, if_true, if_false, not_true, not_false_eq_true, not_true_eq_false, false_or, or_false, true_and, and_true, Bool.not_eq_true, Bool.true_eq_false, reduceCtorEq]; rfl
        · simp only [notB hr, Bool.not_true, Bool.not_false, cond_true, cond_false, Bool.true_and, Bool.false_and, Bool.and_true, Bool.and_false, Bool.false_eq_true, Bool.true_or, Bool.or_true, Bool.false_or, Bool.or_false, Bool.or_self, Bool.and_self, decide_true, decide_false, if_true, if_false, not_true, not_false_eq_true, not_true_eq_false, false_or, or_false, true_and, and_true, Bool.not_eq_true, Bool.true_eq_false, reduceCtorEq]; rfl
  · simp only [notB hv, Bool.not_true, Bool.not_false, cond_true, cond_false, Bool.true_and, Bool.false_and, Bool.and_true, Bool.and_false, Bool.false_eq_true, Bool.true_or, Bool.or_true, Bool.false_or, Bool.or_false, Bool.or_self, Bool.and_self, decide_true, decide_false, if_true, if_false, not_true, not_false_eq_true, not_true_eq_false, false_or, or_false, true_and, and_true, Bool.not_eq_true, Bool.true_eq_false, reduceCtorEq]; rfl
theorem okStep_eq (k : Nat) {looms : Int} (day money kind carpet value : Int) (cs : List C5) (hl : cs.length ≤ 1000) : spec_l25Step.f k day looms cs money kind carpet value = some (okStepS looms cs.length kind carpet value) := by
  unfold spec_l25Step.f spec_l25Step.m okStepS
  rw [w64_id (by omega)]
  simp only [specIn_eq, Option.bind_some]
  by_cases k1 : kind = 1
  · subst k1; by_cases h : carpet = 0 <;> simp [h]
  · by_cases k2 : kind = 2
    · subst k2; by_cases h : carpet = 0 <;> simp [h]
    · rw [if_neg k1, if_neg k1, if_neg k2, if_neg k2]
      cases hr : inB carpet 0 ((cs.length : Int) - 1)
      · simp
      · by_cases k3 : kind = 3
        · subst k3; simp
        · by_cases k4 : kind = 4
          · subst k4; simp
          · by_cases k7 : kind = 7
            · subst k7; simp
            · by_cases k5 : kind = 5
              · subst k5; simp
              · by_cases k6 : kind = 6
                · subst k6; simp
                · simp [k3, k4, k5, k6, k7]
theorem chS_eq (k : Nat) (c : C5) {day kind value : Int} (carpet : Int) (hd : 0 ≤ day ∧ day ≤ 4000) (hc4 : 0 ≤ c.2.2.2.2 ∧ c.2.2.2.2 ≤ 4000) (hkk : kind = 3 ∨ kind = 4 ∨ kind = 5 ∨ kind = 6 ∨ kind = 7) : spec_l25Change.f k c.1 c.2.1 c.2.2.1 c.2.2.2.1 c.2.2.2.2 kind carpet value day = some ((chR c kind value day).1, (chR c kind value day).2.1, (chR c kind value day).2.2.1, (chR c kind value day).2.2.2.1, (chR c kind value day).2.2.2.2, chOk c kind day) := by
  unfold spec_l25Change.f spec_l25Change.m chR chOk
  rw [w64_id (x := day - c.2.2.2.2) (by omega)]
  rcases hkk with rfl | rfl | rfl | rfl | rfl
  · simp
  · by_cases e : c.2.2.1 = 1 <;> simp [e]
  · simp
  · simp
  · by_cases e : c.2.2.1 = 3 <;> simp [e]
theorem specOwn_eq (k : Nat) (day looms money : Int) (cs : List C5) (hl : cs.length ≤ 4194304) : spec_l25Own.f k day looms cs money = some (day, looms, cs, money) := by
  unfold spec_l25Own.f spec_l25Own.m; rw [app_ok (by simp; omega)]; rfl
theorem kinds_of {looms : Int} {n : Nat} {kind carpet value : Int} (h : okStepS looms n kind carpet value = true) (k1 : ¬ kind = 1) (k2 : ¬ kind = 2) : inB carpet 0 ((n : Int) - 1) = true ∧ (kind = 3 ∨ kind = 4 ∨ kind = 5 ∨ kind = 6 ∨ kind = 7) := by
  unfold okStepS at h
  rw [if_neg k1, if_neg k2, Bool.and_eq_true] at h
  refine ⟨h.1, ?_⟩
  have h := h.2
  by_cases k3 : kind = 3
  · exact .inl k3
  · by_cases k4 : kind = 4
    · exact .inr (.inl k4)
    · by_cases k7 : kind = 7
      · exact .inr (.inr (.inr (.inr k7)))
      · rw [if_neg k3, if_neg k4, if_neg k7] at h; simp at h; omega
theorem specMake_eq (k : Nat) {day looms money kind carpet value : Int} {cs : List C5} (hs : shopB day looms cs money = true) (hok : okStepS looms cs.length kind carpet value = true) (hk : 2000 ≤ k) : ∃ (d l m : Int) (c : List C5) (b : Bool), spec_l25Make.f k day looms cs money kind carpet value = some (d, l, c, m, b) ∧ makeS day looms cs money kind carpet value = (if b = true then some (d, l, c, m) else none) := by
  obtain ⟨a1, a2, a3, a4, a5⟩ := shopB_of hs
  obtain ⟨k, rfl⟩ := succ_of (show 0 < k by omega)
  unfold spec_l25Make.f spec_l25Make.m makeS
  rw [specOwn_eq _ _ _ _ cs (by omega)]; simp only [Option.bind_some]
  by_cases k1 : kind = 1
  · subst k1
    rw [if_pos rfl, if_pos rfl, w64_id (x := 4000 - day) (by omega)]
    unfold okStepS at hok; rw [if_pos rfl] at hok; simp at hok
    by_cases e : 4000 - day < value
    · rw [if_pos e]; refine ⟨_, _, _, _, _, rfl, ?_⟩; simp [keepIf, e]
    · rw [if_neg e, w64_id (by omega)]; refine ⟨_, _, _, _, _, rfl, ?_⟩; simp [keepIf, e]
  · rw [if_neg k1, if_neg k1]
    by_cases k2 : kind = 2
    · subst k2
      rw [if_pos rfl, if_pos rfl, app_ok (by simp; omega)]; simp only [Option.bind_some]
      rw [good_eq (k + 1) _ _ _ _ (by omega)]; simp only [Option.bind_some]
      refine ⟨_, _, _, _, _, rfl, ?_⟩; unfold keepIf newC; rfl
    · obtain ⟨hr, hkk⟩ := kinds_of hok k1 k2
      have hr' := inB_iff.1 hr
      obtain ⟨hg, hl⟩ := atC_get hr
      have hcarp := (rowsB_iff.1 a5 _ _ hg).1
      unfold carpB at hcarp
      simp only [Bool.and_eq_true, inB_iff] at hcarp
      have hv7 : kind = 7 → value ≥ 1 := by
        intro e; subst e; unfold okStepS at hok; rw [if_neg (by omega), if_neg (by omega), Bool.and_eq_true, if_neg (by omega), if_neg (by omega), if_pos rfl] at hok; simpa using hok.2
      rw [if_neg k2, if_neg k2]
      have hrd : cs.getD carpet.toNat (0, 0, 0, 0, 0) = rdC cs carpet := rfl
      have join : ∀ m : Int, spec_l25Make.l2 (k + 1) day looms cs money kind carpet value 0 0 [] 0 day looms cs m = some (day, looms, cs.set carpet.toNat (chR (rdC cs carpet) kind value day), m, chOk (rdC cs carpet) kind day && shopB day looms (cs.set carpet.toNat (chR (rdC cs carpet) kind value day)) m) := fun m => by
        simp only [spec_l25Make.l2, spec_l25Make.b2]
        rw [chk_int (by omega)]; simp only [Option.bind_some]
        rw [hrd, chS_eq k (rdC cs carpet) carpet a1 (by omega) hkk]; simp only [Option.bind_some, upd_of]
        rw [show ((chR (rdC cs carpet) kind value day).1, (chR (rdC cs carpet) kind value day).2.1, (chR (rdC cs carpet) kind value day).2.2.1, (chR (rdC cs carpet) kind value day).2.2.2.1, (chR (rdC cs carpet) kind value day).2.2.2.2) = chR (rdC cs carpet) kind value day from rfl]
        cases hc : chOk (rdC cs carpet) kind day
        · simp only [Bool.not_true, Bool.not_false, cond_true, cond_false, Bool.true_and, Bool.false_and, Bool.and_true, Bool.and_false, Bool.false_eq_true, Bool.true_or, Bool.or_true, Bool.false_or, Bool.or_false, Bool.or_self, Bool.and_self, decide_true, decide_false, if_true, if_false, not_true, not_false_eq_true, not_true_eq_false, false_or, or_false, true_and, and_true, Bool.not_eq_true, Bool.true_eq_false, reduceCtorEq]
        · simp only [Bool.not_true, Bool.not_false, cond_true, cond_false, Bool.true_and, Bool.false_and, Bool.and_true, Bool.and_false, Bool.false_eq_true, Bool.true_or, Bool.or_true, Bool.false_or, Bool.or_false, Bool.or_self, Bool.and_self, decide_true, decide_false, if_true, if_false, not_true, not_false_eq_true, not_true_eq_false, false_or, or_false, true_and, and_true, Bool.not_eq_true, Bool.true_eq_false, reduceCtorEq]; rw [good_eq k _ _ _ _ (by omega)]; simp only [Option.bind_some]
      by_cases k7 : kind = 7
      · rw [if_pos k7, w64_id (x := 1000000 - money) (by omega)]
        by_cases e : 1000000 - money < value
        · rw [if_pos e]; refine ⟨_, _, _, _, _, rfl, ?_⟩; simp [keepIf, k7, e]
        · rw [if_neg e]
          have h7 := hv7 k7
          rw [w64_id (x := money + value) (by omega), join]
          refine ⟨_, _, _, _, _, rfl, ?_⟩; unfold keepIf; simp [k7, e]
      · rw [if_neg k7, join]
        refine ⟨_, _, _, _, _, rfl, ?_⟩; unfold keepIf; simp [k7]
abbrev X3 := Int × Int × Int
theorem wf_bd {x : Int} (h : (Lit.int .i64 x).wf = true) : -9223372036854775808 ≤ x ∧ x ≤ 9223372036854775807 := by
  unfold Lit.wf at h; rw [Bool.and_eq_true] at h
  have h1 := of_decide_eq_true h.1; have h2 := of_decide_eq_true h.2
  exact ⟨h1, h2⟩
def runR : List X3 → Int → Int → List C5 → Int → Int → Int × Int × List C5 × Int × Int
  | [], d, l, c, m, n => (d, l, c, m, n)
  | x :: xs, d, l, c, m, n => match stepS d l c m x.1 x.2.1 x.2.2 with | some (d', l', c', m') => runR xs d' l' c' m' (n + 1) | none => runR xs d l c m n
def runO (r : Int × Int × List C5 × Int × Int) : Int × Int × List C5 × Int × Int × Bool := (r.1, r.2.1, r.2.2.1, r.2.2.2.1, r.2.2.2.2, true)
def okX (l : List X3) : Prop := ∀ x ∈ l, -9223372036854775808 ≤ x.2.2 ∧ x.2.2 ≤ 9223372036854775807
theorem runR_good : ∀ (xs : List X3) {d l m : Int} {c : List C5} (n : Int), okX xs → shopB d l c m = true → shopB (runR xs d l c m n).1 (runR xs d l c m n).2.1 (runR xs d l c m n).2.2.1 (runR xs d l c m n).2.2.2.1 = true := by
  intro xs
  induction xs with
  | nil => intro d l m c n _ hs; exact hs
  | cons x xs ih =>
    intro d l m c n ho hs
    have ho' : okX xs := fun y hy => ho y (List.mem_cons_of_mem _ hy)
    simp only [runR]
    cases h : stepS d l c m x.1 x.2.1 x.2.2 with
    | none => exact ih n ho' hs
    | some r => obtain ⟨d', l', c', m'⟩ := r; exact ih (n + 1) ho' (stepS_good hs (ho x List.mem_cons_self) h)
theorem runR_len (xs : List X3) {d l m : Int} {c : List C5} (n : Int) (ho : okX xs) (hs : shopB d l c m = true) : (runR xs d l c m n).2.2.1.length ≤ 8 := (shopB_of (runR_good xs n ho hs)).2.2.2.1
theorem implRun_l {steps : List X3} (hst : okX steps) (hl : steps.length ≤ 40) : ∀ (e K i : Nat) (d l m n : Int) (c : List C5), i + e = steps.length → shopB d l c m = true → 0 ≤ n → n + e ≤ 1000 → 3000 + e ≤ K → impl_RunShop.l7 K 0 0 [] 0 d l c m n steps steps.length (i : Int) = some (runO (runR (steps.drop i) d l c m n)) := by
  intro e
  induction e with
  | zero =>
    intro K i d l m n c h1 hs h2 h3 h4
    obtain ⟨K, rfl⟩ := succ_of (show 0 < K by omega)
    simp (disch := omega) only [impl_RunShop.l7, impl_RunShop.b7, if_neg]; rw [List.drop_of_length_le (by omega)]; rfl
  | succ e ih =>
    intro K i d l m n c h1 hs h2 h3 h4
    obtain ⟨K, rfl⟩ := succ_of (show 0 < K by omega)
    have hi : i < steps.length := by omega
    have hd : steps.drop i = steps[i] :: steps.drop (i + 1) := List.drop_eq_getElem_cons hi
    have hx := hst _ (List.getElem_mem hi)
    simp (disch := omega) only [impl_RunShop.l7, impl_RunShop.b7, if_pos, chk_nat, Option.bind_some, getD_lt hi, implStep_eq K hs, w64_id]
    rw [step_eq hs hx, hd]; simp only [runR]
    rw [show ((i : Int) + 1) = ((i + 1 : Nat) : Int) by omega]
    cases h : stepS d l c m steps[i].1 steps[i].2.1 steps[i].2.2 with
    | none => simp only [outR, Bool.not_true, Bool.not_false, cond_true, cond_false, Bool.true_and, Bool.false_and, Bool.and_true, Bool.and_false, Bool.false_eq_true, Bool.true_or, Bool.or_true, Bool.false_or, Bool.or_false, Bool.or_self, Bool.and_self, decide_true, decide_false, if_true, if_false, not_true, not_false_eq_true, not_true_eq_false, false_or, or_false, true_and, and_true, Bool.not_eq_true, Bool.true_eq_false, reduceCtorEq]; exact ih K (i + 1) d l m n c (by omega) hs h2 (by omega) (by omega)
    | some r =>
      obtain ⟨d', l', c', m'⟩ := r
      simp only [outR, Bool.not_true, Bool.not_false, cond_true, cond_false, Bool.true_and, Bool.false_and, Bool.and_true, Bool.and_false, Bool.false_eq_true, Bool.true_or, Bool.or_true, Bool.false_or, Bool.or_false, Bool.or_self, Bool.and_self, decide_true, decide_false, if_true, if_false, not_true, not_false_eq_true, not_true_eq_false, false_or, or_false, true_and, and_true, Bool.not_eq_true, Bool.true_eq_false, reduceCtorEq]
      exact ih K (i + 1) d' l' m' (n + 1) c' (by omega) (stepS_good hs hx h) (by omega) (by omega) (by omega)
theorem specRun_l {steps : List X3} (hst : okX steps) (hl : steps.length ≤ 40) : ∀ (e K i : Nat) (d l m n : Int) (c : List C5), i + e = steps.length → shopB d l c m = true → 0 ≤ n → n + e ≤ 1000 → 3000 + e ≤ K → spec_RunShop.l7 K steps 0 0 [] 0 d l c m n (i : Int) = some (runO (runR (steps.drop i) d l c m n)) := by
  intro e
  induction e with
  | zero =>
    intro K i d l m n c h1 hs h2 h3 h4
    obtain ⟨K, rfl⟩ := succ_of (show 0 < K by omega)
    simp (disch := omega) only [spec_RunShop.l7, spec_RunShop.b7, if_neg]; rw [List.drop_of_length_le (by omega)]; rfl
  | succ e ih =>
    intro K i d l m n c h1 hs h2 h3 h4
    obtain ⟨K, rfl⟩ := succ_of (show 0 < K by omega)
    have hi : i < steps.length := by omega
    have hd : steps.drop i = steps[i] :: steps.drop (i + 1) := List.drop_eq_getElem_cons hi
    have hx := hst _ (List.getElem_mem hi)
    have a4 := (shopB_of hs).2.2.2.1
    simp (disch := omega) only [spec_RunShop.l7, spec_RunShop.b7, if_pos, chk_nat, Option.bind_some, getD_lt hi, okStep_eq, w64_id]
    rw [hd]; simp only [runR]
    rw [show ((i : Int) + 1) = ((i + 1 : Nat) : Int) by omega]
    have hno := ih K (i + 1) d l m n c (by omega) hs h2 (by omega) (by omega)
    have hdef : stepS d l c m steps[i].1 steps[i].2.1 steps[i].2.2 = if okStepS l c.length steps[i].1 steps[i].2.1 steps[i].2.2 = true then makeS d l c m steps[i].1 steps[i].2.1 steps[i].2.2 else none := rfl
    cases hok : okStepS l c.length steps[i].1 steps[i].2.1 steps[i].2.2 with
    | false => rw [hdef, hok]; simp only [Bool.not_true, Bool.not_false, cond_true, cond_false, Bool.true_and, Bool.false_and, Bool.and_true, Bool.and_false, Bool.false_eq_true, Bool.true_or, Bool.or_true, Bool.false_or, Bool.or_false, Bool.or_self, Bool.and_self, decide_true, decide_false, if_true, if_false, not_true, not_false_eq_true, not_true_eq_false, false_or, or_false, true_and, and_true, Bool.not_eq_true, Bool.true_eq_false, reduceCtorEq]; exact hno
    | true =>
      rw [hok, if_pos rfl] at hdef
      obtain ⟨d', l', m', c', b, e1, e2⟩ := specMake_eq K hs hok (by omega)
      simp only [Bool.not_true, Bool.not_false, cond_true, cond_false, Bool.true_and, Bool.false_and, Bool.and_true, Bool.and_false, Bool.false_eq_true, Bool.true_or, Bool.or_true, Bool.false_or, Bool.or_false, Bool.or_self, Bool.and_self, decide_true, decide_false, if_true, if_false, not_true, not_false_eq_true, not_true_eq_false, false_or, or_false, true_and, and_true, Bool.not_eq_true, Bool.true_eq_false, reduceCtorEq]
      rw [e1, hdef, e2]; simp only [Option.bind_some]
      cases b with
      | false => simp only [Bool.not_true, Bool.not_false, cond_true, cond_false, Bool.true_and, Bool.false_and, Bool.and_true, Bool.and_false, Bool.false_eq_true, Bool.true_or, Bool.or_true, Bool.false_or, Bool.or_false, Bool.or_self, Bool.and_self, decide_true, decide_false, if_true, if_false, not_true, not_false_eq_true, not_true_eq_false, false_or, or_false, true_and, and_true, Bool.not_eq_true, Bool.true_eq_false, reduceCtorEq]; exact hno
      | true =>
        have h' : stepS d l c m steps[i].1 steps[i].2.1 steps[i].2.2 = some (d', l', c', m') := by rw [hdef, e2]; rfl
        simp only [Bool.not_true, Bool.not_false, cond_true, cond_false, Bool.true_and, Bool.false_and, Bool.and_true, Bool.and_false, Bool.false_eq_true, Bool.true_or, Bool.or_true, Bool.false_or, Bool.or_false, Bool.or_self, Bool.and_self, decide_true, decide_false, if_true, if_false, not_true, not_false_eq_true, not_true_eq_false, false_or, or_false, true_and, and_true, Bool.not_eq_true, Bool.true_eq_false, reduceCtorEq]
        exact ih K (i + 1) d' l' m' (n + 1) c' (by omega) (stepS_good hs hx h') (by omega) (by omega) (by omega)
theorem run_both (day looms : Int) (cs : List C5) (money : Int) (steps : List X3) (hst : okX steps) : (shopB day looms cs money = true ∧ steps.length ≤ 40 ∧ (∀ k, 5000 ≤ k → spec_RunShop.f k day looms cs money steps = some (runO (runR steps day looms cs money 0))) ∧ (∀ k, 5000 ≤ k → impl_RunShop.f k day looms cs money steps = some (runO (runR steps day looms cs money 0)))) ∨ ((∀ k, 5000 ≤ k → spec_RunShop.f k day looms cs money steps = some (0, 0, [], 0, 0, false)) ∧ (∀ k, 5000 ≤ k → impl_RunShop.f k day looms cs money steps = some (0, 0, [], 0, 0, false))) := by
  have hS : ∀ k, 5000 ≤ k → spec_l25Good.f k day looms cs money = some (shopB day looms cs money) := fun k hk => good_eq k _ _ _ _ (by omega)
  have hI : ∀ k, 5000 ≤ k → impl_IsShop.f k day looms cs money = some (shopB day looms cs money) := fun k hk => isShop_eq k _ _ _ _ (by omega)
  by_cases hs : shopB day looms cs money = true
  · have a4 := (shopB_of hs).2.2.2.1
    by_cases h40 : steps.length ≤ 40
    · refine .inl ⟨hs, h40, fun k hk => ?_, fun k hk => ?_⟩
      · unfold spec_RunShop.f spec_RunShop.m; rw [hS k hk, hs]
        simp (disch := omega) only [Option.bind_some, Bool.not_true, Bool.not_false, cond_true, cond_false, Bool.true_and, Bool.false_and, Bool.and_true, Bool.and_false, Bool.false_eq_true, Bool.true_or, Bool.or_true, Bool.false_or, Bool.or_false, Bool.or_self, Bool.and_self, decide_true, decide_false, if_true, if_false, not_true, not_false_eq_true, not_true_eq_false, false_or, or_false, true_and, and_true, Bool.not_eq_true, Bool.true_eq_false, reduceCtorEq, if_neg, specOwn_eq]
        exact specRun_l hst h40 steps.length k 0 _ _ _ 0 _ (by omega) hs (by omega) (by omega) (by omega)
      · unfold impl_RunShop.f impl_RunShop.m impl_Shop_copied.f impl_Shop_copied.m; rw [hI k hk, hs]
        simp (disch := omega) only [Option.bind_some, Bool.not_true, Bool.not_false, cond_true, cond_false, Bool.true_and, Bool.false_and, Bool.and_true, Bool.and_false, Bool.false_eq_true, Bool.true_or, Bool.or_true, Bool.false_or, Bool.or_false, Bool.or_self, Bool.and_self, decide_true, decide_false, if_true, if_false, not_true, not_false_eq_true, not_true_eq_false, false_or, or_false, true_and, and_true, Bool.not_eq_true, Bool.true_eq_false, reduceCtorEq, if_neg, clone_eq]
        exact implRun_l hst h40 steps.length k 0 _ _ _ 0 _ (by omega) hs (by omega) (by omega) (by omega)
    · refine .inr ⟨fun k hk => ?_, fun k hk => ?_⟩
      · unfold spec_RunShop.f spec_RunShop.m; rw [hS k hk, hs]
        simp (disch := omega) only [Option.bind_some, Bool.not_true, Bool.not_false, cond_true, cond_false, Bool.true_and, Bool.false_and, Bool.and_true, Bool.and_false, Bool.false_eq_true, Bool.true_or, Bool.or_true, Bool.false_or, Bool.or_false, Bool.or_self, Bool.and_self, decide_true, decide_false, if_true, if_false, not_true, not_false_eq_true, not_true_eq_false, false_or, or_false, true_and, and_true, Bool.not_eq_true, Bool.true_eq_false, reduceCtorEq, if_pos]
      · unfold impl_RunShop.f impl_RunShop.m; rw [hI k hk, hs]
        simp (disch := omega) only [Option.bind_some, Bool.not_true, Bool.not_false, cond_true, cond_false, Bool.true_and, Bool.false_and, Bool.and_true, Bool.and_false, Bool.false_eq_true, Bool.true_or, Bool.or_true, Bool.false_or, Bool.or_false, Bool.or_self, Bool.and_self, decide_true, decide_false, if_true, if_false, not_true, not_false_eq_true, not_true_eq_false, false_or, or_false, true_and, and_true, Bool.not_eq_true, Bool.true_eq_false, reduceCtorEq, if_pos]
  · refine .inr ⟨fun k hk => ?_, fun k hk => ?_⟩
    · unfold spec_RunShop.f spec_RunShop.m; rw [hS k hk, notB hs]; rfl
    · unfold impl_RunShop.f impl_RunShop.m; rw [hI k hk, notB hs]; rfl
theorem implStepShop_eq (k : Nat) {day looms money kind carpet value : Int} {cs : List C5} (hs : shopB day looms cs money = true) (hv : -9223372036854775808 ≤ value ∧ value ≤ 9223372036854775807) (hk : 3000 ≤ k) : impl_StepShop.f k day looms cs money kind carpet value = some (outR (stepS day looms cs money kind carpet value)) := by
  unfold impl_StepShop.f impl_StepShop.m
  rw [isShop_eq k _ _ _ cs (by omega), hs]; simp only [Option.bind_some, Bool.not_true, Bool.not_false, cond_true, cond_false, Bool.true_and, Bool.false_and, Bool.and_true, Bool.and_false, Bool.false_eq_true, Bool.true_or, Bool.or_true, Bool.false_or, Bool.or_false, Bool.or_self, Bool.and_self, decide_true, decide_false, if_true, if_false, not_true, not_false_eq_true, not_true_eq_false, false_or, or_false, true_and, and_true, Bool.not_eq_true, Bool.true_eq_false, reduceCtorEq]
  rw [implStep_eq k hs (by omega), step_eq hs hv]; rfl
theorem specStepShop_eq (k : Nat) {day looms money kind carpet value : Int} {cs : List C5} (hl : cs.length ≤ 1000) (hk : 3000 ≤ k) : spec_StepShop.f k day looms cs money kind carpet value = some (if shopB day looms cs money = true then outR (stepS day looms cs money kind carpet value) else (0, 0, [], 0, false)) := by
  unfold spec_StepShop.f spec_StepShop.m
  rw [good_eq k _ _ _ _ (by omega)]; simp only [Option.bind_some]
  by_cases hs : shopB day looms cs money = true
  · simp only [hs, Bool.not_true, Bool.not_false, cond_true, cond_false, Bool.true_and, Bool.false_and, Bool.and_true, Bool.and_false, Bool.false_eq_true, Bool.true_or, Bool.or_true, Bool.false_or, Bool.or_false, Bool.or_self, Bool.and_self, decide_true, decide_false, if_true, if_false, not_true, not_false_eq_true, not_true_eq_false, false_or, or_false, true_and, and_true, Bool.not_eq_true, Bool.true_eq_false, reduceCtorEq]
    rw [okStep_eq k _ _ _ _ _ _ hl]; simp only [Option.bind_some]
    by_cases hok : okStepS looms cs.length kind carpet value = true
    · obtain ⟨d', l', m', c', b, e1, e2⟩ := specMake_eq k hs hok (by omega)
      have hdef : stepS day looms cs money kind carpet value = makeS day looms cs money kind carpet value := by unfold stepS; rw [if_pos hok]
      rw [e1, hdef, e2, hok]
      cases b <;> rfl
    · have hdef : stepS day looms cs money kind carpet value = none := by unfold stepS; rw [if_neg hok]
      rw [hdef, notB hok]; rfl
  · rw [notB hs]; rfl
theorem most_ok (k : Nat) (a b : Int) : Yl (spec_l1Most.f k a b) fun r => a ≤ r ∧ b ≤ r ∧ (r = a ∨ r = b) := by
  unfold spec_l1Most.f spec_l1Most.m
  exact Yl.ite (fun h => Yl.ret ⟨by omega, by omega, by omega⟩) fun h => Yl.ret ⟨by omega, by omega, by omega⟩
theorem least_ok (k : Nat) (a b : Int) : Yl (spec_l1Least.f k a b) fun r => r ≤ a ∧ r ≤ b ∧ (r = a ∨ r = b) := by
  unfold spec_l1Least.f spec_l1Least.m
  exact Yl.ite (fun h => Yl.ret ⟨by omega, by omega, by omega⟩) fun h => Yl.ret ⟨by omega, by omega, by omega⟩
theorem spec_l1Cur_shopStep_24 (k : Nat) {l : List Int} {a : Int} (s d lo m : Int) (cs : List C5) (c kind left : Int) (hb : By l) (h : 0 ≤ a ∧ a ≤ 100000000000) (hc : 0 ≤ c ∧ c ≤ 65535) (hlo : -1000 ≤ lo ∧ lo ≤ 1000) (hleft : 1 ≤ left ∧ left ≤ 20) (hk : 10 ≤ k) : Yl (spec_l1Cur_shopStep_2.l4 k l a s d lo cs m d lo m 0 0 0 c kind left) fun r => r.2.2.2.1 = l ∧ r.2.2.2.2.2.2 = cs ∧ (a ≤ r.2.2.2.2.1 ∧ r.2.2.2.2.1 ≤ a + 20 ∧ -3000000 ≤ r.2.2.1 ∧ r.2.2.1 ≤ 3000000) := by
  obtain ⟨k, rfl⟩ := succ_of (show 0 < k by omega)
  simp only [spec_l1Cur_shopStep_2.l4, spec_l1Cur_shopStep_2.b4]
  (refine Yl.bind (one_ok _ _ _ (by assumption) (by omega) (by omega)) ?_; rintro ⟨vq, lq, aq, sq⟩ ⟨eq1, eq2, eq3⟩; dsimp only at *; subst eq1)
  refine Yl.cond (fun _ => ?_) fun _ => ?_
  · (refine Yl.bind (among_ok _ _ 0 8 (by simp) (by intro x hx; simp at hx; omega) (by assumption) (by omega) (by omega)) ?_; rintro ⟨vq, lq, aq, sq, xq⟩ ⟨eq1, eq2, eq3, eq4, eq5, eq6⟩; dsimp only at *; subst eq1; subst eq2)
    (refine Yl.bind (among_ok _ _ (-1) 65535 (by simp) (by intro x hx; simp at hx; omega) (by assumption) (by omega) (by omega)) ?_; rintro ⟨vq, lq, aq, sq, xq⟩ ⟨eq1, eq2, eq3, eq4, eq5, eq6⟩; dsimp only at *; subst eq1; subst eq2)
    (refine Yl.bind (among_ok _ _ 0 1 (by simp) (by intro x hx; simp at hx; omega) (by assumption) (by omega) (by omega)) ?_; rintro ⟨vq, lq, aq, sq, xq⟩ ⟨eq1, eq2, eq3, eq4, eq5, eq6⟩; dsimp only at *; subst eq1; subst eq2)
    exact Yl.ret ⟨rfl, rfl, by dsimp only; omega⟩
  · refine Yl.ite (fun _ => ?_) fun _ => ?_
    · (refine Yl.bind (among_ok _ _ 0 4001 (by simp) (by intro x hx; simp at hx; omega) (by assumption) (by omega) (by omega)) ?_; rintro ⟨vq, lq, aq, sq, xq⟩ ⟨eq1, eq2, eq3, eq4, eq5, eq6⟩; dsimp only at *; subst eq1; subst eq2)
      exact Yl.ret ⟨rfl, rfl, by dsimp only; omega⟩
    · refine Yl.ite (fun _ => ?_) fun _ => ?_
      · (refine Yl.bind (among_ok _ _ 1 501 (by simp) (by intro x hx; simp at hx; omega) (by assumption) (by omega) (by omega)) ?_; rintro ⟨vq, lq, aq, sq, xq⟩ ⟨eq1, eq2, eq3, eq4, eq5, eq6⟩; dsimp only at *; subst eq1; subst eq2)
        exact Yl.ret ⟨rfl, rfl, by dsimp only; omega⟩
      · refine Yl.ite (fun _ => ?_) fun _ => ?_
        · refine Yl.bind (most_ok _ _ _) ?_
          rintro r ⟨r1, r2, r3⟩
          rw [w64_id (by omega)]
          (refine Yl.bind (pick_ok _ _ _ (by assumption) (by omega) (by omega)) ?_; rintro ⟨vq, lq, aq, sq⟩ ⟨eq1, eq2, eq3, eq4, eq5, eq6⟩; dsimp only at *; subst eq1)
          rw [w64_id (by omega)]
          exact Yl.ret ⟨rfl, rfl, by dsimp only; omega⟩
        · refine Yl.ite (fun _ => ?_) fun _ => ?_
          · (refine Yl.bind (among_ok _ _ 1 21 (by simp) (by intro x hx; simp at hx; omega) (by assumption) (by omega) (by omega)) ?_; rintro ⟨vq, lq, aq, sq, xq⟩ ⟨eq1, eq2, eq3, eq4, eq5, eq6⟩; dsimp only at *; subst eq1; subst eq2)
            exact Yl.ret ⟨rfl, rfl, by dsimp only; omega⟩
          · refine Yl.ite (fun _ => ?_) fun _ => ?_
            · (refine Yl.bind (among_ok _ _ 0 1000000 (by simp) (by intro x hx; simp at hx; omega) (by assumption) (by omega) (by omega)) ?_; rintro ⟨vq, lq, aq, sq, xq⟩ ⟨eq1, eq2, eq3, eq4, eq5, eq6⟩; dsimp only at *; subst eq1; subst eq2)
              exact Yl.ret ⟨rfl, rfl, by dsimp only; omega⟩
            · exact Yl.ret ⟨rfl, rfl, by dsimp only; omega⟩
theorem spec_l1Cur_shopStep_2_ok (k : Nat) {l : List Int} {a : Int} (s d lo m : Int) (cs : List C5) (hb : By l) (h : 0 ≤ a ∧ a ≤ 10000000000) (hcs : cs.length ≤ 100) (hlo : -1000 ≤ lo ∧ lo ≤ 1000) (hk : 20 ≤ k) : Yl (spec_l1Cur_shopStep_2.f k l a s d lo cs m) fun r => r.2.2.2.1 = l ∧ r.2.2.2.2.2.2 = cs ∧ (a ≤ r.2.2.2.2.1 ∧ r.2.2.2.2.1 ≤ a + 40 ∧ -3000000 ≤ r.2.2.1 ∧ r.2.2.1 ≤ 3000000) := by
  unfold spec_l1Cur_shopStep_2.f spec_l1Cur_shopStep_2.m
  refine Yl.bind (most_ok _ _ _) ?_
  rintro r ⟨r1, r2, r3⟩
  (refine Yl.bind (pick_ok _ _ _ (by assumption) (by omega) (by omega)) ?_; rintro ⟨vq, lq, aq, sq⟩ ⟨eq1, eq2, eq3, eq4, eq5, eq6⟩; dsimp only at *; subst eq1)
  (refine Yl.bind (among_ok _ _ 1 7 (by simp) (by intro x hx; simp at hx; omega) (by assumption) (by omega) (by omega)) ?_; rintro ⟨vq, lq, aq, sq, xq⟩ ⟨eq1, eq2, eq3, eq4, eq5, eq6⟩; dsimp only at *; subst eq1; subst eq2)
  refine Yl.ite (fun hlt => ?_) fun _ => ?_
  · rw [chk_int (by omega)]; simp only [Option.bind_some]
    refine Yl.bind (least_ok _ _ _) ?_
    rintro u ⟨u1, u2, u3⟩
    refine Yl.bind (most_ok _ _ _) ?_
    rintro v ⟨v1, v2, v3⟩
    (refine Yl.bind (one_ok _ _ _ (by assumption) (by omega) (by omega)) ?_; rintro ⟨vq, lq, aq, sq⟩ ⟨eq1, eq2, eq3⟩; dsimp only at *; subst eq1)
    have h8 : ∀ (l : List Int) (a s x y z st w kind : Int) (c : Int) (b : Bool), By l → 0 ≤ a ∧ a ≤ 20000000000 → 0 ≤ c ∧ c ≤ 65535 → (b = true → 0 ≤ st ∧ st ≤ 3) → Yl (spec_l1Cur_shopStep_2.l8 k l a s d lo cs m d lo m 0 0 0 c kind v x y st z w b) fun r => r.2.2.2.1 = l ∧ r.2.2.2.2.2.2 = cs ∧ (a ≤ r.2.2.2.2.1 ∧ r.2.2.2.2.1 ≤ a + 20 ∧ -3000000 ≤ r.2.2.1 ∧ r.2.2.1 ≤ 3000000) := by
      intro l a s x y z st w kind c b hb h hc hst
      obtain ⟨k, rfl⟩ := succ_of (show 0 < k by omega)
      simp only [spec_l1Cur_shopStep_2.l8, spec_l1Cur_shopStep_2.b8]
      refine Yl.cond (fun e => ?_) fun _ => spec_l1Cur_shopStep_24 _ s d lo m cs _ _ _ hb (by omega) (by omega) (by omega) (by omega) (by omega)
      have := hst e
      rw [chk_int (by simp; omega)]; simp only [Option.bind_some]
      refine Yl.ite (fun _ => Yl.ite (fun _ => ?_) fun _ => ?_) fun _ => ?_ <;> exact spec_l1Cur_shopStep_24 _ s d lo m cs _ _ _ hb (by omega) (by omega) (by omega) (by omega) (by omega)
    have fin : ∀ {l : List Int} {a a' : Int} {r : Int × Int × Int × List Int × Int × Int × List C5}, a' ≤ a → a ≤ a' + 15 → (r.2.2.2.1 = l ∧ r.2.2.2.2.2.2 = cs ∧ (a ≤ r.2.2.2.2.1 ∧ r.2.2.2.2.1 ≤ a + 20 ∧ -3000000 ≤ r.2.2.1 ∧ r.2.2.1 ≤ 3000000)) → (r.2.2.2.1 = l ∧ r.2.2.2.2.2.2 = cs ∧ (a' ≤ r.2.2.2.2.1 ∧ r.2.2.2.2.1 ≤ a' + 40 ∧ -3000000 ≤ r.2.2.1 ∧ r.2.2.1 ≤ 3000000)) := fun h1 h2 h3 => ⟨h3.1, h3.2.1, by omega⟩
    refine Yl.cond (fun _ => ?_) fun _ => ?_
    · rw [specIn_eq]; simp only [Option.bind_some]
      refine (h8 _ _ _ _ _ _ _ _ _ _ _ (by assumption) (by omega) (by omega) ?_).mono fun r hr => fin (by omega) (by omega) hr
      intro e; have := inB_iff.1 e; omega
    · refine (h8 _ _ _ _ _ _ _ _ _ _ _ (by assumption) (by omega) (by omega) ?_).mono fun r hr => fin (by omega) (by omega) hr
      intro e; cases e
  · refine (spec_l1Cur_shopStep_24 _ _ _ _ _ _ _ _ _ (by assumption) (by omega) (by omega) (by omega) (by omega) (by omega)).mono fun r hr => ⟨hr.1, hr.2.1, by omega⟩
theorem spec_l1Cur_shopStep4 (k : Nat) {l : List Int} {a : Int} (s d lo m : Int) (cs : List C5) (c kind left : Int) (hb : By l) (h : 0 ≤ a ∧ a ≤ 100000000000) (hc : 0 ≤ c ∧ c ≤ 65535) (hlo : -1000 ≤ lo ∧ lo ≤ 1000) (hleft : 1 ≤ left ∧ left ≤ 20) (hk : 10 ≤ k) : Yl (spec_l1Cur_shopStep.l4 k l a s d lo cs m  0 0 0 c kind left) fun r => r.2.2.2.1 = l ∧  (a ≤ r.2.2.2.2.1 ∧ r.2.2.2.2.1 ≤ a + 20 ∧ -3000000 ≤ r.2.2.1 ∧ r.2.2.1 ≤ 3000000) := by
  obtain ⟨k, rfl⟩ := succ_of (show 0 < k by omega)
  simp only [spec_l1Cur_shopStep.l4, spec_l1Cur_shopStep.b4]
  (refine Yl.bind (one_ok _ _ _ (by assumption) (by omega) (by omega)) ?_; rintro ⟨vq, lq, aq, sq⟩ ⟨eq1, eq2, eq3⟩; dsimp only at *; subst eq1)
  refine Yl.cond (fun _ => ?_) fun _ => ?_
  · (refine Yl.bind (among_ok _ _ 0 8 (by simp) (by intro x hx; simp at hx; omega) (by assumption) (by omega) (by omega)) ?_; rintro ⟨vq, lq, aq, sq, xq⟩ ⟨eq1, eq2, eq3, eq4, eq5, eq6⟩; dsimp only at *; subst eq1; subst eq2)
    (refine Yl.bind (among_ok _ _ (-1) 65535 (by simp) (by intro x hx; simp at hx; omega) (by assumption) (by omega) (by omega)) ?_; rintro ⟨vq, lq, aq, sq, xq⟩ ⟨eq1, eq2, eq3, eq4, eq5, eq6⟩; dsimp only at *; subst eq1; subst eq2)
    (refine Yl.bind (among_ok _ _ 0 1 (by simp) (by intro x hx; simp at hx; omega) (by assumption) (by omega) (by omega)) ?_; rintro ⟨vq, lq, aq, sq, xq⟩ ⟨eq1, eq2, eq3, eq4, eq5, eq6⟩; dsimp only at *; subst eq1; subst eq2)
    exact Yl.ret ⟨rfl,  by dsimp only; omega⟩
  · refine Yl.ite (fun _ => ?_) fun _ => ?_
    · (refine Yl.bind (among_ok _ _ 0 4001 (by simp) (by intro x hx; simp at hx; omega) (by assumption) (by omega) (by omega)) ?_; rintro ⟨vq, lq, aq, sq, xq⟩ ⟨eq1, eq2, eq3, eq4, eq5, eq6⟩; dsimp only at *; subst eq1; subst eq2)
      exact Yl.ret ⟨rfl,  by dsimp only; omega⟩
    · refine Yl.ite (fun _ => ?_) fun _ => ?_
      · (refine Yl.bind (among_ok _ _ 1 501 (by simp) (by intro x hx; simp at hx; omega) (by assumption) (by omega) (by omega)) ?_; rintro ⟨vq, lq, aq, sq, xq⟩ ⟨eq1, eq2, eq3, eq4, eq5, eq6⟩; dsimp only at *; subst eq1; subst eq2)
        exact Yl.ret ⟨rfl,  by dsimp only; omega⟩
      · refine Yl.ite (fun _ => ?_) fun _ => ?_
        · refine Yl.bind (most_ok _ _ _) ?_
          rintro r ⟨r1, r2, r3⟩
          rw [w64_id (by omega)]
          (refine Yl.bind (pick_ok _ _ _ (by assumption) (by omega) (by omega)) ?_; rintro ⟨vq, lq, aq, sq⟩ ⟨eq1, eq2, eq3, eq4, eq5, eq6⟩; dsimp only at *; subst eq1)
          rw [w64_id (by omega)]
          exact Yl.ret ⟨rfl,  by dsimp only; omega⟩
        · refine Yl.ite (fun _ => ?_) fun _ => ?_
          · (refine Yl.bind (among_ok _ _ 1 21 (by simp) (by intro x hx; simp at hx; omega) (by assumption) (by omega) (by omega)) ?_; rintro ⟨vq, lq, aq, sq, xq⟩ ⟨eq1, eq2, eq3, eq4, eq5, eq6⟩; dsimp only at *; subst eq1; subst eq2)
            exact Yl.ret ⟨rfl,  by dsimp only; omega⟩
          · refine Yl.ite (fun _ => ?_) fun _ => ?_
            · (refine Yl.bind (among_ok _ _ 0 1000000 (by simp) (by intro x hx; simp at hx; omega) (by assumption) (by omega) (by omega)) ?_; rintro ⟨vq, lq, aq, sq, xq⟩ ⟨eq1, eq2, eq3, eq4, eq5, eq6⟩; dsimp only at *; subst eq1; subst eq2)
              exact Yl.ret ⟨rfl,  by dsimp only; omega⟩
            · exact Yl.ret ⟨rfl,  by dsimp only; omega⟩
theorem spec_l1Cur_shopStep_ok (k : Nat) {l : List Int} {a : Int} (s d lo m : Int) (cs : List C5) (hb : By l) (h : 0 ≤ a ∧ a ≤ 10000000000) (hcs : cs.length ≤ 100) (hlo : -1000 ≤ lo ∧ lo ≤ 1000) (hk : 20 ≤ k) : Yl (spec_l1Cur_shopStep.f k l a s d lo cs m) fun r => r.2.2.2.1 = l ∧  (a ≤ r.2.2.2.2.1 ∧ r.2.2.2.2.1 ≤ a + 40 ∧ -3000000 ≤ r.2.2.1 ∧ r.2.2.1 ≤ 3000000) := by
  unfold spec_l1Cur_shopStep.f spec_l1Cur_shopStep.m
  refine Yl.bind (most_ok _ _ _) ?_
  rintro r ⟨r1, r2, r3⟩
  (refine Yl.bind (pick_ok _ _ _ (by assumption) (by omega) (by omega)) ?_; rintro ⟨vq, lq, aq, sq⟩ ⟨eq1, eq2, eq3, eq4, eq5, eq6⟩; dsimp only at *; subst eq1)
  (refine Yl.bind (among_ok _ _ 1 7 (by simp) (by intro x hx; simp at hx; omega) (by assumption) (by omega) (by omega)) ?_; rintro ⟨vq, lq, aq, sq, xq⟩ ⟨eq1, eq2, eq3, eq4, eq5, eq6⟩; dsimp only at *; subst eq1; subst eq2)
  refine Yl.ite (fun hlt => ?_) fun _ => ?_
  · rw [chk_int (by omega)]; simp only [Option.bind_some]
    refine Yl.bind (least_ok _ _ _) ?_
    rintro u ⟨u1, u2, u3⟩
    refine Yl.bind (most_ok _ _ _) ?_
    rintro v ⟨v1, v2, v3⟩
    (refine Yl.bind (one_ok _ _ _ (by assumption) (by omega) (by omega)) ?_; rintro ⟨vq, lq, aq, sq⟩ ⟨eq1, eq2, eq3⟩; dsimp only at *; subst eq1)
    have h8 : ∀ (l : List Int) (a s x y z st w kind : Int) (c : Int) (b : Bool), By l → 0 ≤ a ∧ a ≤ 20000000000 → 0 ≤ c ∧ c ≤ 65535 → (b = true → 0 ≤ st ∧ st ≤ 3) → Yl (spec_l1Cur_shopStep.l8 k l a s d lo cs m  0 0 0 c kind v x y st z w b) fun r => r.2.2.2.1 = l ∧  (a ≤ r.2.2.2.2.1 ∧ r.2.2.2.2.1 ≤ a + 20 ∧ -3000000 ≤ r.2.2.1 ∧ r.2.2.1 ≤ 3000000) := by
      intro l a s x y z st w kind c b hb h hc hst
      obtain ⟨k, rfl⟩ := succ_of (show 0 < k by omega)
      simp only [spec_l1Cur_shopStep.l8, spec_l1Cur_shopStep.b8]
      refine Yl.cond (fun e => ?_) fun _ => spec_l1Cur_shopStep4 _ s d lo m cs _ _ _ hb (by omega) (by omega) (by omega) (by omega) (by omega)
      have := hst e
      rw [chk_int (by simp; omega)]; simp only [Option.bind_some]
      refine Yl.ite (fun _ => Yl.ite (fun _ => ?_) fun _ => ?_) fun _ => ?_ <;> exact spec_l1Cur_shopStep4 _ s d lo m cs _ _ _ hb (by omega) (by omega) (by omega) (by omega) (by omega)
    have fin : ∀ {l : List Int} {a a' : Int} {r : Int × Int × Int × List Int × Int × Int}, a' ≤ a → a ≤ a' + 15 → (r.2.2.2.1 = l ∧  (a ≤ r.2.2.2.2.1 ∧ r.2.2.2.2.1 ≤ a + 20 ∧ -3000000 ≤ r.2.2.1 ∧ r.2.2.1 ≤ 3000000)) → (r.2.2.2.1 = l ∧  (a' ≤ r.2.2.2.2.1 ∧ r.2.2.2.2.1 ≤ a' + 40 ∧ -3000000 ≤ r.2.2.1 ∧ r.2.2.1 ≤ 3000000)) := fun h1 h2 h3 => ⟨h3.1,  by omega⟩
    refine Yl.cond (fun _ => ?_) fun _ => ?_
    · rw [specIn_eq]; simp only [Option.bind_some]
      refine (h8 _ _ _ _ _ _ _ _ _ _ _ (by assumption) (by omega) (by omega) ?_).mono fun r hr => fin (by omega) (by omega) hr
      intro e; have := inB_iff.1 e; omega
    · refine (h8 _ _ _ _ _ _ _ _ _ _ _ (by assumption) (by omega) (by omega) ?_).mono fun r hr => fin (by omega) (by omega) hr
      intro e; cases e
  · refine (spec_l1Cur_shopStep4 _ _ _ _ _ _ _ _ _ (by assumption) (by omega) (by omega) (by omega) (by omega) (by omega)).mono fun r hr => ⟨hr.1,  by omega⟩
def ShopD (l : List Int) (a b : Int) (r : Int × Int × List C5 × Int × List Int × Int × Int) : Prop := r.2.2.2.2.1 = l ∧ a ≤ r.2.2.2.2.2.1 ∧ r.2.2.2.2.2.1 ≤ b ∧ r.2.2.1.length ≤ 9 ∧ -1000 ≤ r.2.1 ∧ r.2.1 ≤ 1000
theorem newShop_eq (k : Nat) (lo : Int) : spec_NewShop.f k lo = some (if inB lo 1 4 = true then (0, lo, [], 0, true) else (0, 0, [], 0, false)) := by
  unfold spec_NewShop.f spec_NewShop.m
  rw [specIn_eq]; cases inB lo 1 4 <;> rfl
theorem shopB_new {lo : Int} (h : 1 ≤ lo ∧ lo ≤ 4) : shopB 0 lo [] 0 = true := shopB_mk (by omega) h (by omega) (by simp) (by unfold rowsB; rfl)
theorem shop_l (l : List Int) (hb : By l) : ∀ (n K : Nat) (a s d lo m : Int) (cs : List C5), 0 ≤ a → a + 60 * n ≤ 1000000000 → n ≤ 40 → 3500 + n ≤ K → shopB d lo cs m = true → Yl (spec_l1Cur_shop.l4 K l a s 0 0 [] 0 d lo cs m (n : Int)) (ShopD l a (a + 60 * n + 20)) := by
  intro n
  induction n with
  | zero =>
    intro K a s d lo m cs h1 h2 h3 h4 hs
    obtain ⟨K, rfl⟩ := succ_of (show 0 < K by omega)
    obtain ⟨b1, b2, b3, b4, b5⟩ := shopB_of hs
    simp only [spec_l1Cur_shop.l4, spec_l1Cur_shop.b4]
    rw [if_neg (by omega)]
    unfold ShopD
    (refine Yl.bind (pick_ok _ _ _ (by assumption) (by omega) (by omega)) ?_; rintro ⟨vq, lq, aq, sq⟩ ⟨eq1, eq2, eq3, eq4, eq5, eq6⟩; dsimp only at *; subst eq1)
    refine Yl.ite (fun _ => ?_) fun _ => ?_
    · (refine Yl.bind (among_ok _ _ (-1) 4001 (by simp) (by intro x hx; simp at hx; omega) (by assumption) (by omega) (by omega)) ?_; rintro ⟨vq, lq, aq, sq, xq⟩ ⟨eq1, eq2, eq3, eq4, eq5, eq6⟩; dsimp only at *; subst eq1; subst eq2)
      exact Yl.ret ⟨rfl, by dsimp only; omega⟩
    refine Yl.ite (fun _ => ?_) fun _ => ?_
    · (refine Yl.bind (among_ok _ _ 0 5 (by simp) (by intro x hx; simp at hx; omega) (by assumption) (by omega) (by omega)) ?_; rintro ⟨vq, lq, aq, sq, xq⟩ ⟨eq1, eq2, eq3, eq4, eq5, eq6⟩; dsimp only at *; subst eq1; subst eq2)
      exact Yl.ret ⟨rfl, by dsimp only; omega⟩
    refine Yl.ite (fun _ => ?_) fun _ => ?_
    · (refine Yl.bind (among_ok _ _ 0 501 (by simp) (by intro x hx; simp at hx; omega) (by assumption) (by omega) (by omega)) ?_; rintro ⟨vq, lq, aq, sq, xq⟩ ⟨eq1, eq2, eq3, eq4, eq5, eq6⟩; dsimp only at *; subst eq1; subst eq2)
      (refine Yl.bind (among_ok _ _ 0 5 (by simp) (by intro x hx; simp at hx; omega) (by assumption) (by omega) (by omega)) ?_; rintro ⟨vq, lq, aq, sq, xq⟩ ⟨eq1, eq2, eq3, eq4, eq5, eq6⟩; dsimp only at *; subst eq1; subst eq2)
      (refine Yl.bind (among_ok _ _ (-1) 5 (by simp) (by intro x hx; simp at hx; omega) (by assumption) (by omega) (by omega)) ?_; rintro ⟨vq, lq, aq, sq, xq⟩ ⟨eq1, eq2, eq3, eq4, eq5, eq6⟩; dsimp only at *; subst eq1; subst eq2)
      (refine Yl.bind (among_ok _ _ 0 1 (by simp) (by intro x hx; simp at hx; omega) (by assumption) (by omega) (by omega)) ?_; rintro ⟨vq, lq, aq, sq, xq⟩ ⟨eq1, eq2, eq3, eq4, eq5, eq6⟩; dsimp only at *; subst eq1; subst eq2)
      rw [app_ok (by simp; omega)]; simp only [Option.bind_some]
      exact Yl.ret ⟨rfl, by simp; omega⟩
    refine Yl.ite (fun _ => ?_) fun _ => ?_
    · (refine Yl.bind (among_ok _ _ (-1) 1000001 (by simp) (by intro x hx; simp at hx; omega) (by assumption) (by omega) (by omega)) ?_; rintro ⟨vq, lq, aq, sq, xq⟩ ⟨eq1, eq2, eq3, eq4, eq5, eq6⟩; dsimp only at *; subst eq1; subst eq2)
      exact Yl.ret ⟨rfl, by dsimp only; omega⟩
    exact Yl.ret ⟨rfl, by dsimp only; omega⟩
  | succ n ih =>
    intro K a s d lo m cs h1 h2 h3 h4 hs
    obtain ⟨K, rfl⟩ := succ_of (show 0 < K by omega)
    obtain ⟨b1, b2, b3, b4, b5⟩ := shopB_of hs
    simp only [spec_l1Cur_shop.l4, spec_l1Cur_shop.b4]
    rw [if_pos (by omega), w64_id (x := ((n + 1 : Nat) : Int) - 1) (by omega), show ((n + 1 : Nat) : Int) - 1 = n by omega]
    refine Yl.bind (spec_l1Cur_shopStep_2_ok K s d lo m cs hb (by omega) (by omega) (by omega) (by omega)) ?_
    rintro ⟨kind, carpet, value, l', a', s', cs'⟩ ⟨e1, e2, e3, e4, e5, e6⟩
    dsimp only at *
    subst e1; subst e2
    rw [specStepShop_eq K (by omega) (by omega), if_pos hs]; simp only [Option.bind_some]
    cases h : stepS d lo cs' m kind carpet value with
    | none =>
      simp only [outR, cond_false]
      refine (ih K a' s' d lo m cs' (by omega) (by omega) (by omega) (by omega) hs).mono fun r hr => ?_
      unfold ShopD at *
      refine ⟨hr.1, ?_⟩
      omega
    | some q =>
      obtain ⟨d', lo', c', m'⟩ := q
      simp only [outR, cond_true]
      refine (ih K a' s' d' lo' m' c' (by omega) (by omega) (by omega) (by omega) (stepS_good hs (by omega) h)).mono fun r hr => ?_
      unfold ShopD at *
      refine ⟨hr.1, ?_⟩
      omega
theorem shop_ok (k : Nat) {l : List Int} {a : Int} (s : Int) (hb : By l) (h : 0 ≤ a ∧ a ≤ 1000000) (hk : 4000 ≤ k) : Yl (spec_l1Cur_shop.f k l a s) (ShopD l a (a + 3000)) := by
  unfold spec_l1Cur_shop.f spec_l1Cur_shop.m
  (refine Yl.bind (among_ok _ _ 1 4 (by simp) (by intro x hx; simp at hx; omega) (by assumption) (by omega) (by omega)) ?_; rintro ⟨vq, lq, aq, sq, xq⟩ ⟨eq1, eq2, eq3, eq4, eq5, eq6⟩; dsimp only at *; subst eq1; subst eq2)
  rw [newShop_eq, if_pos (inB_of (by omega))]; simp only [Option.bind_some]
  refine Yl.bind (pick_ok _ _ _ (by assumption) (by omega) (by omega)) ?_
  rintro ⟨n, l', a', s'⟩ ⟨e1, e2, e3, e4, e5, e6⟩
  dsimp only at *; subst e1
  obtain ⟨n, rfl⟩ := Int.eq_ofNat_of_zero_le e4
  refine (shop_l _ (by assumption) n k a' s' _ _ _ _ (by omega) (by omega) (by omega) (by omega) (shopB_new (by omega))).mono fun r hr => ?_
  unfold ShopD at *
  refine ⟨hr.1, ?_⟩
  omega
def okS (value : Int) : Prop := -3000000 ≤ value ∧ value ≤ 3000000
theorem drawStep_ok (k : Nat) {l : List Int} (hb : By l) (hk : 4000 ≤ k) : Yl (spec_DrawStepShop.f k l) fun r => r.2.2.1.length ≤ 9 ∧ -1000 ≤ r.2.1 ∧ r.2.1 ≤ 1000 ∧ okS r.2.2.2.2.2.2 := by
  unfold spec_DrawStepShop.f spec_DrawStepShop.m
  refine Yl.bind (shop_ok k 0 hb (by omega) hk) ?_
  rintro ⟨d, lo, cs, m, l', a, s⟩ ⟨e1, e2, e3, e4, e5, e6⟩
  dsimp only at *; subst e1
  refine Yl.bind (spec_l1Cur_shopStep_2_ok k s d lo m cs hb (by omega) (by omega) (by omega) (by omega)) ?_
  rintro ⟨kind, carpet, value, l', a', s', cs'⟩ ⟨f1, f2, f3, f4, f5, f6⟩
  dsimp only at *
  subst f1; subst f2
  exact Yl.ret ⟨e4, e5, e6, f5, f6⟩
theorem drawNew_ok (k : Nat) {l : List Int} (hb : By l) (hk : 10 ≤ k) : Yl (spec_DrawNewShop.f k l) fun _ => True := by
  unfold spec_DrawNewShop.f spec_DrawNewShop.m
  (refine Yl.bind (among_ok _ _ (-1) 5 (by simp) (by intro x hx; simp at hx; omega) (by assumption) (by omega) (by omega)) ?_; rintro ⟨vq, lq, aq, sq, xq⟩ ⟨eq1, eq2, eq3, eq4, eq5, eq6⟩; dsimp only at *; subst eq1; subst eq2)
  exact Yl.ret trivial
def RunD (r : Int × Int × List C5 × Int × List X3) : Prop := r.2.2.1.length ≤ 9 ∧ r.2.2.2.2.length ≤ 1000 ∧ ∀ x ∈ r.2.2.2.2, okS x.2.2
theorem run17 (l : List Int) (hb : By l) (D LO M : Int) (CS : List C5) (hcs : CS.length ≤ 9) : ∀ (e K : Nat) (a s : Int) (steps : List X3), 42 ≤ steps.length + e → steps.length ≤ 60 → 0 ≤ a → a + 10 * e ≤ 1000000 → 100 + e ≤ K → (∀ x ∈ steps, okS x.2.2) → Yl (spec_DrawRunShop.l17 K 0 0 [] 0 l a s D LO CS M steps) RunD := by
  intro e
  induction e with
  | zero =>
    intro K a s steps h1 h2 h3 h4 h5 ho
    obtain ⟨K, rfl⟩ := succ_of (show 0 < K by omega)
    simp only [spec_DrawRunShop.l17, spec_DrawRunShop.b17]
    (refine Yl.bind (pick_ok _ _ _ (by assumption) (by omega) (by omega)) ?_; rintro ⟨vq, lq, aq, sq⟩ ⟨eq1, eq2, eq3, eq4, eq5, eq6⟩; dsimp only at *; subst eq1)
    rw [w64_id (by omega), if_neg (by omega)]
    exact Yl.ret ⟨hcs, by dsimp only; omega, ho⟩
  | succ e ih =>
    intro K a s steps h1 h2 h3 h4 h5 ho
    obtain ⟨K, rfl⟩ := succ_of (show 0 < K by omega)
    simp only [spec_DrawRunShop.l17, spec_DrawRunShop.b17]
    refine Yl.bind (pick_ok _ _ _ hb (by omega) (by omega)) ?_
    rintro ⟨v, l', a', s'⟩ ⟨e1, e2, e3, e4, e5, e6⟩
    dsimp only at *; subst e1
    rw [w64_id (by omega)]
    refine Yl.ite (fun _ => ?_) fun _ => Yl.ret ⟨hcs, by dsimp only; omega, ho⟩
    rw [app_ok (by simp; omega)]; simp only [Option.bind_some]
    refine ih K a' s' _ (by simp; omega) (by simp; omega) (by omega) (by omega) (by omega) fun x hx => ?_
    rcases List.mem_append.1 hx with h | h
    · exact ho x h
    · rw [List.mem_singleton] at h; subst h; exact ⟨by dsimp only; omega, by dsimp only; omega⟩
theorem run7 (l : List Int) (hb : By l) (D LO M : Int) (CS : List C5) (hcs : CS.length ≤ 9) : ∀ (n K : Nat) (a s d lo m : Int) (cs : List C5) (steps : List X3), steps.length + n ≤ 20 → 0 ≤ a → a + 100 * n ≤ 500000 → 4000 + n ≤ K → cs.length ≤ 9 → -1000 ≤ lo ∧ lo ≤ 1000 → (∀ x ∈ steps, okS x.2.2) → Yl (spec_DrawRunShop.l7 K 0 0 [] 0 l a s D LO CS M steps d lo cs m (n : Int)) RunD := by
  intro n
  induction n with
  | zero =>
    intro K a s d lo m cs steps h1 h2 h3 h4 h5 h6 ho
    obtain ⟨K, rfl⟩ := succ_of (show 0 < K by omega)
    simp only [spec_DrawRunShop.l7, spec_DrawRunShop.b7]
    rw [if_neg (by omega)]
    refine Yl.bind (one_ok _ _ _ hb (by omega) (by omega)) ?_
    rintro ⟨v, l', a', s'⟩ ⟨e1, e2, e3⟩
    dsimp only at *; subst e1
    refine Yl.cond (fun _ => ?_) fun _ => Yl.ret ⟨hcs, by dsimp only; omega, ho⟩
    exact run17 l' hb D LO M CS hcs 60 K a' s' steps (by omega) (by omega) (by omega) (by omega) (by omega) ho
  | succ n ih =>
    intro K a s d lo m cs steps h1 h2 h3 h4 h5 h6 ho
    obtain ⟨K, rfl⟩ := succ_of (show 0 < K by omega)
    simp only [spec_DrawRunShop.l7, spec_DrawRunShop.b7]
    rw [if_pos (by omega), w64_id (x := ((n + 1 : Nat) : Int) - 1) (by omega), show ((n + 1 : Nat) : Int) - 1 = n by omega]
    refine Yl.bind (spec_l1Cur_shopStep_ok K s d lo m cs hb (by omega) (by omega) (by omega) (by omega)) ?_
    rintro ⟨kind, carpet, value, l', a', s'⟩ ⟨e1, e3, e4, e5, e6⟩
    dsimp only at *
    subst e1
    rw [app_ok (by simp; omega)]; simp only [Option.bind_some]
    have ho' : ∀ x ∈ steps ++ [(kind, carpet, value)], okS x.2.2 := fun x hx => by
      rcases List.mem_append.1 hx with h | h
      · exact ho x h
      · rw [List.mem_singleton] at h; subst h; exact ⟨e5, e6⟩
    rw [specStepShop_eq K (by omega) (by omega)]; simp only [Option.bind_some]
    by_cases hs : shopB d lo cs m = true
    · rw [if_pos hs]
      cases h : stepS d lo cs m kind carpet value with
      | none =>
        simp only [outR, cond_false]
        exact ih K a' s' d lo m cs _ (by simp; omega) (by omega) (by omega) (by omega) h5 h6 ho'
      | some q =>
        obtain ⟨d', lo', c', m'⟩ := q
        simp only [outR, cond_true]
        obtain ⟨b1, b2, b3, b4, b5⟩ := shopB_of (stepS_good hs (by omega) h)
        exact ih K a' s' d' lo' m' c' _ (by simp; omega) (by omega) (by omega) (by omega) (by omega) (by omega) ho'
    · rw [if_neg hs]
      simp only [cond_false]
      exact ih K a' s' d lo m cs _ (by simp; omega) (by omega) (by omega) (by omega) h5 h6 ho'
theorem drawRun_ok (k : Nat) {l : List Int} (hb : By l) (hk : 5000 ≤ k) : Yl (spec_DrawRunShop.f k l) RunD := by
  unfold spec_DrawRunShop.f spec_DrawRunShop.m
  refine Yl.bind (shop_ok k 0 hb (by omega) (by omega)) ?_
  rintro ⟨d, lo, cs, m, l', a, s⟩ ⟨e1, e2, e3, e4, e5, e6⟩
  dsimp only at *; subst e1
  refine Yl.bind (pick_ok _ _ _ hb (by omega) (by omega)) ?_
  rintro ⟨n, l', a', s'⟩ ⟨e1, f2, f3, f4, f5, f6⟩
  dsimp only at *; subst e1
  obtain ⟨n, rfl⟩ := Int.eq_ofNat_of_zero_le f4
  exact run7 l' hb d lo m cs e4 n k a' s' d lo m cs [] (by simp; omega) (by omega) (by omega) (by omega) e4 (by omega) (by simp)
theorem vShop_self (k : Nat) (d l m : Int) (c : List C5) (hl : c.length ≤ 1000) (hk : 1100 ≤ k) : laws_vShop.f k d l c m d l c m = some true := by
  unfold laws_vShop.f laws_vShop.m laws_vCarpets.f laws_vCarpets.m
  have h := (all_loop (L := fun k i => laws_vCarpets.l6 k c c (i : Int)) (n := c.length) (K0 := 20) (ok := fun _ => true) (f := some false) (fun k i hk hi => ?_)) c.length k 0 (by omega) (by omega)
  · rw [show ((0 : Nat) : Int) = 0 from rfl] at h
    simp only [Bool.not_true, Bool.not_false, cond_true, cond_false, Bool.true_and, Bool.false_and, Bool.and_true, Bool.and_false, Bool.false_eq_true, Bool.true_or, Bool.or_true, Bool.false_or, Bool.or_false, Bool.or_self, Bool.and_self, decide_true, decide_false, if_true, if_false, not_true, not_false_eq_true, not_true_eq_false, false_or, or_false, true_and, and_true, Bool.not_eq_true, Bool.true_eq_false, reduceCtorEq]
    rw [h.1 (some true) (fun k hk => by simp (disch := omega) only [laws_vCarpets.l6, laws_vCarpets.b6, if_neg]) (fun _ _ _ => rfl)]
    rfl
  · simp (disch := omega) only [laws_vCarpets.l6, laws_vCarpets.b6, if_pos, chk_nat, Option.bind_some, w64_id, Bool.not_true, Bool.not_false, cond_true, cond_false, Bool.true_and, Bool.false_and, Bool.and_true, Bool.and_false, Bool.false_eq_true, Bool.true_or, Bool.or_true, Bool.false_or, Bool.or_false, Bool.or_self, Bool.and_self, decide_true, decide_false, if_true, if_false, not_true, not_false_eq_true, not_true_eq_false, false_or, or_false, true_and, and_true, Bool.not_eq_true, Bool.true_eq_false, reduceCtorEq, Int.natCast_add, Int.cast_ofNat_Int]
theorem implNew_eq (k : Nat) (lo : Int) : impl_NewShop.f k lo = some (if inB lo 1 4 = true then (0, lo, [], 0, true) else (0, 0, [], 0, false)) := by
  unfold impl_NewShop.f impl_NewShop.m
  rw [implIn_eq]; cases inB lo 1 4 <;> rfl
theorem newTail (k : Nat) {l : List Int} (hb : By l) (hk : 2000 ≤ k) : ((spec_DrawNewShop.f k l).bind fun r15 => ((impl_NewShop.f k r15).bind fun r16 => ((spec_NewShop.f k r15).bind fun r17 => (if r16.2.2.2.2 = r17.2.2.2.2 then ((laws_vShop.f k r16.1 r16.2.1 r16.2.2.1 r16.2.2.2.1 r17.1 r17.2.1 r17.2.2.1 r17.2.2.2.1).bind fun r18 => (some r18)) else (some false))))) = some true := by
  obtain ⟨lo, e, _⟩ := drawNew_ok k hb (by omega)
  rw [e]; simp only [Option.bind_some]
  rw [implNew_eq, newShop_eq]; simp only [Option.bind_some, if_true]
  cases inB lo 1 4 <;> simp only [Bool.not_true, Bool.not_false, cond_true, cond_false, Bool.true_and, Bool.false_and, Bool.and_true, Bool.and_false, Bool.false_eq_true, Bool.true_or, Bool.or_true, Bool.false_or, Bool.or_false, Bool.or_self, Bool.and_self, decide_true, decide_false, if_true, if_false, not_true, not_false_eq_true, not_true_eq_false, false_or, or_false, true_and, and_true, Bool.not_eq_true, Bool.true_eq_false, reduceCtorEq] <;> rw [vShop_self _ _ _ _ _ (by simp) (by omega)] <;> rfl
theorem shops_l39 {l : List Int} (hb : By l) {steps : List X3} (hst : okX steps) (hl : steps.length ≤ 40) (D L M N : Int) (C : List C5) : ∀ (e K i : Nat) (d lo m n : Int) (c : List C5), i + e = steps.length → shopB d lo c m = true → 0 ≤ n → n + e ≤ 1000 → 4000 + 30 * e ≤ K → runR (steps.drop i) d lo c m n = (D, L, C, M, N) → laws_FnShops.l39 K l steps D L C M N d lo c m n (i : Int) = some true := by
  intro e
  induction e with
  | zero =>
    intro K i d lo m n c h1 hs h2 h3 h4 h5
    obtain ⟨K, rfl⟩ := succ_of (show 0 < K by omega)
    have a4 := (shopB_of hs).2.2.2.1
    rw [List.drop_of_length_le (by omega)] at h5
    simp only [runR, Prod.mk.injEq] at h5
    obtain ⟨rfl, rfl, rfl, rfl, rfl⟩ := h5
    simp (disch := omega) only [laws_FnShops.l39, laws_FnShops.b39, if_neg, vShop_self, Option.bind_some, Bool.not_true, Bool.not_false, cond_true, cond_false, Bool.true_and, Bool.false_and, Bool.and_true, Bool.and_false, Bool.false_eq_true, Bool.true_or, Bool.or_true, Bool.false_or, Bool.or_false, Bool.or_self, Bool.and_self, decide_true, decide_false, if_true, if_false, not_true, not_false_eq_true, not_true_eq_false, false_or, or_false, true_and, and_true, Bool.not_eq_true, Bool.true_eq_false, reduceCtorEq]
    exact newTail K hb (by omega)
  | succ e ih =>
    intro K i d lo m n c h1 hs h2 h3 h4 h5
    obtain ⟨K, rfl⟩ := succ_of (show 0 < K by omega)
    have hi : i < steps.length := by omega
    have hd : steps.drop i = steps[i] :: steps.drop (i + 1) := List.drop_eq_getElem_cons hi
    have hx := hst _ (List.getElem_mem hi)
    rw [hd] at h5; simp only [runR] at h5
    simp (disch := omega) only [laws_FnShops.l39, laws_FnShops.b39, if_pos, chk_nat, Option.bind_some, getD_lt hi, implStepShop_eq K hs hx, w64_id]
    rw [show ((i : Int) + 1) = ((i + 1 : Nat) : Int) by omega]
    cases h : stepS d lo c m steps[i].1 steps[i].2.1 steps[i].2.2 with
    | none =>
      rw [h] at h5
      simp only [outR, Bool.not_true, Bool.not_false, cond_true, cond_false, Bool.true_and, Bool.false_and, Bool.and_true, Bool.and_false, Bool.false_eq_true, Bool.true_or, Bool.or_true, Bool.false_or, Bool.or_false, Bool.or_self, Bool.and_self, decide_true, decide_false, if_true, if_false, not_true, not_false_eq_true, not_true_eq_false, false_or, or_false, true_and, and_true, Bool.not_eq_true, Bool.true_eq_false, reduceCtorEq]
      exact ih K (i + 1) d lo m n c (by omega) hs h2 (by omega) (by omega) h5
    | some r =>
      obtain ⟨d', l', c', m'⟩ := r
      rw [h] at h5
      simp only [outR, Bool.not_true, Bool.not_false, cond_true, cond_false, Bool.true_and, Bool.false_and, Bool.and_true, Bool.and_false, Bool.false_eq_true, Bool.true_or, Bool.or_true, Bool.false_or, Bool.or_false, Bool.or_self, Bool.and_self, decide_true, decide_false, if_true, if_false, not_true, not_false_eq_true, not_true_eq_false, false_or, or_false, true_and, and_true, Bool.not_eq_true, Bool.true_eq_false, reduceCtorEq]
      exact ih K (i + 1) d' l' m' (n + 1) c' (by omega) (stepS_good hs hx h) (by omega) (by omega) (by omega) h5
theorem runTail (k : Nat) {l : List Int} (hb : By l) (hk : 8000 ≤ k) (o14 : List Int → Int → Int → (List (Int × Int × Int × Int × Int)) → Int → Int → Int → (List (Int × Int × Int × Int × Int)) → Int → Option (Bool)) (x1 x2 x4 x5 x6 x7 x8 x9 x11 : Int) (l3 l10 : List C5) : laws_FnShops.b6 o14 (laws_FnShops.l39 k) k l x1 x2 l3 x4 x5 x6 x7 x8 x9 l10 x11 false = some true := by
  unfold laws_FnShops.b6
  rw [cond_false]
  obtain ⟨⟨d, lo, cs, m, steps⟩, e, h1, h2, h3⟩ := drawRun_ok k hb (by omega)
  dsimp only at h1 h2 h3
  have hst : okX steps := fun x hx => by have := h3 x hx; unfold okS at this; omega
  rw [e]; simp only [Option.bind_some]
  rcases run_both d lo cs m steps hst with ⟨hs, h40, g1, g2⟩ | ⟨g1, g2⟩
  · have hC := runR_len steps 0 hst hs
    rw [g2 k (by omega), g1 k (by omega)]; simp only [runO, Option.bind_some, Bool.not_true, Bool.not_false, cond_true, cond_false, Bool.true_and, Bool.false_and, Bool.and_true, Bool.and_false, Bool.false_eq_true, Bool.true_or, Bool.or_true, Bool.false_or, Bool.or_false, Bool.or_self, Bool.and_self, decide_true, decide_false, if_true, if_false, not_true, not_false_eq_true, not_true_eq_false, false_or, or_false, true_and, and_true, Bool.not_eq_true, Bool.true_eq_false, reduceCtorEq]
    rw [vShop_self _ _ _ _ _ (by omega) (by omega)]; simp only [Option.bind_some, Bool.not_true, Bool.not_false, cond_true, cond_false, Bool.true_and, Bool.false_and, Bool.and_true, Bool.and_false, Bool.false_eq_true, Bool.true_or, Bool.or_true, Bool.false_or, Bool.or_false, Bool.or_self, Bool.and_self, decide_true, decide_false, if_true, if_false, not_true, not_false_eq_true, not_true_eq_false, false_or, or_false, true_and, and_true, Bool.not_eq_true, Bool.true_eq_false, reduceCtorEq]
    exact shops_l39 hb hst h40 _ _ _ _ _ steps.length k 0 d lo m 0 cs (by omega) hs (by omega) (by omega) (by omega) rfl
  · rw [g2 k (by omega), g1 k (by omega)]; simp only [Option.bind_some, Bool.not_true, Bool.not_false, cond_true, cond_false, Bool.true_and, Bool.false_and, Bool.and_true, Bool.and_false, Bool.false_eq_true, Bool.true_or, Bool.or_true, Bool.false_or, Bool.or_false, Bool.or_self, Bool.and_self, decide_true, decide_false, if_true, if_false, not_true, not_false_eq_true, not_true_eq_false, false_or, or_false, true_and, and_true, Bool.not_eq_true, Bool.true_eq_false, reduceCtorEq]
    rw [vShop_self _ _ _ _ _ (by simp) (by omega)]; simp only [Option.bind_some, Bool.not_true, Bool.not_false, cond_true, cond_false, Bool.true_and, Bool.false_and, Bool.and_true, Bool.and_false, Bool.false_eq_true, Bool.true_or, Bool.or_true, Bool.false_or, Bool.or_false, Bool.or_self, Bool.and_self, decide_true, decide_false, if_true, if_false, not_true, not_false_eq_true, not_true_eq_false, false_or, or_false, true_and, and_true, Bool.not_eq_true, Bool.true_eq_false, reduceCtorEq]
    exact newTail k hb (by omega)
def leftC (c : C5) : Int := c.1 - c.2.1
def sumR : List C5 → Int
  | [] => 0
  | c :: cs => leftC c + sumR cs
theorem sumR_set : ∀ (cs : List C5) (i : Nat) (c : C5) (h : i < cs.length), sumR (cs.set i c) = sumR cs - leftC cs[i] + leftC c := by
  intro cs
  induction cs with
  | nil => intro i c h; simp at h
  | cons x xs ih =>
    intro i c h
    cases i with
    | zero => simp only [List.set_cons_zero, sumR, List.getElem_cons_zero]; omega
    | succ i =>
      simp only [List.set_cons_succ, sumR, List.getElem_cons_succ]
      rw [ih i c (by simpa using h)]; omega
theorem sumR_app (cs : List C5) (c : C5) : sumR (cs ++ [c]) = sumR cs + leftC c := by
  induction cs with
  | nil => simp [sumR]
  | cons x xs ih => simp only [List.cons_append, sumR, ih]; omega
theorem left_bd {d lo m : Int} {cs : List C5} (hs : shopB d lo cs m = true) (i : Nat) (h : i < cs.length) : 0 ≤ leftC cs[i] ∧ leftC cs[i] ≤ 500 := by
  have hc := (rowsB_iff.1 (shopB_of hs).2.2.2.2 i _ (List.getElem?_eq_getElem h)).1
  unfold carpB at hc; simp only [Bool.and_eq_true, inB_iff] at hc
  unfold leftC; omega
theorem rowsL (d lo m : Int) {cs : List C5} (hs : shopB d lo cs m = true) : ∀ (e K i : Nat) (x : Int), i + e = cs.length → e < K → 0 ≤ x ∧ x + 500 * e ≤ 1000000 → impl_RowsLeft.l7 K x cs cs.length (i : Int) = some (x + sumR (cs.drop i), true) := by
  have a4 := (shopB_of hs).2.2.2.1
  intro e
  induction e with
  | zero =>
    intro K i x h1 h2 h3
    obtain ⟨K, rfl⟩ := succ_of (show 0 < K by omega)
    rw [List.drop_of_length_le (by omega)]
    simp (disch := omega) only [impl_RowsLeft.l7, impl_RowsLeft.b7, if_neg, sumR, Int.add_zero]
  | succ e ih =>
    intro K i x h1 h2 h3
    obtain ⟨K, rfl⟩ := succ_of (show 0 < K by omega)
    have hi : i < cs.length := by omega
    have hb := left_bd hs i hi
    unfold leftC at hb
    rw [List.drop_eq_getElem_cons hi]
    simp (disch := omega) only [impl_RowsLeft.l7, impl_RowsLeft.b7, if_pos, chk_nat, Option.bind_some, getD_lt hi, w64_id, sumR]
    rw [show ((i : Int) + 1) = ((i + 1 : Nat) : Int) by omega, ih K (i + 1) _ (by omega) (by omega) (by omega)]
    unfold leftC; rw [Int.add_assoc]
theorem rowsLeft_eq (k : Nat) {d lo m : Int} {cs : List C5} (hs : shopB d lo cs m = true) (hk : 400 ≤ k) : impl_RowsLeft.f k d lo cs m = some (sumR cs, true) := by
  have a4 := (shopB_of hs).2.2.2.1
  unfold impl_RowsLeft.f impl_RowsLeft.m
  rw [isShop_eq k _ _ _ _ (by omega), hs]; simp only [Option.bind_some, Bool.not_true, Bool.not_false, cond_true, cond_false, Bool.true_and, Bool.false_and, Bool.and_true, Bool.and_false, Bool.false_eq_true, Bool.true_or, Bool.or_true, Bool.false_or, Bool.or_false, Bool.or_self, Bool.and_self, decide_true, decide_false, if_true, if_false, not_true, not_false_eq_true, not_true_eq_false, false_or, or_false, true_and, and_true, Bool.not_eq_true, Bool.true_eq_false, reduceCtorEq]
  have := rowsL d lo m hs cs.length k 0 0 (by omega) (by omega) (by omega)
  rw [show ((0 : Nat) : Int) = 0 from rfl, Int.zero_add, List.drop_zero] at this
  exact this
theorem stepS_sum {day looms money kind carpet value day' looms' money' : Int} {cs cs' : List C5} (hs : shopB day looms cs money = true) (hv : -9223372036854775808 ≤ value ∧ value ≤ 9223372036854775807) (h : stepS day looms cs money kind carpet value = some (day', looms', cs', money')) : day ≤ day' ∧ money ≤ money' ∧ (kind = 4 → sumR cs - sumR cs' = value) ∧ (kind ≠ 4 → sumR cs ≤ sumR cs') := by
  have hgood := stepS_good hs hv h
  unfold stepS at h
  split at h
  case isFalse => cases h
  case isTrue hok =>
    unfold makeS at h
    by_cases k1 : kind = 1
    · rw [if_pos k1] at h
      obtain ⟨_, rfl, rfl, rfl, rfl⟩ := keepIf_some h
      unfold okStepS at hok; rw [if_pos k1] at hok; simp at hok
      exact ⟨by omega, by omega, by omega, by omega⟩
    · rw [if_neg k1] at h
      by_cases k2 : kind = 2
      · rw [if_pos k2] at h
        obtain ⟨_, rfl, rfl, rfl, rfl⟩ := keepIf_some h
        unfold okStepS at hok; rw [if_neg k1, if_pos k2, Bool.and_eq_true, inB_iff] at hok
        rw [sumR_app]
        exact ⟨by omega, by omega, by omega, by unfold leftC newC; dsimp only; omega⟩
      · rw [if_neg k2] at h
        obtain ⟨_, rfl, rfl, rfl, rfl⟩ := keepIf_some h
        obtain ⟨hr, hkk⟩ := kinds_of hok k1 k2
        obtain ⟨hg, hl⟩ := atC_get hr
        have hc := (rowsB_iff.1 (shopB_of hs).2.2.2.2 _ _ hg).1
        unfold carpB at hc; simp only [Bool.and_eq_true, inB_iff] at hc
        have hge : cs[carpet.toNat] = rdC cs carpet := (List.getElem?_eq_some_iff.1 hg).2
        rw [sumR_set _ _ _ hl, hge]
        have hv7 : kind = 7 → value ≥ 1 := by
          intro e; subst e; unfold okStepS at hok; rw [if_neg (by omega), if_neg (by omega), Bool.and_eq_true, if_neg (by omega), if_neg (by omega), if_pos rfl] at hok; simpa using hok.2
        have hv4 : kind = 4 → 1 ≤ value ∧ value ≤ 20 := by
          intro e; subst e; unfold okStepS at hok; rw [if_neg (by omega), if_neg (by omega), Bool.and_eq_true, if_neg (by omega), if_pos rfl] at hok; exact inB_iff.1 hok.2
        generalize rdC cs carpet = c at *
        refine ⟨by omega, ?_, ?_, ?_⟩
        · by_cases k7 : kind = 7
          · rw [if_pos k7]; have := hv7 k7; omega
          · rw [if_neg k7]; omega
        · intro k4; have := hv4 k4
          unfold chR leftC; rw [if_neg (by omega), if_pos k4]; dsimp only
          rw [w64_id (by omega)]; omega
        · intro k4; unfold chR leftC; rw [if_neg k4]
          split
          · dsimp only; omega
          · split
            · dsimp only; omega
            · split <;> (dsimp only; omega)
theorem shops_l18 (k0 : Nat) {l : List Int} (hb : By l) {d lo m d' lo' m' : Int} {cs cs' : List C5} (hs : shopB d lo cs m = true) (hs' : shopB d' lo' cs' m' = true) (hg : ∀ (i : Nat) (old : C5), cs[i]? = some old → ∃ c, cs'[i]? = some c ∧ GoesOn d' old c) : ∀ (e K i : Nat), i + e = cs'.length → 9000 + 2 * e ≤ K → laws_FnShops.l18 K l d lo cs m d' lo' cs' m' (i : Int) = some true := by
  have a4 := (shopB_of hs').2.2.2.1
  have b4 := (shopB_of hs).2.2.2.1
  have hrows := rowsB_iff.1 (shopB_of hs').2.2.2.2
  intro e
  induction e with
  | zero =>
    intro K i h1 h2
    obtain ⟨K, rfl⟩ := succ_of (show 0 < K by omega)
    simp (disch := omega) only [laws_FnShops.l18, laws_FnShops.b18, if_neg]
    exact runTail K hb (by omega) (fun _ _ _ _ _ _ _ _ _ => none) 0 0 0 0 0 0 0 0 0 [] []
  | succ e ih =>
    intro K i h1 h2
    obtain ⟨K, rfl⟩ := succ_of (show 0 < K by omega)
    obtain ⟨K, rfl⟩ := succ_of (show 0 < K by omega)
    have hi : i < cs'.length := by omega
    have hc := (hrows i _ (List.getElem?_eq_getElem hi)).1
    have ih' := ih K (i + 1) (by omega) (by omega)
    rw [show ((i + 1 : Nat) : Int) = (i : Int) + 1 by omega] at ih'
    have hl23 : cs'[i].2.2.1 = 4 ∨ cs'[i].2.2.1 ≠ 4 → laws_FnShops.l23 (K + 1) l d lo cs m d' lo' cs' m' (i : Int) cs'[i].1 cs'[i].2.1 cs'[i].2.2.1 cs'[i].2.2.2.1 cs'[i].2.2.2.2 = some true := fun _ => by
      simp only [laws_FnShops.l23, laws_FnShops.b23]
      rw [w64_id (x := (i : Int) + 1) (by omega)]
      by_cases s4 : cs'[i].2.2.1 = 4
      · rw [if_pos s4]
        by_cases hic : (i : Int) < (cs.length : Int)
        · rw [if_pos hic, chk_nat (by omega)]; simp only [Option.bind_some]
          have hio : i < cs.length := by omega
          rw [getD_lt hio]
          obtain ⟨c, hc1, _, _, _, _, _, hc6⟩ := hg i _ (List.getElem?_eq_getElem hio)
          rw [List.getElem?_eq_getElem hi] at hc1
          have hc1 := Option.some.inj hc1
          subst hc1
          by_cases o4 : cs[i].2.2.1 = 4
          · rw [if_neg (fun h => h o4)]; exact ih'
          · have h3 := (hc6 s4 o4).1
            rw [if_pos o4, if_neg (fun h => h h3)]; exact ih'
        · rw [if_neg hic]; exact ih'
      · rw [if_neg s4]; exact ih'
    have hl23 := hl23 (by omega)
    simp (disch := omega) only [laws_FnShops.l18, laws_FnShops.b18, if_pos, chk_nat, Option.bind_some, getD_lt hi]
    by_cases s4 : cs'[i].2.2.1 = 4
    · have hm : cs'[i].2.1 = cs'[i].1 := by
        unfold carpB at hc; rw [Bool.and_eq_true] at hc
        have := hc.2; rw [s4, if_neg (by omega), if_neg (by omega)] at this; simp at this; exact this.1
      rw [if_pos s4, if_neg (fun h => h hm)]; exact hl23
    · rw [if_neg s4]; exact hl23
theorem pure_holds : Pure := by
  intro l _ hw
  have hb := By.of hw
  refine ⟨20000, ?_⟩
  unfold laws_FnShops.f laws_FnShops.m laws_vBig.f laws_vBig.m
  simp only [Option.bind_some]
  cases decide (65536 < (l.length : Int)) with
  | true => rfl
  | false =>
  simp only [Bool.not_true, Bool.not_false, cond_true, cond_false, Bool.true_and, Bool.false_and, Bool.and_true, Bool.and_false, Bool.false_eq_true, Bool.true_or, Bool.or_true, Bool.false_or, Bool.or_false, Bool.or_self, Bool.and_self, decide_true, decide_false, if_true, if_false, not_true, not_false_eq_true, not_true_eq_false, false_or, or_false, true_and, and_true, Bool.not_eq_true, Bool.true_eq_false, reduceCtorEq]
  obtain ⟨⟨d, lo, cs, m, kind, carpet, value⟩, e, h1, h2, h3, h4⟩ := drawStep_ok 20000 hb (by omega)
  dsimp only at h1 h2 h3 h4
  unfold okS at h4
  rw [e]; simp only [Option.bind_some]
  rw [specStepShop_eq 20000 (by omega) (by omega)]; simp only [Option.bind_some]
  have hspec : spec_IsShop.f 20000 d lo cs m = some (shopB d lo cs m) := by
    unfold spec_IsShop.f spec_IsShop.m; rw [good_eq _ _ _ _ _ (by omega)]; rfl
  have tail := fun x1 x2 l3 x4 x5 x6 x7 x8 x9 l10 x11 => runTail 19999 hb (by omega) (laws_FnShops.l14 19999) x1 x2 x4 x5 x6 x7 x8 x9 x11 l3 l10
  have hl6 : ∀ x1 x2 l3 x4 x5 x6 x7 x8 x9 l10 x11 x12, laws_FnShops.l6 20000 l x1 x2 l3 x4 x5 x6 x7 x8 x9 l10 x11 x12 = laws_FnShops.b6 (laws_FnShops.l14 19999) (laws_FnShops.l39 19999) 19999 l x1 x2 l3 x4 x5 x6 x7 x8 x9 l10 x11 x12 := fun _ _ _ _ _ _ _ _ _ _ _ _ => rfl
  by_cases hs : shopB d lo cs m = true
  · rw [implStepShop_eq 20000 hs (by omega) (by omega), if_pos hs]; simp only [Option.bind_some, Bool.not_true, Bool.not_false, cond_true, cond_false, Bool.true_and, Bool.false_and, Bool.and_true, Bool.and_false, Bool.false_eq_true, Bool.true_or, Bool.or_true, Bool.false_or, Bool.or_false, Bool.or_self, Bool.and_self, decide_true, decide_false, if_true, if_false, not_true, not_false_eq_true, not_true_eq_false, false_or, or_false, true_and, and_true, Bool.not_eq_true, Bool.true_eq_false, reduceCtorEq]
    cases h : stepS d lo cs m kind carpet value with
    | none =>
      simp only [outR, Bool.not_true, Bool.not_false, cond_true, cond_false, Bool.true_and, Bool.false_and, Bool.and_true, Bool.and_false, Bool.false_eq_true, Bool.true_or, Bool.or_true, Bool.false_or, Bool.or_false, Bool.or_self, Bool.and_self, decide_true, decide_false, if_true, if_false, not_true, not_false_eq_true, not_true_eq_false, false_or, or_false, true_and, and_true, Bool.not_eq_true, Bool.true_eq_false, reduceCtorEq]
      rw [vShop_self _ _ _ _ _ (by simp) (by omega), hspec, isShop_eq _ _ _ _ _ (by omega)]; simp only [Option.bind_some, Bool.not_true, Bool.not_false, cond_true, cond_false, Bool.true_and, Bool.false_and, Bool.and_true, Bool.and_false, Bool.false_eq_true, Bool.true_or, Bool.or_true, Bool.false_or, Bool.or_false, Bool.or_self, Bool.and_self, decide_true, decide_false, if_true, if_false, not_true, not_false_eq_true, not_true_eq_false, false_or, or_false, true_and, and_true, Bool.not_eq_true, Bool.true_eq_false, reduceCtorEq]
      rw [hl6]; exact tail _ _ _ _ _ _ _ _ _ _ _
    | some r =>
      obtain ⟨d', lo', cs', m'⟩ := r
      have hg := stepS_good hs (by omega) h
      obtain ⟨b1, b2, b3, b4, b5⟩ := shopB_of hg
      obtain ⟨s1, s2, s3, s4⟩ := stepS_sum hs (by omega) h
      simp only [outR, Bool.not_true, Bool.not_false, cond_true, cond_false, Bool.true_and, Bool.false_and, Bool.and_true, Bool.and_false, Bool.false_eq_true, Bool.true_or, Bool.or_true, Bool.false_or, Bool.or_false, Bool.or_self, Bool.and_self, decide_true, decide_false, if_true, if_false, not_true, not_false_eq_true, not_true_eq_false, false_or, or_false, true_and, and_true, Bool.not_eq_true, Bool.true_eq_false, reduceCtorEq]
      rw [vShop_self _ _ _ _ _ (by omega) (by omega), hspec, isShop_eq _ _ _ _ _ (by omega), isShop_eq _ _ _ _ _ (by omega), hg]; simp only [Option.bind_some, Bool.not_true, Bool.not_false, cond_true, cond_false, Bool.true_and, Bool.false_and, Bool.and_true, Bool.and_false, Bool.false_eq_true, Bool.true_or, Bool.or_true, Bool.false_or, Bool.or_false, Bool.or_self, Bool.and_self, decide_true, decide_false, if_true, if_false, not_true, not_false_eq_true, not_true_eq_false, false_or, or_false, true_and, and_true, Bool.not_eq_true, Bool.true_eq_false, reduceCtorEq]
      rw [hl6]; unfold laws_FnShops.b6
      rw [cond_true, rowsLeft_eq _ hs (by omega), rowsLeft_eq _ hg (by omega)]; simp only [Option.bind_some, Bool.not_true, Bool.not_false, cond_true, cond_false, Bool.true_and, Bool.false_and, Bool.and_true, Bool.and_false, Bool.false_eq_true, Bool.true_or, Bool.or_true, Bool.false_or, Bool.or_false, Bool.or_self, Bool.and_self, decide_true, decide_false, if_true, if_false, not_true, not_false_eq_true, not_true_eq_false, false_or, or_false, true_and, and_true, Bool.not_eq_true, Bool.true_eq_false, reduceCtorEq]
      rw [if_neg (by omega), if_neg (by omega)]
      have hsum : ∀ cs : List C5, (∃ d lo m, shopB d lo cs m = true) → 0 ≤ sumR cs ∧ sumR cs ≤ 10000 := by
        intro cs ⟨d, lo, m, hs⟩
        have a4 := (shopB_of hs).2.2.2.1
        have : ∀ xs : List C5, (∀ c ∈ xs, 0 ≤ leftC c ∧ leftC c ≤ 500) → 0 ≤ sumR xs ∧ sumR xs ≤ 500 * xs.length := by
          intro xs
          induction xs with
          | nil => intro _; simp [sumR]
          | cons x xs ih =>
            intro hh
            have h1 := hh x List.mem_cons_self
            have h2 := ih fun c hc => hh c (List.mem_cons_of_mem _ hc)
            simp only [sumR, List.length_cons]; omega
        have h := this cs fun c hc => by
          obtain ⟨i, hi, rfl⟩ := List.getElem_of_mem hc
          exact left_bd hs i hi
        omega
      have q1 := hsum cs ⟨d, lo, m, hs⟩
      have q2 := hsum cs' ⟨d', lo', m', hg⟩
      have l14 : laws_FnShops.l14 19999 l d lo cs m d' lo' cs' m' = some true := by
        have := shops_l18 0 hb hs hg (stepS_law hs (by omega) h) cs'.length 19998 0 (by omega) (by omega)
        exact this
      rw [w64_id (by omega)]
      by_cases k4 : kind = 4
      · rw [if_pos k4, if_neg (fun hn => hn (s3 k4)), if_neg (fun hn => hn k4)]; exact l14
      · rw [if_neg k4, if_pos k4, if_neg (by have := s4 k4; omega)]; exact l14
  · have hf : impl_StepShop.f 20000 d lo cs m kind carpet value = some (0, 0, [], 0, false) := by
      unfold impl_StepShop.f impl_StepShop.m; rw [isShop_eq _ _ _ _ _ (by omega), notB hs]; rfl
    rw [hf, if_neg hs]; simp only [Option.bind_some, Bool.not_true, Bool.not_false, cond_true, cond_false, Bool.true_and, Bool.false_and, Bool.and_true, Bool.and_false, Bool.false_eq_true, Bool.true_or, Bool.or_true, Bool.false_or, Bool.or_false, Bool.or_self, Bool.and_self, decide_true, decide_false, if_true, if_false, not_true, not_false_eq_true, not_true_eq_false, false_or, or_false, true_and, and_true, Bool.not_eq_true, Bool.true_eq_false, reduceCtorEq]
    rw [vShop_self _ _ _ _ _ (by simp) (by omega), hspec, isShop_eq _ _ _ _ _ (by omega)]; simp only [Option.bind_some, Bool.not_true, Bool.not_false, cond_true, cond_false, Bool.true_and, Bool.false_and, Bool.and_true, Bool.and_false, Bool.false_eq_true, Bool.true_or, Bool.or_true, Bool.false_or, Bool.or_false, Bool.or_self, Bool.and_self, decide_true, decide_false, if_true, if_false, not_true, not_false_eq_true, not_true_eq_false, false_or, or_false, true_and, and_true, Bool.not_eq_true, Bool.true_eq_false, reduceCtorEq]
    rw [hl6]; exact tail _ _ _ _ _ _ _ _ _ _ _
end Go.Proofs.Ytahglcpndiadnaa.DFnShops
