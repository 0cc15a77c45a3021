/- Running the first line of a script alone yields the first reply of the script. -/
import Derived.Test.YtiacidpjplmgaaaGreatDoorPureFnScripta
set_option linter.unusedVariables false
set_option linter.unusedSimpArgs false
set_option maxRecDepth 100000
namespace Go.Proofs.YtiacidpjplmgaaaGreatDoor.DFnScript
open Go Go.Proofs.YtiacidpjplmgaaaGreatDoorD
theorem newShop_eq (k : Nat) (lo : Int) : spec_NewShop.f k lo = some (if inB lo 1 4 = true then (0, lo, [], 0, true) else (0, 0, [], 0, false)) := by
  unfold spec_NewShop.f spec_NewShop.m
  rw [specIn_eq]; cases inB lo 1 4 <;> rfl
theorem shopB_new {lo : Int} (h : 1 ≤ lo ∧ lo ≤ 4) : shopB 0 lo [] 0 = true := shopB_mk (by omega) h (by omega) (by simp) (by unfold rowsB; rfl)
theorem shop_l (l : List Int) (hb : By l) : ∀ (n K : Nat) (a s d lo m : Int) (cs : List C5), 0 ≤ a → a + 60 * n ≤ 1000000000 → n ≤ 40 → 3500 + n ≤ K → shopB d lo cs m = true → Yl (spec_l1Cur_shop.l4 K l a s 0 0 [] 0 d lo cs m (n : Int)) (ShopD l a (a + 60 * n + 20)) := by
  intro n
  induction n with
  | zero =>
    intro K a s d lo m cs h1 h2 h3 h4 hs
    obtain ⟨K, rfl⟩ := succ_of (show 0 < K by omega)
    obtain ⟨b1, b2, b3, b4, b5⟩ := shopB_of hs
    simp only [spec_l1Cur_shop.l4, spec_l1Cur_shop.b4]
    rw [if_neg (by omega)]
    unfold ShopD
    (refine Yl.bind (pick_ok _ _ _ (by assumption) (by omega) (by omega)) ?_; rintro ⟨vq, lq, aq, sq⟩ ⟨eq1, eq2, eq3, eq4, eq5, eq6⟩; dsimp only at *; subst eq1)
    refine Yl.ite (fun _ => ?_) fun _ => ?_
    · (refine Yl.bind (among_ok _ _ (-1) 4001 (by simp) (by intro x hx; simp at hx; omega) (by assumption) (by omega) (by omega)) ?_; rintro ⟨vq, lq, aq, sq, xq⟩ ⟨eq1, eq2, eq3, eq4, eq5, eq6⟩; dsimp only at *; subst eq1; subst eq2)
      exact Yl.ret ⟨rfl, by dsimp only; omega⟩
    refine Yl.ite (fun _ => ?_) fun _ => ?_
    · (refine Yl.bind (among_ok _ _ 0 5 (by simp) (by intro x hx; simp at hx; omega) (by assumption) (by omega) (by omega)) ?_; rintro ⟨vq, lq, aq, sq, xq⟩ ⟨eq1, eq2, eq3, eq4, eq5, eq6⟩; dsimp only at *; subst eq1; subst eq2)
      exact Yl.ret ⟨rfl, by dsimp only; omega⟩
    refine Yl.ite (fun _ => ?_) fun _ => ?_
    · (refine Yl.bind (among_ok _ _ 0 501 (by simp) (by intro x hx; simp at hx; omega) (by assumption) (by omega) (by omega)) ?_; rintro ⟨vq, lq, aq, sq, xq⟩ ⟨eq1, eq2, eq3, eq4, eq5, eq6⟩; dsimp only at *; subst eq1; subst eq2)
      (refine Yl.bind (among_ok _ _ 0 5 (by simp) (by intro x hx; simp at hx; omega) (by assumption) (by omega) (by omega)) ?_; rintro ⟨vq, lq, aq, sq, xq⟩ ⟨eq1, eq2, eq3, eq4, eq5, eq6⟩; dsimp only at *; subst eq1; subst eq2)
      (refine Yl.bind (among_ok _ _ (-1) 5 (by simp) (by intro x hx; simp at hx; omega) (by assumption) (by omega) (by omega)) ?_; rintro ⟨vq, lq, aq, sq, xq⟩ ⟨eq1, eq2, eq3, eq4, eq5, eq6⟩; dsimp only at *; subst eq1; subst eq2)
      (refine Yl.bind (among_ok _ _ 0 1 (by simp) (by intro x hx; simp at hx; omega) (by assumption) (by omega) (by omega)) ?_; rintro ⟨vq, lq, aq, sq, xq⟩ ⟨eq1, eq2, eq3, eq4, eq5, eq6⟩; dsimp only at *; subst eq1; subst eq2)
      rw [app_ok (by simp; omega)]; simp only [Option.bind_some]
      exact Yl.ret ⟨rfl, by simp; omega⟩
    refine Yl.ite (fun _ => ?_) fun _ => ?_
    · (refine Yl.bind (among_ok _ _ (-1) 1000001 (by simp) (by intro x hx; simp at hx; omega) (by assumption) (by omega) (by omega)) ?_; rintro ⟨vq, lq, aq, sq, xq⟩ ⟨eq1, eq2, eq3, eq4, eq5, eq6⟩; dsimp only at *; subst eq1; subst eq2)
      exact Yl.ret ⟨rfl, by dsimp only; omega⟩
    exact Yl.ret ⟨rfl, by dsimp only; omega⟩
  | succ n ih =>
    intro K a s d lo m cs h1 h2 h3 h4 hs
    obtain ⟨K, rfl⟩ := succ_of (show 0 < K by omega)
    obtain ⟨b1, b2, b3, b4, b5⟩ := shopB_of hs
    simp only [spec_l1Cur_shop.l4, spec_l1Cur_shop.b4]
    rw [if_pos (by omega), w64_id (x := ((n + 1 : Nat) : Int) - 1) (by omega), show ((n + 1 : Nat) : Int) - 1 = n by omega]
    refine Yl.bind (spec_l1Cur_shopStep_2_ok K s d lo m cs hb (by omega) (by omega) (by omega) (by omega)) ?_
    rintro ⟨kind, carpet, value, l', a', s', cs'⟩ ⟨e1, e2, e3, e4, e5, e6⟩
    dsimp only at *
    subst e1; subst e2
    rw [specStepShop_eq K (by omega) (by omega), if_pos hs]; simp only [Option.bind_some]
    cases h : stepS d lo cs' m kind carpet value with
    | none =>
      simp only [outR, cond_false]
      refine (ih K a' s' d lo m cs' (by omega) (by omega) (by omega) (by omega) hs).mono fun r hr => ?_
      unfold ShopD at *
      refine ⟨hr.1, ?_⟩
      omega
    | some q =>
      obtain ⟨d', lo', c', m'⟩ := q
      simp only [outR, cond_true]
      refine (ih K a' s' d' lo' m' c' (by omega) (by omega) (by omega) (by omega) (stepS_good hs (by omega) h)).mono fun r hr => ?_
      unfold ShopD at *
      refine ⟨hr.1, ?_⟩
      omega
theorem shop_ok (k : Nat) {l : List Int} {a : Int} (s : Int) (hb : By l) (h : 0 ≤ a ∧ a ≤ 1000000) (hk : 4000 ≤ k) : Yl (spec_l1Cur_shop.f k l a s) (ShopD l a (a + 3000)) := by
  unfold spec_l1Cur_shop.f spec_l1Cur_shop.m
  (refine Yl.bind (among_ok _ _ 1 4 (by simp) (by intro x hx; simp at hx; omega) (by assumption) (by omega) (by omega)) ?_; rintro ⟨vq, lq, aq, sq, xq⟩ ⟨eq1, eq2, eq3, eq4, eq5, eq6⟩; dsimp only at *; subst eq1; subst eq2)
  rw [newShop_eq, if_pos (inB_of (by omega))]; simp only [Option.bind_some]
  refine Yl.bind (pick_ok _ _ _ (by assumption) (by omega) (by omega)) ?_
  rintro ⟨n, l', a', s'⟩ ⟨e1, e2, e3, e4, e5, e6⟩
  dsimp only at *; subst e1
  obtain ⟨n, rfl⟩ := Int.eq_ofNat_of_zero_le e4
  refine (shop_l _ (by assumption) n k a' s' _ _ _ _ (by omega) (by omega) (by omega) (by omega) (shopB_new (by omega))).mono fun r hr => ?_
  unfold ShopD at *
  refine ⟨hr.1, ?_⟩
  omega
def freeL (cs : List C5) (n : Nat) : List Int := ((List.range n).map fun j => ((j + 1 : Nat) : Int)).filter fun q => cs.all fun c => !decide (c.2.2.2.1 = q)
def stateN (cs : List C5) (j : Nat) : Nat := cs.countP fun c => decide (c.2.2.1 = (j : Int))
def statesL (cs : List C5) : List Int := [(stateN cs 0 : Int), stateN cs 1, stateN cs 2, stateN cs 3, stateN cs 4]
def dayL (day since : Int) : Int := if since + 3 - day < 0 then 0 else since + 3 - day
def daysF (day : Int) (best : Int) (c : C5) : Int := if c.2.2.1 = 3 ∧ day + dayL day c.2.2.2.2 ≤ 4000 ∧ (best < 0 ∨ dayL day c.2.2.2.2 < best) then dayL day c.2.2.2.2 else best
def daysL (day : Int) (cs : List C5) : Int := cs.foldl (daysF day) (-1)
def Apart (cs : List C5) : Prop := cs.Pairwise fun d c => c.2.2.2.1 > 0 → d.2.2.2.1 ≠ c.2.2.2.1
theorem apart_of {day lo : Int} {cs : List C5} (h : rowsB day lo cs = true) : Apart cs ∧ ∀ c ∈ cs, carpB day lo c = true := by
  rw [rowsB_iff] at h
  refine ⟨List.pairwise_iff_getElem.2 fun i j hi hj hij hp => ?_, fun c hc => ?_⟩
  · exact (h j cs[j] (List.getElem?_eq_getElem hj)).2 i cs[i] hij (List.getElem?_eq_getElem hi) hp
  · obtain ⟨i, hi⟩ := List.getElem?_of_mem hc
    exact (h i c hi).1
theorem scan_foldp {β γ δ : Type} {l : List β} {d : β} {K0 : Nat} {P : Nat → γ → Prop} {L : Nat → Nat → γ → Option δ} {f : γ → β → γ} {g : γ → δ} (hs : ∀ k i a, K0 ≤ k → i < l.length → P i a → L (k + 1) i a = L k (i + 1) (f a (l.getD i d))) (hp : ∀ i a, i < l.length → P i a → P (i + 1) (f a (l.getD i d))) (he : ∀ k a, K0 ≤ k → P l.length a → L (k + 1) l.length a = some (g a)) :
    ∀ k a, P 0 a → K0 + l.length < k → L k 0 a = some (g (l.foldl f a)) := by
  have key : ∀ n i k a, P i a → i + n = l.length → K0 + n < k → L k i a = some (g ((l.drop i).foldl f a)) := by
    intro n
    induction n with
    | zero =>
      intro i k a ha h1 h2
      obtain ⟨k, rfl⟩ := succ_of (show 0 < k by omega)
      have : i = l.length := by omega
      subst this
      rw [he k a (by omega) ha, List.drop_length]
      rfl
    | succ n ih =>
      intro i k a ha h1 h2
      obtain ⟨k, rfl⟩ := succ_of (show 0 < k by omega)
      have hd : l.drop i = l.getD i d :: l.drop (i + 1) := by
        rw [getD_lt (show i < l.length by omega)]
        exact List.drop_eq_getElem_cons (by omega)
      rw [hs k i a (by omega) (by omega) ha, hd, List.foldl_cons]
      exact ih (i + 1) k _ (hp i a (by omega) ha) (by omega) (by omega)
  intro k a ha hk
  have := key l.length 0 k a ha (by omega) (by omega)
  simpa using this
theorem carp_at {day lo : Int} {cs : List C5} (h : rowsB day lo cs = true) {i : Nat} (hi : i < cs.length) : carpB day lo (cs.getD i (0, 0, 0, 0, 0)) = true := by
  rw [rowsB_iff] at h
  rw [getD_lt hi]
  exact (h i cs[i] (List.getElem?_eq_getElem hi)).1
theorem carp_bd {day lo : Int} {c : C5} (h : carpB day lo c = true) : (1 ≤ c.1 ∧ c.1 ≤ 500) ∧ (0 ≤ c.2.1 ∧ c.2.1 ≤ c.1) ∧ (0 ≤ c.2.2.1 ∧ c.2.2.1 ≤ 4) ∧ (0 ≤ c.2.2.2.2 ∧ c.2.2.2.2 ≤ day) ∧ (1 ≤ lo → 0 ≤ c.2.2.2.1 ∧ (c.2.2.2.1 = 0 ∨ c.2.2.2.1 ≤ lo)) := by
  unfold carpB at h
  simp only [Bool.and_eq_true, inB_iff] at h
  refine ⟨h.1.1.1.1, h.1.1.1.2, h.1.1.2, h.1.2, fun hlo => ?_⟩
  have h2 := h.2
  split at h2
  · rw [inB_iff] at h2; omega
  · split at h2
    · simp only [Bool.and_eq_true, decide_eq_true_eq] at h2; omega
    · simp only [Bool.and_eq_true, decide_eq_true_eq] at h2; omega
theorem freeL_succ (cs : List C5) (n : Nat) : freeL cs (n + 1) = freeL cs n ++ (if (cs.all fun c => !decide (c.2.2.2.1 = ((n + 1 : Nat) : Int))) = true then [((n + 1 : Nat) : Int)] else []) := by
  unfold freeL
  rw [List.range_succ, List.map_append, List.filter_append]
  congr 1
  simp only [List.map_cons, List.map_nil, List.filter_cons, List.filter_nil]
theorem freeL_len (cs : List C5) (n : Nat) : (freeL cs n).length ≤ n := by
  unfold freeL
  refine Nat.le_trans (List.length_filter_le _ _) ?_
  simp
theorem onB_free {day lo : Int} {cs : List C5} (h : rowsB day lo cs = true) (q : Int) (hq : 0 < q) : onB cs q < 0 ↔ (cs.all fun c => !decide (c.2.2.2.1 = q)) = true := by
  rw [onB_none, List.all_eq_true]
  obtain ⟨_, h2⟩ := apart_of h
  refine forall_congr' fun c => forall_congr' fun hc => ?_
  have := carpB_woven (h2 c hc)
  simp only [Bool.not_eq_true', decide_eq_false_iff_not]
  constructor
  · intro a e; exact a ⟨this.1 (by omega), e⟩
  · intro a e; exact a e.2
def shopZ {δ : Type} (b : Bool) (x z : δ) : δ := if b = true then x else z
theorem implFree_ok (k : Nat) (day lo m : Int) (cs : List C5) (hk : 2000 ≤ k) : impl_FreeLooms.f k day lo cs m = some (shopZ (shopB day lo cs m) (freeL cs lo.toNat, true) ([], false)) := by
  unfold impl_FreeLooms.f impl_FreeLooms.m
  rw [isShop_eq _ _ _ _ _ (by omega), Option.bind_some]
  cases hs : shopB day lo cs m with
  | false => rfl
  | true =>
    obtain ⟨b1, b2, b3, b4, b5⟩ := shopB_of hs
    rw [Bool.not_true, cond_false]
    have key : ∀ d q K : Nat, q + d = lo.toNat → 1000 + d < K → impl_FreeLooms.l7 K day lo cs m (freeL cs q) ((q : Int) + 1) = some (freeL cs lo.toNat, true) := by
      intro d
      induction d with
      | zero =>
        intro q K h1 h2
        obtain ⟨K, rfl⟩ := succ_of (show 0 < K by omega)
        show impl_FreeLooms.b7 (impl_FreeLooms.l7 K) K day lo cs m (freeL cs q) ((q : Int) + 1) = _
        unfold impl_FreeLooms.b7
        rw [if_neg (by omega), show q = lo.toNat by omega]
      | succ d ih =>
        intro q K h1 h2
        obtain ⟨K, rfl⟩ := succ_of (show 0 < K by omega)
        show impl_FreeLooms.b7 (impl_FreeLooms.l7 K) K day lo cs m (freeL cs q) ((q : Int) + 1) = _
        unfold impl_FreeLooms.b7
        have hl := freeL_len cs q
        have hi := ih (q + 1) K (by omega) (by omega)
        rw [freeL_succ] at hi
        rw [if_pos (by omega), onLoom_eq K day lo m cs (by omega) (by omega), Option.bind_some, w64_id (by omega), show (q : Int) + 1 = ((q + 1 : Nat) : Int) by omega]
        have hf := onB_free b5 ((q + 1 : Nat) : Int) (by omega)
        by_cases e : onB cs ((q + 1 : Nat) : Int) < 0
        · rw [if_pos (hf.1 e)] at hi
          rw [if_pos e, app_ok (by simp; omega), Option.bind_some]
          exact hi
        · rw [if_neg (fun x => e (hf.2 x)), List.append_nil] at hi
          rw [if_neg e]
          exact hi
    have := key lo.toNat 0 k (by omega) (by omega)
    exact this
theorem specFree_ok (k : Nat) (day lo m : Int) (cs : List C5) (hk : 2000 ≤ k) : spec_FreeLooms.f k day lo cs m = some (shopZ (shopB day lo cs m) (freeL cs lo.toNat, true) ([], false)) := by
  unfold spec_FreeLooms.f spec_FreeLooms.m
  rw [good_eq _ _ _ _ _ (by omega), Option.bind_some]
  cases hs : shopB day lo cs m with
  | false => rfl
  | true =>
    obtain ⟨b1, b2, b3, b4, b5⟩ := shopB_of hs
    rw [Bool.not_true, cond_false]
    have inner : ∀ (q : Int) (acc : List Int) (d i K : Nat) (fr : Bool), i + d = cs.length → d < K → ∃ K', K = K' + d + 1 ∧ spec_FreeLooms.l14 K day lo cs m acc q fr (i : Int) = spec_FreeLooms.l14 (K' + 1) day lo cs m acc q (fr && (cs.drop i).all fun c => !decide (c.2.2.2.1 = q)) (cs.length : Int) := by
      intro q acc d
      induction d with
      | zero =>
        intro i K fr h1 h2
        refine ⟨K - 1, by omega, ?_⟩
        have : i = cs.length := by omega
        subst this
        rw [List.drop_length, List.all_nil, Bool.and_true, show K - 1 + 1 = K by omega]
      | succ d ih =>
        intro i K fr h1 h2
        obtain ⟨K, rfl⟩ := succ_of (show 0 < K by omega)
        have hd : cs.drop i = cs.getD i (0, 0, 0, 0, 0) :: cs.drop (i + 1) := by
          rw [getD_lt (show i < cs.length by omega)]
          exact List.drop_eq_getElem_cons (by omega)
        have e : spec_FreeLooms.l14 (K + 1) day lo cs m acc q fr (i : Int) = spec_FreeLooms.l14 K day lo cs m acc q (fr && !decide ((cs.getD i (0, 0, 0, 0, 0)).2.2.2.1 = q)) ((i + 1 : Nat) : Int) := by
          show spec_FreeLooms.b14 (spec_FreeLooms.l7 K) (spec_FreeLooms.l14 K) K day lo cs m acc q fr (i : Int) = _
          unfold spec_FreeLooms.b14
          rw [if_pos (by omega), chk_nat (by omega), Option.bind_some, w64_id (by omega), show (i : Int) + 1 = ((i + 1 : Nat) : Int) by omega]
          cases fr
          · rfl
          · rw [cond_true, Bool.true_and]
            congr 1
            by_cases h : (cs.getD i (0, 0, 0, 0, 0)).2.2.2.1 = q <;> simp [h]
        obtain ⟨K', e1, e2⟩ := ih (i + 1) K (fr && !decide ((cs.getD i (0, 0, 0, 0, 0)).2.2.2.1 = q)) (by omega) (by omega)
        exact ⟨K', by omega, by rw [e, e2, hd, List.all_cons, Bool.and_assoc]⟩
    have key : ∀ d q K : Nat, q + d = lo.toNat → 1000 + 20 * d < K → spec_FreeLooms.l7 K day lo cs m (freeL cs q) ((q : Int) + 1) = some (freeL cs lo.toNat, true) := by
      intro d
      induction d with
      | zero =>
        intro q K h1 h2
        obtain ⟨K, rfl⟩ := succ_of (show 0 < K by omega)
        show spec_FreeLooms.b7 (spec_FreeLooms.l14 K) K day lo cs m (freeL cs q) ((q : Int) + 1) = _
        unfold spec_FreeLooms.b7
        rw [if_neg (by omega), show q = lo.toNat by omega]
      | succ d ih =>
        intro q K h1 h2
        obtain ⟨K, rfl⟩ := succ_of (show 0 < K by omega)
        show spec_FreeLooms.b7 (spec_FreeLooms.l14 K) K day lo cs m (freeL cs q) ((q : Int) + 1) = _
        unfold spec_FreeLooms.b7
        have hl := freeL_len cs q
        obtain ⟨K', e1, e2⟩ := inner ((q : Int) + 1) (freeL cs q) cs.length 0 K true (by omega) (by omega)
        have hi := ih (q + 1) K' (by omega) (by omega)
        rw [freeL_succ] at hi
        rw [if_pos (by omega), show (0 : Int) = ((0 : Nat) : Int) from rfl, e2, List.drop_zero, Bool.true_and]
        show spec_FreeLooms.b14 (spec_FreeLooms.l7 K') (spec_FreeLooms.l14 K') K' day lo cs m (freeL cs q) ((q : Int) + 1) _ (cs.length : Int) = _
        unfold spec_FreeLooms.b14
        rw [if_neg (by omega), w64_id (by omega), show (q : Int) + 1 = ((q + 1 : Nat) : Int) by omega]
        cases e : (cs.all fun c => !decide (c.2.2.2.1 = ((q + 1 : Nat) : Int)))
        · rw [e, if_neg (by simp), List.append_nil] at hi
          exact hi
        · rw [e, if_pos rfl] at hi
          rw [cond_true, app_ok (by simp; omega), Option.bind_some]
          exact hi
    have := key lo.toNat 0 k (by omega) (by omega)
    exact this
def bump (a : List Int) (c : C5) : List Int := a.set c.2.2.1.toNat (a.getD c.2.2.1.toNat 0 + 1)
theorem bump_fold : ∀ (cs : List C5) (a0 a1 a2 a3 a4 : Int), (∀ c ∈ cs, 0 ≤ c.2.2.1 ∧ c.2.2.1 ≤ 4) → cs.foldl bump [a0, a1, a2, a3, a4] = [a0 + stateN cs 0, a1 + stateN cs 1, a2 + stateN cs 2, a3 + stateN cs 3, a4 + stateN cs 4]
  | [], a0, a1, a2, a3, a4, _ => by simp [stateN]
  | c :: cs, a0, a1, a2, a3, a4, h => by
    have h1 := h c List.mem_cons_self
    have ih := fun b0 b1 b2 b3 b4 => bump_fold cs b0 b1 b2 b3 b4 fun d hd => h d (List.mem_cons_of_mem _ hd)
    have hN : ∀ j : Nat, stateN (c :: cs) j = stateN cs j + if c.2.2.1 = (j : Int) then 1 else 0 := fun j => by
      unfold stateN
      rw [List.countP_cons]
      by_cases e : c.2.2.1 = (j : Int) <;> simp [e]
    rw [List.foldl_cons]
    have : c.2.2.1 = 0 ∨ c.2.2.1 = 1 ∨ c.2.2.1 = 2 ∨ c.2.2.1 = 3 ∨ c.2.2.1 = 4 := by omega
    rcases this with e | e | e | e | e <;>
    · have hb : bump [a0, a1, a2, a3, a4] c = bump [a0, a1, a2, a3, a4] (0, 0, c.2.2.1, 0, 0) := rfl
      rw [hb, hN, hN, hN, hN, hN, e]
      refine Eq.trans (ih _ _ _ _ _) ?_
      simp
      try omega
theorem set5 {P : Int → Prop} {a : List Int} {i : Nat} {x : Int} (h : ∀ y ∈ a, P y) (hx : P x) : ∀ y ∈ a.set i x, P y := fun y hy => by
  rcases List.mem_or_eq_of_mem_set hy with h1 | h1
  · exact h y h1
  · rw [h1]; exact hx
theorem getD_in {P : Int → Prop} {a : List Int} {i : Nat} (h : ∀ y ∈ a, P y) (hi : i < a.length) : P (a.getD i 0) := by
  rw [getD_lt hi]
  exact h _ (List.getElem_mem hi)
theorem states_run {day lo m : Int} {cs : List C5} (hs : shopB day lo cs m = true) {L : Nat → Nat → List Int → Option (List Int × Bool)}
    (h1 : ∀ k i (a : List Int), i < cs.length → a.length = 5 → (∀ y ∈ a, 0 ≤ y ∧ y ≤ 1000) → L (k + 1) i a = L k (i + 1) (bump a (cs.getD i (0, 0, 0, 0, 0)))) (h2 : ∀ k (a : List Int), L (k + 1) cs.length a = some (a, true)) : ∀ k, cs.length < k → L k 0 [0, 0, 0, 0, 0] = some (statesL cs, true) := by
  obtain ⟨b1, b2, b3, b4, b5⟩ := shopB_of hs
  intro k hk
  have := scan_foldp (l := cs) (d := (0, 0, 0, 0, 0)) (K0 := 0) (P := fun i a => a.length = 5 ∧ ∀ y ∈ a, 0 ≤ y ∧ y ≤ (i : Int)) (L := L) (f := bump) (g := fun a => (a, true)) (fun k i a _ hi hp => h1 k i a hi hp.1 fun y hy => by have := hp.2 y hy; omega) (fun i a hi hp => ?_) (fun k a _ _ => h2 k a) k [0, 0, 0, 0, 0] ⟨rfl, by intro y hy; simp at hy; omega⟩ (by omega)
  · rw [this, bump_fold _ _ _ _ _ _ (fun c hc => (carp_bd ((apart_of b5).2 c hc)).2.2.1)]
    simp [statesL]
  · have hb := (carp_bd (carp_at b5 hi)).2.2.1
    unfold bump
    refine ⟨by rw [List.length_set]; exact hp.1, set5 (fun y hy => by have := hp.2 y hy; omega) ?_⟩
    have := getD_in hp.2 (show (cs.getD i (0, 0, 0, 0, 0)).2.2.1.toNat < a.length by rw [hp.1]; omega)
    omega
theorem implStates_ok (k : Nat) (day lo m : Int) (cs : List C5) (hk : 2000 ≤ k) : impl_CarpetStates.f k day lo cs m = some (shopZ (shopB day lo cs m) (statesL cs, true) ([], false)) := by
  unfold impl_CarpetStates.f impl_CarpetStates.m
  rw [isShop_eq _ _ _ _ _ (by omega), Option.bind_some]
  cases hs : shopB day lo cs m with
  | false => rfl
  | true =>
    obtain ⟨b1, b2, b3, b4, b5⟩ := shopB_of hs
    rw [Bool.not_true, cond_false, mkl_int (by omega), Option.bind_some]
    refine states_run hs (L := fun k i a => impl_CarpetStates.l7 k a cs (cs.length : Int) (i : Int)) (fun k i a hi ha hb => ?_) (fun k a => ?_) k (by omega)
    · show impl_CarpetStates.b7 (impl_CarpetStates.l7 k) k a cs (cs.length : Int) (i : Int) = _
      unfold impl_CarpetStates.b7
      have hc := (carp_bd (carp_at b5 hi)).2.2.1
      have hg := getD_in hb (show (cs.getD i (0, 0, 0, 0, 0)).2.2.1.toNat < a.length by rw [ha]; omega)
      rw [if_pos (by omega), chk_nat hi, Option.bind_some, chk_int (by rw [ha]; omega), Option.bind_some, Option.bind_some, w64_id (by omega), w64_id (by omega)]
      rfl
    · show impl_CarpetStates.b7 (impl_CarpetStates.l7 k) k a cs (cs.length : Int) (cs.length : Int) = _
      unfold impl_CarpetStates.b7
      rw [if_neg (by omega)]
theorem specStates_ok (k : Nat) (day lo m : Int) (cs : List C5) (hk : 2000 ≤ k) : spec_CarpetStates.f k day lo cs m = some (shopZ (shopB day lo cs m) (statesL cs, true) ([], false)) := by
  unfold spec_CarpetStates.f spec_CarpetStates.m
  rw [good_eq _ _ _ _ _ (by omega), Option.bind_some]
  cases hs : shopB day lo cs m with
  | false => rfl
  | true =>
    obtain ⟨b1, b2, b3, b4, b5⟩ := shopB_of hs
    rw [Bool.not_true, cond_false, mkl_int (by omega), Option.bind_some]
    refine states_run hs (L := fun k i a => spec_CarpetStates.l7 k day lo cs m a (i : Int)) (fun k i a hi ha hb => ?_) (fun k a => ?_) k (by omega)
    · show spec_CarpetStates.b7 (spec_CarpetStates.l7 k) k day lo cs m a (i : Int) = _
      unfold spec_CarpetStates.b7
      have hc := (carp_bd (carp_at b5 hi)).2.2.1
      have hg := getD_in hb (show (cs.getD i (0, 0, 0, 0, 0)).2.2.1.toNat < a.length by rw [ha]; omega)
      rw [if_pos (by omega), chk_nat hi, Option.bind_some, chk_int (by rw [ha]; omega), Option.bind_some, Option.bind_some, w64_id (by omega), w64_id (by omega)]
      rfl
    · show spec_CarpetStates.b7 (spec_CarpetStates.l7 k) k day lo cs m a (cs.length : Int) = _
      unfold spec_CarpetStates.b7
      rw [if_neg (by omega)]
theorem most_eq (k : Nat) (x : Int) : spec_l1Most.f k 0 x = some (if x < 0 then 0 else x) := by
  unfold spec_l1Most.f spec_l1Most.m
  split <;> rfl
def soldR (x : Int) : Int × Bool := if x < 0 then (0, false) else (x, true)
theorem dayL_bd {day since : Int} (h1 : 0 ≤ since ∧ since ≤ day) (h2 : 0 ≤ day ∧ day ≤ 4000) : 0 ≤ dayL day since ∧ dayL day since ≤ 3 := by
  unfold dayL
  split <;> omega
theorem daysF_bd {day lo : Int} {c : C5} {b : Int} (hc : carpB day lo c = true) (hd : 0 ≤ day ∧ day ≤ 4000) (hb : -1 ≤ b ∧ b ≤ 3) : -1 ≤ daysF day b c ∧ daysF day b c ≤ 3 := by
  have := dayL_bd (carp_bd hc).2.2.2.1 hd
  unfold daysF
  split <;> omega
theorem specDays_ok (k : Nat) (day lo m : Int) (cs : List C5) (hk : 2000 ≤ k) : spec_DaysToSell.f k day lo cs m = some (shopZ (shopB day lo cs m) (soldR (daysL day cs)) (0, false)) := by
  unfold spec_DaysToSell.f spec_DaysToSell.m
  rw [good_eq _ _ _ _ _ (by omega), Option.bind_some]
  cases hs : shopB day lo cs m with
  | false => rfl
  | true =>
    obtain ⟨b1, b2, b3, b4, b5⟩ := shopB_of hs
    rw [Bool.not_true, cond_false]
    refine scan_foldp (l := cs) (d := (0, 0, 0, 0, 0)) (K0 := 5) (P := fun _ b => -1 ≤ b ∧ b ≤ 3) (L := fun k i b => spec_DaysToSell.l7 k day lo cs m b (i : Int)) (f := daysF day) (g := soldR) (fun k i b _ hi hb => ?_) (fun i b hi hb => daysF_bd (carp_at b5 hi) b1 hb) (fun k b _ hb => ?_) k (-1) (by omega) (by omega)
    · show spec_DaysToSell.b7 (spec_DaysToSell.l7 k) k day lo cs m b (i : Int) = _
      unfold spec_DaysToSell.b7
      have hc := carp_bd (carp_at b5 hi)
      have hl := dayL_bd hc.2.2.2.1 b1
      rw [if_pos (by omega), chk_nat hi, Option.bind_some]
      unfold daysF
      generalize cs.getD i (0, 0, 0, 0, 0) = c at hc hl ⊢
      rw [w64_id (x := c.2.2.2.2 + 3) (by omega), w64_id (x := c.2.2.2.2 + 3 - day) (by omega), most_eq, Option.bind_some]
      rw [show (if c.2.2.2.2 + 3 - day < 0 then (0 : Int) else c.2.2.2.2 + 3 - day) = dayL day c.2.2.2.2 from rfl, w64_id (by omega), w64_id (by omega), show (i : Int) + 1 = ((i + 1 : Nat) : Int) by omega]
      by_cases q1 : c.2.2.1 = 3
      · rw [if_pos q1]
        by_cases q2 : day + dayL day c.2.2.2.2 ≤ 4000
        · rw [if_pos q2]
          by_cases q3 : b < 0
          · rw [if_pos q3, if_pos ⟨q1, q2, .inl q3⟩]
          · rw [if_neg q3]
            by_cases q4 : dayL day c.2.2.2.2 < b
            · rw [if_pos q4, if_pos ⟨q1, q2, .inr q4⟩]
            · rw [if_neg q4, if_neg (fun e => by rcases e.2.2 with e | e <;> omega)]
        · rw [if_neg q2, if_neg (fun e => q2 e.2.1)]
      · rw [if_neg q1, if_neg (fun e => q1 e.1)]
    · show spec_DaysToSell.b7 (spec_DaysToSell.l7 k) k day lo cs m b (cs.length : Int) = _
      unfold spec_DaysToSell.b7 soldR
      rw [if_neg (by omega)]
      split <;> rfl
theorem implDays_ok (k : Nat) (day lo m : Int) (cs : List C5) (hk : 2000 ≤ k) : impl_DaysToSell.f k day lo cs m = some (shopZ (shopB day lo cs m) (soldR (daysL day cs)) (0, false)) := by
  unfold impl_DaysToSell.f impl_DaysToSell.m
  rw [isShop_eq _ _ _ _ _ (by omega), Option.bind_some]
  cases hs : shopB day lo cs m with
  | false => rfl
  | true =>
    obtain ⟨b1, b2, b3, b4, b5⟩ := shopB_of hs
    rw [Bool.not_true, cond_false]
    refine scan_foldp (l := cs) (d := (0, 0, 0, 0, 0)) (K0 := 5) (P := fun _ b => -1 ≤ b ∧ b ≤ 3) (L := fun k i b => impl_DaysToSell.l7 k day lo cs m b cs (cs.length : Int) (i : Int)) (f := daysF day) (g := soldR) (fun k i b _ hi hb => ?_) (fun i b hi hb => daysF_bd (carp_at b5 hi) b1 hb) (fun k b _ hb => ?_) k (-1) (by omega) (by omega)
    · show impl_DaysToSell.b7 (impl_DaysToSell.l7 k) k day lo cs m b cs (cs.length : Int) (i : Int) = _
      unfold impl_DaysToSell.b7
      have hc := carp_bd (carp_at b5 hi)
      have hl := dayL_bd hc.2.2.2.1 b1
      rw [if_pos (by omega), chk_nat hi, Option.bind_some]
      unfold daysF
      generalize cs.getD i (0, 0, 0, 0, 0) = c at hc hl ⊢
      have hmx : max (c.2.2.2.2 + 3) day = day + dayL day c.2.2.2.2 := by unfold dayL; split <;> omega
      unfold impl_isDay.f impl_isDay.m
      rw [w64_id (x := c.2.2.2.2 + 3) (by omega), hmx, w64_id (x := day + dayL day c.2.2.2.2 - day) (by omega), show day + dayL day c.2.2.2.2 - day = dayL day c.2.2.2.2 by omega, w64_id (by omega), show (i : Int) + 1 = ((i + 1 : Nat) : Int) by omega, implIn_eq, Option.bind_some, Option.bind_some]
      by_cases q1 : c.2.2.1 = 3
      · rw [if_pos q1]
        by_cases q2 : day + dayL day c.2.2.2.2 ≤ 4000
        · rw [inB_of (by omega), cond_true]
          by_cases q3 : b < 0
          · rw [if_pos q3, if_pos ⟨q1, q2, .inl q3⟩]
          · rw [if_neg q3]
            by_cases q4 : dayL day c.2.2.2.2 < b
            · rw [if_pos q4, if_pos ⟨q1, q2, .inr q4⟩]
            · rw [if_neg q4, if_neg (fun e => by rcases e.2.2 with e | e <;> omega)]
        · rw [notB (fun e => q2 (inB_iff.1 e).2), cond_false, if_neg (fun e => q2 e.2.1)]
      · rw [if_neg q1, if_neg (fun e => q1 e.1)]
    · show impl_DaysToSell.b7 (impl_DaysToSell.l7 k) k day lo cs m b cs (cs.length : Int) (cs.length : Int) = _
      unfold impl_DaysToSell.b7 soldR
      rw [if_neg (by omega)]
      by_cases e : b < 0
      · rw [if_pos e, show max b 0 = 0 by omega, decide_eq_false (by omega)]
      · rw [if_neg e, show max b 0 = b by omega, decide_eq_true (by omega)]
def rowsF (x : Int) (c : C5) : Int := x + (c.1 - c.2.1)
theorem specRows_ok (k : Nat) (day lo m : Int) (cs : List C5) (hk : 2000 ≤ k) : spec_RowsLeft.f k day lo cs m = some (shopZ (shopB day lo cs m) (cs.foldl rowsF 0, true) (0, false)) := by
  unfold spec_RowsLeft.f spec_RowsLeft.m
  rw [good_eq _ _ _ _ _ (by omega), Option.bind_some]
  cases hs : shopB day lo cs m with
  | false => rfl
  | true =>
    obtain ⟨b1, b2, b3, b4, b5⟩ := shopB_of hs
    rw [Bool.not_true, cond_false]
    refine scan_foldp (l := cs) (d := (0, 0, 0, 0, 0)) (K0 := 5) (P := fun i b => 0 ≤ b ∧ b ≤ 500 * (i : Int)) (L := fun k i b => spec_RowsLeft.l7 k day lo cs m b (i : Int)) (f := rowsF) (g := fun x => (x, true)) (fun k i b _ hi hb => ?_) (fun i b hi hb => by have := carp_bd (carp_at b5 hi); unfold rowsF; omega) (fun k b _ hb => ?_) k 0 (by omega) (by omega)
    · show spec_RowsLeft.b7 (spec_RowsLeft.l7 k) k day lo cs m b (i : Int) = _
      unfold spec_RowsLeft.b7 rowsF
      have hc := carp_bd (carp_at b5 hi)
      rw [if_pos (by omega), chk_nat hi, Option.bind_some, Option.bind_some]
      generalize cs.getD i (0, 0, 0, 0, 0) = c at hc ⊢
      rw [w64_id (x := b + c.1) (by omega), w64_id (x := b + c.1 - c.2.1) (by omega), w64_id (by omega), show (i : Int) + 1 = ((i + 1 : Nat) : Int) by omega, show b + c.1 - c.2.1 = b + (c.1 - c.2.1) by omega]
    · show spec_RowsLeft.b7 (spec_RowsLeft.l7 k) k day lo cs m b (cs.length : Int) = _
      unfold spec_RowsLeft.b7
      rw [if_neg (by omega)]
theorem implRows_ok (k : Nat) (day lo m : Int) (cs : List C5) (hk : 2000 ≤ k) : impl_RowsLeft.f k day lo cs m = some (shopZ (shopB day lo cs m) (cs.foldl rowsF 0, true) (0, false)) := by
  unfold impl_RowsLeft.f impl_RowsLeft.m
  rw [isShop_eq _ _ _ _ _ (by omega), Option.bind_some]
  cases hs : shopB day lo cs m with
  | false => rfl
  | true =>
    obtain ⟨b1, b2, b3, b4, b5⟩ := shopB_of hs
    rw [Bool.not_true, cond_false]
    refine scan_foldp (l := cs) (d := (0, 0, 0, 0, 0)) (K0 := 5) (P := fun i b => 0 ≤ b ∧ b ≤ 500 * (i : Int)) (L := fun k i b => impl_RowsLeft.l7 k b cs (cs.length : Int) (i : Int)) (f := rowsF) (g := fun x => (x, true)) (fun k i b _ hi hb => ?_) (fun i b hi hb => by have := carp_bd (carp_at b5 hi); unfold rowsF; omega) (fun k b _ hb => ?_) k 0 (by omega) (by omega)
    · show impl_RowsLeft.b7 (impl_RowsLeft.l7 k) k b cs (cs.length : Int) (i : Int) = _
      unfold impl_RowsLeft.b7 rowsF
      have hc := carp_bd (carp_at b5 hi)
      rw [if_pos (by omega), chk_nat hi, Option.bind_some]
      generalize cs.getD i (0, 0, 0, 0, 0) = c at hc ⊢
      rw [w64_id (x := c.1 - c.2.1) (by omega), w64_id (x := b + (c.1 - c.2.1)) (by omega), w64_id (by omega), show (i : Int) + 1 = ((i + 1 : Nat) : Int) by omega]
    · show impl_RowsLeft.b7 (impl_RowsLeft.l7 k) k b cs (cs.length : Int) (cs.length : Int) = _
      unfold impl_RowsLeft.b7
      rw [if_neg (by omega)]
def nameL (s : Int) : List UInt8 := if s = 0 then [119, 97, 105, 116, 115] else if s = 1 then [119, 111, 118, 101, 110] else if s = 2 then [111, 102, 102] else if s = 3 then [119, 97, 115, 104, 101, 100] else [115, 111, 108, 100]
theorem nameL_len (s : Int) : (nameL s).length ≤ 6 := by
  unfold nameL
  (repeat' split) <;> simp
def textC (c : C5) : List UInt8 := nameL c.2.2.1 ++ [32] ++ Lib.decDigits c.2.1.toNat ++ [47] ++ Lib.decDigits c.1.toNat
def onC (c : C5) : List UInt8 := if 0 < c.2.2.2.1 then textC c ++ ([32, 111, 110, 32] ++ Lib.decDigits c.2.2.2.1.toNat) else textC c
theorem textC_len {c : C5} (h1 : 0 ≤ c.2.1 ∧ c.2.1 ≤ 500) (h2 : 0 ≤ c.1 ∧ c.1 ≤ 500) : (textC c).length ≤ 30 := by
  have d1 := digits_len c.2.1.toNat 3 (by omega) (by omega)
  have d2 := digits_len c.1.toNat 3 (by omega) (by omega)
  have : (nameL c.2.2.1).length ≤ 6 := nameL_len _
  unfold textC
  simp only [List.length_append, List.length_cons, List.length_nil]
  omega
theorem numI_ok (n : Int) (h : 0 ≤ n ∧ n ≤ 500) : ∀ k, 3 ≤ k → spec_l1Num.f k n = some (bs (Lib.decDigits n.toNat)) := by
  intro k hk
  obtain ⟨j, rfl⟩ : ∃ j : Nat, n = j := ⟨n.toNat, by omega⟩
  rw [num_ok 3 (by omega) (by omega) j (by omega) (by omega) k hk, Int.toNat_natCast]
theorem decI_ok (n : Int) (h : 0 ≤ n ∧ n ≤ 500) (k : Nat) : impl_decimal.f k n = some (bs (Lib.decDigits n.toNat)) := by
  obtain ⟨j, rfl⟩ : ∃ j : Nat, n = j := ⟨n.toNat, by omega⟩
  unfold impl_decimal.f impl_decimal.m strconv_Itoa.f
  rw [itoaF_nat (by omega), Int.toNat_natCast]
  rfl
theorem digI_len (n : Int) (h : 0 ≤ n ∧ n ≤ 500) : (Lib.decDigits n.toNat).length ≤ 3 := (digits_len n.toNat 3 (by omega) (by omega)).1
theorem cat4 (a : List UInt8) (p q : List UInt8) (ha : a.length ≤ 10) (hp : p.length ≤ 3) (hq : q.length ≤ 3) {β : Type} (f : ByteArray → Option β) (X Y : Option ByteArray) (hX : X = some (bs p)) (hY : Y = some (bs q)) :
    ((catS (bs a) (⟨#[32]⟩ : ByteArray)).bind fun s1 => (X.bind fun r1 => ((catS s1 r1).bind fun s2 => ((catS s2 (⟨#[47]⟩ : ByteArray)).bind fun s3 => (Y.bind fun r2 => ((catS s3 r2).bind fun s4 => f s4)))))) = f (bs (a ++ [32] ++ p ++ [47] ++ q)) := by
  rw [show (⟨#[32]⟩ : ByteArray) = bs [32] from rfl, show (⟨#[47]⟩ : ByteArray) = bs [47] from rfl, catS_bs (by simp; omega), Option.bind_some, hX, Option.bind_some, catS_bs (by simp; omega), Option.bind_some, catS_bs (by simp; omega), Option.bind_some, hY, Option.bind_some, catS_bs (by simp; omega), Option.bind_some]
theorem specText_ok (k : Nat) (c : C5) (h1 : 0 ≤ c.2.1 ∧ c.2.1 ≤ 500) (h2 : 0 ≤ c.1 ∧ c.1 ≤ 500) (h3 : 0 ≤ c.2.2.1 ∧ c.2.2.1 ≤ 4) (h4 : 0 ≤ c.2.2.2.1 ∧ c.2.2.2.1 ≤ 500) (hk : 3 ≤ k) : spec_l25Text.f k c.1 c.2.1 c.2.2.1 c.2.2.2.1 c.2.2.2.2 = some (bs (onC c)) := by
  have hl := textC_len h1 h2
  have d1 := digI_len _ h1
  have d2 := digI_len _ h2
  have d3 := digI_len _ h4
  have fin : ((if 0 < c.2.2.2.1 then ((catS (bs (textC c)) (⟨#[32, 111, 110, 32]⟩ : ByteArray)).bind fun s8 => ((spec_l1Num.f k c.2.2.2.1).bind fun r9 => ((catS s8 r9).bind fun s10 => (some s10)))) else (some (bs (textC c))))) = some (bs (onC c)) := by
    unfold onC
    by_cases e : 0 < c.2.2.2.1
    · rw [if_pos e, if_pos e, show (⟨#[32, 111, 110, 32]⟩ : ByteArray) = bs [32, 111, 110, 32] from rfl, catS_bs (by simp; omega), Option.bind_some, numI_ok _ h4 k hk, Option.bind_some, catS_bs (by simp; omega), Option.bind_some, List.append_assoc]
    · rw [if_neg e, if_neg e]
  unfold spec_l25Text.f spec_l25Text.m
  have hn : (chk [(⟨#[119, 97, 105, 116, 115]⟩ : ByteArray), (⟨#[119, 111, 118, 101, 110]⟩ : ByteArray), (⟨#[111, 102, 102]⟩ : ByteArray), (⟨#[119, 97, 115, 104, 101, 100]⟩ : ByteArray), (⟨#[115, 111, 108, 100]⟩ : ByteArray)].length c.2.2.1) = some c.2.2.1.toNat := chk_int (by simp; omega)
  have hg : [(⟨#[119, 97, 105, 116, 115]⟩ : ByteArray), (⟨#[119, 111, 118, 101, 110]⟩ : ByteArray), (⟨#[111, 102, 102]⟩ : ByteArray), (⟨#[119, 97, 115, 104, 101, 100]⟩ : ByteArray), (⟨#[115, 111, 108, 100]⟩ : ByteArray)].getD c.2.2.1.toNat ByteArray.empty = bs (nameL c.2.2.1) := by
    have : c.2.2.1 = 0 ∨ c.2.2.1 = 1 ∨ c.2.2.1 = 2 ∨ c.2.2.1 = 3 ∨ c.2.2.1 = 4 := by omega
    rcases this with e | e | e | e | e <;> rw [e] <;> rfl
  have hnl : (nameL c.2.2.1).length ≤ 6 := nameL_len _
  rw [hn, Option.bind_some, hg]
  refine Eq.trans (cat4 (nameL c.2.2.1) _ _ (by omega) d1 d2 _ _ _ (numI_ok _ h1 k hk) (numI_ok _ h2 k hk)) ?_
  exact fin
theorem implText_l (k : Nat) (c : C5) (h1 : 0 ≤ c.2.1 ∧ c.2.1 ≤ 500) (h2 : 0 ≤ c.1 ∧ c.1 ≤ 500) (h4 : 0 ≤ c.2.2.2.1 ∧ c.2.2.2.1 ≤ 500) : impl_CarpetText.l6 (k + 1) c.1 c.2.1 c.2.2.1 c.2.2.2.1 c.2.2.2.2 (bs (textC c)) = some (bs (onC c), true) := by
  have hl := textC_len h1 h2
  have d3 := digI_len _ h4
  show impl_CarpetText.b6 k c.1 c.2.1 c.2.2.1 c.2.2.2.1 c.2.2.2.2 (bs (textC c)) = _
  unfold impl_CarpetText.b6 onC
  by_cases e : 0 < c.2.2.2.1
  · rw [if_pos e, if_pos e, decI_ok _ h4, Option.bind_some, show (⟨#[32, 111, 110, 32]⟩ : ByteArray) = bs [32, 111, 110, 32] from rfl, catS_bs (by simp; omega), Option.bind_some, catS_bs (by simp; omega), Option.bind_some]
  · rw [if_neg e, if_neg e]
def carpetR (day lo m : Int) (cs : List C5) (i : Int) : ByteArray × Bool := if shopB day lo cs m = true ∧ 0 ≤ i ∧ i ≤ (cs.length : Int) - 1 then (bs (onC (cs.getD i.toNat (0, 0, 0, 0, 0))), true) else (bs [], false)
theorem specCarpetText_ok (k : Nat) (day lo m : Int) (cs : List C5) (i : Int) (hl : cs.length ≤ 1000) (hk : 2000 ≤ k) : spec_CarpetText.f k day lo cs m i = some (carpetR day lo m cs i) := by
  unfold spec_CarpetText.f spec_CarpetText.m carpetR
  rw [good_eq _ _ _ _ _ (by omega), Option.bind_some]
  cases hs : shopB day lo cs m with
  | false => rw [if_neg (by simp)]; rfl
  | true =>
    obtain ⟨b1, b2, b3, b4, b5⟩ := shopB_of hs
    rw [Bool.not_true, cond_false, w64_id (by omega), specIn_eq, Option.bind_some]
    by_cases h : 0 ≤ i ∧ i ≤ (cs.length : Int) - 1
    · have hi : i.toNat < cs.length := by omega
      have hc := carp_bd (carp_at b5 hi)
      have hlm := hc.2.2.2.2 (by omega)
      rw [inB_of h, Bool.not_true, cond_false, chk_int (by omega), Option.bind_some, specText_ok k (cs.getD i.toNat (0, 0, 0, 0, 0)) (by omega) (by omega) hc.2.2.1 (by omega) (by omega), Option.bind_some, if_pos ⟨rfl, h⟩]
    · rw [notB (fun e => h (inB_iff.1 e)), if_neg (fun e => h e.2)]
      rfl
theorem implCarpetText_ok (k : Nat) (day lo m : Int) (cs : List C5) (i : Int) (hl : cs.length ≤ 1000) (hk : 2000 ≤ k) : impl_CarpetText.f k day lo cs m i = some (carpetR day lo m cs i) := by
  obtain ⟨k, rfl⟩ := succ_of (show 0 < k by omega)
  unfold impl_CarpetText.f impl_CarpetText.m carpetR
  rw [isShop_eq _ _ _ _ _ (by omega), Option.bind_some]
  cases hs : shopB day lo cs m with
  | false => rw [if_neg (by simp)]; rfl
  | true =>
    obtain ⟨b1, b2, b3, b4, b5⟩ := shopB_of hs
    rw [Bool.not_true, cond_false, w64_id (by omega), implIn_eq, Option.bind_some]
    by_cases h : 0 ≤ i ∧ i ≤ (cs.length : Int) - 1
    · have hi : i.toNat < cs.length := by omega
      have hc := carp_bd (carp_at b5 hi)
      have hlm := hc.2.2.2.2 (by omega)
      rw [inB_of h, Bool.not_true, cond_false, chk_int (by omega), Option.bind_some, if_pos (show true = true ∧ 0 ≤ i ∧ i ≤ (cs.length : Int) - 1 from ⟨rfl, h⟩)]
      generalize cs.getD i.toNat (0, 0, 0, 0, 0) = c at hc hlm ⊢
      have d1 := digI_len c.2.1 (by omega)
      have d2 := digI_len c.1 (by omega)
      have fin := implText_l k c (by omega) (by omega) (by omega)
      have n1 := decI_ok c.2.1 (by omega) (k + 1)
      have n2 := decI_ok c.1 (by omega) (k + 1)
      unfold textC nameL at fin
      have : c.2.2.1 = 0 ∨ c.2.2.1 = 1 ∨ c.2.2.1 = 2 ∨ c.2.2.1 = 3 ∨ c.2.2.1 = 4 := by omega
      rcases this with e | e | e | e | e
      · rw [e] at fin ⊢
        exact Eq.trans (cat4 [119, 97, 105, 116, 115] _ _ (by simp) d1 d2 _ _ _ n1 n2) fin
      · rw [e] at fin ⊢
        exact Eq.trans (cat4 [119, 111, 118, 101, 110] _ _ (by simp) d1 d2 _ _ _ n1 n2) fin
      · rw [e] at fin ⊢
        exact Eq.trans (cat4 [111, 102, 102] _ _ (by simp) d1 d2 _ _ _ n1 n2) fin
      · rw [e] at fin ⊢
        exact Eq.trans (cat4 [119, 97, 115, 104, 101, 100] _ _ (by simp) d1 d2 _ _ _ n1 n2) fin
      · rw [e] at fin ⊢
        exact Eq.trans (cat4 [115, 111, 108, 100] _ _ (by simp) d1 d2 _ _ _ n1 n2) fin
    · rw [notB (fun e => h (inB_iff.1 e)), if_neg (fun e => h e.2)]
      rfl
def valN (a : Nat) (l : List UInt8) : Nat := l.foldl (fun a b => a * 10 + (b.toNat - 48)) a
def digB (b : UInt8) : Bool := decide (48 ≤ b.toNat) && decide (b.toNat ≤ 57)
theorem digB_of {b : UInt8} : digB b = true ↔ 48 ≤ b.toNat ∧ b.toNat ≤ 57 := by unfold digB; simp
theorem valN_app (a : Nat) (l r : List UInt8) : valN a (l ++ r) = valN (valN a l) r := List.foldl_append
theorem valN_ge : ∀ (l : List UInt8) (a : Nat), a ≤ valN a l
  | [], a => Nat.le_refl _
  | b :: l, a => by
    have := valN_ge l (a * 10 + (b.toNat - 48))
    show a ≤ valN (a * 10 + (b.toNat - 48)) l
    omega
theorem valN_digits (u : Nat) : valN 0 (Lib.decDigits u) = u := by
  induction u using Nat.strongRecOn with
  | ind u ih =>
    rw [digits_of]
    split
    · rename_i h
      show 0 * 10 + ((UInt8.ofNat (48 + u)).toNat - 48) = u
      rw [UInt8.toNat_ofNat']
      omega
    · rename_i h
      rw [valN_app, ih (u / 10) (by omega)]
      show u / 10 * 10 + ((UInt8.ofNat (48 + u % 10)).toNat - 48) = u
      rw [UInt8.toNat_ofNat']
      omega
theorem parse_ok : ∀ (l : List UInt8) (a : Nat), (∀ b ∈ l, digB b = true) → valN a l < 1000000000000000000 → Lib.parseUint10 a l = .ok (valN a l)
  | [], a, _, _ => rfl
  | b :: l, a, h, hv => by
    have hb := digB_of.1 (h b (by simp))
    have hv2 : valN (a * 10 + (b.toNat - 48)) l < 1000000000000000000 := hv
    have := valN_ge l (a * 10 + (b.toNat - 48))
    unfold Lib.parseUint10
    rw [if_pos hb, if_neg (by omega), if_neg (by omega)]
    exact parse_ok l _ (fun x hx => h x (List.mem_cons_of_mem _ hx)) hv2
theorem digits_ne (u : Nat) : Lib.decDigits u ≠ [] := fun e => by
  rw [digits_of] at e
  split at e <;> simp at e
theorem digits_B (u : Nat) : ∀ b ∈ Lib.decDigits u, digB b = true := fun b hb => digB_of.2 (digits_all u b hb)
theorem mag_ok {u : Nat} (h : u < 1000000000000000000) : Lib.parseMag (Lib.decDigits u) = .ok u := by
  unfold Lib.parseMag
  rw [if_neg (digits_ne u), parse_ok _ 0 (digits_B u) (by rw [valN_digits]; exact h), valN_digits]
theorem atoi_itoa {v : Int} (h : -999999 ≤ v ∧ v ≤ 999999) : Lib.atoiAll (Lib.itoa v) = .ok v := by
  unfold Lib.itoa
  by_cases hv : v < 0
  · rw [if_pos hv, Lib.atoiAll_minus, mag_ok (by omega)]
    unfold Lib.signed
    dsimp only
    rw [if_neg (by omega)]
    congr 1
    omega
  · rw [if_neg hv]
    have hd := digits_B v.toNat
    have hm := mag_ok (u := v.toNat) (by omega)
    cases hc : Lib.decDigits v.toNat with
    | nil => exact absurd hc (digits_ne _)
    | cons c r =>
      rw [hc] at hd hm
      have hb := digB_of.1 (hd c (by simp))
      rw [Lib.atoiAll_plain c r (by omega) (by omega), hm]
      unfold Lib.signless
      dsimp only
      rw [if_neg (by omega)]
      congr 1
      omega
def pI (l : List UInt8) : Int × Bool := parseIntR (bs l)
theorem pI_no {l : List UInt8} (h : ∀ v : Int, -999999 ≤ v → v ≤ 999999 → l ≠ Lib.itoa v) : pI l = (0, false) := by
  unfold pI parseIntR
  rw [bs_data]
  cases Lib.atoiAll l
  · rename_i v
    dsimp only
    rw [if_neg]
    rintro ⟨⟨h1, h2⟩, h3⟩
    exact h v h1 h2 (bs_inj.1 h3.symm)
  · rfl
  · rfl
theorem pI_yes {v : Int} (h : -999999 ≤ v ∧ v ≤ 999999) : pI (Lib.itoa v) = (v, true) := by
  unfold pI parseIntR
  rw [bs_data, atoi_itoa h]
  dsimp only
  rw [if_pos ⟨h, rfl⟩]
theorem pI_bd (l : List UInt8) : -999999 ≤ (pI l).1 ∧ (pI l).1 ≤ 999999 := by
  unfold pI parseIntR
  split
  · split
    · rename_i h; exact h.1
    · exact ⟨by decide, by decide⟩
  · exact ⟨by decide, by decide⟩
theorem implParse_ok (k : Nat) (l : List UInt8) (h : l.length ≤ 1000000) : impl_ParseInt.f k (bs l) = some (pI l) := by
  unfold impl_ParseInt.f parseIntF
  rw [if_pos (by rw [bs_size]; exact h)]
  rfl
theorem num_itoa {v : Int} (h : -999999 ≤ v ∧ v ≤ 999999) (k : Nat) (hk : 10 ≤ k) : spec_l1Num.f k v = some (bs (Lib.itoa v)) := by
  unfold Lib.itoa
  by_cases hv : v < 0
  · rw [if_pos hv]
    obtain ⟨k, rfl⟩ := succ_of (show 0 < k by omega)
    have h1 := num_ok 6 (by omega) (by omega) v.natAbs (by omega) (by omega) k (by omega)
    show spec_l1Num.m (spec_l1Num.f k) (k + 1) v = _
    unfold spec_l1Num.m
    rw [if_pos hv, w64_id (by omega), show (0 - v) = ((v.natAbs : Nat) : Int) by omega, h1, Option.bind_some, show (⟨#[45]⟩ : ByteArray) = bs [45] from rfl]
    have := (digits_len v.natAbs 6 (by omega) (by omega)).1
    rw [catS_bs (by simp; omega)]
    rfl
  · rw [if_neg hv]
    have h1 := num_ok 6 (by omega) (by omega) v.toNat (by omega) (by omega) k (by omega)
    rw [show ((v.toNat : Nat) : Int) = v by omega] at h1
    exact h1
theorem read_loop (k0 : Nat) {l t : List UInt8} (ht : t.length ≤ 6) : ∀ (d i a k : Nat), i + d = t.length → a < 10 ^ i → k0 + d < k → 20 ≤ k0 → spec_l1Read.l10 k (bs l) (bs t) (a : Int) (i : Int) = some (if (t.drop i).all digB = true then (if bs (Lib.itoa (if t.length < l.length then -((valN a (t.drop i) : Nat) : Int) else ((valN a (t.drop i) : Nat) : Int))) = bs l then ((if t.length < l.length then -((valN a (t.drop i) : Nat) : Int) else ((valN a (t.drop i) : Nat) : Int)), true) else (0, false)) else (0, false)) := by
  intro d
  induction d with
  | zero =>
    intro i a k h1 h2 h3 h4
    obtain ⟨k, rfl⟩ := succ_of (show 0 < k by omega)
    obtain ⟨k, rfl⟩ := succ_of (show 0 < k by omega)
    have : i = t.length := by omega
    subst this
    have ha : a < 10 ^ 6 := Nat.lt_of_lt_of_le h2 (Nat.pow_le_pow_right (by omega) ht)
    simp only [spec_l1Read.l10, spec_l1Read.b10, spec_l1Read.l17, spec_l1Read.b17]
    rw [bs_size, bs_size, if_neg (by omega), List.drop_length, w64_id (by omega)]
    have hva : valN a [] = a := rfl
    rw [hva]
    simp only [List.all_nil, if_true]
    by_cases hlt : t.length < l.length
    · rw [if_pos (by omega), if_pos hlt, show (0 - (a : Int)) = -(a : Int) by omega, num_itoa (v := -(a : Int)) (by omega) k (by omega), Option.bind_some]
      by_cases he : bs (Lib.itoa (-(a : Int))) = bs l
      · rw [if_neg (fun q => q he), if_pos he]
      · rw [if_pos he, if_neg he]
    · rw [if_neg (by omega), if_neg hlt, num_itoa (v := (a : Int)) (by omega) k (by omega), Option.bind_some]
      by_cases he : bs (Lib.itoa (a : Int)) = bs l
      · rw [if_neg (fun q => q he), if_pos he]
      · rw [if_pos he, if_neg he]
  | succ d ih =>
    intro i a k h1 h2 h3 h4
    obtain ⟨k, rfl⟩ := succ_of (show 0 < k by omega)
    have hi : i < t.length := by omega
    have hd := drop_getD (d := (0 : UInt8)) hi
    have hb := (t.getD i 0).toNat_lt
    have ha : a < 10 ^ 6 := Nat.lt_of_lt_of_le h2 (Nat.pow_le_pow_right (by omega) (by omega))
    simp only [spec_l1Read.l10, spec_l1Read.b10]
    rw [bs_size, bs_size, if_pos (by omega), chk_nat hi]
    simp only [Option.bind_some]
    rw [byteAt_bs hi, hd, List.all_cons]
    by_cases h48 : ((t.getD i 0).toNat : Int) < 48
    · rw [if_pos h48, show digB (t.getD i 0) = false from notB (fun e => by have := digB_of.1 e; omega), Bool.false_and]
      simp
    rw [if_neg h48]
    by_cases h57 : 57 < ((t.getD i 0).toNat : Int)
    · rw [if_pos h57, show digB (t.getD i 0) = false from notB (fun e => by have := digB_of.1 e; omega), Bool.false_and]
      simp
    rw [if_neg h57, show digB (t.getD i 0) = true from digB_of.2 (by omega), Bool.true_and]
    have hw : IntKind.u8.wrap (((t.getD i 0).toNat : Int) - 48) = ((t.getD i 0).toNat : Int) - 48 := by
      have hx : 0 ≤ ((t.getD i 0).toNat : Int) - 48 ∧ ((t.getD i 0).toNat : Int) - 48 ≤ 9 := by omega
      generalize ((t.getD i 0).toNat : Int) - 48 = x at hx
      unfold IntKind.wrap
      simp [IntKind.signed, IntKind.bits]
      omega
    rw [hw, w64_id (x := 10 * (a : Int)) (by omega), w64_id (x := ((t.getD i 0).toNat : Int) - 48) (by omega), w64_id (x := (i : Int) + 1) (by omega), w64_id (by omega)]
    have := ih (i + 1) (a * 10 + ((t.getD i 0).toNat - 48)) k (by omega) (by rw [Nat.pow_succ]; omega) (by omega) h4
    rw [show ((a * 10 + ((t.getD i 0).toNat - 48) : Nat) : Int) = 10 * (a : Int) + (((t.getD i 0).toNat : Int) - 48) by omega, show ((i + 1 : Nat) : Int) = (i : Int) + 1 by omega] at this
    rw [this]
    rfl
theorem itoa_pos {v : Int} (h : 0 ≤ v) : Lib.itoa v = Lib.decDigits v.toNat := if_neg (by omega)
theorem itoa_neg {v : Int} (h : v < 0) : Lib.itoa v = 45 :: Lib.decDigits v.natAbs := if_pos h
/-- What the reference reads out of a text with (or without) its sign cut off. -/
theorem read_end {l t : List UInt8} (hc : t.length < l.length ∧ l = 45 :: t ∨ t = l ∧ (∀ v : Int, v < 0 → -999999 ≤ v → l ≠ Lib.itoa v)) (k : Nat) (hk : 60 ≤ k) : spec_l1Read.l2 k (bs l) (bs t) = some (pI l) := by
  obtain ⟨k, rfl⟩ := succ_of (show 0 < k by omega)
  show spec_l1Read.b2 (spec_l1Read.l10 k) k (bs l) (bs t) = _
  unfold spec_l1Read.b2 spec_l1In.f spec_l1In.m
  rw [bs_size]
  -- what an itoa of l would say
  have hit : ∀ v : Int, -999999 ≤ v → v ≤ 999999 → l = Lib.itoa v → t = Lib.decDigits v.natAbs ∧ (v = if t.length < l.length then -(v.natAbs : Int) else (v.natAbs : Int)) := fun v h1 h2 e => by
    by_cases hv : v < 0
    · have e1 := itoa_neg hv
      rcases hc with ⟨h3, h4⟩ | ⟨h3, h4⟩
      · rw [e1, h4] at e
        have := (List.cons.inj e).2
        exact ⟨this, by rw [if_pos h3]; omega⟩
      · exact absurd e (h4 v hv h1)
    · have e1 := itoa_pos (show 0 ≤ v by omega)
      rcases hc with ⟨h3, h4⟩ | ⟨h3, h4⟩
      · exfalso
        rw [e1, h4] at e
        have := digits_B v.toNat 45 (by rw [← e]; simp)
        exact absurd this (by decide)
      · subst h3
        rw [e, e1, show v.natAbs = v.toNat by omega]
        exact ⟨rfl, by rw [if_neg (by omega)]; omega⟩
  by_cases hlen : 1 ≤ t.length ∧ t.length ≤ 6
  · rw [if_pos (by omega), decide_eq_true (by omega), Option.bind_some, Bool.not_true, cond_false]
    have hl := read_loop 20 (l := l) hlen.2 t.length 0 0 k (by omega) (by omega) (by omega) (by omega)
    rw [show ((0 : Nat) : Int) = 0 from rfl, List.drop_zero] at hl
    rw [hl]
    congr 1
    by_cases ha : t.all digB = true
    · rw [if_pos ha]
      have hval : valN 0 t < 10 ^ 6 := by
        have key : ∀ (r : List UInt8) (a i : Nat), a < 10 ^ i → r.all digB = true → valN a r < 10 ^ (i + r.length) := by
          intro r
          induction r with
          | nil => intro a i h _; exact h
          | cons b r ih =>
            intro a i h hr
            rw [List.all_cons, Bool.and_eq_true] at hr
            have hb := digB_of.1 hr.1
            have := ih (a * 10 + (b.toNat - 48)) (i + 1) (by rw [Nat.pow_succ]; omega) hr.2
            rw [List.length_cons, show i + (r.length + 1) = i + 1 + r.length by omega]
            exact this
        have := key t 0 0 (by omega) ha
        rw [Nat.zero_add] at this
        exact Nat.lt_of_lt_of_le this (Nat.pow_le_pow_right (by omega) hlen.2)
      by_cases he : bs (Lib.itoa (if t.length < l.length then -((valN 0 t : Nat) : Int) else ((valN 0 t : Nat) : Int))) = bs l
      · rw [if_pos he, ← bs_inj.1 he]
        conv => lhs; rw [bs_inj.1 he]
        refine (pI_yes ?_).symm
        split <;> omega
      · rw [if_neg he]
        refine (pI_no fun v h1 h2 e => he ?_).symm
        obtain ⟨h3, h4⟩ := hit v h1 h2 e
        rw [h3, valN_digits, ← h3, ← h4, e]
    · rw [if_neg ha]
      refine (pI_no fun v h1 h2 e => ha ?_).symm
      rw [(hit v h1 h2 e).1, List.all_eq_true]
      exact digits_B _
  · have hno : pI l = (0, false) := pI_no fun v h1 h2 e => hlen (by
      have h3 := (hit v h1 h2 e).1
      have := digits_len v.natAbs 6 (by omega) (by omega)
      rw [h3]
      omega)
    rw [hno]
    by_cases h1 : (1 : Int) ≤ (t.length : Int)
    · rw [if_pos h1, decide_eq_false (by omega)]
      rfl
    · rw [if_neg h1]
      rfl
theorem specParse_ok (k : Nat) (l : List UInt8) (hl : l.length ≤ 1000000) (hk : 60 ≤ k) : spec_ParseInt.f k (bs l) = some (pI l) := by
  have key : spec_l1Read.f k (bs l) = some (pI l) := by
    unfold spec_l1Read.f spec_l1Read.m
    rw [bs_size]
    have hsame : (∀ v : Int, v < 0 → -999999 ≤ v → l ≠ Lib.itoa v) → spec_l1Read.l2 k (bs l) (bs l) = some (pI l) := fun h => read_end (.inr ⟨rfl, h⟩) k hk
    by_cases h1 : 1 < l.length
    · rw [if_pos (by omega)]
      have hc := chk_nat (show 0 < l.length by omega)
      rw [show ((0 : Nat) : Int) = 0 from rfl] at hc
      rw [hc, Option.bind_some, byteAt_bs (by omega)]
      cases l with
      | nil => simp at h1
      | cons b r =>
        have h45 : ((b.toNat : Nat) : Int) = 45 ↔ b = 45 := ⟨fun e => UInt8.toNat_inj.1 (by show b.toNat = 45; omega), fun e => by rw [e]; rfl⟩
        show (if ((b.toNat : Nat) : Int) = 45 then _ else _) = _
        by_cases hb : b = 45
        · rw [if_pos (h45.2 hb), cut_int (by omega), Option.bind_some, bs_extract]
          have e : List.take ((1 : Int).toNat + ((((b :: r).length : Nat) : Int).toNat - (1 : Int).toNat) - (1 : Int).toNat) (List.drop (1 : Int).toNat (b :: r)) = r := by
            show List.take _ r = r
            rw [List.take_of_length_le]
            rw [List.length_cons]
            show r.length ≤ 1 + ((r.length + 1) - 1) - 1
            omega
          rw [e]
          exact read_end (.inl ⟨by simp, by rw [hb]⟩) k hk
        · rw [if_neg (fun q => hb (h45.1 q))]
          refine hsame fun v h2 h3 e => hb ?_
          rw [itoa_neg h2] at e
          exact (List.cons.inj e).1
    · rw [if_neg (by omega)]
      refine hsame fun v h2 h3 e => h1 ?_
      rw [e, itoa_neg h2]
      have := (digits_len v.natAbs 6 (by omega) (by omega)).2
      rw [List.length_cons]
      omega
  unfold spec_ParseInt.f spec_ParseInt.m
  rw [key]
  rfl
def psL (ws : List (List UInt8)) : Option (List Int) := if ws.all (fun w => (pI w).2) = true then some (ws.map fun w => (pI w).1) else none
theorem psL_len {ws : List (List UInt8)} {ns : List Int} (h : psL ws = some ns) : ns.length = ws.length := by
  unfold psL at h
  split at h
  · cases h; rw [List.length_map]
  · cases h
theorem psL_bd {ws : List (List UInt8)} {ns : List Int} (h : psL ws = some ns) : ∀ n ∈ ns, -999999 ≤ n ∧ n ≤ 999999 := by
  unfold psL at h
  split at h
  · cases h
    intro n hn
    obtain ⟨w, _, rfl⟩ := List.mem_map.1 hn
    exact pI_bd w
  · cases h
theorem implInts_ok (ws : List (List UInt8)) (hl : ws.length ≤ 2000000) (hw : ∀ w ∈ ws, w.length ≤ 1000000) (k : Nat) (hk : ws.length + 5 < k) : impl_parseInts.f k (ws.map bs) = some (match psL ws with | some ns => (ns, true) | none => ([], false)) := by
  have key : ∀ (q P : List (List UInt8)) k, ws = P ++ q → q.length < k → impl_parseInts.l4 k (P.map fun w => (pI w).1) (ws.map bs) (ws.length : Int) (P.length : Int) = some (if q.all (fun w => (pI w).2) = true then (ws.map fun w => (pI w).1, true) else ([], false)) := by
    intro q
    induction q with
    | nil =>
      intro P k h1 h2
      obtain ⟨k, rfl⟩ := succ_of (show 0 < k by omega)
      rw [List.append_nil] at h1
      subst h1
      simp only [impl_parseInts.l4, impl_parseInts.b4]
      rw [if_neg (by omega)]
      rfl
    | cons w q ih =>
      intro P k h1 h2
      obtain ⟨k, rfl⟩ := succ_of (show 0 < k by omega)
      have hlen : ws.length = P.length + (q.length + 1) := by rw [h1]; simp
      have hget : (ws.map bs).getD P.length ByteArray.empty = bs w := by rw [h1, List.map_append, List.map_cons, show P.length = (P.map bs).length by simp, getD_mid]
      rw [List.length_cons] at h2
      simp only [impl_parseInts.l4, impl_parseInts.b4]
      rw [if_pos (by omega), List.length_map, chk_nat (by omega), Option.bind_some, hget, implParse_ok k w (hw w (by rw [h1]; simp)), Option.bind_some, List.all_cons]
      cases hp : (pI w).2
      · rfl
      · rw [Bool.not_true, cond_false, app_ok (by simp; omega), Option.bind_some, w64_id (by omega), Bool.true_and]
        have := ih (P ++ [w]) k (by rw [h1]; simp) (by omega)
        rw [List.length_append, List.length_singleton, List.map_append] at this
        exact this
  have := key ws [] k rfl (by omega)
  unfold impl_parseInts.f impl_parseInts.m
  rw [List.length_map]
  refine this.trans ?_
  unfold psL
  split <;> rfl
def listT (ns : List Int) : List UInt8 := if ns = [] then [110, 111, 110, 101] else Lib.join (ns.map fun n => Lib.decDigits n.toNat) [32]
def smallL (ns : List Int) : Prop := ns.length ≤ 100 ∧ ∀ n ∈ ns, 0 ≤ n ∧ n ≤ 999999
theorem decI2 {n : Int} (h : 0 ≤ n ∧ n ≤ 999999999) (k : Nat) : impl_decimal.f k n = some (bs (Lib.decDigits n.toNat)) := by
  have := decimal_ok n.toNat k (by omega)
  rw [show ((n.toNat : Nat) : Int) = n by omega] at this
  exact this
theorem numI2 {n : Int} (h : 0 ≤ n ∧ n ≤ 999999999) (k : Nat) (hk : 20 ≤ k) : spec_l1Num.f k n = some (bs (Lib.decDigits n.toNat)) := by
  have := num_ok 9 (by omega) (by omega) n.toNat (by omega) (by omega) k (by omega)
  rw [show ((n.toNat : Nat) : Int) = n by omega] at this
  exact this
theorem dig6 {n : Int} (h : 0 ≤ n ∧ n ≤ 999999) : (Lib.decDigits n.toNat).length ≤ 6 := (digits_len n.toNat 6 (by omega) (by omega)).1
theorem tail_bd {ns : List Int} (h : ∀ n ∈ ns, 0 ≤ n ∧ n ≤ 999999) : (Lib.joinTail [32] (ns.map fun n => Lib.decDigits n.toNat)).length ≤ 7 * ns.length := by
  induction ns with
  | nil => simp [Lib.joinTail]
  | cons n ns ih =>
    have h1 := ih fun x hx => h x (List.mem_cons_of_mem _ hx)
    have h2 := dig6 (h n (by simp))
    unfold Lib.joinTail at *
    rw [List.map_cons, List.map_cons, List.flatten_cons]
    simp only [List.length_append, List.length_cons, List.length_nil]
    omega
theorem join_bd {ns : List Int} (h : ∀ n ∈ ns, 0 ≤ n ∧ n ≤ 999999) : (Lib.join (ns.map fun n => Lib.decDigits n.toNat) [32]).length ≤ 7 * ns.length := by
  cases ns with
  | nil => simp [Lib.join]
  | cons n ns =>
    have h1 := tail_bd fun x hx => h x (List.mem_cons_of_mem _ hx)
    have h2 := dig6 (h n (by simp))
    rw [List.map_cons, Lib.join_cons, List.length_append, List.length_cons]
    omega
theorem implList_ok {ns : List Int} (h : smallL ns) (k : Nat) (hk : 300 ≤ k) : impl_listText.f k ns = some (bs (listT ns)) := by
  obtain ⟨h1, h2⟩ := h
  unfold impl_listText.f impl_listText.m listT
  by_cases h0 : ns = []
  · subst h0
    rw [if_pos (by simp), if_pos rfl]
    rfl
  · have hpos : ns.length ≠ 0 := fun e => h0 (List.length_eq_zero_iff.1 e)
    rw [if_neg (by omega), if_neg h0]
    have key : ∀ (q P : List Int) k, ns = P ++ q → q.length < k → impl_listText.l7 k ((P.map fun n => Lib.decDigits n.toNat).map bs) ns (ns.length : Int) (P.length : Int) = some (bs (Lib.join (ns.map fun n => Lib.decDigits n.toNat) [32])) := by
      intro q
      induction q with
      | nil =>
        intro P k h3 h4
        obtain ⟨k, rfl⟩ := succ_of (show 0 < k by omega)
        rw [List.append_nil] at h3
        subst h3
        simp only [impl_listText.l7, impl_listText.b7]
        have := join_bd h2
        rw [if_neg (by omega)]
        unfold strings_Join.f
        rw [show (⟨#[32]⟩ : ByteArray) = bs [32] from rfl, joinF_L _ [32] (by rw [List.length_map]; omega) (by omega)]
        rfl
      | cons n q ih =>
        intro P k h3 h4
        obtain ⟨k, rfl⟩ := succ_of (show 0 < k by omega)
        have hlen : ns.length = P.length + (q.length + 1) := by rw [h3]; simp
        have hget : ns.getD P.length 0 = n := by rw [h3, getD_mid]
        have hn := h2 n (by rw [h3]; simp)
        rw [List.length_cons] at h4
        simp only [impl_listText.l7, impl_listText.b7]
        rw [if_pos (by omega), chk_nat (by omega), Option.bind_some, hget, decI2 (by omega) k, Option.bind_some, app_ok (by simp; omega), Option.bind_some, w64_id (by omega)]
        have := ih (P ++ [n]) k (by rw [h3]; simp) (by omega)
        rw [List.length_append, List.length_singleton, List.map_append, List.map_append] at this
        exact this
    exact key ns [] k rfl (by omega)
theorem specList_ok {ns : List Int} (h : smallL ns) (k : Nat) (hk : 300 ≤ k) : spec_l28List.f k ns true = some (bs (listT ns)) := by
  obtain ⟨h1, h2⟩ := h
  unfold spec_l28List.f spec_l28List.m listT
  rw [Bool.not_true, cond_false]
  cases hns : ns with
  | nil => rfl
  | cons n0 r =>
    rw [if_neg (by simp; omega), if_neg (by simp)]
    have hc := chk_nat (show 0 < (n0 :: r).length by simp)
    rw [show ((0 : Nat) : Int) = 0 from rfl] at hc
    have hn0 := h2 n0 (by rw [hns]; simp)
    rw [hc, Option.bind_some, show (n0 :: r).getD 0 0 = n0 from rfl, numI2 (by omega) k (by omega), Option.bind_some, List.map_cons, Lib.join_cons]
    have hr : ∀ n ∈ r, 0 ≤ n ∧ n ≤ 999999 := fun n hn => h2 n (by rw [hns]; exact List.mem_cons_of_mem _ hn)
    rw [hns, List.length_cons] at h1
    have key : ∀ (q P : List Int) k (acc : List UInt8), n0 :: r = P ++ q → (∀ n ∈ q, 0 ≤ n ∧ n ≤ 999999) → q.length + 30 < k → acc.length ≤ 7 * P.length → P.length + q.length ≤ 100 → spec_l28List.l10 k (n0 :: r) (bs acc) (P.length : Int) = some (bs (acc ++ Lib.joinTail [32] (q.map fun n => Lib.decDigits n.toNat))) := by
      intro q
      induction q with
      | nil =>
        intro P k acc h3 h4 h5 h6 h7
        obtain ⟨k, rfl⟩ := succ_of (show 0 < k by omega)
        simp only [spec_l28List.l10, spec_l28List.b10]
        rw [if_neg (by rw [h3]; simp)]
        simp [Lib.joinTail]
      | cons n q ih =>
        intro P k acc h3 h4 h5 h6 h7
        obtain ⟨k, rfl⟩ := succ_of (show 0 < k by omega)
        have hlen : (n0 :: r).length = P.length + (q.length + 1) := by rw [h3]; simp
        have hget : (n0 :: r).getD P.length 0 = n := by rw [h3, getD_mid]
        have hn := h4 n (by simp)
        have hd := dig6 hn
        rw [List.length_cons] at h5 h7
        simp only [spec_l28List.l10, spec_l28List.b10]
        rw [if_pos (by omega), show (⟨#[32]⟩ : ByteArray) = bs [32] from rfl, catS_bs (by simp; omega), Option.bind_some, chk_nat (by omega), Option.bind_some, hget, numI2 (by omega) k (by omega), Option.bind_some, catS_bs (by simp; omega), Option.bind_some, w64_id (by omega)]
        have := ih (P ++ [n]) k (acc ++ [32] ++ Lib.decDigits n.toNat) (by rw [h3]; simp) (fun x hx => h4 x (List.mem_cons_of_mem _ hx)) (by omega) (by simp; omega) (by simp; omega)
        rw [List.length_append, List.length_singleton] at this
        refine this.trans ?_
        simp [Lib.joinTail]
    have hd0 := dig6 hn0
    have := key r [n0] k (Lib.decDigits n0.toNat) rfl hr (by omega) (by simp; omega) (by simp; omega)
    exact this
def kindL (w : List UInt8) : Option (Int × Int × Int) := if w = [119, 97, 105, 116] then some (1, 0, 1) else if w = [111, 114, 100, 101, 114] then some (2, 0, 1) else if w = [119, 97, 114, 112] then some (3, 1, 1) else if w = [119, 101, 97, 118, 101] then some (4, 1, 1) else if w = [116, 97, 107, 101] then some (5, 1, 0) else if w = [119, 97, 115, 104] then some (6, 1, 0) else if w = [115, 101, 108, 108] then some (7, 1, 1) else none
theorem eq_bs (w v : List UInt8) : (bs w = (⟨v.toArray⟩ : ByteArray)) = (w = v) := propext (show bs w = bs v ↔ _ from bs_inj)
theorem kindOf_bs (w : List UInt8) : kindOf (bs w) = kindL w := by
  unfold kindOf kindL
  simp only [eq_bs]
def decT (n : Int) : List UInt8 := Lib.decDigits n.toNat
def wordT (d lo : Int) (cs : List C5) (m : Int) (w : List UInt8) : List UInt8 :=
  if w = [100, 97, 121] then decT d else if w = [109, 111, 110, 101, 121] then decT m else if w = [102, 114, 101, 101] then listT (freeL cs lo.toNat) else if w = [114, 111, 119, 115] then decT (cs.foldl rowsF 0) else if w = [115, 116, 97, 116, 101, 115] then listT (statesL cs) else if w = [110, 101, 120, 116] then (if daysL d cs < 0 then [63] else decT (daysL d cs)) else [63]
def carpT (cs : List C5) (i : Int) : List UInt8 := if 0 ≤ i ∧ i ≤ (cs.length : Int) - 1 then onC (cs.getD i.toNat (0, 0, 0, 0, 0)) else [63]
def askT (d lo : Int) (cs : List C5) (m : Int) (w : List UInt8) (ns : List Int) : List UInt8 :=
  if w = [99, 97, 114, 112, 101, 116] ∧ (ns.length : Int) = 1 then carpT cs (ns.getD 0 0) else if 0 < (ns.length : Int) then [63] else wordT d lo cs m w
def replyT (d lo : Int) (cs : List C5) (m k c : Int) : List UInt8 := if k = 1 then decT d else if k = 2 then decT ((cs.length : Int) - 1) else if k = 7 then decT m else carpT cs c
def stepR (d lo : Int) (cs : List C5) (m k c v : Int) : (Int × Int × List C5 × Int) × List UInt8 := match stepS d lo cs m k c v with
  | none => ((d, lo, cs, m), [63])
  | some s => (s, replyT s.1 s.2.1 s.2.2.1 s.2.2.2 k c)
def formR (d lo : Int) (cs : List C5) (m : Int) (w : List UInt8) (ns : List Int) : (Int × Int × List C5 × Int) × List UInt8 := match kindL w with
  | some (k, c, v) => if (ns.length : Int) = c + v then stepR d lo cs m k (if c = 1 then ns.getD 0 0 else 0) (if v = 1 then ns.getD (ns.length - 1) 0 else 0) else ((d, lo, cs, m), askT d lo cs m w ns)
  | none => ((d, lo, cs, m), askT d lo cs m w ns)
def cmdR (d lo : Int) (cs : List C5) (m : Int) (line : List UInt8) : (Int × Int × List C5 × Int) × List UInt8 := match psL (splitL 32 line).tail with
  | none => ((d, lo, cs, m), [63])
  | some ns => formR d lo cs m ((splitL 32 line).headD []) ns
theorem free_small {d lo m : Int} {cs : List C5} (h : shopB d lo cs m = true) : smallL (freeL cs lo.toNat) := by
  obtain ⟨b1, b2, b3, b4, b5⟩ := shopB_of h
  have := freeL_len cs lo.toNat
  refine ⟨by omega, fun n hn => ?_⟩
  unfold freeL at hn
  obtain ⟨hn, _⟩ := List.mem_filter.1 hn
  obtain ⟨j, hj, rfl⟩ := List.mem_map.1 hn
  have := List.mem_range.1 hj
  omega
theorem states_small {d lo m : Int} {cs : List C5} (h : shopB d lo cs m = true) : smallL (statesL cs) := by
  obtain ⟨b1, b2, b3, b4, b5⟩ := shopB_of h
  have hb : ∀ j, stateN cs j ≤ 8 := fun j => Nat.le_trans List.countP_le_length b4
  refine ⟨by simp [statesL], fun n hn => ?_⟩
  have h0 := hb 0; have h1 := hb 1; have h2 := hb 2; have h3 := hb 3; have h4 := hb 4
  unfold statesL at hn
  simp only [List.mem_cons, List.not_mem_nil, or_false] at hn
  rcases hn with rfl | rfl | rfl | rfl | rfl <;> omega
theorem rows_small {d lo m : Int} {cs : List C5} (h : shopB d lo cs m = true) : 0 ≤ cs.foldl rowsF 0 ∧ cs.foldl rowsF 0 ≤ 4000 := by
  obtain ⟨b1, b2, b3, b4, b5⟩ := shopB_of h
  have hc : ∀ c ∈ cs, carpB d lo c = true := (apart_of b5).2
  have key : ∀ (q : List C5) (x : Int), (∀ c ∈ q, carpB d lo c = true) → x ≤ q.foldl rowsF x ∧ q.foldl rowsF x ≤ x + 500 * q.length := by
    intro q
    induction q with
    | nil => intro x _; simp
    | cons c q ih =>
      intro x hq
      have hb := carp_bd (hq c (by simp))
      have := ih (rowsF x c) fun y hy => hq y (List.mem_cons_of_mem _ hy)
      rw [List.foldl_cons, List.length_cons]
      unfold rowsF at *
      omega
  have := key cs 0 hc
  omega
theorem days_small {d lo m : Int} {cs : List C5} (h : shopB d lo cs m = true) : -1 ≤ daysL d cs ∧ daysL d cs ≤ 3 := by
  obtain ⟨b1, b2, b3, b4, b5⟩ := shopB_of h
  have hc : ∀ c ∈ cs, carpB d lo c = true := (apart_of b5).2
  have key : ∀ (q : List C5) (x : Int), (∀ c ∈ q, carpB d lo c = true) → -1 ≤ x ∧ x ≤ 3 → -1 ≤ q.foldl (daysF d) x ∧ q.foldl (daysF d) x ≤ 3 := by
    intro q
    induction q with
    | nil => intro x _ hx; exact hx
    | cons c q ih =>
      intro x hq hx
      exact ih _ (fun y hy => hq y (List.mem_cons_of_mem _ hy)) (daysF_bd (hq c (by simp)) b1 hx)
  exact key cs (-1) hc (by omega)
/-- A step that is made keeps the carpet's place. -/
theorem step_place {d lo m k c v : Int} {cs : List C5} {s : Int × Int × List C5 × Int} (h : stepS d lo cs m k c v = some s) (k1 : ¬ k = 1) (k2 : ¬ k = 2) : 0 ≤ c ∧ c ≤ (s.2.2.1.length : Int) - 1 := by
  unfold stepS at h
  split at h
  · rename_i ho
    obtain ⟨h1, _⟩ := kinds_of ho k1 k2
    unfold makeS at h
    rw [if_neg k1, if_neg k2] at h
    obtain ⟨d', l', c', m'⟩ := s
    obtain ⟨_, _, _, rfl, _⟩ := keepIf_some h
    dsimp only
    rw [List.length_set]
    exact inB_iff.1 h1
  · cases h
theorem carpT_of {d lo m : Int} {cs : List C5} (h : shopB d lo cs m = true) (i : Int) : carpetR d lo m cs i = (if 0 ≤ i ∧ i ≤ (cs.length : Int) - 1 then (bs (carpT cs i), true) else (bs [], false)) := by
  unfold carpetR carpT
  by_cases hi : 0 ≤ i ∧ i ≤ (cs.length : Int) - 1
  · rw [if_pos ⟨h, hi⟩, if_pos hi, if_pos hi]
  · rw [if_neg (fun q => hi q.2), if_neg hi]
theorem specCarp_ok {d lo m : Int} {cs : List C5} (h : shopB d lo cs m = true) (i : Int) (k : Nat) (hk : 5000 ≤ k) : spec_l28Carpet.f k d lo cs m i = some (bs (carpT cs i)) := by
  obtain ⟨b1, b2, b3, b4, b5⟩ := shopB_of h
  unfold spec_l28Carpet.f spec_l28Carpet.m
  rw [specCarpetText_ok k d lo m cs i (by omega) (by omega), Option.bind_some, carpT_of h]
  unfold carpT
  by_cases hi : 0 ≤ i ∧ i ≤ (cs.length : Int) - 1
  · rw [if_pos hi, if_pos hi]; rfl
  · rw [if_neg hi, if_neg hi]; rfl
theorem implReply_ok {d lo m k c v : Int} {cs : List C5} {s : Int × Int × List C5 × Int} (hs : stepS d lo cs m k c v = some s) (hg : shopB s.1 s.2.1 s.2.2.1 s.2.2.2 = true) (f : Nat) (hf : 5000 ≤ f) : impl_Shop_stepReply.f f s.1 s.2.1 s.2.2.1 s.2.2.2 k c v = some (bs (replyT s.1 s.2.1 s.2.2.1 s.2.2.2 k c)) := by
  obtain ⟨b1, b2, b3, b4, b5⟩ := shopB_of hg
  have hp := step_place hs
  have hlen : k = 2 → 1 ≤ s.2.2.1.length := fun e => by
    subst e
    unfold stepS at hs
    split at hs
    · unfold makeS at hs
      rw [if_neg (by omega), if_pos rfl] at hs
      obtain ⟨d', l', c', m'⟩ := s
      obtain ⟨_, _, _, rfl, _⟩ := keepIf_some hs
      dsimp only
      simp
    · cases hs
  unfold impl_Shop_stepReply.f impl_Shop_stepReply.m replyT
  by_cases k1 : k = 1
  · rw [if_pos k1, if_pos k1, decI2 (by omega) f]; rfl
  by_cases k2 : k = 2
  · have := hlen k2
    rw [if_neg k1, if_neg k1, if_pos k2, if_pos k2, w64_id (by omega), decI2 (by omega) f]; rfl
  by_cases k7 : k = 7
  · rw [if_neg k1, if_neg k1, if_neg k2, if_neg k2, if_pos k7, if_pos k7, decI2 (by omega) f]; rfl
  rw [if_neg k1, if_neg k1, if_neg k2, if_neg k2, if_neg k7, if_neg k7, implCarpetText_ok f _ _ _ _ c (by omega) (by omega), Option.bind_some, carpT_of hg, if_pos (hp k1 k2)]
theorem specMakeR_ok {d lo m k c v : Int} {cs : List C5} (hg : shopB d lo cs m = true) (hv : -9223372036854775808 ≤ v ∧ v ≤ 9223372036854775807) (D Q : ByteArray) (n : Int) (f : Nat) (hf : 5000 ≤ f) :
    spec_l28Make.f f d lo cs m D Q n k c v = some ((stepR d lo cs m k c v).1.1, (stepR d lo cs m k c v).1.2.1, (stepR d lo cs m k c v).1.2.2.1, (stepR d lo cs m k c v).1.2.2.2, D, Q, n, bs (stepR d lo cs m k c v).2) := by
  obtain ⟨b1, b2, b3, b4, b5⟩ := shopB_of hg
  unfold spec_l28Make.f spec_l28Make.m
  rw [specStepShop_eq f (by omega) (by omega), Option.bind_some, if_pos hg]
  cases hs : stepS d lo cs m k c v with
  | none =>
    have hR : stepR d lo cs m k c v = ((d, lo, cs, m), [63]) := by unfold stepR; rw [hs]
    rw [hR]
    rfl
  | some s =>
    have hR : stepR d lo cs m k c v = (s, replyT s.1 s.2.1 s.2.2.1 s.2.2.2 k c) := by unfold stepR; rw [hs]
    rw [hR]
    have hg2 : shopB s.1 s.2.1 s.2.2.1 s.2.2.2 = true := stepS_good hg hv hs
    obtain ⟨e1, e2, e3, e4, e5⟩ := shopB_of hg2
    have hlen : k = 2 → 1 ≤ s.2.2.1.length := fun e => by
      subst e
      unfold stepS at hs
      split at hs
      · unfold makeS at hs
        rw [if_neg (by omega), if_pos rfl] at hs
        obtain ⟨d', l', c', m'⟩ := s
        obtain ⟨_, _, _, rfl, _⟩ := keepIf_some hs
        dsimp only
        simp
      · cases hs
    have hO : outR (some s) = (s.1, s.2.1, s.2.2.1, s.2.2.2, true) := rfl
    rw [hO]
    dsimp only
    rw [Bool.not_true, cond_false]
    unfold replyT
    by_cases k1 : k = 1
    · rw [if_pos k1, if_pos k1, numI2 (by omega) f (by omega)]; rfl
    by_cases k2 : k = 2
    · have := hlen k2
      rw [if_neg k1, if_neg k1, if_pos k2, if_pos k2, w64_id (by omega), numI2 (by omega) f (by omega)]; rfl
    by_cases k7 : k = 7
    · rw [if_neg k1, if_neg k1, if_neg k2, if_neg k2, if_pos k7, if_pos k7, numI2 (by omega) f (by omega)]; rfl
    rw [if_neg k1, if_neg k1, if_neg k2, if_neg k2, if_neg k7, if_neg k7, specCarp_ok hg2 c f hf]; rfl
theorem specWord_ok {d lo m : Int} {cs : List C5} (hg : shopB d lo cs m = true) (w : List UInt8) (f : Nat) (hf : 5000 ≤ f) : spec_l28Word.f f d lo cs m (bs w) = some (bs (wordT d lo cs m w)) := by
  obtain ⟨b1, b2, b3, b4, b5⟩ := shopB_of hg
  have hr := rows_small hg
  have hd := days_small hg
  unfold spec_l28Word.f spec_l28Word.m wordT
  simp only [eq_bs]
  rw [specFree_ok f d lo m cs (by omega), specRows_ok f d lo m cs (by omega), specStates_ok f d lo m cs (by omega), specDays_ok f d lo m cs (by omega), hg]
  unfold shopZ
  simp only [if_true, Option.bind_some]
  rw [numI2 (n := d) (by omega) f (by omega), numI2 (n := m) (by omega) f (by omega), numI2 (n := cs.foldl rowsF 0) (by omega) f (by omega), specList_ok (free_small hg) f (by omega), specList_ok (states_small hg) f (by omega)]
  simp only [Option.bind_some]
  unfold soldR
  by_cases h0 : daysL d cs < 0
  · rw [if_pos h0, if_pos h0]
    simp only [cond_false]
    repeat' split
    all_goals rfl
  · rw [if_neg h0, if_neg h0]
    simp only [cond_true]
    rw [numI2 (n := daysL d cs) (by omega) f (by omega)]
    simp only [Option.bind_some]
    repeat' split
    all_goals rfl
theorem implAsk_ok {d lo m : Int} {cs : List C5} (hg : shopB d lo cs m = true) (w : List UInt8) (ns : List Int) (hl : ns.length ≤ 1000000) (f : Nat) (hf : 5000 ≤ f) : ∃ r b, impl_Shop_ask.f f d lo cs m (bs w) ns = some (r, b) ∧ (if b = true then r else bs [63]) = bs (askT d lo cs m w ns) := by
  obtain ⟨b1, b2, b3, b4, b5⟩ := shopB_of hg
  have hr := rows_small hg
  have hd := days_small hg
  obtain ⟨f, rfl⟩ := succ_of (show 0 < f by omega)
  unfold impl_Shop_ask.f impl_Shop_ask.m askT
  simp only [eq_bs, impl_Shop_ask.l2, impl_Shop_ask.b2]
  by_cases hc : w = [99, 97, 114, 112, 101, 116]
  · rw [if_pos hc]
    by_cases h1 : (ns.length : Int) = 1
    · have hck := chk_nat (show 0 < ns.length by omega)
      rw [show ((0 : Nat) : Int) = 0 from rfl] at hck
      rw [decide_eq_true h1, cond_true, hck, Option.bind_some, implCarpetText_ok f _ _ _ _ _ (by omega) (by omega), Option.bind_some, if_pos ⟨hc, h1⟩, carpT_of hg]
      refine ⟨_, _, rfl, ?_⟩
      unfold carpT
      by_cases hi : 0 ≤ ns.getD 0 0 ∧ ns.getD 0 0 ≤ (cs.length : Int) - 1
      · rw [if_pos hi, if_pos hi, if_pos rfl]
      · rw [if_neg hi, if_neg hi, if_neg (by simp)]
    · rw [decide_eq_false h1, cond_false, if_neg (show ¬ (w = [99, 97, 114, 112, 101, 116] ∧ (ns.length : Int) = 1) from fun q => h1 q.2)]
      by_cases h0 : 0 < (ns.length : Int)
      · rw [if_pos h0, if_pos h0]
        exact ⟨_, _, rfl, rfl⟩
      · rw [if_neg h0, if_neg h0, hc]
        exact ⟨_, _, rfl, rfl⟩
  · rw [if_neg hc, cond_false, if_neg (show ¬ (w = [99, 97, 114, 112, 101, 116] ∧ (ns.length : Int) = 1) from fun q => hc q.1)]
    by_cases h0 : 0 < (ns.length : Int)
    · rw [if_pos h0, if_pos h0]
      exact ⟨_, _, rfl, rfl⟩
    rw [if_neg h0, if_neg h0, implFree_ok f d lo m cs (by omega), implRows_ok f d lo m cs (by omega), implStates_ok f d lo m cs (by omega), implDays_ok f d lo m cs (by omega), hg]
    unfold shopZ wordT
    simp only [if_true, Option.bind_some]
    have hs : 0 ≤ (soldR (daysL d cs)).1 ∧ (soldR (daysL d cs)).1 ≤ 3 := by
      unfold soldR
      split
      · exact ⟨by decide, by decide⟩
      · dsimp only; omega
    rw [decI2 (n := d) (by omega) f, decI2 (n := m) (by omega) f, decI2 (n := cs.foldl rowsF 0) (by omega) f, implList_ok (free_small hg) f (by omega), implList_ok (states_small hg) f (by omega), decI2 (n := (soldR (daysL d cs)).1) (by omega) f]
    simp only [Option.bind_some]
    repeat' split
    all_goals refine ⟨_, _, rfl, ?_⟩
    all_goals first
      | rfl
      | (unfold soldR; rename_i hq; rw [if_pos hq]; rfl)
      | (unfold soldR; rename_i hq; rw [if_neg hq]; rfl)
theorem word_len (c : UInt8) (l : List UInt8) : ∀ w ∈ splitL c l, w.length ≤ l.length := fun w hw => by
  have h1 := (List.sublist_flatten_of_mem hw).length_le
  rw [splitL_flat] at h1
  exact Nat.le_trans h1 (List.length_filter_le _ _)
theorem words_of (c : UInt8) (l : List UInt8) : ∃ w ws, splitL c l = w :: ws := by
  cases h : splitL c l with
  | nil => exact absurd h (splitL_ne c l)
  | cons r rs => exact ⟨r, rs, rfl⟩
theorem stepOf_some (w : List UInt8) (ns : List Int) (f : Nat) (hl : ns.length ≤ 1000000) : impl_stepOf.f f (bs w) ns = some (match kindL w with
    | none => (0, 0, 0, false)
    | some (k, c, v) => if (ns.length : Int) = c + v then (k, if c = 1 then ns.getD 0 0 else 0, if v = 1 then ns.getD (ns.length - 1) 0 else 0, true) else (0, 0, 0, false)) := by
  unfold impl_stepOf.f stepOfF
  rw [if_pos hl, kindOf_bs]
  cases h : kindL w with
  | none => rfl
  | some x =>
    obtain ⟨k, c, v⟩ := x
    dsimp only
    split <;> rfl
theorem getD_bd {ns : List Int} (h : ∀ n ∈ ns, -999999 ≤ n ∧ n ≤ 999999) (i : Nat) : -999999 ≤ ns.getD i 0 ∧ ns.getD i 0 ≤ 999999 := by
  rcases Nat.lt_or_ge i ns.length with hi | hi
  · rw [getD_lt hi]; exact h _ (List.getElem_mem hi)
  · rw [List.getD_eq_getElem?_getD, List.getElem?_eq_none hi]; exact ⟨by decide, by decide⟩
theorem implStepR_ok {d lo m k c v : Int} {cs : List C5} (hg : shopB d lo cs m = true) (hv : -9223372036854775808 ≤ v ∧ v ≤ 9223372036854775807) (f : Nat) (hf : 5000 ≤ f) {β : Type} (K1 : Int × Int × List C5 × Int × Bool → Option β) :
    (impl_Shop_step.f f d lo cs m k c v).bind K1 = K1 (outR (stepS d lo cs m k c v)) := by
  rw [implStep_eq f hg (by omega), step_eq hg hv]
  rfl
theorem implExec_ok {d lo m : Int} {cs : List C5} (hg : shopB d lo cs m = true) (line : List UInt8) (hl : line.length ≤ 999990) (f : Nat) (hf : 2000000 ≤ f) :
    impl_Shop_execute.f f d lo cs m (bs line) = some ((cmdR d lo cs m line).1.1, (cmdR d lo cs m line).1.2.1, (cmdR d lo cs m line).1.2.2.1, (cmdR d lo cs m line).1.2.2.2, bs (cmdR d lo cs m line).2) := by
  obtain ⟨w0, ws, hw⟩ := words_of 32 line
  have hlen := splitL_len 32 line
  have hwl := word_len 32 line
  unfold impl_Shop_execute.f impl_Shop_execute.m cmdR
  unfold strings_Split.f
  rw [show (⟨#[32]⟩ : ByteArray) = bs [32] from rfl, splitF_L 32 line (by omega), Option.bind_some]
  rw [hw] at hlen hwl ⊢
  rw [List.length_cons] at hlen
  rw [List.tail_cons, List.headD_cons]
  rw [List.map_cons, List.length_cons, List.length_map, cut_int (by omega), Option.bind_some]
  have ht : (List.drop (1 : Int).toNat (bs w0 :: ws.map bs)).take ((((ws.length + 1 : Nat) : Int)).toNat - (1 : Int).toNat) = ws.map bs := by
    show List.take _ (ws.map bs) = _
    rw [List.take_of_length_le]
    rw [List.length_map]
    show ws.length ≤ ws.length + 1 - 1
    omega
  dsimp only
  rw [ht, implInts_ok ws (by omega) (fun w h => by have := hwl w (List.mem_cons_of_mem _ h); omega) f (by omega), Option.bind_some]
  cases hp : psL ws with
  | none => rfl
  | some ns =>
    have hnl := psL_len hp
    have hnb := psL_bd hp
    have hck := chk_nat (show 0 < ws.length + 1 by omega)
    rw [show ((0 : Nat) : Int) = 0 from rfl] at hck
    dsimp only
    rw [Bool.not_true, cond_false, hck]
    simp only [Option.bind_some]
    rw [show (bs w0 :: ws.map bs).getD 0 ByteArray.empty = bs w0 from rfl, stepOf_some w0 ns f (by omega), Option.bind_some]
    obtain ⟨r, b, ha1, ha2⟩ := implAsk_ok hg w0 ns (by omega) f (by omega)
    have hask : ((impl_Shop_ask.f f d lo cs m (bs w0) ns).bind fun r9 => (cond (!r9.2) (some (d, lo, cs, m, (⟨#[63]⟩ : ByteArray))) (some (d, lo, cs, m, r9.1)))) = some (d, lo, cs, m, bs (askT d lo cs m w0 ns)) := by
      rw [ha1, Option.bind_some, ← ha2]
      cases b <;> rfl
    unfold formR
    cases hk : kindL w0 with
    | none =>
      dsimp only
      rw [cond_false, hask]
    | some x =>
      obtain ⟨k, c, v⟩ := x
      dsimp only
      by_cases hq : (ns.length : Int) = c + v
      · rw [if_pos hq, if_pos hq]
        dsimp only
        have hv : -9223372036854775808 ≤ (if v = 1 then ns.getD (ns.length - 1) 0 else 0) ∧ (if v = 1 then ns.getD (ns.length - 1) 0 else 0) ≤ 9223372036854775807 := by
          have := getD_bd hnb (ns.length - 1)
          split <;> omega
        generalize (if c = 1 then ns.getD 0 0 else 0) = c' at *
        generalize (if v = 1 then ns.getD (ns.length - 1) 0 else 0) = v' at *
        rw [cond_true, implStepR_ok hg hv f (by omega)]
        cases hs : stepS d lo cs m k c' v' with
        | none =>
          have hR : stepR d lo cs m k c' v' = ((d, lo, cs, m), [63]) := by unfold stepR; rw [hs]
          rw [hR]
          rfl
        | some s =>
          have hR : stepR d lo cs m k c' v' = (s, replyT s.1 s.2.1 s.2.2.1 s.2.2.2 k c') := by unfold stepR; rw [hs]
          have hO : outR (some s) = (s.1, s.2.1, s.2.2.1, s.2.2.2, true) := rfl
          rw [hR, hO]
          dsimp only
          rw [Bool.not_true, cond_false, implReply_ok hs (stepS_good hg hv hs) f (by omega), Option.bind_some]
      · rw [if_neg hq, if_neg hq]
        dsimp only
        rw [cond_false, hask]
theorem psL_zero {ws : List (List UInt8)} (h : psL ws = some []) : ws = [] := List.length_eq_zero_iff.1 (psL_len h).symm
theorem specRun_ok {d lo m : Int} {cs : List C5} (hg : shopB d lo cs m = true) (D Q : ByteArray) (n : Int) (line : List UInt8) (hl : line.length ≤ 999990) (f : Nat) (hf : 2000000 ≤ f) :
    spec_l28Run.f f d lo cs m D Q n (bs line) = some ((cmdR d lo cs m line).1.1, (cmdR d lo cs m line).1.2.1, (cmdR d lo cs m line).1.2.2.1, (cmdR d lo cs m line).1.2.2.2, D, Q, n, bs (cmdR d lo cs m line).2) := by
  obtain ⟨w0, ws, hw⟩ := words_of 32 line
  have hlen := splitL_len 32 line
  have hwl := word_len 32 line
  have hjoin := join_split 32 line
  unfold spec_l28Run.f spec_l28Run.m cmdR
  have hs := splitS_ok line 32 (by omega) (by omega) f (by omega)
  rw [show ((32 : Nat) : Int) = 32 from rfl, show UInt8.ofNat 32 = 32 from rfl] at hs
  rw [hs, Option.bind_some]
  rw [hw] at hlen hwl hjoin ⊢
  rw [List.length_cons] at hlen
  rw [List.tail_cons, List.headD_cons]
  -- what stands at the end of the numbers
  have hE : ∀ k ns, psL ws = some ns → 10000 ≤ k → spec_l28Run.l5 k (bs line) d lo cs m D Q n 0 0 [] 0 ByteArray.empty ByteArray.empty 0 ((w0 :: ws).map bs) ns ((ws.length + 1 : Nat) : Int) = some ((formR d lo cs m w0 ns).1.1, (formR d lo cs m w0 ns).1.2.1, (formR d lo cs m w0 ns).1.2.2.1, (formR d lo cs m w0 ns).1.2.2.2, D, Q, n, bs (formR d lo cs m w0 ns).2) := by
    intro k ns hp hk
    obtain ⟨k, rfl⟩ := succ_of (show 0 < k by omega)
    have hnl := psL_len hp
    have hnb := psL_bd hp
    simp only [spec_l28Run.l5, spec_l28Run.b5]
    rw [List.length_map, List.length_cons, if_neg (by omega)]
    have hck := chk_nat (show 0 < ws.length + 1 by omega)
    rw [show ((0 : Nat) : Int) = 0 from rfl] at hck
    have hg0 : ((w0 :: ws).map bs).getD 0 ByteArray.empty = bs w0 := rfl
    have hmk : ∀ k1 c1 v1, -9223372036854775808 ≤ v1 → v1 ≤ 9223372036854775807 → spec_l28Make.f k d lo cs m D Q n k1 c1 v1 = some ((stepR d lo cs m k1 c1 v1).1.1, (stepR d lo cs m k1 c1 v1).1.2.1, (stepR d lo cs m k1 c1 v1).1.2.2.1, (stepR d lo cs m k1 c1 v1).1.2.2.2, D, Q, n, bs (stepR d lo cs m k1 c1 v1).2) := fun k1 c1 v1 h1 h2 => specMakeR_ok hg ⟨h1, h2⟩ D Q n k (by omega)
    match ns, hp, hnl, hnb with
    | [], hp, hnl, hnb =>
      have hws0 := psL_zero hp
      subst hws0
      rw [Lib.join_one] at hjoin
      subst hjoin
      rw [if_pos (by simp), specWord_ok hg w0 k (by omega), Option.bind_some]
      have hF : formR d lo cs m w0 [] = ((d, lo, cs, m), wordT d lo cs m w0) := by
        have ha : askT d lo cs m w0 [] = wordT d lo cs m w0 := by
          unfold askT
          rw [if_neg (by simp), if_neg (by simp)]
        unfold formR
        cases hk : kindL w0 with
        | none => dsimp only; rw [ha]
        | some x =>
          obtain ⟨k1, c1, v1⟩ := x
          dsimp only
          rw [if_neg, ha]
          have := (kindOf_cv ((kindOf_bs w0).trans hk)).2
          simp only [List.length_nil]
          omega
      rw [hF]
    | [a], hp, hnl, hnb =>
      have ha := hnb a (by simp)
      have hck1 := chk_nat (show 0 < [a].length by simp)
      rw [show ((0 : Nat) : Int) = 0 from rfl] at hck1
      rw [if_neg (by simp), if_pos (by simp), hck]
      simp only [Option.bind_some]
      rw [hck1]
      simp only [Option.bind_some]
      rw [hg0, show [a].getD 0 0 = a from rfl]
      unfold spec_l28One.f spec_l28One.m
      simp only [eq_bs]
      rw [hmk 1 0 a (by omega) (by omega), hmk 2 0 a (by omega) (by omega), hmk 5 a 0 (by omega) (by omega), hmk 6 a 0 (by omega) (by omega), specCarp_ok hg a k (by omega)]
      simp only [Option.bind_some]
      unfold formR kindL
      by_cases e1 : w0 = [119, 97, 105, 116]
      · subst e1; rfl
      by_cases e2 : w0 = [111, 114, 100, 101, 114]
      · subst e2; rfl
      by_cases e5 : w0 = [116, 97, 107, 101]
      · subst e5; rfl
      by_cases e6 : w0 = [119, 97, 115, 104]
      · subst e6; rfl
      by_cases ec : w0 = [99, 97, 114, 112, 101, 116]
      · subst ec; rfl
      have hA : askT d lo cs m w0 [a] = [63] := by
        unfold askT
        rw [if_neg (fun q => ec q.1), if_pos (by simp)]
      rw [if_neg e1, if_neg e2, if_neg e5, if_neg e6, if_neg ec, if_neg e1, if_neg e2]
      by_cases e3 : w0 = [119, 97, 114, 112]
      · rw [if_pos e3]; dsimp only; rw [if_neg (by simp), hA]; rfl
      by_cases e4 : w0 = [119, 101, 97, 118, 101]
      · rw [if_neg e3, if_pos e4]; dsimp only; rw [if_neg (by simp), hA]; rfl
      by_cases e7 : w0 = [115, 101, 108, 108]
      · rw [if_neg e3, if_neg e4, if_neg e5, if_neg e6, if_pos e7]; dsimp only; rw [if_neg (by simp), hA]; rfl
      rw [if_neg e3, if_neg e4, if_neg e5, if_neg e6, if_neg e7]; dsimp only; rw [hA]; rfl
    | [a, b], hp, hnl, hnb =>
      have ha := hnb a (by simp)
      have hb := hnb b (by simp)
      have hck1 := chk_nat (show 0 < [a, b].length by simp)
      have hck2 := chk_nat (show 1 < [a, b].length by simp)
      rw [show ((0 : Nat) : Int) = 0 from rfl] at hck1
      rw [show ((1 : Nat) : Int) = 1 from rfl] at hck2
      rw [if_neg (by simp), if_neg (by simp), if_pos (by simp), hck]
      simp only [Option.bind_some]
      rw [hck1]
      simp only [Option.bind_some]
      rw [hck2]
      simp only [Option.bind_some]
      rw [hg0, show [a, b].getD 0 0 = a from rfl, show [a, b].getD 1 0 = b from rfl]
      unfold spec_l28Two.f spec_l28Two.m
      simp only [eq_bs]
      rw [hmk 3 a b (by omega) (by omega), hmk 4 a b (by omega) (by omega), hmk 7 a b (by omega) (by omega)]
      simp only [Option.bind_some]
      unfold formR kindL
      by_cases e3 : w0 = [119, 97, 114, 112]
      · subst e3; rfl
      by_cases e4 : w0 = [119, 101, 97, 118, 101]
      · subst e4; rfl
      by_cases e7 : w0 = [115, 101, 108, 108]
      · subst e7; rfl
      have hA : askT d lo cs m w0 [a, b] = [63] := by
        unfold askT
        rw [if_neg (fun q => by have := q.2; simp at this), if_pos (by simp)]
      rw [if_neg e3, if_neg e4, if_neg e7]
      by_cases e1 : w0 = [119, 97, 105, 116]
      · rw [if_pos e1]; dsimp only; rw [if_neg (by simp), hA]; rfl
      by_cases e2 : w0 = [111, 114, 100, 101, 114]
      · rw [if_neg e1, if_pos e2]; dsimp only; rw [if_neg (by simp), hA]; rfl
      by_cases e5 : w0 = [116, 97, 107, 101]
      · rw [if_neg e1, if_neg e2, if_neg e3, if_neg e4, if_pos e5]; dsimp only; rw [if_neg (by simp), hA]; rfl
      by_cases e6 : w0 = [119, 97, 115, 104]
      · rw [if_neg e1, if_neg e2, if_neg e3, if_neg e4, if_neg e5, if_pos e6]; dsimp only; rw [if_neg (by simp), hA]; rfl
      rw [if_neg e1, if_neg e2, if_neg e3, if_neg e4, if_neg e5, if_neg e6, if_neg e7]; dsimp only; rw [hA]; rfl
    | a :: b :: c :: r, hp, hnl, hnb =>
      rw [if_neg (by simp; omega), if_neg (by simp; omega), if_neg (by simp; omega)]
      have hA : askT d lo cs m w0 (a :: b :: c :: r) = [63] := by
        unfold askT
        rw [if_neg (fun q => by have := q.2; simp at this; omega), if_pos (by simp; omega)]
      have hF : formR d lo cs m w0 (a :: b :: c :: r) = ((d, lo, cs, m), [63]) := by
        unfold formR
        cases hk : kindL w0 with
        | none => dsimp only; rw [hA]
        | some x =>
          obtain ⟨k1, c1, v1⟩ := x
          dsimp only
          rw [if_neg, hA]
          have := (kindOf_cv ((kindOf_bs w0).trans hk)).2
          simp only [List.length_cons]
          omega
      rw [hF]
      rfl
  have key : ∀ (q P : List (List UInt8)) k, ws = P ++ q → 20000 + q.length < k → spec_l28Run.l5 k (bs line) d lo cs m D Q n 0 0 [] 0 ByteArray.empty ByteArray.empty 0 ((w0 :: ws).map bs) (P.map fun w => (pI w).1) ((P.length + 1 : Nat) : Int) = (if q.all (fun w => (pI w).2) = true then spec_l28Run.l5 (k - q.length) (bs line) d lo cs m D Q n 0 0 [] 0 ByteArray.empty ByteArray.empty 0 ((w0 :: ws).map bs) (ws.map fun w => (pI w).1) ((ws.length + 1 : Nat) : Int) else some (d, lo, cs, m, D, Q, n, bs [63])) := by
    intro q
    induction q with
    | nil =>
      intro P k h1 h2
      rw [List.append_nil] at h1
      subst h1
      rfl
    | cons w q ih =>
      intro P k h1 h2
      obtain ⟨k, rfl⟩ := succ_of (show 0 < k by omega)
      have hlen2 : ws.length = P.length + (q.length + 1) := by rw [h1]; simp
      have hget : ((w0 :: ws).map bs).getD (P.length + 1) ByteArray.empty = bs w := by
        rw [h1, List.map_cons, List.getD_cons_succ, List.map_append, List.map_cons, show P.length = (P.map bs).length by simp, getD_mid]
      rw [List.length_cons] at h2
      have hww := hwl w (by rw [h1]; simp)
      have e0 : spec_l28Run.l5 (k + 1) (bs line) d lo cs m D Q n 0 0 [] 0 ByteArray.empty ByteArray.empty 0 ((w0 :: ws).map bs) (P.map fun w => (pI w).1) ((P.length + 1 : Nat) : Int) = spec_l28Run.b5 (spec_l28Run.l5 k) k (bs line) d lo cs m D Q n 0 0 [] 0 ByteArray.empty ByteArray.empty 0 ((w0 :: ws).map bs) (P.map fun w => (pI w).1) ((P.length + 1 : Nat) : Int) := rfl
      rw [e0]
      unfold spec_l28Run.b5
      rw [List.length_map, List.length_cons, if_pos (by omega), chk_nat (by omega), Option.bind_some, hget, specParse_ok k w (by omega) (by omega), Option.bind_some, List.all_cons]
      cases hp : (pI w).2
      · rfl
      · rw [Bool.not_true, cond_false, app_ok (by simp; omega), Option.bind_some, w64_id (by omega), Bool.true_and, show k + 1 - (w :: q).length = k - q.length by simp]
        have := ih (P ++ [w]) k (by rw [h1]; simp) (by omega)
        rw [List.length_append, List.length_singleton, List.map_append] at this
        rw [show ((P.length + 1 : Nat) : Int) + 1 = ((P.length + 1 + 1 : Nat) : Int) by omega]
        exact this
  have := key ws [] f rfl (by omega)
  rw [show (([] : List (List UInt8)).length + 1 : Nat) = 1 from rfl, show ((1 : Nat) : Int) = 1 from rfl, List.map_nil] at this
  refine this.trans ?_
  cases hp : psL ws with
  | none =>
    have : ¬ ws.all (fun w => (pI w).2) = true := fun e => by unfold psL at hp; rw [if_pos e] at hp; cases hp
    rw [if_neg this]
  | some ns =>
    have hall : ws.all (fun w => (pI w).2) = true := by
      unfold psL at hp
      split at hp
      · assumption
      · cases hp
    have hns : ns = ws.map fun w => (pI w).1 := by
      unfold psL at hp
      rw [if_pos hall] at hp
      exact (Option.some.inj hp).symm
    rw [if_pos hall, ← hns]
    exact hE _ ns hp (by omega)
def appQ (D Q : List UInt8) (n : Int) (c r : List UInt8) : List UInt8 × Int := if (validL D Q n && goodE c r) = true then (if n = 60 then (Q, n) else (Q ++ lineL n.toNat c r, n + 1)) else (Q, n)
theorem app3 (D Q : List UInt8) (n : Int) (c r : List UInt8) : ∃ e, appendL D Q n c r = (bs D, bs (appQ D Q n c r).1, (appQ D Q n c r).2, e) := by
  unfold appendL appQ
  cases h : validL D Q n && goodE c r
  · exact ⟨1, rfl⟩
  · by_cases h6 : n = 60
    · rw [cond_true, if_pos h6, if_pos rfl, if_pos h6]; exact ⟨2, rfl⟩
    · rw [cond_true, if_neg h6, if_pos rfl, if_neg h6]; exact ⟨0, rfl⟩
def longT (t : List UInt8) : List UInt8 := if 200 < (t.length : Int) then [108, 111, 110, 103] else t
theorem longT_len (t : List UInt8) : (longT t).length ≤ 200 := by
  unfold longT
  split
  · simp
  · omega
def exR (d lo : Int) (cs : List C5) (m : Int) (D Q : List UInt8) (n : Int) (line : List UInt8) : (Int × Int × List C5 × Int) × (List UInt8 × Int) × List UInt8 :=
  if (shopB d lo cs m && validL D Q n) = false then ((d, lo, cs, m), (Q, n), [110, 111]) else if goodE line [] = false then ((d, lo, cs, m), (Q, n), [98, 97, 100]) else if n = 60 then ((d, lo, cs, m), (Q, n), [102, 117, 108, 108])
  else ((cmdR d lo cs m line).1, appQ D Q n line (longT (cmdR d lo cs m line).2), longT (cmdR d lo cs m line).2)
theorem implCons_ok (d lo m : Int) (cs : List C5) (D Q : List UInt8) (n : Int) (hl : D.length + Q.length ≤ 1048576) (f : Nat) (hf : 2000000 ≤ f) : impl_IsValidConsole.f f d lo cs m (bs D) (bs Q) n = some (shopB d lo cs m && validL D Q n) := by
  unfold impl_IsValidConsole.f impl_IsValidConsole.m
  rw [isShop_eq f d lo m cs (by omega), Option.bind_some]
  cases shopB d lo cs m
  · rfl
  · rw [cond_true, implValid_ok D Q n (by omega) f (by omega)]; rfl
theorem specCons_ok (d lo m : Int) (cs : List C5) (D Q : List UInt8) (n : Int) (hl : D.length + Q.length ≤ 1048576) (f : Nat) (hf : 2000000 ≤ f) : spec_l28Good.f f d lo cs m (bs D) (bs Q) n = some (shopB d lo cs m && validL D Q n) := by
  unfold spec_l28Good.f spec_l28Good.m
  rw [good_eq f d lo m cs (by omega), Option.bind_some]
  cases shopB d lo cs m
  · rfl
  · rw [cond_true, specLog_ok D Q n (by omega) f (by omega)]; rfl
theorem copiedC_ok (d lo m : Int) (cs : List C5) (D Q : ByteArray) (n : Int) (hc : cs.length ≤ 4194304) (f : Nat) : impl_Console_copied.f f d lo cs m D Q n = some (d, lo, cs, m, D, Q, n) := by
  unfold impl_Console_copied.f impl_Console_copied.m impl_Shop_copied.f impl_Shop_copied.m
  rw [clone_eq f cs hc]; rfl
theorem ownC_ok (d lo m : Int) (cs : List C5) (D Q : ByteArray) (n : Int) (hc : cs.length ≤ 4194304) (f : Nat) : spec_l28Own.f f d lo cs m D Q n = some (d, lo, cs, m, D, Q, n) := by
  unfold spec_l28Own.f spec_l28Own.m
  rw [specOwn_eq f d lo m cs hc]; rfl
theorem cmdR_good {d lo m : Int} {cs : List C5} (hg : shopB d lo cs m = true) (line : List UInt8) : shopB (cmdR d lo cs m line).1.1 (cmdR d lo cs m line).1.2.1 (cmdR d lo cs m line).1.2.2.1 (cmdR d lo cs m line).1.2.2.2 = true := by
  unfold cmdR
  cases hp : psL (splitL 32 line).tail with
  | none => exact hg
  | some ns =>
    have hnb := psL_bd hp
    show shopB (formR d lo cs m ((splitL 32 line).headD []) ns).1.1 _ _ _ = true
    generalize (splitL 32 line).headD [] = w0
    unfold formR
    cases kindL w0 with
    | none => exact hg
    | some x =>
      obtain ⟨k, c, v⟩ := x
      dsimp only
      by_cases hq : (ns.length : Int) = c + v
      · rw [if_pos hq]
        have hv : -9223372036854775808 ≤ (if v = 1 then ns.getD (ns.length - 1) 0 else 0) ∧ (if v = 1 then ns.getD (ns.length - 1) 0 else 0) ≤ 9223372036854775807 := by
          have := getD_bd hnb (ns.length - 1)
          split <;> omega
        generalize (if c = 1 then ns.getD 0 0 else 0) = c' at *
        generalize (if v = 1 then ns.getD (ns.length - 1) 0 else 0) = v' at *
        cases hs : stepS d lo cs m k c' v' with
        | none =>
          have hR : stepR d lo cs m k c' v' = ((d, lo, cs, m), [63]) := by unfold stepR; rw [hs]
          rw [hR]
          exact hg
        | some s =>
          have hR : stepR d lo cs m k c' v' = (s, replyT s.1 s.2.1 s.2.2.1 s.2.2.2 k c') := by unfold stepR; rw [hs]
          rw [hR]
          exact stepS_good hg hv hs
      · rw [if_neg hq]
        exact hg
theorem implEx_ok (d lo m : Int) (cs : List C5) (D Q : List UInt8) (n : Int) (line : List UInt8) (hc : cs.length ≤ 4194304) (hl : D.length + Q.length ≤ 1048576) (hn : line.length ≤ 1048576) (f : Nat) (hf : 5000000 ≤ f) :
    impl_ExecuteCommand.f f d lo cs m (bs D) (bs Q) n (bs line) = some ((exR d lo cs m D Q n line).1.1, (exR d lo cs m D Q n line).1.2.1, (exR d lo cs m D Q n line).1.2.2.1, (exR d lo cs m D Q n line).1.2.2.2, bs D, bs (exR d lo cs m D Q n line).2.1.1, (exR d lo cs m D Q n line).2.1.2, bs (exR d lo cs m D Q n line).2.2) := by
  obtain ⟨f, rfl⟩ := succ_of (show 0 < f by omega)
  unfold impl_ExecuteCommand.f impl_ExecuteCommand.m exR
  rw [implCons_ok d lo m cs D Q n hl (f + 1) (by omega), Option.bind_some, copiedC_ok d lo m cs _ _ n hc]
  simp only [Option.bind_some]
  cases hv : shopB d lo cs m && validL D Q n
  · rw [if_pos rfl]; rfl
  rw [Bool.not_true, cond_false, bs_empty, implGood_ok line [] (by omega) (by simp) (f + 1) (by simp; omega), Option.bind_some, if_neg (show ¬ (true = false) by decide)]
  cases hgd : goodE line []
  · rw [if_pos rfl]; rfl
  rw [Bool.not_true, cond_false, if_neg (show ¬ (true = false) by decide)]
  by_cases h6 : n = 60
  · rw [if_pos h6, if_pos h6]; rfl
  rw [Bool.and_eq_true] at hv
  have hg1 := good_of hgd
  rw [if_neg h6, if_neg h6, implExec_ok hv.1 line (by omega) (f + 1) (by omega), Option.bind_some]
  dsimp only
  generalize cmdR d lo cs m line = r
  have key : ∀ t : List UInt8, t.length ≤ 200 → impl_ExecuteCommand.l10 (f + 1) (bs line) d lo cs m (bs D) (bs Q) n 0 0 [] 0 (bs []) (bs []) 0 d lo cs m (bs D) (bs Q) n r.1.1 r.1.2.1 r.1.2.2.1 r.1.2.2.2 (bs t) = some (r.1.1, r.1.2.1, r.1.2.2.1, r.1.2.2.2, bs D, bs (appQ D Q n line t).1, (appQ D Q n line t).2, bs t) := fun t ht => by
    simp only [impl_ExecuteCommand.l10, impl_ExecuteCommand.b10]
    rw [implAppend_ok D Q n line t (by omega) (by omega) f (by omega), Option.bind_some]
    obtain ⟨e, he⟩ := app3 D Q n line t
    rw [he]
  rw [bs_size]
  have hlen := longT_len r.2
  by_cases h2 : 200 < (r.2.length : Int)
  · have e : longT r.2 = [108, 111, 110, 103] := if_pos h2
    rw [if_pos h2, e]
    exact key [108, 111, 110, 103] (by simp)
  · have e : longT r.2 = r.2 := if_neg h2
    rw [if_neg h2, e]
    exact key r.2 (by omega)
theorem specEx_ok (d lo m : Int) (cs : List C5) (D Q : List UInt8) (n : Int) (line : List UInt8) (hc : cs.length ≤ 4194304) (hl : D.length + Q.length ≤ 1048576) (hn : line.length ≤ 1048576) (f : Nat) (hf : 5000000 ≤ f) :
    spec_ExecuteCommand.f f d lo cs m (bs D) (bs Q) n (bs line) = some ((exR d lo cs m D Q n line).1.1, (exR d lo cs m D Q n line).1.2.1, (exR d lo cs m D Q n line).1.2.2.1, (exR d lo cs m D Q n line).1.2.2.2, bs D, bs (exR d lo cs m D Q n line).2.1.1, (exR d lo cs m D Q n line).2.1.2, bs (exR d lo cs m D Q n line).2.2) := by
  obtain ⟨f, rfl⟩ := succ_of (show 0 < f by omega)
  unfold spec_ExecuteCommand.f spec_ExecuteCommand.m exR
  rw [ownC_ok d lo m cs _ _ n hc, Option.bind_some, specCons_ok d lo m cs D Q n hl (f + 1) (by omega), Option.bind_some]
  cases hv : shopB d lo cs m && validL D Q n
  · rw [if_pos rfl]; rfl
  rw [Bool.not_true, cond_false, bs_empty, specGood_ok line [] (by omega) (by simp) (f + 1) (by simp; omega), Option.bind_some, if_neg (show ¬ (true = false) by decide)]
  cases hgd : goodE line []
  · rw [if_pos rfl]; rfl
  rw [Bool.not_true, cond_false, if_neg (show ¬ (true = false) by decide)]
  by_cases h6 : n = 60
  · rw [if_pos h6, if_pos h6]; rfl
  rw [Bool.and_eq_true] at hv
  have hg1 := good_of hgd
  have hcg := shopB_of (cmdR_good hv.1 line)
  rw [if_neg h6, if_neg h6, specRun_ok hv.1 _ _ n line (by omega) (f + 1) (by omega), Option.bind_some]
  dsimp only
  generalize cmdR d lo cs m line = r at *
  rw [ownC_ok _ _ _ _ _ _ n (by omega), Option.bind_some]
  dsimp only
  have key : ∀ t : List UInt8, t.length ≤ 200 → spec_ExecuteCommand.l11 (f + 1) (bs line) d lo cs m (bs D) (bs Q) n 0 0 [] 0 (bs []) (bs []) 0 r.1.1 r.1.2.1 r.1.2.2.1 r.1.2.2.2 (bs D) (bs Q) n (bs t) = some (r.1.1, r.1.2.1, r.1.2.2.1, r.1.2.2.2, bs D, bs (appQ D Q n line t).1, (appQ D Q n line t).2, bs t) := fun t ht => by
    simp only [spec_ExecuteCommand.l11, spec_ExecuteCommand.b11]
    rw [specAppend_ok D Q n line t (by omega) (by omega) f (by omega), Option.bind_some]
    obtain ⟨e, he⟩ := app3 D Q n line t
    rw [he]
  rw [bs_size]
  have hlen := longT_len r.2
  by_cases h2 : 200 < (r.2.length : Int)
  · have e : longT r.2 = [108, 111, 110, 103] := if_pos h2
    rw [if_pos h2, e]
    exact key [108, 111, 110, 103] (by simp)
  · have e : longT r.2 = r.2 := if_neg h2
    rw [if_neg h2, e]
    exact key r.2 (by omega)
theorem textL_bd : ∀ (es : List (List UInt8 × List UInt8)) (n : Nat), goods es → n + es.length ≤ 100 → (textL n es).length ≤ 372 * es.length
  | [], n, _, _ => Nat.le_refl _
  | e :: es, n, hg, hn => by
    rw [List.length_cons] at hn ⊢
    have h1 := textL_bd es (n + 1) (fun x hx => hg x (List.mem_cons_of_mem _ hx)) (by omega)
    have h2 := good_of (hg e (by simp))
    have h3 := (lineL_len (n := n) e.1 e.2 (by omega)).2
    show (lineL n e.1 e.2 ++ textL (n + 1) es).length ≤ _
    rw [List.length_append]
    omega
theorem plain_app (a b : List UInt8) : plainL (a ++ b) = (plainL a && plainL b) := List.all_append
theorem plain_dec (u : Nat) : plainL (Lib.decDigits u) = true := by
  unfold plainL
  rw [List.all_eq_true]
  exact fun b hb => dig_ok (digits_all u b hb)
theorem plain_tail (ns : List Int) : plainL (Lib.joinTail [32] (ns.map fun n => Lib.decDigits n.toNat)) = true := by
  induction ns with
  | nil => rfl
  | cons n ns ih =>
    unfold Lib.joinTail at *
    rw [List.map_cons, List.map_cons, List.flatten_cons, plain_app, plain_app, plain_dec, ih]
    rfl
theorem plain_list (ns : List Int) : plainL (listT ns) = true := by
  unfold listT
  cases ns with
  | nil => rfl
  | cons n ns =>
    rw [if_neg (by simp), List.map_cons, Lib.join_cons, plain_app, plain_dec, plain_tail]
    rfl
theorem plain_name (s : Int) : plainL (nameL s) = true := by
  unfold nameL
  repeat' split
  all_goals decide
theorem plain_carp (cs : List C5) (i : Int) : plainL (carpT cs i) = true := by
  unfold carpT
  split
  · unfold onC textC
    have h32 : plainL [32] = true := by decide
    have h47 : plainL [47] = true := by decide
    have hon : plainL [32, 111, 110, 32] = true := by decide
    split <;> simp only [plain_app, plain_dec, plain_name, h32, h47, hon, Bool.and_self]
  · decide
theorem plain_word (d lo : Int) (cs : List C5) (m : Int) (w : List UInt8) : plainL (wordT d lo cs m w) = true := by
  have hq : plainL [63] = true := by decide
  unfold wordT decT
  repeat' split
  all_goals simp only [plain_dec, plain_list, hq]
theorem plain_ask (d lo : Int) (cs : List C5) (m : Int) (w : List UInt8) (ns : List Int) : plainL (askT d lo cs m w ns) = true := by
  have hq : plainL [63] = true := by decide
  unfold askT
  repeat' split
  all_goals simp only [plain_carp, plain_word, hq]
theorem plain_step (d lo : Int) (cs : List C5) (m k c v : Int) : plainL (stepR d lo cs m k c v).2 = true := by
  unfold stepR
  split
  · exact (by decide : plainL [63] = true)
  · unfold replyT decT
    repeat' split
    all_goals simp only [plain_carp, plain_dec]
theorem plain_cmd (d lo : Int) (cs : List C5) (m : Int) (line : List UInt8) : plainL (cmdR d lo cs m line).2 = true := by
  unfold cmdR
  split
  · exact (by decide : plainL [63] = true)
  · unfold formR
    split
    · split
      · exact plain_step _ _ _ _ _ _ _
      · exact plain_ask _ _ _ _ _ _
    · exact plain_ask _ _ _ _ _ _
theorem plain_long {t : List UInt8} (h : plainL t = true) : plainL (longT t) = true := by
  unfold longT
  split
  · decide
  · exact h
theorem good_reply {c r : List UInt8} (h : goodE c [] = true) (h1 : plainL r = true) (h2 : r.length ≤ 200) : goodE c r = true := by
  unfold goodE at *
  simp only [Bool.and_eq_true] at h ⊢
  exact ⟨⟨h.1.1, decide_eq_true h2⟩, h1⟩
/-- What executing a command does: nothing, with a refusal, or one record more. -/
theorem exR_two (d lo m : Int) (cs : List C5) (D Q : List UInt8) (n : Int) (line : List UInt8) :
    (exR d lo cs m D Q n line).1 = (d, lo, cs, m) ∧ (exR d lo cs m D Q n line).2.1 = (Q, n) ∧ ((exR d lo cs m D Q n line).2.2 = [110, 111] ∨ (exR d lo cs m D Q n line).2.2 = [98, 97, 100] ∨ (exR d lo cs m D Q n line).2.2 = [102, 117, 108, 108]) ∨
    ((shopB d lo cs m = true ∧ validL D Q n = true ∧ goodE line [] = true ∧ n ≠ 60) ∧ (exR d lo cs m D Q n line).1 = (cmdR d lo cs m line).1 ∧ (exR d lo cs m D Q n line).2.2 = longT (cmdR d lo cs m line).2 ∧ goodE line (longT (cmdR d lo cs m line).2) = true ∧ (exR d lo cs m D Q n line).2.1 = (Q ++ lineL n.toNat line (longT (cmdR d lo cs m line).2), n + 1)) := by
  unfold exR
  split
  · exact .inl ⟨rfl, rfl, .inl rfl⟩
  rename_i hv
  split
  · exact .inl ⟨rfl, rfl, .inr (.inl rfl)⟩
  rename_i hg
  split
  · exact .inl ⟨rfl, rfl, .inr (.inr rfl)⟩
  rename_i h6
  have hv : (shopB d lo cs m && validL D Q n) = true := by
    cases h : shopB d lo cs m && validL D Q n
    · exact absurd h hv
    · rfl
  have hg : goodE line [] = true := by
    cases h : goodE line []
    · exact absurd h hg
    · rfl
  rw [Bool.and_eq_true] at hv
  have hgr := good_reply hg (plain_long (plain_cmd d lo cs m line)) (longT_len _)
  refine .inr ⟨⟨hv.1, hv.2, hg, h6⟩, rfl, rfl, hgr, ?_⟩
  dsimp only
  unfold appQ
  rw [hv.2, hgr, if_pos (by rfl), if_neg h6]
def rstep (D : List UInt8) (x : (Int × Int × List C5 × Int) × (List UInt8 × Int)) (line : List UInt8) : (Int × Int × List C5 × Int) × (List UInt8 × Int) := ((exR x.1.1 x.1.2.1 x.1.2.2.1 x.1.2.2.2 D x.2.1 x.2.2 line).1, (exR x.1.1 x.1.2.1 x.1.2.2.1 x.1.2.2.2 D x.2.1 x.2.2 line).2.1)
def rsay (D : List UInt8) (x : (Int × Int × List C5 × Int) × (List UInt8 × Int)) (line : List UInt8) : List UInt8 := (exR x.1.1 x.1.2.1 x.1.2.2.1 x.1.2.2.2 D x.2.1 x.2.2 line).2.2
/-- A console that a run goes through. -/
def Rok (D : List UInt8) (x : (Int × Int × List C5 × Int) × (List UInt8 × Int)) : Prop := x.1.2.2.1.length ≤ 4194304 ∧ D.length + x.2.1.length ≤ 1048576
theorem appQ_len (D Q : List UInt8) (n : Int) (c r : List UInt8) : (appQ D Q n c r).1.length ≤ Q.length ∨ D.length + (appQ D Q n c r).1.length ≤ 40000 := by
  unfold appQ
  split
  · rename_i h
    rw [Bool.and_eq_true] at h
    split
    · exact .inl (Nat.le_refl _)
    · have hv := h.1
      have hg := good_of h.2
      have hn := valid_count hv
      unfold validL at hv
      simp only [Bool.and_eq_true, decide_eq_true_eq] at hv
      have := (lineL_len (n := n.toNat) c r (by omega)).2
      right
      rw [List.length_append]
      omega
  · exact .inl (Nat.le_refl _)
theorem exR_ok {d lo m : Int} {cs : List C5} {D Q : List UInt8} {n : Int} {line : List UInt8} : (((exR d lo cs m D Q n line).1.2.2.1.length ≤ cs.length ∨ (exR d lo cs m D Q n line).1.2.2.1.length ≤ 8) ∧ ((exR d lo cs m D Q n line).2.1.1.length ≤ Q.length ∨ D.length + (exR d lo cs m D Q n line).2.1.1.length ≤ 40000)) := by
  unfold exR
  split
  · exact ⟨.inl (Nat.le_refl _), .inl (Nat.le_refl _)⟩
  rename_i hv
  split
  · exact ⟨.inl (Nat.le_refl _), .inl (Nat.le_refl _)⟩
  split
  · exact ⟨.inl (Nat.le_refl _), .inl (Nat.le_refl _)⟩
  have hv : (shopB d lo cs m && validL D Q n) = true := by
    cases h : shopB d lo cs m && validL D Q n
    · exact absurd h hv
    · rfl
  rw [Bool.and_eq_true] at hv
  refine ⟨.inr ?_, appQ_len _ _ _ _ _⟩
  exact (shopB_of (cmdR_good hv.1 line)).2.2.2.1
theorem Rok_step {D : List UInt8} {x : (Int × Int × List C5 × Int) × (List UInt8 × Int)} (h : Rok D x) (line : List UInt8) : Rok D (rstep D x line) := by
  have := exR_ok (d := x.1.1) (lo := x.1.2.1) (m := x.1.2.2.2) (cs := x.1.2.2.1) (D := D) (Q := x.2.1) (n := x.2.2) (line := line)
  obtain ⟨h1, h2⟩ := h
  unfold Rok rstep
  dsimp only
  omega
def newX (lo : Int) : (Int × Int × List C5 × Int) × (List UInt8 × Int) := ((0, lo, [], 0), ([], 0))
def scriptL (D : List UInt8) : List (List UInt8) → (Int × Int × List C5 × Int) × (List UInt8 × Int) → List (List UInt8)
  | [], _ => []
  | l :: ls, x => rsay D x l :: scriptL D ls (rstep D x l)
theorem scriptL_len (D : List UInt8) : ∀ (ls : List (List UInt8)) (x : (Int × Int × List C5 × Int) × (List UInt8 × Int)), (scriptL D ls x).length = ls.length
  | [], _ => rfl
  | l :: ls, x => by unfold scriptL; rw [List.length_cons, List.length_cons, scriptL_len D ls]
theorem implScr_l (D : List UInt8) (ws : List (List UInt8)) (hes : ∀ e ∈ ws, e.length ≤ 1048576) (hl : ws.length ≤ 1000) : ∀ (q P : List (List UInt8)) (x : (Int × Int × List C5 × Int) × (List UInt8 × Int)) (acc : List ByteArray) (k : Nat), ws = P ++ q → Rok D x → acc.length = P.length → 6000000 + q.length < k →
    impl_RunScript.l8 k x.1.1 x.1.2.1 x.1.2.2.1 x.1.2.2.2 (bs D) (bs x.2.1) x.2.2 acc (ws.map bs) (ws.length : Int) (P.length : Int) = some (acc ++ (scriptL D q x).map bs, true) := by
  intro q
  induction q with
  | nil =>
    intro P x acc k h1 h2 h4 h3
    obtain ⟨k, rfl⟩ := succ_of (show 0 < k by omega)
    rw [List.append_nil] at h1
    subst h1
    simp only [impl_RunScript.l8, impl_RunScript.b8]
    rw [if_neg (by omega)]
    simp [scriptL]
  | cons e q ih =>
    intro P x acc k h1 h2 h4 h3
    obtain ⟨k, rfl⟩ := succ_of (show 0 < k by omega)
    have hlen : ws.length = P.length + (q.length + 1) := by rw [h1]; simp
    have hget : (ws.map bs).getD P.length ByteArray.empty = bs e := by rw [h1, List.map_append, List.map_cons, show P.length = (P.map bs).length by simp, getD_mid]
    have he := hes e (by rw [h1]; simp)
    rw [List.length_cons] at h3
    have h2' := h2
    obtain ⟨h5, h6⟩ := h2'
    simp only [impl_RunScript.l8, impl_RunScript.b8]
    rw [if_pos (by omega), List.length_map, chk_nat (by omega), Option.bind_some, hget, implEx_ok _ _ _ _ D _ _ e h5 h6 he k (by omega), Option.bind_some, app_ok (by simp; omega), Option.bind_some, w64_id (by omega)]
    have := ih (P ++ [e]) (rstep D x e) (acc ++ [bs (rsay D x e)]) k (by rw [h1]; simp) (Rok_step h2 e) (by simp; omega) (by omega)
    rw [List.length_append, List.length_singleton, show ((P.length + 1 : Nat) : Int) = (P.length : Int) + 1 by omega] at this
    refine this.trans ?_
    simp [scriptL]
theorem specScr_l (D : List UInt8) (ws : List (List UInt8)) (hes : ∀ e ∈ ws, e.length ≤ 1048576) (hl : ws.length ≤ 1000) : ∀ (q P : List (List UInt8)) (x : (Int × Int × List C5 × Int) × (List UInt8 × Int)) (acc : List ByteArray) (k : Nat), ws = P ++ q → Rok D x → acc.length = P.length → 6000000 + q.length < k →
    spec_RunScript.l9 k x.1.1 x.1.2.1 x.1.2.2.1 x.1.2.2.2 (bs D) (bs x.2.1) x.2.2 acc (ws.map bs) (P.length : Int) = some (acc ++ (scriptL D q x).map bs, true) := by
  intro q
  induction q with
  | nil =>
    intro P x acc k h1 h2 h4 h3
    obtain ⟨k, rfl⟩ := succ_of (show 0 < k by omega)
    rw [List.append_nil] at h1
    subst h1
    simp only [spec_RunScript.l9, spec_RunScript.b9]
    rw [List.length_map, if_neg (by omega)]
    simp [scriptL]
  | cons e q ih =>
    intro P x acc k h1 h2 h4 h3
    obtain ⟨k, rfl⟩ := succ_of (show 0 < k by omega)
    have hlen : ws.length = P.length + (q.length + 1) := by rw [h1]; simp
    have hget : (ws.map bs).getD P.length ByteArray.empty = bs e := by rw [h1, List.map_append, List.map_cons, show P.length = (P.map bs).length by simp, getD_mid]
    have he := hes e (by rw [h1]; simp)
    rw [List.length_cons] at h3
    have h2' := h2
    obtain ⟨h5, h6⟩ := h2'
    simp only [spec_RunScript.l9, spec_RunScript.b9]
    rw [List.length_map, if_pos (by omega), chk_nat (by omega), Option.bind_some, hget, specEx_ok _ _ _ _ D _ _ e h5 h6 he k (by omega), Option.bind_some, app_ok (by simp; omega), Option.bind_some, w64_id (by omega)]
    have := ih (P ++ [e]) (rstep D x e) (acc ++ [bs (rsay D x e)]) k (by rw [h1]; simp) (Rok_step h2 e) (by simp; omega) (by omega)
    rw [List.length_append, List.length_singleton, show ((P.length + 1 : Nat) : Int) = (P.length : Int) + 1 by omega] at this
    refine this.trans ?_
    simp [scriptL]
def scriptR (d lo : Int) (cs : List C5) (m : Int) (D Q : List UInt8) (n : Int) (text : List UInt8) : List ByteArray × Bool :=
  if (shopB d lo cs m && validL D Q n) = true ∧ (text.length : Int) ≤ 4000 ∧ ((splitL 10 text).length : Int) ≤ 30 then ((scriptL D (splitL 10 text) ((d, lo, cs, m), (Q, n))).map bs, true) else ([], false)
theorem implScript_ok (d lo m : Int) (cs : List C5) (D Q : List UInt8) (n : Int) (text : List UInt8) (hc : cs.length ≤ 4194304) (hl : D.length + Q.length ≤ 1048576) (ht : text.length ≤ 1048576) (k : Nat) (hk : 7000000 ≤ k) : impl_RunScript.f k d lo cs m (bs D) (bs Q) n (bs text) = some (scriptR d lo cs m D Q n text) := by
  unfold impl_RunScript.f impl_RunScript.m scriptR
  unfold strings_Split.f
  rw [show (⟨#[10]⟩ : ByteArray) = bs [10] from rfl, splitF_L 10 text (by omega), Option.bind_some, implCons_ok d lo m cs D Q n hl k (by omega), Option.bind_some, List.length_map, bs_size]
  cases hv : shopB d lo cs m && validL D Q n
  · rw [if_neg (show ¬ (false = true ∧ (text.length : Int) ≤ 4000 ∧ ((splitL 10 text).length : Int) ≤ 30) from fun q => by cases q.1)]; rfl
  rw [Bool.not_true, cond_false]
  by_cases h30 : 30 < ((splitL 10 text).length : Int)
  · rw [if_pos h30, if_neg (fun q => by omega)]
  by_cases h4 : 4000 < (text.length : Int)
  · rw [if_neg h30, if_pos h4, if_neg (fun q => by omega)]
  rw [if_neg h30, if_neg h4, if_pos ⟨rfl, by omega, by omega⟩]
  have := implScr_l D (splitL 10 text) (fun e he => by have := word_len 10 text e he; omega) (by omega) (splitL 10 text) [] ((d, lo, cs, m), (Q, n)) [] k rfl ⟨hc, hl⟩ rfl (by omega)
  exact this
theorem specScript_ok (d lo m : Int) (cs : List C5) (D Q : List UInt8) (n : Int) (text : List UInt8) (hc : cs.length ≤ 4194304) (hl : D.length + Q.length ≤ 1048576) (ht : text.length ≤ 1048576) (k : Nat) (hk : 7000000 ≤ k) : spec_RunScript.f k d lo cs m (bs D) (bs Q) n (bs text) = some (scriptR d lo cs m D Q n text) := by
  unfold spec_RunScript.f spec_RunScript.m scriptR
  have hs := splitS_ok text 10 (by omega) (by omega) k (by omega)
  rw [show ((10 : Nat) : Int) = 10 from rfl, show UInt8.ofNat 10 = 10 from rfl] at hs
  rw [hs, Option.bind_some, specCons_ok d lo m cs D Q n hl k (by omega), Option.bind_some, List.length_map, bs_size]
  cases hv : shopB d lo cs m && validL D Q n
  · rw [if_neg (show ¬ (false = true ∧ (text.length : Int) ≤ 4000 ∧ ((splitL 10 text).length : Int) ≤ 30) from fun q => by cases q.1)]; rfl
  rw [Bool.not_true, cond_false]
  by_cases h4 : 4000 < (text.length : Int)
  · rw [if_pos h4, if_neg (fun q => by omega)]
  by_cases h30 : 30 < ((splitL 10 text).length : Int)
  · rw [if_neg h4, if_pos h30, if_neg (fun q => by omega)]
  rw [if_neg h4, if_neg h30, if_pos ⟨rfl, by omega, by omega⟩]
  have := specScr_l D (splitL 10 text) (fun e he => by have := word_len 10 text e he; omega) (by omega) (splitL 10 text) [] ((d, lo, cs, m), (Q, n)) [] k rfl ⟨hc, hl⟩ rfl (by omega)
  exact this
theorem scriptR_len (d lo m : Int) (cs : List C5) (D Q : List UInt8) (n : Int) (text : List UInt8) : (scriptR d lo cs m D Q n text).1.length ≤ 30 := by
  unfold scriptR
  split
  · rename_i h
    dsimp only
    rw [List.length_map, scriptL_len]
    omega
  · simp
def CmdD (l : List Int) (a : Int) (cs : List C5) (r : ByteArray × List Int × Int × Int × List C5) : Prop := r.1.size ≤ 60 ∧ r.2.1 = l ∧ a ≤ r.2.2.1 ∧ r.2.2.1 ≤ a + 60 ∧ r.2.2.2.2 = cs
theorem num_bd {v : Int} (h : 0 ≤ v ∧ v ≤ 3000000) (k : Nat) (hk : 20 ≤ k) : ∃ t : List UInt8, spec_l1Num.f k v = some (bs t) ∧ t.length ≤ 7 := by
  refine ⟨_, numI2 (by omega) k hk, ?_⟩
  exact (digits_len v.toNat 7 (by omega) (by omega)).1
theorem command2_ok (k : Nat) {l : List Int} {a : Int} (s d lo m : Int) (cs : List C5) (D Q : ByteArray) (n : Int) (hb : By l) (h : 0 ≤ a ∧ a ≤ 1000000000) (hcs : cs.length ≤ 100) (hlo : -1000 ≤ lo ∧ lo ≤ 1000) (hk : 200 ≤ k) : Yl (spec_l1Cur_command_2.f k l a s d lo cs m D Q n) (CmdD l a cs) := by
  obtain ⟨k, rfl⟩ := succ_of (show 0 < k by omega)
  unfold spec_l1Cur_command_2.f spec_l1Cur_command_2.m
  refine Yl.bind (spec_l1Cur_shopStep_2_ok (k + 1) s d lo m cs hb (by omega) hcs hlo (by omega)) ?_
  rintro ⟨kd, c, v, l1, a1, s1, cs1⟩ ⟨e1, e2, e3, e4, e5, e6, e7, e8⟩
  dsimp only at *; subst e1; subst e2
  refine Yl.bind (most_ok (k + 1) 0 c) ?_
  rintro q ⟨q1, q2, q3⟩
  obtain ⟨tk, ht1, ht2⟩ := num_bd (v := q) (by omega) (k + 1) (by omega)
  rw [ht1, Option.bind_some]
  refine Yl.bind (most_ok (k + 1) 0 v) ?_
  rintro u ⟨u1, u2, u3⟩
  obtain ⟨tv, hv1, hv2⟩ := num_bd (v := u) (by omega) (k + 1) (by omega)
  rw [hv1, Option.bind_some]
  refine Yl.bind (pick_ok (k + 1) s1 6 hb (by omega) (by omega)) ?_
  rintro ⟨p, l2, a2, s2⟩ ⟨p1, p2, p3, p4, p5, p6⟩
  dsimp only at *; subst p1
  have key : ∀ b : Bool, Yl (spec_l1Cur_command_2.l5 (k + 1) l2 a2 s2 d lo cs1 m D Q n kd c v (bs tk) (bs tv) p b) (CmdD l2 a cs1) := fun b => by
    show Yl (spec_l1Cur_command_2.b5 k l2 a2 s2 d lo cs1 m D Q n kd c v (bs tk) (bs tv) p b) _
    unfold spec_l1Cur_command_2.b5
    have fin : ∀ t : List UInt8, t.length ≤ 60 → CmdD l2 a cs1 (bs t, l2, a2, s2, cs1) := fun t ht => ⟨by rw [bs_size]; exact ht, rfl, by dsimp only; omega, by dsimp only; omega, rfl⟩
    refine Yl.cond (fun _ => ?_) fun _ => ?_
    · refine Yl.ite (fun _ => ?_) fun _ => ?_
      · rw [show (⟨#[119, 97, 105, 116, 32]⟩ : ByteArray) = bs [119, 97, 105, 116, 32] from rfl, catS_bs (by simp; omega), Option.bind_some]
        exact Yl.ret (fin _ (by simp; omega))
      refine Yl.ite (fun _ => ?_) fun _ => ?_
      · rw [show (⟨#[111, 114, 100, 101, 114, 32]⟩ : ByteArray) = bs [111, 114, 100, 101, 114, 32] from rfl, catS_bs (by simp; omega), Option.bind_some]
        exact Yl.ret (fin _ (by simp; omega))
      refine Yl.ite (fun _ => ?_) fun _ => ?_
      · rw [show (⟨#[119, 97, 114, 112, 32]⟩ : ByteArray) = bs [119, 97, 114, 112, 32] from rfl, show (⟨#[32]⟩ : ByteArray) = bs [32] from rfl, catS_bs (by simp; omega), Option.bind_some, catS_bs (by simp; omega), Option.bind_some, catS_bs (by simp; omega), Option.bind_some]
        exact Yl.ret (fin _ (by simp; omega))
      refine Yl.ite (fun _ => ?_) fun _ => ?_
      · rw [show (⟨#[119, 101, 97, 118, 101, 32]⟩ : ByteArray) = bs [119, 101, 97, 118, 101, 32] from rfl, show (⟨#[32]⟩ : ByteArray) = bs [32] from rfl, catS_bs (by simp; omega), Option.bind_some, catS_bs (by simp; omega), Option.bind_some, catS_bs (by simp; omega), Option.bind_some]
        exact Yl.ret (fin _ (by simp; omega))
      refine Yl.ite (fun _ => ?_) fun _ => ?_
      · rw [show (⟨#[116, 97, 107, 101, 32]⟩ : ByteArray) = bs [116, 97, 107, 101, 32] from rfl, catS_bs (by simp; omega), Option.bind_some]
        exact Yl.ret (fin _ (by simp; omega))
      refine Yl.ite (fun _ => ?_) fun _ => ?_
      · rw [show (⟨#[119, 97, 115, 104, 32]⟩ : ByteArray) = bs [119, 97, 115, 104, 32] from rfl, catS_bs (by simp; omega), Option.bind_some]
        exact Yl.ret (fin _ (by simp; omega))
      · rw [show (⟨#[115, 101, 108, 108, 32]⟩ : ByteArray) = bs [115, 101, 108, 108, 32] from rfl, show (⟨#[32]⟩ : ByteArray) = bs [32] from rfl, catS_bs (by simp; omega), Option.bind_some, catS_bs (by simp; omega), Option.bind_some, catS_bs (by simp; omega), Option.bind_some]
        exact Yl.ret (fin _ (by simp; omega))
    · refine Yl.ite (fun _ => ?_) fun _ => ?_
      · rw [show (⟨#[99, 97, 114, 112, 101, 116, 32]⟩ : ByteArray) = bs [99, 97, 114, 112, 101, 116, 32] from rfl, catS_bs (by simp; omega), Option.bind_some]
        refine Yl.bind (of_ok k s2 60 (by simp) (by
          intro x hx
          simp only [List.mem_cons, List.not_mem_nil, or_false] at hx
          rcases hx with h | h | h | h | h | h | h | h
          all_goals subst h
          all_goals first
            | decide
            | (rw [bs_size]; simp; omega)) hb (by omega) (by omega)) ?_
        rintro ⟨t, l3, a3, s3, x3⟩ ⟨t1, t2, t3, t4, t5⟩
        dsimp only at *; subst t2
        exact Yl.ret ⟨t1, rfl, by dsimp only; omega, by dsimp only; omega, rfl⟩
      · refine Yl.bind (of_ok k s2 60 (by simp) (by
          intro x hx
          simp only [List.mem_cons, List.not_mem_nil, or_false] at hx
          rcases hx with h | h | h | h | h | h | h | h | h | h | h
          all_goals subst h
          all_goals decide) hb (by omega) (by omega)) ?_
        rintro ⟨t, l3, a3, s3, x3⟩ ⟨t1, t2, t3, t4, t5⟩
        dsimp only at *; subst t2
        exact Yl.ret ⟨t1, rfl, by dsimp only; omega, by dsimp only; omega, rfl⟩
  refine Yl.ite (fun _ => key _) fun _ => Yl.ite (fun _ => key _) fun _ => Yl.ite (fun _ => key _) fun _ => key _
/-- A drawn console: its shop is small, its log too. -/
def ConD (l : List Int) (a b : Int) (r : Int × Int × List C5 × Int × ByteArray × ByteArray × Int × List Int × Int × Int) : Prop := r.2.2.1.length ≤ 9 ∧ -1000 ≤ r.2.1 ∧ r.2.1 ≤ 1000 ∧ r.2.2.2.2.1.size + r.2.2.2.2.2.1.size ≤ 100000 ∧ r.2.2.2.2.2.2.2.1 = l ∧ a ≤ r.2.2.2.2.2.2.2.2.1 ∧ r.2.2.2.2.2.2.2.2.1 ≤ b
theorem exR_lo (d lo m : Int) (cs : List C5) (D Q : List UInt8) (n : Int) (line : List UInt8) (h1 : cs.length ≤ 9) (h2 : -1000 ≤ lo ∧ lo ≤ 1000) : (exR d lo cs m D Q n line).1.2.2.1.length ≤ 9 ∧ -1000 ≤ (exR d lo cs m D Q n line).1.2.1 ∧ (exR d lo cs m D Q n line).1.2.1 ≤ 1000 := by
  rcases exR_two d lo m cs D Q n line with ⟨e1, _, _⟩ | ⟨⟨e0, _⟩, e1, _⟩
  · rw [e1]; exact ⟨h1, h2⟩
  · rw [e1]
    obtain ⟨b1, b2, b3, b4, b5⟩ := shopB_of (cmdR_good e0 line)
    exact ⟨by omega, by omega, by omega⟩
theorem console_l (l : List Int) (hb : By l) (z0 z1 z3 z6 : Int) (z2 : List C5) (z4 z5 : ByteArray) : ∀ (n K : Nat) (a s d lo m : Int) (cs : List C5) (D Q : List UInt8) (c : Int), 0 ≤ a → a + 60 * n ≤ 9000 → n ≤ 10 → 6000000 + n ≤ K → cs.length ≤ 9 → -1000 ≤ lo ∧ lo ≤ 1000 → D.length + Q.length ≤ 45000 →
    Yl (spec_l1Cur_console.l4 K l a s z0 z1 z2 z3 z4 z5 z6 d lo cs m (bs D) (bs Q) c (n : Int)) (ConD l a (a + 60 * n + 400)) := by
  intro n
  have hend : ∀ (K : Nat) (a s d lo m : Int) (cs : List C5) (D Q : List UInt8) (c : Int) (b : Int), 0 ≤ a → a ≤ 9500 → a + 400 ≤ b → 5000000 ≤ K → cs.length ≤ 9 → -1000 ≤ lo ∧ lo ≤ 1000 → D.length + Q.length ≤ 45000 → Yl ((spec_l1Cur_one.f K l a s 24).bind fun r6 => (cond r6.1 ((spec_l1Cur_anyLog.f K r6.2.1 r6.2.2.1 r6.2.2.2).bind fun r7 => (some (d, lo, cs, m, r7.1, r7.2.1, r7.2.2.1, r7.2.2.2.1, r7.2.2.2.2.1, r7.2.2.2.2.2))) (some (d, lo, cs, m, bs D, bs Q, c, r6.2.1, r6.2.2.1, r6.2.2.2)))) (ConD l a b) := by
    intro K a s d lo m cs D Q c b h1 h2 h3 h4 h5 h6 h7
    refine Yl.bind (one_ok K s 24 hb (by omega) (by omega)) ?_
    rintro ⟨t, l1, a1, s1⟩ ⟨t1, t2, t3⟩
    dsimp only at *; subst t1
    refine Yl.cond (fun _ => ?_) fun _ => ?_
    · refine Yl.bind (anyLog_ok K s1 hb (by omega) (by omega)) ?_
      rintro ⟨D1, Q1, n1, l2, a2, s2⟩ ⟨d1, d2, d3, d4⟩
      dsimp only at *; subst d2
      exact Yl.ret ⟨h5, h6.1, h6.2, by dsimp only; omega, rfl, by dsimp only; omega, by dsimp only; omega⟩
    · exact Yl.ret ⟨h5, h6.1, h6.2, by dsimp only; rw [bs_size, bs_size]; omega, rfl, by dsimp only; omega, by dsimp only; omega⟩
  induction n with
  | zero =>
    intro K a s d lo m cs D Q c h1 h2 h3 h4 h5 h6 h7
    obtain ⟨K, rfl⟩ := succ_of (show 0 < K by omega)
    show Yl (spec_l1Cur_console.b4 (spec_l1Cur_console.l4 K) K l a s z0 z1 z2 z3 z4 z5 z6 d lo cs m (bs D) (bs Q) c ((0 : Nat) : Int)) _
    unfold spec_l1Cur_console.b4
    rw [if_neg (by omega)]
    exact hend K a s d lo m cs D Q c (a + 60 * ((0 : Nat) : Int) + 400) h1 (by omega) (by omega) (by omega) h5 h6 h7
  | succ n ih =>
    intro K a s d lo m cs D Q c h1 h2 h3 h4 h5 h6 h7
    obtain ⟨K, rfl⟩ := succ_of (show 0 < K by omega)
    show Yl (spec_l1Cur_console.b4 (spec_l1Cur_console.l4 K) K l a s z0 z1 z2 z3 z4 z5 z6 d lo cs m (bs D) (bs Q) c ((n + 1 : Nat) : Int)) _
    unfold spec_l1Cur_console.b4
    rw [if_pos (by omega), specCons_ok d lo m cs D Q c (by omega) K (by omega), Option.bind_some]
    refine Yl.cond (fun _ => ?_) fun _ => ?_
    · refine Yl.bind (command2_ok K s d lo m cs (bs D) (bs Q) c hb (by omega) (by omega) h6 (by omega)) ?_
      rintro ⟨t, l1, a1, s1, cs1⟩ ⟨t1, t2, t3, t4, t5⟩
      dsimp only at *; subst t2; subst t5
      obtain ⟨t, rfl⟩ := bs_ex t
      rw [bs_size] at t1
      rw [specEx_ok d lo m cs1 D Q c t (by omega) (by omega) (by omega) K (by omega), Option.bind_some, w64_id (by omega), show ((n + 1 : Nat) : Int) - 1 = (n : Int) by omega]
      dsimp only
      have hx := exR_lo d lo m cs1 D Q c t h5 h6
      have hq := (exR_ok (d := d) (lo := lo) (m := m) (cs := cs1) (D := D) (Q := Q) (n := c) (line := t)).2
      refine (ih K a1 s1 _ _ _ _ D _ _ (by omega) (by omega) (by omega) (by omega) hx.1 hx.2 (by omega)).mono fun r hr => ?_
      obtain ⟨r1, r2, r3, r4, r5, r6, r7⟩ := hr
      exact ⟨r1, r2, r3, r4, r5, by omega, by omega⟩
    · exact hend K a s d lo m cs D Q c (a + 60 * ((n + 1 : Nat) : Int) + 400) h1 (by omega) (by omega) (by omega) h5 h6 h7
theorem console_ok (k : Nat) {l : List Int} {a : Int} (s : Int) (hb : By l) (h : 0 ≤ a ∧ a ≤ 1000) (hk : 7000000 ≤ k) : Yl (spec_l1Cur_console.f k l a s) (ConD l a (a + 4000)) := by
  unfold spec_l1Cur_console.f spec_l1Cur_console.m
  refine Yl.bind (shop_ok k s hb (by omega) (by omega)) ?_
  rintro ⟨d, lo, cs, m, l1, a1, s1⟩ ⟨e1, e2, e3, e4, e5, e6⟩
  dsimp only at *; subst e1
  refine Yl.bind (pick_ok k s1 7 hb (by omega) (by omega)) ?_
  rintro ⟨p, l2, a2, s2⟩ ⟨p1, p2, p3, p4, p5, p6⟩
  dsimp only at *; subst p1
  obtain ⟨n, rfl⟩ : ∃ n : Nat, p = n := ⟨p.toNat, by omega⟩
  rw [bs_empty]
  refine (console_l l2 hb 0 0 0 0 [] (bs []) (bs []) n k a2 s2 d lo m cs [] [] 0 (by omega) (by omega) (by omega) (by omega) e4 ⟨e5, e6⟩ (by simp)).mono fun r hr => ?_
  obtain ⟨r1, r2, r3, r4, r5, r6, r7⟩ := hr
  exact ⟨r1, r2, r3, r4, r5, by omega, by omega⟩
def okRun : List (List UInt8 × List UInt8) → (Int × Int × List C5 × Int) × (List UInt8 × Int) → Option ((Int × Int × List C5 × Int) × (List UInt8 × Int))
  | [], x => some x
  | e :: es, x => if rsay [] x e.1 = e.2 then okRun es (rstep [] x e.1) else none
structure RunI (lo : Int) (x : (Int × Int × List C5 × Int) × (List UInt8 × Int)) (es : List (List UInt8 × List UInt8)) : Prop where
  shop : shopB x.1.1 x.1.2.1 x.1.2.2.1 x.1.2.2.2 = true
  good : goods es
  len : es.length ≤ 60
  text : x.2.1 = textL 0 es
  num : x.2.2 = (es.length : Int)
  run : okRun es (newX lo) = some x
theorem RunI.valid {lo : Int} {x : (Int × Int × List C5 × Int) × (List UInt8 × Int)} {es : List (List UInt8 × List UInt8)} (h : RunI lo x es) : validL [] x.2.1 x.2.2 = true ∧ x.2.1.length ≤ 22320 ∧ openL 60 0 x.2.1 = es := by
  have hb := textL_bd es 0 h.good (by have := h.len; omega)
  have hl := h.len
  refine ⟨?_, by rw [h.text]; omega, by rw [h.text]; exact open_text h.good h.len⟩
  rw [h.num]
  refine valid_mk h.good h.len (by rw [h.text]; simp; omega) (by rw [h.text]; rfl) ?_
  rw [openL_nil (by omega)]
  rfl
theorem RunI.ok {lo : Int} {x : (Int × Int × List C5 × Int) × (List UInt8 × Int)} {es : List (List UInt8 × List UInt8)} (h : RunI lo x es) : Rok [] x := by
  have h1 := (shopB_of h.shop).2.2.2.1
  have h2 := h.valid.2.1
  exact ⟨by omega, by show 0 + _ ≤ _; omega⟩
def ScrD (r : Int × Int × List C5 × Int × ByteArray × ByteArray × Int × ByteArray) : Prop := r.2.2.1.length ≤ 9 ∧ r.2.2.2.2.1.size + r.2.2.2.2.2.1.size ≤ 100000 ∧ r.2.2.2.2.2.2.2.size ≤ 1000
theorem scr14 (z0 z1 z3 z6 : Int) (z2 : List C5) (z4 z5 : ByteArray) (d lo m : Int) (cs : List C5) (D Q : ByteArray) (c : Int) (hc : cs.length ≤ 9) (hs : D.size + Q.size ≤ 100000) : ∀ (n K : Nat) (t : List UInt8), n < K → t.length + n ≤ 100 → Yl (spec_DrawRunScript.l14 K z0 z1 z2 z3 z4 z5 z6 d lo cs m D Q c (bs t) (n : Int)) ScrD := by
  intro n
  induction n with
  | zero =>
    intro K t h1 h2
    obtain ⟨K, rfl⟩ := succ_of (show 0 < K by omega)
    show Yl (spec_DrawRunScript.b14 (spec_DrawRunScript.l14 K) K z0 z1 z2 z3 z4 z5 z6 d lo cs m D Q c (bs t) ((0 : Nat) : Int)) _
    unfold spec_DrawRunScript.b14
    rw [if_neg (by omega)]
    exact Yl.ret ⟨hc, hs, by dsimp only; rw [bs_size]; omega⟩
  | succ n ih =>
    intro K t h1 h2
    obtain ⟨K, rfl⟩ := succ_of (show 0 < K by omega)
    show Yl (spec_DrawRunScript.b14 (spec_DrawRunScript.l14 K) K z0 z1 z2 z3 z4 z5 z6 d lo cs m D Q c (bs t) ((n + 1 : Nat) : Int)) _
    unfold spec_DrawRunScript.b14
    rw [if_pos (by omega), show (⟨#[10]⟩ : ByteArray) = bs [10] from rfl, catS_bs (by simp; omega), Option.bind_some, w64_id (by omega), show ((n + 1 : Nat) : Int) - 1 = n by omega]
    exact ih K _ (by omega) (by simp; omega)
theorem scr6 (z0 z1 z3 z6 : Int) (z2 : List C5) (z4 z5 : ByteArray) (l : List Int) (hb : By l) (d lo m : Int) (D Q : ByteArray) (c : Int) (hlo : -1000 ≤ lo ∧ lo ≤ 1000) (hs : D.size + Q.size ≤ 100000) : ∀ (n K : Nat) (a s : Int) (cs : List C5) (t : List UInt8), n ≤ 10 → 1000 + n < K → 0 ≤ a → a + 100 * n ≤ 100000 → cs.length ≤ 9 → t.length + 61 * n ≤ 900 → Yl (spec_DrawRunScript.l6 K z0 z1 z2 z3 z4 z5 z6 l a s d lo cs m D Q c (bs t) (n : Int)) ScrD := by
  intro n
  induction n with
  | zero =>
    intro K a s cs t h1 h2 h3 h4 h5 h6
    obtain ⟨K, rfl⟩ := succ_of (show 0 < K by omega)
    show Yl (spec_DrawRunScript.b6 (spec_DrawRunScript.l6 K) (spec_DrawRunScript.l14 K) K z0 z1 z2 z3 z4 z5 z6 l a s d lo cs m D Q c (bs t) ((0 : Nat) : Int)) _
    unfold spec_DrawRunScript.b6
    rw [if_neg (by omega)]
    refine Yl.bind (one_ok K s 20 hb (by omega) (by omega)) ?_
    rintro ⟨b, l1, a1, s1⟩ ⟨e1, e2, e3⟩
    dsimp only at *; subst e1
    refine Yl.cond (fun _ => ?_) fun _ => ?_
    · refine Yl.bind (pick_ok K s1 2 hb (by omega) (by omega)) ?_
      rintro ⟨p, l2, a2, s2⟩ ⟨p1, p2, p3, p4, p5, p6⟩
      dsimp only at *; subst p1
      rw [w64_id (by omega)]
      obtain ⟨j, hj⟩ : ∃ j : Nat, 29 + p = j := ⟨(29 + p).toNat, by omega⟩
      rw [hj, bs_nil]
      exact scr14 z0 z1 z3 z6 z2 z4 z5 d lo m cs D Q c h5 hs j K [] (by omega) (by simp; omega)
    · exact Yl.ret ⟨h5, hs, by dsimp only; rw [bs_size]; omega⟩
  | succ n ih =>
    intro K a s cs t h1 h2 h3 h4 h5 h6
    obtain ⟨K, rfl⟩ := succ_of (show 0 < K by omega)
    show Yl (spec_DrawRunScript.b6 (spec_DrawRunScript.l6 K) (spec_DrawRunScript.l14 K) K z0 z1 z2 z3 z4 z5 z6 l a s d lo cs m D Q c (bs t) ((n + 1 : Nat) : Int)) _
    unfold spec_DrawRunScript.b6
    rw [if_pos (by omega), show (⟨#[10]⟩ : ByteArray) = bs [10] from rfl, catS_bs (by simp; omega), Option.bind_some]
    refine Yl.bind (command2_ok K s d lo m cs D Q c hb (by omega) (by omega) hlo (by omega)) ?_
    rintro ⟨u, l1, a1, s1, cs1⟩ ⟨t1, t2, t3, t4, t5⟩
    dsimp only at *; subst t2; subst t5
    obtain ⟨u, rfl⟩ := bs_ex u
    rw [bs_size] at t1
    rw [catS_bs (by simp; omega), Option.bind_some, w64_id (by omega), show ((n + 1 : Nat) : Int) - 1 = n by omega]
    exact ih K a1 s1 cs1 _ (by omega) (by omega) (by omega) (by omega) h5 (by simp; omega)
theorem drawScr_ok (k : Nat) {l : List Int} (hb : By l) (hk : 8000000 ≤ k) : Yl (spec_DrawRunScript.f k l) ScrD := by
  unfold spec_DrawRunScript.f spec_DrawRunScript.m
  refine Yl.bind (console_ok k 0 hb (by omega) (by omega)) ?_
  rintro ⟨d, lo, cs, m, D, Q, n, l1, a1, s1⟩ ⟨e1, e2, e3, e4, e5, e6, e7⟩
  dsimp only at *; subst e5
  refine Yl.bind (command2_ok k s1 d lo m cs D Q n hb (by omega) (by omega) ⟨e2, e3⟩ (by omega)) ?_
  rintro ⟨u, l2, a2, s2, cs1⟩ ⟨t1, t2, t3, t4, t5⟩
  dsimp only at *; subst t2; subst t5
  refine Yl.bind (pick_ok k s2 5 hb (by omega) (by omega)) ?_
  rintro ⟨p, l3, a3, s3⟩ ⟨p1, p2, p3, p4, p5, p6⟩
  dsimp only at *; subst p1
  obtain ⟨u, rfl⟩ := bs_ex u
  rw [bs_size] at t1
  obtain ⟨j, rfl⟩ : ∃ j : Nat, p = j := ⟨p.toNat, by omega⟩
  exact scr6 0 0 0 0 [] ByteArray.empty ByteArray.empty l3 hb d lo m D Q n ⟨e2, e3⟩ e4 j k a3 s3 cs1 u (by omega) (by omega) (by omega) (by omega) e1 (by omega)
def lineC (i : Nat) (c : C5) : List UInt8 := Lib.decDigits i ++ [58, 32] ++ onC c ++ [10]
def linesL : Nat → List C5 → List UInt8
  | _, [] => []
  | i, c :: cs => lineC i c ++ linesL (i + 1) cs
theorem linesL_cons (i : Nat) (c : C5) (cs : List C5) : linesL i (c :: cs) = lineC i c ++ linesL (i + 1) cs := rfl
def endL (d m n : Int) : List UInt8 := [100, 97, 121, 32] ++ Lib.decDigits d.toNat ++ [59, 32, 109, 111, 110, 101, 121, 32] ++ Lib.decDigits m.toNat ++ [59, 32, 114, 101, 99, 111, 114, 100, 115, 32] ++ Lib.decDigits n.toNat ++ [10]
def formatR (d lo : Int) (cs : List C5) (m : Int) (D Q : List UInt8) (n : Int) : ByteArray × Bool := if (shopB d lo cs m && validL D Q n) = true then (bs (linesL 0 cs ++ endL d m n), true) else (bs [], false)
theorem onC_len {c : C5} (h1 : 0 ≤ c.2.1 ∧ c.2.1 ≤ 500) (h2 : 0 ≤ c.1 ∧ c.1 ≤ 500) (h4 : 0 ≤ c.2.2.2.1 ∧ c.2.2.2.1 ≤ 500) : (onC c).length ≤ 40 := by
  have := textC_len h1 h2
  have := digI_len _ h4
  unfold onC
  split
  · simp only [List.length_append, List.length_cons, List.length_nil]; omega
  · omega
theorem lineC_len {i : Nat} (hi : i ≤ 500) {c : C5} (h1 : 0 ≤ c.2.1 ∧ c.2.1 ≤ 500) (h2 : 0 ≤ c.1 ∧ c.1 ≤ 500) (h4 : 0 ≤ c.2.2.2.1 ∧ c.2.2.2.1 ≤ 500) : (lineC i c).length ≤ 50 := by
  have := onC_len h1 h2 h4
  have := digI_len (i : Int) (by omega)
  rw [Int.toNat_natCast] at this
  unfold lineC
  simp only [List.length_append, List.length_cons, List.length_nil]
  omega
theorem carp_parts {day lo m : Int} {cs : List C5} (hs : shopB day lo cs m = true) {i : Nat} (hi : i < cs.length) : (0 ≤ (cs.getD i (0, 0, 0, 0, 0)).2.1 ∧ (cs.getD i (0, 0, 0, 0, 0)).2.1 ≤ 500) ∧ (0 ≤ (cs.getD i (0, 0, 0, 0, 0)).1 ∧ (cs.getD i (0, 0, 0, 0, 0)).1 ≤ 500) ∧ (0 ≤ (cs.getD i (0, 0, 0, 0, 0)).2.2.1 ∧ (cs.getD i (0, 0, 0, 0, 0)).2.2.1 ≤ 4) ∧ (0 ≤ (cs.getD i (0, 0, 0, 0, 0)).2.2.2.1 ∧ (cs.getD i (0, 0, 0, 0, 0)).2.2.2.1 ≤ 500) := by
  obtain ⟨b1, b2, b3, b4, b5⟩ := shopB_of hs
  have hc := carp_bd (carp_at b5 hi)
  have hlm := hc.2.2.2.2 (by omega)
  exact ⟨by omega, by omega, hc.2.2.1, by omega⟩
theorem lit2 : (⟨#[58, 32]⟩ : ByteArray) = bs [58, 32] := rfl
theorem lit10 : (⟨#[10]⟩ : ByteArray) = bs [10] := rfl
theorem implFmt_l (k : Nat) (hk : 2000 ≤ k) (d lo m : Int) (cs : List C5) (hs : shopB d lo cs m = true) : ∀ (q P : List C5) (acc : List UInt8), cs = P ++ q → acc.length + 60 * q.length ≤ 10000 → fmtLoop (impl_CarpetText.f k d lo cs m) (impl_decimal.f k) q.length P.length (bs acc) = some (bs (acc ++ linesL P.length q))
  | [], P, acc, _, _ => by
    unfold linesL
    rw [List.append_nil]
    rfl
  | c :: q, P, acc, h1, h2 => by
    obtain ⟨b1, b2, b3, b4, b5⟩ := shopB_of hs
    have hlen : cs.length = P.length + (q.length + 1) := by rw [h1]; simp
    have hget : cs.getD P.length (0, 0, 0, 0, 0) = c := by rw [h1, getD_mid]
    obtain ⟨p1, p2, p3, p4⟩ := carp_parts hs (i := P.length) (by omega)
    rw [hget] at p1 p2 p3 p4
    have hll := lineC_len (i := P.length) (by omega) p1 p2 p4
    rw [List.length_cons] at h2
    have hline : fmtLine (impl_CarpetText.f k d lo cs m) (impl_decimal.f k) (P.length : Int) = some (bs (lineC P.length c)) := by
      have hon := onC_len p1 p2 p4
      have hdg := digI_len (P.length : Int) (by omega)
      rw [Int.toNat_natCast] at hdg
      unfold fmtLine
      rw [decI_ok _ (by omega), Int.toNat_natCast, Option.bind_some, lit2, catS_bs (by simp; omega), Option.bind_some, implCarpetText_ok _ _ _ _ _ _ (by omega) hk]
      unfold carpetR
      rw [if_pos ⟨hs, by omega, by omega⟩, Int.toNat_natCast, hget, Option.bind_some]
      dsimp only
      rw [catS_bs (by simp; omega), Option.bind_some, lit10, catS_bs (by simp; omega)]
      rfl
    show fmtLoop _ _ (q.length + 1) P.length (bs acc) = _
    unfold fmtLoop
    rw [hline, Option.bind_some, catS_bs (by omega), Option.bind_some]
    have := implFmt_l k hk d lo m cs hs q (P ++ [c]) (acc ++ lineC P.length c) (by rw [h1]; simp) (by rw [List.length_append]; omega)
    rw [List.length_append, List.length_singleton] at this
    rw [this, linesL_cons, List.append_assoc]
theorem validL_n {D Q : List UInt8} {n : Int} (h : validL D Q n = true) : 0 ≤ n ∧ n ≤ 60 := by
  unfold validL at h
  simp only [Bool.and_eq_true, decide_eq_true_eq] at h
  have := openL_len (m := 60) (n := 0) (s := D ++ Q)
  omega
theorem linesL_len {d lo m : Int} {cs : List C5} (hs : shopB d lo cs m = true) : ∀ (q P : List C5), cs = P ++ q → (linesL P.length q).length ≤ 50 * q.length
  | [], P, _ => by simp [linesL]
  | c :: q, P, h1 => by
    obtain ⟨b1, b2, b3, b4, b5⟩ := shopB_of hs
    have hlen : cs.length = P.length + (q.length + 1) := by rw [h1]; simp
    have hget : cs.getD P.length (0, 0, 0, 0, 0) = c := by rw [h1, getD_mid]
    obtain ⟨p1, p2, p3, p4⟩ := carp_parts hs (i := P.length) (by omega)
    rw [hget] at p1 p2 p3 p4
    have hll := lineC_len (i := P.length) (by omega) p1 p2 p4
    have := linesL_len hs q (P ++ [c]) (by rw [h1]; simp)
    rw [List.length_append, List.length_singleton] at this
    rw [linesL_cons, List.length_append, List.length_cons]
    omega
theorem dig7 {n : Int} (h : 0 ≤ n ∧ n ≤ 1000000) : (Lib.decDigits n.toNat).length ≤ 7 := (digits_len n.toNat 7 (by omega) (by omega)).1
theorem implFmt_end (k : Nat) {d m n : Int} (h1 : 0 ≤ d ∧ d ≤ 4000) (h2 : 0 ≤ m ∧ m ≤ 1000000) (h3 : 0 ≤ n ∧ n ≤ 60) (acc : List UInt8) (ha : acc.length ≤ 10000) : fmtEnd (impl_decimal.f k) d m n (bs acc) = some (bs (acc ++ endL d m n)) := by
  have e1 := dig7 (n := d) (by omega)
  have e2 := dig7 (n := m) (by omega)
  have e3 := dig7 (n := n) (by omega)
  unfold fmtEnd
  rw [decI2 (by omega), Option.bind_some, show (⟨#[100, 97, 121, 32]⟩ : ByteArray) = bs [100, 97, 121, 32] from rfl, catS_bs (by simp; omega), Option.bind_some,
    show (⟨#[59, 32, 109, 111, 110, 101, 121, 32]⟩ : ByteArray) = bs [59, 32, 109, 111, 110, 101, 121, 32] from rfl, catS_bs (by simp; omega), Option.bind_some, decI2 (by omega), Option.bind_some, catS_bs (by simp; omega), Option.bind_some,
    show (⟨#[59, 32, 114, 101, 99, 111, 114, 100, 115, 32]⟩ : ByteArray) = bs [59, 32, 114, 101, 99, 111, 114, 100, 115, 32] from rfl, catS_bs (by simp; omega), Option.bind_some, decI2 (by omega), Option.bind_some, catS_bs (by simp; omega), Option.bind_some, lit10, catS_bs (by simp; omega), Option.bind_some, catS_bs (by simp; omega)]
  rfl
theorem implFmt_ok (d lo m : Int) (cs : List C5) (D Q : List UInt8) (n : Int) (hl : D.length + Q.length ≤ 1048576) (k : Nat) (hk : 2000000 ≤ k) : impl_FormatConsole.f k d lo cs m (bs D) (bs Q) n = some (formatR d lo cs m D Q n) := by
  unfold impl_FormatConsole.f fmtF formatR
  rw [implCons_ok d lo m cs D Q n hl k hk, Option.bind_some]
  cases hv : shopB d lo cs m && validL D Q n
  · rw [cond_false, if_neg (by simp)]; rfl
  · rw [cond_true, if_pos rfl]
    obtain ⟨hs, hv⟩ := Bool.and_eq_true_iff.1 hv
    obtain ⟨b1, b2, b3, b4, b5⟩ := shopB_of hs
    have hll := linesL_len hs cs [] rfl
    have hF := implFmt_l k (by omega) d lo m cs hs cs [] [] rfl (by simp; omega)
    rw [List.nil_append] at hF
    rw [if_pos (by omega), show (⟨#[]⟩ : ByteArray) = bs [] from rfl, show (0 : Nat) = ([] : List C5).length from rfl, hF, Option.bind_some, implFmt_end k b1 b3 (validL_n hv) _ (by omega), Option.bind_some]
theorem specFmt_l (d lo m n : Int) (cs : List C5) (D Q : List UInt8) (hs : shopB d lo cs m = true) (hn : 0 ≤ n ∧ n ≤ 60) : ∀ (q P : List C5) (acc : List UInt8) (k : Nat), cs = P ++ q → acc.length + 60 * q.length ≤ 10000 → 2000 + q.length < k → spec_FormatConsole.l7 k d lo cs m (bs D) (bs Q) n (bs acc) (P.length : Int) = some (bs (acc ++ (linesL P.length q ++ endL d m n)), true)
  | [], P, acc, k, h1, h2, h3 => by
    obtain ⟨k, rfl⟩ := succ_of (show 0 < k by omega)
    obtain ⟨b1, b2, b3, b4, b5⟩ := shopB_of hs
    rw [List.append_nil] at h1
    subst h1
    have e1 := dig7 (n := d) (by omega)
    have e2 := dig7 (n := m) (by omega)
    have e3 := dig7 (n := n) (by omega)
    rw [List.length_nil] at h2 h3
    show spec_FormatConsole.b7 (spec_FormatConsole.l7 k) k d lo cs m (bs D) (bs Q) n (bs acc) (cs.length : Int) = _
    unfold spec_FormatConsole.b7
    rw [if_neg (by omega), numI2 (n := d) (by omega) k (by omega), numI2 (n := m) (by omega) k (by omega), numI2 (n := n) (by omega) k (by omega), show (⟨#[100, 97, 121, 32]⟩ : ByteArray) = bs [100, 97, 121, 32] from rfl, catS_bs (by simp; omega), Option.bind_some, Option.bind_some, catS_bs (by simp; omega), Option.bind_some,
      show (⟨#[59, 32, 109, 111, 110, 101, 121, 32]⟩ : ByteArray) = bs [59, 32, 109, 111, 110, 101, 121, 32] from rfl, catS_bs (by simp; omega), Option.bind_some, Option.bind_some, catS_bs (by simp; omega), Option.bind_some,
      show (⟨#[59, 32, 114, 101, 99, 111, 114, 100, 115, 32]⟩ : ByteArray) = bs [59, 32, 114, 101, 99, 111, 114, 100, 115, 32] from rfl, catS_bs (by simp; omega), Option.bind_some, Option.bind_some, catS_bs (by simp; omega), Option.bind_some, lit10, catS_bs (by simp; omega), Option.bind_some]
    unfold linesL endL
    simp only [List.append_assoc, List.nil_append]
  | c :: q, P, acc, k, h1, h2, h3 => by
    obtain ⟨k, rfl⟩ := succ_of (show 0 < k by omega)
    obtain ⟨b1, b2, b3, b4, b5⟩ := shopB_of hs
    have hlen : cs.length = P.length + (q.length + 1) := by rw [h1]; simp
    have hget : cs.getD P.length (0, 0, 0, 0, 0) = c := by rw [h1, getD_mid]
    obtain ⟨p1, p2, p3, p4⟩ := carp_parts hs (i := P.length) (by omega)
    rw [hget] at p1 p2 p3 p4
    have hll := lineC_len (i := P.length) (by omega) p1 p2 p4
    have hon := onC_len p1 p2 p4
    have hdg := digI_len (P.length : Int) (by omega)
    rw [Int.toNat_natCast] at hdg
    rw [List.length_cons] at h2 h3
    show spec_FormatConsole.b7 (spec_FormatConsole.l7 k) k d lo cs m (bs D) (bs Q) n (bs acc) (P.length : Int) = _
    unfold spec_FormatConsole.b7
    rw [if_pos (by omega), numI_ok _ (by omega) k (by omega), Int.toNat_natCast, Option.bind_some, catS_bs (by omega), Option.bind_some, lit2, catS_bs (by simp; omega), Option.bind_some, chk_nat (by omega), Option.bind_some, hget,
      specText_ok k c p1 p2 p3 p4 (by omega), Option.bind_some, catS_bs (by simp; omega), Option.bind_some, lit10, catS_bs (by simp; omega), Option.bind_some, w64_id (by omega)]
    have := specFmt_l d lo m n cs D Q hs hn q (P ++ [c]) (acc ++ lineC P.length c) k (by rw [h1]; simp) (by rw [List.length_append]; omega) (by omega)
    rw [List.length_append, List.length_singleton, show ((P.length + 1 : Nat) : Int) = (P.length : Int) + 1 by omega] at this
    rw [linesL_cons, show acc ++ Lib.decDigits P.length ++ [58, 32] ++ onC c ++ [10] = acc ++ lineC P.length c by unfold lineC; simp only [List.append_assoc], this]
    simp only [List.append_assoc]
theorem specFmt_ok (d lo m : Int) (cs : List C5) (D Q : List UInt8) (n : Int) (hl : D.length + Q.length ≤ 1048576) (k : Nat) (hk : 2000000 ≤ k) : spec_FormatConsole.f k d lo cs m (bs D) (bs Q) n = some (formatR d lo cs m D Q n) := by
  unfold spec_FormatConsole.f spec_FormatConsole.m formatR
  rw [specCons_ok d lo m cs D Q n hl k hk, Option.bind_some]
  cases hv : shopB d lo cs m && validL D Q n
  · rw [Bool.not_false, cond_true, if_neg (by simp)]; rfl
  · rw [Bool.not_true, cond_false, if_pos rfl]
    obtain ⟨hs, hv⟩ := Bool.and_eq_true_iff.1 hv
    obtain ⟨b1, b2, b3, b4, b5⟩ := shopB_of hs
    exact specFmt_l d lo m n cs D Q hs (validL_n hv) cs [] [] k rfl (by simp; omega) (by omega)
theorem scriptR_first (d lo m : Int) (cs : List C5) (D Q : List UInt8) (n : Int) (text : List UInt8) (h2 : (scriptR d lo cs m D Q n text).2 = true) (w : List UInt8) (ws : List (List UInt8)) (hw : splitL 10 text = w :: ws) :
    ∃ a, (scriptR d lo cs m D Q n w) = ([a], true) ∧ ∃ r, (scriptR d lo cs m D Q n text).1 = a :: r := by
  have hfree : ∀ b ∈ w, b ≠ 10 := by
    rw [splitL_bef] at hw
    split at hw
    · injection hw with hw _
      rw [← hw]; exact bef_not text
    · rename_i hn
      injection hw with hw _
      rw [← hw]
      intro b hb e
      exact hn (List.any_eq_true.2 ⟨b, hb, by simp [e]⟩)
  have hwl : w.length ≤ text.length := by
    have := word_len 10 text w (by rw [hw]; exact List.mem_cons_self)
    omega
  have h1 : (shopB d lo cs m && validL D Q n) = true ∧ (text.length : Int) ≤ 4000 ∧ ((splitL 10 text).length : Int) ≤ 30 := by
    unfold scriptR at h2
    split at h2
    · assumption
    · cases h2
  refine ⟨bs (rsay D ((d, lo, cs, m), (Q, n)) w), ?_, (scriptL D ws (rstep D ((d, lo, cs, m), (Q, n)) w)).map bs, ?_⟩
  · unfold scriptR
    rw [splitL_free 10 w hfree, if_pos ⟨h1.1, by omega, by simp⟩]
    rfl
  · unfold scriptR
    rw [if_pos h1, hw]
    rfl
theorem script_l (k0 : Nat) (hk : 8000000 ≤ k0) (d lo m : Int) (cs : List C5) (D Q : List UInt8) (n : Int) (text : List UInt8) (hc : cs.length ≤ 9) (hl : D.length + Q.length ≤ 100000) (ht : text.length ≤ 1000) : ∀ (j i k : Nat), i + j = (scriptR d lo cs m D Q n text).1.length → k0 + j < k →
    laws_FnScript.l12 k d lo cs m (bs D) (bs Q) n (bs text) (scriptR d lo cs m D Q n text).1 (scriptR d lo cs m D Q n text).2 (scriptR d lo cs m D Q n text).1 (i : Int) = some true
  | 0, i, k, h1, h2 => by
    obtain ⟨k, rfl⟩ := succ_of (show 0 < k by omega)
    show laws_FnScript.b12 (laws_FnScript.l12 k) k d lo cs m (bs D) (bs Q) n (bs text) (scriptR d lo cs m D Q n text).1 (scriptR d lo cs m D Q n text).2 (scriptR d lo cs m D Q n text).1 (i : Int) = _
    unfold laws_FnScript.b12
    rw [if_neg (by omega)]
    have hS : spec_SplitString.f k (bs text) (⟨#[10]⟩ : ByteArray) = some ((splitL 10 text).map bs, true) := by
      unfold spec_SplitString.f spec_SplitString.m
      have hs := splitS_ok text 10 (by omega) (by omega) k (by omega)
      rw [show ((10 : Nat) : Int) = 10 from rfl, show UInt8.ofNat 10 = 10 from rfl] at hs
      have hck := chk_nat (show 0 < [(10 : UInt8)].length by simp)
      rw [show ((0 : Nat) : Int) = 0 from rfl] at hck
      have hb10 : byteAt (bs [10]) 0 = 10 := rfl
      rw [show (⟨#[10]⟩ : ByteArray) = bs [10] from rfl, bs_size, bs_size, if_neg (by simp), if_neg (by omega), hck, Option.bind_some, hb10, hs]
      rfl
    rw [hS, Option.bind_some]
    dsimp only
    have h0 : ∀ {xs : List ByteArray}, 0 < xs.length → chk xs.length 0 = some 0 := fun h => chk_nat (j := 0) h
    cases hok : (scriptR d lo cs m D Q n text).2
    · have : (scriptR d lo cs m D Q n text).1.length = 0 := by
        unfold scriptR at hok ⊢
        split at hok
        · cases hok
        · rename_i hq
          rw [if_neg hq]; rfl
      rw [Bool.not_false, cond_true, cond_false, decide_eq_true (by omega)]
    · rw [Bool.not_true, cond_false, cond_true]
      by_cases h2l : (((splitL 10 text).map bs).length : Int) < 2
      · rw [if_pos h2l]
      · rw [if_neg h2l]
        rw [List.length_map] at h2l
        obtain ⟨w, ws, hw⟩ : ∃ w ws, splitL 10 text = w :: ws := by
          cases hq : splitL 10 text with
          | nil => exact absurd hq (splitL_ne 10 text)
          | cons w ws => exact ⟨w, ws, rfl⟩
        have hwl : w.length ≤ text.length := by
          have := word_len 10 text w (by rw [hw]; exact List.mem_cons_self)
          omega
        obtain ⟨a, ha, r, hr⟩ := scriptR_first d lo m cs D Q n text hok w ws hw
        rw [h0 (by rw [List.length_map, hw]; simp), Option.bind_some, show ((splitL 10 text).map bs).getD 0 ByteArray.empty = bs w by rw [hw]; rfl, implScript_ok d lo m cs D Q n w (by omega) (by omega) (by omega) k (by omega), Option.bind_some, implFmt_ok d lo m cs D Q n (by omega) k (by omega), Option.bind_some, specFmt_ok d lo m cs D Q n (by omega) k (by omega), Option.bind_some, ha, hr]
        dsimp only
        rw [cond_true, if_pos (by simp), h0 (by simp), Option.bind_some, h0 (by simp), Option.bind_some]
        simp only [List.getD_cons_zero, if_pos, decide_true]
  | j + 1, i, k, h1, h2 => by
    obtain ⟨k, rfl⟩ := succ_of (show 0 < k by omega)
    show laws_FnScript.b12 (laws_FnScript.l12 k) k d lo cs m (bs D) (bs Q) n (bs text) (scriptR d lo cs m D Q n text).1 (scriptR d lo cs m D Q n text).2 (scriptR d lo cs m D Q n text).1 (i : Int) = _
    unfold laws_FnScript.b12
    have hlen := scriptR_len d lo m cs D Q n text
    rw [if_pos (by omega), chk_nat (by omega), Option.bind_some, Option.bind_some, if_neg (fun h => h rfl), w64_id (by omega)]
    have := script_l k0 hk d lo m cs D Q n text hc hl ht j (i + 1) k (by omega) (by omega)
    rw [show ((i + 1 : Nat) : Int) = (i : Int) + 1 by omega] at this
    exact this
theorem pure_holds : Pure := by
  intro l0 hlen hwf
  have hb := By.of hwf
  refine ⟨9000000, ?_⟩
  unfold laws_FnScript.f laws_FnScript.m laws_vBig.f laws_vBig.m
  rw [Option.bind_some]
  cases decide (65536 < (l0.length : Int))
  · rw [cond_false]
    obtain ⟨⟨d, lo, cs, m, D, Q, n, text⟩, he, f1, f2, f3⟩ := drawScr_ok 9000000 hb (by omega)
    dsimp only at f1 f2 f3
    obtain ⟨D, rfl⟩ := bs_ex D
    obtain ⟨Q, rfl⟩ := bs_ex Q
    obtain ⟨text, rfl⟩ := bs_ex text
    rw [bs_size] at f3
    rw [bs_size, bs_size] at f2
    rw [he, Option.bind_some]
    dsimp only
    rw [implScript_ok d lo m cs D Q n text (by omega) (by omega) (by omega) _ (by omega), Option.bind_some, specScript_ok d lo m cs D Q n text (by omega) (by omega) (by omega) _ (by omega), Option.bind_some, if_neg (fun h => h rfl), if_neg (fun h => h rfl)]
    have hlen := scriptR_len d lo m cs D Q n text
    exact script_l 8000000 (by omega) d lo m cs D Q n text f1 f2 f3 _ 0 9000000 (Nat.zero_add _) (by omega)
  · rfl
end Go.Proofs.YtiacidpjplmgaaaGreatDoor.DFnScript
