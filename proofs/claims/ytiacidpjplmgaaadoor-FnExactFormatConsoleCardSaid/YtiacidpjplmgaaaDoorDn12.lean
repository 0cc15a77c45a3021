/- Words of this session's own: indices and parts of rows on the machine. -/
import Derived.Test.YtiacidpjplmgaaaDoorDn11
set_option linter.unusedVariables false
set_option linter.unusedSimpArgs false
namespace Go.Proofs.YtiacidpjplmgaaaDoorD
section
variable {P : Program} {τ : TT} {F : Fr} {c : Ctx} {w w' : World} {hp : Hp} {α : Type}
theorem getD_some {β : Type} {xs : List β} {j : Nat} {d : β} (h : j < xs.length) : xs[j]? = some (xs.getD j d) := by rw [List.getD_eq_getElem?_getD, List.getElem?_eq_getElem h]; rfl
/-- The address of an element of what is read. -/
theorem rptr_of {S : Nat → Prop} {s : Ty} {xs : List s.D} {A : Option Addr} {n cap j : Nat} {inner : List Value} (hf : Flat (Rd S w s) xs inner) (hr : inner ≠ [] → ∃ ad, A = some ad ∧ S ad.block ∧ ∀ j u, inner[j]? = some u → w.cell? (ad.add j) = some u) (hj : j < xs.length) :
    ∃ ad, A = some ad ∧ S ad.block ∧ ∃ cs, Rd S w s (xs.getD j s.dflt) cs ∧ ∀ i u, cs[i]? = some u → w.cell? ((ad.add (j * s.cells)).add i) = some u := by
  obtain ⟨cs, h1, h2⟩ := hf.get (fun _ _ h => h.len) j _ (getD_some (d := s.dflt) hj)
  have hpos : 0 < cs.length := by rw [h1.len]; exact Ty.cells_pos _
  have hne : inner ≠ [] := by
    rintro rfl
    have := h2 0 _ (List.getElem?_eq_getElem hpos)
    simp at this
  obtain ⟨ad, ha, hs, hc⟩ := hr hne
  exact ⟨ad, ha, hs, cs, h1, fun i u hu => by rw [add_add]; exact hc _ u (h2 i u hu)⟩
theorem indexSlK_ok {h : Nat → Option Blk} {t : Nat} {x i : V} {K : V → Option α} {r : α} (hτ : TOk P τ) (he : indexSlK τ h t x i K = some r) :
    ∃ v, K v = some r ∧ (∀ {β : Type} (K' : V → Option β), indexSlK τ h t x i K' = K' v) ∧ ∀ {c : Ctx} {w : World} {xv iv : Value}, (∀ b x, h b = some x → BR c w b x) → VR c w x xv → VR c w i iv → ∃ val, (Instr.indexAt t xv iv).run P w = .ok val w ∧ VR c w v val := by
  unfold indexSlK at he
  split at he
  case h_2 => cases he
  rename_i q ei k n hq
  obtain ⟨hu, hT⟩ := elemOf_ok hτ hq
  split at he
  · rename_i s xs
    split at he
    case h_2 => cases he
    rename_i hs
    have hs' := beq_ty hs
    obtain ⟨j, hj, hK⟩ := Option.bind_eq_some_iff.1 he
    refine ⟨_, hK, fun K' => by unfold indexSlK; simp only [hq, hs, hj, Option.bind_some], fun {c w xv iv} hH hx hi => ?_⟩
    obtain ⟨rfl, h0, h1⟩ := chk_ok hj
    rw [int_of hi]
    simp only [VR] at hx
    obtain ⟨A, cap, inner, e, _, hf, hr⟩ := hx
    simp only [List.cons.injEq, and_true] at e
    subst e
    obtain ⟨ad, rfl, hS, cs, hrd, hc⟩ := rptr_of (n := 0) (cap := 0) hf hr (j := n.toNat) (by omega)
    refine ⟨_, indexAt_run hu hT h0 h1, ?_⟩
    simp only [VR]
    rw [hs']
    exact ⟨_, cs, by rw [add_zero], by rw [add_block]; exact hS, hrd, hc⟩
  · rename_i b
    split at he
    · rename_i e0 s xs hb
      split at he
      case h_2 => cases he
      rename_i hs
      have hs' := beq_ty hs
      obtain ⟨j, hj, hK⟩ := Option.bind_eq_some_iff.1 he
      refine ⟨_, hK, fun K' => by unfold indexSlK; simp only [hq, hb, hs, hj, Option.bind_some], fun {c w xv iv} hH hx hi => ?_⟩
      obtain ⟨rfl, h0, h1⟩ := chk_ok hj
      rw [int_of hi]
      simp only [VR] at hx
      obtain ⟨hM, hx, _⟩ := hx
      obtain ⟨inner, hf, ho⟩ := hH b _ hb
      subst hx
      rcases ho.2 with ⟨_, h⟩ | ⟨g, cap, cur, hg, _⟩
      · omega
      rw [hg]
      refine ⟨_, indexAt_run hu hT h0 h1, ?_⟩
      simp only [VR]
      rw [hs']
      exact ⟨hM, g, _, cap, hg, by omega, by rw [add_mid, Nat.zero_add, Nat.add_zero]⟩
    · rename_i s xs hb
      split at he
      case h_2 => cases he
      rename_i hs
      have hs' := beq_ty hs
      obtain ⟨j, hj, hK⟩ := Option.bind_eq_some_iff.1 he
      refine ⟨_, hK, fun K' => by unfold indexSlK; simp only [hq, hb, hs, hj, Option.bind_some], fun {c w xv iv} hH hx hi => ?_⟩
      obtain ⟨rfl, h0, h1⟩ := chk_ok hj
      rw [int_of hi]
      simp only [VR] at hx
      obtain ⟨hM, hx, _⟩ := hx
      obtain ⟨⟨A, cap, inner, e, _, hf, hr⟩, _⟩ := hH b _ hb
      simp only [List.cons.injEq, and_true] at e
      rw [e] at hx
      subst hx
      obtain ⟨ad, rfl, hS, cs, hrd, hc⟩ := rptr_of (n := 0) (cap := 0) hf hr (j := n.toNat) (by omega)
      refine ⟨_, indexAt_run hu hT h0 h1, ?_⟩
      simp only [VR]
      rw [hs']
      exact ⟨_, cs, by rw [add_zero], by rw [add_block]; exact hS, hrd, hc⟩
    · rename_i xs hb
      split at he
      case h_2 => cases he
      rename_i hs
      have hs' := beq_ty hs
      obtain ⟨j, hj, hK⟩ := Option.bind_eq_some_iff.1 he
      refine ⟨_, hK, fun K' => by unfold indexSlK; simp only [hq, hb, hs, hj, Option.bind_some], fun {c w xv iv} hH hx hi => ?_⟩
      obtain ⟨rfl, h0, h1⟩ := chk_ok hj
      rw [int_of hi]
      simp only [VR] at hx
      obtain ⟨hM, hx, _⟩ := hx
      obtain ⟨g, cap, cur, e, fz, k1, k2, k3, k4, k5⟩ := hH b _ hb
      subst hx
      rw [k1]
      refine ⟨_, indexAt_run hu hT h0 h1, ?_⟩
      simp only [VR]
      rw [hs']
      exact ⟨hM, g, _, cap, k1, by omega, by rw [add_mid, Nat.zero_add, Nat.add_zero]⟩
    · cases he
  · rename_i s b lo m
    split at he
    case h_2 => cases he
    rename_i hs0
    have hs0' := beq_ty hs0
    split at he
    · rename_i e0 s' xs hb
      split at he
      case h_2 => cases he
      rename_i hs
      have hs' := beq_ty hs
      subst hs'
      obtain ⟨j, hj, hK⟩ := Option.bind_eq_some_iff.1 he
      refine ⟨_, hK, fun K' => by unfold indexSlK; simp only [hq, hs0, hb, hs, hj, Option.bind_some], fun {c w xv iv} hH hx hi => ?_⟩
      obtain ⟨rfl, h0, h1⟩ := chk_ok hj
      rw [int_of hi]
      simp only [VR] at hx
      obtain ⟨hM, hx⟩ := hx
      rcases hx with ⟨_, _, h3, _⟩ | ⟨g, mm, cap, A, e1, h2, h3, e2, _, h5⟩
      · subst h3; omega
      have hA := h5 (.inl (by omega))
      subst hA; subst e2
      refine ⟨_, indexAt_run hu hT h0 h1, ?_⟩
      simp only [VR]
      rw [hs0']
      exact ⟨hM, g, mm, cap, e1, by omega, by rw [add_mid, Nat.add_mul, Nat.add_zero]⟩
    · rename_i s' xs hb
      split at he
      case h_2 => cases he
      rename_i hs
      have hs' := beq_ty hs
      subst hs'
      obtain ⟨j, hj, hK⟩ := Option.bind_eq_some_iff.1 he
      refine ⟨_, hK, fun K' => by unfold indexSlK; simp only [hq, hs0, hb, hs, hj, Option.bind_some], fun {c w xv iv} hH hx hi => ?_⟩
      obtain ⟨rfl, h0, h1⟩ := chk_ok hj
      rw [int_of hi]
      simp only [VR] at hx
      obtain ⟨hM, hx⟩ := hx
      rcases hx with ⟨_, _, h3, _⟩ | ⟨g, mm, cap, A, e1, h2, h3, e2, _, h5⟩
      · subst h3; omega
      have hA := h5 (.inl (by omega))
      subst hA; subst e2
      obtain ⟨⟨A', cap', inner, e, _, hf, hr⟩, _⟩ := hH b _ hb
      rw [e1] at e
      simp only [List.cons.injEq, and_true, Value.slice.injEq] at e
      obtain ⟨rfl, rfl, rfl⟩ := e
      obtain ⟨ad, ha, hS, cs, hrd, hc⟩ := rptr_of (n := 0) (cap := 0) hf hr (j := lo + n.toNat) (by omega)
      cases ha
      refine ⟨_, indexAt_run hu hT h0 h1, ?_⟩
      simp only [VR]
      rw [hs0']
      refine ⟨(⟨g, 0, none⟩ : Addr).add ((lo + n.toNat) * s.cells), cs, ?_, by rw [add_block]; exact hS, hrd, hc⟩
      rw [add_zero, add_mid, add_mid, Nat.zero_add, Nat.add_mul]
    · cases he
  · cases he
theorem indexStrK_ok {t : Nat} {x i : V} {K : V → Option α} {r : α} (hτ : TOk P τ) (he : indexStrK τ t x i K = some r) :
    ∃ v, K v = some r ∧ (∀ {β : Type} (K' : V → Option β), indexStrK τ t x i K' = K' v) ∧ ∀ {c : Ctx} {w : World} {xv iv : Value}, VR c w x xv → VR c w i iv → ∃ val, (Instr.index t xv iv).run P w = .ok val w ∧ VR c w v val := by
  unfold indexStrK at he
  split at he
  case h_2 => cases he
  rename_i hs
  have hu := isStr_ok hτ hs
  split at he
  case h_2 => cases he
  rename_i s k n
  obtain ⟨j, hj, hK⟩ := Option.bind_eq_some_iff.1 he
  refine ⟨_, hK, fun K' => by unfold indexStrK; simp only [hs, hj, Option.bind_some], fun {c w xv iv} hx hi => ?_⟩
  obtain ⟨rfl, h0, h1⟩ := chk_ok hj
  rw [str_of hx, int_of hi]
  have hlt : Int.toNat n < ByteArray.size s := by omega
  refine ⟨_, ?_, VR.int⟩
  have hg : (s : ByteArray)[Int.toNat n]? = some ((s : ByteArray)[Int.toNat n]'hlt) := getElem?_pos (s : ByteArray) _ hlt
  simp only [Instr.index, asIntOf, Sem.run_bind, Sem.run_pure, Result.andThen_ok, run_underlying hu, if_pos h0, hg]
  unfold byteAt
  rw [dif_pos hlt]

theorem indexAddrK_ok {h : Nat → Option Blk} {t : Nat} {x i : V} {K : V → Option α} {r : α} (hτ : TOk P τ) (he : indexAddrK τ h t x i K = some r) :
    ∃ v, K v = some r ∧ (∀ {β : Type} (K' : V → Option β), indexAddrK τ h t x i K' = K' v) ∧ ∀ {c : Ctx} {w : World} {xv iv : Value}, (∀ b x, h b = some x → BR c w b x) → VR c w x xv → VR c w i iv → ∃ val, (Instr.indexAt t xv iv).run P w = .ok val w ∧ VR c w v val := by
  unfold indexAddrK at he
  split at he
  · rename_i len e ei ha
    obtain ⟨hu, hT⟩ := arrOf_ok hτ ha
    obtain ⟨j, hl, ⟨k, hi⟩, he, hj⟩ := arms_ok he
    obtain ⟨v, h1, h2, h3⟩ := addK_ok he
    refine ⟨v, h1, fun K' => by unfold indexAddrK; simp only [ha, hj]; exact h2 K', fun {c w xv iv} hH hx hiv => ?_⟩
    obtain ⟨a, rfl, h4⟩ := h3 hx
    rw [hi] at hiv
    rw [int_of hiv]
    refine ⟨_, ?_, h4⟩
    have hlt : (0 : Int) ≤ ((j : Nat) : Int) ∧ ((j : Nat) : Int) < ((len : Nat) : Int) := by omega
    simp only [Instr.indexAt, asIntOf, Sem.run_bind, Sem.run_pure, Result.andThen_ok, run_underlying hu, Instr.sureAddr, if_pos hlt, sizeOf_run hT, Int.toNat_natCast]
  · rename_i ha
    obtain ⟨v, h1, h2, h3⟩ := indexSlK_ok hτ he
    exact ⟨v, h1, fun K' => by unfold indexAddrK; simp only [ha]; exact h2 K', h3⟩
theorem indexK_ok {t : Nat} {x i : V} {K : V → Option α} {r : α} (hτ : TOk P τ) (he : indexK τ t x i K = some r) :
    ∃ v, K v = some r ∧ (∀ {β : Type} (K' : V → Option β), indexK τ t x i K' = K' v) ∧ ∀ {c : Ctx} {w : World} {xv iv : Value}, VR c w x xv → VR c w i iv → ∃ val, (Instr.index t xv iv).run P w = .ok val w ∧ VR c w v val := by
  unfold indexK at he
  split at he
  · rename_i len e ei l ha
    obtain ⟨hu, hT⟩ := arrOf_ok hτ ha
    obtain ⟨j, hl, ⟨k, hi⟩, he, hj⟩ := arms_ok he
    obtain ⟨v, h1, h2, h3⟩ := takeV_ok he
    refine ⟨v, h1, fun K' => by unfold indexK; simp only [ha, hj]; exact h2 K', fun {c w xv iv} hx hiv => ?_⟩
    rw [hi] at hiv
    rw [int_of hiv]
    simp only [VR] at hx
    obtain ⟨cs, rfl, hv⟩ := hx
    have hlt : (0 : Int) ≤ ((j : Nat) : Int) ∧ ((j : Nat) : Int) < ((len : Nat) : Int) := by omega
    rcases h3 with ⟨hag, rfl, hln⟩ | ⟨hag, q, hq⟩
    · refine ⟨.agg (cs.extract (j * ei.size) (j * ei.size + ei.size)), ?_, ?_⟩
      · simp only [Instr.index, asIntOf, Sem.run_bind, Sem.run_pure, Result.andThen_ok, run_underlying hu, if_pos hlt, part, isAgg_run hT.und, hag, if_true, sizeOf_run hT, Int.toNat_natCast]
      · simp only [VR]
        refine ⟨_, rfl, ?_⟩
        have := (hv.drop (j * ei.size)).take ei.size
        rwa [show (cs.extract (j * ei.size) (j * ei.size + ei.size)).toList = (cs.toList.drop (j * ei.size)).take ei.size by simp [Array.toList_extract, List.extract_eq_take_drop]]
    · have hd := hv.drop (j * ei.size)
      rw [hq] at hd
      simp only [VRs] at hd
      obtain ⟨u, us, e, hu', _⟩ := hd
      have hc : cs[j * ei.size]? = some u := by
        have := congrArg (fun l : List Value => l[0]?) e
        simpa [List.getElem?_drop] using this
      refine ⟨u, ?_, hu'⟩
      simp only [Instr.index, asIntOf, Sem.run_bind, Sem.run_pure, Result.andThen_ok, run_underlying hu, if_pos hlt, part, isAgg_run hT.und, hag, Bool.false_eq_true, if_false, sizeOf_run hT, Int.toNat_natCast, hc]
  · cases he
  · rename_i ha
    obtain ⟨v, h1, h2, h3⟩ := indexStrK_ok hτ he
    exact ⟨v, h1, fun K' => by unfold indexK; simp only [ha]; exact h2 K', h3⟩

/-! ### Parts -/
theorem bound_ok {v : Option V} {d : Int} {K : Int → Option α} {r : α} (he : bound v d K = some r) :
    ∃ i, K i = some r ∧ (∀ {β : Type} (K' : Int → Option β), bound v d K' = K' i) ∧ ((v = none ∧ i = d) ∨ ∃ k, v = some (.val (.int k) i)) := by
  unfold bound at he
  split at he
  · exact ⟨d, he, fun _ => rfl, .inl ⟨rfl, rfl⟩⟩
  · rename_i k n; exact ⟨n, he, fun _ => rfl, .inr ⟨k, rfl⟩⟩
  · cases he
theorem bound_run {x : Value} {k : IntKind} {i : Int} {n : Nat} {code : BoundsCode} (h0 : 0 ≤ i) (h1 : i ≤ n) : (Instr.sliceBound (.int k i) n code).run P w = .ok i.toNat w := by
  simp only [Instr.sliceBound, asIntOf, Sem.run_bind, Sem.run_pure, Result.andThen_ok, if_pos (And.intro h0 h1)]
/-- An operand that may be missing. -/
def VRo (c : Ctx) (w : World) : Option V → Option Value → Prop
  | none, none => True
  | some v, some x => VR c w v x
  | _, _ => False
theorem bounds_run {isSlice : Bool} {n cap : Nat} {lo hi : Option V} {lov hiv : Option Value} {i j : Int} (hl : VRo c w lo lov) (hh : VRo c w hi hiv) (hcap : n ≤ cap)
    (hi' : (lo = none ∧ i = 0) ∨ ∃ k, lo = some (.val (.int k) i)) (hj' : (hi = none ∧ j = n) ∨ ∃ k, hi = some (.val (.int k) j)) (h0 : 0 ≤ i) (h1 : i ≤ j) (h2 : j ≤ cap) :
    (Instr.sliceBounds isSlice n cap lov hiv none).run P w = .ok (i.toNat, j.toNat, cap) w := by
  have hb : ∀ {k : IntKind} {i : Int} {n : Nat} {code : BoundsCode}, 0 ≤ i → i ≤ n → (Instr.sliceBound (.int k i) n code).run P w = .ok i.toNat w := fun a b => bound_run (x := undef) a b
  have hlo : (lov = none ∧ i = 0) ∨ ∃ k, lov = some (.int k i) := by
    rcases hi' with ⟨rfl, rfl⟩ | ⟨k, rfl⟩
    · cases lov with
      | none => exact .inl ⟨rfl, rfl⟩
      | some v => exact hl.elim
    · cases lov with
      | none => exact hl.elim
      | some v => have h : VR c w (.val (.int k) i) v := hl; exact .inr ⟨k, by rw [int_of h]⟩
  have hhi : (hiv = none ∧ j = n) ∨ ∃ k, hiv = some (.int k j) := by
    rcases hj' with ⟨rfl, rfl⟩ | ⟨k, rfl⟩
    · cases hiv with
      | none => exact .inl ⟨rfl, rfl⟩
      | some v => exact hh.elim
    · cases hiv with
      | none => exact hh.elim
      | some v => have h : VR c w (.val (.int k) j) v := hh; exact .inr ⟨k, by rw [int_of h]⟩
  unfold Instr.sliceBounds
  rcases hlo with ⟨rfl, rfl⟩ | ⟨k1, rfl⟩ <;> rcases hhi with ⟨rfl, rfl⟩ | ⟨k2, rfl⟩
  · simp
  · simp only [Sem.run_bind, Sem.run_pure, Result.andThen_ok, hb (k := k2) (i := j) (n := cap) (by omega) (by omega)]
    rfl
  · simp only [Sem.run_bind, Sem.run_pure, Result.andThen_ok, hb (k := k1) (i := i) (n := n) h0 h1, Int.toNat_natCast]
  · simp only [Sem.run_bind, Sem.run_pure, Result.andThen_ok, hb (k := k2) (i := j) (n := cap) (by omega) (by omega), hb (k := k1) (i := i) (n := j.toNat) h0 (by omega)]

theorem cutTo_ok {n m : Nat} {j : Int} (h : cutTo n j = some m) : m = j.toNat ∧ 0 ≤ j ∧ j ≤ n := by
  unfold cutTo at h
  split at h
  · rename_i hc; cases h; exact ⟨rfl, hc⟩
  · cases h
theorem cut_ok {n : Nat} {i j : Int} {p : Nat × Nat} (h : cut n i j = some p) : p.1 = i.toNat ∧ p.1 + p.2 = j.toNat ∧ 0 ≤ i ∧ i ≤ j ∧ j ≤ n := by
  unfold cut at h
  split at h
  · rename_i hc; cases h; exact ⟨rfl, by dsimp only; omega, hc⟩
  · cases h
theorem sliceRow_ok {n N : Nat} {lo hi : Option V} {K : Nat → Nat → Option α} {K0 : Nat → Option α} {r : α} (he : sliceRow n N lo hi K K0 = some r) :
    ∃ i m, i + m ≤ N ∧ ((i = 0 ∧ K0 m = some r ∧ ∀ {β : Type} (K' : Nat → Nat → Option β) (K0' : Nat → Option β), sliceRow n N lo hi K' K0' = K0' m) ∨ (K i m = some r ∧ ∀ {β : Type} (K' : Nat → Nat → Option β) (K0' : Nat → Option β), sliceRow n N lo hi K' K0' = K' i m)) ∧
      ∀ {P : Program} {c : Ctx} {w : World} {isSlice : Bool} {cap : Nat} {lov hiv : Option Value}, VRo c w lo lov → VRo c w hi hiv → n ≤ cap → N ≤ cap → (Instr.sliceBounds isSlice n cap lov hiv none).run P w = .ok (i, i + m, cap) w := by
  unfold sliceRow at he
  split at he
  · obtain ⟨j, h1, h2, h3⟩ := bound_ok he
    obtain ⟨m, hm, hK⟩ := Option.bind_eq_some_iff.1 h1
    obtain ⟨rfl, j0, j1⟩ := cutTo_ok hm
    refine ⟨0, j.toNat, by omega, .inl ⟨rfl, hK, fun K' K0' => by unfold sliceRow; simp only [h2, hm, Option.bind_some]⟩, fun {P c w isSlice cap lov hiv} hl hh hcap hN => ?_⟩
    have := bounds_run (P := P) (isSlice := isSlice) (i := 0) (j := j) hl hh hcap (.inl ⟨rfl, rfl⟩) h3 (by omega) (by omega) (by omega)
    simpa using this
  · rename_i v
    obtain ⟨i, h1, h2, h3⟩ := bound_ok he
    obtain ⟨j, k1, k2, k3⟩ := bound_ok h1
    obtain ⟨p, hp, hK⟩ := Option.bind_eq_some_iff.1 k1
    obtain ⟨p1, p2, p3, p4, p5⟩ := cut_ok hp
    refine ⟨p.1, p.2, by omega, .inr ⟨hK, fun K' K0' => by unfold sliceRow; simp only [h2, k2, hp, Option.bind_some]⟩, fun {P c w isSlice cap lov hiv} hl hh hcap hN => ?_⟩
    have := bounds_run (P := P) (isSlice := isSlice) (i := i) (j := j) hl hh hcap (h3.imp (fun h => by cases h.1) id) k3 p3 p4 (by omega)
    rw [p2, p1]; exact this
theorem Rd.part {S : Nat → Prop} {t : Ty} {xs : List t.D} {A : Option Addr} {n cap i m : Nat} (h : Rd S w (.sl t) xs [.slice A n cap]) (hm : i + m ≤ xs.length) :
    Rd S w (.sl t) ((xs.drop i).take m) [.slice (if cap = i then A else A.map (·.add (i * t.cells))) m (cap - i)] := by
  obtain ⟨A', cap', inner, e, ⟨hc, hn⟩, hf, hr⟩ := h
  simp only [List.cons.injEq, and_true, Value.slice.injEq] at e
  obtain ⟨rfl, rfl, rfl⟩ := e
  have hln : ∀ x cc, Rd S w t x cc → cc.length = t.cells := fun _ _ h => h.len
  have hlen : ((xs.drop i).take m).length = m := by rw [List.length_take, List.length_drop]; omega
  refine ⟨_, cap - i, (inner.drop (i * t.cells)).take (m * t.cells), by rw [hlen], ⟨by rw [hlen]; omega, fun hA => ?_⟩, (hf.drop hln i).take hln m, fun hi => ?_⟩
  · split at hA
    · have := hn hA; omega
    · cases A with
      | none => have := hn rfl; omega
      | some a => cases hA
  · have hne : inner ≠ [] := by rintro rfl; simp at hi
    obtain ⟨ad, rfl, hs, hcell⟩ := hr hne
    have hpos : 0 < m := by
      rcases Nat.eq_zero_or_pos m with h | h
      · subst h; simp at hi
      · exact h
    rw [if_neg (by omega)]
    refine ⟨_, rfl, by rw [add_block]; exact hs, fun j u hu => ?_⟩
    rw [List.getElem?_take] at hu
    split at hu
    · rw [List.getElem?_drop] at hu
      rw [add_add]; exact hcell _ u hu
    · cases hu
theorem sliceAt_run {t e : Nat} {ei : TI} (hu : P.underlying t = some (.slice e)) (hT : TOk1 P e ei) {A : Option Addr} {n cap i m : Nat} {lov hiv : Option Value} (hb : (Instr.sliceBounds true n cap lov hiv none).run P w = .ok (i, i + m, cap) w) :
    (Instr.sliceAt t (.slice A n cap) lov hiv none).run P w = .ok (.slice (if cap = i then A else A.map (·.add (i * ei.ty.cells))) m (cap - i)) w := by
  rw [hT.cells]
  simp only [Instr.sliceAt, Sem.run_bind, run_underlying hu, Result.andThen_ok, Instr.slice, hb, sizeOf_run hT, Sem.run_pure, Nat.add_sub_cancel_left]
theorem sliceSl_ok {h : Nat → Option Blk} {s : Ty} {x : V} {lo hi : Option V} {K : V → Option α} {r : α} (he : sliceSl h s x lo hi K = some r) :
    ∃ v, K v = some r ∧ (∀ {β : Type} (K' : V → Option β), sliceSl h s x lo hi K' = K' v) ∧ ∃ n i m, ∀ {c : Ctx} {w : World} {xv : Value}, (∀ b x, h b = some x → BR c w b x) → VR c w x xv →
      ∃ A cap, xv = .slice A n cap ∧ n ≤ cap ∧ VR c w v (.slice (if cap = i then A else A.map (·.add (i * s.cells))) m (cap - i)) ∧ ∀ {P : Program} {isSlice : Bool} {lov hiv : Option Value}, VRo c w lo lov → VRo c w hi hiv → (Instr.sliceBounds isSlice n cap lov hiv none).run P w = .ok (i, i + m, cap) w := by
  unfold sliceSl at he
  split at he
  · obtain ⟨i, m, h1, h2, h3⟩ := sliceRow_ok he
    have : ∃ v, K v = some r ∧ (v = .nil) ∧ ∀ {β : Type} (K' : V → Option β), sliceSl h s .nil lo hi K' = K' v := by
      rcases h2 with ⟨_, h2, h4⟩ | ⟨h2, h4⟩
      · exact ⟨_, h2, rfl, fun K' => by unfold sliceSl; exact h4 _ _⟩
      · exact ⟨_, h2, rfl, fun K' => by unfold sliceSl; exact h4 _ _⟩
    obtain ⟨v, k1, rfl, k2⟩ := this
    refine ⟨_, k1, fun K' => k2 K', 0, i, m, fun hH hx => ?_⟩
    simp only [VR] at hx
    have hi0 : i = 0 := by omega
    have hm0 : m = 0 := by omega
    subst hi0; subst hm0
    exact ⟨none, 0, hx, Nat.le_refl _, by simp [VR], fun hl hh => h3 hl hh (Nat.le_refl _) (Nat.le_refl _)⟩
  · rename_i t xs
    split at he
    case h_2 => cases he
    rename_i hs
    have hs' := beq_ty hs
    subst hs'
    obtain ⟨i, m, h1, h2, h3⟩ := sliceRow_ok he
    have : ∃ v, K v = some r ∧ (v = .val (.sl s) ((List.drop (α := s.D) i xs).take m)) ∧ ∀ {β : Type} (K' : V → Option β), sliceSl h s (.val (.sl s) xs) lo hi K' = K' v := by
      rcases h2 with ⟨h0, h2, h4⟩ | ⟨h2, h4⟩
      · refine ⟨_, h2, by subst h0; rfl, fun K' => by unfold sliceSl; simp only [hs]; exact h4 _ _⟩
      · exact ⟨_, h2, rfl, fun K' => by unfold sliceSl; simp only [hs]; exact h4 _ _⟩
    obtain ⟨v, k1, rfl, k2⟩ := this
    refine ⟨_, k1, fun K' => k2 K', List.length (α := s.D) xs, i, m, fun hH hx => ?_⟩
    obtain ⟨A, cap, rfl, hc, _⟩ := sl_of hx
    refine ⟨A, cap, rfl, hc, ?_, fun hl hh => h3 hl hh hc hc⟩
    simp only [VR] at hx ⊢
    exact Rd.part hx h1
  · rename_i b
    obtain ⟨t, xs, q1, q2, q3⟩ := rowOf_ok he
    split at q1
    case h_2 => cases q1
    rename_i hs
    have hs' := beq_ty hs
    subst hs'
    obtain ⟨i, m, h1, h2, h3⟩ := sliceRow_ok q1
    have : ∃ v, K v = some r ∧ (v = .sub s b i m) ∧ ∀ {β : Type} (K' : V → Option β), sliceSl h s (.ref b) lo hi K' = K' v := by
      rcases h2 with ⟨h0, h2, h4⟩ | ⟨h2, h4⟩
      · refine ⟨_, h2, by subst h0; rfl, fun K' => by unfold sliceSl; dsimp only; rw [q2]; simp only [hs]; exact h4 _ _⟩
      · exact ⟨_, h2, rfl, fun K' => by unfold sliceSl; dsimp only; rw [q2]; simp only [hs]; exact h4 _ _⟩
    obtain ⟨v, k1, rfl, k2⟩ := this
    refine ⟨_, k1, fun K' => k2 K', xs.length, i, m, fun {c w xv} hH hx => ?_⟩
    simp only [VR] at hx
    obtain ⟨hM, hx, _⟩ := hx
    obtain ⟨A, cap, hA, hc, hn⟩ := row_head q3 hH
    rw [hA] at hx
    refine ⟨A, cap, hx, hc, ?_, fun hl hh => h3 hl hh hc hc⟩
    simp only [VR]
    refine ⟨hM, ?_⟩
    have hform : c.ρ b = .slice none 0 0 ∨ ∃ (g n cap : Nat), c.ρ b = .slice (some ⟨g, 0, none⟩) n cap := by
      rcases q3 with ⟨e, q3⟩ | q3
      · obtain ⟨inner, hf, ho⟩ := hH b _ q3
        rcases ho.2 with ⟨h, _⟩ | ⟨g, cap, cur, h, _⟩
        · exact .inl h
        · exact .inr ⟨g, _, cap, h⟩
      · exact (hH b _ q3).2
    rcases hform with hf | ⟨g, n, cap', hf⟩
    · rw [hA] at hf
      simp only [Value.slice.injEq] at hf
      obtain ⟨rfl, hl, rfl⟩ := hf
      have hi0 : i = 0 := by omega
      have hm0 : m = 0 := by omega
      subst hi0; subst hm0
      exact .inl ⟨by rw [hA, hl], rfl, rfl, by simp⟩
    · rw [hA] at hf
      simp only [Value.slice.injEq] at hf
      obtain ⟨rfl, hl, rfl⟩ := hf
      refine .inr ⟨g, _, cap, if cap = i then ⟨g, 0, none⟩ else ⟨g, i * s.cells, none⟩, hA, h1, hc, ?_, by split <;> rfl, fun h => ?_⟩
      · split
        · rfl
        · simp [add_mid]
      · split
        · rename_i e
          rcases h with h | h
          · omega
          · subst h; simp
        · rfl
  · rename_i t b l n
    split at he
    case h_2 => cases he
    rename_i hs
    have hs' := beq_ty hs
    subst hs'
    have main : ∀ {N : Nat}, (sliceRow n N lo hi (fun i m => K (.sub s b (l + i) m)) (fun m => K (.sub s b l m)) = some r) → (∀ {β : Type} (K' : V → Option β), sliceSl h s (.sub s b l n) lo hi K' = sliceRow n N lo hi (fun i m => K' (.sub s b (l + i) m)) (fun m => K' (.sub s b l m))) →
        (∀ {c : Ctx} {w : World} {xv : Value}, (∀ b x, h b = some x → BR c w b x) → VR c w (.sub s b l n) xv → ∀ A mm cap, c.ρ b = .slice A mm cap → l + n ≤ mm → n ≤ N ∧ l + N ≤ mm) →
        ∃ v, K v = some r ∧ (∀ {β : Type} (K' : V → Option β), sliceSl h s (.sub s b l n) lo hi K' = K' v) ∧ ∃ n' i m, ∀ {c : Ctx} {w : World} {xv : Value}, (∀ b x, h b = some x → BR c w b x) → VR c w (.sub s b l n) xv →
          ∃ A cap, xv = .slice A n' cap ∧ n' ≤ cap ∧ VR c w v (.slice (if cap = i then A else A.map (·.add (i * s.cells))) m (cap - i)) ∧ ∀ {P : Program} {isSlice : Bool} {lov hiv : Option Value}, VRo c w lo lov → VRo c w hi hiv → (Instr.sliceBounds isSlice n' cap lov hiv none).run P w = .ok (i, i + m, cap) w := fun {N} he' hd hN => by
      obtain ⟨i, m, h1, h2, h3⟩ := sliceRow_ok he'
      have : ∃ v, K v = some r ∧ (v = .sub s b (l + i) m) ∧ ∀ {β : Type} (K' : V → Option β), sliceSl h s (.sub s b l n) lo hi K' = K' v := by
        rcases h2 with ⟨h0, h2, h4⟩ | ⟨h2, h4⟩
        · refine ⟨_, h2, by subst h0; rfl, fun K' => (hd K').trans (h4 _ _)⟩
        · exact ⟨_, h2, rfl, fun K' => (hd K').trans (h4 _ _)⟩
      obtain ⟨v, k1, rfl, k2⟩ := this
      refine ⟨_, k1, fun K' => k2 K', n, i, m, fun {c w xv} hH hx => ?_⟩
      have hNN := hN hH hx
      simp only [VR] at hx
      obtain ⟨hM, hx⟩ := hx
      rcases hx with ⟨a1, rfl, rfl, rfl⟩ | ⟨g, mm, cap, A, a1, a2, a3, rfl, a5, a6⟩
      · have hN0 := (hNN _ _ _ a1 (Nat.le_refl _)).2
        have hi0 : i = 0 := by omega
        have hm0 : m = 0 := by omega
        subst hi0; subst hm0
        refine ⟨none, 0, rfl, Nat.le_refl _, ?_, fun hl hh => h3 hl hh (Nat.le_refl _) (by omega)⟩
        simp only [VR]
        exact ⟨hM, .inl ⟨a1, by simp, by simp, by simp⟩⟩
      · obtain ⟨hN1, hN2⟩ := hNN _ _ _ a1 a2
        refine ⟨some A, cap - l, rfl, by omega, ?_, fun hl hh => h3 hl hh (by omega) (by omega)⟩
        simp only [VR]
        refine ⟨hM, .inr ⟨g, mm, cap, if cap - l = i then A else A.add (i * s.cells), a1, by omega, a3, ?_, by split <;> simp [add_block, a5], fun h => ?_⟩⟩
        · rw [show cap - l - i = cap - (l + i) by omega]
          split <;> rfl
        · have hA := a6 (by omega)
          subst hA
          split
          · rename_i e
            have : i = 0 := by omega
            subst this; rfl
          · rw [add_mid, Nat.add_mul]
    split at he
    · rename_i e0 t0 xs0 hb
      refine main he (fun K' => by unfold sliceSl; simp only [hs, hb]) (fun {c w xv} hH hx A mm cap hρ hle => ?_)
      obtain ⟨inner, hf, ho⟩ := hH b _ hb
      have hmm : mm = xs0.length := by
        rcases ho.2 with ⟨h, h0⟩ | ⟨g, cap, cur, h, _⟩
        · rw [hρ] at h; simp only [Value.slice.injEq] at h; omega
        · rw [hρ] at h; simp only [Value.slice.injEq] at h; exact h.2.1
      omega
    · rename_i hb
      exact main he (fun K' => by
        unfold sliceSl
        simp only [hs]) (fun {c w xv} hH hx A mm cap hρ hle => ⟨Nat.le_refl _, hle⟩)
  · cases he
theorem sliceK_ok {h : Nat → Option Blk} {t : Nat} {x : V} {lo hi : Option V} {K : V → Option α} {r : α} (hτ : TOk P τ) (he : sliceK τ h t x lo hi K = some r) :
    ∃ v, K v = some r ∧ (∀ {β : Type} (K' : V → Option β), sliceK τ h t x lo hi K' = K' v) ∧ ∀ {c : Ctx} {w : World} {xv : Value} {lov hiv : Option Value}, (∀ b x, h b = some x → BR c w b x) → VR c w x xv → VRo c w lo lov → VRo c w hi hiv →
      ∃ val, (Instr.sliceAt t xv lov hiv none).run P w = .ok val w ∧ VR c w v val := by
  unfold sliceK at he
  split at he
  · rename_i hs
    have hu := isStr_ok hτ hs
    unfold sliceStr at he
    split at he
    case h_2 => cases he
    rename_i s
    have key : ∀ {lov hiv : Option Value} {i m : Nat} {w : World}, (Instr.sliceBounds false s.size s.size lov hiv none).run P w = .ok (i, i + m, s.size) w → (Instr.sliceAt t (.string s) lov hiv none).run P w = .ok (.string (s.extract i (i + m))) w := by
      intro lov hiv i m w hb
      simp only [Instr.sliceAt, Sem.run_bind, run_underlying hu, Result.andThen_ok, Instr.slice, Option.isSome, Bool.false_eq_true, if_false, hb, Sem.run_pure]
    split at he
    · obtain ⟨j, h1, h2, h3⟩ := bound_ok he
      obtain ⟨m, hm, hK⟩ := Option.bind_eq_some_iff.1 h1
      obtain ⟨rfl, j0, j1⟩ := cutTo_ok hm
      refine ⟨_, hK, fun K' => by unfold sliceK sliceStr; simp only [hs, h2, hm, Option.bind_some], fun hH hx hl hh => ?_⟩
      rw [str_of hx]
      have := bounds_run (P := P) (isSlice := false) (i := 0) (j := j) hl hh (Nat.le_refl _) (.inl ⟨rfl, rfl⟩) h3 (by omega) (by omega) j1
      have h0 := key (i := 0) (m := j.toNat) (by simpa using this)
      rw [Nat.zero_add] at h0
      exact ⟨_, h0, VR.str⟩
    · obtain ⟨i, h1, h2, h3⟩ := bound_ok he
      obtain ⟨j, k1, k2, k3⟩ := bound_ok h1
      obtain ⟨p, hp, hK⟩ := Option.bind_eq_some_iff.1 k1
      obtain ⟨p1, p2, p3, p4, p5⟩ := cut_ok hp
      refine ⟨_, hK, fun K' => by unfold sliceK sliceStr; simp only [hs, h2, k2, hp, Option.bind_some], fun hH hx hl hh => ?_⟩
      rw [str_of hx]
      have := bounds_run (P := P) (isSlice := false) (i := i) (j := j) hl hh (Nat.le_refl _) (h3.imp (fun h => by cases h.1) id) k3 p3 p4 p5
      exact ⟨_, key (i := p.1) (m := p.2) (by rw [p2, p1]; exact this), VR.str⟩
  · rename_i hs
    split at he
    case h_2 => cases he
    rename_i e ei hq
    obtain ⟨hu, hT⟩ := elemOf_ok hτ hq
    obtain ⟨v, h1, h2, n, i, m, h4⟩ := sliceSl_ok he
    refine ⟨v, h1, fun K' => by unfold sliceK; simp only [hs, hq]; exact h2 K', fun hH hx hl hh => ?_⟩
    obtain ⟨A, cap, rfl, hc, hv, hb⟩ := h4 hH hx
    exact ⟨_, sliceAt_run hu hT (hb hl hh), hv⟩
theorem bounds3_run {n cap : Nat} {k1 k2 k3 : IntKind} {i j m : Int} (h : 0 ≤ i ∧ i ≤ j ∧ j ≤ m ∧ m ≤ n) (hcap : n ≤ cap) :
    (Instr.sliceBounds true n cap (some (.int k1 i)) (some (.int k2 j)) (some (.int k3 m))).run P w = .ok (i.toNat, j.toNat, m.toNat) w := by
  obtain ⟨h0, h1, h2, h3⟩ := h
  simp only [Instr.sliceBounds, Sem.run_bind, Sem.run_pure, Result.andThen_ok, if_true, bound_run (x := undef) (k := k3) (i := m) (n := cap) (by omega) (by omega), bound_run (x := undef) (k := k2) (i := j) (n := m.toNat) (by omega) (by omega), bound_run (x := undef) (k := k1) (i := i) (n := j.toNat) (by omega) (by omega)]
theorem slice3K_ok {h : Nat → Option Blk} {t : Nat} {x i j m : V} {K : V → Option α} {r : α} (hτ : TOk P τ) (he : slice3K τ h t x i j m K = some r) :
    ∃ v, K v = some r ∧ (∀ {β : Type} (K' : V → Option β), slice3K τ h t x i j m K' = K' v) ∧ ∀ {c : Ctx} {w : World} {xv iv jv mv : Value}, (∀ b x, h b = some x → BR c w b x) → VR c w x xv → VR c w i iv → VR c w j jv → VR c w m mv →
      ∃ val, (Instr.sliceAt t xv (some iv) (some jv) (some mv)).run P w = .ok val w ∧ VR c w v val := by
  unfold slice3K at he
  split at he
  case h_2 => cases he
  rename_i p b k1 i' k2 j' k3 m' hq
  obtain ⟨e, ei⟩ := p
  obtain ⟨hu, hT⟩ := elemOf_ok hτ hq
  obtain ⟨t', xs, q1, q2, q3⟩ := rowOf_ok he
  obtain ⟨u, hc, hK⟩ := Option.bind_eq_some_iff.1 q1
  have hcc : 0 ≤ (i' : Int) ∧ (i' : Int) ≤ j' ∧ (j' : Int) ≤ m' ∧ (m' : Int) ≤ xs.length := by
    unfold cut3 at hc
    split at hc
    · assumption
    · cases hc
  refine ⟨.undef, hK, fun K' => by unfold slice3K; simp only [hq]; rw [q2]; simp only [hc, Option.bind_some], fun {c w xv iv jv mv} hH hx hi hj hm => ?_⟩
  rw [int_of hi, int_of hj, int_of hm]
  simp only [VR] at hx
  obtain ⟨hM, hx, _⟩ := hx
  obtain ⟨A, cap, hA, hcap, hn⟩ := row_head q3 hH
  rw [hA] at hx
  subst hx
  have hrun : ∃ val, (Instr.sliceAt t (.slice A xs.length cap) (some (.int k1 i')) (some (.int k2 j')) (some (.int k3 m'))).run P w = .ok val w := ⟨_, by
    simp only [Instr.sliceAt, Sem.run_bind, run_underlying hu, Result.andThen_ok, Instr.slice, bounds3_run (k1 := k1) (k2 := k2) (k3 := k3) hcc hcap, sizeOf_run hT]
    rfl⟩
  obtain ⟨val, hval⟩ := hrun
  exact ⟨val, hval, by simp only [VR]⟩
end
end Go.Proofs.YtiacidpjplmgaaaDoorD
