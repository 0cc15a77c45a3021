/- Words of this session's own: regions that draw their order, on the machine. -/
import Derived.Test.YtiacidpjplmgaaaDoorDn20
set_option linter.unusedVariables false
set_option linter.unusedSimpArgs false
namespace Go.Proofs.YtiacidpjplmgaaaDoorD
section
variable {P : Program} {τ : TT} {tbl : Tbl} {α : Type}
theorem SR.ext {F : Fr} {c : Ctx} {nt : Nat} {N N' : Nat → Prop} {e e' : List (Nat × V)} {h h' : Hp} {a : Act} {w : World} (H : SR F c nt N e h a w) (hN : ∀ b, N b → N' b) (he : ∀ t, egetd e' t = egetd e t) (hh : ∀ b, hget h' b = hget h b) : SR F c nt N' e' h' a w :=
  ⟨hget_ext H.hr hh, fun b hb => hN b (H.M b hb), H.size, fun t => by rw [he]; exact H.env t, H.defers, H.base⟩
theorem SR.refine {F : Fr} {c : Ctx} {nt : Nat} {N : Nat → Prop} {e e' : List (Nat × V)} {h : Hp} {a : Act} {w : World} (H : SR F c nt N e h a w) (he : Refines e e') : SR F c nt N e' h a w :=
  ⟨H.hr, H.M, H.size, fun t => he _ _ _ _ (H.env t), H.defers, H.base⟩
def Num (nx : Nat) (L : Nat → Bool) (b : Nat) : Prop := b < nx ∨ ∃ i, L i = true ∧ nx + 16 * i ≤ b ∧ b < nx + 16 * i + 16
def Inv (F : Fr) (nt nx : Nat) (ρs : List Rec) (e0 : List (Nat × V)) (h0 : Hp) (L : Nat → Bool) (a : Act) (w : World) : Prop :=
  ∃ c, SR F c nt (Num nx L) (comp L 0 (ρs.map Rec.dw) e0) (comp L 0 (ρs.map Rec.ws) h0) a w
theorem dw_none {ρ : Rec} {t : Nat} (h : get ρ.dw t ≠ none) : ρ.o.dst = some t := by
  unfold Rec.dw at h
  split at h
  · rename_i d hd
    rw [get_cons] at h
    split at h
    · rename_i e; rw [hd, e]
    · exact absurd rfl h
  · exact absurd rfl h
theorem get_mem {β : Type} : ∀ {l : List (Nat × β)} {b : Nat}, get l b ≠ none → b ∈ l.map (·.1)
  | [], b, h => absurd rfl h
  | (d, v) :: r, b, h => by
    rw [get_cons] at h
    split at h
    · rename_i e; subst e; simp
    · exact List.mem_cons_of_mem _ (get_mem h)
theorem drawn_step {F : Fr} {nt nx : Nat} {ρs : List Rec} {all : List Oper} {e0 e' : List (Nat × V)} {h0 h' : Hp} {L L' : Nat → Bool} {j : Nat} {ρ : Rec} {a : Act} {w : World} {Kn : Act → World → Prop} {Q : Exit → Act → World → Prop}
    (hτ : TOk P τ) (hT : TblOk P tbl) (htr : Tr τ tbl nt all nx 0 ρs e0 h0 e' h') (hall : ρs.map (·.o) = all) (hta : tmpApart (aheads all []) all 0 all = true) (hap : apartAll (aheads all []) 0 (ρs.map Rec.log) = true)
    (hC : Closed all L) (hj : ρs[j]? = some ρ) (hLj : L j = false) (hrdy : ∀ e ∈ ρ.o.after.toList, Region.binds .any e = true → L e.on = true) (hL' : ∀ m, L' m = (L m || m == j))
    (hI : Inv F nt nx ρs e0 h0 L a w) (hK : ∀ a' w', Inv F nt nx ρs e0 h0 L' a' w' → Kn a' w') : if Region.wanted ρ.o (yielded all.toArray a.tmps) = true then Oper.wp P ρ.o a w Kn Q else Kn (a.put ρ.o.dst undef) w := by
  obtain ⟨c, H⟩ := hI
  obtain ⟨hd, ⟨e1, he1, he2, hG⟩, hheap, hrun⟩ := htr.at (U := e0) (hu := h0) (.refl _) (fun _ => rfl) j ρ hj
  rw [Nat.zero_add] at he1 hheap hrun
  have hop : ∀ (m : Nat) (ρm : Rec), ρs[m]? = some ρm → all[m]? = some ρm.o := fun m ρm h => by rw [← hall, List.getElem?_map, h]; rfl
  have hlog : ∀ (m : Nat) (ρm : Rec), ρs[m]? = some ρm → (ρs.map Rec.log)[m]? = some ρm.log := fun m ρm h => by rw [List.getElem?_map, h]; rfl
  have hdw : ∀ m d, (ρs.map Rec.dw)[m]? = some d → ∃ ρm : Rec, ρs[m]? = some ρm ∧ d = ρm.dw := fun m d h => by
    rw [List.getElem?_map] at h
    cases hm : ρs[m]? with
    | none => rw [hm] at h; cases h
    | some ρm => rw [hm] at h; cases h; exact ⟨ρm, hm, rfl⟩
  have hws : ∀ m d, (ρs.map Rec.ws)[m]? = some d → ∃ ρm : Rec, ρs[m]? = some ρm ∧ d = ρm.ws := fun m d h => by
    rw [List.getElem?_map] at h
    cases hm : ρs[m]? with
    | none => rw [hm] at h; cases h
    | some ρm => rw [hm] at h; cases h; exact ⟨ρm, hm, rfl⟩
  -- behind j nothing is listed that touches what j touches
  have hlate : ∀ (m : Nat) (ρm : Rec), ρs[m]? = some ρm → L m = true → ((aheads all []).getD m 0).testBit j = true → False := fun m ρm hm hLm hb => by
    have := ahead_in hC m ρm.o (hop m ρm hm) (hC m ρm.o (hop m ρm hm) hLm) j hb
    rw [hLj] at this; cases this
  have hearly : ∀ m, ((aheads all []).getD j 0).testBit m = true → L m = true := fun m hb => ahead_in hC j ρ.o (hop j ρ hj) hrdy m hb
  have hT1 : ∀ m k o u, m < k → all[m]? = some o → all[k]? = some u → (meet o.dst.toList (names all u) || meet (names all o) u.dst.toList) = true → ((aheads all []).getD k 0).testBit m = true := fun m k o u h1 h2 h3 h4 => by
    have := tmpApart_ok hta m k o u h1 h2 h3 h4
    rwa [Nat.zero_add, Nat.zero_add] at this
  have hA1 : ∀ m k o u, m < k → (ρs.map Rec.log)[m]? = some o → (ρs.map Rec.log)[k]? = some u → clash o u = true → ((aheads all []).getD k 0).testBit m = true := fun m k o u h1 h2 h3 h4 => by
    have := apartAll_ok hap m k o u h1 h2 h3 h4
    rwa [Nat.zero_add, Nat.zero_add] at this
  have hagE : ∀ t ∈ names all ρ.o, egetd (comp L 0 (ρs.map Rec.dw) e0) t = egetd (comp (below j) 0 (ρs.map Rec.dw) e0) t := fun t ht => egetd_of (comp_congr (fun m d hm hn => by
    obtain ⟨ρm, hm', rfl⟩ := hdw m d hm
    have hm := hm'
    have hdst := dw_none hn
    have hmem : t ∈ ρm.o.dst.toList := by rw [hdst]; simp
    rw [Nat.zero_add]
    rcases Nat.lt_trichotomy m j with h | h | h
    · rw [below_true h]
      exact hearly m (hT1 m j _ _ h (hop m ρm hm) (hop j ρ hj) (by rw [meet_of hmem ht]; rfl))
    · subst h; rw [below_false (Nat.le_refl _)]; exact hLj
    · rw [below_false (by omega)]
      cases hLm : L m with
      | false => rfl
      | true => exact (hlate m ρm hm hLm (hT1 j m _ _ h (hop j ρ hj) (hop m ρm hm) (by rw [meet_of ht hmem, Bool.or_true]))).elim) rfl)
  have hagH : ∀ b ∈ ρ.ids, hget (comp L 0 (ρs.map Rec.ws) h0) b = hget ρ.h b := fun b hb => (hget_of (comp_congr (fun m d hm hn => by
    obtain ⟨ρm, hm', rfl⟩ := hws m d hm
    have hm := hm'
    have hmem : b ∈ ρm.log.wrs := get_mem hn
    have hrd : b ∈ ρ.log.rds := hb
    rw [Nat.zero_add]
    rcases Nat.lt_trichotomy m j with h | h | h
    · rw [below_true h]
      exact hearly m (hA1 m j _ _ h (hlog m ρm hm) (hlog j ρ hj) (by unfold clash; rw [meet_of hmem hrd]; simp))
    · subst h; rw [below_false (Nat.le_refl _)]; exact hLj
    · rw [below_false (by omega)]
      cases hLm : L m with
      | false => rfl
      | true => exact (hlate m ρm hm hLm (hA1 j m _ _ h (hlog j ρ hj) (hlog m ρm hm) (by unfold clash; rw [meet_of hrd hmem]; simp))).elim) rfl)).trans (hheap b)
  have hL'j : L' j = true := by rw [hL']; simp
  have hL'm : ∀ m, m ≠ j → L' m = L m := fun m hm => by
    rw [hL']
    have : (m == j) = false := by simpa using hm
    rw [this, Bool.or_false]
  -- with j listed
  have hnewE : ∀ t, egetd (comp L' 0 (ρs.map Rec.dw) e0) t = egetd (ρ.dw ++ comp L 0 (ρs.map Rec.dw) e0) t := fun t => egetd_of (by
    rw [get_append]
    cases hg : get ρ.dw t with
    | some x =>
      dsimp only
      have hdst : ρ.o.dst = some t := dw_none (by rw [hg]; simp)
      refine comp_top (m := j) (w := ρ.dw) (by rw [List.getElem?_map, hj]; rfl) (by rw [Nat.zero_add]; exact hL'j) hg (fun m d hlt hm hLm => ?_)
      obtain ⟨ρm, hm', rfl⟩ := hdw m d hm
      have hm := hm'
      rw [Nat.zero_add, hL'm m (by omega)] at hLm
      cases hgm : get ρm.dw t with
      | none => rfl
      | some y =>
        have hdm := dw_none (ρ := ρm) (t := t) (by rw [hgm]; simp)
        have hmem : t ∈ ρm.o.dst.toList := by rw [hdm]; simp
        have hn : t ∈ names all ρ.o := by unfold names; rw [hdst]; simp
        exact (hlate m ρm hm hLm (hT1 j m _ _ hlt (hop j ρ hj) (hop m ρm hm) (by rw [meet_of hn hmem, Bool.or_true]))).elim
    | none =>
      dsimp only
      refine comp_congr (fun m d hm hn => ?_) rfl
      obtain ⟨ρm, hm', rfl⟩ := hdw m d hm
      have hm := hm'
      rw [Nat.zero_add]
      refine hL'm m (fun e => ?_)
      subst e
      rw [hj] at hm; cases hm
      exact hn hg)
  have hnewH : ∀ b, hget (comp L' 0 (ρs.map Rec.ws) h0) b = hget (ρ.ws ++ comp L 0 (ρs.map Rec.ws) h0) b := fun b => hget_of (by
    rw [get_append]
    cases hg : get ρ.ws b with
    | some x =>
      dsimp only
      refine comp_top (m := j) (w := ρ.ws) (by rw [List.getElem?_map, hj]; rfl) (by rw [Nat.zero_add]; exact hL'j) hg (fun m d hlt hm hLm => ?_)
      obtain ⟨ρm, hm', rfl⟩ := hws m d hm
      have hm := hm'
      rw [Nat.zero_add, hL'm m (by omega)] at hLm
      cases hgm : get ρm.ws b with
      | none => rfl
      | some y =>
        have hmem : b ∈ ρm.log.wrs := get_mem (by rw [hgm]; simp)
        have hn : b ∈ ρ.log.wrs := get_mem (by rw [hg]; simp)
        exact (hlate m ρm hm hLm (hA1 j m _ _ hlt (hlog j ρ hj) (hlog m ρm hm) (by unfold clash; rw [meet_of hn hmem]; rfl))).elim
    | none =>
      dsimp only
      refine comp_congr (fun m d hm hn => ?_) rfl
      obtain ⟨ρm, hm', rfl⟩ := hws m d hm
      have hm := hm'
      rw [Nat.zero_add]
      refine hL'm m (fun e => ?_)
      subst e
      rw [hj] at hm; cases hm
      exact hn hg)
  have hnum : ∀ b, (Num nx L b ∨ nx + 16 * j ≤ b ∧ b < nx + 16 * j + 16) → Num nx L' b := fun b hb => by
    rcases hb with (hb | ⟨i, hi, hb⟩) | hb
    · exact .inl hb
    · exact .inr ⟨i, by rw [hL', hi]; rfl, hb⟩
    · exact .inr ⟨j, hL'j, hb⟩
  -- the guard
  have hval : ∀ t ∈ names all ρ.o, VR c w (egetd e1 t) (a.tmps.getD t undef) := fun t ht => by
    have := H.env t
    rw [hagE t ht] at this
    exact he1 c w t _ this
  have hwant : Region.wanted ρ.o (yielded all.toArray a.tmps) = ρ.run := by
    unfold Guarded at hG
    unfold Region.wanted
    split at hG
    · rename_i hg; rw [hg, hG]
    · rename_i k want hg
      obtain ⟨t, ht, hg2⟩ := hG
      rw [hg]
      dsimp only
      rw [yielded_of ht, ← hg2 c w _ (hval t (by unfold names; rw [hg]; simp [ht]))]
      rfl
  rw [hwant]
  cases hr : ρ.run with
  | false =>
    rw [hr] at hrun
    obtain ⟨hv, hw0⟩ := hrun
    rw [if_neg (by decide)]
    refine hK _ _ ⟨c, ?_⟩
    have := H.skip hd
    rw [← hv, putE_dw] at this
    refine this.ext (fun b hb => hnum b (.inl hb)) hnewE (fun b => ?_)
    rw [hnewH, hw0]; rfl
  | true =>
    rw [hr] at hrun
    dsimp only at hrun
    rw [if_pos rfl]
    classical
    have hcg : opK τ tbl (nx + 16 * j) (opd ρ.e) (Go.Proofs.YtiacidpjplmgaaaDoorD.hr ρ.h ρ.ids) ρ.o.op (fun v w => some (v, w)) = opK τ tbl (nx + 16 * j) (fun x => if x ∈ ρ.o.op.operands.toList then opd ρ.e x else opd (comp L 0 (ρs.map Rec.dw) e0) x) (Go.Proofs.YtiacidpjplmgaaaDoorD.hr ρ.h ρ.ids) ρ.o.op (fun v w => some (v, w)) :=
      opK_congr (fun x hx => by rw [if_pos hx])
    rw [hcg] at hrun
    obtain ⟨v, ws, k1, k2, k3⟩ := oper_ok hτ hT hrun
    simp only [Option.some.injEq, Prod.mk.injEq] at k1
    obtain ⟨rfl, rfl⟩ := k1
    refine k3 H.hr (fun b x hb => ?_) (fun b hb hlt hM => ?_) (fun x => ?_) (fun val w' hD => ?_)
    · unfold Go.Proofs.YtiacidpjplmgaaaDoorD.hr at hb
      split at hb
      · rename_i hin
        obtain ⟨b', hb', e⟩ := List.any_eq_true.1 hin
        have := Nat.eq_of_beq_eq_true e
        subst this
        rw [hagH b hb']; exact hb
      · cases hb
    · rcases H.M b hM with h | ⟨i, hi, h1, h2⟩
      · omega
      · have : i ≠ j := fun e => by rw [e, hLj] at hi; cases hi
        omega
    · split
      · rename_i hx
        cases x with
        | tmp t =>
          have ht : t ∈ names all ρ.o := by
            unfold names opTmps
            refine List.mem_append_left _ (List.mem_append_left _ (List.mem_filterMap.2 ⟨.tmp t, hx, rfl⟩))
          exact he2 c w t _ (hval t ht)
        | const v => exact VR.const v
        | func f => exact (H.operand (.func f))
        | global g => exact (H.operand (.global g))
      · exact H.operand x
    · obtain ⟨c', m1, m2⟩ := H.step hd hD
      refine hK _ _ ⟨c', ?_⟩
      rw [putE_dw] at m2
      exact m2.ext hnum hnewE hnewH
theorem mem_ready {ops : Array Oper} {listed : Array Bool} {i : Nat} : i ∈ Region.ready .any ops listed ↔ i < ops.size ∧ listed.getD i true = false ∧ ∃ o, ops[i]? = some o ∧ ∀ e ∈ o.after.toList, Region.binds .any e = true → listed.getD e.on false = true := by
  unfold Region.ready
  rw [List.mem_filter, List.mem_range]
  constructor
  · rintro ⟨h1, h2⟩
    simp only [Bool.and_eq_true, Bool.not_eq_true'] at h2
    refine ⟨h1, h2.1, ?_⟩
    cases ho : ops[i]? with
    | none => rw [ho] at h2; simp at h2
    | some o =>
      rw [ho] at h2
      simp only [Option.map_some, Option.getD_some] at h2
      refine ⟨o, rfl, fun e he hb => ?_⟩
      have := Array.all_eq_true_iff_forall_mem.1 h2.2 e (Array.mem_toList_iff.1 he)
      rw [hb] at this
      simpa using this
  · rintro ⟨h1, h2, o, ho, h3⟩
    refine ⟨h1, ?_⟩
    rw [h2, ho]
    simp only [Bool.not_false, Bool.true_and, Option.map_some, Option.getD_some]
    refine Array.all_eq_true_iff_forall_mem.2 (fun e he => ?_)
    cases hb : Region.binds .any e with
    | false => rfl
    | true => rw [h3 e (Array.mem_toList_iff.2 he) hb]; rfl
theorem drawn_ok {F : Fr} {nt nx : Nat} {ρs : List Rec} {all : List Oper} {e0 e' : List (Nat × V)} {h0 h' : Hp} {Q : Exit → Act → World → Prop}
    (hτ : TOk P τ) (hT : TblOk P tbl) (htr : Tr τ tbl nt all nx 0 ρs e0 h0 e' h') (hall : ρs.map (·.o) = all) (hta : tmpApart (aheads all []) all 0 all = true) (haf : afterOk 0 all = true) (hap : apartAll (aheads all []) 0 (ρs.map Rec.log) = true)
    (hQ : ∀ c' a' w', SR F c' nt (fun b => b < nx + 16 * all.length) e' h' a' w' → Q .normal a' w') : ∀ (fuel : Nat) (listed : Array Bool) (l : List Nat) (a : Act) (w : World), listed.size = all.length → Closed all (fun m => listed.getD m false) → l.length = fuel → (∀ m, m < all.length → listed.getD m false = false → m ∈ l) →
      Inv F nt nx ρs e0 h0 (fun m => listed.getD m false) a w → wpAny P .any all.toArray Q fuel listed a w := by
  have hlen : ρs.length = all.length := by rw [← hall, List.length_map]
  have hdone : ∀ (listed : Array Bool) (a : Act) (w : World), listed.size = all.length → (∀ m, m < all.length → listed.getD m false = true) → Inv F nt nx ρs e0 h0 (fun m => listed.getD m false) a w → Q .normal a w := fun listed a w hsz hL ⟨c, H⟩ => by
    have hf := htr.fin (L := fun m => listed.getD m false) (U := e0) (hu := h0) (.refl _) (fun _ => rfl) (fun k hk => by rw [Nat.zero_add]; exact hL k (by omega))
    refine hQ c a w ((H.refine hf.1).ext (fun b hb => ?_) (fun _ => rfl) (fun b => (hf.2 b).symm))
    rcases hb with hb | ⟨i, hi, hb⟩
    · omega
    · have : i < all.length := by
        rcases Nat.lt_or_ge i all.length with h | h
        · exact h
        · dsimp only at hi
          rw [Array.getD_eq_getD_getElem?, Array.getElem?_eq_none (by omega)] at hi; cases hi
      omega
  intro fuel
  induction fuel with
  | zero =>
    intro listed l a w hsz hC hl hcov hI
    have hl0 := List.length_eq_zero_iff.1 hl
    subst hl0
    have hL : ∀ m, m < all.length → listed.getD m false = true := fun m hm => by
      cases h : listed.getD m false with
      | true => rfl
      | false => exact absurd (hcov m hm h) (by simp)
    refine ⟨List.eq_nil_iff_forall_not_mem.2 (fun i hi => ?_), hdone listed a w hsz hL hI⟩
    obtain ⟨h1, h2, _⟩ := mem_ready.1 hi
    have h1' : i < all.length := by simpa using h1
    have := hL i h1'
    rw [Array.getD_eq_getD_getElem?, Array.getElem?_eq_getElem (by omega)] at h2 this
    simp only [Option.getD_some] at h2 this
    rw [h2] at this; cases this
  | succ fuel ih =>
    intro listed l a w hsz hC hl hcov hI
    refine ⟨fun hr => ?_, fun i hi => ?_⟩
    · refine hdone listed a w hsz (fun m => ?_) hI
      induction m using Nat.strongRecOn with
      | _ m im =>
        intro hm
        cases h : listed.getD m false with
        | true => rfl
        | false =>
          exfalso
          have : m ∈ Region.ready .any all.toArray listed := mem_ready.2 ⟨by simpa using hm, by
            rw [Array.getD_eq_getD_getElem?, Array.getElem?_eq_getElem (by omega)] at h ⊢
            exact h, all[m], by simp [hm], fun e he hb => by
            have := afterOk_ok haf m _ (List.getElem?_eq_getElem hm) e he hb
            rw [Nat.zero_add] at this
            exact im e.on this (by omega)⟩
          rw [hr] at this; cases this
    · obtain ⟨h1, h2, o, ho, hrd⟩ := mem_ready.1 hi
      have h1' : i < all.length := by simpa using h1
      have hLi : listed.getD i false = false := by
        rw [Array.getD_eq_getD_getElem?, Array.getElem?_eq_getElem (by omega)] at h2 ⊢
        exact h2
      have ho' : all[i]? = some o := by simpa using ho
      obtain ⟨ρ, hρ, hρo⟩ : ∃ ρ : Rec, ρs[i]? = some ρ ∧ ρ.o = o := by
        rw [← hall, List.getElem?_map] at ho'
        cases hm : ρs[i]? with
        | none => rw [hm] at ho'; cases ho'
        | some ρ => rw [hm] at ho'; cases ho'; exact ⟨ρ, rfl, rfl⟩
      have hset : ∀ m, (listed.setIfInBounds i true).getD m false = (listed.getD m false || m == i) := fun m => by
        rw [Array.getD_eq_getD_getElem?, Array.getD_eq_getD_getElem?, Array.getElem?_setIfInBounds]
        by_cases hmi : i = m
        · subst hmi; rw [if_pos rfl, if_pos (by omega)]; simp
        · rw [if_neg hmi]
          have : (m == i) = false := by simpa using fun e => hmi e.symm
          rw [this, Bool.or_false]
      have hst := drawn_step (Kn := wpAny P .any all.toArray Q fuel (listed.setIfInBounds i true)) (Q := Q) hτ hT htr hall hta hap hC hρ hLi (by rw [hρo]; exact hrd) hset hI (fun a' w' hI' => by
        refine ih _ (l.erase i) a' w' (by simp [hsz]) (fun k u hu hk e he hb => ?_) ?_ (fun m hm hmf => ?_) hI'
        · dsimp only at hk ⊢
          rw [hset] at hk ⊢
          rcases Bool.or_eq_true _ _ ▸ hk with hk | hk
          · have := hC k u hu hk e he hb
            dsimp only at this
            rw [this]; rfl
          · have : k = i := by simpa using hk
            subst this
            rw [ho'] at hu; cases hu
            rw [hrd e he hb]; rfl
        · rw [List.length_erase_of_mem (hcov i h1' hLi), hl]; rfl
        · rw [hset] at hmf
          simp only [Bool.or_eq_false_iff] at hmf
          have : m ≠ i := by simpa using hmf.2
          exact (List.mem_erase_of_ne this).2 (hcov m hm hmf.1))
      unfold wpOp
      rw [ho]
      dsimp only
      rw [hρo] at hst
      by_cases hw : Region.wanted o (yielded all.toArray a.tmps) = true
      · rw [if_pos hw] at hst ⊢; exact .inl hst
      · rw [if_neg hw] at hst ⊢; exact hst
theorem SR.drawn {F : Fr} {c : Ctx} {nt : Nat} {N : Nat → Prop} {e : List (Nat × V)} {h : Hp} {a : Act} {w : World} (H : SR F c nt N e h a w) (n : Nat) : SR F c nt N e h a { w with drawn := n } := by
  have hto : c.To c w { w with drawn := n } := ⟨fun _ h => h, fun _ h => h, fun _ _ => rfl, fun _ _ => rfl⟩
  exact ⟨H.hr.to hto rfl (fun _ _ _ _ _ _ => rfl) ⟨H.hr.keeps.os, H.hr.keeps.tape, H.hr.keeps.output, H.hr.keeps.size, H.hr.keeps.heap⟩ (Nat.le_refl _), H.M, H.size, fun t => (H.env t).to hto, H.defers, H.base.to hto⟩
/-- A region. -/
theorem reg_ok {id : Nat} {ops : Array Oper} {draw : Bool} {nt : Nat} {s : St} {K : St → Option α} {r : α} {F : Fr} {c : Ctx} {a : Act} {w : World} {Q : Exit → Act → World → Prop} (hm : P.follows .mixedOrders = true) (hτ : TOk P τ) (hT : TblOk P tbl)
    (he : regK τ tbl nt ops.toList draw s K = some r) (H : SR F c nt (fun b => b < s.next) s.env s.heap a w)
    (hQ : ∀ s', K s' = some r → ∀ c' a' w', SR F c' nt (fun b => b < s'.next) s'.env s'.heap a' w' → Q .normal a' w') : (Code.region id ops draw).wp P Q a w := by
  cases draw with
  | false =>
    unfold regK at he
    dsimp only at he
    refine wp_region_list ?_
    have := ops_ok (Q := Q) hτ hT he (c := c) (a := a) (w := w) (H.mono (fun b hb => by omega)) (fun s' l' hK hn c' a' w' h' => hQ _ hK c' a' w' (h'.mono (fun b hb => by dsimp only; omega)))
    simpa using this
  | true =>
    unfold regK at he
    dsimp only at he
    split at he
    case h_2 => cases he
    rename_i h1 h2
    obtain ⟨ρs, e', h', m1, m2, m3⟩ := opsK_tr hτ hT he
    rw [List.append_nil, List.reverse_reverse] at m3
    split at m3
    case h_2 => cases m3
    rename_i h3
    refine wp_region_any hm ?_
    have hsz : ops.size = ops.toList.length := by simp
    have := drawn_ok (F := F) (Q := Q) hτ hT m2 m1 h1 h2 h3 (fun c' a' w' h => hQ _ m3 c' a' w' h) ops.size (Array.replicate ops.size false) (List.range ops.size) a { w with drawn := w.drawn + 1 } (by simp) (fun k u hu hk => by
      exfalso
      dsimp only at hk
      rw [Array.getD_eq_getD_getElem?, Array.getElem?_replicate] at hk
      split at hk <;> cases hk) (by simp) (fun m hmm _ => by simpa using hmm) ⟨c, ?_⟩
    · simpa using this
    · refine (H.drawn _).ext (fun b hb => .inl hb) (fun t => egetd_of (comp_none (fun m d _ hL => ?_))) (fun b => hget_of (comp_none (fun m d _ hL => ?_)))
      all_goals
        rw [Array.getD_eq_getD_getElem?, Array.getElem?_replicate] at hL
        split at hL <;> cases hL
end
end Go.Proofs.YtiacidpjplmgaaaDoorD
