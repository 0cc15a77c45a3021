/- Words of this session's own: regions that draw their order. -/
import Derived.Test.YtiacidpjplmgaaaDoorDn19
set_option linter.unusedVariables false
set_option linter.unusedSimpArgs false
namespace Go.Proofs.YtiacidpjplmgaaaDoorD

/-! ### What stands ahead -/
theorem foldl_bits (acc : List Nat) (i : Nat) : ∀ (l : List Edge) (s : Nat), (l.foldl (fun s e => match Region.binds .any e with | true => s ||| 2 ^ e.on ||| acc.getD e.on 0 | false => s) s).testBit i = true → s.testBit i = true ∨ ∃ e ∈ l, Region.binds .any e = true ∧ (i = e.on ∨ (acc.getD e.on 0).testBit i = true)
  | [], s, h => .inl h
  | e :: l, s, h => by
    rw [List.foldl_cons] at h
    rcases foldl_bits acc i l _ h with h | ⟨e', he', hb⟩
    · cases hb : Region.binds .any e with
      | false => rw [hb] at h; exact .inl h
      | true =>
        rw [hb] at h
        simp only [Nat.testBit_or, Nat.testBit_two_pow, Bool.or_eq_true, decide_eq_true_eq] at h
        rcases h with (h | h) | h
        · exact .inl h
        · exact .inr ⟨e, List.mem_cons_self, hb, .inl h.symm⟩
        · exact .inr ⟨e, List.mem_cons_self, hb, .inr h⟩
    · exact .inr ⟨e', List.mem_cons_of_mem _ he', hb⟩
theorem aheads_get : ∀ (ops : List Oper) (acc : List Nat) (k : Nat), k < acc.length → (aheads ops acc).getD k 0 = acc.getD k 0
  | [], _, _, _ => rfl
  | o :: r, acc, k, h => by
    rw [aheads, aheads_get r _ k (by simp; omega)]
    simp only [List.getD_eq_getElem?_getD]
    rw [List.getElem?_append_left h]
theorem aheads_spec : ∀ (ops : List Oper) (acc : List Nat) (k i : Nat) (o : Oper), ops[k]? = some o → ((aheads ops acc).getD (acc.length + k) 0).testBit i = true → ∃ e ∈ o.after.toList, Region.binds .any e = true ∧ (i = e.on ∨ (e.on < acc.length + k ∧ ((aheads ops acc).getD e.on 0).testBit i = true))
  | [], _, k, _, _, h, _ => by simp at h
  | u :: r, acc, 0, i, o, h, hb => by
    simp at h; subst h
    rw [aheads, Nat.add_zero, aheads_get r _ _ (by simp), List.getD_eq_getElem?_getD, List.getElem?_append_right (Nat.le_refl _)] at hb
    simp only [Nat.sub_self, List.getElem?_cons_zero, Option.getD_some] at hb
    rcases foldl_bits acc i _ 0 hb with hb | ⟨e, he, h1, h2⟩
    · simp at hb
    · refine ⟨e, he, h1, h2.imp id (fun h2 => ?_)⟩
      have hlt : e.on < acc.length := by
        rcases Nat.lt_or_ge e.on acc.length with h | h
        · exact h
        · rw [List.getD_eq_getElem?_getD, List.getElem?_eq_none h] at h2; simp at h2
      refine ⟨by omega, ?_⟩
      rw [aheads_get _ _ _ hlt]; exact h2
  | u :: r, acc, k + 1, i, o, h, hb => by
    rw [aheads] at hb ⊢
    have := aheads_spec r (acc ++ [u.after.toList.foldl (fun s e => match Region.binds .any e with | true => s ||| 2 ^ e.on ||| acc.getD e.on 0 | false => s) 0]) k i o (by simpa using h) (by
      rw [List.length_append, List.length_singleton, show acc.length + 1 + k = acc.length + (k + 1) by omega]; exact hb)
    obtain ⟨e, he, h1, h2⟩ := this
    refine ⟨e, he, h1, h2.imp id (fun ⟨h3, h4⟩ => ⟨?_, h4⟩)⟩
    rw [List.length_append, List.length_singleton] at h3; omega
def Closed (ops : List Oper) (L : Nat → Bool) : Prop := ∀ (k : Nat) (o : Oper), ops[k]? = some o → L k = true → ∀ e ∈ o.after.toList, Region.binds .any e = true → L e.on = true
theorem ahead_in {ops : List Oper} {L : Nat → Bool} (hC : Closed ops L) (k : Nat) : ∀ (o : Oper), ops[k]? = some o → (∀ e ∈ o.after.toList, Region.binds .any e = true → L e.on = true) → ∀ i, ((aheads ops []).getD k 0).testBit i = true → L i = true := by
  induction k using Nat.strongRecOn with
  | _ k ih =>
    intro o ho hL i hb
    obtain ⟨e, he, h1, h2⟩ := aheads_spec ops [] k i o ho (by simpa using hb)
    rcases h2 with h2 | ⟨h2, h3⟩
    · rw [h2]; exact hL e he h1
    · have hlt : e.on < k := by simpa using h2
      have hk := (List.getElem?_eq_some_iff.1 ho).1
      exact ih e.on hlt _ (List.getElem?_eq_getElem (by omega)) (hC e.on _ (List.getElem?_eq_getElem (by omega)) (hL e he h1)) i h3
theorem tmpApart1_ok {ah : List Nat} {i : Nat} {d n : List Nat} {all : List Oper} : ∀ {l : List Oper} {k : Nat}, tmpApart1 ah i d n all k l = true → ∀ (m : Nat) (o : Oper), l[m]? = some o → (meet d (names all o) || meet n o.dst.toList) = true → (ah.getD (k + m) 0).testBit i = true
  | [], _, _, m, o, h, _ => by simp at h
  | u :: r, k, h, 0, o, ho, hm => by
    simp at ho; subst ho
    unfold tmpApart1 at h
    rw [hm] at h
    dsimp only at h
    split at h
    · assumption
    · cases h
  | u :: r, k, h, m + 1, o, ho, hm => by
    unfold tmpApart1 at h
    have h' : tmpApart1 ah i d n all (k + 1) r = true := by
      split at h
      · split at h
        · exact h
        · cases h
      · exact h
    have := tmpApart1_ok h' m o (by simpa using ho) hm
    rwa [show k + 1 + m = k + (m + 1) by omega] at this
theorem tmpApart_ok {ah : List Nat} {all : List Oper} : ∀ {l : List Oper} {i : Nat}, tmpApart ah all i l = true → ∀ (m k : Nat) (o u : Oper), m < k → l[m]? = some o → l[k]? = some u → (meet o.dst.toList (names all u) || meet (names all o) u.dst.toList) = true → (ah.getD (i + k) 0).testBit (i + m) = true
  | [], _, _, m, k, o, u, _, h, _, _ => by simp at h
  | _ :: _, _, _, _, 0, _, _, hlt, _, _, _ => absurd hlt (Nat.not_lt_zero _)
  | x :: r, i, h, 0, k + 1, o, u, _, ho, hu, hm => by
    simp at ho; subst ho
    unfold tmpApart at h
    split at h
    · rename_i h1
      have := tmpApart1_ok h1 k u (by simpa using hu) hm
      rwa [show i + 1 + k = i + (k + 1) by omega] at this
    · cases h
  | x :: r, i, h, m + 1, k + 1, o, u, hlt, ho, hu, hm => by
    unfold tmpApart at h
    split at h
    · have := tmpApart_ok h m k o u (by omega) (by simpa using ho) (by simpa using hu) hm
      rwa [show i + 1 + k = i + (k + 1) by omega, show i + 1 + m = i + (m + 1) by omega] at this
    · cases h
theorem apart1_ok {ah : List Nat} {i : Nat} {a : Log} : ∀ {l : List Log} {k : Nat}, apart1 ah i a k l = true → ∀ (m : Nat) (b : Log), l[m]? = some b → clash a b = true → (ah.getD (k + m) 0).testBit i = true
  | [], _, _, m, o, h, _ => by simp at h
  | u :: r, k, h, 0, o, ho, hm => by
    simp at ho; subst ho
    unfold apart1 at h
    rw [hm] at h
    dsimp only at h
    split at h
    · assumption
    · cases h
  | u :: r, k, h, m + 1, o, ho, hm => by
    unfold apart1 at h
    have h' : apart1 ah i a (k + 1) r = true := by
      split at h
      · split at h
        · exact h
        · cases h
      · exact h
    have := apart1_ok h' m o (by simpa using ho) hm
    rwa [show k + 1 + m = k + (m + 1) by omega] at this
theorem apartAll_ok {ah : List Nat} : ∀ {l : List Log} {i : Nat}, apartAll ah i l = true → ∀ (m k : Nat) (o u : Log), m < k → l[m]? = some o → l[k]? = some u → clash o u = true → (ah.getD (i + k) 0).testBit (i + m) = true
  | [], _, _, m, k, o, u, _, h, _, _ => by simp at h
  | _ :: _, _, _, _, 0, _, _, hlt, _, _, _ => absurd hlt (Nat.not_lt_zero _)
  | x :: r, i, h, 0, k + 1, o, u, _, ho, hu, hm => by
    simp at ho; subst ho
    unfold apartAll at h
    split at h
    · rename_i h1
      have := apart1_ok h1 k u (by simpa using hu) hm
      rwa [show i + 1 + k = i + (k + 1) by omega] at this
    · cases h
  | x :: r, i, h, m + 1, k + 1, o, u, hlt, ho, hu, hm => by
    unfold apartAll at h
    split at h
    · have := apartAll_ok h m k o u (by omega) (by simpa using ho) (by simpa using hu) hm
      rwa [show i + 1 + k = i + (k + 1) by omega, show i + 1 + m = i + (m + 1) by omega] at this
    · cases h
theorem meet_of {a b : List Nat} {x : Nat} (ha : x ∈ a) (hb : x ∈ b) : meet a b = true := List.any_eq_true.2 ⟨x, ha, List.any_eq_true.2 ⟨x, hb, by simp⟩⟩
theorem afterOk_ok : ∀ {l : List Oper} {i : Nat}, afterOk i l = true → ∀ (k : Nat) (o : Oper), l[k]? = some o → ∀ e ∈ o.after.toList, Region.binds .any e = true → e.on < i + k
  | [], _, _, k, o, h, _, _, _ => by simp at h
  | x :: r, i, h, 0, o, ho, e, he, hb => by
    simp at ho; subst ho
    unfold afterOk at h
    split at h
    · rename_i h1
      have := List.all_eq_true.1 h1 e he
      rw [hb] at this
      simpa [Nat.blt_eq] using this
    · cases h
  | x :: r, i, h, k + 1, o, ho, e, he, hb => by
    unfold afterOk at h
    split at h
    · have := afterOk_ok h k o (by simpa using ho) e he hb
      omega
    · cases h
/-! ### What a run in the order of the list leaves -/
structure Rec where
  o : Oper
  run : Bool
  e : List (Nat × V)
  h : Hp
  ids : List Nat
  v : V
  ws : Hp
def Rec.dw (ρ : Rec) : List (Nat × V) := match ρ.o.dst with | some t => [(t, ρ.v)] | none => []
def Rec.log (ρ : Rec) : Log := ⟨match ρ.run with | true => opTmps ρ.o.op | false => [], ρ.ids, ρ.ws.map (·.1)⟩
def Refines (e e' : List (Nat × V)) : Prop := ∀ (c : Ctx) (w : World) (t : Nat) (val : Value), VR c w (egetd e t) val → VR c w (egetd e' t) val
def boolOf : Value → Option Bool
  | .bool b => some b
  | _ => none
def Guarded (all : List Oper) (o : Oper) (e : List (Nat × V)) (b : Bool) : Prop :=
  match o.guard with
  | none => b = true
  | some (j, want) => ∃ t, dstOf all j = some t ∧ ∀ (c : Ctx) (w : World) (val : Value), VR c w (egetd e t) val → (boolOf val == some want) = b
theorem Refines.refl (e : List (Nat × V)) : Refines e e := fun _ _ _ _ h => h
theorem Refines.trans {a b c : List (Nat × V)} (h : Refines a b) (k : Refines b c) : Refines a c := fun _ _ _ _ x => k _ _ _ _ (h _ _ _ _ x)
theorem egetd_append (a b : List (Nat × V)) (t : Nat) : egetd (a ++ b) t = match get a t with | some v => v | none => egetd b t := by
  unfold egetd
  rw [get_append]
  cases get a t <;> rfl
theorem Refines.layer {a b : List (Nat × V)} (h : Refines a b) (d : List (Nat × V)) : Refines (d ++ a) (d ++ b) := fun c w t val hv => by
  rw [egetd_append] at hv ⊢
  cases hg : get d t with
  | some v => rw [hg] at hv; exact hv
  | none => rw [hg] at hv; exact h c w t val hv
theorem Refines.narrow {e : List (Nat × V)} {t : Nat} {v : V} (h : ∀ (c : Ctx) (w : World) (val : Value), VR c w (egetd e t) val → VR c w v val) : Refines e ((t, v) :: e) := fun c w d val hv => by
  rw [egetd_cons]
  split
  · rename_i hd; subst hd; exact h c w val hv
  · exact hv
theorem putE_dw (ρ : Rec) (e : List (Nat × V)) : putE e ρ.o.dst ρ.v = ρ.dw ++ e := by
  unfold putE Rec.dw
  cases ρ.o.dst <;> rfl
section
variable {P : Program} {τ : TT} {tbl : Tbl} {α : Type}
def Tr (τ : TT) (tbl : Tbl) (nt : Nat) (all : List Oper) (nx : Nat) : Nat → List Rec → List (Nat × V) → Hp → List (Nat × V) → Hp → Prop
  | _, [], e, h, e', h' => e' = e ∧ h' = h
  | i, ρ :: ρs, e, h, e', h' => dstOk nt ρ.o.dst = true ∧ ρ.h = h ∧ Refines e ρ.e ∧ Guarded all ρ.o e ρ.run ∧
      (match ρ.run with
        | true => opK τ tbl (nx + 16 * i) (opd ρ.e) (Go.Proofs.YtiacidpjplmgaaaDoorD.hr h ρ.ids) ρ.o.op (fun v w => some (v, w)) = some (ρ.v, ρ.ws)
        | false => ρ.v = .tup [] ∧ ρ.ws = []) ∧ Tr τ tbl nt all nx (i + 1) ρs (ρ.dw ++ ρ.e) (ρ.ws ++ h) e' h'
theorem opsK_tr {nt : Nat} {all : List Oper} (hτ : TOk P τ) (hT : TblOk P tbl) : ∀ {ops : List Oper} {i : Nat} {s : St} {l : List Log} {K : St → List Log → Option α} {r : α}, opsK τ tbl nt all ops i s l K = some r →
    ∃ ρs e' h', ρs.map (·.o) = ops ∧ Tr τ tbl nt all s.next i ρs s.env s.heap e' h' ∧ K ⟨e', h', s.next⟩ ((ρs.map Rec.log).reverse ++ l) = some r
  | [], i, s, l, K, r, he => by
    unfold opsK at he
    exact ⟨[], s.env, s.heap, rfl, ⟨rfl, rfl⟩, he⟩
  | o :: q, i, s, l, K, r, he => by
    unfold opsK at he
    split at he
    · cases he
    rename_i hd
    dsimp only at he
    have hgo : ∀ {e1 : List (Nat × V)}, Refines s.env e1 → Guarded all o s.env true →
        (opK τ tbl (s.next + 16 * i) (opd e1) (Go.Proofs.YtiacidpjplmgaaaDoorD.hr s.heap (rdIds (hget s.heap) (opd e1) o.op)) o.op fun v w =>
            opsK τ tbl nt all q (i + 1) ⟨putE e1 o.dst v, w ++ s.heap, s.next⟩ (⟨opTmps o.op, rdIds (hget s.heap) (opd e1) o.op, w.map (·.1)⟩ :: l) K) = some r →
        ∃ ρs e' h', ρs.map (·.o) = o :: q ∧ Tr τ tbl nt all s.next i ρs s.env s.heap e' h' ∧ K ⟨e', h', s.next⟩ ((ρs.map Rec.log).reverse ++ l) = some r := fun {e1} hr hg h1 => by
      obtain ⟨v, ws, k1, k2, k3⟩ := oper_ok hτ hT h1
      obtain ⟨ρs, e', h', m1, m2, m3⟩ := opsK_tr hτ hT k1
      refine ⟨⟨o, true, e1, s.heap, rdIds (hget s.heap) (opd e1) o.op, v, ws⟩ :: ρs, e', h', by simp [m1], ⟨hd, rfl, hr, hg, k2 _, ?_⟩, ?_⟩
      · rw [← putE_dw]; exact m2
      · rw [List.map_cons, List.reverse_cons, List.append_assoc]; exact m3
    have hskip : ∀ {e1 : List (Nat × V)}, Refines s.env e1 → Guarded all o s.env false →
        opsK τ tbl nt all q (i + 1) ⟨putE e1 o.dst (.tup []), s.heap, s.next⟩ (⟨[], [], []⟩ :: l) K = some r →
        ∃ ρs e' h', ρs.map (·.o) = o :: q ∧ Tr τ tbl nt all s.next i ρs s.env s.heap e' h' ∧ K ⟨e', h', s.next⟩ ((ρs.map Rec.log).reverse ++ l) = some r := fun {e1} hr hg h1 => by
      obtain ⟨ρs, e', h', m1, m2, m3⟩ := opsK_tr hτ hT h1
      refine ⟨⟨o, false, e1, s.heap, [], .tup [], []⟩ :: ρs, e', h', by simp [m1], ⟨hd, rfl, hr, hg, ⟨rfl, rfl⟩, ?_⟩, ?_⟩
      · rw [← putE_dw]; exact m2
      · rw [List.map_cons, List.reverse_cons, List.append_assoc]; exact m3
    split at he
    · rename_i hg
      exact hgo (.refl _) (by unfold Guarded; rw [hg]) he
    · rename_i j want hg
      split at he
      · cases he
      rename_i t ht
      split at he
      · rename_i he0
        refine hskip (.refl _) ?_ he
        unfold Guarded; rw [hg]
        refine ⟨t, ht, fun c w val hv => ?_⟩
        rw [he0] at hv
        simp only [VR] at hv
        obtain ⟨vs, e1, e2⟩ := hv
        rw [e1]; simp [boolOf]
      · obtain ⟨b, h1, h2, h3⟩ := testK_ok he
        have hn : Refines s.env ((t, .val .bool b) :: s.env) := .narrow (fun c w val hv => by rw [h3 hv]; simp only [VR]; rfl)
        have hG : Guarded all o s.env (b == want) := by
          unfold Guarded; rw [hg]
          refine ⟨t, ht, fun c w val hv => ?_⟩
          rw [h3 hv]
          cases b <;> cases want <;> rfl
        cases hbw : (b == want) with
        | true => rw [hbw] at h1 hG; exact hgo hn hG h1
        | false => rw [hbw] at h1 hG; exact hskip hn hG h1
def below (n : Nat) : Nat → Bool := fun m => Nat.blt m n
theorem below_true {n m : Nat} (h : m < n) : below n m = true := by simp [below, Nat.blt_eq, h]
theorem below_false {n m : Nat} (h : n ≤ m) : below n m = false := by
  cases hb : below n m with
  | false => rfl
  | true => simp [below, Nat.blt_eq] at hb; omega
theorem Tr.at {nt nx : Nat} {all : List Oper} : ∀ {ρs : List Rec} {i : Nat} {e : List (Nat × V)} {h : Hp} {e' : List (Nat × V)} {h' : Hp} {U : List (Nat × V)} {hu : Hp}, Tr τ tbl nt all nx i ρs e h e' h' → Refines U e → (∀ b, hget hu b = hget h b) → ∀ (k : Nat) (ρ : Rec), ρs[k]? = some ρ →
    dstOk nt ρ.o.dst = true ∧ (∃ e0, Refines (comp (below (i + k)) i (ρs.map Rec.dw) U) e0 ∧ Refines e0 ρ.e ∧ Guarded all ρ.o e0 ρ.run) ∧ (∀ b, hget (comp (below (i + k)) i (ρs.map Rec.ws) hu) b = hget ρ.h b) ∧
      (match ρ.run with
        | true => opK τ tbl (nx + 16 * (i + k)) (opd ρ.e) (Go.Proofs.YtiacidpjplmgaaaDoorD.hr ρ.h ρ.ids) ρ.o.op (fun v w => some (v, w)) = some (ρ.v, ρ.ws)
        | false => ρ.v = .tup [] ∧ ρ.ws = [])
  | [], _, _, _, _, _, _, _, _, _, _, k, ρ, h => by simp at h
  | ρ0 :: ρs, i, e, h, e', h', U, hu, ht, hU, hh, 0, ρ, hk => by
    simp at hk; subst hk
    obtain ⟨t1, t2, t3, t4, t5, t6⟩ := ht
    refine ⟨t1, ⟨e, fun c w t val hv => ?_, t3, t4⟩, fun b => ?_, ?_⟩
    · have : egetd (comp (below (i + 0)) i (List.map Rec.dw (ρ0 :: ρs)) U) t = egetd U t := egetd_of (comp_none (fun m w' _ hL => by rw [below_false (by omega)] at hL; cases hL))
      rw [this] at hv
      exact hU c w t val hv
    · have : hget (comp (below (i + 0)) i (List.map Rec.ws (ρ0 :: ρs)) hu) b = hget hu b := hget_of (comp_none (fun m w' _ hL => by rw [below_false (by omega)] at hL; cases hL))
      rw [this, hh, t2]
    · rw [t2]; exact t5
  | ρ0 :: ρs, i, e, h, e', h', U, hu, ht, hU, hh, k + 1, ρ, hk => by
    obtain ⟨t1, t2, t3, t4, t5, t6⟩ := ht
    have hi : below (i + (k + 1)) i = true := below_true (by omega)
    have hsum : i + 1 + k = i + (k + 1) := by omega
    have := Tr.at (U := ρ0.dw ++ U) (hu := ρ0.ws ++ hu) t6 ((hU.trans t3).layer ρ0.dw) (fun b => by
      unfold hget; rw [get_append, get_append]
      cases hg : get ρ0.ws b with
      | some x => rfl
      | none => exact hh b) k ρ (by simpa using hk)
    rw [hsum] at this
    simp only [List.map_cons, comp, hi]
    exact this
theorem Tr.fin {nt nx : Nat} {all : List Oper} {L : Nat → Bool} : ∀ {ρs : List Rec} {i : Nat} {e : List (Nat × V)} {h : Hp} {e' : List (Nat × V)} {h' : Hp} {U : List (Nat × V)} {hu : Hp}, Tr τ tbl nt all nx i ρs e h e' h' → Refines U e → (∀ b, hget hu b = hget h b) → (∀ k, k < ρs.length → L (i + k) = true) →
    Refines (comp L i (ρs.map Rec.dw) U) e' ∧ ∀ b, hget (comp L i (ρs.map Rec.ws) hu) b = hget h' b
  | [], _, _, _, _, _, _, _, ht, hU, hh, _ => by
    obtain ⟨rfl, rfl⟩ := ht
    exact ⟨hU, hh⟩
  | ρ0 :: ρs, i, e, h, e', h', U, hu, ht, hU, hh, hL => by
    obtain ⟨t1, t2, t3, t4, t5, t6⟩ := ht
    have hi : L i = true := hL 0 (by simp)
    have := Tr.fin (L := L) (U := ρ0.dw ++ U) (hu := ρ0.ws ++ hu) t6 ((hU.trans t3).layer ρ0.dw) (fun b => by
      unfold hget; rw [get_append, get_append]
      cases hg : get ρ0.ws b with
      | some x => rfl
      | none => exact hh b) (fun k hk => by rw [show i + 1 + k = i + (k + 1) by omega]; exact hL (k + 1) (by simp; omega))
    simp only [List.map_cons, comp, hi]
    exact this
end
end Go.Proofs.YtiacidpjplmgaaaDoorD
