/- Words of this session's own: calls on the machine. -/
import Derived.Test.YtiacidpjplmgaaaDoorDn15
set_option linter.unusedVariables false
set_option linter.unusedSimpArgs false
namespace Go.Proofs.YtiacidpjplmgaaaDoorD
section
variable {P : Program} {τ : TT} {α : Type}
theorem nodup_ok : ∀ {l : List Nat}, nodup l = true → l.Nodup
  | [], _ => List.nodup_nil
  | a :: r, h => by
    unfold nodup at h
    split at h
    · cases h
    · rename_i ha
      refine List.nodup_cons.2 ⟨fun hm => ?_, nodup_ok h⟩
      have : r.any (Nat.beq a) = true := List.any_eq_true.2 ⟨a, hm, by simp⟩
      rw [ha] at this; cases this
theorem any_not {l m : List Nat} (h : l.any (fun b => m.any (Nat.beq b)) = false) : ∀ b ∈ l, b ∉ m := fun b hb hm => by
  have : l.any (fun b => m.any (Nat.beq b)) = true := List.any_eq_true.2 ⟨b, hb, List.any_eq_true.2 ⟨b, hm, by simp⟩⟩
  rw [h] at this; cases this
theorem snd_inj {E : List (Nat × Nat)} (h : (E.map (·.2)).Nodup) {a b d : Nat} (ha : (a, d) ∈ E) (hb : (b, d) ∈ E) : a = b := by
  induction E with
  | nil => cases ha
  | cons x r ih =>
    simp only [List.map_cons, List.nodup_cons] at h
    rcases List.mem_cons.1 ha with e | ha
    · rcases List.mem_cons.1 hb with e' | hb
      · rw [← e] at e'; injection e' with e'; exact e'.symm
      · exact absurd (List.mem_map.2 ⟨_, hb, by rw [← e]⟩) h.1
    · rcases List.mem_cons.1 hb with e' | hb
      · exact absurd (List.mem_map.2 ⟨_, ha, by rw [← e']⟩) h.1
      · exact ih h.2 ha hb
/-- Rows and boxes that came. -/
theorem HR.came {F : Fr} {c c1 c2 : Ctx} {w : World} {hp heap : Hp} {n m : Nat} {E : List (Nat × Nat)} (H : HR F c1 w hp) (ht : c1.To c2 w w) (hS : c2.S = c1.S) (hC : Came c c2 w n m heap E) (hnd : (E.map (·.2)).Nodup)
    (hE : ∀ b d, (b, d) ∈ E → ∀ g, vblk (c.ρ d) = some g → ¬ c1.S g ∧ (F.w0.heap.size ≤ g ∨ F.Hd g) ∧ g < w.heap.size ∧ ∀ k y, hget hp k = some y → y.own = true → vblk (c1.ρ k) ≠ some g)
    (hA : ∀ b d b' d' g, (b, d) ∈ E → (b', d') ∈ E → vblk (c.ρ d) = some g → vblk (c.ρ d') = some g → d = d') : HR F c2 w (heap ++ hp) := by
  have cs : ∀ b x, hget (heap ++ hp) b = some x → (hget heap b = some x ∧ ∃ y, (b, y) ∈ heap) ∨ ((¬ ∃ y, (b, y) ∈ heap) ∧ hget hp b = some x) := fun b x hb => by
    by_cases hm : ∃ y, (b, y) ∈ heap
    · rw [hget_append_left _ _ _ hm] at hb; exact .inl ⟨hb, hm⟩
    · rw [hget_append _ _ _ (fun y hy => hm ⟨y, hy⟩)] at hb; exact .inr ⟨hm, hb⟩
  refine ⟨fun b x hb => ?_, fun b x g hb hx hg => ?_, fun b d x y g hne hb hd hx hy h1 h2 => ?_, H.keeps, fun k hk => ?_, fun k hk => ?_⟩
  · rcases cs b x hb with ⟨hb, _⟩ | ⟨_, hb⟩
    · exact ⟨(hC.get b x hb).1, (hC.get b x hb).2.1⟩
    · exact ⟨ht.M _ (H.blk b x hb).1, (H.blk b x hb).2.to ht (H.blk b x hb).1 (fun _ _ _ => rfl)⟩
  · rw [hS]
    rcases cs b x hb with ⟨hb, _⟩ | ⟨_, hb⟩
    · obtain ⟨d, hd, hdg⟩ := (hC.get b x hb).2.2 g hg
      obtain ⟨h1, h2, h3, _⟩ := hE b d hd g hdg
      exact ⟨h1, h2, h3⟩
    · rw [ht.ρ _ (H.blk b x hb).1] at hg
      exact H.own b x g hb hx hg
  · rcases cs b x hb with ⟨hb, _⟩ | ⟨_, hb⟩
    · obtain ⟨b', hb', hbg⟩ := (hC.get b x hb).2.2 g h1
      rcases cs d y hd with ⟨hd, _⟩ | ⟨_, hd⟩
      · obtain ⟨d', hd', hdg⟩ := (hC.get d y hd).2.2 g h2
        have := hA b b' d d' g hb' hd' hbg hdg
        subst this
        exact hne (snd_inj hnd hb' hd')
      · rw [ht.ρ _ (H.blk d y hd).1] at h2
        exact (hE b b' hb' g hbg).2.2.2 d y hd hy h2
    · rw [ht.ρ _ (H.blk b x hb).1] at h1
      rcases cs d y hd with ⟨hd, _⟩ | ⟨_, hd⟩
      · obtain ⟨d', hd', hdg⟩ := (hC.get d y hd).2.2 g h2
        exact (hE d d' hd' g hdg).2.2.2 b x hb hx h1
      · rw [ht.ρ _ (H.blk d y hd).1] at h2
        exact H.apart b d x y g hne hb hd hx hy h1 h2
  · rw [hS] at hk; exact H.stays k hk
  · rw [hS] at hk; exact H.grew k hk
/-- The world goes on and more stays as it is. -/
theorem HR.toS {F : Fr} {c c' : Ctx} {w w' : World} {h : Hp} (H : HR F c w h) (ht : c.To c' w w') (ho : ∀ b x g, hget h b = some x → x.own = true → vblk (c.ρ b) = some g → w'.heap[g]? = w.heap[g]? ∧ ¬ c'.S g) (hF : F.Keeps w') (hsz : w.heap.size ≤ w'.heap.size)
    (hst : ∀ k, c'.S k → k < w'.heap.size ∧ (F.S0 k ∨ F.w0.heap.size ≤ k ∨ F.Hd k)) : HR F c' w' h where
  blk b x hb := ⟨ht.M _ (H.blk b x hb).1, (H.blk b x hb).2.to ht (H.blk b x hb).1 (fun g hx hg => (ho b x g hb hx hg).1)⟩
  own b x g hb hx hg := by
    rw [ht.ρ _ (H.blk b x hb).1] at hg
    obtain ⟨h1, h2, h3⟩ := H.own b x g hb hx hg
    exact ⟨(ho b x g hb hx hg).2, h2, Nat.lt_of_lt_of_le h3 hsz⟩
  apart b d x y g hne hb hd hx hy h1 h2 := by
    rw [ht.ρ _ (H.blk b x hb).1] at h1
    rw [ht.ρ _ (H.blk d y hd).1] at h2
    exact H.apart b d x y g hne hb hd hx hy h1 h2
  keeps := hF
  stays k hk := (hst k hk).1
  grew k hk := (hst k hk).2

/-! ### What a function does -/
def retVal : List Value → Value
  | [v] => v
  | vs => .tuple vs.toArray
def BoxAt (c : Ctx) (w : World) (h : Hp) : List Nat → List Inout → List Value → Prop
  | [], [], _ => True
  | d :: ds, .row _ _ :: ls, v :: vals => ((∃ e t xs, hget h d = some (.row e t xs)) ∧ v = c.ρ d) ∧ BoxAt c w h ds ls vals
  | d :: ds, .box l :: ls, vals => ((∃ x, hget h d = some (.box x)) ∧ ∃ (g : Nat) (cs : Array Value) (e : Nat), c.ρ d = .pointer (some ⟨g, 0, none⟩) ∧ w.heap[g]? = some (.cells cs e (0, 0)) ∧ cs.toList = vals.take l.length) ∧ BoxAt c w h ds ls (vals.drop l.length)
  | _, _, _ => False
/-- How a call ends: the results' parts, and what stands in the boxes. -/
def Post (F : Fr) (c : Ctx) (w : World) (rs : List Sh) (bl : List Inout) (ds : List Nat) (l : List Leaf) (v : Value) (w' : World) : Prop :=
  ∃ (c' : Ctx) (h' : Hp) (vs : List V) (vals : List Value) (p : Pk),
    ((∀ k, c.S k → c'.S k ∧ w'.heap[k]? = w.heap[k]?) ∧ ∀ d ∈ ds, c'.ρ d = c.ρ d) ∧ HR F c' w' h' ∧ VRs c' w' vs vals ∧ passL (hget h') (rs ++ flatL bl) vs some = some p ∧ p.leaves = l ∧ p.kill.Nodup ∧ p.bxs = [] ∧ p.rbs = [] ∧ (∀ b ∈ p.kill, b ∉ p.rds) ∧ retVal (vals.take rs.length) = v ∧ BoxAt c' w' h' ds bl (vals.drop rs.length)
/-- A function does what its plain form says. -/
def Sound (P : Program) (f : FuncId) (s : FnSpec) : Prop :=
  (∀ (args : Array Value) (w : World), (callFunc f args).run P w = .ok (.enter f args) w) ∧
  ∀ x r, s.f x = some r → ∀ (F : Fr) (c : Ctx) (w : World) (vals : List Value), F.w0 = w → c.S = F.S0 → (∀ b, c.M b → b < (inVL s.ps [] 0).next) → HR F c w (inVL s.ps (ofRT _ x) 0).heap → VRs c w (inVL s.ps (ofRT _ x) 0).vs vals →
    Calls P f vals.toArray w fun e w' => ∃ v, e = .returned v ∧ Post F c w s.rs (bxsL s.ps) (bxIds (inVL s.ps [] 0).vs s.ps) (ofRT _ r) v w'
def TblOk (P : Program) (tbl : Tbl) : Prop := ∀ f s, (f, s) ∈ tbl → Sound P f s
theorem TblOk.nil (P : Program) : TblOk P [] := fun f s h => by cases h
theorem TblOk.cons {P : Program} {f : FuncId} {s : FnSpec} {tbl : Tbl} (h : Sound P f s) (hr : TblOk P tbl) : TblOk P ((f, s) :: tbl) := fun g t hg => by
  rcases List.mem_cons.1 hg with e | e
  · cases e; exact h
  · exact hr g t e
theorem pick_mem {f : Nat} {args : List V} {s : FnSpec} : ∀ {tbl : Tbl}, pick tbl f args = some s → (f, s) ∈ tbl
  | [], h => by cases h
  | (g, t) :: r, h => by
    unfold pick at h
    split at h
    · rename_i hg
      split at h
      · have := Nat.eq_of_beq_eq_true hg
        subst this; cases h; exact List.mem_cons_self
      · exact List.mem_cons_of_mem _ (pick_mem h)
    · exact List.mem_cons_of_mem _ (pick_mem h)
theorem VR.ret {c : Ctx} {w : World} : ∀ {vs : List V} {vals : List Value}, VRs c w vs vals → VR c w (retV vs) (retVal vals)
  | [], _, h => by simp only [VRs] at h; subst h; simp only [retV, retVal, VR]; exact ⟨_, rfl, by simp [VRs]⟩
  | [v], _, h => by
    simp only [VRs] at h
    obtain ⟨x, q, rfl, hx, rfl⟩ := h
    exact hx
  | v :: u :: r, _, h => by
    have h' := h
    simp only [VRs] at h
    obtain ⟨x, q, rfl, hx, y, q', rfl, hy, hq⟩ := h
    simp only [retV, retVal, VR]
    exact ⟨_, rfl, h'⟩
/-! ### Boxes put back -/
/-- Where a row is wanted there stands one. -/
def RowsOf : List Inout → List V → Prop
  | .box l :: ls, vs => RowsOf ls (vs.drop l.length)
  | .row _ _ :: ls, v :: vs => (∃ m, v = .ref m) ∧ RowsOf ls vs
  | .row _ _ :: _, [] => False
  | [], _ => True
def BoxBack (F : Fr) (c : Ctx) (w : World) (oh hp : Hp) : List Nat → List Inout → List V → List Value → Prop
  | [], [], _, _ => True
  | b :: bs, .row _ _ :: ls, u :: us, _ :: vals => (c.M b ∧ ∃ m x, u = .ref m ∧ hget oh m = some x ∧ hget hp m = some x ∧ x.own = true ∧ c.ρ m = c.ρ b) ∧ BoxBack F c w oh hp bs ls us vals
  | b :: bs, .box l :: ls, us, vals => (c.M b ∧ (∃ (g : Nat) (cs : Array Value) (e : Nat), c.ρ b = .pointer (some ⟨g, 0, none⟩) ∧ w.heap[g]? = some (.cells cs e (0, 0)) ∧ cs.toList = vals.take l.length) ∧
      ∀ g, vblk (c.ρ b) = some g → ¬ c.S g ∧ (F.w0.heap.size ≤ g ∨ F.Hd g) ∧ g < w.heap.size ∧ ∀ d y, hget hp d = some y → y.own = true → b ≠ d → vblk (c.ρ d) ≠ some g) ∧ BoxBack F c w oh hp bs ls (us.drop l.length) (vals.drop l.length)
  | _, _, _, _ => False
/-- A row goes by another number. -/
theorem HR.rename {F : Fr} {c : Ctx} {w : World} {hp : Hp} (H : HR F c w hp) {m b : Nat} {x : Blk} (hm : hget hp m = some x) (ho : x.own = true) (hM : c.M b) (hρ : c.ρ m = c.ρ b) (hbm : b ≠ m) : HR F c w ((b, some x) :: (m, none) :: hp) := by
  have hB : BR c w b x := by
    have := (H.blk m x hm).2
    cases x with
    | row e t xs => obtain ⟨inner, h1, h2⟩ := this; exact ⟨inner, h1, by rw [← hρ]; exact h2⟩
    | frz t xs => cases ho
    | box vs => obtain ⟨g, cs, e, h1, h2⟩ := this; exact ⟨g, cs, e, by rw [← hρ]; exact h1, h2⟩
    | bys xs => obtain ⟨g, cap, cur, e, fz, h1, h2⟩ := this; exact ⟨g, cap, cur, e, fz, by rw [← hρ]; exact h1, h2⟩
  refine (H.kill m).put b x hM hB (fun g _ hg => ?_)
  rw [← hρ] at hg
  obtain ⟨o1, o2, o3⟩ := H.own m x g hm ho hg
  refine ⟨o1, o2, o3, fun d y hne hd hy he => ?_⟩
  rw [hget_cons] at hd
  split at hd
  · cases hd
  · rename_i hmd
    exact H.apart m d x y g hmd hm hd ho hy hg he
theorem HR.boxes {F : Fr} {c : Ctx} {w : World} {oh hp : Hp} : ∀ {bs : List Nat} {ls : List Inout} {us : List V} {vals : List Value} {cur : Hp} {done : List Nat}, HR F c w cur → BoxBack F c w oh hp bs ls us vals → VRs c w us vals → bs.Nodup → (rowRefs ls us).Nodup →
    (∀ m ∈ rowRefs ls us, m ∉ bs ∧ m ∉ done) → (∀ b ∈ bs, b ∉ done) →
    (∀ d y, hget cur d = some y → y.own = true → hget hp d = some y ∨ d ∈ done) → (∀ m ∈ rowRefs ls us, hget cur m = hget hp m) →
    (∀ b ∈ bs, ∀ b' ∈ bs ++ done, ∀ g, vblk (c.ρ b) = some g → vblk (c.ρ b') = some g → b = b') →
    HR F c w (putBoxes oh bs ls us ++ cur) ∧ ∀ d ∈ bs, ∃ x, (d, x) ∈ putBoxes oh bs ls us
  | [], [], us, vals, cur, done, H, _, _, _, _, _, _, _, _, _ => ⟨by simpa [putBoxes] using H, (by intro d hd; cases hd)⟩
  | b :: bs, .row e t :: ls, us, vals, cur, done, H, hB, hv, hnd, hrf, hm1, hbd, hcur, hmm, hinj => by
    cases us with
    | nil => cases vals <;> exact hB.elim
    | cons u us =>
    cases vals with
    | nil => exact hB.elim
    | cons val vals =>
    obtain ⟨⟨hM, m, x, hu, hx1, hx2, hx3, hρ⟩, hB'⟩ := hB
    subst hu
    obtain ⟨hnb, hnd'⟩ := List.nodup_cons.1 hnd
    simp only [rowRefs, List.singleton_append, List.nodup_cons] at hrf
    simp only [rowRefs, List.singleton_append, List.mem_cons, forall_eq_or_imp] at hm1 hmm
    have hbm : b ≠ m := fun e => hm1.1.1 (by rw [e]; exact .inl rfl)
    have hcm : hget cur m = some x := hmm.1.trans hx2
    have H1 := H.rename hcm hx3 hM hρ hbm
    simp only [VRs] at hv
    obtain ⟨_, _, e0, _, hv'⟩ := hv
    cases e0
    obtain ⟨h1, h2⟩ := HR.boxes (done := b :: done) H1 hB' hv' hnd' hrf.2 (fun k hk => ⟨fun h => (hm1.2 k hk).1 (.inr h), fun h => by
      rcases List.mem_cons.1 h with h | h
      · exact (hm1.2 k hk).1 (.inl h)
      · exact (hm1.2 k hk).2 h⟩) (fun d hd h => by
      rcases List.mem_cons.1 h with h | h
      · exact hnb (h ▸ hd)
      · exact hbd d (List.mem_cons_of_mem _ hd) h) (fun d y hd hy => by
      rw [hget_cons] at hd
      split at hd
      · rename_i e1; exact .inr (by rw [← e1]; exact List.mem_cons_self)
      · rw [hget_cons] at hd
        split at hd
        · cases hd
        · exact (hcur d y hd hy).imp id (fun h => List.mem_cons_of_mem _ h)) (fun k hk => by
      rw [hget_cons, if_neg (fun e1 => (hm1.2 k hk).1 (.inl e1.symm)), hget_cons, if_neg (fun (e1 : m = k) => hrf.1 (e1 ▸ hk))]
      exact hmm.2 k hk) (fun d hd d' hd' => hinj d (List.mem_cons_of_mem _ hd) d' (by
        simp only [List.mem_append, List.mem_cons] at hd' ⊢
        rcases hd' with h | h | h
        · exact .inl (.inr h)
        · exact .inl (.inl h)
        · exact .inr h))
    refine ⟨?_, fun d hd => ?_⟩
    · simp only [putBoxes, hx1, List.append_assoc]
      exact h1
    · simp only [putBoxes]
      rcases List.mem_cons.1 hd with e1 | hd
      · subst e1; exact ⟨_, List.mem_append_right _ List.mem_cons_self⟩
      · obtain ⟨z, hz⟩ := h2 d hd; exact ⟨z, List.mem_append_left _ hz⟩
  | b :: bs, .box l :: ls, us, vals, cur, done, H, hB, hv, hnd, hrf, hm1, hbd, hcur, hmm, hinj => by
    have hB2 : (c.M b ∧ (∃ (g : Nat) (cs : Array Value) (e : Nat), c.ρ b = .pointer (some ⟨g, 0, none⟩) ∧ w.heap[g]? = some (.cells cs e (0, 0)) ∧ cs.toList = vals.take l.length) ∧
      ∀ g, vblk (c.ρ b) = some g → ¬ c.S g ∧ (F.w0.heap.size ≤ g ∨ F.Hd g) ∧ g < w.heap.size ∧ ∀ d y, hget hp d = some y → y.own = true → b ≠ d → vblk (c.ρ d) ≠ some g) ∧ BoxBack F c w oh hp bs ls (us.drop l.length) (vals.drop l.length) := by
      cases us <;> cases vals <;> exact hB
    obtain ⟨⟨hM, ⟨g, cs, e, hρ, hg, hcs⟩, hO⟩, hB'⟩ := hB2
    obtain ⟨hnb, hnd'⟩ := List.nodup_cons.1 hnd
    simp only [rowRefs] at hrf hm1 hmm
    have hbg : vblk (c.ρ b) = some g := by rw [hρ]; rfl
    obtain ⟨o1, o2, o3, o4⟩ := hO g hbg
    have H1 := H.put b (.box (us.take l.length)) hM ⟨g, cs, e, hρ, hg, by rw [hcs]; exact hv.take _⟩ (fun g' _ hg' => by
      have : g' = g := by rw [hbg] at hg'; exact (Option.some.inj hg').symm
      subst this
      refine ⟨o1, o2, o3, fun d y hne hd hy he => ?_⟩
      rcases hcur d y hd hy with h | h
      · exact o4 d y h hy hne he
      · exact hne (hinj b List.mem_cons_self d (List.mem_append_right _ h) _ hbg he))
    obtain ⟨h1, h2⟩ := HR.boxes (done := b :: done) H1 hB' (hv.drop l.length) hnd' hrf (fun k hk => ⟨fun h => (hm1 k hk).1 (List.mem_cons_of_mem _ h), fun h => by
      rcases List.mem_cons.1 h with h | h
      · exact (hm1 k hk).1 (h ▸ List.mem_cons_self)
      · exact (hm1 k hk).2 h⟩) (fun d hd h => by
      rcases List.mem_cons.1 h with h | h
      · exact hnb (h ▸ hd)
      · exact hbd d (List.mem_cons_of_mem _ hd) h) (fun d y hd hy => by
      rw [hget_cons] at hd
      split at hd
      · rename_i e1; exact .inr (by rw [← e1]; exact List.mem_cons_self)
      · exact (hcur d y hd hy).imp id (fun h => List.mem_cons_of_mem _ h)) (fun k hk => by
      rw [hget_cons, if_neg (fun (e1 : b = k) => (hm1 k hk).1 (e1 ▸ List.mem_cons_self))]
      exact hmm k hk) (fun d hd d' hd' => hinj d (List.mem_cons_of_mem _ hd) d' (by
        simp only [List.mem_append, List.mem_cons] at hd' ⊢
        rcases hd' with h | h | h
        · exact .inl (.inr h)
        · exact .inl (.inl h)
        · exact .inr h))
    refine ⟨?_, fun d hd => ?_⟩
    · simp only [putBoxes, List.append_assoc]
      exact h1
    · simp only [putBoxes]
      rcases List.mem_cons.1 hd with e1 | hd
      · subst e1; exact ⟨_, List.mem_append_right _ List.mem_cons_self⟩
      · obtain ⟨z, hz⟩ := h2 d hd; exact ⟨z, List.mem_append_left _ hz⟩
theorem Pairs.get {c c1 : Ctx} : ∀ {ds bs : List Nat}, Pairs c c1 ds bs → ∀ b ∈ bs, ∃ d, d ∈ ds ∧ c1.M d ∧ c1.ρ d = c.ρ b
  | [], [], _, b, hb => by cases hb
  | d :: ds, a :: bs, hP, b, hb => by
    rcases List.mem_cons.1 hb with e | hb
    · subst e; exact ⟨d, List.mem_cons_self, hP.1.1, hP.1.2⟩
    · obtain ⟨d', h1, h2⟩ := Pairs.get hP.2 b hb
      exact ⟨d', List.mem_cons_of_mem _ h1, h2⟩
/-- What came back of boxes and rows. -/
theorem BoxAt.back {F : Fr} {c c1 c' c2 : Ctx} {w' : World} {h oh hp : Hp} (hc : ∀ b, c.M b → c2.M b ∧ c2.ρ b = c.ρ b)
    (hbox : ∀ d x, hget h d = some (.box x) → ∀ g, vblk (c'.ρ d) = some g → ¬ c2.S g ∧ (F.w0.heap.size ≤ g ∨ F.Hd g) ∧ g < w'.heap.size ∧ ∀ b k y, c2.M b → c2.ρ b = c'.ρ d → hget hp k = some y → y.own = true → b ≠ k → vblk (c2.ρ k) ≠ some g)
    (hoh : ∀ m x, hget oh m = some x → hget hp m = some x ∧ x.own = true) :
    ∀ {ds bs : List Nat} {ls : List Inout} {us : List V} {vals : List Value}, (∀ d ∈ ds, c'.ρ d = c1.ρ d) → BoxAt c' w' h ds ls vals → Pairs c c1 ds bs → (∀ b ∈ bs, c.M b) → VRs c2 w' us vals → (∀ m ∈ rowRefs ls us, ∃ x, hget oh m = some x) → RowsOf ls us → BoxBack F c2 w' oh hp bs ls us vals
  | [], [], [], us, vals, _, _, _, _, _, _, _ => trivial
  | d :: ds, b :: bs, .row e t :: ls, us, vals, h1, hB, hP, hM, hv, hr, hR => by
    cases vals with
    | nil => exact hB.elim
    | cons val vals =>
    cases us with
    | nil => exact hR.elim
    | cons u us =>
    obtain ⟨⟨_, hval⟩, hB'⟩ := hB
    obtain ⟨⟨p1, p2⟩, hP'⟩ := hP
    obtain ⟨⟨m, hu⟩, hR'⟩ := hR
    subst hu
    obtain ⟨m1, m2⟩ := hc b (hM b List.mem_cons_self)
    simp only [rowRefs, List.singleton_append, List.mem_cons, forall_eq_or_imp] at hr
    obtain ⟨x, hx1⟩ := hr.1
    obtain ⟨k1, k2⟩ := hoh m x hx1
    simp only [VRs] at hv
    obtain ⟨y, q, e0, hy, hv'⟩ := hv
    cases e0
    simp only [VR] at hy
    exact ⟨⟨m1, m, x, rfl, hx1, k1, k2, by rw [← hy.2.1, hval, h1 d List.mem_cons_self, p2, m2]⟩, BoxAt.back hc hbox hoh (fun z hz => h1 z (List.mem_cons_of_mem _ hz)) hB' hP' (fun z hz => hM z (List.mem_cons_of_mem _ hz)) hv' hr.2 hR'⟩
  | d :: ds, b :: bs, .box l :: ls, us, vals, h1, hB, hP, hM, hv, hr, hR => by
    have hB2 : ((∃ x, hget h d = some (.box x)) ∧ ∃ (g : Nat) (cs : Array Value) (e : Nat), c'.ρ d = .pointer (some ⟨g, 0, none⟩) ∧ w'.heap[g]? = some (.cells cs e (0, 0)) ∧ cs.toList = vals.take l.length) ∧ BoxAt c' w' h ds ls (vals.drop l.length) := by
      cases vals <;> exact hB
    obtain ⟨⟨⟨x, hx0⟩, g, cs, e, hρ, hg, hcs⟩, hB'⟩ := hB2
    obtain ⟨⟨p1, p2⟩, hP'⟩ := hP
    obtain ⟨m1, m2⟩ := hc b (hM b List.mem_cons_self)
    have hb : c2.ρ b = c'.ρ d := by rw [m2, ← p2, ← h1 d List.mem_cons_self]
    have hR' : RowsOf ls (us.drop l.length) := by cases us <;> exact hR
    have := BoxAt.back (F := F) (oh := oh) (hp := hp) hc hbox hoh (fun z hz => h1 z (List.mem_cons_of_mem _ hz)) hB' hP' (fun z hz => hM z (List.mem_cons_of_mem _ hz)) (hv.drop l.length) hr hR'
    have hfin : (c2.M b ∧ (∃ (g : Nat) (cs : Array Value) (e : Nat), c2.ρ b = .pointer (some ⟨g, 0, none⟩) ∧ w'.heap[g]? = some (.cells cs e (0, 0)) ∧ cs.toList = vals.take l.length) ∧
      ∀ g, vblk (c2.ρ b) = some g → ¬ c2.S g ∧ (F.w0.heap.size ≤ g ∨ F.Hd g) ∧ g < w'.heap.size ∧ ∀ d y, hget hp d = some y → y.own = true → b ≠ d → vblk (c2.ρ d) ≠ some g) := by
      refine ⟨m1, ⟨g, cs, e, by rw [hb, hρ], hg, hcs⟩, fun g' hg' => ?_⟩
      rw [hb] at hg'
      obtain ⟨z1, z2, z3, z4⟩ := hbox d x hx0 g' hg'
      exact ⟨z1, z2, z3, fun k y hk hy hne => z4 b k y m1 hb hk hy hne⟩
    cases us <;> cases vals <;> exact ⟨hfin, this⟩
end
end Go.Proofs.YtiacidpjplmgaaaDoorD
