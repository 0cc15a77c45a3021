/- Words of this session's own: a call of a proved function. -/
import Derived.Test.YtiacidpjplmgaaaDoorDn16
set_option linter.unusedVariables false
set_option linter.unusedSimpArgs false
namespace Go.Proofs.YtiacidpjplmgaaaDoorD
section
variable {P : Program} {τ : TT} {α : Type}
/-- How the called function stands. -/
def GQ (c : Ctx) (w : World) (p : Pk) : Prop := (GN ≤ w.heap.size ∧ GP w.heap) ∧ ∀ k, k < GN → ¬ ∃ b ∈ p.kill ++ p.bxs, vblk (c.ρ b) = some k
def Fr.of (c : Ctx) (w : World) (p : Pk) (gq : GQ c w p) : Fr := ⟨w, fun g => ∃ b ∈ p.kill ++ p.bxs, vblk (c.ρ b) = some g, fun g => c.S g ∨ ∃ b ∈ p.rds ++ p.rbs, vblk (c.ρ b) = some g, [], fun _ => undef, gq.1.1, gq.2, gq.1.2⟩
theorem PassFacts.own {h : Nat → Option Blk} {p : Pk} (H : PassFacts h p) : ∀ b, b ∈ p.kill ++ p.bxs ∨ b ∈ p.rds ++ p.rbs → ∃ x, h b = some x ∧ x.own = true := by
  intro b hb
  simp only [List.mem_append] at hb
  rcases hb with (hb | hb) | (hb | hb)
  · obtain ⟨e, t, xs, h⟩ := H.kill b hb; exact ⟨_, h, rfl⟩
  · exact H.bxs b hb
  · obtain ⟨e, t, xs, h⟩ := H.rds b hb; exact ⟨_, h, rfl⟩
  · obtain ⟨vs, h⟩ := H.rbs b hb; exact ⟨_, h, rfl⟩
theorem rowsOk_ok {oh : Hp} : ∀ {ls : List Inout} {us : List V}, rowsOk oh ls us = true → RowsOf ls us ∧ ∀ m ∈ rowRefs ls us, ∃ x, hget oh m = some x
  | [], us, _ => ⟨by cases us <;> trivial, by cases us <;> (intro m hm; simp [rowRefs] at hm)⟩
  | .box l :: ls, us, h => by
    have h' : rowsOk oh ls (us.drop l.length) = true := by cases us <;> exact h
    obtain ⟨h1, h2⟩ := rowsOk_ok h'
    refine ⟨by cases us <;> exact h1, fun m hm => h2 m (by cases us <;> exact hm)⟩
  | .row e t :: ls, [], h => by cases h
  | .row e t :: ls, u :: us, h => by
    unfold rowsOk at h
    split at h
    case h_2 => cases h
    rename_i m
    split at h
    case h_2 => cases h
    rename_i x hx
    obtain ⟨h1, h2⟩ := rowsOk_ok h
    refine ⟨⟨⟨m, rfl⟩, h1⟩, fun k hk => ?_⟩
    simp only [rowRefs, List.singleton_append, List.mem_cons] at hk
    rcases hk with e | hk
    · subst e; exact ⟨x, hx⟩
    · exact h2 k hk
theorem hget_mem' : ∀ {h : Hp} {b : Nat} {x : Blk}, hget h b = some x → (b, some x) ∈ h
  | [], _, _, e => by cases e
  | (d, y) :: r, b, x, e => by
    rw [hget_cons] at e
    split at e
    · rename_i hd; subst hd; subst e; exact List.mem_cons_self
    · exact List.mem_cons_of_mem _ (hget_mem' e)
theorem exit_ok {h : Nat → Option Blk} {s : FnSpec} {p : Pk} {F : Fr} {c c1 : Ctx} {w w' : World} {hp : Hp} {fr : Nat} {ds : List Nat} {l : List Leaf} {v : Value} {gq : GQ c w p}
    (H : HR F c w hp) (hh : ∀ b x, h b = some x → hget hp b = some x) (h3 : PassFacts h p) (hnd : (p.kill ++ p.bxs).Nodup) (hdis : ∀ b ∈ p.kill ++ p.bxs, b ∉ p.rds ++ p.rbs) (hlk : leaksL s.out = true → p.rbs = [])
    (hfr : ∀ b, fr ≤ b → b < fr + 16 → ¬ c.M b) (hnx : (inVL s.out [] fr).next ≤ fr + 16) (hc1 : c1.S = (Fr.of c w p gq).S0) (hP : Pairs c c1 ds p.bxs) (hPost : Post (Fr.of c w p gq) c1 w s.rs (bxsL s.ps) ds l v w')
    (hrn : (rowRefs (bxsL s.ps) ((inVL s.out l fr).vs.drop s.rs.length)).Nodup) (hro : rowsOk (inVL s.out l fr).heap (bxsL s.ps) ((inVL s.out l fr).vs.drop s.rs.length) = true) :
    Done F c w hp fr (retV ((inVL s.out l fr).vs.take s.rs.length)) (putBoxes (inVL s.out l fr).heap p.bxs (bxsL s.ps) ((inVL s.out l fr).vs.drop s.rs.length) ++ (inVL s.out l fr).heap ++ (killW p.kill ++ (match leaksL s.out with | true => frzW h p.rds | false => []))) v w' := by
  obtain ⟨c', h', vs, vals, p', ⟨a1, a1'⟩, a2, a3, a4, a5, a6, a7, a8, a9, a10, a11⟩ := hPost
  obtain ⟨R, hR1, hR2, hR3⟩ : ∃ R : List Nat, (match leaksL s.out with | true => frzW h p.rds | false => []) = frzW h R ∧ (leaksL s.out = true → R = p.rds) ∧ ∀ b ∈ R, b ∈ p.rds := by
    cases hl : leaksL s.out with
    | true => exact ⟨p.rds, rfl, fun _ => rfl, fun _ h => h⟩
    | false => exact ⟨[], rfl, (by intro h; cases h), (by intro b h; cases h)⟩
  rw [hR1]
  obtain ⟨cF, f1, f2, f3, f4, f5, f6, f7⟩ := H.frzW2 h R (fun b hb e t xs hx => hh b _ hx)
  obtain ⟨K1, K2⟩ := f5.killW (p.kill ++ p.bxs)
  have hown : ∀ b, b ∈ p.kill ++ p.bxs ∨ b ∈ p.rds ++ p.rbs → ∃ x, hget hp b = some x ∧ x.own = true := fun b hb => by
    obtain ⟨x, h1, h2⟩ := h3.own b hb
    exact ⟨x, hh b x h1, h2⟩
  -- what came along
  have hF1 : ∀ k, cF.S k → c1.S k := fun k hk => by
    rw [hc1]
    rcases f7 k hk with h | ⟨b, hb, e⟩
    · exact .inl h
    · exact .inr ⟨b, List.mem_append_left _ (hR3 b hb), e⟩
  have hF' : ∀ k, cF.S k → c'.S k := fun k hk => (a1 k (hF1 k hk)).1
  have hsz : w.heap.size ≤ w'.heap.size := a2.keeps.size
  have hHd : ∀ g, (Fr.of c w p gq).Hd g → (F.w0.heap.size ≤ g ∨ F.Hd g) ∧ g < w.heap.size := fun g ⟨b, hb, e⟩ => by
    obtain ⟨x, x1, x2⟩ := hown b (.inl hb)
    exact (H.own b x g x1 x2 e).2
  have hnew : ∀ g, (w.heap.size ≤ g ∨ (Fr.of c w p gq).Hd g) → F.w0.heap.size ≤ g ∨ F.Hd g := fun g hg => by
    rcases hg with hg | hg
    · exact .inl (Nat.le_trans H.keeps.size hg)
    · exact (hHd g hg).1
  let S1 : Nat → Prop := fun k => cF.S k ∨ (leaksL s.out = true ∧ (c'.S k ∨ ∃ b ∈ p'.rds, vblk (c'.ρ b) = some k))
  have hto : cF.To ⟨S1, cF.ρ, cF.M⟩ w w' := ⟨fun k hk => .inl hk, fun _ h => h, fun _ _ => rfl, fun k hk => (a1 k (hF1 k hk)).2⟩
  obtain ⟨q, q1, q2, q3, q4⟩ := passL_ok a4
  obtain rfl := Option.some.inj q1
  have hrow' : ∀ b ∈ q.rds, ∃ x, hget h' b = some x ∧ x.own = true := fun b hb => q3.own b (.inr (List.mem_append_left _ hb))
  -- the caller's own that was not handed over
  have hrest : ∀ b x g, hget (killW (p.kill ++ p.bxs) ++ (frzW h R ++ hp)) b = some x → x.own = true → vblk (cF.ρ b) = some g → b ∉ p.kill ++ p.bxs ∧ b ∉ R ∧ hget hp b = some x ∧ vblk (c.ρ b) = some g := fun b x g hb hx hg => by
    have hb' := hb
    rw [K2] at hb
    split at hb
    · cases hb
    · rename_i hk
      have hg' := hg
      rw [f2] at hg
      have hbR : b ∉ R := fun hm => by
        obtain ⟨e, t, xs, hr⟩ := h3.rds b (hR3 b hm)
        exact (K1.own b x g hb' hx hg').1 (f4 b hm e t xs hr g hg)
      rw [f6 b hbR] at hb
      exact ⟨hk, hbR, hb, hg⟩
  have hnHd : ∀ b x g, hget (killW (p.kill ++ p.bxs) ++ (frzW h R ++ hp)) b = some x → x.own = true → vblk (cF.ρ b) = some g → ¬ (Fr.of c w p gq).Hd g ∧ g < w.heap.size := fun b x g hb hx hg => by
    obtain ⟨h1, h2, h4, h5⟩ := hrest b x g hb hx hg
    refine ⟨fun ⟨d, hd, e⟩ => ?_, (H.own b x g h4 hx h5).2.2⟩
    obtain ⟨y, y1, y2⟩ := hown d (.inl hd)
    exact H.apart b d x y g (fun e => h1 (e ▸ hd)) h4 y1 hx y2 h5 e
  have HG : HR F ⟨S1, cF.ρ, cF.M⟩ w' (killW (p.kill ++ p.bxs) ++ (frzW h R ++ hp)) := by
    refine K1.toS hto (fun b x g hb hx hg => ?_) ?_ hsz (fun k hk => ?_)
    · obtain ⟨h1, h2, h4, h5⟩ := hrest b x g hb hx hg
      obtain ⟨n1, n2⟩ := hnHd b x g hb hx hg
      refine ⟨a2.keeps.heap g n2 n1, fun hs => ?_⟩
      rcases hs with hs | ⟨hl, hs | ⟨d, hd, e⟩⟩
      · exact (K1.own b x g hb hx hg).1 hs
      · rcases a2.grew g hs with hs | hs | hs
        · rcases hs with hs | ⟨d, hd, e⟩
          · exact (H.own b x g h4 hx h5).1 hs
          · rw [hlk hl, List.append_nil, ← hR2 hl] at hd
            obtain ⟨y, y1, y2⟩ := hown d (.inr (List.mem_append_left _ (hR3 d hd)))
            exact H.apart b d x y g (fun e => h2 (e ▸ hd)) h4 y1 hx y2 h5 e
        · exact Nat.lt_irrefl _ (Nat.lt_of_lt_of_le n2 hs)
        · exact n1 hs
      · obtain ⟨y, y1, y2⟩ := hrow' d hd
        rcases (a2.own d y g y1 y2 e).2.1 with h | h
        · exact Nat.lt_irrefl _ (Nat.lt_of_lt_of_le n2 h)
        · exact n1 h
    · refine ⟨a2.keeps.os.trans H.keeps.os, a2.keeps.tape.trans H.keeps.tape, a2.keeps.output.trans H.keeps.output, Nat.le_trans H.keeps.size hsz, fun k hk hH => ?_⟩
      refine (a2.keeps.heap k (Nat.lt_of_lt_of_le hk H.keeps.size) (fun hd => ?_)).trans (H.keeps.heap k hk hH)
      rcases (hHd k hd).1 with h | h
      · exact Nat.lt_irrefl _ (Nat.lt_of_lt_of_le hk h)
      · exact hH h
    · rcases hk with hk | ⟨hl, hk | ⟨d, hd, e⟩⟩
      · exact ⟨Nat.lt_of_lt_of_le (K1.stays k hk) hsz, K1.grew k hk⟩
      · refine ⟨a2.stays k hk, ?_⟩
        rcases a2.grew k hk with hs | hs
        · rcases hs with hs | ⟨d, hd, e⟩
          · exact H.grew k hs
          · obtain ⟨y, y1, y2⟩ := hown d (.inr hd)
            exact .inr (H.own d y k y1 y2 e).2.1
        · exact .inr (hnew k hs)
      · obtain ⟨y, y1, y2⟩ := hrow' d hd
        have := a2.own d y k y1 y2 e
        exact ⟨this.2.2, .inr (hnew k this.2.1)⟩
  -- what the other side owned
  have hthere : ∀ d x g, hget h' d = some x → x.own = true → d ∉ q.rds → vblk (c'.ρ d) = some g → ¬ S1 g ∧ (F.w0.heap.size ≤ g ∨ F.Hd g) ∧ g < w'.heap.size ∧
      ∀ k y, hget (killW (p.kill ++ p.bxs) ++ (frzW h R ++ hp)) k = some y → y.own = true → vblk (cF.ρ k) ≠ some g := fun d x g hd hx hr hg => by
    obtain ⟨o1, o2, o3⟩ := a2.own d x g hd hx hg
    refine ⟨fun hs => ?_, hnew g o2, o3, fun k y hk hy he => ?_⟩
    · rcases hs with hs | ⟨hl, hs | ⟨b, hb, e⟩⟩
      · exact o1 (hF' g hs)
      · exact o1 hs
      · obtain ⟨z, z1, z2⟩ := hrow' b hb
        exact a2.apart d b x z g (fun e => hr (e ▸ hb)) hd z1 hx z2 hg e
    · obtain ⟨n1, n2⟩ := hnHd k y g hk hy he
      rcases o2 with h | h
      · exact Nat.lt_irrefl _ (Nat.lt_of_lt_of_le n2 h)
      · exact n1 h
  have hnl := inVL_next s.out l [] fr
  obtain ⟨c2, E, g1, g2, g3, g4, g5, g6, g7, g8⟩ := q4 (c0 := ⟨S1, cF.ρ, cF.M⟩) (n := fr) (rest := []) a2 (fun _ _ h => h) a3
    (fun hl => ⟨fun k hk => .inr ⟨hl, .inl hk⟩, fun b hb g hg => .inr ⟨hl, .inr ⟨b, by rw [a8, List.append_nil] at hb; exact hb, hg⟩⟩⟩)
    (fun b hb hlt hM => by
      rw [a5, List.append_nil] at hlt
      have : (inVL (s.rs ++ flatL (bxsL s.ps)) l fr).next = (inVL s.out l fr).next := rfl
      rw [this, hnl.2.1] at hlt
      exact hfr b hb (by omega) (by rw [← f3]; exact hM))
  rw [a5, List.append_nil] at g3 g4 g5 g6 g8
  rw [a7, List.append_nil] at g7
  replace g3 : ∀ b, c2.M b → cF.M b ∨ fr ≤ b ∧ b < (inVL s.out l fr).next := g3
  replace g5 : VRs c2 w' (inVL s.out l fr).vs vals := g5
  replace g6 : Came c' c2 w' fr (inVL s.out l fr).next (inVL s.out l fr).heap E := g6
  have hEk : ∀ b d, (b, d) ∈ E → d ∈ q.kill := fun b d hd => g7.mem_iff.1 (List.mem_map.2 ⟨_, hd, rfl⟩)
  have hkrow : ∀ d ∈ q.kill, ∃ e t xs, hget h' d = some (.row e t xs) := fun d hd => q3.kill d hd
  have hEnd : (E.map (·.2)).Nodup := g7.nodup_iff.2 a6
  have HC := HG.came g1 g2 g6 hEnd (fun b d hd g hg => by
    obtain ⟨e, t, xs, hr⟩ := hkrow d (hEk b d hd)
    exact hthere d _ g hr rfl (a9 d (hEk b d hd)) hg) (fun b d b' d' g hd hd' hg hg' => by
    obtain ⟨e, t, xs, hr⟩ := hkrow d (hEk b d hd)
    obtain ⟨e', t', xs', hr'⟩ := hkrow d' (hEk b' d' hd')
    rcases Nat.decEq d d' with hne | heq
    · exact absurd hg' (fun hg' => a2.apart d d' _ _ g hne hr hr' rfl rfl hg hg')
    · exact heq)
  -- the boxes
  have hbM : ∀ b ∈ p.bxs, c.M b ∧ ∃ x, hget hp b = some x ∧ x.own = true := fun b hb => by
    obtain ⟨x, h1, h2⟩ := h3.bxs b hb
    exact ⟨(H.blk b _ (hh b _ h1)).1, x, hh b _ h1, h2⟩
  have hto2 : c.To c2 w w' := (f1.trans hto).trans g1
  obtain ⟨r1, r2⟩ := rowsOk_ok hro
  have hohm : ∀ m x, hget (inVL s.out l fr).heap m = some x → x.own = true ∧ fr ≤ m ∧ m < fr + 16 := fun m x hm => by
    obtain ⟨z1, z2, y, e, ho⟩ := g6.mem m _ (hget_mem' hm)
    cases e
    rw [hnl.2.1] at z2
    exact ⟨ho, z1, by omega⟩
  have hback := BoxAt.back (F := F) (c2 := c2) (oh := (inVL s.out l fr).heap) (hp := (inVL s.out l fr).heap ++ (killW (p.kill ++ p.bxs) ++ (frzW h R ++ hp))) (fun b hb => ⟨hto2.M b hb, hto2.ρ b hb⟩) (fun d x d3 g hdg => by
      have hnr : d ∉ q.rds := fun hm => by
        obtain ⟨e, t, xs, hr⟩ := q3.rds d hm
        rw [d3] at hr; cases hr
      obtain ⟨t1, t2, t3, t4⟩ := hthere d _ g d3 rfl hnr hdg
      refine ⟨by rw [g2]; exact t1, t2, t3, fun b k y hbM hbρ hk hy hne he => ?_⟩
      by_cases hm : ∃ z, (k, z) ∈ (inVL s.out l fr).heap
      · rw [hget_append_left _ _ _ hm] at hk
        obtain ⟨d', hd', hdg'⟩ := (g6.get k y hk).2.2 g he
        obtain ⟨e, t, xs, hr⟩ := hkrow d' (hEk k d' hd')
        refine a2.apart d d' _ _ g (fun e => ?_) d3 hr rfl rfl hdg hdg'
        subst e; rw [d3] at hr; cases hr
      · rw [hget_append _ _ _ (fun z hz => hm ⟨z, hz⟩)] at hk
        rw [g1.ρ k (HG.blk k y hk).1] at he
        exact t4 k y hk hy he) (fun m x hm => ⟨by rw [hget_append_left _ _ _ (hget_mem hm)]; exact hm, (hohm m x hm).1⟩) a1' a11 hP (fun b hb => (hbM b hb).1) (g5.drop s.rs.length) r2 r1
  obtain ⟨x1, x3⟩ := HR.boxes (done := []) HC hback (g5.drop s.rs.length) (List.nodup_append.1 hnd).2.1 hrn (fun m hm => ⟨fun hb => by
      obtain ⟨x, hx⟩ := r2 m hm
      obtain ⟨_, z1, z2⟩ := hohm m x hx
      exact hfr m z1 z2 (hbM m hb).1, by simp⟩) (by simp) (fun d y hd _ => .inl hd) (fun _ _ => rfl) (fun b hb b' hb' g hg hg' => by
      rw [List.append_nil] at hb'
      obtain ⟨hM, vs0, hbx, hox⟩ := hbM b hb
      obtain ⟨hM', vs0', hbx', hox'⟩ := hbM b' hb'
      rw [hto2.ρ b hM] at hg
      rw [hto2.ρ b' hM'] at hg'
      rcases Nat.decEq b b' with hne | heq
      · exact absurd hg' (fun hg' => H.apart b b' _ _ g hne hbx hbx' hox hox' hg hg')
      · exact heq)
  refine ⟨c2, hto2, fun b hb => ?_, ?_, hget_ext x1 (fun d => ?_)⟩
  · rcases g3 b hb with h | h
    · exact .inl (by rw [← f3]; exact h)
    · rw [hnl.2.1] at h
      exact .inr ⟨h.1, by omega⟩
  · rw [← a10]
    exact VR.ret (g5.take s.rs.length)
  · have K3 := (f5.killW p.kill).2
    by_cases hdk : ∃ x, (d, x) ∈ putBoxes (inVL s.out l fr).heap p.bxs (bxsL s.ps) ((inVL s.out l fr).vs.drop s.rs.length)
    · rw [List.append_assoc, List.append_assoc, hget_append_left _ _ _ hdk, hget_append_left _ _ _ hdk]
    · have hd : d ∉ p.bxs := fun hd => hdk (x3 d hd)
      rw [List.append_assoc, List.append_assoc, hget_append _ _ _ (fun x hx => hdk ⟨x, hx⟩), List.append_assoc, hget_append _ _ _ (fun x hx => hdk ⟨x, hx⟩)]
      by_cases hm : ∃ z, (d, z) ∈ (inVL s.out l fr).heap
      · rw [hget_append_left _ _ _ hm]; exact (hget_append_left _ _ _ hm).symm
      · rw [hget_append _ _ _ (fun z hz => hm ⟨z, hz⟩)]
        refine Eq.trans ?_ (hget_append _ _ _ (fun z hz => hm ⟨z, hz⟩)).symm
        rw [K2, K3]
        simp only [List.mem_append, hd, or_false]
theorem callK_ok {tbl : Tbl} {h : Nat → Option Blk} {fr f : Nat} {args : List V} {K : V → Hp → Option α} {r : α} (hT : TblOk P tbl) (he : callK tbl h fr f args K = some r) :
    ∃ v ws, K v ws = some r ∧ (∀ {β : Type} (K' : V → Hp → Option β), callK tbl h fr f args K' = K' v ws) ∧
      ∀ {F : Fr} {c : Ctx} {w : World} {hp : Hp} {vals : List Value}, HR F c w hp → (∀ b x, h b = some x → hget hp b = some x) → (∀ b, fr ≤ b → b < fr + 16 → ¬ c.M b) → VRs c w args vals →
        (∀ (a : Array Value) (w : World), (callFunc f a).run P w = .ok (.enter f a) w) ∧ Calls P f vals.toArray w fun e w' => ∃ val, e = .returned val ∧ Done F c w hp fr v ws val w' := by
  unfold callK at he
  split at he
  · cases he
  rename_i s hs
  obtain ⟨p, h1, h2, h3, h4⟩ := passL_ok he
  obtain ⟨x, i1, i2, i3⟩ := toRT_ok h1
  split at i1
  case h_2 => cases i1
  rename_i hnd hdis hlk hln
  obtain ⟨y, hy, hK⟩ := Option.bind_eq_some_iff.1 i1
  dsimp only at hK
  split at hK
  case h_2 => cases hK
  rename_i hrr
  refine ⟨_, _, hK, fun K' => by unfold callK; simp only [hs]; rw [h2, i3]; simp only [hnd, hdis, hlk, hln, hy, hrr, Option.bind_some], fun {F c w hp vals} H hh hfr hv => ?_⟩
  simp only [Bool.and_eq_true] at hln hrr
  have hlk' : leaksL s.out = true → p.rbs = [] := fun hl => by
    rw [hl, Bool.true_and] at hlk
    simpa using hlk
  have hnd' := nodup_ok hnd
  have hdis' := any_not hdis
  have hown : ∀ b, b ∈ p.kill ++ p.bxs ∨ b ∈ p.rds ++ p.rbs → ∃ x, hget hp b = some x ∧ x.own = true := fun b hb => by
    obtain ⟨x, h1, h2⟩ := h3.own b hb
    exact ⟨x, hh b x h1, h2⟩
  have gq : GQ c w p := ⟨F.now H.keeps.size H.keeps.heap, fun k hk ⟨b, hb, e⟩ => by
    obtain ⟨x, x1, x2⟩ := hown b (.inl hb)
    rcases (H.own b x k x1 x2 e).2.1 with h | h
    · have := F.gle; omega
    · exact F.ghd k hk h⟩
  have hc0 : HR (Fr.of c w p gq) ⟨(Fr.of c w p gq).S0, fun _ => .slice none 0 0, fun _ => False⟩ w [] := by
    refine ⟨(by intro b x hb; cases hb), (by intro b x g hb; cases hb), (by intro b d x y g _ hb; cases hb), ⟨rfl, rfl, rfl, Nat.le_refl _, fun _ _ _ => rfl⟩, fun k hk => ?_, fun k hk => .inl hk⟩
    rcases hk with hk | ⟨b, hb, e⟩
    · exact H.stays k hk
    · obtain ⟨y, y1, y2⟩ := hown b (.inr hb)
      exact (H.own b y k y1 y2 e).2.2
  obtain ⟨c1, E, k1, k2, k3, k4, k5, k6, k7, k8⟩ := h4 (c0 := ⟨(Fr.of c w p gq).S0, fun _ => .slice none 0 0, fun _ => False⟩) (n := 0) (rest := []) H hh hv
    (fun _ => ⟨fun k hk => .inl hk, fun b hb g hg => .inr ⟨b, hb, hg⟩⟩) (fun _ _ _ h => h)
  rw [List.append_nil, ← i2] at k3 k5 k6 k8
  have hEk : ∀ b d, (b, d) ∈ E → d ∈ p.kill ++ p.bxs := fun b d hd => k7.mem_iff.1 (List.mem_map.2 ⟨_, hd, rfl⟩)
  have hin := hc0.came k1 k2 k6 (k7.nodup_iff.2 hnd') (fun b d hd g hg => by
    obtain ⟨z, z1, z2⟩ := hown d (.inl (hEk b d hd))
    obtain ⟨o1, o2, o3⟩ := H.own d z g z1 z2 hg
    refine ⟨fun hs => ?_, .inr ⟨d, hEk b d hd, hg⟩, o3, (by intro k y hk; cases hk)⟩
    rcases hs with hs | ⟨d', hd', e⟩
    · exact o1 hs
    · obtain ⟨u, u1, u2⟩ := hown d' (.inr hd')
      exact H.apart d d' z u g (fun e => hdis' d (hEk b d hd) (e ▸ hd')) z1 u1 z2 u2 hg e) (fun b d b' d' g hd hd' hg hg' => by
    obtain ⟨z, z1, z2⟩ := hown d (.inl (hEk b d hd))
    obtain ⟨u, u1, u2⟩ := hown d' (.inl (hEk b' d' hd'))
    rcases Nat.decEq d d' with hne | heq
    · exact absurd hg' (fun hg' => H.apart d d' z u g hne z1 u1 z2 u2 hg hg')
    · exact heq)
  rw [List.append_nil] at hin
  have hsh := inVL_next s.ps (ofRT (tysL s.ps) x) [] 0
  rw [hsh.2.2] at k8
  obtain ⟨hEn, hCa⟩ := hT f s (pick_mem hs)
  refine ⟨hEn, (hCa x y hy (Fr.of c w p gq) c1 w vals rfl k2 (fun b hb => ?_) hin k5).mono fun e w' ⟨v, hv, hPost⟩ => ⟨v, hv, ?_⟩⟩
  · rcases k3 b hb with h | h
    · exact absurd h id
    · rw [hsh.2.1] at h; exact h.2
  · exact exit_ok H hh h3 hnd' hdis' hlk' hfr (Nat.le_of_ble_eq_true hln.2) k2 k8 hPost (nodup_ok hrr.1) hrr.2
end
end Go.Proofs.YtiacidpjplmgaaaDoorD
