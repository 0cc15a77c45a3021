/- Words of this session's own: one operation of a region, calls among them. -/
import Derived.Test.YtiacidpjplmgaaaDoorDn17
import Derived.Calls
import Derived.Tactics
import Derived.Orders
set_option linter.unusedVariables false
set_option linter.unusedSimpArgs false
namespace Go.Proofs.YtiacidpjplmgaaaDoorD
section
variable {P : Program} {τ : TT} {α : Type}
/-- An operation that the plain words go through does so on the machine. -/
theorem oper_ok {o : Oper} {tbl : Tbl} {fr : Nat} {g : Operand → V} {h : Nat → Option Blk} {K : V → Hp → Option α} {r : α} (hτ : TOk P τ) (hT : TblOk P tbl) (he : opK τ tbl fr g h o.op K = some r) :
    ∃ v ws, K v ws = some r ∧ (∀ {β : Type} (K' : V → Hp → Option β), opK τ tbl fr g h o.op K' = K' v ws) ∧
      ∀ {F : Fr} {c : Ctx} {w : World} {hp : Hp} {a : Act} {Kn : Act → World → Prop} {Q : Exit → Act → World → Prop}, HR F c w hp → (∀ b x, h b = some x → hget hp b = some x) → (∀ b, fr ≤ b → b < fr + 16 → ¬ c.M b) → (∀ x, VR c w (g x) (a.eval x)) →
        (∀ val w', Done F c w hp fr v ws val w' → Kn (a.put o.dst val) w') → Oper.wp P o a w Kn Q := by
  by_cases hc : ∃ c f, o.op = .call c ∧ c.callee = .value f
  · obtain ⟨c, f, hop, hcal⟩ := hc
    rw [hop] at he
    unfold opK at he
    dsimp only at he
    rw [hcal] at he
    dsimp only at he
    split at he
    case h_2 => cases he
    rename_i n a0 cs hgf
    obtain ⟨v, ws, h1, h2, h3⟩ := callK_ok hT he
    refine ⟨v, ws, h1, fun K' => by rw [hop]; unfold opK; dsimp only; rw [hcal]; dsimp only; rw [hgf]; exact h2 K', fun {F c' w hp a Kn Q} H hh hfr hv hK => ?_⟩
    have hfv := hv f
    rw [hgf] at hfv
    simp only [VR] at hfv
    obtain ⟨a', k', e1, e2, e3⟩ := hfv
    have hargs : VRs c' w (a0 ++ (c.args.toList.map g ++ cs)) ((a' ++ c.args.map a.eval) ++ k').toList := by
      rw [Array.toList_append, Array.toList_append, Array.toList_map, List.append_assoc]
      exact e2.append ((VRs.map hv c.args.toList).append e3)
    obtain ⟨k1, k2⟩ := h3 H hh hfr hargs
    rw [Array.toArray_toList] at k2
    have hrun : (execOp a.eval o).run P w = .ok (.enter n ((a' ++ c.args.map a.eval) ++ k')) w := by
      unfold execOp
      simp only [hop, resolve, hcal, Deferred.ofValue, invoke, e1, Sem.run_bind, Sem.run_pure, Result.andThen_ok]
      exact k1 _ w
    unfold Oper.wp
    rw [hrun, Oper.upon_enter]
    refine k2.mono fun e w'' ⟨val, hval, hD⟩ => ?_
    subst hval
    exact hK _ _ hD
  · obtain ⟨v, ws, h1, h2, h3⟩ := op_ok hτ (fun c f hop hcal => hc ⟨c, f, hop, hcal⟩) he
    refine ⟨v, ws, h1, h2, fun {F c w hp a Kn Q} H hh hfr hv hK => ?_⟩
    obtain ⟨val, w', hr, hD⟩ := h3 H hh (hfr fr (Nat.le_refl _) (by omega)) hv
    unfold Oper.wp
    rcases hr with hr | ⟨hr, hu⟩
    · rw [hr, Oper.upon_value]; exact hK _ _ hD
    · subst hu; rw [hr, Oper.upon_skip]; exact hK _ _ hD

/-! ### States -/
structure Base (F : Fr) (c : Ctx) (w : World) : Prop where
  S : ∀ k, F.S0 k → c.S k
  heap : ∀ k, F.S0 k → w.heap[k]? = F.w0.heap[k]?
  bx : ∀ d ∈ F.bx, c.M d ∧ c.ρ d = F.ρ0 d
theorem Base.to {F : Fr} {c c' : Ctx} {w w' : World} (h : Base F c w) (ht : c.To c' w w') : Base F c' w' :=
  ⟨fun k hk => ht.S k (h.S k hk), fun k hk => (ht.heap k (h.S k hk)).trans (h.heap k hk), fun d hd => ⟨ht.M d (h.bx d hd).1, (ht.ρ d (h.bx d hd).1).trans (h.bx d hd).2⟩⟩
structure SR (F : Fr) (c : Ctx) (nt : Nat) (N : Nat → Prop) (s : List (Nat × V)) (h : Hp) (a : Act) (w : World) : Prop where
  hr : HR F c w h
  M : ∀ b, c.M b → N b
  size : a.tmps.size = nt
  env : ∀ t, VR c w (egetd s t) (a.tmps.getD t undef)
  defers : a.defers = []
  base : Base F c w
theorem egetd_cons (t d : Nat) (v : V) (e : List (Nat × V)) : egetd ((t, v) :: e) d = if t = d then v else egetd e d := by
  unfold egetd
  rw [get_cons]
  by_cases e : t = d
  · rw [if_pos e, if_pos e]
  · rw [if_neg e, if_neg e]
theorem VR.leaf {c : Ctx} {w : World} (v : Value) : VR c w (vleaf v) v := by
  unfold vleaf
  split <;> simp only [VR, Rd]
theorem VRs.leaf {c : Ctx} {w : World} : ∀ l : List Value, VRs c w (l.map vleaf) l
  | [] => by simp [VRs]
  | v :: r => by simp only [List.map_cons, VRs]; exact ⟨v, r, rfl, VR.leaf v, VRs.leaf r⟩
theorem VR.const {c : Ctx} {w : World} (v : Value) : VR c w (vconst v) v := by
  unfold vconst
  split
  · rename_i cs; simp only [VR]; exact ⟨cs, rfl, VRs.leaf _⟩
  · exact VR.leaf v
theorem SR.operand {F : Fr} {c : Ctx} {nt : Nat} {n : Nat → Prop} {s : List (Nat × V)} {h : Hp} {a : Act} {w : World} (H : SR F c nt n s h a w) (x : Operand) : VR c w (opd s x) (a.eval x) := by
  cases x with
  | tmp t => exact H.env t
  | const v => exact VR.const v
  | func f => simp only [opd, Act.eval, VR]; exact ⟨#[], #[], rfl, by simp [VRs], by simp [VRs]⟩
  | global g => simp only [opd, VR]
theorem VR.unit {c : Ctx} {w : World} : VR c w (.tup []) undef := by simp only [VR]; exact ⟨#[], rfl, by simp [VRs]⟩
section
variable {F : Fr} {c c' : Ctx} {nt : Nat} {N : Nat → Prop} {e : List (Nat × V)} {h : Hp} {a : Act} {w w' : World}
theorem SR.mono (H : SR F c nt N e h a w) {N' : Nat → Prop} (hN : ∀ b, N b → N' b) : SR F c nt N' e h a w := ⟨H.hr, fun b hb => hN b (H.M b hb), H.size, H.env, H.defers, H.base⟩
theorem put_env (hs : a.tmps.size = nt) {d : Option Nat} (hd : dstOk nt d = true) {v : V} {val : Value} (hE : ∀ t, VR c w (egetd e t) (a.tmps.getD t undef)) (hv : VR c w v val) : (a.put d val).tmps.size = nt ∧ (∀ t, VR c w (egetd (putE e d v) t) ((a.put d val).tmps.getD t undef)) ∧ (a.put d val).defers = a.defers := by
  cases d with
  | none => exact ⟨hs, hE, rfl⟩
  | some d =>
    have hlt : d < nt := by simpa [dstOk, Nat.blt_eq] using hd
    refine ⟨by simp [Act.put, hs], fun t => ?_, rfl⟩
    simp only [putE, egetd_cons, Act.put, Array.getD_eq_getD_getElem?, Array.getElem?_setIfInBounds]
    by_cases ht : d = t
    · subst ht
      rw [if_pos rfl, if_pos rfl, if_pos (by omega)]
      exact hv
    · rw [if_neg ht, if_neg ht]
      have := hE t
      rwa [Array.getD_eq_getD_getElem?] at this
theorem SR.step (H : SR F c nt N e h a w) {d : Option Nat} (hd : dstOk nt d = true) {fr : Nat} {v : V} {ws : Hp} {val : Value} (hD : Done F c w h fr v ws val w') :
    ∃ c', c.To c' w w' ∧ SR F c' nt (fun b => N b ∨ fr ≤ b ∧ b < fr + 16) (putE e d v) (ws ++ h) (a.put d val) w' := by
  obtain ⟨c', h1, h2, h3, h4⟩ := hD
  obtain ⟨k1, k2, k3⟩ := put_env H.size hd (fun t => (H.env t).to h1) h3
  exact ⟨c', h1, h4, fun b hb => (h2 b hb).imp (H.M b) id, k1, k2, k3.trans H.defers, H.base.to h1⟩
theorem SR.skip (H : SR F c nt N e h a w) {d : Option Nat} (hd : dstOk nt d = true) : SR F c nt N (putE e d (.tup [])) h (a.put d undef) w := by
  obtain ⟨k1, k2, k3⟩ := put_env H.size hd H.env VR.unit
  exact ⟨H.hr, H.M, k1, k2, k3.trans H.defers, H.base⟩
theorem SR.narrow (H : SR F c nt N e h a w) {t : Nat} {v : V} (hv : VR c w v (a.tmps.getD t undef)) : SR F c nt N ((t, v) :: e) h a w := by
  refine ⟨H.hr, H.M, H.size, fun d => ?_, H.defers, H.base⟩
  rw [egetd_cons]
  split
  · rename_i h; subst h; exact hv
  · exact H.env d
end
theorem hr_sub {h : Hp} {ids : List Nat} {b : Nat} {x : Blk} (e : Go.Proofs.YtiacidpjplmgaaaDoorD.hr h ids b = some x) : hget h b = some x := by
  unfold Go.Proofs.YtiacidpjplmgaaaDoorD.hr at e
  split at e
  · exact e
  · cases e
theorem yielded_of {all : List Oper} {tm : Array Value} {j t : Nat} (h : dstOf all j = some t) : yielded all.toArray tm j = match tm.getD t undef with | .bool b => some b | _ => none := by
  unfold dstOf at h
  unfold yielded
  rw [List.getElem?_toArray]
  split at h
  · rename_i o ho
    rw [ho, Option.bind_some, h, Option.bind_some, Array.getD_eq_getD_getElem?]
    cases hx : tm[t]? with
    | none => rfl
    | some x => cases x <;> rfl
  · cases h
/-- The operations one behind the other. -/
theorem ops_ok {tbl : Tbl} {all : List Oper} {nt : Nat} {F : Fr} {Q : Exit → Act → World → Prop} (hτ : TOk P τ) (hT : TblOk P tbl) : ∀ {ops : List Oper} {i : Nat} {s : St} {l : List Log} {K : St → List Log → Option α} {r : α} {c : Ctx} {a : Act} {w : World},
    opsK τ tbl nt all ops i s l K = some r → SR F c nt (fun b => b < s.next + 16 * i) s.env s.heap a w →
    (∀ s' l', K s' l' = some r → s'.next = s.next → ∀ c' a' w', SR F c' nt (fun b => b < s.next + 16 * (i + ops.length)) s'.env s'.heap a' w' → Q .normal a' w') → wpList P all.toArray Q ops a w
  | [], i, s, l, K, r, c, a, w, he, H, hQ => by
    unfold opsK at he
    exact hQ s l he rfl c a w H
  | o :: q, i, s, l, K, r, c, a, w, he, H, hQ => by
    unfold opsK at he
    split at he
    · cases he
    rename_i hd
    dsimp only at he
    have hnext : ∀ {s1 : St} {N : Nat → Prop} {c1 : Ctx} {a1 : Act} {w1 : World} {l1 : List Log}, s1.next = s.next → opsK τ tbl nt all q (i + 1) s1 l1 K = some r → SR F c1 nt N s1.env s1.heap a1 w1 → (∀ b, N b → b < s.next + 16 * (i + 1)) → wpList P all.toArray Q q a1 w1 := fun {s1 N c1 a1 w1 l1} h0 h1 h2 h3 => by
      refine ops_ok hτ hT h1 (by rw [h0]; exact h2.mono h3) (fun s' l' hK hn c' a' w' h' => hQ s' l' hK (hn.trans h0) c' a' w' ?_)
      rw [h0] at h'
      exact h'.mono (fun b hb => by simp only [List.length_cons]; omega)
    have hgo : ∀ {e1 : List (Nat × V)}, SR F c nt (fun b => b < s.next + 16 * i) e1 s.heap a w →
        (opK τ tbl (s.next + 16 * i) (opd e1) (Go.Proofs.YtiacidpjplmgaaaDoorD.hr s.heap (rdIds (hget s.heap) (opd e1) o.op)) o.op fun v w =>
            opsK τ tbl nt all q (i + 1) ⟨putE e1 o.dst v, w ++ s.heap, s.next⟩ (⟨opTmps o.op, rdIds (hget s.heap) (opd e1) o.op, w.map (·.1)⟩ :: l) K) = some r → Oper.wp P o a w (wpList P all.toArray Q q) Q := fun {e1} H1 h1 => by
      obtain ⟨v, ws, k1, k2, k3⟩ := oper_ok hτ hT h1
      refine k3 H1.hr (fun b x hb => hr_sub hb) (fun b hb _ hM => ?_) H1.operand (fun val w' hD => ?_)
      · have := H1.M b hM; omega
      · obtain ⟨c', m1, m2⟩ := H1.step hd hD
        refine hnext (s1 := ⟨putE e1 o.dst v, ws ++ s.heap, s.next⟩) rfl k1 m2 (fun b hb => ?_)
        rcases hb with hb | hb <;> omega
    split at he
    · rename_i hg
      exact wpList_plain hg fun Kn hKn => Oper.wp_mono hKn (hgo H he)
    · rename_i j want hg
      split at he
      · cases he
      rename_i t ht
      have hy := yielded_of (tm := a.tmps) ht
      have hv := H.env t
      have hskip : ∀ {e1 : List (Nat × V)} {l1 : List Log}, SR F c nt (fun b => b < s.next + 16 * i) e1 s.heap a w → opsK τ tbl nt all q (i + 1) ⟨putE e1 o.dst (.tup []), s.heap, s.next⟩ l1 K = some r → wpList P all.toArray Q q (a.put o.dst undef) w := fun {e1 l1} H1 h1 =>
        hnext (s1 := ⟨putE e1 o.dst (.tup []), s.heap, s.next⟩) rfl h1 (H1.skip hd) (fun b hb => by omega)
      split at he
      · rename_i he0
        rw [he0] at hv
        simp only [VR] at hv
        obtain ⟨vs, e1, e2⟩ := hv
        unfold wpList
        rw [if_neg]
        · exact hskip H he
        · simp only [Region.wanted, hg, hy, e1]; cases want <;> decide
      · obtain ⟨b, h1, h2, h3⟩ := testK_ok he
        have hb := h3 hv
        have Hn : SR F c nt (fun b => b < s.next + 16 * i) ((t, .val .bool b) :: s.env) s.heap a w := H.narrow (by rw [hb]; simp only [VR]; rfl)
        unfold wpList
        have hwant : Region.wanted o (yielded all.toArray a.tmps) = (b == want) := by
          simp only [Region.wanted, hg, hy, hb]
          cases b <;> cases want <;> rfl
        rw [hwant]
        cases hbw : (b == want) with
        | true =>
          rw [hbw] at h1
          rw [if_pos rfl]
          exact .inl (hgo Hn h1)
        | false =>
          rw [hbw] at h1
          rw [if_neg (by decide)]
          exact hskip Hn h1
end
end Go.Proofs.YtiacidpjplmgaaaDoorD
