/- Words of this session's own: whole functions. -/
import Derived.Test.YtiacidpjplmgaaaDoorDn23
import Derived.Laws.Sem
set_option linter.unusedVariables false
set_option linter.unusedSimpArgs false
namespace Go.Proofs.YtiacidpjplmgaaaDoorD
section
variable {P : Program} {τ : TT} {α : Type}
theorem conv_code (cuts : List Nat) : ∀ (c : Code) (n : Nat), (conv cuts c n).1.code = c
  | .skip, _ | .region _ _ _, _ | .exit _, _ | .ret, _ => rfl
  | .seq a b, n => by
    unfold conv
    dsimp only [C.code]
    rw [conv_code cuts a]
    split
    · dsimp only [C.code]; rw [conv_code cuts b]
    · rw [conv_code cuts b]
  | .cond c a b, n => by unfold conv; dsimp only [C.code]; rw [conv_code cuts a, conv_code cuts b]
  | .block id a, n => by unfold conv; dsimp only [C.code]; rw [conv_code cuts a]
  | .loop a, n => by unfold conv; dsimp only [C.code]; rw [conv_code cuts a]
  | .goto _, _ | .label _, _ | .rangeFunc _ _ _ _, _ | .scope _, _ | .refuse _, _ => rfl
/-! ### Results -/
def resOne (tm : Array Value) : ResultVar → Sem Value
  | .tmp t => pure (tm.getD t undef)
  | .cell a t => do loadVar t (← asAddr (tm.getD a undef))
theorem results_eq (fn : Func) (tm : Array Value) : results fn tm = (do let vs ← fn.results.mapM (resOne tm); pure (if h : vs.size = 1 then vs[0] else .tuple vs)) := rfl
theorem load_as {t : Nat} {pv val : Value} {w : World} (h : (Instr.loadAt t pv).run P w = .ok val w) : (do loadVar t (← asAddr pv) : Sem Value).run P w = .ok val w := by
  unfold Instr.loadAt at h
  cases pv with
  | pointer a =>
    cases a with
    | none => simp [Instr.sureAddr, stuck, Sem.run] at h
    | some a => simpa [Instr.sureAddr, asAddr] using h
  | _ => simp [Instr.sureAddr, stuck, Sem.run] at h
theorem resV_ok {s : St} (hτ : TOk P τ) : ∀ {res : List ResultVar} {K : List V → Option α} {r : α}, resV τ s res K = some r → ∃ vs, K vs = some r ∧
    ∀ {c : Ctx} {w : World} {tm : Array Value}, (∀ b x, hget s.heap b = some x → BR c w b x) → (∀ t, VR c w (egetd s.env t) (tm.getD t undef)) → ∃ vals, VRs c w vs vals ∧ (res.mapM (resOne tm)).run P w = .ok vals w
  | [], K, r, he => ⟨[], he, fun _ _ => ⟨[], by simp [VRs], by simp⟩⟩
  | .tmp t :: q, K, r, he => by
    unfold resV at he
    obtain ⟨vs, h1, h2⟩ := resV_ok hτ he
    refine ⟨_, h1, fun {c w tm} hb hE => ?_⟩
    obtain ⟨vals, k1, k2⟩ := h2 hb hE
    refine ⟨tm.getD t undef :: vals, by simp only [VRs]; exact ⟨_, _, rfl, hE t, k1⟩, ?_⟩
    simp only [List.mapM_cons, Sem.run_bind, resOne, Sem.run_pure, Result.andThen_ok, k2]
  | .cell t ty :: q, K, r, he => by
    unfold resV at he
    obtain ⟨v, h1, _, h3⟩ := loadK_ok hτ he
    obtain ⟨vs, i1, i2⟩ := resV_ok hτ h1
    refine ⟨_, i1, fun {c w tm} hb hE => ?_⟩
    obtain ⟨vals, k1, k2⟩ := i2 hb hE
    obtain ⟨val, m1, m2⟩ := h3 hb (hE t)
    have m3 := load_as m1
    refine ⟨val :: vals, by simp only [VRs]; exact ⟨_, _, rfl, m2, k1⟩, ?_⟩
    have m4 : (resOne tm (.cell t ty)).run P w = .ok val w := m3
    simp only [List.mapM_cons, Sem.run_bind, m4, Sem.run_pure, Result.andThen_ok, k2]
theorem results_run {fn : Func} {tm : Array Value} {w : World} {vals : List Value} (h : (fn.results.toList.mapM (resOne tm)).run P w = .ok vals w) : (results fn tm).run P w = .ok (retVal vals) w := by
  rw [results_eq, Array.mapM_eq_mapM_toList]
  simp only [Sem.run_bind, map_eq_pure_bind, h, Result.andThen_ok, Sem.run_pure]
  congr 1
  match vals with
  | [] => rfl
  | [v] => rfl
  | v :: u :: r => simp [retVal]
theorem VRs.cons0 {c : Ctx} {w : World} {v : V} {x : Value} {r : List V} {q : List Value} (h : VR c w v x) (hr : VRs c w r q) : VRs c w (v :: r) (x :: q) := by simp only [VRs]; exact ⟨x, q, rfl, h, hr⟩
theorem BoxAt.box0 {c : Ctx} {w : World} {h : Hp} {d : Nat} {ds : List Nat} {l : List Sh} {ls : List Inout} {vals : List Value} (h1 : (∃ x, hget h d = some (.box x)) ∧ ∃ (g : Nat) (cs : Array Value) (e : Nat), c.ρ d = .pointer (some ⟨g, 0, none⟩) ∧ w.heap[g]? = some (.cells cs e (0, 0)) ∧ cs.toList = vals.take l.length) (h2 : BoxAt c w h ds ls (vals.drop l.length)) : BoxAt c w h (d :: ds) (.box l :: ls) vals := by
  cases vals <;> exact ⟨h1, h2⟩
theorem boxV_ok {s : St} : ∀ {ds : List Nat} {ls : List Inout} {K : List V → Option α} {r : α}, boxV (hget s.heap) ds ls K = some r → ∃ ws, K ws = some r ∧ ws.length = (flatL ls).length ∧
    ∀ {c : Ctx} {w : World}, (∀ b x, hget s.heap b = some x → BR c w b x) → (∀ b x, hget s.heap b = some x → c.M b) → ∃ vals, VRs c w ws vals ∧ BoxAt c w s.heap ds ls vals
  | [], [], K, r, he => ⟨[], he, rfl, fun _ _ => ⟨[], by simp [VRs], trivial⟩⟩
  | d :: ds, .row e t :: ls, K, r, he => by
    unfold boxV at he
    split at he
    case h_2 => cases he
    rename_i e' t' xs hd
    obtain ⟨ws, h1, h2, h3⟩ := boxV_ok he
    refine ⟨_, h1, by simp [flatL, h2], fun {c w} hb hM => ?_⟩
    obtain ⟨vals, k1, k2⟩ := h3 hb hM
    obtain ⟨inner, hf, ho⟩ := hb d _ hd
    refine ⟨c.ρ d :: vals, VRs.cons0 ?_ k1, ⟨⟨e', t', xs, hd⟩, rfl⟩, k2⟩
    simp only [VR]
    exact ⟨hM d _ hd, trivial, own_form ho⟩
  | d :: ds, .box l :: ls, K, r, he => by
    unfold boxV at he
    split at he
    case h_2 => cases he
    rename_i vs hd
    split at he
    case h_2 => cases he
    rename_i hl
    have hl' := Nat.eq_of_beq_eq_true hl
    obtain ⟨ws, h1, h2, h3⟩ := boxV_ok he
    refine ⟨_, h1, by simp [flatL, hl', h2], fun {c w} hb hM => ?_⟩
    obtain ⟨vals, k1, k2⟩ := h3 hb hM
    obtain ⟨g, cs, e, m1, m2, m3⟩ := hb d _ hd
    have hlen := m3.len
    refine ⟨cs.toList ++ vals, m3.append k1, BoxAt.box0 ⟨⟨vs, hd⟩, g, cs, e, m1, m2, ?_⟩ ?_⟩
    · rw [List.take_left' (by omega)]
    · rw [List.drop_left' (by omega)]; exact k2
theorem passL_len {h : Nat → Option Blk} : ∀ {shs : List Sh} {vs : List V} {α : Type} {K : Pk → Option α} {r : α}, passL h shs vs K = some r → shs.length = vs.length
  | [], vs, _, K, r, he => by
    unfold passL at he
    split at he
    · rfl
    · cases he
  | s :: q, vs, _, K, r, he => by
    unfold passL at he
    split at he
    · rename_i v vq
      obtain ⟨p, h1, _⟩ := pass_ok he
      rw [List.length_cons, List.length_cons, passL_len h1]
    · cases he
mutual
theorem bxId_M {c : Ctx} {w : World} : ∀ {sh : Sh} {v : V} {val : Value}, VR c w v val → ∀ d ∈ bxId v sh, c.M d
  | .bx l, v, val, hv, d, hd => by
    cases v with
    | ptr b off =>
      simp only [bxId, List.mem_singleton] at hd
      subst hd
      simp only [VR] at hv
      exact hv.1
    | _ => simp [bxId] at hd
  | .ag l, v, val, hv, d, hd => by
    cases v with
    | agg vs =>
      simp only [bxId] at hd
      simp only [VR] at hv
      obtain ⟨cs, _, hv⟩ := hv
      exact bxIds_M hv d hd
    | _ => simp [bxId] at hd
  | .fv f a k, v, val, hv, d, hd => by
    cases v with
    | fn f' a' k' =>
      simp only [bxId, List.mem_append] at hd
      simp only [VR] at hv
      obtain ⟨av, kv, _, h1, h2⟩ := hv
      exact hd.elim (bxIds_M h1 d) (bxIds_M h2 d)
    | _ => simp [bxId] at hd
  | .io e t, v, val, hv, d, hd => by
    cases v with
    | ref b =>
      simp only [bxId, List.mem_singleton] at hd
      subst hd
      simp only [VR] at hv
      exact hv.1
    | _ => simp [bxId] at hd
  | .d t o, v, val, hv, d, hd => by cases v <;> simp [bxId] at hd
  | .rb l, v, val, hv, d, hd => by cases v <;> simp [bxId] at hd
  | .nl, v, val, hv, d, hd => by cases v <;> simp [bxId] at hd
theorem bxIds_M {c : Ctx} {w : World} : ∀ {shs : List Sh} {vs : List V} {vals : List Value}, VRs c w vs vals → ∀ d ∈ bxIds vs shs, c.M d
  | [], vs, _, _, d, hd => by cases vs <;> simp [bxIds] at hd
  | s :: q, [], _, _, d, hd => by simp [bxIds] at hd
  | s :: q, v :: vq, vals, hv, d, hd => by
    simp only [bxIds, List.mem_append] at hd
    simp only [VRs] at hv
    obtain ⟨x, xs, _, h1, h2⟩ := hv
    exact hd.elim (bxId_M h1 d) (bxIds_M h2 d)
end
theorem get_number {β : Type} : ∀ (vs : List β) (i t : Nat), get (number i vs) t = if i ≤ t then vs[t - i]? else none
  | [], i, t => by simp [number, get]
  | v :: r, i, t => by
    rw [number, get_cons, get_number r]
    by_cases h : i = t
    · subst h; simp
    · rw [if_neg h]
      by_cases h2 : i ≤ t
      · rw [if_pos h2, if_pos (by omega), show t - i = (t - (i + 1)) + 1 by omega, List.getElem?_cons_succ]
      · rw [if_neg h2, if_neg (by omega)]
/-! ### Functions -/
def FnText.ok (F : FnText) : Bool := nodup F.code.heads && (Nat.ble (inVL F.ps [] 0).next 1000 && Nat.ble (inVL F.ps [] 0).vs.length F.nt)
theorem enters_fn {f : FuncId} {fn : Func} (hf : P.funcs[f]? = some fn) (hname : (fn.name == "runtime.NumGoroutine") = false) (hb : fn.body.isSome = true) (args : Array Value) (w : World) : (callFunc f args).run P w = .ok (.enter f args) w := by
  have h1 : fn.name ≠ "runtime.NumGoroutine" := by simpa using hname
  obtain ⟨c, hc⟩ := Option.isSome_iff_exists.1 hb
  simp [callFunc, hf, h1, hc]
theorem inVL_len : ∀ (sh : List Sh) (l : List Leaf) (n : Nat), (inVL sh l n).vs.length = sh.length
  | [], l, n => rfl
  | s :: r, l, n => by simp [inVL, inVL_len r]
theorem fn_ok {F : FnText} {tbl : Nat → Tbl} {f : FuncId} {fn : Func} {c0 : Code} (hm : P.follows .mixedOrders = true) (hτ : TOk P τ) (hf : P.funcs[f]? = some fn) (hname : (fn.name == "runtime.NumGoroutine") = false) (hb : fn.body = some c0) (hc : F.code.code = c0)
    (hres : fn.results.toList = F.res) (hnt : fn.ntmps = F.nt) (hok : F.ok = true) (k : Nat) (hT : ∀ j, j ≤ k → TblOk P (tbl j)) : Sound P f ⟨F.ps, F.rs, F.ev τ tbl k⟩ := by
  refine ⟨fun args w => enters_fn hf hname (by rw [hb]; rfl) args w, fun x r hx F0 c w vals hw0 hS hM H hv => ?_⟩
  subst hw0
  simp only [FnText.ok, Bool.and_eq_true] at hok
  obtain ⟨ok1, ok2, ok3⟩ := hok
  have ok2' := Nat.le_of_ble_eq_true ok2
  have ok3' := Nat.le_of_ble_eq_true ok3
  dsimp only at hx hM H hv ⊢
  have hsh := inVL_next F.ps (ofRT (tysL F.ps) x) [] 0
  let F1 : Fr := { F0 with bx := F.bx, ρ0 := c.ρ }
  have H1 : HR F1 c F0.w0 (inVL F.ps (ofRT _ x) 0).heap := ⟨H.blk, H.own, H.apart, ⟨H.keeps.os, H.keeps.tape, H.keeps.output, H.keeps.size, H.keeps.heap⟩, H.stays, H.grew⟩
  have hlen := hv.len
  rw [inVL_len] at hlen ok3'
  refine calls_of_wp hf hb ?_
  rw [← hc]
  have hfin : ∀ s, F.fin τ s = some r → ∀ c' a w', SR F1 c' F.nt (fun b => b < s.next) s.env s.heap a w' →
      a.defers = [] ∧ ∃ v, (results fn a.tmps).run P w' = .ok v w' ∧ ∃ u, Ending.returned v = .returned u ∧ Post F0 c F0.w0 F.rs (bxsL F.ps) (bxIds (inVL F.ps [] 0).vs F.ps) (ofRT _ r) u w' := fun s he c' a w' H' => by
    unfold FnText.fin finK at he
    obtain ⟨vs, h1, h2⟩ := resV_ok hτ he
    obtain ⟨ws, i1, i2, i3⟩ := boxV_ok h1
    have hl := passL_len i1
    obtain ⟨p, j1, j2, j3, j4⟩ := passL_ok i1
    have hblk : ∀ b x, hget s.heap b = some x → BR c' w' b x := fun b x hb => (H'.hr.blk b x hb).2
    obtain ⟨vals1, m1, m2⟩ := h2 hblk H'.env
    obtain ⟨vals2, n1, n2⟩ := i3 hblk (fun b x hb => (H'.hr.blk b x hb).1)
    split at j1
    case h_2 => cases j1
    rename_i q1 q2 q3 q4
    obtain ⟨y, y1, y2, y3⟩ := toRT_ok j1
    cases y1
    have hvl : vals1.length = F.rs.length := by
      rw [List.length_append, List.length_append, i2] at hl
      rw [m1.len]; omega
    refine ⟨H'.defers, retVal vals1, results_run (by rw [hres]; exact m2), retVal vals1, rfl, c', s.heap, vs ++ ws, vals1 ++ vals2, p, ⟨fun k hk => ?_, fun d hd => ?_⟩, ?_, m1.append n1, j2 some, y2.symm, nodup_ok q1, q2, q3, any_not q4, ?_, ?_⟩
    · rw [hS] at hk
      exact ⟨H'.base.S k hk, H'.base.heap k hk⟩
    · exact (H'.base.bx d hd).2
    · exact ⟨H'.hr.blk, H'.hr.own, H'.hr.apart, ⟨H'.hr.keeps.os, H'.hr.keeps.tape, H'.hr.keeps.output, H'.hr.keeps.size, H'.hr.keeps.heap⟩, H'.hr.stays, H'.hr.grew⟩
    · rw [List.take_left' hvl]
    · rw [List.drop_left' hvl]; exact n2
  refine code_ok (fr := F1) hm hτ rfl F.code k (fun _ => F.fin τ) (fun _ => F.fin τ) (fun _ _ _ => none) _ hT (nodup_ok ok1) (fun _ _ _ => rfl) (fun _ _ s he c' a w' H' => hfin s he c' a w' H') (fun _ _ i s he => by cases he) (fun _ _ s he c' a w' H' => hfin s he c' a w' H') k (Nat.le_refl _) (F.st x) hx c _ _ ?_
  refine ⟨H1, fun b hb => ?_, ?_, fun t => ?_, rfl, ⟨fun k hk => by rw [hS]; exact hk, fun _ _ => rfl, fun d hd => ⟨?_, rfl⟩⟩⟩
  · show b < 1000
    have := hM b hb; omega
  · rw [Array.size_append, Array.size_replicate, List.size_toArray, hnt]; omega
  · show VR c _ (egetd (number 0 (inVL F.ps (ofRT _ x) 0).vs) t) _
    unfold egetd
    rw [get_number, if_pos (Nat.zero_le _), Nat.sub_zero]
    cases hg : (inVL F.ps (ofRT _ x) 0).vs[t]? with
    | none => simp only [VR]
    | some v =>
      obtain ⟨y, y1, y2⟩ := hv.get t v hg
      have : (vals.toArray ++ Array.replicate (fn.ntmps - vals.toArray.size) undef).getD t undef = y := by
        rw [Array.getD_eq_getD_getElem?, Array.getElem?_append_left (by
          rw [List.size_toArray]; exact (List.getElem?_eq_some_iff.1 y1).1), List.getElem?_toArray, y1]
        rfl
      rw [this]
      exact y2
  · refine bxIds_M (shs := F.ps) hv d ?_
    rw [hsh.2.2]; exact hd
end
end Go.Proofs.YtiacidpjplmgaaaDoorD
