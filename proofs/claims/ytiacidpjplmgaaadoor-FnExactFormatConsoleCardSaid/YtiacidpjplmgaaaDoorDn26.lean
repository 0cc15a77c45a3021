/- Words of this session's own: library functions by hand: slices.Clone. -/
import Derived.Test.YtiacidpjplmgaaaDoorDn25
import Derived.Lib.SliceRun
set_option linter.unusedVariables false
set_option linter.unusedSimpArgs false
namespace Go.Proofs.YtiacidpjplmgaaaDoorD
section
variable {P : Program} {τ : TT} {F : Fr} {c : Ctx} {nt n : Nat} {env : List (Nat × V)} {h : Hp} {a : Act} {w : World}
theorem Ty.beq_self : ∀ t : Ty, t.beq t = true
  | .int k => by simp [Ty.beq]
  | .bool | .str | .fn => rfl
  | .sl a => by simp only [Ty.beq]; exact Ty.beq_self a
  | .pair a b => by simp only [Ty.beq, Ty.beq_self a, Ty.beq_self b]
theorem castK_self {α : Type} (t : Ty) (x : t.D) (K : t.D → Option α) : castK t t x K = K x := by
  unfold castK
  split
  · rfl
  · rename_i h; rw [Ty.beq_self] at h; cases h
theorem step1 {tbl : Tbl} {ops : Array Oper} {Q : Exit → Act → World → Prop} {rest : List Oper} {o : Oper} {d : Nat} {ids : List Nat} {v : V} {ws : Hp} (hτ : TOk P τ) (hT : TblOk P tbl) (hg : o.guard = none) (hd : o.dst = some d) (hdn : d < nt)
    (he : opK τ tbl n (opd env) (Go.Proofs.YtiacidpjplmgaaaDoorD.hr h ids) o.op (fun v w => some (v, w)) = some (v, ws)) (H : SR F c nt (fun b => b < n) env h a w)
    (hK : ∀ c' a' w', SR F c' nt (fun b => b < n + 16) ((d, v) :: env) (ws ++ h) a' w' → wpList P ops Q rest a' w') : wpList P ops Q (o :: rest) a w := by
  obtain ⟨v', ws', k1, k2, k3⟩ := oper_ok hτ hT he
  simp only [Option.some.injEq, Prod.mk.injEq] at k1
  obtain ⟨rfl, rfl⟩ := k1
  refine wpList_plain hg fun Kn hKn => Oper.wp_mono hKn (k3 H.hr (fun b x hb => hr_sub hb) (fun b hb _ hM => ?_) H.operand (fun val w' hD => ?_))
  · have := H.M b hM; omega
  · have hdst : dstOk nt o.dst = true := by rw [hd]; simp [dstOk, Nat.blt_eq, hdn]
    obtain ⟨c', m1, m2⟩ := H.step hdst hD
    have := hK c' _ w' ((by rw [hd] at m2; exact m2 : SR F c' nt _ ((d, v') :: env) (ws' ++ h) (a.put (some d) val) w').mono (fun b hb => by omega))
    rw [hd]
    exact this
theorem clone_ok (hτ : TOk P τ) {f : FuncId} {fn : Func} (hf : P.funcs[f]? = some fn) (hname : (fn.name == "runtime.NumGoroutine") = false) {t e : Nat} {ti ei : TI} (hti : get τ t = some ti) (hdesc : ti.desc = .slice e) (hei : get τ e = some ei)
    (hnt : fn.ntmps = nt) (hnt8 : 8 ≤ nt) (hres : fn.results.toList = [.tmp 2]) {r0 r1 r2 r3 : Nat} {o0 o1 o2 o3 o4 o5 o6 o7 : Oper} {bt : Nat}
    (hb : fn.body = some (.seq (.region r0 #[o0] false) (.seq (.seq (.region r1 #[o1, o2] false) (.cond (.tmp 4) (.seq (.region r2 #[o3] false) .ret) .skip)) (.seq (.region r3 #[o4, o5, o6, o7] false) .ret))))
    (p0 : o0.dst = some 2 ∧ o0.guard = none ∧ o0.op = .assign (.const (.slice none 0 0)))
    (p1 : o1.dst = some 3 ∧ o1.guard = none ∧ o1.op = .move (.tmp 0))
    (p2 : o2.dst = some 4 ∧ o2.guard = none ∧ o2.op = .binOp .eql t (.tmp 3) (.const (.slice none 0 0)) bt)
    (p3 : o3.dst = some 2 ∧ o3.guard = none ∧ o3.op = .assign (.const (.slice none 0 0)))
    (p4 : o4.dst = some 5 ∧ o4.guard = none ∧ o4.op = .buildSlice t 0 #[])
    (p5 : o5.dst = some 6 ∧ o5.guard = none ∧ o5.op = .move (.tmp 0))
    (p6 : o6.dst = some 7 ∧ o6.guard = none ∧ o6.op = .call ⟨.builtin .append, #[.tmp 5, .tmp 6], #[t, t]⟩)
    (p7 : o7.dst = some 2 ∧ o7.guard = none ∧ o7.op = .assign (.tmp 7)) :
    Sound P f ⟨[.d (.sl ei.ty) none], [.d (.sl ei.ty) (some e)], fun (l : List ei.ty.D) => app (limOf ei.bytes) [] l⟩ := by
  refine ⟨fun args w => enters_fn hf hname (by rw [hb]; rfl) args w, fun (x : List ei.ty.D) (r : List ei.ty.D) hx F0 c w vals hw0 hS hM H hv => ?_⟩
  subst hw0
  dsimp only at hx hM H hv ⊢
  have hv0 : VRs c F0.w0 [.val (.sl ei.ty) x] vals := hv
  simp only [VRs] at hv0
  obtain ⟨v, vs0, rfl, hvx, rfl⟩ := hv0
  simp only [VR] at hvx
  have hH : HR { F0 with bx := [], ρ0 := c.ρ } c F0.w0 [] := by
    have H' : HR F0 c F0.w0 [] := H
    exact ⟨H'.blk, H'.own, H'.apart, ⟨H'.keeps.os, H'.keeps.tape, H'.keeps.output, H'.keeps.size, H'.keeps.heap⟩, H'.stays, H'.grew⟩
  have hcM : ∀ b, c.M b → b < 1000 := fun b hb => by have := hM b hb; simp [inVL, Sh.inV, inD] at this
  obtain ⟨F1, hF1⟩ : ∃ F1 : Fr, F1 = { F0 with bx := [], ρ0 := c.ρ } := ⟨_, rfl⟩
  rw [← hF1] at hH
  have hT : TblOk P [] := .nil P
  refine calls_of_wp hf hb ?_
  have S0 : SR F1 c nt (fun b => b < 1000) [(0, .val (.sl ei.ty) x)] [] { tmps := [v].toArray ++ Array.replicate (fn.ntmps - [v].toArray.size) undef, defers := [] } F0.w0 := by
    refine ⟨hH, hcM, by simp; omega, fun d => ?_, rfl, ⟨fun k hk => by rw [hF1] at hk; rw [hS]; exact hk, fun k hk => by rw [hF1], fun d hd => by rw [hF1] at hd; cases hd⟩⟩
    rw [egetd_cons]
    split
    · rename_i h0; subst h0
      simp only [VR]
      have : ([v].toArray ++ Array.replicate (fn.ntmps - [v].toArray.size) undef).getD 0 undef = v := by
        rw [Array.getD_eq_getD_getElem?, Array.getElem?_append_left (by simp)]; rfl
      rw [this]; exact hvx
    · unfold egetd get; simp only [VR]
  -- how it ends
  have hpost : ∀ (zs : V) (hz : Hp) (N : Nat → Prop) (env' : List (Nat × V)) (c' : Ctx) (a' : Act) (w' : World), SR F1 c' nt N ((2, zs) :: env') hz a' w' → passL (hget hz) [.d (.sl ei.ty) (some e)] [zs] some = some ⟨[⟨.sl ei.ty, r⟩], (match zs with | .ref b => [b] | _ => []), [], [], []⟩ →
      bodyPost P fn (fun e1 w' => ∃ v, e1 = .returned v ∧ Post F0 c F0.w0 [.d (.sl ei.ty) (some e)] (bxsL [.d (.sl ei.ty) none]) (bxIds (inVL [.d (.sl ei.ty) none] [] 0).vs [.d (.sl ei.ty) none]) (ofRT (tysL ([.d (.sl ei.ty) (some e)] ++ flatL (bxsL [.d (.sl ei.ty) none]))) r) v w') .ret a' w' := fun zs hz N env' c' a' w' S hp => by
    have h2 := S.env 2
    rw [egetd_cons, if_pos rfl] at h2
    refine ⟨S.defers, retVal [a'.tmps.getD 2 undef], results_run (by rw [hres]; simp only [List.mapM_cons, List.mapM_nil, Sem.run_bind, resOne, Sem.run_pure, Result.andThen_ok]), _, rfl, c', hz, [zs], [a'.tmps.getD 2 undef], _, ⟨fun k hk => ?_, fun d hd => ?_⟩, ?_, VRs.one h2, hp, rfl, ?_, rfl, rfl, (by intro b _ h; cases h), rfl, ?_⟩
    · rw [hS] at hk
      exact ⟨S.base.S k (by rw [hF1]; exact hk), (S.base.heap k (by rw [hF1]; exact hk)).trans (by rw [hF1])⟩
    · simp [inVL, Sh.inV, inD, bxIds, bxId] at hd
    · have H' := S.hr
      rw [hF1] at H'
      exact ⟨H'.blk, H'.own, H'.apart, ⟨H'.keeps.os, H'.keeps.tape, H'.keeps.output, H'.keeps.size, H'.keeps.heap⟩, H'.stays, H'.grew⟩
    · cases zs <;> simp
    · simp [inVL, Sh.inV, inD, bxIds, bxId, bxsL, Sh.bxs, BoxAt]
  refine wp_seq (wp_region_list (step1 hτ hT p0.2.1 p0.1 (by omega) (ids := []) (v := .nil) (ws := []) (by rw [p0.2.2]; rfl) S0 (fun c1 a1 w1 S1 => wpList_nil ?_)))
  refine wp_seq (wp_seq (wp_region_list (step1 hτ hT p1.2.1 p1.1 (by omega) (ids := []) (v := .val (.sl ei.ty) x) (ws := []) (by rw [p1.2.2]; rfl) S1 (fun c2 a2 w2 S2 => ?_))))
  have e3 := S2.env 3
  rw [egetd_cons, if_pos rfl] at e3
  simp only [VR] at e3
  obtain ⟨A, cap, inner, hsl, ⟨hcap, hA⟩, hfl, _⟩ := e3
  simp only [List.cons.injEq, and_true] at hsl
  have hu := (hτ t ti hti).und
  rw [hdesc] at hu
  have hrun : (execOp a2.eval o2).run P w2 = .ok (.value (.bool A.isNone)) w2 := by
    unfold execOp
    rw [p2.2.2]
    have he3 : a2.eval (.tmp 3) = .slice A x.length cap := hsl
    have he4 : a2.eval (.const (.slice none 0 0)) = .slice none 0 0 := rfl
    simp only [he3, he4]
    simp only [Sem.run_bind, eqGuard, Bool.not_eq_true', Sem.run_pure, Result.andThen_ok]
    simp
    rw [Lib.run_eql_slice_nil w2 t e A x.length cap 0 0 hu]; rfl
  refine wpList_plain p2.2.1 fun Kn hKn => Oper.wp_mono hKn ?_
  unfold Oper.wp
  rw [hrun, Oper.upon_value, p2.1]
  have S3 : SR F1 c2 nt (fun b => b < 1000 + 16 + 16) ((4, .val .bool A.isNone) :: (3, .val (.sl ei.ty) x) :: (2, .nil) :: [(0, .val (.sl ei.ty) x)]) [] (a2.put (some 4) (.bool A.isNone)) w2 := by
    obtain ⟨k1, k2, k3⟩ := put_env (d := some 4) (v := .val .bool A.isNone) (val := .bool A.isNone) S2.size (by simp [dstOk, Nat.blt_eq]; omega) S2.env (by simp only [VR]; rfl)
    exact ⟨S2.hr, S2.M, k1, k2, k3.trans S2.defers, S2.base⟩
  have e4 : (a2.put (some 4) (.bool A.isNone)).eval (.tmp 4) = .bool A.isNone := by
    have := S3.env 4
    rw [egetd_cons, if_pos rfl] at this
    simp only [VR, Rd, List.cons.injEq, and_true] at this
    exact this
  refine wpList_nil (wp_cond_split e4 (fun hn => ?_) (fun hn => ?_))
  · -- nil
    have hA0 : A = none := by simpa using hn
    have hx0 : x = [] := by
      have := hA hA0
      exact List.length_eq_zero_iff.1 (by omega)
    subst hx0
    have hr : r = [] := by
      have h0 : app (limOf ei.bytes) ([] : List ei.ty.D) [] = some r := hx
      unfold app at h0
      split at h0
      · exact (Option.some.inj h0).symm
      · cases h0
    refine wp_seq (wp_region_list (step1 hτ hT p3.2.1 p3.1 (by omega) (ids := []) (v := .nil) (ws := []) (by rw [p3.2.2]; rfl) S3 (fun c4 a4 w4 S4 => wpList_nil (wp_ret ?_))))
    subst hr
    exact hpost .nil _ _ _ c4 a4 w4 S4 rfl
  · refine wp_skip (wp_seq (wp_region_list (step1 hτ hT p4.2.1 p4.1 (by omega) (ids := []) (v := .ref (1000 + 16 + 16)) (ws := [(1000 + 16 + 16, some (.row e ei.ty []))]) ?_ S3 (fun c4 a4 w4 S4 => step1 hτ hT p5.2.1 p5.1 (by omega) (ids := []) (v := .val (.sl ei.ty) x) (ws := []) ?_ S4 (fun c5 a5 w5 S5 => step1 hτ hT p6.2.1 p6.1 (by omega) (ids := [1000 + 16 + 16]) (v := .ref (1000 + 16 + 16 + 16 + 16)) (ws := [(1000 + 16 + 16 + 16 + 16, some (.row e ei.ty r)), (1000 + 16 + 16, none)]) ?_ S5 (fun c6 a6 w6 S6 => step1 hτ hT p7.2.1 p7.1 (by omega) (ids := []) (v := .ref (1000 + 16 + 16 + 16 + 16)) (ws := []) ?_ S6 (fun c7 a7 w7 S7 => wpList_nil (wp_ret (hpost _ _ _ _ c7 a7 w7 S7 ?_)))))))))
    · rw [p4.2.2]
      unfold opK
      dsimp only
      simp only [hti, hdesc, hei, Nat.zero_mul]
      rfl
    · rw [p5.2.2]; rfl
    · rw [p6.2.2]
      unfold opK
      dsimp only
      unfold builtinK
      dsimp only
      unfold appendK
      have h0 : app (limOf ei.bytes) ([] : List ei.ty.D) x = some r := hx
      have hg5 : opd ((6, .val (.sl ei.ty) x) :: (5, .ref (1000 + 16 + 16)) :: (4, .val .bool A.isNone) :: (3, .val (.sl ei.ty) x) :: (2, .nil) :: [(0, .val (.sl ei.ty) x)]) (.tmp 5) = .ref (1000 + 16 + 16) := rfl
      have hg6 : opd ((6, .val (.sl ei.ty) x) :: (5, .ref (1000 + 16 + 16)) :: (4, .val .bool A.isNone) :: (3, .val (.sl ei.ty) x) :: (2, .nil) :: [(0, .val (.sl ei.ty) x)]) (.tmp 6) = .val (.sl ei.ty) x := rfl
      have hh : Go.Proofs.YtiacidpjplmgaaaDoorD.hr ([] ++ ([(1000 + 16 + 16, some (.row e ei.ty []))] ++ [])) [1000 + 16 + 16] (1000 + 16 + 16) = some (.row e ei.ty []) := rfl
      simp only [List.map_cons, List.map_nil, Nat.beq_refl, hti, hdesc, hei, hg5, hg6]
      unfold ownAs
      dsimp only
      rw [hh]
      simp only [Nat.beq_refl]
      rw [castK_self]
      unfold leafAs
      dsimp only
      rw [castK_self]
      simp only [List.any_nil, h0, Option.bind_some, frzW, killW]
      cases ei.ty.deep <;> rfl
    · rw [p7.2.2]; rfl
    · have hh : hget ([] ++ ([(1000 + 16 + 16 + 16 + 16, some (.row e ei.ty r)), (1000 + 16 + 16, none)] ++ ([] ++ ([(1000 + 16 + 16, some (.row e ei.ty []))] ++ [])))) (1000 + 16 + 16 + 16 + 16) = some (.row e ei.ty r) := rfl
      unfold passL Sh.pass
      dsimp only
      unfold ownAs
      dsimp only
      rw [hh]
      simp only [Nat.beq_refl]
      rw [castK_self]
      rfl
end
end Go.Proofs.YtiacidpjplmgaaaDoorD
