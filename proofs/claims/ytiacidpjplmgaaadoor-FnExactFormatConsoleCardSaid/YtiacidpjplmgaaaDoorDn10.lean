/- Words of this session's own: an operation that is no call, on the machine. -/
import Derived.Test.YtiacidpjplmgaaaDoorDn9
import Derived.Laws.Strings
import Derived.Laws.BytesArg
set_option linter.unusedVariables false
set_option linter.unusedSimpArgs false
namespace Go.Proofs.YtiacidpjplmgaaaDoorD
section
variable {P : Program} {τ : TT} {F : Fr} {c : Ctx} {w w' : World} {hp : Hp} {α : Type}
def RunsTo (P : Program) (o : Oper) (ev : Operand → Value) (w : World) (val : Value) (w' : World) : Prop :=
  (execOp ev o).run P w = .ok (.value val) w' ∨ (execOp ev o).run P w = .ok .skip w' ∧ val = undef
theorem run_v {s : Sem Value} {x : Value} (h : s.run P w = .ok x w') : ((do let y ← s; pure (Next.value y)) : Sem Next).run P w = .ok (.value x) w' := by
  simp only [Sem.run_bind, h, Result.andThen_ok, Sem.run_pure]
theorem run_u {s : Sem Unit} (h : s.run P w = .ok () w') : ((do s; pure Next.skip) : Sem Next).run P w = .ok .skip w' := by
  simp only [Sem.run_bind, h, Result.andThen_ok, Sem.run_pure]
theorem testK_ok {v : V} {K : Bool → Option α} {r : α} (he : testK v K = some r) :
    ∃ b, K b = some r ∧ (∀ {β : Type} (K' : Bool → Option β), testK v K' = K' b) ∧ ∀ {c : Ctx} {w : World} {val : Value}, VR c w v val → val = .bool b := by
  unfold testK at he
  cases v with
  | prop p d =>
    dsimp only at he
    by_cases hp : p
    · rw [if_pos hp] at he
      exact ⟨true, he, fun K' => by unfold testK; exact if_pos hp, fun hv => by simp only [VR] at hv; rw [hv]; simp [hp]⟩
    · rw [if_neg hp] at he
      exact ⟨false, he, fun K' => by unfold testK; exact if_neg hp, fun hv => by simp only [VR] at hv; rw [hv]; simp [hp]⟩
  | val t x =>
    cases t with
    | bool =>
      refine ⟨x, ?_, fun K' => ?_, fun hv => by simp only [VR, Rd] at hv; simpa using hv⟩
      · cases x <;> exact he
      · cases x <;> rfl
    | _ => cases he
  | _ => cases he

/-! ### Numbers, strings, truth values -/
theorem VR.int {k : IntKind} {n : Int} : VR c w (.val (.int k) n) (.int k n) := by simp only [VR]; rfl
theorem VR.bool {b : Bool} : VR c w (.val .bool b) (.bool b) := by simp only [VR]; rfl
theorem VR.str {s : ByteArray} : VR c w (.val .str s) (.string s) := by simp only [VR]; rfl
theorem VR.prop {p : Prop} {d : Decidable p} {b : Bool} (h : b = @decide p d) : VR c w (.prop p d) (.bool b) := by simp only [VR]; rw [h]
theorem bool_of {b : Bool} {val : Value} (h : VR c w (.val .bool b) val) : val = .bool b := by simp only [VR, Rd] at h; simpa using h
theorem str_of {s : ByteArray} {val : Value} (h : VR c w (.val .str s) val) : val = .string s := by simp only [VR, Rd] at h; simpa using h
theorem toList_dec (a b : ByteArray) : (a.toList == b.toList) = decide (a = b) := by
  by_cases h : a = b
  · subst h; simp
  · rw [decide_eq_false h, beq_eq_false_iff_ne]
    intro e
    rw [ByteArray.toList_eq, ByteArray.toList_eq] at e
    exact h (ByteArray.ext (Array.toList_inj.1 e))
theorem intBin_ok {op : BinOp} {k : IntKind} {x y : Int} {K : V → Option α} {r : α} (hs : isShift op = false) (he : intBin op k x y K = some r) :
    ∃ v, K v = some r ∧ (∀ {β : Type} (K' : V → Option β), intBin op k x y K' = K' v) ∧ ∀ {P : Program} {c : Ctx} {w : World} {t : TypeId}, ∃ val, (binOp op t (.int k x) (.int k y)).run P w = .ok val w ∧ VR c w v val := by
  unfold intBin at he
  cases op <;> try (cases he; done)
  case add => exact ⟨_, he, fun _ => rfl, ⟨_, by simp [binOp, Op.intArith], VR.int⟩⟩
  case sub => exact ⟨_, he, fun _ => rfl, ⟨_, by simp [binOp, Op.intArith], VR.int⟩⟩
  case mul => exact ⟨_, he, fun _ => rfl, ⟨_, by simp [binOp, Op.intArith], VR.int⟩⟩
  case and => exact ⟨_, he, fun _ => rfl, ⟨_, by simp [binOp, Op.intBits, band] <;> rfl, VR.int⟩⟩
  case or => exact ⟨_, he, fun _ => rfl, ⟨_, by simp [binOp, Op.intBits, bor] <;> rfl, VR.int⟩⟩
  case xor => exact ⟨_, he, fun _ => rfl, ⟨_, by simp [binOp, Op.intBits, bxor] <;> rfl, VR.int⟩⟩
  case andNot => exact ⟨_, he, fun _ => rfl, ⟨_, by simp [binOp, Op.intBits, bandnot] <;> rfl, VR.int⟩⟩
  case quo =>
    obtain ⟨z, hz, hK⟩ := Option.bind_eq_some_iff.1 he
    refine ⟨_, hK, fun K' => by unfold intBin; simp only [hz, Option.bind_some], ⟨_, ?_, VR.int⟩⟩
    unfold quo at hz
    split at hz
    · cases hz
    · rename_i h; cases hz; simp [binOp, Op.intDiv, h]
  case rem =>
    obtain ⟨z, hz, hK⟩ := Option.bind_eq_some_iff.1 he
    refine ⟨_, hK, fun K' => by unfold intBin; simp only [hz, Option.bind_some], ⟨_, ?_, VR.int⟩⟩
    unfold rem at hz
    split at hz
    · cases hz
    · rename_i h; cases hz; simp [binOp, Op.intDiv, h]
  case eql => exact ⟨_, he, fun _ => rfl, ⟨_, by simp [binOp, Op.intCmp]; rfl, VR.prop (by by_cases h : x = y <;> simp [h])⟩⟩
  case neq => exact ⟨_, he, fun _ => rfl, ⟨_, by simp [binOp, Op.intCmp]; rfl, VR.prop (by by_cases h : x = y <;> simp [h])⟩⟩
  case lss => exact ⟨_, he, fun _ => rfl, ⟨_, by simp [binOp, Op.intCmp]; rfl, VR.prop (by simp)⟩⟩
  case leq => exact ⟨_, he, fun _ => rfl, ⟨_, by simp [binOp, Op.intCmp]; rfl, VR.prop (by simp)⟩⟩
  case gtr => exact ⟨_, he, fun _ => rfl, ⟨_, by simp [binOp, Op.intCmp]; rfl, VR.prop (by simp)⟩⟩
  case geq => exact ⟨_, he, fun _ => rfl, ⟨_, by simp [binOp, Op.intCmp]; rfl, VR.prop (by simp)⟩⟩

theorem strBin_ok {op : BinOp} {x y : ByteArray} {K : V → Option α} {r : α} (he : strBin op x y K = some r) :
    ∃ v, K v = some r ∧ (∀ {β : Type} (K' : V → Option β), strBin op x y K' = K' v) ∧ ∀ {P : Program} {c : Ctx} {w : World} {t : TypeId}, ∃ val, (binOp op t (.string x) (.string y)).run P w = .ok val w ∧ VR c w v val := by
  unfold strBin at he
  cases op <;> try (cases he; done)
  case add =>
    obtain ⟨z, hz, hK⟩ := Option.bind_eq_some_iff.1 he
    refine ⟨_, hK, fun K' => by unfold strBin; simp only [hz, Option.bind_some], ⟨_, ?_, VR.str⟩⟩
    unfold catS at hz
    split at hz
    · rename_i h
      cases hz
      have : ¬ (((x.size + y.size : Nat) : Int) > IntKind.i64.max) := by
        have : IntKind.i64.max = 9223372036854775807 := by decide
        rw [this]; omega
      simp only [binOp, Op.stringOp, if_neg this, Sem.run_pure]
    · cases hz
  case eql => exact ⟨_, he, fun _ => rfl, ⟨_, by simp only [binOp, Op.stringOp, Sem.run_pure] <;> rfl, VR.prop (toList_dec x y)⟩⟩
  case neq => exact ⟨_, he, fun _ => rfl, ⟨_, by simp only [binOp, Op.stringOp, Sem.run_pure] <;> rfl, VR.prop (by rw [toList_dec]; by_cases h : x = y <;> simp [h])⟩⟩
  case lss => exact ⟨_, he, fun _ => rfl, ⟨_, by simp only [binOp, Op.stringOp, Sem.run_pure] <;> rfl, VR.prop (by simp)⟩⟩
theorem equal_bool {t : TypeId} (ht : P.underlying t = some .bool) (a b : Bool) : (Op.equal t (.bool a) (.bool b)).run P w = .ok (a == b) w := by
  show (Op.equalIn (9999 + 1) t (.bool a) (.bool b)).run P w = _
  unfold Op.equalIn
  simp only [Sem.run_bind, run_underlying ht, Result.andThen_ok, Sem.run_pure]
theorem isBool_ok {t : Nat} (hτ : TOk P τ) (h : isBool τ t = true) : P.underlying t = some .bool := by
  unfold isBool at h
  split at h
  · rename_i i hi
    split at h
    · rename_i hd; rw [(hτ t i hi).und, hd]
    · cases h
  · cases h
theorem boolBin_ok {op : BinOp} {x y : Bool} {K : V → Option α} {r : α} (he : boolBin op x y K = some r) :
    ∃ v, K v = some r ∧ (∀ {β : Type} (K' : V → Option β), boolBin op x y K' = K' v) ∧ ∀ {P : Program} {c : Ctx} {w : World} {t : TypeId}, P.underlying t = some .bool → ∃ val, (binOp op t (.bool x) (.bool y)).run P w = .ok val w ∧ VR c w v val := by
  unfold boolBin at he
  cases op <;> try (cases he; done)
  case eql => exact ⟨_, he, fun _ => rfl, fun ht => ⟨_, by simp only [binOp, Sem.run_bind, equal_bool ht, Result.andThen_ok, Sem.run_pure] <;> rfl, VR.prop (by cases x <;> cases y <;> rfl)⟩⟩
  case neq => exact ⟨_, he, fun _ => rfl, fun ht => ⟨_, by simp only [binOp, Sem.run_bind, equal_bool ht, Result.andThen_ok, Sem.run_pure] <;> rfl, VR.prop (by cases x <;> cases y <;> rfl)⟩⟩
theorem shiftK_ok {op : BinOp} {k k' : IntKind} {x y : Int} {K : V → Option α} {r : α} (he : shiftK op k x y K = some r) :
    ∃ v, K v = some r ∧ (∀ {β : Type} (K' : V → Option β), shiftK op k x y K' = K' v) ∧ ∀ {P : Program} {c : Ctx} {w : World} {t : TypeId}, ∃ val, (binOp op t (.int k x) (.int k' y)).run P w = .ok val w ∧ VR c w v val := by
  unfold shiftK at he
  cases op <;> try (cases he; done)
  case shl =>
    dsimp only at he
    obtain ⟨z, hz, hK⟩ := Option.bind_eq_some_iff.1 he
    refine ⟨_, hK, fun K' => by unfold shiftK; simp only [hz, Option.bind_some], ?_⟩
    unfold Go.Proofs.YtiacidpjplmgaaaDoorD.shl at hz
    by_cases h : y < 0
    · rw [if_pos h] at hz; cases hz
    · rw [if_neg h] at hz
      cases hz
      exact ⟨_, by simp only [binOp, Op.shift, if_neg h, Sem.run_pure], VR.int⟩
  case shr =>
    dsimp only at he
    obtain ⟨z, hz, hK⟩ := Option.bind_eq_some_iff.1 he
    refine ⟨_, hK, fun K' => by unfold shiftK; simp only [hz, Option.bind_some], ?_⟩
    unfold Go.Proofs.YtiacidpjplmgaaaDoorD.shr at hz
    by_cases h : y < 0
    · rw [if_pos h] at hz; cases hz
    · rw [if_neg h] at hz
      cases hz
      exact ⟨_, by simp only [binOp, Op.shift, if_neg h, Sem.run_pure], VR.int⟩
/-- Values that 'eqGuard' lets pass. -/
def plainV : Value → Bool
  | .int _ _ | .bool _ | .string _ => true
  | _ => false
theorem eqGuard_run {op : BinOp} {t : TypeId} {x y : Operand} {a b : Value} (ha : plainV a = true) : (eqGuard op t x y a b).run P w = .ok () w := by
  unfold eqGuard
  cases op <;> cases a <;> first | (cases ha; done) | (simp; done) | (cases b <;> simp)
theorem eqParts_ok {d0 : Nat} (hτ : TOk P τ) : ∀ (fs : List Field) (n : Nat) (l m : List V) {α : Type} {K : V → Option α} {r : α}, eqFields τ fs n l = true → (∀ f ∈ fs, (f.name != "_") = true) → eqParts l m K = some r → l.length = fs.length →
    ∃ p d, K (.prop p d) = some r ∧ (∀ {β : Type} (K' : V → Option β), eqParts l m K' = K' (.prop p d)) ∧ ∀ {c : Ctx} {w : World} (xs ys : Array Value), VRs c w l (xs.toList.drop n) → VRs c w m (ys.toList.drop n) → (Op.eqFields (d0 + 1) xs ys fs).run P w = .ok (@decide p d) w
  | [], n, l, m, α, K, r, hf, hn, he, hl => by
    have : l = [] := List.eq_nil_of_length_eq_zero hl
    subst this
    unfold eqParts at he
    split at he
    · exact ⟨_, _, he, fun K' => rfl, fun xs ys _ _ => by simp [Op.eqFields]⟩
    · cases he
  | f :: fs, n, l, m, α, K, r, hf, hn, he, hl => by
    cases l with
    | nil => cases hl
    | cons x l =>
      unfold eqParts at he
      split at he
      · cases he
      rename_i y m'
      unfold eqFields at hf
      split at hf
      case h_2 => cases hf
      rename_i x0 l0 i ho hi hl0
      simp only [List.cons.injEq] at hl0
      obtain ⟨rfl, rfl⟩ := hl0
      have key : ∀ (xs ys : Array Value) (xv yv : Value) (xq yq : List Value), xs.toList.drop n = xv :: xq → ys.toList.drop n = yv :: yq → ∀ (p : Prop) (d : Decidable p) (q : Prop) (dq : Decidable q) (w : World), (∀ w, (Op.equalIn (d0 + 1) f.type xv yv).run P w = .ok (@decide q dq) w) → (∀ w, (isAgg f.type).run P w = .ok false w) → (Op.eqFields (d0 + 1) xs ys fs).run P w = .ok (@decide p d) w → (Op.eqFields (d0 + 1) xs ys (f :: fs)).run P w = .ok (@decide (q ∧ p) (@instDecidableAnd q p dq d)) w := by
        intro xs ys xv yv xq yq hx1 hy1 p d q dq w heq hag hrest
        have ho' := Nat.eq_of_beq_eq_true ho
        have hxg : xs[n]? = some xv := by
          have := congrArg (fun l : List Value => l[0]?) hx1
          simpa using this
        have hyg : ys[n]? = some yv := by
          have := congrArg (fun l : List Value => l[0]?) hy1
          simpa using this
        have hname : f.name ≠ "_" := by simpa using hn f List.mem_cons_self
        unfold Op.eqFields
        rw [if_pos hname]
        simp only [part, Sem.run_bind, hag, Result.andThen_ok, Bool.false_eq_true, if_false, ho', hxg, hyg, Sem.run_pure, heq]
        by_cases hab : q
        · simp only [hab, decide_true, Bool.not_true, Bool.false_eq_true, if_false, hrest]
          congr 1
          by_cases hp : p
          · simp [hp]
          · simp [hp]
        · simp only [hab, decide_false, Bool.not_false, if_true, Sem.run_pure]
          congr 1
      split at he
      · rename_i k a k' b
        split at he
        case h_2 => cases he
        rename_i hk
        cases ikc_inj hk
        split at hf
        case h_2 => rename_i h0; cases h0
        case h_3 => cases hf
        rename_i kk hd hv0
        obtain ⟨p, d, h1, h2, h3⟩ := eqParts_ok (d0 := d0) hτ fs (n + 1) l m' hf (fun g hg => hn g (List.mem_cons_of_mem _ hg)) he (by simpa using hl)
        refine ⟨_, _, h1, fun K' => by unfold eqParts; simp only [hk]; rw [h2], fun {c w} xs ys hx hy => ?_⟩
        simp only [VRs] at hx hy
        obtain ⟨xv, xq, hx1, hx2, hx3⟩ := hx
        obtain ⟨yv, yq, hy1, hy2, hy3⟩ := hy
        have hxv := int_of hx2
        have hyv := int_of hy2
        have hxd : xs.toList.drop (n + 1) = xq := by rw [← List.drop_drop (i := 1) (j := n), hx1]; rfl
        have hyd : ys.toList.drop (n + 1) = yq := by rw [← List.drop_drop (i := 1) (j := n), hy1]; rfl
        have hu := (hτ _ _ hi).und
        rw [hd] at hu
        have hag : ∀ w, (isAgg f.type).run P w = .ok false w := fun w => by
          have := isAgg_run (P := P) (w := w) (hτ _ _ hi).und
          rw [this]; unfold TI.agg; rw [hd]
        subst hxv; subst hyv
        exact key xs ys _ _ xq yq hx1 hy1 p d _ _ w (fun w => by rw [run_equalIn_int _ _ _ _ _ _ _ hu]; by_cases hab : a = b <;> simp [hab]) hag (h3 xs ys (by rw [hxd]; exact hx3) (by rw [hyd]; exact hy3))
      · rename_i a b
        split at hf
        case h_1 => rename_i h0; cases h0
        case h_3 => cases hf
        rename_i hd hv0
        obtain ⟨p, d, h1, h2, h3⟩ := eqParts_ok (d0 := d0) hτ fs (n + 1) l m' hf (fun g hg => hn g (List.mem_cons_of_mem _ hg)) he (by simpa using hl)
        refine ⟨_, _, h1, fun K' => by unfold eqParts; dsimp only; rw [h2], fun {c w} xs ys hx hy => ?_⟩
        simp only [VRs] at hx hy
        obtain ⟨xv, xq, hx1, hx2, hx3⟩ := hx
        obtain ⟨yv, yq, hy1, hy2, hy3⟩ := hy
        have hxv := str_of hx2
        have hyv := str_of hy2
        have hxd : xs.toList.drop (n + 1) = xq := by rw [← List.drop_drop (i := 1) (j := n), hx1]; rfl
        have hyd : ys.toList.drop (n + 1) = yq := by rw [← List.drop_drop (i := 1) (j := n), hy1]; rfl
        have hu := (hτ _ _ hi).und
        rw [hd] at hu
        have hag : ∀ w, (isAgg f.type).run P w = .ok false w := fun w => by
          have := isAgg_run (P := P) (w := w) (hτ _ _ hi).und
          rw [this]; unfold TI.agg; rw [hd]
        subst hxv; subst hyv
        exact key xs ys _ _ xq yq hx1 hy1 p d _ _ w (fun w => by rw [run_equalIn_string _ _ _ _ _ hu, toList_dec]) hag (h3 xs ys (by rw [hxd]; exact hx3) (by rw [hyd]; exact hy3))
      · cases he
theorem sizeOf_run {t : Nat} {i : TI} (h : TOk1 P t i) : (sizeOf t).run P w = .ok i.size w := by
  obtain ⟨I, z, h1, h2, _⟩ := h.info
  simp only [sizeOf, typeInfo, Sem.run_bind, program, Sem.run, h1, Sem.run_pure, Result.andThen_ok, h2]
theorem run_equalIn_arr {P : Program} (w : World) (d t len e n : Nat) (xs ys : Array Value) (hu : P.underlying t = some (.array len e)) (hs : ∀ w, (sizeOf e).run P w = .ok n w) :
    (Op.equalIn (d + 1) t (.agg xs) (.agg ys)).run P w = (Op.eqFields d xs ys (arrFs e n len 0)).run P w := by
  simp only [Op.equalIn, Sem.run_bind, run_underlying hu, Result.andThen_ok, hs]
  rw [Std.Legacy.Range.forIn_eq_forIn_range']
  simp only [Std.Legacy.Range.size, Nat.sub_zero, Nat.add_sub_cancel, Nat.div_one]
  have gen : ∀ (F : Option Bool × PUnit → Sem Bool) (h1 : F (none, ⟨⟩) = pure true) (h2 : F (some false, ⟨⟩) = pure false) (m s : Nat) (w : World), ((Sem.run P (forIn (List.range' s m) ((none, ⟨⟩) : Option Bool × PUnit) fun i _ => do
            let a ← part e xs (i * n)
            let b ← part e ys (i * n)
            let q ← Op.equalIn d e a b
            if (!q) = true then pure (ForInStep.done (some false, ⟨⟩)) else pure (ForInStep.yield (none, ⟨⟩))) w).andThen
      fun a w' => Sem.run P (F a) w') = (Op.eqFields d xs ys (arrFs e n m (s * n))).run P w := by
    intro F h1 h2 m
    induction m with
    | zero => intro s w; simp [arrFs, Op.eqFields, h1]
    | succ m ih =>
      intro s w
      have hne : ("" : String) ≠ "_" := by decide
      simp only [List.range'_succ, List.forIn_cons, arrFs, Op.eqFields, Sem.run_bind, if_pos hne]
      generalize (part e xs (s * n)).run P w = r1
      cases r1 with
      | halt x w1 => simp [Result.andThen]
      | ok a w1 =>
        simp only [Result.andThen_ok]
        generalize (part e ys (s * n)).run P w1 = r2
        cases r2 with
        | halt x w1 => simp [Result.andThen]
        | ok b w2 =>
          simp only [Result.andThen_ok]
          generalize (Op.equalIn d e a b).run P w2 = r3
          cases r3 with
          | halt x w1 => simp [Result.andThen]
          | ok r w3 =>
            cases r
            · simp only [Result.andThen_ok, Bool.not_false, if_true, Sem.run_pure, h2]
            · simp only [Result.andThen_ok, Bool.not_true, Bool.false_eq_true, if_false, Sem.run_pure]
              have := ih (s + 1) w3
              rw [Nat.succ_mul] at this
              exact this
  have h0 : arrFs e n len 0 = arrFs e n len (0 * n) := by rw [Nat.zero_mul]
  rw [h0]
  refine gen (fun a => _) ?_ ?_ len 0 w <;> rfl
theorem arrFs_name (e size : Nat) : ∀ (n off : Nat), ∀ f ∈ arrFs e size n off, (f.name != "_") = true
  | 0, _, f, hf => by simp [arrFs] at hf
  | n + 1, off, f, hf => by
    simp only [arrFs, List.mem_cons] at hf
    rcases hf with rfl | hf
    · show (("" : String) != "_") = true
      decide
    · exact arrFs_name e size n _ f hf
theorem cmpP_ok {op : BinOp} {K : V → Option α} {p : Prop} {d : Decidable p} {r : α} (he : cmpP op K (.prop p d) = some r) :
    ∃ v, K v = some r ∧ (∀ {β : Type} (K' : V → Option β), cmpP op K' (.prop p d) = K' v) ∧ ∀ {c : Ctx} {w : World} {t : Nat} {xs ys : Array Value}, (Op.equalIn 10000 t (.agg xs) (.agg ys)).run P w = .ok (@decide p d) w → ∃ val, (binOp op t (.agg xs) (.agg ys)).run P w = .ok val w ∧ VR c w v val := by
  unfold cmpP at he
  dsimp only at he
  split at he
  · exact ⟨_, he, fun K' => rfl, fun h => ⟨_, by rw [run_eql_struct, h]; rfl, VR.prop rfl⟩⟩
  · exact ⟨_, he, fun K' => rfl, fun h => ⟨_, by rw [run_neq_struct, h]; rfl, VR.prop (by simp)⟩⟩
  · cases he
theorem aggEq_ok {op : BinOp} {t : Nat} {l m : List V} {K : V → Option α} {r : α} (hτ : TOk P τ) (he : aggEq τ op t l m K = some r) :
    ∃ v, K v = some r ∧ (∀ {β : Type} (K' : V → Option β), aggEq τ op t l m K' = K' v) ∧ ∀ {c : Ctx} {w : World} {xv yv : Value}, VR c w (.agg l) xv → VR c w (.agg m) yv → (∀ (x y : Operand), (eqGuard op t x y xv yv).run P w = .ok () w) ∧ ∃ val, (binOp op t xv yv).run P w = .ok val w ∧ VR c w v val := by
  unfold aggEq at he
  split at he
  · cases he
  rename_i i hi
  split at he
  · rename_i fs hd
    split at he
    case h_2 => cases he
    rename_i g1 g2 g3
    have hT := hτ _ _ hi
    obtain ⟨q1, q2, q3⟩ := hT.eq g1
    have hu : P.underlying t = some (.struct fs) := by rw [hT.und, hd]
    have hfo : P.fieldsOf t = fs := by unfold Program.fieldsOf; rw [hu]
    rw [hfo] at q3
    obtain ⟨p, d, h1, h2, h3⟩ := eqParts_ok (d0 := 9998) hτ fs.toList 0 l m g2 (List.all_eq_true.1 q3) he (Nat.eq_of_beq_eq_true g3)
    obtain ⟨v, k1, k2, k3⟩ := cmpP_ok (P := P) h1
    refine ⟨v, k1, fun K' => by unfold aggEq; simp only [hi, hd, g1, g2, g3]; rw [h2]; exact k2 K', fun {c w xv yv} hx hy => ?_⟩
    simp only [VR] at hx hy
    obtain ⟨xs, rfl, hx⟩ := hx
    obtain ⟨ys, rfl, hy⟩ := hy
    refine ⟨fun _ _ => run_eqGuard_agg _ _ _ _ _ _ _ q2, k3 ?_⟩
    rw [run_equalIn_agg w 9999 t xs ys (by rw [hfo]; exact hu) q1, hfo]
    exact h3 xs ys (by simpa using hx) (by simpa using hy)
  · rename_i len e hd
    split at he
    · cases he
    rename_i ei hei
    split at he
    case h_2 => cases he
    rename_i g1 g2 g3
    have hT := hτ _ _ hi
    obtain ⟨q1, q2, q3⟩ := hT.eq g1
    have hu : P.underlying t = some (.array len e) := by rw [hT.und, hd]
    obtain ⟨p, d, h1, h2, h3⟩ := eqParts_ok (d0 := 9998) hτ (arrFs e ei.size len 0) 0 l m g2 (arrFs_name e ei.size len 0) he (Nat.eq_of_beq_eq_true g3)
    obtain ⟨v, k1, k2, k3⟩ := cmpP_ok (P := P) h1
    refine ⟨v, k1, fun K' => by unfold aggEq; simp only [hi, hd, hei, g1, g2, g3]; rw [h2]; exact k2 K', fun {c w xv yv} hx hy => ?_⟩
    simp only [VR] at hx hy
    obtain ⟨xs, rfl, hx⟩ := hx
    obtain ⟨ys, rfl, hy⟩ := hy
    refine ⟨fun _ _ => run_eqGuard_agg _ _ _ _ _ _ _ q2, k3 ?_⟩
    rw [run_equalIn_arr w 9999 t len e ei.size xs ys hu (fun w => sizeOf_run (hτ _ _ hei))]
    exact h3 xs ys (by simpa using hx) (by simpa using hy)
  · cases he
theorem binK_ok {op : BinOp} {t : Nat} {x y : V} {K : V → Option α} {r : α} (hτ : TOk P τ) (he : binK τ op t x y K = some r) :
    ∃ v, K v = some r ∧ (∀ {β : Type} (K' : V → Option β), binK τ op t x y K' = K' v) ∧ ∀ {c : Ctx} {w : World} {xv yv : Value}, VR c w x xv → VR c w y yv → (∀ (x y : Operand), (eqGuard op t x y xv yv).run P w = .ok () w) ∧ ∃ val, (binOp op t xv yv).run P w = .ok val w ∧ VR c w v val := by
  unfold binK at he
  split at he
  · split at he
    · rename_i hs
      obtain ⟨v, h1, h2, h3⟩ := shiftK_ok he
      exact ⟨v, h1, fun K' => by unfold binK; simp only [hs]; exact h2 K', fun hx hy => by rw [int_of hx, int_of hy]; exact ⟨fun _ _ => eqGuard_run rfl, h3⟩⟩
    · rename_i hs
      split at he
      · rename_i hk
        obtain ⟨v, h1, h2, h3⟩ := intBin_ok hs he
        have := ikc_inj hk
        subst this
        exact ⟨v, h1, fun K' => by unfold binK; simp only [hs, hk]; exact h2 K', fun hx hy => by rw [int_of hx, int_of hy]; exact ⟨fun _ _ => eqGuard_run rfl, h3⟩⟩
      · cases he
  · obtain ⟨v, h1, h2, h3⟩ := strBin_ok he
    exact ⟨v, h1, fun K' => h2 K', fun hx hy => by rw [str_of hx, str_of hy]; exact ⟨fun _ _ => eqGuard_run rfl, h3⟩⟩
  · split at he
    · rename_i hb
      obtain ⟨v, h1, h2, h3⟩ := boolBin_ok he
      exact ⟨v, h1, fun K' => by unfold binK; simp only [hb]; exact h2 K', fun hx hy => by rw [bool_of hx, bool_of hy]; exact ⟨fun _ _ => eqGuard_run rfl, h3 (isBool_ok hτ hb)⟩⟩
    · cases he
  · split at he
    · rename_i hb
      obtain ⟨v, h1, h2, h3⟩ := boolBin_ok he
      exact ⟨v, h1, fun K' => by unfold binK; simp only [hb]; exact h2 K', fun hx hy => by simp only [VR] at hx; rw [hx, bool_of hy]; exact ⟨fun _ _ => eqGuard_run rfl, h3 (isBool_ok hτ hb)⟩⟩
    · cases he
  · split at he
    · rename_i hb
      obtain ⟨v, h1, h2, h3⟩ := boolBin_ok he
      exact ⟨v, h1, fun K' => by unfold binK; simp only [hb]; exact h2 K', fun hx hy => by simp only [VR] at hy; rw [hy, bool_of hx]; exact ⟨fun _ _ => eqGuard_run rfl, h3 (isBool_ok hτ hb)⟩⟩
    · cases he
  · split at he
    · rename_i hb
      obtain ⟨v, h1, h2, h3⟩ := boolBin_ok he
      exact ⟨v, h1, fun K' => by unfold binK; simp only [hb]; exact h2 K', fun hx hy => by simp only [VR] at hx hy; rw [hx, hy]; exact ⟨fun _ _ => eqGuard_run rfl, h3 (isBool_ok hτ hb)⟩⟩
    · cases he
  · obtain ⟨v, h1, h2, h3⟩ := aggEq_ok hτ he
    exact ⟨v, h1, fun K' => by unfold binK; exact h2 K', fun hx hy => h3 hx hy⟩
  · cases he
theorem unK_ok {op : UnOp} {x : V} {K : V → Option α} {r : α} (he : unK op x K = some r) :
    ∃ v, K v = some r ∧ (∀ {β : Type} (K' : V → Option β), unK op x K' = K' v) ∧ ∀ {P : Program} {c : Ctx} {w : World} {xv : Value}, VR c w x xv → ∃ val, (Op.unary op xv).run P w = .ok val w ∧ VR c w v val := by
  unfold unK at he
  split at he
  · exact ⟨_, he, fun _ => rfl, fun hx => by rw [int_of hx]; exact ⟨_, by simp only [Op.unary, Op.intArith, Sem.run_pure], VR.int⟩⟩
  · exact ⟨_, he, fun _ => rfl, fun hx => by rw [bool_of hx]; exact ⟨_, by simp only [Op.unary, Sem.run_pure], VR.bool⟩⟩
  · exact ⟨_, he, fun _ => rfl, fun hx => by
      simp only [VR] at hx; rw [hx]
      exact ⟨_, by simp only [Op.unary, Sem.run_pure] <;> rfl, VR.prop (by simp)⟩⟩
  · cases he
end
end Go.Proofs.YtiacidpjplmgaaaDoorD
