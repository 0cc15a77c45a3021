/- Words of this session's own: every operation that is no call, on the machine. -/
import Derived.Test.YtiacidpjplmgaaaDoorDn13
set_option linter.unusedVariables false
set_option linter.unusedSimpArgs false
namespace Go.Proofs.YtiacidpjplmgaaaDoorD
section
variable {P : Program} {τ : TT} {F : Fr} {c : Ctx} {w w' : World} {hp : Hp} {α : Type}
theorem arrFs_get {e size : Nat} : ∀ {n off i : Nat} {f : Field}, (arrFs e size n off)[i]? = some f → f.type = e ∧ f.offset = off + i * size
  | 0, _, _, _, h => by simp [arrFs] at h
  | n + 1, off, 0, f, h => by simp [arrFs] at h; subst h; simp
  | n + 1, off, i + 1, f, h => by
    simp only [arrFs, List.getElem?_cons_succ] at h
    obtain ⟨h1, h2⟩ := arrFs_get h
    exact ⟨h1, by rw [h2, Nat.succ_mul]; omega⟩
theorem arr1 {β γ : Type} {a : Array β} {g : β → γ} {x : γ} (h : a.toList.map g = [x]) : ∃ o, a = #[o] ∧ x = g o := by
  obtain ⟨l⟩ := a
  cases l with
  | nil => simp at h
  | cons o l => cases l with
    | nil => simp at h; exact ⟨o, rfl, h.symm⟩
    | cons _ _ => simp at h
theorem arr2 {β γ : Type} {a : Array β} {g : β → γ} {x y : γ} (h : a.toList.map g = [x, y]) : ∃ o p, a = #[o, p] ∧ x = g o ∧ y = g p := by
  obtain ⟨l⟩ := a
  cases l with
  | nil => simp at h
  | cons o l => cases l with
    | nil => simp at h
    | cons p l => cases l with
      | nil => simp at h; exact ⟨o, p, rfl, h.1.symm, h.2.symm⟩
      | cons _ _ => simp at h
theorem VRs.map {g : Operand → V} {ev : Operand → Value} (hv : ∀ x, VR c w (g x) (ev x)) : ∀ (l : List Operand), VRs c w (l.map g) (l.map ev)
  | [] => by simp [VRs]
  | x :: r => by simp only [List.map_cons, VRs]; exact ⟨_, _, rfl, hv x, VRs.map hv r⟩
theorem VRo.map {g : Operand → V} {ev : Operand → Value} (hv : ∀ x, VR c w (g x) (ev x)) (o : Option Operand) : VRo c w (o.map g) (o.map ev) := by
  cases o with
  | none => trivial
  | some x => exact hv x
theorem moreK_ok {b : Builtin} {args : List V} {K : V → Hp → Option α} {r : α} (he : moreK b args K = some r) :
    ∃ v ws, K v ws = some r ∧ (∀ {β : Type} (K' : V → Hp → Option β), moreK b args K' = K' v ws) ∧
      ∀ {P : Program} {F : Fr} {c : Ctx} {w : World} {hp : Hp} {fr : Nat} {ts : List Nat} {vals : List Value} {ty : TypeId} {cs : Array Bool}, HR F c w hp → VRs c w args vals →
        ∃ val w', (builtin b ts.toArray ty cs vals.toArray).run P w = .ok (.value val) w' ∧ Done F c w hp fr v ws val w' := by
  unfold moreK at he
  split at he
  · rename_i k x k' y
    split at he
    case h_2 => cases he
    rename_i hk
    have := ikc_inj hk
    subst this
    refine ⟨_, _, he, fun K' => by unfold moreK; simp only [hk], fun {P F c w hp fr ts vals ty cs} H hv => ?_⟩
    simp only [VRs] at hv
    obtain ⟨sv, q, rfl, hs, xv, q', rfl, hx, rfl⟩ := hv
    rw [int_of hs, int_of hx]
    refine ⟨.int k (max (x : Int) y), w, run_v ?_, Done.same H VR.int⟩
    simp only [Builtin.max_, List.foldlM_cons, List.foldlM_nil, Builtin.max2, Sem.run_bind, Sem.run_pure, Result.andThen_ok]
    congr 2
    have : max (x : Int) y = if (y : Int) > x then (y : Int) else x := by
      rcases Int.lt_or_le (x : Int) y with h | h
      · rw [if_pos h]; exact Int.max_eq_right (Int.le_of_lt h)
      · rw [if_neg (Int.not_lt.2 h)]; exact Int.max_eq_left h
    exact this.symm
  · rename_i k x k' y
    split at he
    case h_2 => cases he
    rename_i hk
    have := ikc_inj hk
    subst this
    refine ⟨_, _, he, fun K' => by unfold moreK; simp only [hk], fun {P F c w hp fr ts vals ty cs} H hv => ?_⟩
    simp only [VRs] at hv
    obtain ⟨sv, q, rfl, hs, xv, q', rfl, hx, rfl⟩ := hv
    rw [int_of hs, int_of hx]
    refine ⟨.int k (min (x : Int) y), w, run_v ?_, Done.same H VR.int⟩
    simp only [Builtin.min_, List.foldlM_cons, List.foldlM_nil, Builtin.min2, Sem.run_bind, Sem.run_pure, Result.andThen_ok]
    congr 2
    have : min (x : Int) y = if (y : Int) < x then (y : Int) else x := by
      rcases Int.lt_or_le (y : Int) x with h | h
      · rw [if_pos h]; exact Int.min_eq_right (Int.le_of_lt h)
      · rw [if_neg (Int.not_lt.2 h)]; exact Int.min_eq_left h
    exact this.symm
  · cases he
theorem builtinK_ok {h : Nat → Option Blk} {fr : Nat} {b : Builtin} {ts : List Nat} {args : List V} {K : V → Hp → Option α} {r : α} (hτ : TOk P τ) (he : builtinK τ h fr b ts args K = some r) :
    ∃ v ws, K v ws = some r ∧ (∀ {β : Type} (K' : V → Hp → Option β), builtinK τ h fr b ts args K' = K' v ws) ∧
      ∀ {F : Fr} {c : Ctx} {w : World} {hp : Hp} {vals : List Value} {ty : TypeId} {cs : Array Bool}, HR F c w hp → (∀ b x, h b = some x → hget hp b = some x) → ¬ c.M fr → VRs c w args vals →
        ∃ val w', (builtin b ts.toArray ty cs vals.toArray).run P w = .ok (.value val) w' ∧ Done F c w hp fr v ws val w' := by
  have more : moreK b args K = some r → (∀ {β : Type} (K' : V → Hp → Option β), builtinK τ h fr b ts args K' = moreK b args K') → 
    ∃ v ws, K v ws = some r ∧ (∀ {β : Type} (K' : V → Hp → Option β), builtinK τ h fr b ts args K' = K' v ws) ∧
      ∀ {F : Fr} {c : Ctx} {w : World} {hp : Hp} {vals : List Value} {ty : TypeId} {cs : Array Bool}, HR F c w hp → (∀ b x, h b = some x → hget hp b = some x) → ¬ c.M fr → VRs c w args vals →
        ∃ val w', (builtin b ts.toArray ty cs vals.toArray).run P w = .ok (.value val) w' ∧ Done F c w hp fr v ws val w' := fun hm hd => by
    obtain ⟨v, ws, h1, h2, h3⟩ := moreK_ok hm
    exact ⟨v, ws, h1, fun K' => (hd K').trans (h2 K'), fun H _ _ hv => h3 H hv⟩
  unfold builtinK at he
  cases b <;> dsimp only at he <;> try exact more he (fun _ => rfl)
  case len =>
    split at he
    case h_2 => cases he
    rename_i t x
    obtain ⟨v, h1, h2, h3⟩ := lenK_ok hτ he
    refine ⟨v, [], h1, fun K' => by unfold builtinK; exact h2 _, fun {F c w hp vals ty cs} H hh hfr hv => ?_⟩
    simp only [VRs] at hv
    obtain ⟨xv, q, rfl, hx, rfl⟩ := hv
    obtain ⟨val, k1, k2⟩ := h3 (ty := ty) (fun b x hb => (H.blk b x (hh b x hb)).2) hx
    exact ⟨val, w, run_v k1, Done.same H k2⟩
  case append =>
    split at he
    case h_2 => cases he
    obtain ⟨v, ws, h1, h2, h3⟩ := appendK_ok hτ he
    refine ⟨v, ws, h1, fun K' => by unfold builtinK; exact h2 _, fun {F c w hp vals ty cs} H hh hfr hv => ?_⟩
    simp only [VRs] at hv
    obtain ⟨sv, q, rfl, hs, xv, q', rfl, hx, rfl⟩ := hv
    obtain ⟨val, w', k1, k2⟩ := h3 (ty := ty)  H hh hfr hs hx
    exact ⟨val, w', run_v k1, k2⟩
  case clear =>
    split at he
    case h_2 => cases he
    rename_i t x
    obtain ⟨v, ws, h1, h2, h3⟩ := clearK_ok hτ he
    refine ⟨v, ws, h1, fun K' => by unfold builtinK; exact h2 _, fun {F c w hp vals ty cs} H hh hfr hv => ?_⟩
    simp only [VRs] at hv
    obtain ⟨xv, q, rfl, hx, rfl⟩ := hv
    obtain ⟨val, w', k1, k2⟩ := h3 (ty := ty) H hh hx
    exact ⟨val, w', run_v k1, k2⟩
  case copy =>
    split at he
    case h_2 => cases he
    rename_i t ts d s
    obtain ⟨v, ws, h1, h2, h3⟩ := copyK_ok hτ he
    refine ⟨v, ws, h1, fun K' => by unfold builtinK; exact h2 _, fun {F c w hp vals ty cs} H hh hfr hv => ?_⟩
    simp only [VRs] at hv
    obtain ⟨sv, q, rfl, hs, xv, q', rfl, hx, rfl⟩ := hv
    obtain ⟨val, w', k1, k2⟩ := h3 (ty := ty) (ts := ts) H hh hs hx
    exact ⟨val, w', run_v k1, k2⟩
  case cap =>
    split at he
    case h_2 => cases he
    rename_i t
    split at he
    case h_2 => cases he
    rename_i q hq
    obtain ⟨e, ei⟩ := q
    obtain ⟨hu, hT⟩ := elemOf_ok hτ hq
    refine ⟨_, [], he, fun K' => by unfold builtinK; simp only [hq], fun {F c w hp vals ty cs} H hh hfr hv => ?_⟩
    simp only [VRs] at hv
    obtain ⟨xv, q, rfl, hx, rfl⟩ := hv
    simp only [VR] at hx
    subst hx
    exact ⟨.int .i64 0, w, run_v (by simp [Builtin.cap_, run_underlying hu, goInt]), Done.same H VR.int⟩
theorem op_ok {o : Oper} {tbl : Tbl} {fr : Nat} {g : Operand → V} {h : Nat → Option Blk} {K : V → Hp → Option α} {r : α} (hτ : TOk P τ) (hnc : ∀ c f, o.op = .call c → c.callee ≠ .value f) (he : opK τ tbl fr g h o.op K = some r) :
    ∃ v ws, K v ws = some r ∧ (∀ {β : Type} (K' : V → Hp → Option β), opK τ tbl fr g h o.op K' = K' v ws) ∧
      ∀ {F : Fr} {c : Ctx} {w : World} {hp : Hp} {ev : Operand → Value}, HR F c w hp → (∀ b x, h b = some x → hget hp b = some x) → ¬ c.M fr → (∀ x, VR c w (g x) (ev x)) →
        ∃ val w', RunsTo P o ev w val w' ∧ Done F c w hp fr v ws val w' := by
  obtain ⟨dst, op, type, pos, after, guard⟩ := o
  dsimp only at he hnc
  unfold opK at he
  cases op <;> dsimp only at he <;> try (cases he; done)
  case move x => exact ⟨_, _, he, fun _ => rfl, fun H hh hfr hv => ⟨_, _, .inl rfl, Done.same H (hv x)⟩⟩
  case assign x => exact ⟨_, _, he, fun _ => rfl, fun H hh hfr hv => ⟨_, _, .inl rfl, Done.same H (hv x)⟩⟩
  case pick ct a b =>
    obtain ⟨t, h1, h2, h3⟩ := testK_ok he
    refine ⟨if t then g a else g b, [], ?_, fun K' => ?_, fun {F c w hp ev} H hh hfr hv => ⟨if t then ev a else ev b, w, .inl ?_, Done.same H ?_⟩⟩
    · cases t <;> exact h1
    · dsimp only [opK]; rw [h2]; first | done | (cases t <;> rfl)
    · have := h3 (hv ct)
      simp only [execOp, this, Sem.run_bind, asBool, Sem.run_pure, Result.andThen_ok]
    · cases t
      · exact hv b
      · exact hv a
  case alloc t =>
    split at he
    case h_2 => cases he
    rename_i i hi
    refine ⟨_, _, he, fun K' => by dsimp only [opK]; simp only [hi], fun {F c w hp ev} H hh hfr hv => ?_⟩
    obtain ⟨val, w', k1, k2⟩ := alloc_ok (fr := fr) (hτ _ _ hi) H hfr
    exact ⟨val, w', .inl (run_v k1), k2⟩
  case box t x =>
    split at he
    case h_2 => cases he
    rename_i i hi
    split at he
    case h_2 => cases he
    rename_i h1 h2
    refine ⟨_, _, he, fun K' => by dsimp only [opK]; simp only [hi, h1, h2], fun {F c w hp ev} H hh hfr hv => ?_⟩
    obtain ⟨val, w', k1, k2⟩ := box_ok (P := P) (t := t) (fr := fr) h2 H hfr (hv x)
    exact ⟨val, w', .inl (run_v k1), k2⟩
  case build t ps =>
    split at he
    case h_2 => cases he
    rename_i i hi
    have hps : ∀ ev : Operand → Value, (ps.map fun (x : Nat × Operand) => (x.1, ev x.2)).toList = ps.toList.map fun p => (p.1, ev p.2) := fun ev => by simp
    have hT := hτ _ _ hi
    obtain ⟨I, z, i1, i2, i3, i4, i5, i6⟩ := hT.info
    split at he
    · rename_i fs hd
      split at he
      · cases he
      rename_i hall
      obtain ⟨places, p1, p2⟩ := all_places hτ fs.toList hall
      obtain ⟨l', k1, k2, k3⟩ := fillV_ok hτ (place := (places.toArray[·]?)) (fun i f ti hf hti => by simpa using p2 i f ti hf hti) he
      refine ⟨_, _, k1, fun K' => by dsimp only [opK]; simp only [hi, hd, hall]; exact k2 _, fun {F c w hp ev} H hh hfr hv => ?_⟩
      obtain ⟨cells, m1, m2⟩ := k3 (c := c) (w := w) (ev := ev) (cells := z.cells) hv (by rw [i5]; exact VR.zeros i.ty)
      refine ⟨.agg cells, w, .inl (run_v (run_build w t _ cells ?_)), Done.same H (by simp only [VR]; exact ⟨_, rfl, m2⟩)⟩
      have hps := hps ev
      unfold Program.built
      simp only [i1, hT.und, hd, i4, p1]
      rw [← m1]
      congr 1
    · rename_i n e hd
      split at he
      case h_2 => cases he
      rename_i ei hei
      obtain ⟨Ie, ze, e1, e2, _⟩ := (hτ _ _ hei).info
      obtain ⟨l', k1, k2, k3⟩ := fillV_ok hτ (place := fun i => some (i * Ie.size, Ie.size)) (fun i f ti hf hti => by
        obtain ⟨f1, f2⟩ := arrFs_get hf
        rw [f1, hei] at hti
        have := Option.some.inj hti
        subst this
        rw [f2, e2, Nat.zero_add]) he
      refine ⟨_, _, k1, fun K' => by dsimp only [opK]; simp only [hi, hd, hei]; exact k2 _, fun {F c w hp ev} H hh hfr hv => ?_⟩
      obtain ⟨cells, m1, m2⟩ := k3 (c := c) (w := w) (ev := ev) (cells := z.cells) hv (by rw [i5]; exact VR.zeros i.ty)
      refine ⟨.agg cells, w, .inl (run_v (run_build w t _ cells ?_)), Done.same H (by simp only [VR]; exact ⟨_, rfl, m2⟩)⟩
      have hps := hps ev
      unfold Program.built
      simp only [i1, hT.und, hd, i4, e1]
      rw [← m1]
      congr 1
    · cases he
  case buildSlice t n ps =>
    split at he
    case h_2 => cases he
    rename_i i hi
    split at he
    case h_2 => cases he
    rename_i e hd
    split at he
    case h_2 => cases he
    rename_i ei hei
    split at he
    case h_2 => cases he
    rename_i hb hn
    have hb' := Nat.le_of_ble_eq_true hb
    have hn' := Nat.eq_of_beq_eq_true hn
    have hT := hτ _ _ hi
    have hTe := hτ _ _ hei
    obtain ⟨I, z, i1, i2, i3, i4, i5, i6⟩ := hTe.info
    obtain ⟨xs, f, k1, k2, k3, k4, k5⟩ := buildRow_ok he
    refine ⟨_, _, k1, fun K' => by dsimp only [opK]; simp only [hi, hd, hei, hb, hn]; exact k2 _, fun {F c w hp ev} H hh hfr hv => ?_⟩
    obtain ⟨c1, b1, b2, b3, b4, b5, b6⟩ := H.frzW h f (fun d _ e0 t0 xs0 hd => hh d _ hd)
    have hheld : Held c c1.S f := ⟨b1.S, fun b hb g hg => by
      obtain ⟨e0, t0, xs0, h0⟩ := k3 b hb
      exact b4 b hb e0 t0 xs0 h0 g hg⟩
    obtain ⟨inner, m1, m2⟩ := k5 (fun b x hb => (H.blk b x (hh b x hb)).2) hv hheld
    have hsz := hTe.cells
    have hzl : z.cells.size = ei.ty.cells := by rw [← Array.length_toList, i5]; exact (Rd.zero (fun _ => True) w ei.ty).len
    have hlen : xs.length = n := by rw [k4, hn']
    have hps : (ps.map fun (x : Nat × Operand) => (x.1, ev x.2)).toList = ps.toList.map fun p => (p.1, ev p.2) := by simp
    have hund : P.underlying t = some (.slice e) := by rw [hT.und, hd]
    have hil : inner.length = n * ei.ty.cells := by rw [m1.len (fun _ _ h => h.len), hlen]
    have hpos := Ty.cells_pos ei.ty
    obtain ⟨cells, hrun, hcells⟩ : ∃ cells : Array Value, (Instr.buildSlice t n (ps.map fun (i, x) => (i, ev x))).run P w = .ok (.slice (some ⟨w.heap.size, 0, none⟩) n n) (w.alloc (.cells cells e)) ∧ cells.toList = inner := by
      by_cases h0 : n = 0
      · subst h0
        have hpe : ps = #[] := by
          have := List.eq_nil_of_length_eq_zero hn'
          exact Array.toList_inj.1 this
        subst hpe
        refine ⟨#[], ?_, ?_⟩
        · simp [Instr.buildSlice, run_underlying hund, sizeOf_run hTe, newRow, Instr.fill]
          rw [show Array.map (fun x : Nat => (default : Value)) (Array.range 0) = #[] from Array.eq_empty_of_size_eq_zero (by simp)]
        · have := List.eq_nil_of_length_eq_zero (l := inner) (by simpa using hil)
          rw [this]
      · obtain ⟨cells, n1, n2⟩ := m2 ((Array.range (n * ei.ty.cells)).map (z.cells[· % z.cells.size]!)) (by rw [Array.size_map, Array.size_range, Nat.zero_add, hn'])
        refine ⟨cells, ?_, by rw [n2]; simp⟩
        refine run_buildSlice w t e n _ cells I z hund i1 i4 (by rw [i2]; omega) (by rw [i2, ← hsz]; exact Nat.mul_ne_zero h0 (by omega)) ?_
        rw [i2, ← hsz, ← n1]
        congr 1
    have hcs : cells.size = n * ei.ty.cells := by rw [← Array.length_toList, hcells, hil]
    have hmax : n ≤ maxLen := by
      have h1 : n * 1 ≤ n * ei.size := Nat.mul_le_mul_left _ (by rw [← hsz]; exact hpos)
      simp only [maxLen]; omega
    have hdone := row_made (fr := fr) (e := e) (cells := cells) (n := n) b5 (by rw [b3]; exact hfr) m1 (by
      have := World.ownsRow_lit (base := 0) (e := e) (size := ei.ty.cells) w cells n (Nat.zero_le _) hmax hcs
      rw [hcells] at this
      rw [hlen]; exact this)
    rw [hlen] at hdone
    obtain ⟨c2, d1, d2, d3, d4⟩ := hdone
    refine ⟨_, _, .inl (run_v hrun), c2, b1.trans d1, fun d hd => ?_, d3, by simpa using d4⟩
    have := d2 d hd
    rw [b3] at this
    exact this
  case load t a =>
    obtain ⟨v, h1, h2, h3⟩ := loadK_ok hτ he
    refine ⟨v, [], h1, fun K' => by dsimp only [opK]; exact h2 _, fun {F c w hp ev} H hh hfr hv => ?_⟩
    obtain ⟨val, k1, k2⟩ := h3 (fun b x hb => (H.blk b x (hh b x hb)).2) (hv a)
    exact ⟨val, w, .inl (run_v k1), Done.same H k2⟩
  case store t a x =>
    obtain ⟨ws, h1, h2, _, h3⟩ := storeK_ok hτ he
    refine ⟨_, ws, h1, fun K' => by dsimp only [opK]; exact h2 _, fun {F c w hp ev} H hh hfr hv => ?_⟩
    obtain ⟨w', k1, k2⟩ := h3 (fr := fr) H hh (hv a) (hv x)
    exact ⟨undef, w', .inr ⟨run_u k1, rfl⟩, k2⟩
  case nilCheck x =>
    have hx0 : ∀ {c : Ctx} {w : World} {ev : Operand → Value}, (∀ x, VR c w (g x) (ev x)) → ∀ v, g x = v → (∃ p, ev x = .pointer (some p)) ∨ (∃ f a b, ev x = .func (.func f) a b) → (execOp ev ⟨dst, .nilCheck x, type, pos, after, guard⟩).run P w = .ok (.value (ev x)) w := by
      intro c w ev hv v hg hp
      rcases hp with ⟨p, hp⟩ | ⟨f, a, b, hp⟩ <;> simp [execOp, hp]
    split at he
    · rename_i b o hg
      refine ⟨_, _, he, fun K' => by dsimp only [opK]; simp only [hg], fun {F c w hp ev} H hh hfr hv => ⟨_, w, .inl (hx0 hv _ hg ?_), Done.same H (by rw [← hg]; exact hv x)⟩⟩
      have := hv x; rw [hg] at this; simp only [VR] at this; obtain ⟨_, g, _, e⟩ := this; exact .inl ⟨_, e⟩
    · rename_i t b i o hg
      refine ⟨_, _, he, fun K' => by dsimp only [opK]; simp only [hg], fun {F c w hp ev} H hh hfr hv => ⟨_, w, .inl (hx0 hv _ hg ?_), Done.same H (by rw [← hg]; exact hv x)⟩⟩
      have := hv x; rw [hg] at this; simp only [VR] at this; obtain ⟨_, g, n, cap, _, _, e⟩ := this; exact .inl ⟨_, e⟩
    · rename_i t y o hg
      refine ⟨_, _, he, fun K' => by dsimp only [opK]; simp only [hg], fun {F c w hp ev} H hh hfr hv => ⟨_, w, .inl (hx0 hv _ hg ?_), Done.same H (by rw [← hg]; exact hv x)⟩⟩
      have := hv x; rw [hg] at this; simp only [VR] at this; obtain ⟨a, cs, e, _⟩ := this; exact .inl ⟨_, e⟩
    · rename_i vs o hg
      refine ⟨_, _, he, fun K' => by dsimp only [opK]; simp only [hg], fun {F c w hp ev} H hh hfr hv => ⟨_, w, .inl (hx0 hv _ hg ?_), Done.same H (by rw [← hg]; exact hv x)⟩⟩
      have := hv x; rw [hg] at this; simp only [VR] at this; obtain ⟨g, cs, e0, e, _⟩ := this; exact .inl ⟨_, e⟩
    · rename_i f a k hg
      refine ⟨_, _, he, fun K' => by dsimp only [opK]; simp only [hg], fun {F c w hp ev} H hh hfr hv => ⟨_, w, .inl (hx0 hv _ hg ?_), Done.same H (by rw [← hg]; exact hv x)⟩⟩
      have := hv x; rw [hg] at this; simp only [VR] at this; obtain ⟨a', k', e, _⟩ := this; exact .inr ⟨_, _, _, e⟩
    · cases he
  case binOp op t x y yt =>
    obtain ⟨v, h1, h2, h3⟩ := binK_ok hτ he
    refine ⟨v, [], h1, fun K' => by dsimp only [opK]; exact h2 _, fun {F c w hp ev} H hh hfr hv => ?_⟩
    obtain ⟨hpl, val, k1, k2⟩ := h3 (hv x) (hv y)
    refine ⟨val, w, .inl (run_v ?_), Done.same H k2⟩
    simp only [Sem.run_bind, hpl _ _, Result.andThen_ok, k1]
  case unOp op t x =>
    obtain ⟨v, h1, h2, h3⟩ := unK_ok he
    refine ⟨v, [], h1, fun K' => by dsimp only [opK]; exact h2 _, fun {F c w hp ev} H hh hfr hv => ?_⟩
    obtain ⟨val, k1, k2⟩ := h3 (P := P) (hv x)
    exact ⟨val, w, .inl (run_v k1), Done.same H k2⟩
  case convert s d x =>
    obtain ⟨v, ws, h1, h2, h3⟩ := convK_ok hτ he
    refine ⟨v, ws, h1, fun K' => by dsimp only [opK]; exact h2 _, fun {F c w hp ev} H hh hfr hv => ?_⟩
    obtain ⟨val, w', k1, k2⟩ := h3 H hh hfr (hv x)
    exact ⟨val, w', .inl (run_v k1), k2⟩
  case makeFunc f a k =>
    cases f with
    | func n =>
      refine ⟨_, _, he, fun _ => rfl, fun {F c w hp ev} H hh hfr hv => ⟨.func (.func n) (a.map ev) (k.map ev), w, .inl (run_v (by simp [Instr.makeFunc])), Done.same H ?_⟩⟩
      simp only [VR]
      exact ⟨_, _, rfl, by rw [Array.toList_map]; exact VRs.map hv _, by rw [Array.toList_map]; exact VRs.map hv _⟩
    | _ => cases he
  case makeSlice t l cp =>
    split at he
    case h_2 => cases he
    rename_i i k n k' m hi hl hcp
    split at he
    case h_2 => cases he
    rename_i e hd
    split at he
    case h_2 => cases he
    rename_i ei hei
    obtain ⟨z0, hz, hK⟩ := Option.bind_eq_some_iff.1 he
    refine ⟨_, _, hK, fun K' => by dsimp only [opK]; simp only [hi, hl, hcp, hd, hei, hz, Option.bind_some], fun {F c w hp ev} H hh hfr hv => ?_⟩
    have hT := hτ _ _ hi
    have hTe := hτ _ _ hei
    obtain ⟨I, z, i1, i2, i3, i4, i5, i6⟩ := hTe.info
    have h1 := hv l
    have h2 := hv cp
    rw [hl] at h1
    rw [hcp] at h2
    have e1 := int_of h1
    have e2 := int_of h2
    unfold mkl at hz
    split at hz
    case isFalse => cases hz
    rename_i hc
    obtain ⟨c0, c1, c2⟩ := hc
    cases hz
    have hby : ei.bytes * limOf ei.bytes ≤ 140737488355328 := Nat.mul_div_le _ _
    have hm0 : 0 ≤ (m : Int) := Int.le_trans c0 c1
    have hmn : ((m : Int).toNat : Int) = m := Int.toNat_of_nonneg hm0
    have hmle : (m : Int).toNat ≤ limOf ei.bytes := Int.toNat_le.2 c2
    have hmb : ei.bytes * (m : Int).toNat ≤ 140737488355328 := Nat.le_trans (Nat.mul_le_mul_left _ hmle) hby
    have hdl : limOf ei.bytes ≤ 140737488355328 := Nat.div_le_self _ _
    have hrun := run_make (P := P) w t e I z (by rw [hT.und, hd]) i1 i4 k k' n m c0 c1 (by
      rw [i3, ← hmn, ← Int.natCast_mul]; omega) (by omega)
    have hzl : z.cells.size = ei.ty.cells := by rw [← Array.length_toList, i5]; exact (Rd.zero (fun _ => True) w ei.ty).len
    have hfl : Flat (Rd c.S w ei.ty) (List.replicate (n : Int).toNat ei.ty.dflt) (List.replicate (n : Int).toNat z.cells.toList).flatten := by
      rw [i5]; exact Flat.replicate (Rd.zero c.S w ei.ty) _
    have hnm : (n : Int).toNat ≤ (m : Int).toNat := Int.toNat_le_toNat c1
    have hdone := row_made (fr := fr) (e := e) (cells := madeCells z.cells ((m : Int).toNat * ei.ty.cells)) (n := (m : Int).toNat) H hfr hfl (by
      rw [List.length_replicate]
      refine ⟨by rw [hfl.len (fun _ _ h => h.len), List.length_replicate], .inr ⟨w.heap.size, _, _, rfl, Nat.zero_le _, heap_alloc_new w _, hnm, by simp only [maxLen]; omega, size_madeCells _ _, ?_⟩⟩
      exact madeCells_take z.cells _ hzl (Ty.cells_pos _) _ _ hnm)
    rw [List.length_replicate] at hdone
    refine ⟨_, _, .inl (run_v ?_), hdone⟩
    rw [e1, e2, hTe.cells, ← i2]
    exact hrun
  case slice t x lo hi mx =>
    cases mx with
    | some m =>
      dsimp only at he
      split at he
      case h_2 => cases he
      rename_i lo' hi'
      obtain ⟨v, h1, h2, h3⟩ := slice3K_ok hτ he
      refine ⟨v, [], h1, fun K' => by dsimp only [opK]; exact h2 _, fun {F c w hp ev} H hh hfr hv => ?_⟩
      obtain ⟨val, k1, k2⟩ := h3 (fun b x hb => (H.blk b x (hh b x hb)).2) (hv x) (hv lo') (hv hi') (hv m)
      exact ⟨val, w, .inl (run_v k1), Done.same H k2⟩
    | none =>
      obtain ⟨v, h1, h2, h3⟩ := sliceK_ok hτ he
      refine ⟨v, [], h1, fun K' => by dsimp only [opK]; exact h2 _, fun {F c w hp ev} H hh hfr hv => ?_⟩
      obtain ⟨val, k1, k2⟩ := h3 (fun b x hb => (H.blk b x (hh b x hb)).2) (hv x) (VRo.map hv lo) (VRo.map hv hi)
      exact ⟨val, w, .inl (run_v k1), Done.same H k2⟩
  case fieldAddr t x i =>
    obtain ⟨v, h1, h2, h3⟩ := fieldAddrK_ok hτ he
    refine ⟨v, [], h1, fun K' => by dsimp only [opK]; exact h2 _, fun {F c w hp ev} H hh hfr hv => ?_⟩
    obtain ⟨val, k1, k2⟩ := h3 (hv x)
    exact ⟨val, w, .inl (run_v k1), Done.same H k2⟩
  case field t x i =>
    obtain ⟨v, h1, h2, h3⟩ := fieldK_ok hτ he
    refine ⟨v, [], h1, fun K' => by dsimp only [opK]; exact h2 _, fun {F c w hp ev} H hh hfr hv => ?_⟩
    obtain ⟨val, k1, k2⟩ := h3 (hv x)
    exact ⟨val, w, .inl (run_v k1), Done.same H k2⟩
  case indexAddr t x i =>
    obtain ⟨v, h1, h2, h3⟩ := indexAddrK_ok hτ he
    refine ⟨v, [], h1, fun K' => by dsimp only [opK]; exact h2 _, fun {F c w hp ev} H hh hfr hv => ?_⟩
    obtain ⟨val, k1, k2⟩ := h3 (fun b x hb => (H.blk b x (hh b x hb)).2) (hv x) (hv i)
    exact ⟨val, w, .inl (run_v k1), Done.same H k2⟩
  case index t x i =>
    obtain ⟨v, h1, h2, h3⟩ := indexK_ok hτ he
    refine ⟨v, [], h1, fun K' => by dsimp only [opK]; exact h2 _, fun {F c w hp ev} H hh hfr hv => ?_⟩
    obtain ⟨val, k1, k2⟩ := h3 (hv x) (hv i)
    exact ⟨val, w, .inl (run_v k1), Done.same H k2⟩
  case extract x i =>
    split at he
    case h_2 => cases he
    rename_i l hl
    split at he
    case h_2 => cases he
    rename_i v hv0
    refine ⟨_, _, he, fun K' => by dsimp only [opK]; simp only [hl, hv0], fun {F c w hp ev} H hh hfr hv => ?_⟩
    have := hv x
    rw [hl] at this
    simp only [VR] at this
    obtain ⟨vs, e, hvs⟩ := this
    obtain ⟨u, hu, hr⟩ := hvs.get i v hv0
    refine ⟨u, w, .inl (run_v ?_), Done.same H hr⟩
    have hu' : vs[i]? = some u := by simpa using hu
    simp only [Instr.extract, e, hu', Sem.run_pure]
  case call cl =>
    obtain ⟨callee, args, argTypes⟩ := cl
    cases callee with
    | value f => exact absurd rfl (hnc _ f rfl)
    | invoke _ _ => cases he
    | builtin b =>
      dsimp only at he
      obtain ⟨v, ws, h1, h2, h3⟩ := builtinK_ok hτ he
      refine ⟨v, ws, h1, fun K' => by dsimp only [opK]; exact h2 _, fun {F c w hp ev} H hh hfr hv => ?_⟩
      obtain ⟨val, w', k1, k2⟩ := h3 (ty := type) (cs := args.map fun | .const _ => true | _ => false) H hh hfr (VRs.map hv args.toList)
      refine ⟨val, w', .inl ?_, k2⟩
      have ha : (args.toList.map ev).toArray = args.map ev := by rw [← Array.toList_map]
      rw [ha] at k1
      simp only [execOp, resolve, Sem.run_bind, Sem.run_pure, Result.andThen_ok, invoke]
      exact k1
end
end Go.Proofs.YtiacidpjplmgaaaDoorD
