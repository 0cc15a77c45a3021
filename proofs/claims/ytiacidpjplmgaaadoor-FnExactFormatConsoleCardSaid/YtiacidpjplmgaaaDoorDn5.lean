/- Words of this session's own: operations on the machine: loads, stores, new rows and boxes. -/
import Derived.Test.YtiacidpjplmgaaaDoorDn4
import Derived.Laws.StructEq
set_option linter.unusedVariables false
set_option linter.unusedSimpArgs false
namespace Go.Proofs.YtiacidpjplmgaaaDoorD

/-! ### Types -/
structure TOk1 (P : Program) (t : Nat) (i : TI) : Prop where
  und : P.underlying t = some i.desc
  cells : i.ty.cells = i.size
  eq : i.eqs = true → P.stoodInHeld t = false ∧ P.eqGuardType P.depth t = false ∧ (P.fieldsOf t).toList.all (fun f => f.name != "_") = true
  info : ∃ I z, P.info? t = some I ∧ I.size = i.size ∧ I.bytes = i.bytes ∧ I.zero = some z ∧ z.cells.toList = zcells i.ty ∧ (i.agg = true → ∃ a, z = .agg a)
def TOk (P : Program) (τ : TT) : Prop := ∀ t i, get τ t = some i → TOk1 P t i
theorem TOk.nil (P : Program) : TOk P [] := fun t i h => by cases h
theorem TOk.cons {P : Program} {τ : TT} {t : Nat} {i : TI} (h : TOk1 P t i) (hr : TOk P τ) : TOk P ((t, i) :: τ) := fun u j hj => by
  rw [get_cons] at hj
  split at hj
  · rename_i e; subst e; cases hj; exact h
  · exact hr u j hj

section
variable {P : Program} {τ : TT} {F : Fr} {c : Ctx} {w : World} {hp : Hp} {α : Type}
/-- An operation's value and its world; what they stand for. -/
def Done (F : Fr) (c : Ctx) (w : World) (hp : Hp) (fr : Nat) (v : V) (ws : Hp) (val : Value) (w' : World) : Prop :=
  ∃ c' : Ctx, c.To c' w w' ∧ (∀ b, c'.M b → c.M b ∨ fr ≤ b ∧ b < fr + 16) ∧ VR c' w' v val ∧ HR F c' w' (ws ++ hp)
theorem Done.same {fr : Nat} {v : V} {val : Value} (H : HR F c w hp) (hv : VR c w v val) : Done F c w hp fr v [] val w :=
  ⟨c, .refl c w, fun _ h => .inl h, hv, H⟩

/-! ### Cells of a block -/
theorem heap_setCell (w : World) (g o : Nat) (v : Value) (k : Nat) : (w.setCell ⟨g, o, none⟩ v).heap[k]? = if k = g then (w.heap[k]?).map (fun | .cells c e fr => .cells (c.setIfInBounds o v) e fr | o => o) else w.heap[k]? := by
  unfold World.setCell
  simp only [Array.getElem?_modify]
  by_cases h : g = k
  · subst h; simp
    cases w.heap[g]? with
    | none => rfl
    | some x => cases x <;> rfl
  · rw [if_neg h, if_neg (fun e => h e.symm)]
theorem setCells_eq (g : Nat) : ∀ (vs : List Value) (o : Nat) (w : World), (w.setCells g o vs).os = w.os ∧ (w.setCells g o vs).tape = w.tape ∧ (w.setCells g o vs).output = w.output ∧ (w.setCells g o vs).heap.size = w.heap.size ∧ ∀ k, k ≠ g → (w.setCells g o vs).heap[k]? = w.heap[k]?
  | [], _, _ => ⟨rfl, rfl, rfl, rfl, fun _ _ => rfl⟩
  | v :: r, o, w => by
    obtain ⟨h1, h2, h3, h4, h5⟩ := setCells_eq g r (o + 1) (w.setCell ⟨g, o, none⟩ v)
    refine ⟨h1, h2, h3, h4.trans (by simp [World.setCell]), fun k hk => (h5 k hk).trans ?_⟩
    rw [heap_setCell, if_neg hk]
theorem setCells_blk (g : Nat) : ∀ (vs : List Value) (o : Nat) (w : World) (cur : Array Value) (e : Nat), w.heap[g]? = some (.cells cur e (0, 0)) →
    ∃ cur' : Array Value, (w.setCells g o vs).heap[g]? = some (.cells cur' e (0, 0)) ∧ cur'.toList = setMany cur.toList o vs
  | [], _, _, cur, _, h => ⟨cur, h, rfl⟩
  | v :: r, o, w, cur, e, h => by
    have h1 : (w.setCell ⟨g, o, none⟩ v).heap[g]? = some (.cells (cur.setIfInBounds o v) e (0, 0)) := by
      rw [heap_setCell, if_pos rfl, h]; rfl
    obtain ⟨cur', k1, k2⟩ := setCells_blk g r (o + 1) _ _ e h1
    exact ⟨cur', k1, by rw [k2]; simp [setMany]⟩
theorem Fr.Keeps.setCells {g o : Nat} {vs : List Value} (hk : F.Keeps w) (hg : F.w0.heap.size ≤ g ∨ F.Hd g) : F.Keeps (w.setCells g o vs) := by
  obtain ⟨h1, h2, h3, h4, h5⟩ := setCells_eq g vs o w
  refine ⟨h1.trans hk.os, h2.trans hk.tape, h3.trans hk.output, by rw [h4]; exact hk.size, fun k hlt hH => ?_⟩
  rw [h5 k (fun e => by
    subst e
    rcases hg with hg | hg
    · omega
    · exact hH hg)]
  exact hk.heap k hlt hH
theorem alloc_size (w : World) (o : Obj) : (w.alloc o).heap.size = w.heap.size + 1 := by
  show (w.heap.push o).size = _
  simp
theorem Fr.Keeps.alloc (hk : F.Keeps w) (o : Obj) : F.Keeps (w.alloc o) :=
  ⟨hk.os, hk.tape, hk.output, Nat.le_trans hk.size (by rw [alloc_size]; omega), fun k hlt hH => by
    have := hk.size
    rw [heap_alloc_old w o k (by omega)]
    exact hk.heap k hlt hH⟩

/-! ### Loads -/
theorem takeV_ok {agg : Bool} {n : Nat} {l : List V} {K : V → Option α} {r : α} (he : takeV agg n l K = some r) :
    ∃ v, K v = some r ∧ (∀ {β : Type} (K' : V → Option β), takeV agg n l K' = K' v) ∧ ((agg = true ∧ v = .agg (l.take n) ∧ n ≤ l.length) ∨ (agg = false ∧ ∃ q, l = v :: q)) := by
  unfold takeV at he
  cases agg with
  | true =>
    dsimp only at he
    split at he
    · rename_i hb
      refine ⟨_, he, fun K' => by unfold takeV; simp only [hb], .inl ⟨rfl, rfl, ?_⟩⟩
      have := Nat.eq_of_beq_eq_true hb
      rw [List.length_take] at this; omega
    · cases he
  | false =>
    dsimp only at he
    cases l with
    | nil => cases he
    | cons v q => exact ⟨v, he, fun _ => rfl, .inr ⟨rfl, q, rfl⟩⟩
theorem isAgg_run {t : Nat} {i : TI} (h : P.underlying t = some i.desc) : (isAgg t).run P w = .ok i.agg w := by
  unfold isAgg TI.agg
  rw [Sem.run_bind, run_underlying h w]
  cases i.desc <;> rfl
theorem load_run {a : Addr} {v : Value} (h : w.cell? a = some v) : (load a).run P w = .ok v w := by
  simp [load, Sem.run, h]
theorem add_zero (a : Addr) : a.add 0 = a := by simp [Addr.add]
theorem loadAt_run {t : Nat} {i : TI} (hi : TOk1 P t i) {a : Addr} {l : List V} {cs : List Value} (hv : VRs c w l cs) (hc : ∀ j u, cs[j]? = some u → w.cell? (a.add j) = some u)
    {v : V} (ht : (i.agg = true ∧ v = .agg (l.take i.size) ∧ i.size ≤ l.length) ∨ (i.agg = false ∧ ∃ q, l = v :: q)) :
    ∃ val, (Instr.loadAt t (.pointer (some a))).run P w = .ok val w ∧ VR c w v val := by
  obtain ⟨I, z, h1, h2, h3, h4, h5, h6⟩ := hi.info
  rcases ht with ⟨ha, rfl, hl⟩ | ⟨ha, q, rfl⟩
  · have hlen := hv.len
    have hL := run_loadCells_list (P := P) w a (cs.take i.size) (fun j u hu => hc j u (by
      rw [List.getElem?_take] at hu
      split at hu
      · exact hu
      · cases hu))
    rw [List.length_take, Nat.min_eq_left (by omega)] at hL
    refine ⟨.agg (cs.take i.size).toArray, ?_, ?_⟩
    · simp only [Instr.loadAt, Instr.sureAddr, Sem.run_bind, Sem.run_pure, Result.andThen_ok, loadVar, isAgg_run hi.und, ha, if_true, sizeOf, typeInfo, Sem.run, program, h1, h2, hL]
    · simp only [VR]
      exact ⟨_, rfl, hv.take _⟩
  · simp only [VRs] at hv
    obtain ⟨u, us, e, hu, _⟩ := hv
    refine ⟨u, ?_, hu⟩
    have := hc 0 u (by rw [e]; rfl)
    rw [add_zero] at this
    simp only [Instr.loadAt, Instr.sureAddr, Sem.run_bind, Sem.run_pure, Result.andThen_ok, loadVar, isAgg_run hi.und, ha, Bool.false_eq_true, if_false, load_run this]

theorem loadK_ok {h : Nat → Option Blk} {t : Nat} {p : V} {K : V → Option α} {r : α} (hτ : TOk P τ) (he : loadK τ h t p K = some r) :
    ∃ v, K v = some r ∧ (∀ {β : Type} (K' : V → Option β), loadK τ h t p K' = K' v) ∧
      ∀ {c : Ctx} {w : World} {pv : Value}, (∀ b x, h b = some x → BR c w b x) → VR c w p pv → ∃ val, (Instr.loadAt t pv).run P w = .ok val w ∧ VR c w v val := by
  unfold loadK at he
  split at he
  · cases he
  rename_i i hi
  have hT := hτ t i hi
  cases p with
  | ptr b off =>
    dsimp only at he
    split at he
    · rename_i vs hb
      obtain ⟨v, h1, h2, h3⟩ := takeV_ok he
      refine ⟨v, h1, fun K' => by unfold loadK; simp only [hi, hb]; exact h2 K', fun hH hv => ?_⟩
      simp only [VR] at hv
      obtain ⟨_, g, e1, e2⟩ := hv
      obtain ⟨g', cs, e, k1, k2, k3⟩ := hH b _ hb
      rw [e1] at k1
      simp only [Value.pointer.injEq, Option.some.injEq, Addr.mk.injEq, and_true] at k1
      subst k1; subst e2
      refine loadAt_run hT (k3.drop off) (fun j u hu => ?_) h3
      rw [add_mid, cell_of_row _ g _ cs e (0, 0) k2]
      rw [List.getElem?_drop, Array.getElem?_toList] at hu
      exact hu
    · cases he
  | cptr vs off =>
    obtain ⟨v, h1, h2, h3⟩ := takeV_ok he
    refine ⟨v, h1, fun K' => by unfold loadK; simp only [hi]; exact h2 K', fun hH hv => ?_⟩
    simp only [VR] at hv
    obtain ⟨g, cs, e, e1, _, k2, k3⟩ := hv
    subst e1
    refine loadAt_run hT (k3.drop off) (fun j u hu => ?_) h3
    rw [add_mid, cell_of_row _ g _ cs e (0, 0) k2]
    rw [List.getElem?_drop, Array.getElem?_toList] at hu
    exact hu
  | rptr s x off =>
    obtain ⟨v, h1, h2, h3⟩ := takeV_ok he
    refine ⟨v, h1, fun K' => by unfold loadK; simp only [hi]; exact h2 K', fun hH hv => ?_⟩
    simp only [VR] at hv
    obtain ⟨a, cs, e1, _, k2, k3⟩ := hv
    subst e1
    refine loadAt_run hT ((VR.leaves k2).drop off) (fun j u hu => ?_) h3
    rw [add_add]
    rw [List.getElem?_drop] at hu
    exact k3 _ _ hu
  | eptr s b j off =>
    dsimp only at he
    split at he
    · rename_i e0 t' xs hb
      split at he
      · rename_i hs
        have := beq_ty hs
        subst this
        obtain ⟨v, h1, h2, h3⟩ := takeV_ok he
        refine ⟨v, h1, fun K' => by unfold loadK; simp only [hi, hb, hs]; exact h2 K', fun hH hv => ?_⟩
        simp only [VR] at hv
        obtain ⟨_, g, n, cap, e1, hj, e2⟩ := hv
        obtain ⟨inner, hf, ho⟩ := hH b _ hb
        rw [e1] at ho
        have hn : n = xs.length := by
          rcases ho.2 with ⟨h, _⟩ | ⟨g', cap', cur, h, _⟩
          · cases h
          · injection h
        subst hn; subst e2
        have hx : xs[j]? = some (xs.getD j t'.dflt) := by rw [List.getD_eq_getElem?_getD, List.getElem?_eq_getElem hj]; rfl
        obtain ⟨cs, hr, hc⟩ := hf.get (fun _ _ h => h.len) j _ hx
        refine loadAt_run hT ((VR.leaves hr).drop off) (fun k u hu => ?_) h3
        rw [List.getElem?_drop] at hu
        have := ho.cells (g := g) rfl _ u (hc _ _ hu)
        rw [add_mid, Nat.zero_add] at this
        rw [add_mid, Nat.add_assoc]
        exact this
      · cases he
    · rename_i t' xs hb
      split at he
      · rename_i hs
        have := beq_ty hs
        subst this
        obtain ⟨v, h1, h2, h3⟩ := takeV_ok he
        refine ⟨v, h1, fun K' => by unfold loadK; simp only [hi, hb, hs]; exact h2 K', fun hH hv => ?_⟩
        simp only [VR] at hv
        obtain ⟨_, g, n, cap, e1, hj, e2⟩ := hv
        obtain ⟨⟨A, cap', inner, k1, _, hf, hr⟩, _⟩ := hH b _ hb
        rw [e1] at k1
        simp only [List.cons.injEq, and_true, Value.slice.injEq] at k1
        obtain ⟨rfl, rfl, rfl⟩ := k1
        subst e2
        have hx : xs[j]? = some (xs.getD j t'.dflt) := by rw [List.getD_eq_getElem?_getD, List.getElem?_eq_getElem hj]; rfl
        obtain ⟨cs, hr1, hc⟩ := hf.get (fun _ _ h => h.len) j _ hx
        have hpos : 0 < cs.length := by rw [hr1.len]; exact Ty.cells_pos _
        have hi2 : inner ≠ [] := by
          rintro rfl
          have := hc 0 _ (List.getElem?_eq_getElem hpos)
          simp at this
        obtain ⟨ad, had, _, hcell⟩ := hr hi2
        injection had with had
        subst had
        refine loadAt_run hT ((VR.leaves hr1).drop off) (fun k u hu => ?_) h3
        rw [List.getElem?_drop] at hu
        have := hcell _ u (hc _ _ hu)
        rw [add_mid, Nat.zero_add] at this
        rw [add_mid, Nat.add_assoc]
        exact this
      · cases he
    · rename_i xs hb
      split at he
      case h_2 => cases he
      rename_i hs ho ha
      have hs' := beq_ty hs
      subst hs'
      have ho' := Nat.eq_of_beq_eq_true ho
      subst ho'
      refine ⟨_, he, fun K' => by unfold loadK; simp only [hi, hb, hs, ho, ha], fun {c w pv} hH hv => ?_⟩
      simp only [VR] at hv
      obtain ⟨_, g, n, cap, e1, hj, e2⟩ := hv
      obtain ⟨g', cap', cur, e, fz, k1, k2, k3, k4, k5⟩ := hH b _ hb
      rw [e1] at k1
      simp only [Value.slice.injEq, Option.some.injEq, Addr.mk.injEq, and_true] at k1
      obtain ⟨rfl, rfl, rfl⟩ := k1
      subst e2
      have hx : xs[j]? = some (xs.getD j 0) := by rw [List.getD_eq_getElem?_getD, List.getElem?_eq_getElem hj]; rfl
      refine loadAt_run hT (l := [.val (.int .u8) (xs.getD j 0)]) (cs := [.int .u8 (xs.getD j 0)]) (VRs.one (by simp only [VR]; rfl)) (fun k u hu => ?_) (.inr ⟨ha, [], rfl⟩)
      cases k with
      | zero =>
        simp only [List.getElem?_cons_zero, Option.some.injEq] at hu
        subst hu
        rw [add_zero, cell_of_row _ g _ cur e fz k2]
        simpa [Ty.cells] using k5 j _ hx
      | succ k => simp at hu
    · cases he
  | _ => cases he

/-! ### Stores -/
theorem parts_ok {v : V} {val : Value} (h1 : (parts v).all single = true) (hv : VR c w v val) : VRs c w (parts v) val.cells.toList ∧ ∀ u ∈ val.cells.toList, u.oneCell' = true := by
  have one : ∀ (l : List V) (vs : List Value), l.all single = true → VRs c w l vs → ∀ u ∈ vs, u.oneCell' = true := by
    intro l
    induction l with
    | nil => intro vs _ h u hu; simp only [VRs] at h; subst h; cases hu
    | cons a q ih =>
      intro vs ha h u hu
      simp only [VRs] at h
      obtain ⟨x, q', e, hx, hq⟩ := h
      simp only [List.all_cons, Bool.and_eq_true] at ha
      rw [e] at hu
      rcases List.mem_cons.1 hu with hu | hu
      · subst hu; exact hx.single ha.1
      · exact ih _ ha.2 hq u hu
  cases v with
  | agg l =>
    simp only [VR] at hv
    obtain ⟨cs, rfl, hv⟩ := hv
    exact ⟨hv, one _ _ h1 hv⟩
  | undef => cases h1
  | tup l => cases h1
  | _ =>
    all_goals
      have hs := hv.single (by simpa [parts] using h1)
      have hc : val.cells = #[val] := by cases val <;> first | rfl | cases hs
      rw [hc]
      exact ⟨VRs.one hv, fun u hu => by simp at hu; subst hu; exact hs⟩
theorem storeAt_byte {t : Nat} {i : TI} (hi : TOk1 P t i) {g off e : Nat} {fz : Nat × Nat} {cur : Array Value} {n : Int} (hg : w.heap[g]? = some (.cells cur e fz)) (hfz : cur.size ≤ fz.1) (hl : i.size = 1) (hf : off < cur.size) :
    (Instr.storeAt t (.pointer (some ⟨g, off, none⟩)) (.int .u8 n)).run P w = .ok () (w.setCells g off [.int .u8 n]) := by
  obtain ⟨I, z, k1, k2, k3, k4, k5, k6⟩ := hi.info
  have hc : ∀ k, w.cell? ⟨g, k, none⟩ = cur[k]? := fun k => cell_of_row w g k cur e fz hg
  have hr := run_storeCells_cells (P := P) g off [Value.int .u8 n] 0 w (fun j hj => by
      simp at hj
      rw [hc, Array.getElem?_eq_getElem (by omega)]; rfl) (fun j hj => by
      simp at hj
      simp only [World.frozen?, hg]
      obtain ⟨lo, hi⟩ := fz
      dsimp only at hfz ⊢
      rw [decide_eq_false (by omega)]
      rfl) (by intro u hu; simp at hu; subst hu; rfl)
  simp only [Nat.add_zero] at hr
  have hvc : (Value.int .u8 n).cells = #[Value.int .u8 n] := rfl
  simp only [Instr.storeAt, Instr.sureAddr, Sem.run_bind, Sem.run_pure, Result.andThen_ok, storeVar, sizeOf, typeInfo, program, Sem.run, k1, k2, hvc, hl, ne_eq, not_true, if_false, hr]
  simp [hr]
theorem setCells_blkf (g : Nat) : ∀ (vs : List Value) (o : Nat) (w : World) (cur : Array Value) (e : Nat) (fz : Nat × Nat), w.heap[g]? = some (.cells cur e fz) →
    ∃ cur' : Array Value, (w.setCells g o vs).heap[g]? = some (.cells cur' e fz) ∧ cur'.toList = setMany cur.toList o vs
  | [], _, _, cur, _, _, h => ⟨cur, h, rfl⟩
  | v :: r, o, w, cur, e, fz, h => by
    have h1 : (w.setCell ⟨g, o, none⟩ v).heap[g]? = some (.cells (cur.setIfInBounds o v) e fz) := by
      rw [heap_setCell, if_pos rfl, h]; rfl
    obtain ⟨cur', k1, k2⟩ := setCells_blkf g r (o + 1) _ _ e fz h1
    exact ⟨cur', k1, by rw [k2]; simp [setMany]⟩
theorem storeAt_run {t : Nat} {i : TI} (hi : TOk1 P t i) {g off e : Nat} {cur : Array Value} {val : Value} (hg : w.heap[g]? = some (.cells cur e (0, 0))) (hl : val.cells.size = i.size) (hf : off + i.size ≤ cur.size) (h1 : ∀ u ∈ val.cells.toList, u.oneCell' = true) :
    (Instr.storeAt t (.pointer (some ⟨g, off, none⟩)) val).run P w = .ok () (w.setCells g off val.cells.toList) := by
  obtain ⟨I, z, k1, k2, k3, k4, k5, k6⟩ := hi.info
  have hc : ∀ k, w.cell? ⟨g, k, none⟩ = cur[k]? := fun k => cell_of_row w g k cur e (0, 0) hg
  have hr := run_storeCells_cells (P := P) g off val.cells.toList 0 w (fun j hj => by
      rw [Array.length_toList, hl] at hj
      rw [hc, Array.getElem?_eq_getElem (by omega)]; rfl) (fun j hj => by simp [World.frozen?, hg]) h1
  simp only [Nat.add_zero] at hr
  simp only [Instr.storeAt, Instr.sureAddr, Sem.run_bind, Sem.run_pure, Result.andThen_ok, storeVar, sizeOf, typeInfo, program, Sem.run, k1, k2, hl, ne_eq, not_true, if_false, hr]
end
end Go.Proofs.YtiacidpjplmgaaaDoorD
