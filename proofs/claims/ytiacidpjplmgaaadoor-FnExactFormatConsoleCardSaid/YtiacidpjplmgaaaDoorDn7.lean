/- Words of this session's own: new rows and boxes, literals. -/
import Derived.Test.YtiacidpjplmgaaaDoorDn6
import Derived.Laws.Tables
import Derived.Great.BuildSlice
set_option linter.unusedVariables false
set_option linter.unusedSimpArgs false
namespace Go.Proofs.YtiacidpjplmgaaaDoorD
section
variable {P : Program} {τ : TT} {F : Fr} {c : Ctx} {w w' : World} {hp : Hp} {α : Type}
def Ctx.ext (c : Ctx) (b : Nat) (v : Value) : Ctx := ⟨c.S, fun d => if d = b then v else c.ρ d, fun d => c.M d ∨ d = b⟩
theorem Ctx.To.ext {b : Nat} {v : Value} (hb : ¬ c.M b) (hw : ∀ k, c.S k → w'.heap[k]? = w.heap[k]?) : c.To (c.ext b v) w w' :=
  ⟨fun _ h => h, fun _ h => .inl h, fun d hd => if_neg (show ¬ d = b from fun e => hb (by rw [← e]; exact hd)), hw⟩
theorem Ctx.ext_at (c : Ctx) (b : Nat) (v : Value) : (c.ext b v).ρ b = v := if_pos rfl
/-- A new row or box, at a later world in which what is owned and what stays is as it was. -/
theorem HR.new (H : HR F c w hp) {b : Nat} {v : Value} {x : Blk} (hb : ¬ c.M b) (hk : F.Keeps w') (hsz : w.heap.size ≤ w'.heap.size)
    (hS : ∀ k, c.S k → w'.heap[k]? = w.heap[k]?) (ho : ∀ d y g, hget hp d = some y → y.own = true → vblk (c.ρ d) = some g → w'.heap[g]? = w.heap[g]?)
    (hx : BR (c.ext b v) w' b x) (hv : ∀ g, x.own = true → vblk v = some g → ¬ c.S g ∧ (F.w0.heap.size ≤ g ∨ F.Hd g) ∧ g < w'.heap.size ∧ ∀ d y, hget hp d = some y → y.own = true → vblk (c.ρ d) ≠ some g) :
    c.To (c.ext b v) w w' ∧ HR F (c.ext b v) w' ((b, some x) :: hp) := by
  have hto : c.To (c.ext b v) w w' := .ext hb hS
  have hρ : ∀ d y, hget hp d = some y → (c.ext b v).ρ d = c.ρ d := fun d y hd => hto.ρ d (H.blk d y hd).1
  refine ⟨hto, (H.to hto rfl ho hk hsz).put b x (.inr rfl) hx (fun g hg he => ?_)⟩
  rw [Ctx.ext_at] at he
  obtain ⟨h1, h2, h3, h4⟩ := hv g hg he
  exact ⟨h1, h2, h3, fun d y hne hd hy => by rw [hρ d y hd]; exact h4 d y hd hy⟩
/-- The same where a block is made. -/
theorem HR.made (H : HR F c w hp) {b : Nat} {v : Value} {x : Blk} {o : Obj} (hb : ¬ c.M b) (hx : c.To (c.ext b v) w (w.alloc o) → BR (c.ext b v) (w.alloc o) b x) (hv : vblk v = some w.heap.size) :
    c.To (c.ext b v) w (w.alloc o) ∧ HR F (c.ext b v) (w.alloc o) ((b, some x) :: hp) := by
  have hold : ∀ k, k < w.heap.size → (w.alloc o).heap[k]? = w.heap[k]? := fun k hk => heap_alloc_old w o k hk
  have hS : ∀ k, c.S k → (w.alloc o).heap[k]? = w.heap[k]? := fun k hk => hold k (H.stays k hk)
  refine H.new hb (H.keeps.alloc o) (by rw [alloc_size]; omega) hS (fun d y g hd hy hg => hold g (H.own d y g hd hy hg).2.2) (hx (.ext hb hS)) (fun g _ hg => ?_)
  have : g = w.heap.size := by rw [hv] at hg; exact (Option.some.inj hg).symm
  subst this
  refine ⟨fun h => ?_, .inl H.keeps.size, by rw [alloc_size]; omega, fun d y hd hy he => ?_⟩
  · have := H.stays _ h; omega
  · have := (H.own d y _ hd hy he).2.2; omega
theorem Ctx.ext_M {b fr d : Nat} {v : Value} (h : (c.ext b v).M d) (hb : fr ≤ b ∧ b < fr + 16) : c.M d ∨ fr ≤ d ∧ d < fr + 16 := h.imp id (fun e => by subst e; exact hb)

/-! ### Literals -/
theorem foldl_set (off : Nat) : ∀ (vs : List Value) (k : Nat) (cells : Array Value), ((vs.zipIdx k).foldl (fun cs (p : Value × Nat) => cs.setIfInBounds (off + p.2) p.1) cells).toList = setMany cells.toList (off + k) vs
  | [], _, _ => rfl
  | v :: r, k, cells => by
    rw [List.zipIdx_cons, List.foldl_cons, foldl_set off r (k + 1), setMany]
    congr 1
    simp
theorem fill_cons {place : Nat → Option (Nat × Nat)} {cells : Array Value} {i off size : Nat} {v : Value} {rest : List (Nat × Value)} (hp : place i = some (off, size)) (hs : v.cells.size = size) (hf : off + size ≤ cells.size) :
    ∃ cells' : Array Value, cells'.toList = setMany cells.toList off v.cells.toList ∧ Instr.fill place cells ((i, v) :: rest) = Instr.fill place cells' rest := by
  refine ⟨v.cells.zipIdx.foldl (fun cs (p : Value × Nat) => cs.setIfInBounds (off + p.2) p.1) cells, ?_, ?_⟩
  · rw [← Array.foldl_toList, Array.toList_zipIdx]
    exact foldl_set off v.cells.toList 0 cells
  · show (match place i with | none => none | some (off, size) => if v.cells.size ≠ size || off + v.cells.size > cells.size then none else Instr.fill place (v.cells.zipIdx.foldl (fun cs (c, j) => cs.setIfInBounds (off + j) c) cells) rest) = _
    rw [hp]
    dsimp only
    rw [if_neg (by simp; omega)]
theorem fillV_ok (hτ : TOk P τ) {fs : List Field} {place : Nat → Option (Nat × Nat)} (hpl : ∀ (i : Nat) (f : Field) (ti : TI), fs[i]? = some f → get τ f.type = some ti → place i = some (f.offset, ti.size)) {g : Operand → V} :
    ∀ {ps : List (Nat × Operand)} {l : List V} {α : Type} {K : List V → Option α} {r : α}, fillV τ fs (ps.map fun p => (p.1, g p.2)) l K = some r →
    ∃ l', K l' = some r ∧ (∀ {β : Type} (K' : List V → Option β), fillV τ fs (ps.map fun p => (p.1, g p.2)) l K' = K' l') ∧
      ∀ {c : Ctx} {w : World} {ev : Operand → Value} {cells : Array Value}, (∀ x, VR c w (g x) (ev x)) → VRs c w l cells.toList → ∃ cells' : Array Value, Instr.fill place cells (ps.map fun p => (p.1, ev p.2)) = some cells' ∧ VRs c w l' cells'.toList
  | [], l, _, K, r, he => ⟨l, he, fun _ => rfl, fun hg hv => ⟨_, rfl, hv⟩⟩
  | (i, x) :: q, l, _, K, r, he => by
    simp only [List.map_cons] at he
    unfold fillV at he
    split at he
    · cases he
    rename_i f hf
    split at he
    · cases he
    rename_i ti hti
    split at he
    case h_2 => cases he
    rename_i h1 h2 h3
    have h1' := Nat.eq_of_beq_eq_true h1
    have h2' := Nat.le_of_ble_eq_true h2
    obtain ⟨l', k1, k2, k3⟩ := fillV_ok hτ hpl he
    refine ⟨l', k1, fun K' => ?_, fun {c w ev cells} hg hv => ?_⟩
    · simp only [List.map_cons]; unfold fillV; simp only [hf, hti, h1, h2, h3]; exact k2 K'
    · obtain ⟨q1, q2⟩ := parts_ok h3 (hg x)
      have hl1 := q1.len
      have hl2 := hv.len
      rw [Array.length_toList] at hl1 hl2
      obtain ⟨cells1, m1, m2⟩ := fill_cons (rest := q.map fun p => (p.1, ev p.2)) (v := ev x) (cells := cells) (hpl i f ti hf hti) (by omega) (by omega)
      have hv1 : VRs c w (l.take f.offset ++ (parts (g x) ++ l.drop (f.offset + ti.size))) cells1.toList := by
        rw [m1, setMany_eq _ _ _ (by rw [Array.length_toList, Array.length_toList]; omega), Array.length_toList, hl1, h1']
        exact (hv.take _).append (q1.append (hv.drop _))
      obtain ⟨cells2, n1, n2⟩ := k3 hg hv1
      exact ⟨cells2, by rw [List.map_cons, m2]; exact n1, n2⟩
theorem all_places (hτ : TOk P τ) : ∀ (fs : List Field), fs.all (fun (f : Field) => match get τ f.type with | some _ => true | none => false) = true →
    ∃ places, fs.mapM (fun (f : Field) => (P.info? f.type).map fun i => (f.offset, i.size)) = some places ∧ ∀ (i : Nat) (f : Field) (ti : TI), fs[i]? = some f → get τ f.type = some ti → places[i]? = some (f.offset, ti.size)
  | [], _ => ⟨[], rfl, fun i f ti h => by simp at h⟩
  | f :: fs, h => by
    simp only [List.all_cons, Bool.and_eq_true] at h
    obtain ⟨h1, h2⟩ := h
    split at h1
    case h_2 => cases h1
    rename_i ti hti
    obtain ⟨I, z, k1, k2, _⟩ := (hτ _ _ hti).info
    obtain ⟨places, m1, m2⟩ := all_places hτ fs h2
    refine ⟨(f.offset, ti.size) :: places, ?_, fun i f' ti' hf hti' => ?_⟩
    · simp [List.mapM_cons, k1, k2, m1]
    · cases i with
      | zero => simp at hf; subst hf; rw [hti] at hti'; cases hti'; rfl
      | succ i => simpa using m2 i f' ti' (by simpa using hf) hti'
end
end Go.Proofs.YtiacidpjplmgaaaDoorD
