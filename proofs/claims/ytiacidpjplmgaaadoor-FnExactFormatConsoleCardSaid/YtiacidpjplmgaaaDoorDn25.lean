/- Words of this session's own: a law that answers true; what a law's arguments read as. -/
import Derived.Test.YtiacidpjplmgaaaDoorDn24
import Derived.SizedLaws
import Derived.ChangeSlices
import Derived.ChangeArms
import Derived.DataReads
import Derived.Below
set_option linter.unusedVariables false
set_option linter.unusedSimpArgs false
namespace Go.Proofs.YtiacidpjplmgaaaDoorD
open Go.RowKit
section
variable {P : Program}
/-- Where a law begins. -/
def Ctx.law (W : World) : Ctx := ⟨fun k => k < W.heap.size, fun _ => .slice none 0 0, fun _ => False⟩
theorem VRs.nil' {c : Ctx} {w : World} : VRs c w [] [] := by simp only [VRs]
theorem VRs.cons' {c : Ctx} {w : World} {v : V} {x : Value} {r : List V} {q : List Value} (h : VR c w v x) (hr : VRs c w r q) : VRs c w (v :: r) (x :: q) := by simp only [VRs]; exact ⟨x, q, rfl, h, hr⟩
theorem VR.agg' {c : Ctx} {w : World} {T : Ty} {x : T.D} {cs : Array Value} (h : Rd c.S w T x cs.toList) : VR c w (.agg (Go.Proofs.YtiacidpjplmgaaaDoorD.leaves T x)) (.agg cs) := by simp only [VR]; exact ⟨cs, rfl, VR.leaves h⟩
theorem VR.val' {c : Ctx} {w : World} {T : Ty} {x : T.D} {v : Value} (h : Rd c.S w T x [v]) : VR c w (.val T x) v := by simp only [VR]; exact h
theorem law_ok {f : FuncId} {ps : List Sh} {g : RT (tysL ps) → Option (RT (tysL ([.d .bool none] ++ flatL (bxsL ps))))} {x : RT (tysL ps)} {r : RT (tysL ([.d .bool none] ++ flatL (bxsL ps)))} (hS : Sound P f ⟨ps, [.d .bool none], g⟩) (hg : g x = some r) (hr : ofRT _ r = [⟨.bool, true⟩]) (hbx : bxsL ps = [])
    {vs : List V} (hvs : (inVL ps (ofRT _ x) 0).vs = vs) (hheap : (inVL ps (ofRT _ x) 0).heap = []) {W : World} {vals : List Value} (hv : VRs (Ctx.law W) W vs vals) (g1 : GN ≤ W.heap.size) (g2 : GP W.heap) :
    Calls P f vals.toArray W fun e W' => e = .returned (.bool true) ∧ Below W.heap.size W W' := by
  have hH : HR ⟨W, fun _ => False, fun k => k < W.heap.size, [], fun _ => undef, g1, fun _ _ h => h, g2⟩ (Ctx.law W) W [] :=
    ⟨(by intro b x hb; cases hb), (by intro b x g hb; cases hb), (by intro b d x y g _ hb; cases hb), ⟨rfl, rfl, rfl, Nat.le_refl _, fun _ _ _ => rfl⟩, fun k hk => hk, fun k hk => .inl hk⟩
  refine (hS.2 x r hg ⟨W, fun _ => False, fun k => k < W.heap.size, [], fun _ => undef, g1, fun _ _ h => h, g2⟩ (Ctx.law W) W vals rfl rfl (fun b hb => absurd hb id) (by rw [hheap]; exact hH) (by rw [hvs]; exact hv)).mono fun e W' ⟨v, hv, c', h', us, vals', p, a1, a2, a3, a4, a5, a6, a7, a8, a9, a10, a11⟩ => ?_
  subst hv
  refine ⟨?_, ⟨a2.keeps.os, a2.keeps.tape, a2.keeps.output, a2.keeps.size, fun k hk => a2.keeps.heap k hk id⟩⟩
  dsimp only at a4 a10 a5
  rw [hbx] at a4
  obtain ⟨q, q1, q2, q3, q4⟩ := passL_ok a4
  cases q1
  obtain ⟨c1, E, _, _, _, _, k5, _⟩ := q4 (c0 := ⟨fun _ => True, fun _ => .slice none 0 0, fun _ => False⟩) (n := 0) (rest := []) a2 (fun _ _ h => h) a3 (fun _ => ⟨fun _ _ => trivial, fun _ _ _ _ => trivial⟩) (fun _ _ _ h => h)
  rw [List.append_nil, a5, hr] at k5
  simp only [flatL, List.append_nil, inVL, Sh.inV, inD, VRs] at k5
  obtain ⟨y, ys, e, hy, e2⟩ := k5
  subst e2
  simp only [VR, Rd, List.cons.injEq, and_true] at hy
  subst hy
  rw [← a10, e]
  rfl

/-! ### Arguments -/
/-- Data of type t reads as data T, of which ok is known. -/
def Opens (P : Program) (t : TypeId) (T : Ty) (ok : T.D → Prop) : Prop :=
  T.cells = P.cellsOf t ∧ ∀ {H : Type} (enc : TypeId × Value → H) (w : World) (base : Nat) (spare : Nat → Bool) (held : Bool) (fuel : Nat) (cs : List Value) (x : DataW H × List MemPlace),
    DataW.trod enc P w base spare held fuel t cs = some x → (∀ n ∈ x.1.weights P t, n ≤ 140737488351232) → ∃ a, Rd (fun k => k < w.heap.size) w T a cs ∧ ok a
theorem Opens.int {t : TypeId} {k : IntKind} (ht : P.underlying t = some (.int k)) (hc : P.cellsOf t = 1) : Opens P t (.int k) (fun a => (Lit.int k a).wf = true) := by
  refine ⟨hc.symm, fun enc w base spare held fuel cs x h _ => ?_⟩
  obtain ⟨n, rfl, _, hw⟩ := DataW.trod_int ht h
  exact ⟨n, rfl, hw⟩
theorem Opens.bool {t : TypeId} (ht : P.underlying t = some .bool) (hc : P.cellsOf t = 1) : Opens P t .bool (fun _ => True) := by
  refine ⟨hc.symm, fun enc w base spare held fuel cs x h _ => ?_⟩
  obtain ⟨n, rfl, _⟩ := DataW.trod_bool ht h
  exact ⟨n, rfl, trivial⟩
theorem Opens.string {t : TypeId} (ht : P.underlying t = some .string) (hc : P.cellsOf t = 1) : Opens P t .str (fun s => s.size ≤ 140737488351232) := by
  refine ⟨hc.symm, fun enc w base spare held fuel cs x h hw => ?_⟩
  obtain ⟨s, rfl, rfl, _⟩ := DataW.trod_string ht h
  refine ⟨s, rfl, ?_⟩
  have := hw s.data.toList.length (by simp [DataW.weights])
  rwa [Array.length_toList] at this
theorem weightsAll_mem {H : Type} {e : TypeId} : ∀ {l : List (DataW H)} {d : DataW H}, d ∈ l → ∀ n ∈ d.weights P e, n ∈ DataW.weightsAll P e l
  | d0 :: l, d, hd, n, hn => by
    rw [DataW.weightsAll, List.mem_append]
    rcases List.mem_cons.1 hd with rfl | hd
    · exact .inl hn
    · exact .inr (weightsAll_mem hd n hn)
theorem list_of {α : Type} (p : Nat → α → Prop) : ∀ n : Nat, (∀ i, i < n → ∃ a, p i a) → ∃ l : List α, l.length = n ∧ ∀ i a, l[i]? = some a → p i a
  | 0, _ => ⟨[], rfl, fun i a h => by simp at h⟩
  | n + 1, h => by
    obtain ⟨l, hl, hp⟩ := list_of p n (fun i hi => h i (by omega))
    obtain ⟨a, ha⟩ := h n (by omega)
    refine ⟨l ++ [a], by simp [hl], fun i b hb => ?_⟩
    rcases Nat.lt_or_ge i n with hi | hi
    · rw [List.getElem?_append_left (by omega)] at hb
      exact hp i b hb
    · have : i = n := by
        have := (List.getElem?_eq_some_iff.1 hb).1
        simp at this
        omega
      subst this
      rw [← hl, List.getElem?_append_right (Nat.le_refl _)] at hb
      simp at hb
      subst hb
      exact ha
theorem flat_pairs {α : Type} {p : α → List Value → Prop} : ∀ {l : List (α × List Value)}, (∀ x ∈ l, p x.1 x.2) → Flat p (l.map (·.1)) (l.map (·.2)).flatten
  | [], _ => rfl
  | x :: r, h => ⟨x.2, _, by simp, h x List.mem_cons_self, flat_pairs (fun y hy => h y (List.mem_cons_of_mem _ hy))⟩
theorem flat_at {α : Type} {n : Nat} : ∀ {l : List (α × List Value)}, (∀ x ∈ l, x.2.length = n) → ∀ j u, (l.map (·.2)).flatten[j]? = some u → ∃ i r y, l[i]? = some y ∧ y.2[r]? = some u ∧ j = i * n + r
  | [], _, j, u, h => by simp at h
  | x :: q, hl, j, u, h => by
    have hx := hl x List.mem_cons_self
    simp only [List.map_cons, List.flatten_cons] at h
    rcases Nat.lt_or_ge j n with hj | hj
    · rw [List.getElem?_append_left (by omega)] at h
      exact ⟨0, j, x, rfl, h, by omega⟩
    · rw [List.getElem?_append_right (by omega), hx] at h
      obtain ⟨i, r, y, h1, h2, h3⟩ := flat_at (fun y hy => hl y (List.mem_cons_of_mem _ hy)) (j - n) u h
      exact ⟨i + 1, r, y, by simpa using h1, h2, by rw [Nat.succ_mul]; omega⟩
theorem cell_lt {w : World} {a : Addr} {v : Value} (h : w.cell? a = some v) : a.block < w.heap.size := by
  unfold World.cell? at h
  split at h
  · rename_i hb
    exact (Array.getElem?_eq_some_iff.1 hb).1
  · cases h
theorem Opens.slice {t e : TypeId} {T : Ty} {ok : T.D → Prop} (ht : P.underlying t = some (.slice e)) (hc : P.cellsOf t = 1) (h : Opens P e T ok) (B : Nat) (hB : P.bytesOf e = B) :
    Opens P t (.sl T) (fun xs => List.length (α := T.D) xs * B ≤ 140737488351232 ∧ ∀ x ∈ (show List T.D from xs), ok x) := by
  refine ⟨hc.symm, fun enc w base spare held fuel cs x hx hw => ?_⟩
  rcases DataW.trod_slice ht hx with ⟨rfl, rfl⟩ | ⟨a, len, cap, elems, rest, n, rfl, rfl, rfl, hb, hl, hm, hlen, hel, _, _⟩
  · exact ⟨[], ⟨none, 0, [], rfl, ⟨Nat.le_refl _, fun _ => rfl⟩, rfl, fun h => absurd rfl h⟩, by simp, by simp⟩
  · have hone : ∀ i, i < len → ∃ y : T.D × List Value, ok y.1 ∧ y.2.length = T.cells ∧ Rd (fun k => k < w.heap.size) w T y.1 y.2 ∧ ∀ j u, y.2[j]? = some u → w.cell? (a.add (i * T.cells + j)) = some u := by
      intro i hi
      have h1 := hel i hi
      obtain ⟨y, hy⟩ : ∃ y, elems[i]? = some y := ⟨_, List.getElem?_eq_getElem (by omega)⟩
      rw [hy] at h1
      obtain ⟨c, hc1, hc2⟩ := Option.bind_eq_some_iff.1 h1
      obtain ⟨b, hK, hok⟩ := h.2 enc w base spare held n c y hc2 (fun m hm' => hw m (by
        rw [DataW.weights, ht]
        refine List.mem_cons_of_mem _ (List.mem_append_left _ (weightsAll_mem (d := y.1) ?_ m hm'))
        exact List.mem_map.2 ⟨y, List.mem_of_getElem? hy, rfl⟩))
      refine ⟨(b, c), hok, hK.len, hK, fun j u hu => ?_⟩
      obtain ⟨_, hcl, hcell⟩ := World.cells?_some hc1
      have hj : j < c.length := (List.getElem?_eq_some_iff.1 hu).1
      have h2 := hcell j (by omega)
      dsimp only at hu
      rw [hu, add_add] at h2
      rw [h.1]
      exact h2
    obtain ⟨ys, hyl, hyp⟩ := list_of _ len hone
    have hall : ∀ y ∈ ys, ∃ i, ys[i]? = some y := fun y hy => List.getElem?_of_mem hy
    have hcells : ∀ j u, (ys.map (·.2)).flatten[j]? = some u → w.cell? (a.add j) = some u := fun j u hu => by
      obtain ⟨i, r, y, h1, h2, h3⟩ := flat_at (n := T.cells) (fun y hy => by obtain ⟨i, hi⟩ := hall y hy; exact (hyp i y hi).2.1) j u hu
      rw [h3]
      exact (hyp i y h1).2.2.2 r u h2
    refine ⟨ys.map (·.1), ⟨some a, cap, (ys.map (·.2)).flatten, by rw [List.length_map, hyl], ⟨by rw [List.length_map]; omega, fun h => by cases h⟩, flat_pairs (fun y hy => by obtain ⟨i, hi⟩ := hall y hy; exact (hyp i y hi).2.2.1), fun hi => ⟨a, rfl, ?_, hcells⟩⟩, ?_, ?_⟩
    · obtain ⟨u, hu⟩ : ∃ u, (ys.map (·.2)).flatten[0]? = some u := by
        cases hz : (ys.map (·.2)).flatten with
        | nil => exact absurd hz hi
        | cons z zs => exact ⟨z, rfl⟩
      have := cell_lt (hcells 0 u hu)
      rwa [add_zero] at this
    · have h1 := hw (((elems.map (·.1)).length + (rest.map (·.1)).length) * P.bytesOf e) (by
        rw [DataW.weights, ht]
        exact List.mem_cons_self)
      rw [hB, List.length_map, hlen] at h1
      rw [List.length_map, hyl]
      exact Nat.le_trans (Nat.mul_le_mul_right _ (Nat.le_add_right _ _)) h1
    · intro x hx
      obtain ⟨y, hy, rfl⟩ := List.mem_map.1 hx
      obtain ⟨i, hi⟩ := hall y hy
      exact (hyp i y hi).1
/-- The fields from offset off on read as T. -/
def OpensF (P : Program) (fs : List Field) (off : Nat) (T : Ty) (ok : T.D → Prop) : Prop :=
  ∀ (H : Type) (enc : TypeId × Value → H) (w : World) (base : Nat) (spare : Nat → Bool) (held : Bool) (n : Nat) (cs : List Value) (xs : List (DataW H × List MemPlace)),
    cs.length = off + T.cells → xs.length = fs.length → (∀ (i : Nat) (f : Field), fs[i]? = some f → DataW.trod enc P w base spare held n f.type ((cs.drop f.offset).take (P.cellsOf f.type)) = xs[i]?) →
    (∀ m ∈ DataW.weightsEach P (fs.map (·.type)) (xs.map (·.1)), m ≤ 140737488351232) → ∃ a, Rd (fun k => k < w.heap.size) w T a (cs.drop off) ∧ ok a
theorem OpensF.one {f : Field} {off : Nat} {T : Ty} {ok : T.D → Prop} (h : Opens P f.type T ok) (ho : f.offset = off) : OpensF P [f] off T ok := by
  intro H enc w base spare held n cs xs hl hxl hf hw
  match xs, hxl with
  | [y], _ =>
    have h1 := hf 0 f rfl
    obtain ⟨a, hK, hok⟩ := h.2 enc w base spare held n _ y h1 (fun m hm => hw m (by simp [DataW.weightsEach, hm]))
    refine ⟨a, ?_, hok⟩
    rw [ho, List.take_of_length_le (by rw [List.length_drop, hl, h.1]; omega)] at hK
    exact hK
theorem OpensF.cons {f : Field} {fs : List Field} {off off1 : Nat} {T T1 : Ty} {ok : T.D → Prop} {ok1 : T1.D → Prop} (h : Opens P f.type T ok) (ho : f.offset = off) (ho0 : off + T.cells = off1) (h1 : OpensF P fs off1 T1 ok1) :
    OpensF P (f :: fs) off (.pair T T1) (fun x => ok x.1 ∧ ok1 x.2) := by
  have ho1 : off + P.cellsOf f.type = off1 := by rw [← h.1]; exact ho0
  intro H enc w base spare held n cs xs hl hxl hf hw
  match xs, hxl with
  | y :: ys, hxl =>
    have h2 := hf 0 f rfl
    have hsz : (Ty.pair T T1).cells = T.cells + T1.cells := rfl
    obtain ⟨a, hK, hok⟩ := h.2 enc w base spare held n _ y h2 (fun m hm => hw m (by simp [DataW.weightsEach, hm]))
    obtain ⟨b, hK1, hok1⟩ := h1 H enc w base spare held n cs ys (by have := h.1; omega) (by simpa using hxl) (fun i g hg => hf (i + 1) g (by simpa using hg)) (fun m hm => hw m (by simp only [List.map_cons, DataW.weightsEach, List.mem_append]; exact .inr hm))
    refine ⟨(a, b), ⟨(cs.drop off).take (P.cellsOf f.type), cs.drop off1, ?_, by rw [← ho]; exact hK, hK1⟩, hok, hok1⟩
    rw [← ho1, ← List.drop_drop, List.take_append_drop]
theorem Opens.struct {t : TypeId} {fs : List Field} {T : Ty} {ok : T.D → Prop} (ht : P.underlying t = some (.struct fs.toArray)) (hc : T.cells = P.cellsOf t) (h : OpensF P fs 0 T ok) : Opens P t T ok := by
  refine ⟨hc, fun enc w base spare held fuel cs x hx hw => ?_⟩
  obtain ⟨xs, n, rfl, rfl, hl, hxl, hf⟩ := DataW.trod_struct ht hx
  obtain ⟨a, hK, hok⟩ := h _ enc w base spare held n cs xs (by rw [hl, ← hc]; omega) (by simpa using hxl) (fun i f hg => hf i f (by simpa using hg)) (fun m hm => hw m (by rw [DataW.weights, ht]; simpa using hm))
  exact ⟨a, hK, hok⟩
/-! ### A struct within a struct: its parts laid flat -/
def flatP : Ty → Ty → Ty
  | .pair a b, c => .pair a (flatP b c)
  | .int k, c => .pair (.int k) c
  | .bool, c => .pair .bool c
  | .str, c => .pair .str c
  | .fn, c => .pair .fn c
  | .sl t, c => .pair (.sl t) c
def unflat : (T C : Ty) → (flatP T C).D → T.D × C.D
  | .pair _ b, c, y => let z := unflat b c y.2; ((y.1, z.1), z.2)
  | .int _, _, y => y
  | .bool, _, y => y
  | .str, _, y => y
  | .fn, _, y => y
  | .sl _, _, y => y
def reflat : (T C : Ty) → T.D × C.D → (flatP T C).D
  | .pair _ b, c, x => (x.1.1, reflat b c (x.1.2, x.2))
  | .int _, _, y => y
  | .bool, _, y => y
  | .str, _, y => y
  | .fn, _, y => y
  | .sl _, _, y => y
theorem unflat_reflat : ∀ (T C : Ty) (x : T.D × C.D), unflat T C (reflat T C x) = x
  | .pair a b, c, x => by
    have := unflat_reflat b c (x.1.2, x.2)
    show (let z := unflat b c (reflat b c (x.1.2, x.2)); (((x.1.1, z.1), z.2) : (Ty.pair a b).D × c.D)) = x
    rw [this]
  | .int _, _, _ | .bool, _, _ | .str, _, _ | .fn, _, _ | .sl _, _, _ => rfl
theorem Rd.reflat {S : Nat → Prop} {w : World} : ∀ {T C : Ty} {x : T.D × C.D} {cs : List Value}, Rd S w (.pair T C) x cs → Rd S w (flatP T C) (Go.Proofs.YtiacidpjplmgaaaDoorD.reflat T C x) cs
  | .pair a b, c, x, cs, ⟨c1, d, e, ⟨c2, c3, e2, h1, h2⟩, h3⟩ => ⟨c2, c3 ++ d, by rw [e, e2, List.append_assoc], h1, Rd.reflat (T := b) (C := c) (x := (x.1.2, x.2)) ⟨c3, d, rfl, h2, h3⟩⟩
  | .int _, _, _, _, h | .bool, _, _, _, h | .str, _, _, _, h | .fn, _, _, _, h | .sl _, _, _, _, h => h
theorem flatP_cells : ∀ (T C : Ty), (flatP T C).cells = T.cells + C.cells
  | .pair a b, c => by simp only [flatP, Ty.cells, flatP_cells b c, Nat.add_assoc]
  | .int _, _ | .bool, _ | .str, _ | .fn, _ | .sl _, _ => rfl
theorem OpensF.flat {fs : List Field} {off : Nat} {T C : Ty} {ok : T.D × C.D → Prop} (h : OpensF P fs off (.pair T C) ok) : OpensF P fs off (flatP T C) (fun y => ok (unflat T C y)) := by
  intro H enc w base spare held n cs xs hl hxl hf hw
  obtain ⟨a, h1, h2⟩ := h H enc w base spare held n cs xs (by rw [hl, flatP_cells]; rfl) hxl hf hw
  exact ⟨reflat T C a, Rd.reflat h1, by dsimp only; rw [unflat_reflat]; exact h2⟩
/-! ### The types' table -/
theorem TOk1.of {t : Nat} {i : TI} (h1 : P.underlying t = some i.desc) (h2 : i.ty.cells = i.size) (hI : (P.info? t).isSome = true) (h3 : ((P.info? t).get hI).size = i.size) (h4 : ((P.info? t).get hI).bytes = i.bytes) (hz : ((P.info? t).get hI).zero.isSome = true)
    (h5 : (((P.info? t).get hI).zero.get hz).cells.toList = zcells i.ty) (h6 : i.agg = true → ((P.info? t).get hI).zero.get hz = .agg (((P.info? t).get hI).zero.get hz).cells)
    (h7 : i.eqs = true → P.stoodInHeld t = false ∧ P.eqGuardType P.depth t = false ∧ (P.fieldsOf t).toList.all (fun f => f.name != "_") = true) : TOk1 P t i :=
  ⟨h1, h2, h7, _, _, (Option.some_get hI).symm, h3, h4, (Option.some_get hz).symm, h5, fun h => ⟨_, h6 h⟩⟩
end
end Go.Proofs.YtiacidpjplmgaaaDoorD
