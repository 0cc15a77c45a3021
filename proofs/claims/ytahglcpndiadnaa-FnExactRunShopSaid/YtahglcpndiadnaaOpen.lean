/- Words of this session's own: what a law's argument (a struct, a slice, nested or not) reads as, in one lemma a kind. -/
import Derived.Test.YtahglcpndiadnaaVWords
import Derived.Test.YtahglcpndiadnaaVLast
import Derived.SizedLaws
import Derived.ChangeSlices
import Derived.ChangeArms
import Derived.DataReads
namespace Go.Proofs.YtahglcpndiadnaaOpen
open Go.RowKit Go.Proofs.YtahglcpndiadnaaW.PrintWords Go.Proofs.YtahglcpndiadnaaW.PrintLast

/-- Data of type t reads as a value of kind d, of which ok is known. -/
def Opens (P : Program) (t : TypeId) {α : Type} (d : Kd α) (ok : α → Prop) : Prop :=
  d.sz = P.cellsOf t ∧ ∀ {H : Type} (enc : TypeId × Value → H) (w : World) (base : Nat) (spare : Nat → Bool) (held : Bool) (fuel : Nat) (cs : List Value) (x : DataW H × List MemPlace),
    DataW.trod enc P w base spare held fuel t cs = some x → (∀ n ∈ x.1.weights P t, n ≤ 140737488351232) → ∃ a, d.K w a cs ∧ ok a

theorem Opens.int {P : Program} {t : TypeId} {k : IntKind} (ht : P.underlying t = some (.int k)) (hc : P.cellsOf t = 1) : Opens P t (Kd.int k) (fun a => (Lit.int k a).wf = true) := by
  refine ⟨hc.symm, fun enc w base spare held fuel cs x h _ => ?_⟩
  obtain ⟨n, rfl, _, hw⟩ := DataW.trod_int ht h
  exact ⟨n, rfl, hw⟩

theorem Opens.bool {P : Program} {t : TypeId} (ht : P.underlying t = some .bool) (hc : P.cellsOf t = 1) : Opens P t Kd.bool (fun _ => True) := by
  refine ⟨hc.symm, fun enc w base spare held fuel cs x h _ => ?_⟩
  obtain ⟨n, rfl, _⟩ := DataW.trod_bool ht h
  exact ⟨n, rfl, trivial⟩

theorem Opens.string {P : Program} {t : TypeId} (ht : P.underlying t = some .string) (hc : P.cellsOf t = 1) : Opens P t Kd.string (fun s => s.size ≤ 140737488351232) := by
  refine ⟨hc.symm, fun enc w base spare held fuel cs x h hw => ?_⟩
  obtain ⟨s, rfl, rfl, _⟩ := DataW.trod_string ht h
  refine ⟨s, rfl, ?_⟩
  have := hw s.data.toList.length (by simp [DataW.weights])
  rwa [Array.length_toList] at this

theorem weightsAll_mem {H : Type} {P : Program} {e : TypeId} : ∀ {l : List (DataW H)} {d : DataW H}, d ∈ l → ∀ n ∈ d.weights P e, n ∈ DataW.weightsAll P e l
  | d0 :: l, d, hd, n, hn => by
    rw [DataW.weightsAll, List.mem_append]
    rcases List.mem_cons.1 hd with rfl | hd
    · exact .inl hn
    · exact .inr (weightsAll_mem hd n hn)

theorem list_of {α : Type} (p : Nat → α → Prop) : ∀ n : Nat, (∀ i, i < n → ∃ a, p i a) → ∃ l : List α, l.length = n ∧ ∀ i a, l[i]? = some a → p i a
  | 0, _ => ⟨[], rfl, fun i a h => by simp at h⟩
  | n + 1, h => by
    obtain ⟨l, hl, hp⟩ := list_of p n (fun i hi => h i (by omega))
    obtain ⟨a, ha⟩ := h n (by omega)
    refine ⟨l ++ [a], by simp [hl], fun i b hb => ?_⟩
    rcases Nat.lt_or_ge i n with hi | hi
    · rw [List.getElem?_append_left (by omega)] at hb
      exact hp i b hb
    · have : i = n := by
        have := (List.getElem?_eq_some_iff.1 hb).1
        simp at this
        omega
      subst this
      rw [← hl, List.getElem?_append_right (Nat.le_refl _)] at hb
      simp at hb
      subst hb
      exact ha

theorem add_add' (a : Addr) (i j : Nat) : (a.add i).add j = a.add (i + j) := by
  unfold Addr.add
  repeat' split
  all_goals (first | rfl | omega | (simp_all; done) | (simp_all; omega) | skip)

theorem Opens.slice {P : Program} {t e : TypeId} {α : Type} {d : Kd α} {ok : α → Prop} (ht : P.underlying t = some (.slice e)) (hc : P.cellsOf t = 1) (h : Opens P e d ok) (B : Nat) (hB : P.bytesOf e = B) :
    Opens P t (Kd.slice e d) (fun xs => xs.length * B ≤ 140737488351232 ∧ ∀ x ∈ xs, ok x) := by
  refine ⟨hc.symm, fun enc w base spare held fuel cs x hx hw => ?_⟩
  rcases DataW.trod_slice ht hx with ⟨rfl, rfl⟩ | ⟨a, len, cap, elems, rest, n, rfl, rfl, rfl, hb, hl, hm, hlen, hel, _, _⟩
  · exact ⟨[], ⟨none, 0, rfl, Nat.le_refl _, Kd.C_nil _ _⟩, by simp, by simp⟩
  · have hone : ∀ i, i < len → ∃ b : α, ok b ∧ ∃ c, c.length = d.sz ∧ d.K w b c ∧ ∀ j u, c[j]? = some u → w.cell? (a.add (i * d.sz + j)) = some u := by
      intro i hi
      have h1 := hel i hi
      obtain ⟨y, hy⟩ : ∃ y, elems[i]? = some y := ⟨_, List.getElem?_eq_getElem (by omega)⟩
      rw [hy] at h1
      obtain ⟨c, hc1, hc2⟩ := Option.bind_eq_some_iff.1 h1
      obtain ⟨b, hK, hok⟩ := h.2 enc w base spare held n c y hc2 (fun m hm' => hw m (by
        rw [DataW.weights, ht]
        refine List.mem_cons_of_mem _ (List.mem_append_left _ (weightsAll_mem (d := y.1) ?_ m hm'))
        exact List.mem_map.2 ⟨y, List.mem_of_getElem? hy, rfl⟩))
      refine ⟨b, hok, c, d.K_len hK, hK, fun j u hu => ?_⟩
      obtain ⟨_, hcl, hcell⟩ := World.cells?_some hc1
      have hj := (List.getElem?_eq_some_iff.1 hu).1
      have h2 := hcell j (by omega)
      rw [hu, add_add'] at h2
      rw [h.1]
      exact h2
    obtain ⟨xs, hxl, hxp⟩ := list_of _ len hone
    refine ⟨xs, ⟨some a, cap, by rw [hxl], by omega, ?_⟩, ?_, ?_⟩
    · refine ⟨rfl, by unfold maxLen at hm; omega, fun _ => ⟨a, rfl, fun j p hj => ?_⟩⟩
      obtain ⟨_, c, h1, h2, h3⟩ := hxp j p hj
      exact ⟨c, h1, h2, h3⟩
    · have h1 := hw (((elems.map (·.1)).length + (rest.map (·.1)).length) * P.bytesOf e) (by
        rw [DataW.weights, ht]
        exact List.mem_cons_self)
      rw [hB, List.length_map, hlen] at h1
      rw [hxl]
      exact Nat.le_trans (Nat.mul_le_mul_right _ (Nat.le_add_right _ _)) h1
    · intro y hy
      obtain ⟨i, hi⟩ := List.getElem?_of_mem hy
      exact (hxp i y hi).1

/-- The fields from offset off on read as d. -/
def OpensF (P : Program) (fs : List Field) (off : Nat) {α : Type} (d : Kd α) (ok : α → Prop) : Prop :=
  ∀ (H : Type) (enc : TypeId × Value → H) (w : World) (base : Nat) (spare : Nat → Bool) (held : Bool) (n : Nat) (cs : List Value) (xs : List (DataW H × List MemPlace)),
    cs.length = off + d.sz → xs.length = fs.length → (∀ (i : Nat) (f : Field), fs[i]? = some f → DataW.trod enc P w base spare held n f.type ((cs.drop f.offset).take (P.cellsOf f.type)) = xs[i]?) →
    (∀ m ∈ DataW.weightsEach P (fs.map (·.type)) (xs.map (·.1)), m ≤ 140737488351232) → ∃ a, d.K w a (cs.drop off) ∧ ok a

theorem OpensF.one {P : Program} {f : Field} {off : Nat} {α : Type} {d : Kd α} {ok : α → Prop} (h : Opens P f.type d ok) (ho : f.offset = off) : OpensF P [f] off d ok := by
  intro H enc w base spare held n cs xs hl hxl hf hw
  match xs, hxl with
  | [y], _ =>
    have h1 := hf 0 f rfl
    obtain ⟨a, hK, hok⟩ := h.2 enc w base spare held n _ y h1 (fun m hm => hw m (by simp [DataW.weightsEach, hm]))
    refine ⟨a, ?_, hok⟩
    rw [ho, List.take_of_length_le (by rw [List.length_drop, hl, h.1]; omega)] at hK
    exact hK

theorem OpensF.cons {P : Program} {f : Field} {fs : List Field} {off off1 : Nat} {α β : Type} {d : Kd α} {d1 : Kd β} {ok : α → Prop} {ok1 : β → Prop} (h : Opens P f.type d ok) (ho : f.offset = off) {sz : Nat} (hcell : P.cellsOf f.type = sz) (ho0 : off + sz = off1) (h1 : OpensF P fs off1 d1 ok1) :
    OpensF P (f :: fs) off (Kd.pair d d1) (fun x => ok x.1 ∧ ok1 x.2) := by
  have ho1 : off + P.cellsOf f.type = off1 := by rw [hcell]; exact ho0
  intro H enc w base spare held n cs xs hl hxl hf hw
  match xs, hxl with
  | y :: ys, hxl =>
    have h2 := hf 0 f rfl
    have hsz : (Kd.pair d d1).sz = d.sz + d1.sz := rfl
    obtain ⟨a, hK, hok⟩ := h.2 enc w base spare held n _ y h2 (fun m hm => hw m (by simp [DataW.weightsEach, hm]))
    obtain ⟨b, hK1, hok1⟩ := h1 H enc w base spare held n cs ys (by have := h.1; omega) (by simpa using hxl) (fun i g hg => hf (i + 1) g (by simpa using hg)) (fun m hm => hw m (by simp only [List.map_cons, DataW.weightsEach, List.mem_append]; exact .inr hm))
    refine ⟨(a, b), ⟨(cs.drop off).take (P.cellsOf f.type), cs.drop off1, ?_, by rw [← ho]; exact hK, hK1⟩, hok, hok1⟩
    rw [← ho1, ← List.drop_drop, List.take_append_drop]

theorem Opens.struct {P : Program} {t : TypeId} {fs : List Field} {α β : Type} {d : Kd α} {ok : α → Prop} (proj : β → α) (inv : α → β) (hpi : ∀ a, proj (inv a) = a) (ht : P.underlying t = some (.struct fs.toArray)) (hc : d.sz = P.cellsOf t) (h : OpensF P fs 0 d ok) :
    Opens P t (Kd.iso d proj) (fun b => ok (proj b)) := by
  refine ⟨hc, fun enc w base spare held fuel cs x hx hw => ?_⟩
  obtain ⟨xs, n, rfl, rfl, hl, hxl, hf⟩ := DataW.trod_struct ht hx
  obtain ⟨a, hK, hok⟩ := h _ enc w base spare held n cs xs (by rw [hl, ← hc]; omega) (by simpa using hxl) (fun i f hg => hf i f (by simpa using hg)) (fun m hm => hw m (by rw [DataW.weights, ht]; simpa using hm))
  refine ⟨inv a, ?_, by show ok (proj (inv a)); rw [hpi]; exact hok⟩
  show d.K w (proj (inv a)) cs
  rw [hpi]
  exact hK
end Go.Proofs.YtahglcpndiadnaaOpen
