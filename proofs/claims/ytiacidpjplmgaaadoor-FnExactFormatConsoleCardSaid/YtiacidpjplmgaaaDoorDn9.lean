/- Words of this session's own: append, make and slice literals on the machine. -/
import Derived.Test.YtiacidpjplmgaaaDoorDn8
import Derived.Laws.Append
import Derived.Lib.AppendZeros
set_option linter.unusedVariables false
set_option linter.unusedSimpArgs false
namespace Go.Proofs.YtiacidpjplmgaaaDoorD
section
variable {P : Program} {τ : TT} {F : Fr} {c : Ctx} {w w' : World} {hp : Hp} {α : Type}
theorem Rd.flat {S S' : Nat → Prop} {w w' : World} : ∀ {t : Ty} {x : t.D} {cs : List Value}, t.deep = false → Rd S w t x cs → Rd S' w' t x cs
  | .int _, _, _, _, h | .bool, _, _, _, h | .str, _, _, _, h | .fn, _, _, _, h => h
  | .sl _, _, _, hd, _ => by cases hd
  | .pair a b, _, _, hd, ⟨c, d, e, h1, h2⟩ => by
    unfold Ty.deep at hd
    split at hd
    · cases hd
    · rename_i ha
      exact ⟨c, d, e, Rd.flat ha h1, Rd.flat hd h2⟩
theorem HR.killW (H : HR F c w hp) : ∀ (k : List Nat), HR F c w (Go.Proofs.YtiacidpjplmgaaaDoorD.killW k ++ hp) ∧ ∀ d, hget (Go.Proofs.YtiacidpjplmgaaaDoorD.killW k ++ hp) d = if d ∈ k then none else hget hp d
  | [] => ⟨H, fun d => by simp [Go.Proofs.YtiacidpjplmgaaaDoorD.killW]⟩
  | b :: r => by
    obtain ⟨h1, h2⟩ := HR.killW H r
    refine ⟨by simp only [Go.Proofs.YtiacidpjplmgaaaDoorD.killW, List.cons_append]; exact h1.kill b, fun d => ?_⟩
    simp only [Go.Proofs.YtiacidpjplmgaaaDoorD.killW, List.cons_append]
    rw [hget_cons, h2]
    by_cases e : b = d
    · subst e; simp
    · rw [if_neg e]
      by_cases hd : d ∈ r
      · rw [if_pos hd, if_pos (List.mem_cons_of_mem _ hd)]
      · rw [if_neg hd, if_neg (fun h => by
          rcases List.mem_cons.1 h with h | h
          · exact e h.symm
          · exact hd h)]
theorem own_form {e sz n : Nat} {v : Value} {xs : List Value} (h : w.ownsRow 0 e sz v n xs) : ∃ A m cap, v = .slice A m cap := by
  rcases h.2 with ⟨rfl, _⟩ | ⟨g, cap, cur, rfl, _⟩
  · exact ⟨none, 0, 0, rfl⟩
  · exact ⟨_, _, _, rfl⟩
/-- A row grows, or makes place for a new one: what comes of it. -/
theorem HR.grow (H : HR F c w hp) {fr e : Nat} {t : Ty} {zs : List t.D} {k : List Nat} {sv v' : Value} {inner : List Value} (hfr : ¬ c.M fr)
    (hk : ∀ b ∈ k, ∃ x, hget hp b = some x ∧ x.own = true) (hsv : ∀ g, vblk sv = some g → ∃ b ∈ k, vblk (c.ρ b) = some g)
    (hf : Flat (Rd c.S w t) zs inner) (ho : w'.ownsRow 0 e t.cells v' zs.length inner) (hg : w.grownBy w' (vblk sv)) (hat : vblk v' = vblk sv ∨ vblk v' = some w.heap.size) :
    c.To (c.ext fr v') w w' ∧ HR F (c.ext fr v') w' ((fr, some (.row e t zs)) :: (Go.Proofs.YtiacidpjplmgaaaDoorD.killW k ++ hp)) ∧ VR (c.ext fr v') w' (.ref fr) v' := by
  obtain ⟨H1, h1⟩ := H.killW k
  have hown : ∀ g, vblk sv = some g → ¬ c.S g ∧ (F.w0.heap.size ≤ g ∨ F.Hd g) ∧ g < w.heap.size ∧ ∀ d y, hget (Go.Proofs.YtiacidpjplmgaaaDoorD.killW k ++ hp) d = some y → y.own = true → vblk (c.ρ d) ≠ some g := by
    intro g hgs
    obtain ⟨b, hb, hbg⟩ := hsv g hgs
    obtain ⟨x, hx1, hx2⟩ := hk b hb
    obtain ⟨o1, o2, o3⟩ := H.own b x g hx1 hx2 hbg
    refine ⟨o1, o2, o3, fun d y hd hy he => ?_⟩
    rw [h1] at hd
    split at hd
    · cases hd
    · rename_i hdk
      exact H.apart b d x y g (fun e => hdk (e ▸ hb)) hx1 hd hx2 hy hbg he
  have hS : ∀ k, c.S k → w'.heap[k]? = w.heap[k]? := fun k hk => hg.block k (H.stays k hk) (fun e => (hown k e.symm).1 hk)
  have hkeep : F.Keeps w' := ⟨hg.os.trans H.keeps.os, hg.tape.trans H.keeps.tape, hg.output.trans H.keeps.output, Nat.le_trans H.keeps.size hg.size, fun k hlt hH => (hg.block k (Nat.lt_of_lt_of_le hlt H.keeps.size) (fun e => by
    rcases (hown k e.symm).2.1 with h | h
    · omega
    · exact hH h)).trans (H.keeps.heap k hlt hH)⟩
  have hfm : Flat (Rd (c.ext fr v').S w' t) zs inner := hf.imp (fun _ _ h => h.move (fun _ h => h) hS)
  obtain ⟨a1, a2⟩ := H1.new (b := fr) (v := v') (x := .row e t zs) hfr hkeep hg.size hS (fun d y g hd hy he => hg.block g (H1.own d y g hd hy he).2.2 (fun e => (hown g e.symm).2.2.2 d y hd hy he))
    ⟨inner, hfm, by rw [Ctx.ext_at]; exact ho⟩ (fun g _ he => by
      have hlt : g < w'.heap.size := by
        rw [vblk_own ho] at he
        rcases ho.2 with ⟨rfl, _⟩ | ⟨g', cap, cur, rfl, _, hh, _⟩
        · cases he
        · simp only [Value.ownBlock, Option.some.injEq] at he
          subst he
          exact (Array.getElem?_eq_some_iff.1 hh).1
      rcases hat with hat | hat
      · rw [hat] at he
        obtain ⟨b1, b2, _, b4⟩ := hown g he
        exact ⟨b1, b2, hlt, b4⟩
      · rw [hat] at he
        have : w.heap.size = g := Option.some.inj he
        subst this
        exact ⟨fun h => by have := H.stays _ h; omega, .inl H.keeps.size, hlt, fun d y hd hy he => by have := (H1.own d y _ hd hy he).2.2; omega⟩)
  refine ⟨a1, a2, ?_⟩
  simp only [VR]
  exact ⟨.inr rfl, (Ctx.ext_at _ _ _).symm, own_form ho⟩
theorem mem_any {b : Nat} {l : List Nat} (h : b ∈ l) : l.any (Nat.beq b) = true := List.any_eq_true.2 ⟨b, h, by simp⟩
theorem selfOf_ok {s x : V} {b i lo m : Nat} {t : Ty} (h : selfOf s x = some (b, i, lo, m)) (ht : sameTy t s x = true) : s = .sub t b 0 i ∧ x = .sub t b lo m := by
  unfold selfOf at h
  split at h
  case h_2 => cases h
  rename_i a b' l i' a' d lo' m'
  split at h
  case h_2 => cases h
  rename_i h1 h2
  cases Nat.eq_of_beq_eq_true h1
  cases Nat.eq_of_beq_eq_true h2
  simp only [Option.some.injEq, Prod.mk.injEq] at h
  obtain ⟨rfl, rfl, rfl, rfl⟩ := h
  unfold sameTy at ht
  dsimp only at ht
  split at ht
  · rename_i h3
    cases Ty.eq_of_beq h3
    cases Ty.eq_of_beq ht
    exact ⟨rfl, rfl⟩
  · cases ht
theorem selfK_ok {h : Nat → Option Blk} {e : Nat} {ei : TI} {t : Nat} {s x : V} {b i lo m : Nat} {K : V → Hp → Option α} {r : α} (hu : P.underlying t = some (.slice e)) (hE : TOk1 P e ei) (hs : selfOf s x = some (b, i, lo, m)) (he : selfK h e ei.ty s x b i lo m K = some r) :
    ∃ v ws, K v ws = some r ∧ (∀ {β : Type} (K' : V → Hp → Option β), selfK h e ei.ty s x b i lo m K' = K' v ws) ∧
      ∀ {F : Fr} {c : Ctx} {w : World} {hp : Hp} {fr : Nat} {sv xv : Value} {ty : TypeId}, HR F c w hp → (∀ b x, h b = some x → hget hp b = some x) → VR c w s sv → VR c w x xv →
        ∃ val w', (Builtin.append_ #[t, t] ty #[sv, xv]).run P w = .ok val w' ∧ Done F c w hp fr v ws val w' := by
  unfold selfK at he
  split at he
  · cases he
  rename_i hty
  split at he
  case h_2 => cases he
  rename_i e' t' xs hb
  split at he
  case h_2 => cases he
  rename_i hee
  have := Nat.eq_of_beq_eq_true hee
  subst this
  obtain ⟨ht, h1, h2⟩ := castK_pt he
  cases ht
  obtain ⟨n, hn, hK⟩ := Option.bind_eq_some_iff.1 h1
  obtain ⟨rfl, rfl⟩ := selfOf_ok hs hty
  have hnn : n = i + m ∧ i ≤ lo := by
    unfold selfApp at hn
    split at hn
    · cases hn; exact ⟨rfl, by assumption⟩
    · cases hn
  obtain ⟨rfl, hil⟩ := hnn
  refine ⟨_, _, hK, fun K' => ?_, fun {F c w hp fr sv xv ty} H hh hsv hxv => ?_⟩
  · unfold selfK; simp only [hty, hb, hee]; rw [h2]; simp only [hn, Option.bind_some]
  obtain ⟨hM, inner, hf, ho⟩ := H.blk b _ (hh _ _ hb)
  simp only [VR] at hsv hxv
  have hln : ∀ x cc, Rd c.S w ei.ty x cc → cc.length = ei.ty.cells := fun _ _ h => h.len
  have hso : ∀ w, (sizeOf e').run P w = .ok ei.size w := fun w => by
    obtain ⟨I, z, i1, i2, _⟩ := hE.info
    simp [sizeOf, typeInfo, i1, i2]
  rcases hsv.2 with ⟨a1, _, rfl, rfl⟩ | ⟨g, mm, cap, A, a1, a2, a3, rfl, a5, a6⟩
  · rcases hxv.2 with ⟨_, rfl, rfl, rfl⟩ | ⟨g, mm, cap, A, b1, _⟩
    · have hx0 : xs.length = 0 := by
        rcases ho.2 with ⟨_, h0⟩ | ⟨g, cap, cur, h, _⟩
        · exact h0
        · rw [a1] at h; cases h
      have hx : xs = [] := List.eq_nil_of_length_eq_zero hx0
      refine ⟨.slice none 0 0, w, ?_, c, .refl c w, fun _ h => .inl h, ?_, hget_ext H (fun d => ?_)⟩
      · simp [Builtin.append_, run_underlying hu, hso, Builtin.lenOf, Builtin.firstCells]
      · simp only [VR]; exact ⟨hM, .inl ⟨a1, by simp, by simp, by simp⟩⟩
      · simp only [List.cons_append, List.nil_append]
        rw [hget_cons]
        split
        · rename_i h; subst h; rw [hh _ _ hb, hx]; rfl
        · rfl
    · rw [a1] at b1; cases b1
  · rcases hxv.2 with ⟨b1, _⟩ | ⟨g', mm', cap', A', b1, b2, b3, rfl, b5, b6⟩
    · rw [a1] at b1; cases b1
    rw [a1] at b1
    simp only [Value.slice.injEq, Option.some.injEq, Addr.mk.injEq, and_true] at b1
    obtain ⟨rfl, rfl, rfl⟩ := b1
    have hmm : mm = xs.length := by
      rcases ho.2 with ⟨h, _⟩ | ⟨g, cap, cur, h, _⟩
      · rw [a1] at h; cases h
      · rw [a1] at h; simp only [Value.slice.injEq] at h; exact h.2.1
    subst hmm
    have hA := a6 (by simp)
    rw [Nat.zero_mul] at hA
    subst hA
    have hys : ((xs.drop lo).take m).length = m := by rw [List.length_take, List.length_drop]; omega
    have hfy : Flat (Rd c.S w ei.ty) ((xs.drop lo).take m) ((inner.drop (lo * ei.ty.cells)).take (m * ei.ty.cells)) := (hf.drop hln lo).take hln m
    have hil' := hf.len hln
    have hul : ((inner.drop (lo * ei.ty.cells)).take (m * ei.ty.cells)).length = m * ei.ty.cells := by rw [hfy.len hln, hys]
    obtain ⟨r1, r2, r3⟩ := H.splice (P := P) (hh _ _ hb) a1 hfy (lo := i) (by rw [hys]; omega)
    have hcell : ∀ j u, ((inner.drop (lo * ei.ty.cells)).take (m * ei.ty.cells))[j]? = some u → w.cell? (A'.add j) = some u := fun j u hj => by
      have hjl : j < m * ei.ty.cells := by
        have := (List.getElem?_eq_some_iff.1 hj).1
        omega
      have hm0 : 0 < m := by
        rcases Nat.eq_zero_or_pos m with h | h
        · subst h; simp at hjl
        · exact h
      have hA' := b6 (.inl (by omega))
      subst hA'
      rw [List.getElem?_take, if_pos hjl, List.getElem?_drop] at hj
      have ho' : w.ownsRow 0 e' ei.ty.cells (.slice (some ⟨g, 0, none⟩) xs.length cap) xs.length inner := by rw [← a1]; exact ho
      have := ho'.cells (g := g) rfl _ u hj
      rw [add_mid, Nat.zero_add] at this
      rw [add_mid]; exact this
    have hfc := run_firstCells_some (P := P) w ei.ty.cells m A' m (cap - lo) _ hul hcell
    refine ⟨.slice (some ⟨g, 0, none⟩) (i + m) cap, _, ?_, _, r2, fun _ h => .inl h, ?_, ?_⟩
    · have hle : i + m ≤ cap := by omega
      simp [Builtin.append_, run_underlying hu, hso, Builtin.lenOf, hle, ← hE.cells, hfc, add_mid, r1]
    · simp only [VR]
      refine ⟨r2.M _ hM, .inr ⟨g, xs.length, cap, ⟨g, 0, none⟩, by rw [r2.ρ _ hM]; exact a1, by omega, a3, by simp, rfl, fun _ => by simp⟩⟩
    · rw [hys] at r3
      have hlay : lay xs i m ((xs.drop lo).take m) = xs.take i ++ ((xs.drop lo).take m ++ xs.drop (i + m)) := by
        unfold lay
        rw [hys, Nat.min_self, List.take_take, Nat.min_self]
      rw [hlay]; exact r3
theorem zeroCells_eq (z : Array Value) (hz : 0 < z.size) (n : Nat) : (Builtin.zeroCells z n).toList = (List.replicate n z.toList).flatten := by
  have := madeCells_take z z.size rfl hz n n (Nat.le_refl _)
  have hl : (madeCells z (n * z.size)).toList.length = n * z.size := by rw [Array.length_toList, size_madeCells]
  rw [List.take_of_length_le (by omega)] at this
  exact this
theorem int_of {k : IntKind} {n : Int} {val : Value} (h : VR c w (.val (.int k) n) val) : val = .int k n := by simp only [VR, Rd] at h; simpa using h
theorem zerosK_ok {fr t t2 : Nat} {s x : V} {K : V → Hp → Option α} {r : α} (hτ : TOk P τ) (he : zerosK τ fr t t2 s x K = some r) :
    ∃ v ws, K v ws = some r ∧ (∀ {β : Type} (K' : V → Hp → Option β), zerosK τ fr t t2 s x K' = K' v ws) ∧
      ∀ {F : Fr} {c : Ctx} {w : World} {hp : Hp} {sv xv : Value} {ty : TypeId}, HR F c w hp → ¬ c.M fr → VR c w s sv → VR c w x xv →
        ∃ val w', (Builtin.append_ #[t, t2] ty #[sv, xv]).run P w = .ok val w' ∧ Done F c w hp fr v ws val w' := by
  unfold zerosK at he
  split at he
  case h_2 => cases he
  rename_i i i2 k n hi hi2
  split at he
  case h_2 => cases he
  rename_i e kn hd hd2
  split at he
  case h_2 => cases he
  rename_i ei hei
  obtain ⟨m, hm, hK⟩ := Option.bind_eq_some_iff.1 he
  refine ⟨_, _, hK, fun K' => by unfold zerosK; simp only [hi, hi2, hd, hd2, hei, hm, Option.bind_some], fun {F c w hp sv xv ty} H hfr hs hx => ?_⟩
  have hTe := hτ e ei hei
  obtain ⟨I, z, i1, i2', i3, i4, i5, i6⟩ := hTe.info
  have hu : P.underlying t = some (.slice e) := by rw [(hτ t i hi).und, hd]
  have hu2 : P.underlying t2 = some (.int kn) := by rw [(hτ t2 i2 hi2).und, hd2]
  unfold zer at hm
  split at hm
  case isFalse => cases hm
  rename_i hc
  cases hm
  simp only [VR] at hs
  subst hs
  rw [int_of hx]
  obtain ⟨c0, c1⟩ := hc
  obtain ⟨m, hm⟩ := Int.eq_ofNat_of_zero_le (Int.le_of_lt c0)
  have hmn : (n : Int).toNat = m := by rw [hm, Int.toNat_natCast]
  rw [hmn]
  have hm0 : 0 < m := by rw [hm] at c0; omega
  have hml : m ≤ limOf ei.bytes := by rw [hm] at c1; omega
  have hbytes : m * ei.bytes ≤ 140737488355328 := by
    have := Nat.mul_le_mul_right ei.bytes hml
    have h2 := Nat.div_mul_le_self 140737488355328 ei.bytes
    unfold limOf at *
    omega
  have hmax : m ≤ maxLen := by
    have : limOf ei.bytes ≤ 140737488355328 := Nat.div_le_self _ _
    simp only [maxLen]; omega
  have hpos : 0 < I.size := by rw [i2', ← hTe.cells]; exact Ty.cells_pos _
  have hzl : z.cells.size = ei.ty.cells := by rw [← Array.length_toList, i5]; exact (Rd.zero (fun _ => True) w ei.ty).len
  have hzp : 0 < z.cells.size := by rw [hzl]; exact Ty.cells_pos _
  have hfl : Flat (Rd c.S w ei.ty) (List.replicate m ei.ty.dflt) (List.replicate m z.cells.toList).flatten := by
    rw [i5]; exact Flat.replicate (Rd.zero c.S w ei.ty) _
  have hlen : (List.replicate m z.cells.toList).flatten.length = m * ei.ty.cells := by rw [hfl.len (fun _ _ h => h.len), List.length_replicate]
  have hrun := Go.Lib.run_append_nil_zeros (P := P) w t t2 ty e I z k kn hu hu2 i1 i4 m hm0 hpos (by simp only [maxLen] at hmax; omega) (by rw [i3]; omega)
  have hm' : (n : Int) = (m : Int) := hm
  refine ⟨_, _, by rw [hm']; exact hrun, ?_⟩
  have hge := grownCap_ge w m 0 e
  have hcm := grownCap_le_maxLen w m 0 e hmax
  have hown : World.ownsRow (w.drew.alloc (.cells (Builtin.zeroCells z.cells m ++ Builtin.zeroCells z.cells (grownCap w m 0 e - m)) e)) 0 e ei.ty.cells (.slice (some ⟨w.heap.size, 0, none⟩) m (grownCap w m 0 e)) (List.replicate m ei.ty.dflt).length (List.replicate m z.cells.toList).flatten := by
    rw [List.length_replicate]
    refine ⟨hlen, .inr ⟨w.heap.size, _, _, rfl, Nat.zero_le _, heap_alloc_new w.drew _, hge, hcm, ?_, ?_⟩⟩
    · simp only [Array.size_append, size_zeroCells, hzl, ← Nat.add_mul]
      congr 1; omega
    · rw [Array.toList_append, zeroCells_eq _ hzp, ← hlen]
      exact List.take_left
  obtain ⟨a1, a2, a3⟩ := H.grow (k := []) (sv := .slice none 0 0) hfr (by intro b hb; cases hb) (by intro g hg; simp [vblk] at hg) hfl hown ⟨rfl, rfl, rfl, by simp, fun k hk _ => heap_alloc_old w.drew _ k hk⟩ (.inr rfl)
  exact ⟨_, a1, fun d hd => Ctx.ext_M hd ⟨Nat.le_refl _, by omega⟩, a3, a2⟩
theorem appendK_ok {h : Nat → Option Blk} {fr : Nat} {ts : List Nat} {s x : V} {K : V → Hp → Option α} {r : α} (hτ : TOk P τ) (he : appendK τ h fr ts s x K = some r) :
    ∃ v ws, K v ws = some r ∧ (∀ {β : Type} (K' : V → Hp → Option β), appendK τ h fr ts s x K' = K' v ws) ∧
      ∀ {F : Fr} {c : Ctx} {w : World} {hp : Hp} {sv xv : Value} {ty : TypeId}, HR F c w hp → (∀ b x, h b = some x → hget hp b = some x) → ¬ c.M fr → VR c w s sv → VR c w x xv →
        ∃ val w', (Builtin.append_ ts.toArray ty #[sv, xv]).run P w = .ok val w' ∧ Done F c w hp fr v ws val w' := by
  unfold appendK at he
  split at he
  case h_2 => cases he
  rename_i t t2
  split at he
  · rename_i htt
    obtain ⟨v, ws, q1, q2, q3⟩ := zerosK_ok hτ he
    exact ⟨v, ws, q1, fun K' => by unfold appendK; simp only [htt]; exact q2 K', fun H _ hfr hs hx => q3 H hfr hs hx⟩
  rename_i htt
  have := Nat.eq_of_beq_eq_true htt
  subst this
  split at he
  · cases he
  rename_i i hi
  split at he
  case h_2 => cases he
  rename_i e hd
  split at he
  · cases he
  rename_i ei hei
  split at he
  · rename_i b j lo m hso
    have hT := hτ t i hi
    have hund : P.underlying t = some (.slice e) := by rw [hT.und, hd]
    obtain ⟨v, ws, q1, q2, q3⟩ := selfK_ok hund (hτ e ei hei) hso he
    exact ⟨v, ws, q1, fun K' => by unfold appendK; simp only [htt, hi, hd, hei, hso]; exact q2 K', fun H hh _ hs hx => q3 H hh hs hx⟩
  rename_i hso
  obtain ⟨xs, k, h1, h2, h3, h4, h4', h5⟩ := ownAs_ok he
  obtain ⟨ys, f, k1, k2, k3, k4, k5⟩ := leafAs_ok h1
  split at k1
  case h_2 => cases k1
  rename_i hfk
  obtain ⟨zs, hz, hK⟩ := Option.bind_eq_some_iff.1 k1
  refine ⟨_, _, hK, fun K' => ?_, fun {F c w hp sv xv ty} H hh hfr hs hx => ?_⟩
  · unfold appendK; simp only [htt, hi, hd, hei, hso, h2, k2, hfk, hz, Option.bind_some]
  have hT := hτ t i hi
  have hTe := hτ e ei hei
  obtain ⟨I, z, i1, i2, i3, i4, i5, i6⟩ := hTe.info
  have hund : P.underlying t = some (.slice e) := by rw [hT.und, hd]
  have hzs : zs = xs ++ ys ∧ xs.length + ys.length ≤ limOf ei.bytes := by
    unfold app at hz
    split at hz
    · rename_i hl; cases hz; exact ⟨rfl, hl⟩
    · cases hz
  obtain ⟨rfl, hlim⟩ := hzs
  have hbytes : (xs.length + ys.length) * ei.bytes ≤ 140737488355328 := by
    have := Nat.mul_le_mul_right ei.bytes hlim
    have h2 := Nat.div_mul_le_self 140737488355328 ei.bytes
    unfold limOf at *
    omega
  have hmax : xs.length + ys.length ≤ maxLen := by
    have : limOf ei.bytes ≤ 140737488355328 := Nat.div_le_self _ _
    simp only [maxLen]; omega
  -- the two rows
  obtain ⟨ix, hfx, hox, hsv1, hsv2⟩ := h5 H hh hs
  have hheld : Held c (fun k => c.S k ∨ ∃ b ∈ f, vblk (c.ρ b) = some k) f := ⟨fun k hk => .inl hk, fun b hb g hg => .inr ⟨b, hb, hg⟩⟩
  obtain ⟨A, cap, iy, ex, ⟨hcap, hAn⟩, hfy, hry⟩ := k5 (fun b x hb => (H.blk b x (hh b x hb)).2) hx hheld
  simp only [List.cons.injEq, and_true] at ex
  have hiy : iy.length = ys.length * ei.ty.cells := hfy.len (fun _ _ h => h.len)
  -- the run
  obtain ⟨v', w', hrun, hown, hgrow, hat⟩ : ∃ v' w', (Builtin.append_ #[t, t] ty #[sv, xv]).run P w = .ok v' w' ∧ w'.ownsRow 0 e ei.ty.cells v' (xs ++ ys).length (ix ++ iy) ∧ w.grownBy w' (vblk sv) ∧ (vblk v' = vblk sv ∨ vblk v' = some w.heap.size) := by
    rw [ex]
    cases A with
    | none =>
      have hy0 : ys = [] := List.eq_nil_of_length_eq_zero (by have := hAn rfl; omega)
      subst hy0
      have hi0 : iy = [] := List.eq_nil_of_length_eq_zero (by simpa using hiy)
      subst hi0
      rw [show cap = 0 from hAn rfl]
      refine ⟨sv, w, run_append_owned_none (P := P) w 0 t ty e I ei.ty.cells hund i1 sv _ _ hox, by simpa using hox, ⟨rfl, rfl, rfl, Nat.le_refl _, fun _ _ _ => rfl⟩, .inl rfl⟩
    | some ad =>
      have hnews : ∀ j u, iy[j]? = some u → w.cell? (ad.add j) = some u := fun j u hu => by
        have hne : iy ≠ [] := by rintro rfl; simp at hu
        obtain ⟨ad', ha, _, hc⟩ := hry hne
        cases ha
        exact hc j u hu
      obtain ⟨v', w', r1, r2, r3, _, r5⟩ := run_append_own_at (P := P) w 0 t ty e I z ei.ty.cells ei.bytes hund i1 i4 (by rw [i2, hTe.cells]) i3 (by rw [← Array.length_toList, i5]; exact (Rd.zero (fun _ => True) w ei.ty).len) (Ty.cells_pos _) sv xs.length ix hox ad ys.length cap iy hiy hnews (hfy.one (fun _ _ h => h.one)) hmax hbytes (Nat.zero_le _)
      refine ⟨v', w', r1, by rw [List.length_append]; exact r2, by rw [vblk_own hox]; exact r3, ?_⟩
      rw [vblk_own hox, vblk_own r2]; exact r5
  refine ⟨v', w', hrun, ?_⟩
  have hrow : ∀ b ∈ k, ∃ x, hget hp b = some x ∧ x.own = true := fun b hb => by
    obtain ⟨e0, t0, xs0, h0⟩ := h3 b hb
    exact ⟨_, hh b _ h0, rfl⟩
  cases hdeep : ei.ty.deep with
  | false =>
    have hfy' : Flat (Rd c.S w ei.ty) ys iy := hfy.imp (fun _ _ h => h.flat hdeep)
    obtain ⟨a1, a2, a3⟩ := H.grow (k := k) (sv := sv) hfr hrow hsv1 (hfx.append hfy') hown hgrow hat
    refine ⟨_, a1, fun d hd => Ctx.ext_M hd ⟨Nat.le_refl _, by omega⟩, a3, ?_⟩
    simpa using a2
  | true =>
    obtain ⟨c1, b1, b2, b3, b4, b5, b6⟩ := H.frzW h f (fun d _ e0 t0 xs0 hd => hh d _ hd)
    have hnk : ∀ b ∈ k, b ∉ f := fun b hb hbf => by
      have : f.any (fun b => k.any (Nat.beq b)) = true := List.any_eq_true.2 ⟨b, hbf, mem_any hb⟩
      rw [hfk] at this; cases this
    have hfx1 : Flat (Rd c1.S w ei.ty) xs ix := hfx.imp (fun _ _ h => h.move b1.S (fun _ _ => rfl))
    have hfy1 : Flat (Rd c1.S w ei.ty) ys iy := hfy.imp (fun _ _ h => h.move (fun k hk => by
      rcases hk with hk | ⟨b, hb, hbk⟩
      · exact b1.S k hk
      · obtain ⟨e0, t0, xs0, h0⟩ := k3 b hb
        exact b4 b hb e0 t0 xs0 h0 k hbk) (fun _ _ => rfl))
    obtain ⟨a1, a2, a3⟩ := b5.grow (k := k) (sv := sv) (by rw [b3]; exact hfr) (fun b hb => by rw [b6 b (hnk b hb)]; exact hrow b hb) (by rw [b2]; exact hsv1) (hfx1.append hfy1) hown hgrow hat
    refine ⟨_, b1.trans a1, fun d hd => ?_, a3, ?_⟩
    · have := Ctx.ext_M (c := c1) hd ⟨Nat.le_refl fr, by omega⟩
      rw [b3] at this; exact this
    · simp only [List.cons_append, List.append_assoc]; exact a2
end
end Go.Proofs.YtiacidpjplmgaaaDoorD
