/- Words of this session's own: stores on the machine. -/
import Derived.Test.YtiacidpjplmgaaaDoorDn5
set_option linter.unusedVariables false
set_option linter.unusedSimpArgs false
namespace Go.Proofs.YtiacidpjplmgaaaDoorD
section
variable {P : Program} {τ : TT} {F : Fr} {c : Ctx} {w w' : World} {hp : Hp} {α : Type}
theorem setMany_len : ∀ (us cs : List Value) (off : Nat), (setMany cs off us).length = cs.length
  | [], _, _ => rfl
  | u :: r, cs, off => by rw [setMany, setMany_len r, List.length_set]
theorem setMany_get : ∀ (us cs : List Value) (off i : Nat), (setMany cs off us)[i]? = if off ≤ i ∧ i < off + us.length ∧ i < cs.length then us[i - off]? else cs[i]?
  | [], cs, off, i => by rw [setMany, if_neg (by simp; omega)]
  | u :: r, cs, off, i => by
    rw [setMany, setMany_get r]
    simp only [List.length_set, List.length_cons]
    by_cases h : off = i
    · subst h
      rw [if_neg (by omega)]
      by_cases hl : off < cs.length
      · rw [if_pos (by omega), List.getElem?_set_self hl]; simp
      · rw [if_neg (by omega), List.getElem?_eq_none (by rw [List.length_set]; omega), List.getElem?_eq_none (by omega)]
    · by_cases h2 : off + 1 ≤ i ∧ i < off + 1 + r.length ∧ i < cs.length
      · rw [if_pos h2, if_pos (by omega), show i - off = (i - (off + 1)) + 1 by omega, List.getElem?_cons_succ]
      · rw [if_neg h2, if_neg (by omega), List.getElem?_set_ne h]
/-- What is own at a number is changed in its block alone. -/
theorem HR.store (H : HR F c w hp) {b g : Nat} {x x' : Blk} (hb : hget hp b = some x) (hx : x.own = true) (hx' : x'.own = true) (hg : vblk (c.ρ b) = some g)
    (hw : w'.os = w.os ∧ w'.tape = w.tape ∧ w'.output = w.output ∧ w'.heap.size = w.heap.size ∧ ∀ k, k ≠ g → w'.heap[k]? = w.heap[k]?) (hb' : c.To c w w' → BR c w' b x') : c.To c w w' ∧ HR F c w' ((b, some x') :: hp) := by
  obtain ⟨o1, o2, o3⟩ := H.own b x g hb hx hg
  obtain ⟨w1, w2, w3, w4, w5⟩ := hw
  have hto : c.To c w w' := ⟨fun _ h => h, fun _ h => h, fun _ _ => rfl, fun k hk => w5 k (fun e => o1 (e ▸ hk))⟩
  have hk : F.Keeps w' := ⟨w1.trans H.keeps.os, w2.trans H.keeps.tape, w3.trans H.keeps.output, by rw [w4]; exact H.keeps.size, fun k hlt hH => (w5 k (fun e => by
    subst e
    rcases o2 with o2 | o2
    · omega
    · exact hH o2)).trans (H.keeps.heap k hlt hH)⟩
  have H1 := (H.kill b).to hto rfl (fun d y k hd hy hk => w5 k (fun e => by
    subst e
    rw [hget_cons] at hd
    split at hd
    · cases hd
    · rename_i hne
      exact H.apart b d x y _ hne hb hd hx hy hg hk)) hk (by omega)
  refine ⟨hto, hget_ext (H1.put b x' (H.blk b x hb).1 (hb' hto) (fun g' _ hg' => ?_)) (fun d => ?_)⟩
  · have : g' = g := by rw [hg] at hg'; exact (Option.some.inj hg').symm
    subst this
    refine ⟨o1, o2, by omega, fun d y hne hd hy he => ?_⟩
    rw [hget_cons, if_neg hne] at hd
    exact H.apart b d x y _ hne hb hd hx hy hg he
  · rw [hget_cons, hget_cons, hget_cons]
    by_cases e : b = d
    · rw [if_pos e, if_pos e]
    · rw [if_neg e, if_neg e, if_neg e]
theorem storeK_ok {h : Nat → Option Blk} {t : Nat} {p v : V} {K : Hp → Option α} {r : α} (hτ : TOk P τ) (he : storeK τ h t p v K = some r) :
    ∃ ws, K ws = some r ∧ (∀ {β : Type} (K' : Hp → Option β), storeK τ h t p v K' = K' ws) ∧ (∀ b x, (b, x) ∈ ws → b ∈ idsV p ∨ b ∈ idsV v) ∧
      ∀ {F : Fr} {c : Ctx} {w : World} {hp : Hp} {fr : Nat} {pv val : Value}, HR F c w hp → (∀ b x, h b = some x → hget hp b = some x) → VR c w p pv → VR c w v val →
        ∃ w', (Instr.storeAt t pv val).run P w = .ok () w' ∧ Done F c w hp fr (.tup []) ws undef w' := by
  unfold storeK at he
  split at he
  · cases he
  rename_i i hi
  have hT := hτ t i hi
  split at he
  case h_2 => cases he
  rename_i hn hs
  have hn' := Nat.eq_of_beq_eq_true hn
  have hundef : ∀ (c : Ctx) (w : World), VR c w (.tup []) undef := fun c w => by simp only [VR]; exact ⟨#[], rfl, by simp [VRs]⟩
  cases p with
  | ptr b off =>
    dsimp only at he
    split at he
    case h_2 => cases he
    rename_i vs hb
    split at he
    case h_2 => cases he
    rename_i hf
    have hf' := Nat.le_of_ble_eq_true hf
    refine ⟨_, he, fun K' => by unfold storeK; simp only [hi, hn, hs, hb, hf], fun d x hd => by simp at hd; rw [hd.1]; exact .inl (by simp [idsV]), fun {F c w hp fr pv val} H hh hp1 hv1 => ?_⟩
    simp only [VR] at hp1
    obtain ⟨hM, g, e1, e2⟩ := hp1
    subst e2
    have hB := hh b _ hb
    obtain ⟨_, g', cs, e, k1, k2, k3⟩ := H.blk b _ hB
    rw [e1] at k1
    simp only [Value.pointer.injEq, Option.some.injEq, Addr.mk.injEq, and_true] at k1
    subst k1
    obtain ⟨q1, q2⟩ := parts_ok hs hv1
    have hlen := q1.len
    have hcl := k3.len
    rw [Array.length_toList] at hlen hcl
    have hrun := storeAt_run (P := P) hT (off := off) (val := val) k2 (by omega) (by omega) q2
    refine ⟨_, hrun, c, ?_⟩
    obtain ⟨cur', m1, m2⟩ := setCells_blk g val.cells.toList off w cs e k2
    have hst := H.store (w' := w.setCells g off val.cells.toList) (b := b) (g := g) (x' := .box (vs.take off ++ (parts v ++ vs.drop (off + i.size)))) hB rfl rfl (by rw [e1]; rfl) (setCells_eq g _ off w) (fun hto => ?_)
    · exact ⟨hst.1, fun _ h => .inl h, hundef _ _, hst.2⟩
    · refine ⟨g, cur', e, e1, m1, ?_⟩
      rw [m2, setMany_eq _ _ _ (by rw [Array.length_toList, Array.length_toList]; omega), Array.length_toList, hlen, hn']
      exact ((k3.take off).append (q1.append (k3.drop _))).to hto
  | eptr s b j off =>
    dsimp only at he
    split at he
    case h_3 => cases he
    case h_2 =>
      rename_i xs hb
      split at he
      case h_2 => cases he
      rename_i u hs' ho
      have := beq_ty hs'
      subst this
      have ho' := Nat.eq_of_beq_eq_true ho
      subst ho'
      refine ⟨_, he, fun K' => by unfold storeK; simp only [hi, hn, hs, hb, hs', ho], fun d x hd => by simp at hd; rw [hd.1]; exact .inl (by simp [idsV]), fun {F c w hp fr pv val} H hh hp1 hv1 => ?_⟩
      simp only [VR] at hp1
      obtain ⟨hM, g, n, cap, e1, hj, e2⟩ := hp1
      subst e2
      have hB := hh b _ hb
      obtain ⟨_, g', cap', cur, e, fz, k1, k2, k3, k4, k5⟩ := H.blk b _ hB
      have k1' := k1
      rw [e1] at k1'
      simp only [Value.slice.injEq, Option.some.injEq, Addr.mk.injEq, and_true] at k1'
      obtain ⟨rfl, rfl, rfl⟩ := k1'
      have hv2 := hv1
      simp only [VR, Rd, List.cons.injEq, and_true] at hv2
      subst hv2
      have hx : xs[j]? = some (xs.getD j 0) := by rw [List.getD_eq_getElem?_getD, List.getElem?_eq_getElem hj]; rfl
      have hjc : j < cur.size := (Array.getElem?_eq_some_iff.1 (k5 j _ hx)).1
      have hz : i.size = 1 := by simpa [parts] using hn'.symm
      have hrun := storeAt_byte (P := P) hT (n := u) k2 k3 hz hjc
      have hjj : j * (Ty.int IntKind.u8).cells + 0 = j := by simp [Ty.cells]
      rw [hjj]
      refine ⟨_, hrun, c, ?_⟩
      obtain ⟨cur', m1, m2⟩ := setCells_blkf g [.int .u8 u] j w cur e fz k2
      have hst := H.store (w' := w.setCells g j [.int .u8 u]) (b := b) (g := g) (x' := .bys (xs.set j u)) hB rfl rfl (by rw [e1]; rfl) (setCells_eq g _ j w) (fun hto => ?_)
      · exact ⟨hst.1, fun _ h => .inl h, hundef _ _, hst.2⟩
      · have hsz : cur'.size = cur.size := by rw [← Array.length_toList, m2, setMany_len, Array.length_toList]
        refine ⟨g, cap, cur', e, fz, by rw [List.length_set]; exact e1, m1, by rw [hsz]; exact k3, by rw [List.length_set]; exact k4, fun q v hv => ?_⟩
        rw [← Array.getElem?_toList, m2, setMany_get]
        rw [List.getElem?_set] at hv
        by_cases hq : j = q
        · subst hq
          rw [if_pos rfl, if_pos hj] at hv
          cases hv
          rw [if_pos (by simp; exact hjc)]
          simp
        · rw [if_neg hq] at hv
          rw [if_neg (by simp; omega), Array.getElem?_toList]
          exact k5 q v hv
    rename_i e t' xs hb
    split at he
    case h_2 => cases he
    rename_i hs'
    have := beq_ty hs'
    subst this
    obtain ⟨y, f, h1, h2, h3, h4, h5, h6⟩ := setAll_ok he
    split at h1
    case h_2 => cases h1
    rename_i hfb
    have hfb' : b ∉ f := fun hin => by
      have : f.any (Nat.beq b) = true := List.any_eq_true.2 ⟨b, hin, by simp⟩
      rw [hfb] at this; cases this
    refine ⟨_, h1, fun K' => by unfold storeK; simp only [hi, hn, hs, hb, hs', h2, hfb], fun d x hd => ?_, fun {F c w hp fr pv val} H hh hp1 hv1 => ?_⟩
    · rcases List.mem_cons.1 hd with hd | hd
      · cases hd; exact .inl (by simp [idsV])
      · have : ∀ l, (d, x) ∈ frzW h l → d ∈ l := by
          intro l
          induction l with
          | nil => intro h; cases h
          | cons a q ih =>
            intro hm
            simp only [frzW] at hm
            split at hm
            · rcases List.mem_cons.1 hm with hm | hm
              · cases hm; exact List.mem_cons_self
              · exact List.mem_cons_of_mem _ (ih hm)
            · exact List.mem_cons_of_mem _ (ih hm)
        have hd' := h4 d (this f hd)
        refine .inr ?_
        cases v <;> first | exact hd' | (simp only [parts, idsL, List.append_nil] at hd'; exact hd') | (simp [parts, idsL, idsV] at hd')
    · simp only [VR] at hp1
      obtain ⟨hM, g, n, cap, e1, hj, e2⟩ := hp1
      subst e2
      have hB := hh b _ hb
      obtain ⟨_, inner, hfl, ho⟩ := H.blk b _ hB
      have ho0 := ho
      rw [e1] at ho
      rcases ho.2 with ⟨hx, _⟩ | ⟨g', cap', cur, hx, hbg, hg, hnc, hcm, hcs, htake⟩
      · cases hx
      simp only [Value.slice.injEq, Option.some.injEq, Addr.mk.injEq, and_true] at hx
      obtain ⟨rfl, rfl, rfl⟩ := hx
      obtain ⟨q1, q2⟩ := parts_ok hs hv1
      have hlen := q1.len
      rw [Array.length_toList] at hlen
      have hoff : parts v ≠ [] → off + (parts v).length ≤ t'.cells := h5
      have hjc : j * t'.cells + t'.cells ≤ xs.length * t'.cells := by rw [← Nat.succ_mul]; exact Nat.mul_le_mul_right _ hj
      have hcc : xs.length * t'.cells ≤ cap * t'.cells := Nat.mul_le_mul_right _ hnc
      have hz : 0 < i.size := by rw [← hT.cells]; exact Ty.cells_pos _
      have hoff' := hoff (fun e => by rw [e] at hn'; simp at hn'; omega)
      have hrun := storeAt_run (P := P) hT (off := j * t'.cells + off) (val := val) hg (by omega) (by omega) q2
      refine ⟨_, hrun, ?_⟩
      obtain ⟨c1, a1, a2, a3, a4, a5, a6⟩ := H.frzW h f (fun d _ e0 t0 xs0 hd => hh d _ hd)
      have hB1 : hget (frzW h f ++ hp) b = some (.row e t' xs) := (a6 b hfb').trans hB
      obtain ⟨cur', m1, m2⟩ := setCells_blk g val.cells.toList (j * t'.cells + off) w cur e hg
      have hst := a5.store (w' := w.setCells g (j * t'.cells + off) val.cells.toList) (b := b) (g := g) (x' := .row e t' (xs.set j y)) hB1 rfl rfl (by rw [a2, e1]; rfl) (setCells_eq g _ _ w) (fun hto => ?_)
      · exact ⟨c1, a1.trans hst.1, fun d hd => .inl (by rw [a3] at hd; exact hd), hundef _ _, hst.2⟩
      · have hx : xs[j]? = some (xs.getD j t'.dflt) := by rw [List.getD_eq_getElem?_getD, List.getElem?_eq_getElem hj]; rfl
        have hfl1 := hfl.imp (q := Rd c1.S w t') (fun _ _ h => h.move a1.S (fun _ _ => rfl))
        obtain ⟨cs, hr, hc⟩ := hfl.get (fun _ _ h => h.len) j _ hx
        have hheld : Held c c1.S f := ⟨a1.S, fun d hd g' hg' => by
          obtain ⟨e0, t0, xs0, h0⟩ := h3 d hd
          exact a4 d hd e0 t0 xs0 h0 g' hg'⟩
        have hy := h6 (fun d x hd => (H.blk d x (hh d x hd)).2) q1 hheld cs (hr.move a1.S (fun _ _ => rfl))
        have hfin := hfl1.set (fun _ _ h => h.len) j y _ hj hy
        refine ⟨_, hfin.imp (fun _ _ h => h.move (fun _ h => h) hto.heap), ?_⟩
        have hcl := hr.len
        have hil : inner.length = xs.length * t'.cells := hfl.len (fun _ _ h => h.len)
        rw [a2, e1]
        refine ⟨?_, .inr ⟨g, cap, cur', by rw [List.length_set], hbg, m1, by rw [List.length_set]; exact hnc, hcm, ?_, ?_⟩⟩
        · rw [List.length_append, List.length_append, List.length_take, List.length_drop, setMany_len, hcl, List.length_set, hil]; omega
        · rw [← Array.length_toList, m2, setMany_len, Array.length_toList]; exact hcs
        · apply List.ext_getElem?
          intro k
          have hcur : ∀ k, k < xs.length * t'.cells → cur.toList[k]? = inner[k]? := fun k hk => by
            have := congrArg (fun l : List Value => l[k]?) htake
            simp only [List.getElem?_take, if_pos hk] at this
            exact this
          have hcs' : ∀ i, i < t'.cells → cs[i]? = inner[j * t'.cells + i]? := fun i hi => by
            rw [List.getElem?_eq_getElem (by omega)]
            exact (hc i _ (List.getElem?_eq_getElem (by omega))).symm
          rw [m2, List.getElem?_take, List.length_set, setMany_get, List.getElem?_append, List.getElem?_append, List.length_take, setMany_len, hil, Nat.min_eq_left (by omega), hcl, setMany_get, hcl, show val.cells.toList.length = val.cells.size from Array.length_toList, List.getElem?_take, List.getElem?_drop, show cur.toList.length = cur.size from Array.length_toList]
          have hsz : cur.size = cap * t'.cells := hcs
          by_cases hk : k < xs.length * t'.cells
          · rw [if_pos hk]
            by_cases k1 : k < j * t'.cells
            · rw [if_neg (by omega), if_pos k1, if_pos k1]; exact hcur k hk
            · rw [if_neg (c := k < j * t'.cells) k1]
              by_cases k2 : k - j * t'.cells < t'.cells
              · rw [if_pos k2]
                by_cases k3 : j * t'.cells + off ≤ k ∧ k < j * t'.cells + off + val.cells.size ∧ k < cur.size
                · rw [if_pos k3, if_pos (by omega)]; congr 1; omega
                · rw [if_neg k3, if_neg (by omega), hcs' _ k2, hcur k hk]; congr 1; omega
              · rw [if_neg k2, if_neg (by omega), hcur k hk]; congr 1; omega
          · rw [if_neg hk, if_neg (by omega), if_neg (by omega), List.getElem?_eq_none (by omega)]
  | _ => cases he
/-! ### A piece of an own row written over -/
theorem Flat.splice {α : Type} {p : α → List Value → Prop} {n : Nat} (hn : ∀ x c, p x c → c.length = n) {xs ys : List α} {l us : List Value} (h : Flat p xs l) (hy : Flat p ys us) (lo : Nat) (hl : lo + ys.length ≤ xs.length) : Flat p (xs.take lo ++ (ys ++ xs.drop (lo + ys.length))) (l.take (lo * n) ++ (us ++ l.drop (lo * n + us.length))) := by
  have hus : us.length = ys.length * n := hy.len hn
  have := (h.take hn lo).append (hy.append (h.drop hn (lo + ys.length)))
  rwa [Nat.add_mul, ← hus] at this
theorem HR.splice (H : HR F c w hp) {b g e cap lo : Nat} {t : Ty} {xs ys : List t.D} {us : List Value} (hb : hget hp b = some (.row e t xs)) (hρ : c.ρ b = .slice (some ⟨g, 0, none⟩) xs.length cap) (hy : Flat (Rd c.S w t) ys us) (hl : lo + ys.length ≤ xs.length) :
    (storeCells ⟨g, lo * t.cells, none⟩ us).run P w = .ok () (w.setCells g (lo * t.cells) us) ∧ c.To c w (w.setCells g (lo * t.cells) us) ∧ HR F c (w.setCells g (lo * t.cells) us) ((b, some (.row e t (xs.take lo ++ (ys ++ xs.drop (lo + ys.length))))) :: hp) := by
  obtain ⟨hM, inner, hf, ho⟩ := H.blk b _ hb
  have hn : ∀ x cc, Rd c.S w t x cc → cc.length = t.cells := fun _ _ h => h.len
  have hus : us.length = ys.length * t.cells := hy.len hn
  have hil : inner.length = xs.length * t.cells := hf.len hn
  rw [hρ] at ho
  rcases ho.2 with ⟨hx, _⟩ | ⟨g', cap', cur, hx, hbg, hg, hnc, hcm, hcs, htake⟩
  · cases hx
  simp only [Value.slice.injEq, Option.some.injEq, Addr.mk.injEq, and_true] at hx
  obtain ⟨rfl, _, rfl⟩ := hx
  have hcc : xs.length * t.cells ≤ cap * t.cells := Nat.mul_le_mul_right _ hnc
  have hll : lo * t.cells + us.length ≤ xs.length * t.cells := by rw [hus, ← Nat.add_mul]; exact Nat.mul_le_mul_right _ hl
  have hsz : cur.size = cap * t.cells := hcs
  have hone := hy.one (fun _ _ h => h.one)
  have hc : ∀ k, w.cell? ⟨g, k, none⟩ = cur[k]? := fun k => cell_of_row w g k cur e (0, 0) hg
  refine ⟨?_, ?_⟩
  · have hr := run_storeCells_cells (P := P) g (lo * t.cells) us 0 w (fun j hj => by rw [hc, Array.getElem?_eq_getElem (by omega)]; rfl) (fun j hj => by simp [World.frozen?, hg]) hone
    simpa using hr
  · obtain ⟨cur', m1, m2⟩ := setCells_blk g us (lo * t.cells) w cur e hg
    refine H.store (w' := w.setCells g (lo * t.cells) us) (b := b) (g := g) hb rfl rfl (by rw [hρ]; rfl) (setCells_eq g _ _ w) (fun hto => ?_)
    have hlen : (xs.take lo ++ (ys ++ xs.drop (lo + ys.length))).length = xs.length := by
      rw [List.length_append, List.length_append, List.length_take, List.length_drop]; omega
    refine ⟨_, (hf.splice hn hy lo hl).imp (fun _ _ h => h.move (fun _ h => h) hto.heap), ?_⟩
    rw [hρ, hlen]
    refine ⟨?_, .inr ⟨g, cap, cur', rfl, hbg, m1, hnc, hcm, ?_, ?_⟩⟩
    · rw [List.length_append, List.length_append, List.length_take, List.length_drop, hil]; omega
    · rw [← Array.length_toList, m2, setMany_len, Array.length_toList]; exact hcs
    · have hcl : cur.toList.length = cur.size := Array.length_toList
      rw [m2, setMany_eq _ _ _ (by omega)]
      apply List.ext_getElem?
      intro k
      have hcur : ∀ k, k < xs.length * t.cells → cur.toList[k]? = inner[k]? := fun k hk => by
        have := congrArg (fun l : List Value => l[k]?) htake
        simp only [List.getElem?_take, if_pos hk] at this
        exact this
      rw [List.getElem?_take]
      by_cases hk : k < xs.length * t.cells
      · rw [if_pos hk]
        rw [List.getElem?_append, List.getElem?_append, List.getElem?_append, List.getElem?_append, List.length_take, List.length_take, Array.length_toList, hil, Nat.min_eq_left (by omega), Nat.min_eq_left (by omega)]
        by_cases h1 : k < lo * t.cells
        · rw [if_pos h1, if_pos h1, List.getElem?_take, List.getElem?_take, if_pos h1, if_pos h1]; exact hcur k hk
        · rw [if_neg h1, if_neg h1]
          by_cases h2 : k - lo * t.cells < us.length
          · rw [if_pos h2, if_pos h2]
          · rw [if_neg h2, if_neg h2, List.getElem?_drop, List.getElem?_drop]
            exact hcur _ (by omega)
      · rw [if_neg hk, List.getElem?_eq_none]
        rw [List.length_append, List.length_append, List.length_take, List.length_drop, hil]; omega
theorem HR.write (H : HR F c w hp) {b e lo n : Nat} {t : Ty} {xs ys : List t.D} {us : List Value} {v : Value} (hb : hget hp b = some (.row e t xs)) (hv : (v = c.ρ b ∧ lo = 0 ∧ n = xs.length) ∨ VR c w (.sub t b lo n) v) (hy : Flat (Rd c.S w t) ys us) (hn : ys.length ≤ n) :
    ∃ (A : Option Addr) (cap : Nat) (w' : World), v = .slice A n cap ∧ (∀ a, A = some a → (storeCells a us).run P w = .ok () w') ∧ (A = none → n = 0 ∧ w' = w) ∧ c.To c w w' ∧ HR F c w' ((b, some (.row e t (xs.take lo ++ (ys ++ xs.drop (lo + ys.length))))) :: hp) := by
  obtain ⟨hM, inner, hf, ho⟩ := H.blk b _ hb
  rcases ho.2 with ⟨hx, h0⟩ | ⟨g, cap, cur, hx, _, _, hnc, _⟩
  · have hn0 : n = 0 ∧ lo = 0 ∧ v = .slice none 0 0 := by
      rcases hv with ⟨h1, h2, h3⟩ | hv
      · exact ⟨by rw [h3, h0], h2, by rw [h1, hx]⟩
      · simp only [VR] at hv
        rcases hv.2 with ⟨_, h2, h3, h4⟩ | ⟨g, m, cap, A, h1, _⟩
        · exact ⟨h3, h2, h4⟩
        · rw [hx] at h1; cases h1
    obtain ⟨rfl, rfl, rfl⟩ := hn0
    have hy0 : ys = [] := List.eq_nil_of_length_eq_zero (Nat.le_zero.1 hn)
    have hx0 : xs = [] := List.eq_nil_of_length_eq_zero h0
    subst hy0; subst hx0
    refine ⟨none, 0, w, rfl, (fun a h => by cases h), fun _ => ⟨rfl, rfl⟩, .refl c w, hget_ext H (fun d => ?_)⟩
    rw [hget_cons]
    split
    · rename_i h; subst h; exact hb.symm
    · rfl
  · have hcase : ∃ A cap', v = .slice (some A) n cap' ∧ lo + n ≤ xs.length ∧ (lo < cap ∨ lo = 0 → A = ⟨g, lo * t.cells, none⟩) := by
      rcases hv with ⟨h1, h2, h3⟩ | hv
      · exact ⟨⟨g, 0, none⟩, cap, by rw [h1, hx, h3], by omega, fun _ => by rw [h2, Nat.zero_mul]⟩
      · simp only [VR] at hv
        rcases hv.2 with ⟨h1, _⟩ | ⟨g', m, cap', A, h1, h2, h3, h4, h5, h6⟩
        · rw [hx] at h1; cases h1
        · rw [hx] at h1
          simp only [Value.slice.injEq, Option.some.injEq, Addr.mk.injEq, and_true] at h1
          obtain ⟨h7, h8, h9⟩ := h1
          subst h7; subst h9
          exact ⟨A, _, h4, by omega, h6⟩
    obtain ⟨A, cap', rfl, hln, hA⟩ := hcase
    obtain ⟨r1, r2, r3⟩ := H.splice (P := P) hb hx hy (show lo + ys.length ≤ xs.length by omega)
    by_cases hu : us = []
    · subst hu
      exact ⟨some A, cap', _, rfl, (fun a _ => by simp only [storeCells, Sem.run_pure]; rfl), (fun h => by cases h), r2, r3⟩
    · have hyn : ys ≠ [] := fun h => by subst h; exact hu hy
      have := List.length_pos_iff.2 hyn
      rw [hA (.inl (by omega))]
      exact ⟨_, cap', _, rfl, (fun a h => by cases h; exact r1), (fun h => by cases h), r2, r3⟩
end
end Go.Proofs.YtiacidpjplmgaaaDoorD
