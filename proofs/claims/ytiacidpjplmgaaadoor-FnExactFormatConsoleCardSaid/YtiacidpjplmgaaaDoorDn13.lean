/- Words of this session's own: conversions, new variables, literals, make on the machine. -/
import Derived.Test.YtiacidpjplmgaaaDoorDn12
set_option linter.unusedVariables false
set_option linter.unusedSimpArgs false
namespace Go.Proofs.YtiacidpjplmgaaaDoorD
section
variable {P : Program} {τ : TT} {F : Fr} {c : Ctx} {w w' : World} {hp : Hp} {α : Type}
theorem bytes_flat {S : Nat → Prop} {w : World} : ∀ {xs : List Int} {inner : List Value}, Flat (Rd S w (.int .u8)) xs inner → inner = xs.map (Value.int .u8)
  | [], _, e => e
  | x :: xs, _, ⟨c, r, e, hp, hr⟩ => by rw [e, bytes_flat hr]; cases hp; rfl
theorem flat_bytes (S : Nat → Prop) (w : World) : ∀ (xs : List Int), Flat (Rd S w (.int .u8)) xs (xs.map (Value.int .u8))
  | [] => rfl
  | x :: xs => ⟨[_], _, rfl, rfl, flat_bytes S w xs⟩
theorem bytesWorld_keeps (hk : F.Keeps w) (e : TypeId) (s : ByteArray) : F.Keeps (Lib.bytesWorld w e s) := by
  refine ⟨?_, ?_, ?_, by rw [Lib.bytesWorld_size]; have := hk.size; omega, fun k hlt hH => ?_⟩
  · have := hk.os; unfold Lib.bytesWorld World.freeze; split <;> exact this
  · have := hk.tape; unfold Lib.bytesWorld World.freeze; split <;> exact this
  · have := hk.output; unfold Lib.bytesWorld World.freeze; split <;> exact this
  · rw [Lib.bytesWorld_at_old w e s k (Nat.lt_of_lt_of_le hlt hk.size)]; exact hk.heap k hlt hH
theorem strV_ok {x : V} {s : ByteArray} (h : strV x = some s) : x = .val .str s := by
  unfold strV at h
  split at h
  · cases h; rfl
  · cases h
theorem convK_ok {h : Nat → Option Blk} {fr src dst : Nat} {x : V} {K : V → Hp → Option α} {r : α} (hτ : TOk P τ) (he : convK τ h fr src dst x K = some r) :
    ∃ v ws, K v ws = some r ∧ (∀ {β : Type} (K' : V → Hp → Option β), convK τ h fr src dst x K' = K' v ws) ∧
      ∀ {F : Fr} {c : Ctx} {w : World} {hp : Hp} {xv : Value}, HR F c w hp → (∀ b x, h b = some x → hget hp b = some x) → ¬ c.M fr → VR c w x xv →
        ∃ val w', (convert src dst xv).run P w = .ok val w' ∧ Done F c w hp fr v ws val w' := by
  unfold convK at he
  split at he
  case h_2 => cases he
  rename_i si di hsi hdi
  have hS := (hτ _ _ hsi).und
  have hD := (hτ _ _ hdi).und
  split at he
  · rename_i k hd
    split at he
    case h_2 => cases he
    rename_i k' n
    refine ⟨_, _, he, fun K' => by unfold convK; simp only [hsi, hdi, hd], fun H hh hfr hx => ?_⟩
    rw [int_of hx]
    refine ⟨_, _, ?_, Done.same H VR.int⟩
    simp only [convert, Sem.run_bind, run_underlying hS, run_underlying hD, hd, Result.andThen_ok, Conv.intToInt, Sem.run_pure]
  · rename_i e hd
    split at he
    case h_2 => cases he
    rename_i s ei hs0 hei
    have hs0' := strV_ok hs0
    subst hs0'
    split at he
    case h_2 => cases he
    rename_i hed
    split at he
    · rename_i hocc
      refine ⟨_, _, he, fun K' => by unfold convK; simp only [hsi, hdi, hd, hs0, hei, hed, hocc], fun {F c w hp xv} H hh hfr hx => ?_⟩
      rw [str_of hx]
      have hE := (hτ _ _ hei).und
      refine ⟨_, _, Lib.run_convert_string_bytes (P := P) w src dst e s hS (by rw [hD, hd]) (by rw [hE, hed]), ?_⟩
      have hold : ∀ k, k < w.heap.size → (Lib.bytesWorld w e s).heap[k]? = w.heap[k]? := fun k hk => Lib.bytesWorld_at_old w e s k hk
      have hslen : (bytesOf s).length = s.size := by unfold bytesOf; rw [List.length_map, Array.length_toList]; rfl
      obtain ⟨a1, a2⟩ := H.new (w' := Lib.bytesWorld w e s) (b := fr) (v := .slice (some ⟨w.heap.size, 0, none⟩) s.size (grownCap w s.size 0 e)) (x := .bys (bytesOf s)) hfr (bytesWorld_keeps H.keeps e s) (by rw [Lib.bytesWorld_size]; omega) (fun k hk => hold k (H.stays k hk)) (fun d y g hd hy hg => hold g (H.own d y g hd hy hg).2.2)
        ⟨w.heap.size, grownCap w s.size 0 e, _, e, _, by rw [Ctx.ext_at, hslen], Lib.bytesWorld_at_new w e s, Nat.le_refl _, by rw [hslen]; exact grownCap_ge w s.size 0 e, fun j u hu => by
          unfold bytesOf at hu
          rw [List.getElem?_map] at hu
          obtain ⟨b, hb, rfl⟩ := Option.map_eq_some_iff.1 hu
          have hj : j < s.data.size := by
            have := (List.getElem?_eq_some_iff.1 hb).1
            rwa [Array.length_toList] at this
          unfold Lib.bytesCells
          rw [Array.getElem?_append_left (by simpa using hj), Array.getElem?_map]
          rw [Array.getElem?_toList] at hb
          rw [hb]
          rfl⟩
        (fun g _ hg => by
          have : g = w.heap.size := (Option.some.inj hg).symm
          subst this
          exact ⟨fun h => by have := H.stays _ h; omega, .inl H.keeps.size, by rw [Lib.bytesWorld_size]; omega, fun d y hd hy he => by have := (H.own d y _ hd hy he).2.2; omega⟩)
      refine ⟨_, a1, fun d hd => Ctx.ext_M hd ⟨Nat.le_refl _, by omega⟩, ?_, a2⟩
      simp only [VR]
      exact ⟨.inr rfl, (Ctx.ext_at _ _ _).symm, _, _, _, rfl⟩
    rename_i hocc
    refine ⟨_, _, he, fun K' => by unfold convK; simp only [hsi, hdi, hd, hs0, hei, hed, hocc], fun {F c w hp xv} H hh hfr hx => ?_⟩
    rw [str_of hx]
    have hE := (hτ _ _ hei).und
    refine ⟨_, _, Lib.run_convert_string_bytes (P := P) w src dst e s hS (by rw [hD, hd]) (by rw [hE, hed]), ?_⟩
    have hold : ∀ k, k < w.heap.size → (Lib.bytesWorld w e s).heap[k]? = w.heap[k]? := fun k hk => Lib.bytesWorld_at_old w e s k hk
    have hslen : (bytesOf s).length = s.size := by unfold bytesOf; rw [List.length_map, Array.length_toList]; rfl
    have hrd : ∀ S : Nat → Prop, S w.heap.size → Rd S (Lib.bytesWorld w e s) (.sl (.int .u8)) (bytesOf s) [.slice (some ⟨w.heap.size, 0, none⟩) s.size (grownCap w s.size 0 e)] := fun S hS0 => by
      refine ⟨_, _, (bytesOf s).map (Value.int .u8), by rw [hslen], ⟨by rw [hslen]; exact grownCap_ge w s.size 0 e, fun h => by cases h⟩, flat_bytes _ _ _, fun _ => ⟨_, rfl, hS0, fun j u hu => ?_⟩⟩
      rw [add_mid, Nat.zero_add]
      have hj : j < s.size := by
        have := (List.getElem?_eq_some_iff.1 hu).1
        simpa [hslen] using this
      rw [Lib.bytesWorld_cell w e s j hj, ← hu]
      have hj2 : j < s.data.toList.length := by rw [Array.length_toList]; exact hj
      simp only [bytesOf, List.map_map, List.getElem?_map, List.getElem?_eq_getElem hj2, Option.map_some, Function.comp_apply, List.getD_eq_getElem?_getD, Option.getD_some]
    let c1 : Ctx := ⟨fun k => c.S k ∨ k = w.heap.size, fun d => if d = fr then .slice (some ⟨w.heap.size, 0, none⟩) s.size (grownCap w s.size 0 e) else c.ρ d, fun d => c.M d ∨ d = fr⟩
    have hto : c.To c1 w (Lib.bytesWorld w e s) := ⟨fun _ h => .inl h, fun _ h => .inl h, fun d hd => if_neg (show ¬ d = fr from fun e => hfr (by rw [← e]; exact hd)), fun k hk => hold k (H.stays k hk)⟩
    have hρ : c1.ρ fr = .slice (some ⟨w.heap.size, 0, none⟩) s.size (grownCap w s.size 0 e) := if_pos rfl
    refine ⟨c1, hto, fun d hd => hd.imp id (fun e => by subst e; exact ⟨Nat.le_refl _, by omega⟩), ?_, ?_⟩
    · simp only [VR]; exact ⟨.inr rfl, hρ.symm, _, _, _, rfl⟩
    · have hρd : ∀ d x, hget hp d = some x → c1.ρ d = c.ρ d := fun d x hd => hto.ρ d (H.blk d x hd).1
      refine ⟨fun d x hd => ?_, fun d x g hd hx hg => ?_, fun d f x y g hne hd hf hx hy h1 h2 => ?_, bytesWorld_keeps H.keeps e s, fun k hk => ?_, fun k hk => ?_⟩
      · simp only [List.cons_append, List.nil_append] at hd
        rw [hget_cons] at hd
        split at hd
        · rename_i e'; subst e'; cases hd
          exact ⟨.inr rfl, by rw [hρ]; exact hrd c1.S (.inr rfl), by rw [hρ]; exact .inr ⟨_, _, _, rfl⟩⟩
        · exact ⟨.inl (H.blk d x hd).1, (H.blk d x hd).2.to hto (H.blk d x hd).1 (fun g ho hg => hold g (H.own d x g hd ho hg).2.2)⟩
      · simp only [List.cons_append, List.nil_append] at hd
        rw [hget_cons] at hd
        split at hd
        · cases hd; cases hx
        · rw [hρd d x hd] at hg
          obtain ⟨o1, o2, o3⟩ := H.own d x g hd hx hg
          refine ⟨fun hs => ?_, o2, by rw [Lib.bytesWorld_size]; omega⟩
          rcases hs with hs | hs
          · exact o1 hs
          · omega
      · simp only [List.cons_append, List.nil_append] at hd hf
        rw [hget_cons] at hd hf
        split at hd
        · cases hd; cases hx
        split at hf
        · cases hf; cases hy
        rw [hρd d x hd] at h1
        rw [hρd f y hf] at h2
        exact H.apart d f x y g hne hd hf hx hy h1 h2
      · rw [Lib.bytesWorld_size]
        rcases hk with hk | hk
        · have := H.stays k hk; omega
        · omega
      · rcases hk with hk | hk
        · exact H.grew k hk
        · exact .inr (.inl (by rw [hk]; exact H.keeps.size))
  · rename_i hd
    split at he
    · rename_i s hs0
      have hs0' := strV_ok hs0
      subst hs0'
      refine ⟨_, _, he, fun K' => by unfold convK; simp only [hsi, hdi, hd, hs0], fun H hh hfr hx => ?_⟩
      rw [str_of hx]
      refine ⟨_, _, ?_, Done.same H VR.str⟩
      simp only [convert, Sem.run_bind, run_underlying hS, run_underlying hD, hd, Result.andThen_ok, Sem.run_pure]
    rename_i hs0
    split at he
    case h_2 => cases he
    rename_i e hsd
    split at he
    case h_2 => cases he
    rename_i ei hei
    split at he
    case h_2 => cases he
    rename_i hed
    split at he
    · rename_i xs hby
      have hE := (hτ _ _ hei).und
      refine ⟨_, _, he, fun K' => by unfold convK; simp only [hsi, hdi, hd, hs0, hsd, hei, hed, hby], fun {F c w hp xv} H hh hfr hx => ?_⟩
      unfold bysOf at hby
      split at hby
      case h_2 => cases hby
      rename_i b
      split at hby
      case h_2 => cases hby
      rename_i xs' hb
      cases hby
      obtain ⟨g, cap, cur, ee, fz, k1, k2, k3, k4, k5⟩ := (H.blk b _ (hh b _ hb)).2
      simp only [VR] at hx
      refine ⟨.string (ofBytes xs), w, ?_, Done.same H VR.str⟩
      rw [hx.2.1, k1]
      have hl : (loadCells ⟨g, 0, none⟩ xs.length).run P w = .ok (xs.map (Value.int .u8)).toArray w := by
        have := run_loadCells_list (P := P) w ⟨g, 0, none⟩ (xs.map (Value.int .u8)) (fun j u hu => by
          rw [List.getElem?_map] at hu
          obtain ⟨q, hq, rfl⟩ := Option.map_eq_some_iff.1 hu
          rw [add_mid, Nat.zero_add, cell_of_row _ g _ cur ee fz k2]
          exact k5 j q hq)
        simpa using this
      rw [run_convert_bytes_string w src dst e _ _ _ (by rw [hS, hsd]) (by rw [hE, hed]) (by rw [hD, hd]), run_bytesToString w ⟨g, 0, none⟩ _ cap xs hl, foldl_push_bytes]
      simp [ofBytes, ByteArray.empty, ByteArray.emptyWithCapacity]
      rfl
    rename_i hby
    obtain ⟨xs, f, h1, h2, h3, h4, h5⟩ := leafAs_ok he
    have hE := (hτ _ _ hei).und
    refine ⟨_, _, h1, fun K' => ?_, fun {F c w hp xv} H hh hfr hx => ?_⟩
    · unfold convK
      simp only [hsi, hdi, hd, hs0, hsd, hei, hed, hby]
      exact h2 _
    · have hheld : Held c (fun k => c.S k ∨ ∃ b ∈ f, vblk (c.ρ b) = some k) f := ⟨fun k hk => .inl hk, fun b hb g hg => .inr ⟨b, hb, hg⟩⟩
      obtain ⟨A, cap, inner, e1, ⟨hc, hn⟩, hf, hr⟩ := h5 (fun b x hb => (H.blk b x (hh b x hb)).2) hx hheld
      simp only [List.cons.injEq, and_true] at e1
      have hin := bytes_flat hf
      refine ⟨.string (ofBytes xs), w, ?_, Done.same H VR.str⟩
      rw [e1]
      cases A with
      | none =>
        have hx0 : xs = [] := List.eq_nil_of_length_eq_zero (by have := hn rfl; omega)
        subst hx0
        exact run_convert_bytes_nil w src e (by rw [hS, hsd]) (by rw [hE, hed]) _ _ dst (by rw [hD, hd])
      | some ad =>
        have hl : (loadCells ad xs.length).run P w = .ok (xs.map (Value.int .u8)).toArray w := by
          have := run_loadCells_list (P := P) w ad (xs.map (Value.int .u8)) (fun j u hu => by
            rw [← hin] at hu
            have hne : inner ≠ [] := by rintro h; rw [h] at hu; simp at hu
            obtain ⟨ad', ha, _, hcell⟩ := hr hne
            cases ha
            exact hcell j u hu)
          simpa using this
        rw [run_convert_bytes_string w src dst e _ _ _ (by rw [hS, hsd]) (by rw [hE, hed]) (by rw [hD, hd]), run_bytesToString w ad _ cap xs hl, foldl_push_bytes]
        simp [ofBytes, ByteArray.empty, ByteArray.emptyWithCapacity]
        rfl
  · cases he

/-! ### Variables and literals -/
theorem alloc_ok {t fr : Nat} {i : TI} (hT : TOk1 P t i) (H : HR F c w hp) (hfr : ¬ c.M fr) : ∃ val w', (Instr.alloc t true (.tuple #[])).run P w = .ok val w' ∧ Done F c w hp fr (.ptr fr 0) [(fr, some (.box (zeros i.ty)))] val w' := by
  obtain ⟨I, z, h1, h2, h3, h4, h5, h6⟩ := hT.info
  have hrun : (Instr.alloc t true (.tuple #[])).run P w = .ok (.pointer (some ⟨w.heap.size, 0, none⟩)) (w.alloc (.cells z.cells t)) := by
    simp [Instr.alloc, Sem.run_bind, zeroValue, typeInfo, program, Sem.run, h1, h4, newVar, newRow]
  refine ⟨_, _, hrun, ?_⟩
  obtain ⟨a1, a2⟩ := H.made (b := fr) (v := .pointer (some ⟨w.heap.size, 0, none⟩)) (x := .box (zeros i.ty)) (o := .cells z.cells t) hfr (fun hto => ⟨w.heap.size, z.cells, t, Ctx.ext_at _ _ _, heap_alloc_new w _, by rw [h5]; exact VR.zeros i.ty⟩) rfl
  refine ⟨_, a1, fun d hd => Ctx.ext_M hd ⟨Nat.le_refl _, by omega⟩, ?_, a2⟩
  simp only [VR]
  exact ⟨.inr rfl, w.heap.size, Ctx.ext_at _ _ _, rfl⟩
theorem box_ok {t fr : Nat} {x : V} {xv : Value} (hs : (parts x).all single = true) (H : HR F c w hp) (hfr : ¬ c.M fr) (hx : VR c w x xv) : ∃ val w', (Instr.box t xv).run P w = .ok val w' ∧ Done F c w hp fr (.ptr fr 0) [(fr, some (.box (parts x)))] val w' := by
  have hrun : (Instr.box t xv).run P w = .ok (.pointer (some ⟨w.heap.size, 0, none⟩)) (w.alloc (.cells xv.cells t)) := by
    simp [Instr.box, newVar, newRow]
  refine ⟨_, _, hrun, ?_⟩
  obtain ⟨q1, q2⟩ := parts_ok hs hx
  obtain ⟨a1, a2⟩ := H.made (b := fr) (v := .pointer (some ⟨w.heap.size, 0, none⟩)) (x := .box (parts x)) (o := .cells xv.cells t) hfr (fun hto => ⟨w.heap.size, xv.cells, t, Ctx.ext_at _ _ _, heap_alloc_new w _, q1.to hto⟩) rfl
  refine ⟨_, a1, fun d hd => Ctx.ext_M hd ⟨Nat.le_refl _, by omega⟩, ?_, a2⟩
  simp only [VR]
  exact ⟨.inr rfl, w.heap.size, Ctx.ext_at _ _ _, rfl⟩
/-- A row in a new block. -/
theorem row_made {fr e : Nat} {t : Ty} {xs : List t.D} {inner : List Value} {cells : Array Value} {n : Nat} (H : HR F c w hp) (hfr : ¬ c.M fr) (hf : Flat (Rd c.S w t) xs inner) (ho : (w.alloc (.cells cells e)).ownsRow 0 e t.cells (.slice (some ⟨w.heap.size, 0, none⟩) xs.length n) xs.length inner) :
    Done F c w hp fr (.ref fr) [(fr, some (.row e t xs))] (.slice (some ⟨w.heap.size, 0, none⟩) xs.length n) (w.alloc (.cells cells e)) := by
  obtain ⟨a1, a2⟩ := H.made (b := fr) (v := .slice (some ⟨w.heap.size, 0, none⟩) xs.length n) (x := .row e t xs) (o := .cells cells e) hfr (fun hto => ⟨inner, hf.imp (fun _ _ h => h.move hto.S hto.heap), by rw [Ctx.ext_at]; exact ho⟩) rfl
  refine ⟨_, a1, fun d hd => Ctx.ext_M hd ⟨Nat.le_refl _, by omega⟩, ?_, a2⟩
  simp only [VR]
  exact ⟨.inr rfl, (Ctx.ext_at _ _ _).symm, _, _, _, rfl⟩

/-! ### Pieces of own rows that are written over -/
theorem pieceOf_ok {h : Nat → Option Blk} {t : Ty} {v : V} {K : (b e lo n : Nat) → List t.D → Option α} {r : α} (he : pieceOf h t v K = some r) :
    ∃ b e lo n xs, K b e lo n xs = some r ∧ (∀ {β : Type} (K' : (b e lo n : Nat) → List t.D → Option β), pieceOf h t v K' = K' b e lo n xs) ∧ h b = some (.row e t xs) ∧
      ∀ {c : Ctx} {w : World} {val : Value}, VR c w v val → (val = c.ρ b ∧ lo = 0 ∧ n = xs.length) ∨ VR c w (.sub t b lo n) val := by
  unfold pieceOf at he
  cases v with
  | ref b =>
    dsimp only at he
    split at he
    case h_2 => cases he
    rename_i e t' xs hb
    obtain ⟨ht, h1, h2⟩ := castK_pt he
    cases ht
    refine ⟨b, e, 0, _, _, h1, fun K' => by unfold pieceOf; simp only [hb]; exact h2 _, hb, fun hv => .inl ⟨?_, rfl, rfl⟩⟩
    simp only [VR] at hv; exact hv.2.1
  | sub s b lo n =>
    dsimp only at he
    split at he
    case h_2 => cases he
    rename_i hs
    split at he
    case h_2 => cases he
    rename_i e t' xs hb
    obtain ⟨ht, h1, h2⟩ := castK_pt he
    cases ht
    cases Ty.eq_of_beq hs
    refine ⟨b, e, lo, n, _, h1, fun K' => by unfold pieceOf; simp only [hs, hb]; exact h2 _, hb, fun hv => .inr hv⟩
  | _ => cases he
theorem clearK_ok {h : Nat → Option Blk} {t : Nat} {x : V} {K : V → Hp → Option α} {r : α} (hτ : TOk P τ) (he : clearK τ h t x K = some r) :
    ∃ v ws, K v ws = some r ∧ (∀ {β : Type} (K' : V → Hp → Option β), clearK τ h t x K' = K' v ws) ∧
      ∀ {F : Fr} {c : Ctx} {w : World} {hp : Hp} {fr : Nat} {xv : Value} {ty : TypeId}, HR F c w hp → (∀ b x, h b = some x → hget hp b = some x) → VR c w x xv →
        ∃ val w', (Builtin.clear_ #[t] ty #[xv]).run P w = .ok val w' ∧ Done F c w hp fr v ws val w' := by
  unfold clearK at he
  split at he
  · cases he
  rename_i e ei hel
  have hE := elemOf_ok hτ hel
  obtain ⟨I, z, i1, i2, i3, i4, i5, i6⟩ := hE.2.info
  have htup : ∀ {c : Ctx} {w : World}, VR c w (.tup []) (.tuple #[]) := fun {c w} => by simp only [VR]; exact ⟨_, rfl, by simp only [VRs]⟩
  by_cases hn : x = .nil
  · subst hn
    refine ⟨_, _, he, fun K' => by unfold clearK; simp only [hel], fun {F c w hp fr xv ty} H hh hx => ?_⟩
    simp only [VR] at hx
    subst hx
    refine ⟨.tuple #[], w, ?_, Done.same H htup⟩
    simp [Builtin.clear_, run_underlying hE.1]
  have hx : (pieceOf h ei.ty x fun b e lo n xs => K (.tup []) [(b, some (.row e ei.ty (wipe xs lo n ei.ty.dflt)))]) = some r := by
    cases x <;> first | exact he | exact absurd rfl hn
  obtain ⟨b, e', lo, n, xs, h1, h2, hb, h3⟩ := pieceOf_ok hx
  refine ⟨_, _, h1, fun K' => ?_, fun {F c w hp fr xv ty} H hh hxv => ?_⟩
  · have := h2 (fun b e lo n xs => K' (.tup []) [(b, some (.row e ei.ty (wipe xs lo n ei.ty.dflt)))])
    unfold clearK
    simp only [hel]
    cases x <;> first | exact this | exact absurd rfl hn
  obtain ⟨A, cap, w', k1, k2, k3, k4, k5⟩ := H.write (P := P) (hh _ _ hb) (h3 hxv) (Flat.replicate (Rd.zero c.S w ei.ty) n) (by rw [List.length_replicate]; exact Nat.le_refl _)
  rw [List.length_replicate] at k5
  refine ⟨.tuple #[], w', ?_, _, k4, fun _ h => .inl h, htup, k5⟩
  subst k1
  have hzl : 0 < z.cells.size := by rw [← Array.length_toList, i5, (Rd.zero (fun _ => True) w ei.ty).len]; exact Ty.cells_pos _
  have hz : (zeroValue e).run P w = .ok z w := by simp [zeroValue, typeInfo, i1, i4]
  cases A with
  | none =>
    obtain ⟨rfl, rfl⟩ := k3 rfl
    simp [Builtin.clear_, run_underlying hE.1]
  | some a =>
    cases n with
    | zero =>
      have := k2 a rfl
      simp only [List.replicate_zero, List.flatten_nil, storeCells, Sem.run_pure] at this
      simp [Builtin.clear_, run_underlying hE.1]
      simpa using this
    | succ n =>
      have := k2 a rfl
      rw [← i5, ← zeroCells_eq _ hzl] at this
      simp [Builtin.clear_, run_underlying hE.1, hz, this]
theorem copyK_ok {h : Nat → Option Blk} {t : Nat} {d s : V} {K : V → Hp → Option α} {r : α} (hτ : TOk P τ) (he : copyK τ h t d s K = some r) :
    ∃ v ws, K v ws = some r ∧ (∀ {β : Type} (K' : V → Hp → Option β), copyK τ h t d s K' = K' v ws) ∧
      ∀ {F : Fr} {c : Ctx} {w : World} {hp : Hp} {fr : Nat} {dv sv : Value} {ts : List Nat} {ty : TypeId}, HR F c w hp → (∀ b x, h b = some x → hget hp b = some x) → VR c w d dv → VR c w s sv →
        ∃ val w', (Builtin.copy_ (t :: ts).toArray ty #[dv, sv]).run P w = .ok val w' ∧ Done F c w hp fr v ws val w' := by
  unfold copyK at he
  split at he
  · cases he
  rename_i e ei hel
  have hE := elemOf_ok hτ hel
  split at he
  · cases he
  rename_i hdeep
  obtain ⟨ys, f, g1, g2, g3, g4, g5⟩ := leafAs_ok he
  have hsrc : ∀ {F : Fr} {c : Ctx} {w : World} {hp : Hp} {sv : Value} (n : Nat), HR F c w hp → (∀ b x, h b = some x → hget hp b = some x) → VR c w s sv → n ≤ List.length (α := ei.ty.D) ys →
      ∃ us : List Value, Flat (Rd c.S w ei.ty) (List.take n (α := ei.ty.D) ys) us ∧ (Builtin.lenOf sv).run P w = .ok (List.length (α := ei.ty.D) ys) w ∧ (Builtin.firstCells ei.size n sv).run P w = .ok us.toArray w := by
    intro F c w hp sv n H hh hsv hn
    obtain ⟨A, cap, inner, e1, e2, e3, e4⟩ := g5 (S' := fun k => c.S k ∨ ∃ b ∈ f, vblk (c.ρ b) = some k) (fun b x hb => (H.blk b x (hh b x hb)).2) hsv ⟨fun k hk => .inl hk, fun b hb g hg => .inr ⟨b, hb, hg⟩⟩
    simp only [List.cons.injEq, and_true] at e1
    subst e1
    have e5 : Flat (Rd c.S w ei.ty) ys inner := e3.imp (fun _ _ h => h.flat hdeep)
    have e6 := e5.take (fun _ _ h => h.len) n
    refine ⟨_, e6, by simp [Builtin.lenOf], ?_⟩
    have hl : (inner.take (n * ei.ty.cells)).length = n * ei.ty.cells := by
      rw [e6.len (fun _ _ h => h.len), List.length_take, Nat.min_eq_left hn]
    cases A with
    | none =>
      have h0 : List.length (α := ei.ty.D) ys = 0 := by have := e2.2 rfl; omega
      have hi : inner = [] := List.eq_nil_of_length_eq_zero (by rw [e5.len (fun _ _ h => h.len), h0, Nat.zero_mul])
      subst hi
      simp [Builtin.firstCells]
    | some a =>
      rw [← hE.2.cells]
      refine run_firstCells_some _ _ n a _ cap _ hl (fun j u hu => ?_)
      have hu' : inner[j]? = some u := by
        rw [List.getElem?_take] at hu
        split at hu
        · exact hu
        · cases hu
      have hne : inner ≠ [] := by rintro rfl; simp at hu'
      obtain ⟨ad, ha, _, hc⟩ := e4 hne
      cases ha
      exact hc j u hu'
  by_cases hn : d = .nil
  · subst hn
    refine ⟨_, _, g1, fun K' => by unfold copyK; simp only [hel, hdeep]; exact g2 _, fun {F c w hp fr dv sv ts ty} H hh hd hs => ?_⟩
    simp only [VR] at hd
    subst hd
    obtain ⟨us, q1, q2, q3⟩ := hsrc 0 H hh hs (Nat.zero_le _)
    refine ⟨goInt 0, w, ?_, Done.same H (by simp only [VR]; rfl)⟩
    simp [Builtin.copy_, run_underlying hE.1, q2, sizeOf_run hE.2, q3]
  have hx : (pieceOf h ei.ty d fun b e lo n xs => K (.val (.int .i64) ((min (List.length (α := ei.ty.D) ys) n : Nat) : Int)) [(b, some (.row e ei.ty (lay xs lo n ys)))]) = some r := by
    cases d <;> first | exact g1 | exact absurd rfl hn
  obtain ⟨b, e', lo, n, xs, h1, h2, hb, h3⟩ := pieceOf_ok hx
  refine ⟨_, _, h1, fun K' => ?_, fun {F c w hp fr dv sv ts ty} H hh hd hs => ?_⟩
  · have := h2 (fun b e lo n xs => K' (.val (.int .i64) ((min (List.length (α := ei.ty.D) ys) n : Nat) : Int)) [(b, some (.row e ei.ty (lay xs lo n ys)))])
    unfold copyK
    simp only [hel, hdeep]
    rw [g2]
    cases d <;> first | exact this | exact absurd rfl hn
  obtain ⟨us, q1, q2, q3⟩ := hsrc (min (List.length (α := ei.ty.D) ys) n) H hh hs (Nat.min_le_left _ _)
  have htk : List.take (min (List.length (α := ei.ty.D) ys) n) (α := ei.ty.D) ys = List.take n (α := ei.ty.D) ys := by
    rw [Nat.min_comm, ← List.take_take, List.take_length]
  rw [htk] at q1
  have hlen : (List.take n (α := ei.ty.D) ys).length = min (List.length (α := ei.ty.D) ys) n := by rw [List.length_take, Nat.min_comm]
  obtain ⟨A, cap, w', k1, k2, k3, k4, k5⟩ := H.write (P := P) (hh _ _ hb) (h3 hd) q1 (by rw [hlen]; exact Nat.min_le_right _ _)
  rw [hlen] at k5
  refine ⟨goInt ((min (List.length (α := ei.ty.D) ys) n : Nat) : Int), w', ?_, _, k4, fun _ h => .inl h, by simp only [VR]; rfl, k5⟩
  subst k1
  have hmin : Nat.min (List.length (α := ei.ty.D) ys) n = min (List.length (α := ei.ty.D) ys) n := rfl
  cases A with
  | none =>
    obtain ⟨rfl, rfl⟩ := k3 rfl
    simp only [Nat.min_zero] at q3
    simp [Builtin.copy_, run_underlying hE.1, q2, sizeOf_run hE.2, q3]
  | some a =>
    have := k2 a rfl
    simp [Builtin.copy_, run_underlying hE.1, q2, sizeOf_run hE.2, q3, this]
end
end Go.Proofs.YtiacidpjplmgaaaDoorD
