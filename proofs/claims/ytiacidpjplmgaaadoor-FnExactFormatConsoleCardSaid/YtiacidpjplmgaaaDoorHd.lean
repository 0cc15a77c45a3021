/- Words of this session's own: FormatConsole by a walk, with a strings.Builder. -/
import Derived.Test.YtiacidpjplmgaaaDoorLib
import Derived.WalkKit
import Derived.Handy
import Derived.Deep.RegionHeld3
import Derived.Shelf.Strings.Builder1
set_option linter.unusedVariables false
set_option linter.unusedSimpArgs false
namespace Go.Proofs.YtiacidpjplmgaaaDoorD
open Go.RowKit Go.Lib
section
variable {P : Program}
theorem passL_vals {h : Nat → Option Blk} : ∀ {ts : List Ty} {vs : List V} {α : Type} {K : Pk → Option α} {r : α}, ts.all sca = true → passL h (ts.map fun t => .d t none) vs K = some r →
    ∃ p, K p = some r ∧ p.leaves.length = ts.length ∧ ∀ {c : Ctx} {w : World} {vals : List Value}, (∀ b x, h b = some x → BR c w b x) → VRs c w vs vals → vals = p.leaves.map fun l => valOf l.t l.x
  | [], vs, _, K, r, _, he => by
    unfold List.map passL at he
    split at he
    case h_2 => cases he
    refine ⟨_, he, rfl, fun _ hv => ?_⟩
    simpa [VRs] using hv
  | t :: ts, vs, _, K, r, ht, he => by
    rw [List.all_cons, Bool.and_eq_true] at ht
    unfold List.map passL at he
    split at he
    case h_2 => cases he
    rename_i v q
    unfold Sh.pass at he
    dsimp only at he
    obtain ⟨x, f, h1, h2, h3, h4, h5⟩ := leafAs_ok he
    obtain ⟨p, k1, k2, k3⟩ := passL_vals ht.2 h1
    refine ⟨_, k1, by show (⟨t, x⟩ :: p.leaves).length = _; simp [k2], fun {c w vals} hH hv => ?_⟩
    simp only [VRs] at hv
    obtain ⟨y, z, rfl, e1, e2⟩ := hv
    have a1 := h5 (S' := fun _ => True) hH e1 ⟨fun _ _ => trivial, fun _ _ _ _ => trivial⟩
    have a2 := (Rd.sca ht.1).1 a1
    simp only [List.cons.injEq, and_true] at a2
    rw [a2, k3 hH e2]
    rfl
/-- A function of data that gives plain values, as a contract. -/
theorem Sound.at {f : FuncId} {ps : List Sh} {ts : List Ty} {g : RT (tysL ps) → Option (RT (tysL ((ts.map fun t => .d t none) ++ flatL (bxsL ps))))} (hS : Sound P f ⟨ps, ts.map fun t => .d t none, g⟩) (ht : ts.all sca = true) (hb : bxsL ps = []) {x : RT (tysL ps)} {r : RT (tysL ((ts.map fun t => .d t none) ++ flatL (bxsL ps)))} (hx : g x = some r) (h0 : (inVL ps (ofRT _ x) 0).heap = [])
    (S : Nat → Prop) (W : World) (hs : ∀ k, S k → k < W.heap.size) (hg : GN ≤ W.heap.size ∧ GP W.heap) {vals : List Value} (hv : ∀ ρ, VRs ⟨S, ρ, fun _ => False⟩ W (inVL ps (ofRT _ x) 0).vs vals) :
    Calls P f vals.toArray W fun e W' => e = .returned (retVal ((ofRT _ r).map fun l => valOf l.t l.x)) ∧ Below W.heap.size W W' := by
  have hP := hS.2 x r hx ⟨W, fun _ => False, S, [], fun _ => undef, hg.1, fun _ _ h => h, hg.2⟩ ⟨S, fun _ => undef, fun _ => False⟩ W vals rfl rfl (fun b hb => hb.elim)
    (by show HR _ _ W (inVL ps (ofRT _ x) 0).heap
        rw [h0]
        exact ⟨(by intro b x hb; cases hb), (by intro b x g hb; cases hb), (by intro b d x y g _ hb; cases hb), ⟨rfl, rfl, rfl, Nat.le_refl _, fun _ _ _ => rfl⟩, hs, fun k hk => .inl hk⟩) (hv _)
  refine hP.mono fun e W' ⟨v, he, hp⟩ => ?_
  obtain ⟨c', h', vs, vals', p, _, a2, a3, a4, a5, _, _, _, _, a10, _⟩ := hp
  have a4' : passL (hget h') (ts.map fun t => .d t none) vs some = some p := by
    have : (ts.map fun t => Sh.d t none) ++ flatL (bxsL ps) = ts.map fun t => Sh.d t none := by rw [hb]; simp [flatL]
    rw [← this]; exact a4
  obtain ⟨q, k1, k2, k3⟩ := passL_vals ht a4'
  obtain rfl := Option.some.inj k1
  have hvals := k3 (fun b x hb => (a2.blk b x hb).2) a3
  refine ⟨?_, ⟨a2.keeps.os, a2.keeps.tape, a2.keeps.output, a2.keeps.size, fun k hk => a2.keeps.heap k hk (fun h => h)⟩⟩
  rw [he, ← a10, ← a5, hvals]
  have : (ts.map fun t => Sh.d t none).length = (q.leaves.map fun l => valOf l.t l.x).length := by rw [List.length_map, List.length_map, k2]
  dsimp only
  rw [this, List.take_length]
end
theorem boxed_cell {wr : World} {g : Nat} {cs : Array Value} {t : TypeId} (h : wr.heap[g]? = some (.cells cs t)) (j : Nat) : wr.cell? ⟨g, j, none⟩ = cs[j]? := by
  rw [Lib.cell_of_heap h]
theorem bldSize : (Tryd.prog.info? 57).map (·.size) = some 2 := by kernel_rfl
theorem bldLies : liesAt Tryd.prog Tryd.prog.depth 57 (2 / Tryd.prog.cellsOf 57) 0 57 1 = true := by kernel_rfl
theorem bldByte : (Tryd.prog.info? 5).map (fun i => (i.zero, i.size, i.bytes)) = some (some (.int .u8 0), 1, 1) := by kernel_rfl
set_option maxRecDepth 100000 in
theorem cc_used (b : Nat) (w : World) (c0 : w.cell? ⟨b, 0, none⟩ = some (.pointer (some ⟨b, 0, none⟩))) :
    Calls Tryd.prog 37 #[.pointer (some ⟨b, 0, none⟩)] w fun e w' => e = .returned (.tuple #[]) ∧ w' = w := by
  obtain ⟨j, hj, _⟩ := Option.map_eq_some_iff.1 bldSize
  go_enter Tryd.func37, Tryd.ntmps37
  go_wp2
  first
    | (rw [Lib.run_neq_ptr_same w _ Tryd.underlying54 hj]
       go_wp2)
    | skip
  go_end0
  exact ⟨rfl, rfl⟩
set_option maxRecDepth 100000 in
theorem cc_fresh (b : Nat) (w : World) (c0 : w.cell? ⟨b, 0, none⟩ = some (.pointer none)) (hsh : w.shape? b = some (57, 2)) (hfz : w.frozen? ⟨b, 0, none⟩ = false) :
    Calls Tryd.prog 37 #[.pointer (some ⟨b, 0, none⟩)] w fun e w' => e = .returned (.tuple #[]) ∧ w' = w.setCell ⟨b, 0, none⟩ (.pointer (some ⟨b, 0, none⟩)) := by
  obtain ⟨j, hj, hjs⟩ := Option.map_eq_some_iff.1 bldSize
  go_enter Tryd.func37, Tryd.ntmps37
  go_wp2
  rw [Lib.run_to_unsafe w ⟨b, 0, none⟩ Tryd.underlying54 Tryd.underlying87 hj (by rw [hjs]; decide) hsh (Nat.zero_lt_succ 1)]
  simp only [Result.andThen]
  rw [Oper.upon_value]
  go_wp2
  rw [run_callFunc_extern Tryd.func48 (by kernel_rfl) (by kernel_rfl) (by kernel_rfl) (e := Extern.AbiNoEscape.same) (by kernel_rfl)]
  rw [Lib.run_noEscape]
  simp only [Result.andThen]
  rw [Oper.upon_value]
  go_wp2
  rw [Lib.run_from_unsafe w ⟨b, 0, none⟩ Tryd.underlying87 Tryd.underlying54 hj hsh bldLies]
  simp only [Result.andThen]
  rw [Oper.upon_value]
  go_wp2
  go_end0
  exact ⟨rfl, rfl⟩
theorem cc_any (B b : Nat) (bs : List Value) (w : World) (h : Lib.IsBuilder 57 5 B b bs w) :
    Calls Tryd.prog 37 #[.pointer (some ⟨b, 0, none⟩)] w fun e w' => e = .returned (.tuple #[]) ∧ Lib.BuilderAt 57 5 B b (.pointer (some ⟨b, 0, none⟩)) bs w' ∧ Below B w w' := by
  cases h with
  | inl h => exact (cc_fresh b w h.cell0 h.shape h.frozen0).mono fun e w' ⟨he, hw⟩ => ⟨he, by rw [hw]; exact h.used _, by rw [hw]; exact (Below.refl B w).setCell (p := ⟨b, 0, none⟩) h.1 _⟩
  | inr h => exact (cc_used b w h.cell0).mono fun e w' ⟨he, hw⟩ => ⟨he, by rw [hw]; exact h, by rw [hw]; exact Below.refl _ _⟩
theorem row_slice {B : Nat} {v : Value} {n : Nat} {xs : List Value} {w : World} (h : w.ownsRow B 5 1 v n xs) : ∃ A m c, v = .slice A m c := by
  rcases h.2 with ⟨hv, _⟩ | ⟨g, c, cur, hv, _⟩
  · exact ⟨_, _, _, hv⟩
  · exact ⟨_, _, _, hv⟩
set_option maxHeartbeats 2000000 in
set_option maxRecDepth 100000 in
theorem bld_write (B b : Nat) (bs : List Value) (s : ByteArray) (w : World) (h : Lib.IsBuilder 57 5 B b bs w) (hlen : bs.length + s.size ≤ 140737488355328) (hBw : B ≤ w.heap.size) :
    Calls Tryd.prog 24 #[.pointer (some ⟨b, 0, none⟩), .string s] w fun e w' => e = .returned (.tuple #[.int .i64 s.size, .nilIface]) ∧ (Lib.BuilderAt 57 5 B b (.pointer (some ⟨b, 0, none⟩)) (bs ++ Lib.strCells s) w' ∧ Below B w w') := by
  obtain ⟨i0, hi, hz0, hz1, hz2⟩ := info_parts bldByte
  have hmax : bs.length + s.size ≤ maxLen := by unfold maxLen; omega
  go_enter Tryd.func24, Tryd.ntmps24
  go_wp2_with (first
    | (go_at_call 37; refine (cc_any B b bs _ h).mono ?_; rintro e w1 ⟨rfl, ⟨hB, v, hbk, hown, hne⟩, hb1⟩; have c0 : w1.cell? ⟨b, 0, none⟩ = some (.pointer (some ⟨b, 0, none⟩)) := boxed_cell hbk 0; have c1 : w1.cell? ⟨b, 1, none⟩ = some v := boxed_cell hbk 1; have hlt : b < w1.heap.size := (Array.getElem?_eq_some_iff.1 hbk).1; have hsz : B ≤ w1.heap.size := Nat.le_trans hBw hb1.size)
    | (at_builtin; refine Lib.wpList_append_own_string _ rfl _ _ 55 9 rfl B 5 i0 Tryd.underlying55 Tryd.underlying9 hi hz0 hz1 hz2 _ _ _ rfl hown s rfl hmax hlen hsz ?_; intro v' w2 hown' hgrow _; have hb2 : w2.heap[b]? = some (.cells #[.pointer (some ⟨b, 0, none⟩), v] 57) := (hgrow.block b hlt (fun e => hne e.symm)).trans hbk; have d1 : w2.cell? ⟨b, 1, none⟩ = some v := boxed_cell hb2 1; have f1 : w2.frozen? ⟨b, 1, none⟩ = false := Lib.frozen_of_heap hb2 1; obtain ⟨A, m, c, rfl⟩ := row_slice hown'))
  have hfin : Lib.BuilderAt 57 5 B b (.pointer (some ⟨b, 0, none⟩)) (bs ++ Lib.strCells s) (w2.setCell ⟨b, 1, none⟩ (.slice A m c)) := Lib.BuilderAt.put (T := 57) (e := 5) hB hb2 (bs' := bs ++ Lib.strCells s) (by rw [List.length_append, Lib.strCells_length]; exact hown') (by decide)
  have hbel : Below B w (w2.setCell ⟨b, 1, none⟩ (.slice A m c)) := (hb1.grown hgrow hsz (fun k hk => (hown.lt k hk).1)).setCell (p := ⟨b, 1, none⟩) hB _
  go_ret2
  exact ⟨rfl, hfin, hbel⟩
theorem bld_text (B b : Nat) (l : List UInt8) (w : World) (h : Lib.IsBuilder 57 5 B b (Lib.byteCells l) w) (hBw : B ≤ w.heap.size) :
    Calls Tryd.prog 26 #[.pointer (some ⟨b, 0, none⟩)] w fun e w' => e = .returned (.string ⟨l.toArray⟩) ∧ Below B w w' := Tryd.Builder_String_any B b l w h hBw
def fmtLine (fT : Int → Option (ByteArray × Bool)) (fD : Int → Option ByteArray) (i : Int) : Option ByteArray :=
  (fD i).bind fun d => (catS d ⟨#[58, 32]⟩).bind fun s1 => (fT i).bind fun t => (catS s1 t.1).bind fun s2 => catS s2 ⟨#[10]⟩
def fmtLoop (fT : Int → Option (ByteArray × Bool)) (fD : Int → Option ByteArray) : Nat → Nat → ByteArray → Option ByteArray
  | 0, _, acc => some acc
  | m + 1, i, acc => (fmtLine fT fD i).bind fun s => (catS acc s).bind fun a => fmtLoop fT fD m (i + 1) a
def fmtEnd (fD : Int → Option ByteArray) (d0 d3 d6 : Int) (acc : ByteArray) : Option ByteArray :=
  (fD d0).bind fun x => (catS ⟨#[100, 97, 121, 32]⟩ x).bind fun s1 => (catS s1 ⟨#[59, 32, 109, 111, 110, 101, 121, 32]⟩).bind fun s2 => (fD d3).bind fun y => (catS s2 y).bind fun s3 => (catS s3 ⟨#[59, 32, 114, 101, 99, 111, 114, 100, 115, 32]⟩).bind fun s4 => (fD d6).bind fun z => (catS s4 z).bind fun s5 => (catS s5 ⟨#[10]⟩).bind fun s6 => catS acc s6
theorem catS_some {a b c : ByteArray} (h : catS a b = some c) : c = a ++ b ∧ a.size + b.size ≤ 140737488355328 := by
  unfold catS at h
  split at h
  · cases h; exact ⟨rfl, by assumption⟩
  · cases h
theorem cat_facts {a b c : ByteArray} (h : catS a b = some c) : a ++ b = c ∧ ¬ (9223372036854775807 < a.size + b.size) := by
  obtain ⟨rfl, h⟩ := catS_some h
  exact ⟨rfl, by omega⟩
theorem bld_below {T e : TypeId} {B b : Nat} {bs : List Value} {w w' : World} (h : Lib.IsBuilder T e B b bs w) (hB : Below w.heap.size w w') : Lib.IsBuilder T e B b bs w' := by
  have one : ∀ p, Lib.BuilderAt T e B b p bs w → Lib.BuilderAt T e B b p bs w' := fun p hp => by
    obtain ⟨h1, v, h2, h3, h4⟩ := hp
    refine ⟨h1, v, (hB.block b (Array.getElem?_eq_some_iff.1 h2).1).trans h2, ⟨h3.1, ?_⟩, h4⟩
    rcases h3.2 with h | ⟨g, cap, cur, q1, q2, q3, q4⟩
    · exact .inl h
    · exact .inr ⟨g, cap, cur, q1, q2, (hB.block g (Array.getElem?_eq_some_iff.1 q3).1).trans q3, q4⟩
  exact h.imp (one _) (one _)
theorem bld_str (B b : Nat) (s : ByteArray) (w : World) (h : Lib.IsBuilder 57 5 B b (Lib.strCells s) w) (hBw : B ≤ w.heap.size) :
    Calls Tryd.prog 26 #[.pointer (some ⟨b, 0, none⟩)] w fun e w' => e = .returned (.string s) ∧ Below B w w' := by
  have := bld_text B b s.data.toList w (by rw [← Lib.strCells_eq]; exact h) hBw
  rw [show (⟨s.data.toList.toArray⟩ : ByteArray) = s by cases s; simp] at this
  exact this
theorem strCells_app (a b : ByteArray) : Lib.strCells (a ++ b) = Lib.strCells a ++ Lib.strCells b := by
  unfold Lib.strCells
  rw [show (a ++ b).data = a.data ++ b.data from ByteArray.data_append]
  simp
theorem boxed {w W1 wr : World} {o : Obj} (hB1 : Below (w.alloc o).heap.size (w.alloc o) W1) (hbw : Below W1.heap.size W1 wr) : wr.heap[w.heap.size]? = some o := by
  have h1 : (w.alloc o).heap.size = w.heap.size + 1 := Array.size_push ..
  have h2 := hB1.size
  rw [hbw.block _ (by omega), hB1.block _ (by omega)]
  show (w.heap.push o)[w.heap.size]? = _
  simp
set_option maxHeartbeats 4000000 in
set_option maxRecDepth 100000 in
theorem fmt_yes (d0 d1 : Int) (A : Option Addr) (n cap : Nat) (d3 : Int) (s4 s5 : ByteArray) (d6 : Int) (w : World) (fT : Int → Option (ByteArray × Bool)) (fD : Int → Option ByteArray) (a r : ByteArray) (hn : n ≤ 1000000)
    (hV : ∀ W, Below w.heap.size w W → Calls Tryd.prog 8 #[.agg #[.int .i64 d0, .int .i64 d1, .slice A n cap, .int .i64 d3, .string s4, .string s5, .int .i64 d6]] W fun e W' => e = .returned (.bool true) ∧ Below W.heap.size W W')
    (hT : ∀ W i t, Below w.heap.size w W → fT i = some t → Calls Tryd.prog 23 #[.agg #[.int .i64 d0, .int .i64 d1, .slice A n cap, .int .i64 d3], .int .i64 i] W fun e W' => e = .returned (.tuple #[.string t.1, .bool t.2]) ∧ Below W.heap.size W W')
    (hD : ∀ W i t, Below w.heap.size w W → fD i = some t → Calls Tryd.prog 25 #[.int .i64 i] W fun e W' => e = .returned (.string t) ∧ Below W.heap.size W W')
    (hL : fmtLoop fT fD n 0 ⟨#[]⟩ = some a) (hE : fmtEnd fD d0 d3 d6 a = some r) :
    Calls Tryd.prog 11 #[.agg #[.int .i64 d0, .int .i64 d1, .slice A n cap, .int .i64 d3, .string s4, .string s5, .int .i64 d6]] w fun e w' => e = .returned (.tuple #[.string r, .bool true]) ∧ Below w.heap.size w w' := by
  have hB0 := (Below.refl w.heap.size w).alloc (Nat.le_refl _) (.cells #[.int .i64 d0, .int .i64 d1, .slice A n cap, .int .i64 d3, .string s4, .string s5, .int .i64 d6] 36)
  go_enter Tryd.func11, Tryd.ntmps11
  go_wp2_with (go_at_call 8; refine (hV _ hB0).mono ?_; rintro e W1 ⟨rfl, hB1⟩; have hc2 := boxed_cell (boxed hB1 ((Below.refl _ W1).alloc (Nat.le_refl _) (.cells #[.pointer none, .slice none 0 0] 57))) 2; simp at hc2)
  go_loopw [16] (fun i wr => ∃ (k : Nat) (acc : ByteArray), k ≤ n ∧ i = .int .i64 k ∧ Lib.IsBuilder 57 5 W1.heap.size W1.heap.size (Lib.strCells acc) wr ∧ Below W1.heap.size W1 wr ∧ fmtLoop fT fD (n - k) k acc = some a) (fun i _ => n - (RowKit.intOf i).toNat)
  case atStart => exact ⟨0, ⟨#[]⟩, Nat.zero_le _, rfl, Lib.fresh_isBuilder 57 5 W1, (Below.refl _ W1).alloc (Nat.le_refl _) _, hL⟩
  case round =>
    obtain ⟨k, acc, hk, rfl, hI, hbw, hacc⟩ := hrel
    have hbx := boxed hB1 hbw
    have c0 := boxed_cell hbx 0
    have c1 := boxed_cell hbx 1
    have c2 := boxed_cell hbx 2
    have c3 := boxed_cell hbx 3
    have c6 := boxed_cell hbx 6
    simp at c0 c1 c2 c3 c6
    have hBr : Below w.heap.size w wr := (hB0.trans (hB1.mono (by have := hB0.size; omega))).trans (hbw.mono (by have := hB0.size; have := hB1.size; omega))
    by_cases hkn : k < n
    · obtain ⟨m, hm⟩ : ∃ m, n - k = m + 1 := ⟨n - k - 1, by omega⟩
      rw [hm] at hacc
      unfold fmtLoop at hacc
      obtain ⟨s, hs, hacc⟩ := Option.bind_eq_some_iff.1 hacc
      obtain ⟨acc2, ha2, hacc⟩ := Option.bind_eq_some_iff.1 hacc
      unfold fmtLine at hs
      obtain ⟨d, hd, hs⟩ := Option.bind_eq_some_iff.1 hs
      obtain ⟨s1, hs1, hs⟩ := Option.bind_eq_some_iff.1 hs
      obtain ⟨tx, htx, hs⟩ := Option.bind_eq_some_iff.1 hs
      obtain ⟨s2, hs2, hs⟩ := Option.bind_eq_some_iff.1 hs
      obtain ⟨e1, k1⟩ := cat_facts hs1
      obtain ⟨e2, k2⟩ := cat_facts hs2
      obtain ⟨e3, k3⟩ := cat_facts hs
      change ¬ (9223372036854775807 < d.size + 2) at k1
      change ¬ (9223372036854775807 < s2.size + 1) at k3
      obtain ⟨rfl, l4⟩ := catS_some ha2
      clear hs hs1 hs2 ha2 hL hE hV
      go_wp2_with (go_at_call 23; refine (hT wr k tx hBr htx).mono ?_; rintro e W2 ⟨rfl, hB2⟩)
      have hBr2 : Below w.heap.size w W2 := hBr.trans (hB2.mono (by have := hBr.size; omega))
      have hI2 := bld_below hI hB2
      go_wp2_with (go_at_call 25; refine (hD W2 k d hBr2 hd).mono ?_; rintro e W3 ⟨rfl, hB3⟩)
      have hI3 := bld_below hI2 hB3
      have hsz3 : W1.heap.size ≤ W3.heap.size := by have := hbw.size; have := hB2.size; have := hB3.size; omega
      have hlen : (Lib.strCells acc).length + s.size ≤ 140737488355328 := by rw [Lib.strCells_length]; exact l4
      have hbw3 : Below W1.heap.size W1 W3 := (hbw.trans (hB2.mono (by have := hbw.size; omega))).trans (hB3.mono (by have := hbw.size; have := hB2.size; omega))
      clear hbx c0 c1 c2 c3 c6 hI hI2 hT hD
      go_wp2_with (go_at_call 24; refine (bld_write W1.heap.size W1.heap.size (Lib.strCells acc) s W3 hI3 hlen hsz3).mono ?_; rintro e W4 ⟨rfl, hI4, hB4⟩)
      go_roundw
      case rel => exact ⟨k + 1, acc ++ s, by omega, by go_num, .inr (by rw [strCells_app]; exact hI4), hbw3.trans hB4, by rw [show n - (k + 1) = m by omega]; exact hacc⟩
      case measure => simp [RowKit.intOf]; omega
    · have hk2 : k = n := by omega
      subst hk2
      rw [Nat.sub_self] at hacc
      have hacc : acc = a := Option.some.inj hacc
      subst hacc
      clear hL
      unfold fmtEnd at hE
      obtain ⟨x, hx, hE⟩ := Option.bind_eq_some_iff.1 hE
      obtain ⟨s1, hs1, hE⟩ := Option.bind_eq_some_iff.1 hE
      obtain ⟨s2, hs2, hE⟩ := Option.bind_eq_some_iff.1 hE
      obtain ⟨y, hy, hE⟩ := Option.bind_eq_some_iff.1 hE
      obtain ⟨s3, hs3, hE⟩ := Option.bind_eq_some_iff.1 hE
      obtain ⟨s6, hs6, hE⟩ := Option.bind_eq_some_iff.1 hE
      obtain ⟨z, hz, hE⟩ := Option.bind_eq_some_iff.1 hE
      obtain ⟨s7, hs7, hE⟩ := Option.bind_eq_some_iff.1 hE
      obtain ⟨s8, hs8, hE⟩ := Option.bind_eq_some_iff.1 hE
      obtain ⟨e1, k1⟩ := cat_facts hs1
      obtain ⟨e2, k2⟩ := cat_facts hs2
      obtain ⟨e3, k3⟩ := cat_facts hs3
      obtain ⟨e4, k4⟩ := cat_facts hs6
      obtain ⟨e5, k5⟩ := cat_facts hs7
      obtain ⟨e6, k6⟩ := cat_facts hs8
      change ¬ (9223372036854775807 < 4 + x.size) at k1
      change ¬ (9223372036854775807 < s1.size + 8) at k2
      change ¬ (9223372036854775807 < s3.size + 10) at k4
      change ¬ (9223372036854775807 < s7.size + 1) at k6
      obtain ⟨rfl, l9⟩ := catS_some hE
      clear hE hs1 hs2 hs3 hs6 hs7 hs8 hT hV
      have hlen : (Lib.strCells acc).length + s8.size ≤ 140737488355328 := by rw [Lib.strCells_length]; exact l9
      have hS1 : wr.drew.cell? ⟨w.heap.size, 0, none⟩ = some (.int .i64 d0) ∧ wr.drew.cell? ⟨w.heap.size, 3, none⟩ = some (.int .i64 d3) ∧ wr.drew.cell? ⟨w.heap.size, 6, none⟩ = some (.int .i64 d6) := ⟨c0, c3, c6⟩
      have hbd := hbw.drew
      have hBd := hBr.drew
      have hId : Lib.IsBuilder 57 5 W1.heap.size W1.heap.size (Lib.strCells acc) wr.drew := hI
      clear c0 c1 c2 c3 c6 hbx hI hB0 hc2 hk hkn hn hBr hbw
      have lt0 : w.heap.size < W1.heap.size := Nat.lt_of_lt_of_le (by rw [show (w.alloc _).heap.size = w.heap.size + 1 from Array.size_push ..]; omega) hB1.size
      have lt1 : ∀ {u : World}, Below W1.heap.size W1 u → w.heap.size < u.heap.size := fun h => Nat.lt_of_lt_of_le lt0 h.size
      have keep : ∀ {u v : World}, Below W1.heap.size W1 u → Below u.heap.size u v → (u.cell? ⟨w.heap.size, 0, none⟩ = some (.int .i64 d0) ∧ u.cell? ⟨w.heap.size, 3, none⟩ = some (.int .i64 d3) ∧ u.cell? ⟨w.heap.size, 6, none⟩ = some (.int .i64 d6)) → (v.cell? ⟨w.heap.size, 0, none⟩ = some (.int .i64 d0) ∧ v.cell? ⟨w.heap.size, 3, none⟩ = some (.int .i64 d3) ∧ v.cell? ⟨w.heap.size, 6, none⟩ = some (.int .i64 d6)) := fun h1 h2 ⟨a, b, c⟩ => ⟨(h2.cell (lt1 h1)).trans a, (h2.cell (lt1 h1)).trans b, (h2.cell (lt1 h1)).trans c⟩
      have stay : ∀ {u v : World}, Below w.heap.size w u → Below u.heap.size u v → Below w.heap.size w v := fun h1 h2 => h1.trans (h2.mono h1.size)
      have stay1 : ∀ {u v : World}, Below W1.heap.size W1 u → Below u.heap.size u v → Below W1.heap.size W1 v := fun h1 h2 => h1.trans (h2.mono h1.size)
      go_wp2
      go_region_held3 (fun w' => w'.cell? ⟨w.heap.size, 0, none⟩ = some (.int .i64 d0) ∧ w'.cell? ⟨w.heap.size, 3, none⟩ = some (.int .i64 d3) ∧ w'.cell? ⟨w.heap.size, 6, none⟩ = some (.int .i64 d6)) (first | exact hS1 | exact hS2 | exact hS3 | exact hS4 | exact hS5)
        (first
          | (go_at_call 25; refine (hD wr.drew d0 x hBd hx).mono ?_; rintro e W2 ⟨rfl, hB2⟩; have hS2 := keep hbd hB2 hS1; have hb2 := stay1 hbd hB2; have hr2 := stay hBd hB2; have hI2 := bld_below hId hB2)
          | (go_at_call 25; refine (hD W2 d3 y hr2 hy).mono ?_; rintro e W3 ⟨rfl, hB3⟩; have hS3 := keep hb2 hB3 hS2; have hb3 := stay1 hb2 hB3; have hr3 := stay hr2 hB3; have hI3 := bld_below hI2 hB3)
          | (go_at_call 25; refine (hD W3 d6 z hr3 hz).mono ?_; rintro e W4 ⟨rfl, hB4⟩; have hS4 := keep hb3 hB4 hS3; have hb4 := stay1 hb3 hB4; have hr4 := stay hr3 hB4; have hI4 := bld_below hI3 hB4)
          | (go_at_call 24; refine (bld_write W1.heap.size W1.heap.size (Lib.strCells acc) s8 W4 hI4 hlen hb4.size).mono ?_; rintro e W5 ⟨rfl, hI5, hB5⟩; have hS5 : W5.cell? ⟨w.heap.size, 0, none⟩ = some (.int .i64 d0) ∧ W5.cell? ⟨w.heap.size, 3, none⟩ = some (.int .i64 d3) ∧ W5.cell? ⟨w.heap.size, 6, none⟩ = some (.int .i64 d6) := ⟨(hB5.cell lt0).trans hS4.1, (hB5.cell lt0).trans hS4.2.1, (hB5.cell lt0).trans hS4.2.2⟩))
      have hI6 : Lib.IsBuilder 57 5 W1.heap.size W1.heap.size (Lib.strCells (acc ++ s8)) W5 := .inr (by rw [strCells_app]; exact hI5)
      have hsz5 : W1.heap.size ≤ W5.heap.size := (hb4.trans hB5).size
      have hfin : Below w.heap.size w W5 := hr4.trans (hB5.mono (Nat.le_of_lt lt0))
      clear hS1 hS2 hS3 hS4 hS5 hI2 hI3 hI4 hI5 hId hbd hb2 hb3 hb4 hr2 hr3 hr4 keep stay stay1 hD hx hy hz l9 hlen k1 k2 k3 k4 k5 k6 e1 e2 e3 e4 e5 e6
      go_wp2_with (go_at_call 26; refine (bld_str W1.heap.size W1.heap.size (acc ++ s8) W5 hI6 hsz5).mono ?_; rintro e W6 ⟨rfl, hB6⟩)
      go_ret2
      exact ⟨rfl, hfin.trans (hB6.mono (Nat.le_of_lt lt0))⟩
set_option maxRecDepth 100000 in
theorem fmt_no (c : Value) (cs : Array Value) (hcs : c = .agg cs) (h7 : cs.size = 7) (w : World)
    (hV : ∀ W, Below w.heap.size w W → Calls Tryd.prog 8 #[c] W fun e W' => e = .returned (.bool false) ∧ Below W.heap.size W W') :
    Calls Tryd.prog 11 #[c] w fun e w' => e = .returned (.tuple #[.string ⟨#[]⟩, .bool false]) ∧ Below w.heap.size w w' := by
  obtain ⟨l⟩ := cs
  match l, h7 with
  | [a0, a1, a2, a3, a4, a5, a6], _ =>
    subst hcs
    have hB0 := (Below.refl w.heap.size w).alloc (Nat.le_refl _) (.cells #[a0, a1, a2, a3, a4, a5, a6] 36)
    go_enter Tryd.func11, Tryd.ntmps11
    go_wp2_with (go_at_call 8; refine (hV _ hB0).mono ?_; rintro e W1 ⟨rfl, hB1⟩)
    go_ret2
    exact ⟨rfl, hB0.trans (hB1.mono hB0.size)⟩
abbrev TyC : Ty := .pair (.int .i64) (.pair (.int .i64) (.pair (.int .i64) (.pair (.int .i64) (.int .i64))))
abbrev TyS : Ty := .sl TyC
def fmtF (gV : Int → Int → List (Int × Int × Int × Int × Int) → Int → ByteArray → ByteArray → Int → Option Bool) (gT : Int → Int → List (Int × Int × Int × Int × Int) → Int → Int → Option (ByteArray × Bool)) (gD : Int → Option ByteArray)
    (d0 d1 : Int) (l2 : List (Int × Int × Int × Int × Int)) (d3 : Int) (s4 s5 : ByteArray) (d6 : Int) : Option (ByteArray × Bool) :=
  (gV d0 d1 l2 d3 s4 s5 d6).bind fun b => cond b (if l2.length ≤ 1000000 then (fmtLoop (gT d0 d1 l2 d3) gD l2.length 0 ⟨#[]⟩).bind fun a => (fmtEnd gD d0 d3 d6 a).bind fun r => some (r, true) else none) (some (⟨#[]⟩, false))
theorem strFmtConsole_ok {gV : Int → Int → List (Int × Int × Int × Int × Int) → Int → ByteArray → ByteArray → Int → Option Bool} {gT : Int → Int → List (Int × Int × Int × Int × Int) → Int → Int → Option (ByteArray × Bool)} {gD : Int → Option ByteArray}
    (hV : Sound Tryd.prog 8 ⟨[.ag [.d (.int .i64) none, .d (.int .i64) none, .d TyS none, .d (.int .i64) none, .d .str none, .d .str none, .d (.int .i64) none]], [.d .bool none], fun x => gV x.1 x.2.1 x.2.2.1 x.2.2.2.1 x.2.2.2.2.1 x.2.2.2.2.2.1 x.2.2.2.2.2.2⟩)
    (hT : Sound Tryd.prog 23 ⟨[.ag [.d (.int .i64) none, .d (.int .i64) none, .d TyS none, .d (.int .i64) none], .d (.int .i64) none], [.d .str none, .d .bool none], fun x => gT x.1 x.2.1 x.2.2.1 x.2.2.2.1 x.2.2.2.2⟩)
    (hD : Sound Tryd.prog 25 ⟨[.d (.int .i64) none], [.d .str none], fun x => gD x⟩) :
    Sound Tryd.prog 11 ⟨[.ag [.d (.int .i64) none, .d (.int .i64) none, .d TyS none, .d (.int .i64) none, .d .str none, .d .str none, .d (.int .i64) none]], [.d .str none, .d .bool none], fun x => fmtF gV gT gD x.1 x.2.1 x.2.2.1 x.2.2.2.1 x.2.2.2.2.1 x.2.2.2.2.2.1 x.2.2.2.2.2.2⟩ := by
  refine ⟨fun args w => enters_fn Tryd.func11 rfl rfl args w, fun (x : Int × Int × List (Int × Int × Int × Int × Int) × Int × ByteArray × ByteArray × Int) (r : ByteArray × Bool) hx F c w vals hw0 hS hM H hv => ?_⟩
  obtain ⟨d0, d1, l2, d3, s4, s5, d6⟩ := x
  have hv0 : VRs c w [.agg [.val (.int .i64) d0, .val (.int .i64) d1, .val TyS l2, .val (.int .i64) d3, .val .str s4, .val .str s5, .val (.int .i64) d6]] vals := hv
  simp only [VRs] at hv0
  obtain ⟨v0, q0, rfl, e0, rfl⟩ := hv0
  simp only [VR] at e0
  obtain ⟨cs, rfl, e0⟩ := e0
  simp only [VRs, VR] at e0
  obtain ⟨u0, q0, ec, a0, u1, q1, rfl, a1, u2, q2, rfl, a2, u3, q3, rfl, a3, u4, q4, rfl, a4, u5, q5, rfl, a5, u6, q6, rfl, a6, rfl⟩ := e0
  have b0 := (Rd.sca rfl).1 a0
  have b1 := (Rd.sca rfl).1 a1
  have b3 := (Rd.sca rfl).1 a3
  have b4 := (Rd.sca rfl).1 a4
  have b5 := (Rd.sca rfl).1 a5
  have b6 := (Rd.sca rfl).1 a6
  simp only [List.cons.injEq, and_true] at b0 b1 b3 b4 b5 b6
  subst b0 b1 b3 b4 b5 b6
  obtain ⟨l⟩ := cs
  have ec : l = _ := ec
  subst ec
  have a2' := a2
  obtain ⟨A, cap, inner, hsl, ⟨hcap, hA⟩, hfl, hin⟩ := a2
  simp only [List.cons.injEq, and_true] at hsl
  subst hsl
  have hst : ∀ W, Below w.heap.size w W → ∀ k, c.S k → k < W.heap.size := fun W hB k hk => Nat.lt_of_lt_of_le (H.stays k hk) hB.size
  have hg : ∀ W, Below w.heap.size w W → GN ≤ W.heap.size ∧ GP W.heap := fun W hB => by
    have hg : GN ≤ w.heap.size ∧ GP w.heap := by rw [← hw0]; exact ⟨F.gle, F.gok⟩
    exact ⟨Nat.le_trans hg.1 hB.size, GP_stable (fun k hk => hB.block k (Nat.lt_of_lt_of_le hk hg.1)) hg.2⟩
  have hmv : ∀ W, Below w.heap.size w W → Rd c.S W TyS l2 [.slice A l2.length cap] := fun W hB => a2'.move (fun _ h => h) (fun k hk => hB.block k (H.stays k hk))
  have hx0 : fmtF gV gT gD d0 d1 l2 d3 s4 s5 d6 = some r := hx
  unfold fmtF at hx0
  obtain ⟨b, hb, hx0⟩ := Option.bind_eq_some_iff.1 hx0
  have cV : ∀ W, Below w.heap.size w W → Calls Tryd.prog 8 #[.agg #[.int .i64 d0, .int .i64 d1, .slice A l2.length cap, .int .i64 d3, .string s4, .string s5, .int .i64 d6]] W fun e W' => e = .returned (.bool b) ∧ Below W.heap.size W W' := fun W hB =>
    Sound.at (ts := [.bool]) hV rfl rfl (x := (d0, d1, l2, d3, s4, s5, d6)) (r := b) hb rfl c.S W (hst W hB) (hg W hB) (vals := [.agg #[.int .i64 d0, .int .i64 d1, .slice A l2.length cap, .int .i64 d3, .string s4, .string s5, .int .i64 d6]]) (fun ρ => by
      refine VRs.one (v := .agg [.val (.int .i64) d0, .val (.int .i64) d1, .val TyS l2, .val (.int .i64) d3, .val .str s4, .val .str s5, .val (.int .i64) d6]) ?_
      simp only [VR]
      exact ⟨_, rfl, VRs.cons' (VR.val' a0) (VRs.cons' (VR.val' a1) (VRs.cons' (VR.val' (hmv W hB)) (VRs.cons' (VR.val' a3) (VRs.cons' (VR.val' a4) (VRs.cons' (VR.val' a5) (VRs.one (VR.val' a6)))))))⟩)
  have cT : ∀ W i t, Below w.heap.size w W → gT d0 d1 l2 d3 i = some t → Calls Tryd.prog 23 #[.agg #[.int .i64 d0, .int .i64 d1, .slice A l2.length cap, .int .i64 d3], .int .i64 i] W fun e W' => e = .returned (.tuple #[.string t.1, .bool t.2]) ∧ Below W.heap.size W W' := fun W i t hB ht =>
    Sound.at (ts := [.str, .bool]) hT rfl rfl (x := (d0, d1, l2, d3, i)) (r := t) ht rfl c.S W (hst W hB) (hg W hB) (vals := [.agg #[.int .i64 d0, .int .i64 d1, .slice A l2.length cap, .int .i64 d3], .int .i64 i]) (fun ρ => by
      refine VRs.cons' (v := .agg [.val (.int .i64) d0, .val (.int .i64) d1, .val TyS l2, .val (.int .i64) d3]) ?_ (VRs.one (VR.val' ((Rd.sca rfl).2 rfl)))
      simp only [VR]
      exact ⟨_, rfl, VRs.cons' (VR.val' a0) (VRs.cons' (VR.val' a1) (VRs.cons' (VR.val' (hmv W hB)) (VRs.one (VR.val' a3))))⟩)
  have cD : ∀ W i t, Below w.heap.size w W → gD i = some t → Calls Tryd.prog 25 #[.int .i64 i] W fun e W' => e = .returned (.string t) ∧ Below W.heap.size W W' := fun W i t hB ht =>
    Sound.at (ts := [.str]) hD rfl rfl (x := i) (r := t) ht rfl c.S W (hst W hB) (hg W hB) (vals := [.int .i64 i]) (fun ρ => VRs.one (VR.val' ((Rd.sca rfl).2 rfl)))
  cases b with
  | true =>
    simp only [cond_true] at hx0
    split at hx0
    · rename_i hl
      obtain ⟨a, ha, hx0⟩ := Option.bind_eq_some_iff.1 hx0
      obtain ⟨s, hs, hx0⟩ := Option.bind_eq_some_iff.1 hx0
      cases hx0
      exact (fmt_yes d0 d1 A l2.length cap d3 s4 s5 d6 w _ gD a s hl cV cT cD ha hs).mono fun e w' ⟨he, hB⟩ => ⟨_, he, post_sca (us := [⟨.str, s⟩, ⟨.bool, true⟩]) rfl hw0 H hB⟩
    · cases hx0
  | false =>
    simp only [cond_false] at hx0
    cases hx0
    exact (fmt_no _ _ rfl rfl w cV).mono fun e w' ⟨he, hB⟩ => ⟨_, he, post_sca (us := [⟨.str, (⟨#[]⟩ : ByteArray)⟩, ⟨.bool, false⟩]) rfl hw0 H hB⟩
end Go.Proofs.YtiacidpjplmgaaaDoorD
