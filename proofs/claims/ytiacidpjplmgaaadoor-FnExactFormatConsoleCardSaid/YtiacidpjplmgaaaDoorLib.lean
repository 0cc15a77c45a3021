/- Words of this session's own: functions of the library by their contracts. -/
import Derived.Test.YtiacidpjplmgaaaDoorDn28
import Derived.Test.YtiacidpjplmgaaaDoorShelf
import Derived.Lib.LaidTab
import Derived.Handed
import Derived.LaidMore
import Derived.Lay
import Derived.LaidLaws
import Derived.LaidHandle
import Derived.Shelf.Vars
import Derived.Stop.LaidErr
set_option linter.unusedVariables false
namespace Go.Proofs.YtiacidpjplmgaaaDoorD
open Go.RowKit Go.Lib
theorem gLen {W : World} (g : GP W.heap) : ∃ m, W.cell? ⟨1, 0, none⟩ = some (.int .i64 m) := by
  obtain ⟨⟨cs, t, f, m, h, hm⟩, _⟩ := g
  exact ⟨m, by unfold World.cell?; rw [h]; exact hm⟩
theorem gTab {W : World} (g : GP W.heap) : TabIs Tryd.prog W "internal/strconv.uint64pow10" .u64 pow10Tab := by
  obtain ⟨_, t, f, h⟩ := g
  unfold TabIs World.var?
  rw [show Tryd.prog.globalNamed "internal/strconv.uint64pow10" = some 0 by kernel_rfl]
  simp only [Option.bind_some, h]
  unfold pow10Tab
  rw [List.map_map]
  rfl
theorem one_of {b : ByteArray} (h : b.size = 1) : b = ⟨#[b.data.getD 0 0]⟩ := by
  obtain ⟨⟨l⟩⟩ := b
  match l, h with
  | [c], _ => rfl
def containsF (a b : ByteArray) : Option Bool := if b.size = 1 then some (decide (0 ≤ Lib.indexByte a.data.toList (b.data.getD 0 0))) else none
theorem strContains_ok : Sound Tryd.prog 79 ⟨[.d .str none, .d .str none], [.d .bool none], fun x => containsF x.1 x.2⟩ := sound2 (t1 := .str) (t2 := .str) (u := .bool) Tryd.func79 rfl rfl rfl rfl rfl _ (fun (x : ByteArray × ByteArray) (r : Bool) (hx : containsF x.1 x.2 = some r) W _ _ => by
  unfold containsF at hx
  split at hx
  · rename_i h
    cases hx
    have := Tryd.strings_Contains_one x.1 (x.2.data.getD 0 0) W
    rw [← one_of h] at this
    exact this.mono fun e w' ⟨he, hw⟩ => ⟨he, by rw [hw]; exact Below.refl _ _⟩
  · cases hx)
def cutF (a b : ByteArray) : Option (ByteArray × ByteArray × Bool) := if a.size < 4294967281 then some (⟨(Lib.cut a.data.toList b.data.toList).1.toArray⟩, ⟨(Lib.cut a.data.toList b.data.toList).2.1.toArray⟩, (Lib.cut a.data.toList b.data.toList).2.2) else none
theorem strCut_ok : Sound Tryd.prog 56 ⟨[.d .str none, .d .str none], [.d .str none, .d .str none, .d .bool none], fun x => cutF x.1 x.2⟩ := sound2x3 (t1 := .str) (t2 := .str) (u1 := .str) (u2 := .str) (u3 := .bool) Tryd.func56 rfl rfl rfl rfl rfl rfl rfl _ (fun (x : ByteArray × ByteArray) (r : ByteArray × ByteArray × Bool) (hx : cutF x.1 x.2 = some r) W _ g => by
  unfold cutF at hx
  split at hx
  · rename_i h
    cases hx
    obtain ⟨m, hm⟩ := gLen g
    exact (Tryd.strings_Cut x.1 x.2 m W h hm).mono fun e w' ⟨he, n, hw⟩ => ⟨he, by rw [hw]; exact ⟨rfl, rfl, rfl, Nat.le_refl _, fun _ _ => rfl⟩⟩
  · cases hx)
def itoaF (n : Int) : Option ByteArray := if -9223372036854775808 ≤ n ∧ n ≤ 9223372036854775807 then some ⟨(Lib.itoa n).toArray⟩ else none
theorem strItoa_ok : Sound Tryd.prog 38 ⟨[.d (.int .i64) none], [.d .str none], fun x => itoaF x⟩ := sound1 (t1 := .int .i64) (u := .str) Tryd.func38 rfl rfl rfl rfl _ (fun (x : Int) (r : ByteArray) (hx : itoaF x = some r) W _ g => by
  unfold itoaF at hx
  split at hx
  · rename_i h
    cases hx
    exact (Tryd.strconv_Itoa x h.1 h.2 W (gTab g)).mono fun e w' ⟨he, k, os, hw⟩ => ⟨he, by rw [hw]; exact ⟨rfl, rfl, rfl, by show W.heap.size ≤ (W.heap ++ os).size; rw [Array.size_append]; omega, fun k hk => by show (W.heap ++ os)[k]? = _; rw [Array.getElem?_append_left hk]⟩⟩
  · cases hx)
theorem shaped_cell {W : World} (hsh : W.ShapedOpen Tryd.prog) : ∃ m, W.cell? ⟨1, 0, none⟩ = some (.int .i64 m) :=
  cell_of_shapedOpen_int (P := Tryd.prog) (g := 1) (t := 3) (zero := #[.int .i64 0]) hsh (of_decide_eq_true (by kernel_rfl)) (by kernel_rfl) rfl (by kernel_rfl) (by kernel_rfl) Tryd.underlying3
theorem tab_of {W : World} {r : List (String × DataW Unit)} (h : laidMet Tryd.prog (("internal/strconv.uint64pow10", tabData .u64 pow10Tab) :: r) W) : TabIs Tryd.prog W "internal/strconv.uint64pow10" .u64 pow10Tab :=
  tabIs_of_head (g := 0) (t := 114) (e := 105) (n := 20) (by kernel_rfl) (by kernel_rfl) Tryd.underlying114 Tryd.underlying105 (by kernel_rfl) (by kernel_rfl) h
theorem g_of {W : World} (hsh : W.ShapedOpen Tryd.prog) (hT : TabIs Tryd.prog W "internal/strconv.uint64pow10" .u64 pow10Tab) : GN ≤ W.heap.size ∧ GP W.heap := by
  obtain ⟨m, hm⟩ := shaped_cell hsh
  unfold TabIs World.var? at hT
  rw [show Tryd.prog.globalNamed "internal/strconv.uint64pow10" = some 0 by kernel_rfl] at hT
  simp only [Option.bind_some] at hT
  unfold World.cell? at hm
  split at hm
  · rename_i c el fz h0
    split at hT
    · rename_i cs t f h1
      refine ⟨?_, ⟨c, el, fz, m, h0, by simpa using hm⟩, t, f, ?_⟩
      · have q1 : 0 < W.heap.size := (Array.getElem?_eq_some_iff.1 h1).1
        have q0 : 1 < W.heap.size := (Array.getElem?_eq_some_iff.1 h0).1
        show 2 ≤ _
        omega
      · rw [h1]
        simp only [Option.some.injEq] at hT
        rw [hT]
        unfold pow10Tab
        rw [List.map_map]
        rfl
    · cases hT
  · cases hm
section
variable {H : Type} {enc : TypeId × Value → H}
theorem returns_laid {a : Assume} {C : Checked} {os : Os} {f : FuncId} {fn : Func} {s : ChangeSpec} {conds : List PathCond} {apart fresh handsOn again : Bool} {X : World → Array Value → Prop}
    (hX : ∀ (w w' : World) (args : Array Value), w.heap = w'.heap → X w args → X w' args)
    (own : ownKnob C.prog.godebug = none) (started : os.Started) (noInit : C.prog.inits.idxOf? f = none) (hfn : C.prog.funcs[f]? = some fn)
    (witness : ∃ (w : World) (tape : Tape) (i : Input), w.os = os ∧ (w.forCall tape i).Shaped C.prog ∧ i.vars = [] ∧ Input.okWide C.prog (w.forCall tape i) .any w.heap.size f i ∧
      ((s.pre enc C.prog fn conds apart (w.forCall tape i).memory i.args ∧ X (w.forCall tape i).memory i.args) ∧ sizedMet enc C.prog fn (OpenSpec.ofChange s) apart (w.forCall tape i).memory i.args) ∧ a.holds C.prog (lone (Frame.enter C.prog f i.args .normal) [] (w.forCall tape i)))
    (contract : ∀ (W : World) (base : Nat) (args : Array Value) (ds gs : List (DataW H)) (before : List MemPlace),
      (∀ (j : Nat) t v, fn.params[j]? = some t → args[j]? = some v → Value.okWide C.prog W .any base t v) →
      DataW.Whole enc C.prog fn.params.toList s.vars apart W args.toList ds gs before →
      conds.all (PathCond.test C.prog ⟨fn.params.toList, ds, s.plain.varTypes C.prog, gs⟩) = true →
      (DataW.weightsEach C.prog (fn.params.toList ++ s.plain.varTypes C.prog) (ds ++ gs)).all (· ≤ reachBytes) = true → X W args → W.ShapedOpen C.prog →
      a.holds C.prog (lone (Frame.enter C.prog f args .normal) [] W) →
      Calls C.prog f args W fun e W' => ∃ v, e = .returned v ∧ s.post enc C.prog fn apart fresh handsOn again W args v W') :
    ReturnsInHanded a C os f .any (fun w args => (s.pre enc C.prog fn conds apart w args ∧ X w args) ∧ sizedMet enc C.prog fn (OpenSpec.ofChange s) apart w args) (s.post enc C.prog fn apart fresh handsOn again) := by
  refine returnsInHanded_of_calls own started noInit witness ?_
  intro w tape i _ hsh _ hok hpre hholds
  obtain ⟨_, _, _, fn', hfn', _, _, _, _, hval⟩ := hok
  have e : fn' = fn := Option.some.inj (hfn'.symm.trans hfn)
  subst e
  obtain ⟨⟨⟨ds, gs, before, hw, hc⟩, hx⟩, hz⟩ := hpre
  have hw' := DataW.Whole.of_heap (w' := w.forCall tape i) (by rfl) hw
  refine (contract (w.forCall tape i) w.heap.size i.args ds gs before hval hw' hc (hz.weights hw) (hX _ _ _ (by rfl) hx) hsh hholds).mono fun e W' ⟨v, he, hp⟩ => ?_
  subst he
  exact ChangeSpec.post_blind hp
end
end Go.Proofs.YtiacidpjplmgaaaDoorD
