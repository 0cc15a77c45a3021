/- Words of this session's own: functions of the library by their contracts. -/
import Derived.Test.YtnggfjbmjlppgaaDoorDn28
import Derived.Test.YtnggfjbmjlppgaaDoorShelf
import Derived.Lib.LaidTab
import Derived.Handed
import Derived.LaidMore
import Derived.Lay
import Derived.LaidLaws
import Derived.LaidHandle
import Derived.Shelf.Vars
import Derived.Stop.LaidErr
set_option linter.unusedVariables false
namespace Go.Proofs.YtnggfjbmjlppgaaDoorD
open Go.RowKit Go.Lib
theorem gLen {W : World} (g : GP W.heap) : ∃ m, W.cell? ⟨0, 0, none⟩ = some (.int .i64 m) := by
  obtain ⟨cs, t, f, m, h, hm⟩ := g
  exact ⟨m, by unfold World.cell?; rw [h]; exact hm⟩
theorem one_of {b : ByteArray} (h : b.size = 1) : b = ⟨#[b.data.getD 0 0]⟩ := by
  obtain ⟨⟨l⟩⟩ := b
  match l, h with
  | [c], _ => rfl
theorem strJoin_ok : Sound Tryd.prog 26 ⟨[.d (.sl .str) none, .d .str none], [.d .str none], fun x => joinF x.1 x.2⟩ := soundJoin Tryd.func26 rfl rfl Tryd.strings_Join_none Tryd.strings_Join
theorem strSplit_ok : Sound Tryd.prog 27 ⟨[.d .str none, .d .str none], [.d (.sl .str) none], fun x => splitF x.1 x.2⟩ := soundSplit Tryd.func27 rfl rfl (fun s sep w hs h1 g => by
  obtain ⟨m, hm⟩ := gLen g
  exact Tryd.strings_Split s sep m w hs hm h1)
theorem shaped_cell {W : World} (hsh : W.ShapedOpen Tryd.prog) : ∃ m, W.cell? ⟨0, 0, none⟩ = some (.int .i64 m) :=
  cell_of_shapedOpen_int (P := Tryd.prog) (g := 0) (t := 3) (zero := #[.int .i64 0]) hsh (of_decide_eq_true (by kernel_rfl)) (by kernel_rfl) rfl (by kernel_rfl) (by kernel_rfl) Tryd.underlying3
theorem g_of {W : World} (hsh : W.ShapedOpen Tryd.prog) : GN ≤ W.heap.size ∧ GP W.heap := by
  obtain ⟨m, hm⟩ := shaped_cell hsh
  unfold World.cell? at hm
  split at hm
  · rename_i c el fz h0
    refine ⟨?_, c, el, fz, m, h0, by simpa using hm⟩
    have q0 : 0 < W.heap.size := (Array.getElem?_eq_some_iff.1 h0).1
    show 1 ≤ _
    omega
  · cases hm
section
variable {H : Type} {enc : TypeId × Value → H}
theorem returns_laid {a : Assume} {C : Checked} {os : Os} {f : FuncId} {fn : Func} {s : ChangeSpec} {conds : List PathCond} {apart fresh handsOn again : Bool} {X : World → Array Value → Prop}
    (hX : ∀ (w w' : World) (args : Array Value), w.heap = w'.heap → X w args → X w' args)
    (own : ownKnob C.prog.godebug = none) (started : os.Started) (noInit : C.prog.inits.idxOf? f = none) (hfn : C.prog.funcs[f]? = some fn)
    (witness : ∃ (w : World) (tape : Tape) (i : Input), w.os = os ∧ (w.forCall tape i).Shaped C.prog ∧ i.vars = [] ∧ Input.okWide C.prog (w.forCall tape i) .any w.heap.size f i ∧
      ((s.pre enc C.prog fn conds apart (w.forCall tape i).memory i.args ∧ X (w.forCall tape i).memory i.args) ∧ sizedMet enc C.prog fn (OpenSpec.ofChange s) apart (w.forCall tape i).memory i.args) ∧ a.holds C.prog (lone (Frame.enter C.prog f i.args .normal) [] (w.forCall tape i)))
    (contract : ∀ (W : World) (base : Nat) (args : Array Value) (ds gs : List (DataW H)) (before : List MemPlace),
      (∀ (j : Nat) t v, fn.params[j]? = some t → args[j]? = some v → Value.okWide C.prog W .any base t v) →
      DataW.Whole enc C.prog fn.params.toList s.vars apart W args.toList ds gs before →
      conds.all (PathCond.test C.prog ⟨fn.params.toList, ds, s.plain.varTypes C.prog, gs⟩) = true →
      (DataW.weightsEach C.prog (fn.params.toList ++ s.plain.varTypes C.prog) (ds ++ gs)).all (· ≤ reachBytes) = true → X W args → W.ShapedOpen C.prog →
      a.holds C.prog (lone (Frame.enter C.prog f args .normal) [] W) →
      Calls C.prog f args W fun e W' => ∃ v, e = .returned v ∧ s.post enc C.prog fn apart fresh handsOn again W args v W') :
    ReturnsInHanded a C os f .any (fun w args => (s.pre enc C.prog fn conds apart w args ∧ X w args) ∧ sizedMet enc C.prog fn (OpenSpec.ofChange s) apart w args) (s.post enc C.prog fn apart fresh handsOn again) := by
  refine returnsInHanded_of_calls own started noInit witness ?_
  intro w tape i _ hsh _ hok hpre hholds
  obtain ⟨_, _, _, fn', hfn', _, _, _, _, hval⟩ := hok
  have e : fn' = fn := Option.some.inj (hfn'.symm.trans hfn)
  subst e
  obtain ⟨⟨⟨ds, gs, before, hw, hc⟩, hx⟩, hz⟩ := hpre
  have hw' := DataW.Whole.of_heap (w' := w.forCall tape i) (by rfl) hw
  refine (contract (w.forCall tape i) w.heap.size i.args ds gs before hval hw' hc (hz.weights hw) (hX _ _ _ (by rfl) hx) hsh hholds).mono fun e W' ⟨v, he, hp⟩ => ?_
  subst he
  exact ChangeSpec.post_blind hp
end
end Go.Proofs.YtnggfjbmjlppgaaDoorD
