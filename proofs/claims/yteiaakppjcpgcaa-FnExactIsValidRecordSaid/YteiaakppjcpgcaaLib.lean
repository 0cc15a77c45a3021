/- Words of this session's own: functions of the library by their contracts. -/
import Derived.Test.YteiaakppjcpgcaaDn27
import Derived.Test.YteiaakppjcpgcaaShelf
import Derived.Lib.LaidTab
import Derived.Handed
import Derived.LaidMore
import Derived.Lay
import Derived.LaidLaws
import Derived.LaidHandle
import Derived.Shelf.Vars
import Derived.Stop.LaidErr
set_option linter.unusedVariables false
namespace Go.Proofs.YteiaakppjcpgcaaD
open Go.RowKit Go.Lib
theorem one_of {b : ByteArray} (h : b.size = 1) : b = ⟨#[b.data.getD 0 0]⟩ := by
  obtain ⟨⟨l⟩⟩ := b
  match l, h with
  | [c], _ => rfl
def containsF (a b : ByteArray) : Option Bool := if b.size = 1 then some (decide (0 ≤ Lib.indexByte a.data.toList (b.data.getD 0 0))) else none
theorem strContains_ok : Sound Try.prog 69 ⟨[.d .str none, .d .str none], [.d .bool none], fun x => containsF x.1 x.2⟩ := sound2 (t1 := .str) (t2 := .str) (u := .bool) Try.func69 rfl rfl rfl rfl rfl _ (fun (x : ByteArray × ByteArray) (r : Bool) (hx : containsF x.1 x.2 = some r) W _ _ => by
  unfold containsF at hx
  split at hx
  · rename_i h
    cases hx
    have := Try.strings_Contains_one x.1 (x.2.data.getD 0 0) W
    rw [← one_of h] at this
    exact this.mono fun e w' ⟨he, hw⟩ => ⟨he, by rw [hw]; exact Below.refl _ _⟩
  · cases hx)
end Go.Proofs.YteiaakppjcpgcaaD
