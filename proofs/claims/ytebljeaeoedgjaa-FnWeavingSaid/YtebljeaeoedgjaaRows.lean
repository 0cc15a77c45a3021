/-
  No cell of these rows narrows 'for every input' (looked for: loops, veiled, ifaces, maps, wideKeys, modest, calm, conditions, laid).
  DERIVED. THE GIVEN ROWS OF THIS SEAT. 7 by the template 'for every input the law returns true; each argument reads behind the call as it read before'; 0 by the template 'total and deterministic' (their statements: YtebljeaeoedgjaaTotals.lean).
  GIVEN WITH THE SEED: the statements are not yours to turn. If you find one false, say at which input.
  Laid BY PROGRAM, IN A SANDBOX (cutbox-rows.mjs): the forced cells as the released guide's own fill.sh prints them over the translation 33defc6e01e0e9d0… (all of the seat's roots in one cut). By AI agents, Wed Nov 11 2026. No macro, syntax, notation, axiom, sorry.
-/
import Derived.Test.YtebljeaeoedgjaaChecked
import GoSem.Claim
import GoSem.ClaimJoined
import GoSem.ClaimMapViews
import Derived.JoinedTies
import Derived.KernelRfl
namespace Go.Proofs.Ytebljeaeoedgjaa
/- THE CELL 'sum', in the pinned program and in every row, IS THE sha256 OF THE DUMP (.gsa) THAT YtebljeaeoedgjaaProg.lean LOADS. Nothing in Lean hashes anything: it is a label: what it is worth is what the hold of that sum in a sandbox is worth. -/
noncomputable def Try.pinned : Pinned := { name := "ytebljeaeoedgjaa", sum := "33defc6e01e0e9d03ac0e1850f2f2e1cb074f219f04e6a3d69b29fdd0cbf6997", checked := Try.checked }
namespace Rows
def none {H : Type} : Left H := { results := [], args := [] }

/-- 'laws.FnMistakes': WHATEVER THE INPUT: true; the input reads as it did. -/
def fnMistakesSpec : ChangeSpec := { name := "fnMistakes", fn := fun _ => fun
  | [d] => { results := [.lit (.bool true)], args := [d] }
  | _ => none }
def fnMistakesRow : OpenClaim := { program := "ytebljeaeoedgjaa", sum := "33defc6e01e0e9d03ac0e1850f2f2e1cb074f219f04e6a3d69b29fdd0cbf6997", func := "loop.example/g01023/laws.FnMistakes", spec := "fnMistakes", unfollowed := true, recurses := true, apart := false }
def FnMistakesSaid : Prop := fnMistakesRow.holds Try.pinned (OpenSpec.ofChange fnMistakesSpec)

/-- ITS FALSE NEIGHBOUR: 'it returns false'. Refute it at one input. -/
def fnMistakesWrong : ChangeSpec := { name := "fnMistakes", fn := fun _ => fun
  | [d] => { results := [.lit (.bool false)], args := [d] }
  | _ => none }
def FnMistakesWrongFalsely : Prop := fnMistakesRow.holds Try.pinned (OpenSpec.ofChange fnMistakesWrong)

/-- 'laws.FnExactNewWeaving': WHATEVER THE INPUT: true; the input reads as it did. -/
def fnExactNewWeavingSpec : ChangeSpec := { name := "fnExactNewWeaving", fn := fun _ => fun
  | [d] => { results := [.lit (.bool true)], args := [d] }
  | _ => none }
def fnExactNewWeavingRow : OpenClaim := { program := "ytebljeaeoedgjaa", sum := "33defc6e01e0e9d03ac0e1850f2f2e1cb074f219f04e6a3d69b29fdd0cbf6997", func := "loop.example/g01023/laws.FnExactNewWeaving", spec := "fnExactNewWeaving", unfollowed := true, recurses := true, apart := false }
def FnExactNewWeavingSaid : Prop := fnExactNewWeavingRow.holds Try.pinned (OpenSpec.ofChange fnExactNewWeavingSpec)

/-- ITS FALSE NEIGHBOUR: 'it returns false'. Refute it at one input. -/
def fnExactNewWeavingWrong : ChangeSpec := { name := "fnExactNewWeaving", fn := fun _ => fun
  | [d] => { results := [.lit (.bool false)], args := [d] }
  | _ => none }
def FnExactNewWeavingWrongFalsely : Prop := fnExactNewWeavingRow.holds Try.pinned (OpenSpec.ofChange fnExactNewWeavingWrong)

/-- 'laws.FnWeaving': WHATEVER THE INPUT: true; the input reads as it did. -/
def fnWeavingSpec : ChangeSpec := { name := "fnWeaving", fn := fun _ => fun
  | [d] => { results := [.lit (.bool true)], args := [d] }
  | _ => none }
def fnWeavingRow : OpenClaim := { program := "ytebljeaeoedgjaa", sum := "33defc6e01e0e9d03ac0e1850f2f2e1cb074f219f04e6a3d69b29fdd0cbf6997", func := "loop.example/g01023/laws.FnWeaving", spec := "fnWeaving", unfollowed := true, recurses := true, apart := false }
def FnWeavingSaid : Prop := fnWeavingRow.holds Try.pinned (OpenSpec.ofChange fnWeavingSpec)

/-- ITS FALSE NEIGHBOUR: 'it returns false'. Refute it at one input. -/
def fnWeavingWrong : ChangeSpec := { name := "fnWeaving", fn := fun _ => fun
  | [d] => { results := [.lit (.bool false)], args := [d] }
  | _ => none }
def FnWeavingWrongFalsely : Prop := fnWeavingRow.holds Try.pinned (OpenSpec.ofChange fnWeavingWrong)

/-- 'laws.FnEveryCarpet': WHATEVER THE INPUT: true; the input reads as it did. -/
def fnEveryCarpetSpec : ChangeSpec := { name := "fnEveryCarpet", fn := fun _ => fun
  | [d1, d2] => { results := [.lit (.bool true)], args := [d1, d2] }
  | _ => none }
def fnEveryCarpetRow : OpenClaim := { program := "ytebljeaeoedgjaa", sum := "33defc6e01e0e9d03ac0e1850f2f2e1cb074f219f04e6a3d69b29fdd0cbf6997", func := "loop.example/g01023/laws.FnEveryCarpet", spec := "fnEveryCarpet", unfollowed := true, recurses := true, apart := false }
def FnEveryCarpetSaid : Prop := fnEveryCarpetRow.holds Try.pinned (OpenSpec.ofChange fnEveryCarpetSpec)

/-- ITS FALSE NEIGHBOUR: 'it returns false'. Refute it at one input. -/
def fnEveryCarpetWrong : ChangeSpec := { name := "fnEveryCarpet", fn := fun _ => fun
  | [d1, d2] => { results := [.lit (.bool false)], args := [d1, d2] }
  | _ => none }
def FnEveryCarpetWrongFalsely : Prop := fnEveryCarpetRow.holds Try.pinned (OpenSpec.ofChange fnEveryCarpetWrong)

/-- 'laws.FnExactUnpicksNeeded': WHATEVER THE INPUT: true; the input reads as it did. -/
def fnExactUnpicksNeededSpec : ChangeSpec := { name := "fnExactUnpicksNeeded", fn := fun _ => fun
  | [d] => { results := [.lit (.bool true)], args := [d] }
  | _ => none }
def fnExactUnpicksNeededRow : OpenClaim := { program := "ytebljeaeoedgjaa", sum := "33defc6e01e0e9d03ac0e1850f2f2e1cb074f219f04e6a3d69b29fdd0cbf6997", func := "loop.example/g01023/laws.FnExactUnpicksNeeded", spec := "fnExactUnpicksNeeded", unfollowed := true, recurses := true, apart := false }
def FnExactUnpicksNeededSaid : Prop := fnExactUnpicksNeededRow.holds Try.pinned (OpenSpec.ofChange fnExactUnpicksNeededSpec)

/-- ITS FALSE NEIGHBOUR: 'it returns false'. Refute it at one input. -/
def fnExactUnpicksNeededWrong : ChangeSpec := { name := "fnExactUnpicksNeeded", fn := fun _ => fun
  | [d] => { results := [.lit (.bool false)], args := [d] }
  | _ => none }
def FnExactUnpicksNeededWrongFalsely : Prop := fnExactUnpicksNeededRow.holds Try.pinned (OpenSpec.ofChange fnExactUnpicksNeededWrong)

/-- 'laws.FnExactStepWeaving': WHATEVER THE INPUT: true; the input reads as it did. -/
def fnExactStepWeavingSpec : ChangeSpec := { name := "fnExactStepWeaving", fn := fun _ => fun
  | [d1, d2] => { results := [.lit (.bool true)], args := [d1, d2] }
  | _ => none }
def fnExactStepWeavingRow : OpenClaim := { program := "ytebljeaeoedgjaa", sum := "33defc6e01e0e9d03ac0e1850f2f2e1cb074f219f04e6a3d69b29fdd0cbf6997", func := "loop.example/g01023/laws.FnExactStepWeaving", spec := "fnExactStepWeaving", unfollowed := true, recurses := true, apart := false }
def FnExactStepWeavingSaid : Prop := fnExactStepWeavingRow.holds Try.pinned (OpenSpec.ofChange fnExactStepWeavingSpec)

/-- ITS FALSE NEIGHBOUR: 'it returns false'. Refute it at one input. -/
def fnExactStepWeavingWrong : ChangeSpec := { name := "fnExactStepWeaving", fn := fun _ => fun
  | [d1, d2] => { results := [.lit (.bool false)], args := [d1, d2] }
  | _ => none }
def FnExactStepWeavingWrongFalsely : Prop := fnExactStepWeavingRow.holds Try.pinned (OpenSpec.ofChange fnExactStepWeavingWrong)

/-- 'laws.FnExactRunWeaving': WHATEVER THE INPUT: true; the input reads as it did. -/
def fnExactRunWeavingSpec : ChangeSpec := { name := "fnExactRunWeaving", fn := fun _ => fun
  | [d1, d2] => { results := [.lit (.bool true)], args := [d1, d2] }
  | _ => none }
def fnExactRunWeavingRow : OpenClaim := { program := "ytebljeaeoedgjaa", sum := "33defc6e01e0e9d03ac0e1850f2f2e1cb074f219f04e6a3d69b29fdd0cbf6997", func := "loop.example/g01023/laws.FnExactRunWeaving", spec := "fnExactRunWeaving", unfollowed := true, recurses := true, apart := false }
def FnExactRunWeavingSaid : Prop := fnExactRunWeavingRow.holds Try.pinned (OpenSpec.ofChange fnExactRunWeavingSpec)

/-- ITS FALSE NEIGHBOUR: 'it returns false'. Refute it at one input. -/
def fnExactRunWeavingWrong : ChangeSpec := { name := "fnExactRunWeaving", fn := fun _ => fun
  | [d1, d2] => { results := [.lit (.bool false)], args := [d1, d2] }
  | _ => none }
def FnExactRunWeavingWrongFalsely : Prop := fnExactRunWeavingRow.holds Try.pinned (OpenSpec.ofChange fnExactRunWeavingWrong)

/- THE SECOND FORM. 'bulk': how many values and letters a reading holds, each counted each time it is reached (what is shared counts as often as it is met; a slice's spare places count too). A statement '..UptoSaid' is the law's where the arguments, and the package variables that the reading takes, are together of bulk at most 1048576: NARROWER than '..Said'. Prove '..Said' where nothing that the law and all that it calls make is longer than what came in: it says more and counts as full. Else prove '..UptoSaid'. A law counts once. -/
mutual
def uptoBulk {H : Type} : DataW H → Nat
  | .lit (.string bytes) => bytes.length + 1
  | .lit _ => 1
  | .nil => 1
  | .ptr d => uptoBulk d + 1
  | .slice elems spare => uptoBulkAll elems + uptoBulkAll spare + 1
  | .agg parts => uptoBulkAll parts + 1
  | .iface _ d => uptoBulk d + 1
  | .map entries => uptoBulkEntries entries + 1
  | .held _ => 1
def uptoBulkAll {H : Type} : List (DataW H) → Nat
  | [] => 0
  | d :: r => uptoBulk d + uptoBulkAll r
def uptoBulkEntries {H : Type} : List (Lit × DataW H) → Nat
  | [] => 0
  | x :: r => uptoBulkEntry x + uptoBulkEntries r
def uptoBulkEntry {H : Type} : Lit × DataW H → Nat
  | (.string bytes, d) => bytes.length + uptoBulk d + 1
  | (_, d) => uptoBulk d + 1
 end
def uptoSmall : (H : Type) → List (DataW H) → Bool := fun _ ds => decide (uptoBulkAll ds ≤ 1048576)
def OpenSpec.upto (s : _root_.Go.ChangeSpec) : _root_.Go.OpenSpec := { _root_.Go.OpenSpec.ofChange s with cond := some uptoSmall }

/-- 'laws.FnMistakes', WHERE WHAT IT READS IS OF BULK AT MOST 1048576: true; the input reads as it did. -/
def fnMistakesUptoRow : OpenClaim := { program := "ytebljeaeoedgjaa", sum := "33defc6e01e0e9d03ac0e1850f2f2e1cb074f219f04e6a3d69b29fdd0cbf6997", func := "loop.example/g01023/laws.FnMistakes", spec := "fnMistakes", unfollowed := true, recurses := true, apart := false, narrowed := true }
def FnMistakesUptoSaid : Prop := fnMistakesUptoRow.holds Try.pinned (OpenSpec.upto fnMistakesSpec)

/-- 'laws.FnExactNewWeaving', WHERE WHAT IT READS IS OF BULK AT MOST 1048576: true; the input reads as it did. -/
def fnExactNewWeavingUptoRow : OpenClaim := { program := "ytebljeaeoedgjaa", sum := "33defc6e01e0e9d03ac0e1850f2f2e1cb074f219f04e6a3d69b29fdd0cbf6997", func := "loop.example/g01023/laws.FnExactNewWeaving", spec := "fnExactNewWeaving", unfollowed := true, recurses := true, apart := false, narrowed := true }
def FnExactNewWeavingUptoSaid : Prop := fnExactNewWeavingUptoRow.holds Try.pinned (OpenSpec.upto fnExactNewWeavingSpec)

/-- 'laws.FnWeaving', WHERE WHAT IT READS IS OF BULK AT MOST 1048576: true; the input reads as it did. -/
def fnWeavingUptoRow : OpenClaim := { program := "ytebljeaeoedgjaa", sum := "33defc6e01e0e9d03ac0e1850f2f2e1cb074f219f04e6a3d69b29fdd0cbf6997", func := "loop.example/g01023/laws.FnWeaving", spec := "fnWeaving", unfollowed := true, recurses := true, apart := false, narrowed := true }
def FnWeavingUptoSaid : Prop := fnWeavingUptoRow.holds Try.pinned (OpenSpec.upto fnWeavingSpec)

/-- 'laws.FnEveryCarpet', WHERE WHAT IT READS IS OF BULK AT MOST 1048576: true; the input reads as it did. -/
def fnEveryCarpetUptoRow : OpenClaim := { program := "ytebljeaeoedgjaa", sum := "33defc6e01e0e9d03ac0e1850f2f2e1cb074f219f04e6a3d69b29fdd0cbf6997", func := "loop.example/g01023/laws.FnEveryCarpet", spec := "fnEveryCarpet", unfollowed := true, recurses := true, apart := false, narrowed := true }
def FnEveryCarpetUptoSaid : Prop := fnEveryCarpetUptoRow.holds Try.pinned (OpenSpec.upto fnEveryCarpetSpec)

/-- 'laws.FnExactUnpicksNeeded', WHERE WHAT IT READS IS OF BULK AT MOST 1048576: true; the input reads as it did. -/
def fnExactUnpicksNeededUptoRow : OpenClaim := { program := "ytebljeaeoedgjaa", sum := "33defc6e01e0e9d03ac0e1850f2f2e1cb074f219f04e6a3d69b29fdd0cbf6997", func := "loop.example/g01023/laws.FnExactUnpicksNeeded", spec := "fnExactUnpicksNeeded", unfollowed := true, recurses := true, apart := false, narrowed := true }
def FnExactUnpicksNeededUptoSaid : Prop := fnExactUnpicksNeededUptoRow.holds Try.pinned (OpenSpec.upto fnExactUnpicksNeededSpec)

/-- 'laws.FnExactStepWeaving', WHERE WHAT IT READS IS OF BULK AT MOST 1048576: true; the input reads as it did. -/
def fnExactStepWeavingUptoRow : OpenClaim := { program := "ytebljeaeoedgjaa", sum := "33defc6e01e0e9d03ac0e1850f2f2e1cb074f219f04e6a3d69b29fdd0cbf6997", func := "loop.example/g01023/laws.FnExactStepWeaving", spec := "fnExactStepWeaving", unfollowed := true, recurses := true, apart := false, narrowed := true }
def FnExactStepWeavingUptoSaid : Prop := fnExactStepWeavingUptoRow.holds Try.pinned (OpenSpec.upto fnExactStepWeavingSpec)

/-- 'laws.FnExactRunWeaving', WHERE WHAT IT READS IS OF BULK AT MOST 1048576: true; the input reads as it did. -/
def fnExactRunWeavingUptoRow : OpenClaim := { program := "ytebljeaeoedgjaa", sum := "33defc6e01e0e9d03ac0e1850f2f2e1cb074f219f04e6a3d69b29fdd0cbf6997", func := "loop.example/g01023/laws.FnExactRunWeaving", spec := "fnExactRunWeaving", unfollowed := true, recurses := true, apart := false, narrowed := true }
def FnExactRunWeavingUptoSaid : Prop := fnExactRunWeavingUptoRow.holds Try.pinned (OpenSpec.upto fnExactRunWeavingSpec)

end Rows
end Go.Proofs.Ytebljeaeoedgjaa
