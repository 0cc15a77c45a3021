/-
  No cell of these rows narrows 'for every input' (looked for: loops, veiled, ifaces, maps, wideKeys, modest, calm, conditions, laid).
  DERIVED. THE GIVEN ROWS OF THIS SEAT. 12 by the template 'for every input the law returns true; each argument reads behind the call as it read before'; 0 by the template 'total and deterministic' (their statements: YteiaakppjcpgcaaTotals.lean).
  GIVEN WITH THE SEED: the statements are not yours to turn. If you find one false, say at which input.
  Laid BY PROGRAM, IN A SANDBOX (cutbox-rows.mjs): the forced cells as the released guide's own fill.sh prints them over the translation ead550e647cb23c3… (all of the seat's roots in one cut). By AI agents, Wed Nov 11 2026. No macro, syntax, notation, axiom, sorry.
-/
import Derived.Test.YteiaakppjcpgcaaChecked
import GoSem.Claim
import GoSem.ClaimJoined
import GoSem.ClaimMapViews
import Derived.JoinedTies
import Derived.KernelRfl
namespace Go.Proofs.Yteiaakppjcpgcaa
/- THE CELL 'sum', in the pinned program and in every row, IS THE sha256 OF THE DUMP (.gsa) THAT YteiaakppjcpgcaaProg.lean LOADS. Nothing in Lean hashes anything: it is a label: what it is worth is what the hold of that sum in a sandbox is worth. -/
noncomputable def Try.pinned : Pinned := { name := "yteiaakppjcpgcaa", sum := "ead550e647cb23c3c1b8a31f7eaa5046375e13e48af87c71e2ec00f52c5b0aab", checked := Try.checked }
namespace Rows
def none {H : Type} : Left H := { results := [], args := [] }

/-- 'laws.FnExactChangeColor': WHATEVER THE INPUT: true; the input reads as it did. -/
def fnExactChangeColorSpec : ChangeSpec := { name := "fnExactChangeColor", fn := fun _ => fun
  | [d1, d2, d3] => { results := [.lit (.bool true)], args := [d1, d2, d3] }
  | _ => none }
def fnExactChangeColorRow : OpenClaim := { program := "yteiaakppjcpgcaa", sum := "ead550e647cb23c3c1b8a31f7eaa5046375e13e48af87c71e2ec00f52c5b0aab", func := "loop.example/g01023/laws.FnExactChangeColor", spec := "fnExactChangeColor", unfollowed := true, recurses := true, apart := false }
def FnExactChangeColorSaid : Prop := fnExactChangeColorRow.holds Try.pinned (OpenSpec.ofChange fnExactChangeColorSpec)

/-- ITS FALSE NEIGHBOUR: 'it returns false'. Refute it at one input. -/
def fnExactChangeColorWrong : ChangeSpec := { name := "fnExactChangeColor", fn := fun _ => fun
  | [d1, d2, d3] => { results := [.lit (.bool false)], args := [d1, d2, d3] }
  | _ => none }
def FnExactChangeColorWrongFalsely : Prop := fnExactChangeColorRow.holds Try.pinned (OpenSpec.ofChange fnExactChangeColorWrong)

/-- 'laws.FnExactNewConsole': WHATEVER THE INPUT: true; the input reads as it did. -/
def fnExactNewConsoleSpec : ChangeSpec := { name := "fnExactNewConsole", fn := fun _ => fun
  | [d] => { results := [.lit (.bool true)], args := [d] }
  | _ => none }
def fnExactNewConsoleRow : OpenClaim := { program := "yteiaakppjcpgcaa", sum := "ead550e647cb23c3c1b8a31f7eaa5046375e13e48af87c71e2ec00f52c5b0aab", func := "loop.example/g01023/laws.FnExactNewConsole", spec := "fnExactNewConsole", apart := false }
def FnExactNewConsoleSaid : Prop := fnExactNewConsoleRow.holds Try.pinned (OpenSpec.ofChange fnExactNewConsoleSpec)

/-- ITS FALSE NEIGHBOUR: 'it returns false'. Refute it at one input. -/
def fnExactNewConsoleWrong : ChangeSpec := { name := "fnExactNewConsole", fn := fun _ => fun
  | [d] => { results := [.lit (.bool false)], args := [d] }
  | _ => none }
def FnExactNewConsoleWrongFalsely : Prop := fnExactNewConsoleRow.holds Try.pinned (OpenSpec.ofChange fnExactNewConsoleWrong)

/-- 'laws.FnExactIsValidRecord': WHATEVER THE INPUT: true; the input reads as it did. -/
def fnExactIsValidRecordSpec : ChangeSpec := { name := "fnExactIsValidRecord", fn := fun _ => fun
  | [d] => { results := [.lit (.bool true)], args := [d] }
  | _ => none }
def fnExactIsValidRecordRow : OpenClaim := { program := "yteiaakppjcpgcaa", sum := "ead550e647cb23c3c1b8a31f7eaa5046375e13e48af87c71e2ec00f52c5b0aab", func := "loop.example/g01023/laws.FnExactIsValidRecord", spec := "fnExactIsValidRecord", inPlace := ["internal/bytealg.IndexByteString", "internal/bytealg.IndexString"], unfollowed := true, recurses := true, named := ["internal/bytealg.MaxLen"], apart := false }
def FnExactIsValidRecordSaid : Prop := fnExactIsValidRecordRow.holds Try.pinned (OpenSpec.ofChange fnExactIsValidRecordSpec)

/-- ITS FALSE NEIGHBOUR: 'it returns false'. Refute it at one input. -/
def fnExactIsValidRecordWrong : ChangeSpec := { name := "fnExactIsValidRecord", fn := fun _ => fun
  | [d] => { results := [.lit (.bool false)], args := [d] }
  | _ => none }
def FnExactIsValidRecordWrongFalsely : Prop := fnExactIsValidRecordRow.holds Try.pinned (OpenSpec.ofChange fnExactIsValidRecordWrong)

/-- 'laws.FnExactPutPart': WHATEVER THE INPUT: true; the input reads as it did. -/
def fnExactPutPartSpec : ChangeSpec := { name := "fnExactPutPart", fn := fun _ => fun
  | [d1, d2, d3, d4] => { results := [.lit (.bool true)], args := [d1, d2, d3, d4] }
  | _ => none }
def fnExactPutPartRow : OpenClaim := { program := "yteiaakppjcpgcaa", sum := "ead550e647cb23c3c1b8a31f7eaa5046375e13e48af87c71e2ec00f52c5b0aab", func := "loop.example/g01023/laws.FnExactPutPart", spec := "fnExactPutPart", unfollowed := true, recurses := true, apart := false }
def FnExactPutPartSaid : Prop := fnExactPutPartRow.holds Try.pinned (OpenSpec.ofChange fnExactPutPartSpec)

/-- ITS FALSE NEIGHBOUR: 'it returns false'. Refute it at one input. -/
def fnExactPutPartWrong : ChangeSpec := { name := "fnExactPutPart", fn := fun _ => fun
  | [d1, d2, d3, d4] => { results := [.lit (.bool false)], args := [d1, d2, d3, d4] }
  | _ => none }
def FnExactPutPartWrongFalsely : Prop := fnExactPutPartRow.holds Try.pinned (OpenSpec.ofChange fnExactPutPartWrong)

/-- 'laws.FnExactMirrorChart': WHATEVER THE INPUT: true; the input reads as it did. -/
def fnExactMirrorChartSpec : ChangeSpec := { name := "fnExactMirrorChart", fn := fun _ => fun
  | [d] => { results := [.lit (.bool true)], args := [d] }
  | _ => none }
def fnExactMirrorChartRow : OpenClaim := { program := "yteiaakppjcpgcaa", sum := "ead550e647cb23c3c1b8a31f7eaa5046375e13e48af87c71e2ec00f52c5b0aab", func := "loop.example/g01023/laws.FnExactMirrorChart", spec := "fnExactMirrorChart", unfollowed := true, recurses := true, apart := false }
def FnExactMirrorChartSaid : Prop := fnExactMirrorChartRow.holds Try.pinned (OpenSpec.ofChange fnExactMirrorChartSpec)

/-- ITS FALSE NEIGHBOUR: 'it returns false'. Refute it at one input. -/
def fnExactMirrorChartWrong : ChangeSpec := { name := "fnExactMirrorChart", fn := fun _ => fun
  | [d] => { results := [.lit (.bool false)], args := [d] }
  | _ => none }
def FnExactMirrorChartWrongFalsely : Prop := fnExactMirrorChartRow.holds Try.pinned (OpenSpec.ofChange fnExactMirrorChartWrong)

/-- 'laws.FnExactTurnChart': WHATEVER THE INPUT: true; the input reads as it did. -/
def fnExactTurnChartSpec : ChangeSpec := { name := "fnExactTurnChart", fn := fun _ => fun
  | [d] => { results := [.lit (.bool true)], args := [d] }
  | _ => none }
def fnExactTurnChartRow : OpenClaim := { program := "yteiaakppjcpgcaa", sum := "ead550e647cb23c3c1b8a31f7eaa5046375e13e48af87c71e2ec00f52c5b0aab", func := "loop.example/g01023/laws.FnExactTurnChart", spec := "fnExactTurnChart", unfollowed := true, recurses := true, apart := false }
def FnExactTurnChartSaid : Prop := fnExactTurnChartRow.holds Try.pinned (OpenSpec.ofChange fnExactTurnChartSpec)

/-- ITS FALSE NEIGHBOUR: 'it returns false'. Refute it at one input. -/
def fnExactTurnChartWrong : ChangeSpec := { name := "fnExactTurnChart", fn := fun _ => fun
  | [d] => { results := [.lit (.bool false)], args := [d] }
  | _ => none }
def FnExactTurnChartWrongFalsely : Prop := fnExactTurnChartRow.holds Try.pinned (OpenSpec.ofChange fnExactTurnChartWrong)

/-- 'laws.FnExactHasSymmetry': WHATEVER THE INPUT: true; the input reads as it did. -/
def fnExactHasSymmetrySpec : ChangeSpec := { name := "fnExactHasSymmetry", fn := fun _ => fun
  | [d1, d2] => { results := [.lit (.bool true)], args := [d1, d2] }
  | _ => none }
def fnExactHasSymmetryRow : OpenClaim := { program := "yteiaakppjcpgcaa", sum := "ead550e647cb23c3c1b8a31f7eaa5046375e13e48af87c71e2ec00f52c5b0aab", func := "loop.example/g01023/laws.FnExactHasSymmetry", spec := "fnExactHasSymmetry", unfollowed := true, recurses := true, apart := false }
def FnExactHasSymmetrySaid : Prop := fnExactHasSymmetryRow.holds Try.pinned (OpenSpec.ofChange fnExactHasSymmetrySpec)

/-- ITS FALSE NEIGHBOUR: 'it returns false'. Refute it at one input. -/
def fnExactHasSymmetryWrong : ChangeSpec := { name := "fnExactHasSymmetry", fn := fun _ => fun
  | [d1, d2] => { results := [.lit (.bool false)], args := [d1, d2] }
  | _ => none }
def FnExactHasSymmetryWrongFalsely : Prop := fnExactHasSymmetryRow.holds Try.pinned (OpenSpec.ofChange fnExactHasSymmetryWrong)

/-- 'laws.FnExactMoveChart': WHATEVER THE INPUT: true; the input reads as it did. -/
def fnExactMoveChartSpec : ChangeSpec := { name := "fnExactMoveChart", fn := fun _ => fun
  | [d1, d2] => { results := [.lit (.bool true)], args := [d1, d2] }
  | _ => none }
def fnExactMoveChartRow : OpenClaim := { program := "yteiaakppjcpgcaa", sum := "ead550e647cb23c3c1b8a31f7eaa5046375e13e48af87c71e2ec00f52c5b0aab", func := "loop.example/g01023/laws.FnExactMoveChart", spec := "fnExactMoveChart", unfollowed := true, recurses := true, apart := false }
def FnExactMoveChartSaid : Prop := fnExactMoveChartRow.holds Try.pinned (OpenSpec.ofChange fnExactMoveChartSpec)

/-- ITS FALSE NEIGHBOUR: 'it returns false'. Refute it at one input. -/
def fnExactMoveChartWrong : ChangeSpec := { name := "fnExactMoveChart", fn := fun _ => fun
  | [d1, d2] => { results := [.lit (.bool false)], args := [d1, d2] }
  | _ => none }
def FnExactMoveChartWrongFalsely : Prop := fnExactMoveChartRow.holds Try.pinned (OpenSpec.ofChange fnExactMoveChartWrong)

/-- 'laws.FnExactPutRing': WHATEVER THE INPUT: true; the input reads as it did. -/
def fnExactPutRingSpec : ChangeSpec := { name := "fnExactPutRing", fn := fun _ => fun
  | [d1, d2] => { results := [.lit (.bool true)], args := [d1, d2] }
  | _ => none }
def fnExactPutRingRow : OpenClaim := { program := "yteiaakppjcpgcaa", sum := "ead550e647cb23c3c1b8a31f7eaa5046375e13e48af87c71e2ec00f52c5b0aab", func := "loop.example/g01023/laws.FnExactPutRing", spec := "fnExactPutRing", unfollowed := true, recurses := true, apart := false }
def FnExactPutRingSaid : Prop := fnExactPutRingRow.holds Try.pinned (OpenSpec.ofChange fnExactPutRingSpec)

/-- ITS FALSE NEIGHBOUR: 'it returns false'. Refute it at one input. -/
def fnExactPutRingWrong : ChangeSpec := { name := "fnExactPutRing", fn := fun _ => fun
  | [d1, d2] => { results := [.lit (.bool false)], args := [d1, d2] }
  | _ => none }
def FnExactPutRingWrongFalsely : Prop := fnExactPutRingRow.holds Try.pinned (OpenSpec.ofChange fnExactPutRingWrong)

/-- 'laws.FnExactSymmetriesOf': WHATEVER THE INPUT: true; the input reads as it did. -/
def fnExactSymmetriesOfSpec : ChangeSpec := { name := "fnExactSymmetriesOf", fn := fun _ => fun
  | [d] => { results := [.lit (.bool true)], args := [d] }
  | _ => none }
def fnExactSymmetriesOfRow : OpenClaim := { program := "yteiaakppjcpgcaa", sum := "ead550e647cb23c3c1b8a31f7eaa5046375e13e48af87c71e2ec00f52c5b0aab", func := "loop.example/g01023/laws.FnExactSymmetriesOf", spec := "fnExactSymmetriesOf", unfollowed := true, recurses := true, apart := false }
def FnExactSymmetriesOfSaid : Prop := fnExactSymmetriesOfRow.holds Try.pinned (OpenSpec.ofChange fnExactSymmetriesOfSpec)

/-- ITS FALSE NEIGHBOUR: 'it returns false'. Refute it at one input. -/
def fnExactSymmetriesOfWrong : ChangeSpec := { name := "fnExactSymmetriesOf", fn := fun _ => fun
  | [d] => { results := [.lit (.bool false)], args := [d] }
  | _ => none }
def FnExactSymmetriesOfWrongFalsely : Prop := fnExactSymmetriesOfRow.holds Try.pinned (OpenSpec.ofChange fnExactSymmetriesOfWrong)

/-- 'laws.FnExactAddBorder': WHATEVER THE INPUT: true; the input reads as it did. -/
def fnExactAddBorderSpec : ChangeSpec := { name := "fnExactAddBorder", fn := fun _ => fun
  | [d1, d2] => { results := [.lit (.bool true)], args := [d1, d2] }
  | _ => none }
def fnExactAddBorderRow : OpenClaim := { program := "yteiaakppjcpgcaa", sum := "ead550e647cb23c3c1b8a31f7eaa5046375e13e48af87c71e2ec00f52c5b0aab", func := "loop.example/g01023/laws.FnExactAddBorder", spec := "fnExactAddBorder", unfollowed := true, recurses := true, apart := false }
def FnExactAddBorderSaid : Prop := fnExactAddBorderRow.holds Try.pinned (OpenSpec.ofChange fnExactAddBorderSpec)

/-- ITS FALSE NEIGHBOUR: 'it returns false'. Refute it at one input. -/
def fnExactAddBorderWrong : ChangeSpec := { name := "fnExactAddBorder", fn := fun _ => fun
  | [d1, d2] => { results := [.lit (.bool false)], args := [d1, d2] }
  | _ => none }
def FnExactAddBorderWrongFalsely : Prop := fnExactAddBorderRow.holds Try.pinned (OpenSpec.ofChange fnExactAddBorderWrong)

/-- 'laws.FnExactAnyWayPlaces': WHATEVER THE INPUT: true; the input reads as it did. -/
def fnExactAnyWayPlacesSpec : ChangeSpec := { name := "fnExactAnyWayPlaces", fn := fun _ => fun
  | [d1, d2] => { results := [.lit (.bool true)], args := [d1, d2] }
  | _ => none }
def fnExactAnyWayPlacesRow : OpenClaim := { program := "yteiaakppjcpgcaa", sum := "ead550e647cb23c3c1b8a31f7eaa5046375e13e48af87c71e2ec00f52c5b0aab", func := "loop.example/g01023/laws.FnExactAnyWayPlaces", spec := "fnExactAnyWayPlaces", unfollowed := true, recurses := true, apart := false }
def FnExactAnyWayPlacesSaid : Prop := fnExactAnyWayPlacesRow.holds Try.pinned (OpenSpec.ofChange fnExactAnyWayPlacesSpec)

/-- ITS FALSE NEIGHBOUR: 'it returns false'. Refute it at one input. -/
def fnExactAnyWayPlacesWrong : ChangeSpec := { name := "fnExactAnyWayPlaces", fn := fun _ => fun
  | [d1, d2] => { results := [.lit (.bool false)], args := [d1, d2] }
  | _ => none }
def FnExactAnyWayPlacesWrongFalsely : Prop := fnExactAnyWayPlacesRow.holds Try.pinned (OpenSpec.ofChange fnExactAnyWayPlacesWrong)

/- THE SECOND FORM. 'bulk': how many values and letters a reading holds, each counted each time it is reached (what is shared counts as often as it is met; a slice's spare places count too). A statement '..UptoSaid' is the law's where the arguments, and the package variables that the reading takes, are together of bulk at most 1048576: NARROWER than '..Said'. Prove '..Said' where nothing that the law and all that it calls make is longer than what came in: it says more and counts as full. Else prove '..UptoSaid'. A law counts once. -/
mutual
def uptoBulk {H : Type} : DataW H → Nat
  | .lit (.string bytes) => bytes.length + 1
  | .lit _ => 1
  | .nil => 1
  | .ptr d => uptoBulk d + 1
  | .slice elems spare => uptoBulkAll elems + uptoBulkAll spare + 1
  | .agg parts => uptoBulkAll parts + 1
  | .iface _ d => uptoBulk d + 1
  | .map entries => uptoBulkEntries entries + 1
  | .held _ => 1
def uptoBulkAll {H : Type} : List (DataW H) → Nat
  | [] => 0
  | d :: r => uptoBulk d + uptoBulkAll r
def uptoBulkEntries {H : Type} : List (Lit × DataW H) → Nat
  | [] => 0
  | x :: r => uptoBulkEntry x + uptoBulkEntries r
def uptoBulkEntry {H : Type} : Lit × DataW H → Nat
  | (.string bytes, d) => bytes.length + uptoBulk d + 1
  | (_, d) => uptoBulk d + 1
 end
def uptoSmall : (H : Type) → List (DataW H) → Bool := fun _ ds => decide (uptoBulkAll ds ≤ 1048576)
def OpenSpec.upto (s : _root_.Go.ChangeSpec) : _root_.Go.OpenSpec := { _root_.Go.OpenSpec.ofChange s with cond := some uptoSmall }

/-- 'laws.FnExactChangeColor', WHERE WHAT IT READS IS OF BULK AT MOST 1048576: true; the input reads as it did. -/
def fnExactChangeColorUptoRow : OpenClaim := { program := "yteiaakppjcpgcaa", sum := "ead550e647cb23c3c1b8a31f7eaa5046375e13e48af87c71e2ec00f52c5b0aab", func := "loop.example/g01023/laws.FnExactChangeColor", spec := "fnExactChangeColor", unfollowed := true, recurses := true, apart := false, narrowed := true }
def FnExactChangeColorUptoSaid : Prop := fnExactChangeColorUptoRow.holds Try.pinned (OpenSpec.upto fnExactChangeColorSpec)

/-- 'laws.FnExactNewConsole', WHERE WHAT IT READS IS OF BULK AT MOST 1048576: true; the input reads as it did. -/
def fnExactNewConsoleUptoRow : OpenClaim := { program := "yteiaakppjcpgcaa", sum := "ead550e647cb23c3c1b8a31f7eaa5046375e13e48af87c71e2ec00f52c5b0aab", func := "loop.example/g01023/laws.FnExactNewConsole", spec := "fnExactNewConsole", apart := false, narrowed := true }
def FnExactNewConsoleUptoSaid : Prop := fnExactNewConsoleUptoRow.holds Try.pinned (OpenSpec.upto fnExactNewConsoleSpec)

/-- 'laws.FnExactIsValidRecord', WHERE WHAT IT READS IS OF BULK AT MOST 1048576: true; the input reads as it did. -/
def fnExactIsValidRecordUptoRow : OpenClaim := { program := "yteiaakppjcpgcaa", sum := "ead550e647cb23c3c1b8a31f7eaa5046375e13e48af87c71e2ec00f52c5b0aab", func := "loop.example/g01023/laws.FnExactIsValidRecord", spec := "fnExactIsValidRecord", inPlace := ["internal/bytealg.IndexByteString", "internal/bytealg.IndexString"], unfollowed := true, recurses := true, named := ["internal/bytealg.MaxLen"], apart := false, narrowed := true }
def FnExactIsValidRecordUptoSaid : Prop := fnExactIsValidRecordUptoRow.holds Try.pinned (OpenSpec.upto fnExactIsValidRecordSpec)

/-- 'laws.FnExactPutPart', WHERE WHAT IT READS IS OF BULK AT MOST 1048576: true; the input reads as it did. -/
def fnExactPutPartUptoRow : OpenClaim := { program := "yteiaakppjcpgcaa", sum := "ead550e647cb23c3c1b8a31f7eaa5046375e13e48af87c71e2ec00f52c5b0aab", func := "loop.example/g01023/laws.FnExactPutPart", spec := "fnExactPutPart", unfollowed := true, recurses := true, apart := false, narrowed := true }
def FnExactPutPartUptoSaid : Prop := fnExactPutPartUptoRow.holds Try.pinned (OpenSpec.upto fnExactPutPartSpec)

/-- 'laws.FnExactMirrorChart', WHERE WHAT IT READS IS OF BULK AT MOST 1048576: true; the input reads as it did. -/
def fnExactMirrorChartUptoRow : OpenClaim := { program := "yteiaakppjcpgcaa", sum := "ead550e647cb23c3c1b8a31f7eaa5046375e13e48af87c71e2ec00f52c5b0aab", func := "loop.example/g01023/laws.FnExactMirrorChart", spec := "fnExactMirrorChart", unfollowed := true, recurses := true, apart := false, narrowed := true }
def FnExactMirrorChartUptoSaid : Prop := fnExactMirrorChartUptoRow.holds Try.pinned (OpenSpec.upto fnExactMirrorChartSpec)

/-- 'laws.FnExactTurnChart', WHERE WHAT IT READS IS OF BULK AT MOST 1048576: true; the input reads as it did. -/
def fnExactTurnChartUptoRow : OpenClaim := { program := "yteiaakppjcpgcaa", sum := "ead550e647cb23c3c1b8a31f7eaa5046375e13e48af87c71e2ec00f52c5b0aab", func := "loop.example/g01023/laws.FnExactTurnChart", spec := "fnExactTurnChart", unfollowed := true, recurses := true, apart := false, narrowed := true }
def FnExactTurnChartUptoSaid : Prop := fnExactTurnChartUptoRow.holds Try.pinned (OpenSpec.upto fnExactTurnChartSpec)

/-- 'laws.FnExactHasSymmetry', WHERE WHAT IT READS IS OF BULK AT MOST 1048576: true; the input reads as it did. -/
def fnExactHasSymmetryUptoRow : OpenClaim := { program := "yteiaakppjcpgcaa", sum := "ead550e647cb23c3c1b8a31f7eaa5046375e13e48af87c71e2ec00f52c5b0aab", func := "loop.example/g01023/laws.FnExactHasSymmetry", spec := "fnExactHasSymmetry", unfollowed := true, recurses := true, apart := false, narrowed := true }
def FnExactHasSymmetryUptoSaid : Prop := fnExactHasSymmetryUptoRow.holds Try.pinned (OpenSpec.upto fnExactHasSymmetrySpec)

/-- 'laws.FnExactMoveChart', WHERE WHAT IT READS IS OF BULK AT MOST 1048576: true; the input reads as it did. -/
def fnExactMoveChartUptoRow : OpenClaim := { program := "yteiaakppjcpgcaa", sum := "ead550e647cb23c3c1b8a31f7eaa5046375e13e48af87c71e2ec00f52c5b0aab", func := "loop.example/g01023/laws.FnExactMoveChart", spec := "fnExactMoveChart", unfollowed := true, recurses := true, apart := false, narrowed := true }
def FnExactMoveChartUptoSaid : Prop := fnExactMoveChartUptoRow.holds Try.pinned (OpenSpec.upto fnExactMoveChartSpec)

/-- 'laws.FnExactPutRing', WHERE WHAT IT READS IS OF BULK AT MOST 1048576: true; the input reads as it did. -/
def fnExactPutRingUptoRow : OpenClaim := { program := "yteiaakppjcpgcaa", sum := "ead550e647cb23c3c1b8a31f7eaa5046375e13e48af87c71e2ec00f52c5b0aab", func := "loop.example/g01023/laws.FnExactPutRing", spec := "fnExactPutRing", unfollowed := true, recurses := true, apart := false, narrowed := true }
def FnExactPutRingUptoSaid : Prop := fnExactPutRingUptoRow.holds Try.pinned (OpenSpec.upto fnExactPutRingSpec)

/-- 'laws.FnExactSymmetriesOf', WHERE WHAT IT READS IS OF BULK AT MOST 1048576: true; the input reads as it did. -/
def fnExactSymmetriesOfUptoRow : OpenClaim := { program := "yteiaakppjcpgcaa", sum := "ead550e647cb23c3c1b8a31f7eaa5046375e13e48af87c71e2ec00f52c5b0aab", func := "loop.example/g01023/laws.FnExactSymmetriesOf", spec := "fnExactSymmetriesOf", unfollowed := true, recurses := true, apart := false, narrowed := true }
def FnExactSymmetriesOfUptoSaid : Prop := fnExactSymmetriesOfUptoRow.holds Try.pinned (OpenSpec.upto fnExactSymmetriesOfSpec)

/-- 'laws.FnExactAddBorder', WHERE WHAT IT READS IS OF BULK AT MOST 1048576: true; the input reads as it did. -/
def fnExactAddBorderUptoRow : OpenClaim := { program := "yteiaakppjcpgcaa", sum := "ead550e647cb23c3c1b8a31f7eaa5046375e13e48af87c71e2ec00f52c5b0aab", func := "loop.example/g01023/laws.FnExactAddBorder", spec := "fnExactAddBorder", unfollowed := true, recurses := true, apart := false, narrowed := true }
def FnExactAddBorderUptoSaid : Prop := fnExactAddBorderUptoRow.holds Try.pinned (OpenSpec.upto fnExactAddBorderSpec)

/-- 'laws.FnExactAnyWayPlaces', WHERE WHAT IT READS IS OF BULK AT MOST 1048576: true; the input reads as it did. -/
def fnExactAnyWayPlacesUptoRow : OpenClaim := { program := "yteiaakppjcpgcaa", sum := "ead550e647cb23c3c1b8a31f7eaa5046375e13e48af87c71e2ec00f52c5b0aab", func := "loop.example/g01023/laws.FnExactAnyWayPlaces", spec := "fnExactAnyWayPlaces", unfollowed := true, recurses := true, apart := false, narrowed := true }
def FnExactAnyWayPlacesUptoSaid : Prop := fnExactAnyWayPlacesUptoRow.holds Try.pinned (OpenSpec.upto fnExactAnyWayPlacesSpec)

end Rows
end Go.Proofs.Yteiaakppjcpgcaa
