/-
  No cell of these rows narrows 'for every input' (looked for: loops, veiled, ifaces, maps, wideKeys, modest, calm, conditions, laid).
  DERIVED. THE GIVEN ROWS OF THIS SEAT. 8 by the template 'for every input the law returns true; each argument reads behind the call as it read before'; 0 by the template 'total and deterministic' (their statements: YtahglcpndiadnaaTotals.lean).
  GIVEN WITH THE SEED: the statements are not yours to turn. If you find one false, say at which input.
  Laid BY PROGRAM, IN A SANDBOX (cutbox-rows.mjs): the forced cells as the released guide's own fill.sh prints them over the translation db04d902b298faf2… (all of the seat's roots in one cut). By AI agents, Wed Nov 11 2026. No macro, syntax, notation, axiom, sorry.
-/
import Derived.Test.YtahglcpndiadnaaChecked
import GoSem.Claim
import GoSem.ClaimJoined
import GoSem.ClaimMapViews
import Derived.JoinedTies
import Derived.KernelRfl
namespace Go.Proofs.Ytahglcpndiadnaa
/- THE CELL 'sum', in the pinned program and in every row, IS THE sha256 OF THE DUMP (.gsa) THAT YtahglcpndiadnaaProg.lean LOADS. Nothing in Lean hashes anything: it is a label: what it is worth is what the hold of that sum in a sandbox is worth. -/
noncomputable def Try.pinned : Pinned := { name := "ytahglcpndiadnaa", sum := "db04d902b298faf28ab781a9039ca1743128028bfef9b07b35c40365702cbee6", checked := Try.checked }
namespace Rows
def none {H : Type} : Left H := { results := [], args := [] }

/-- 'laws.FnEveryShop': WHATEVER THE INPUT: true; the input reads as it did. -/
def fnEveryShopSpec : ChangeSpec := { name := "fnEveryShop", fn := fun _ => fun
  | [d1, d2] => { results := [.lit (.bool true)], args := [d1, d2] }
  | _ => none }
def fnEveryShopRow : OpenClaim := { program := "ytahglcpndiadnaa", sum := "db04d902b298faf28ab781a9039ca1743128028bfef9b07b35c40365702cbee6", func := "loop.example/g01023/laws.FnEveryShop", spec := "fnEveryShop", unfollowed := true, recurses := true, apart := false }
def FnEveryShopSaid : Prop := fnEveryShopRow.holds Try.pinned (OpenSpec.ofChange fnEveryShopSpec)

/-- ITS FALSE NEIGHBOUR: 'it returns false'. Refute it at one input. -/
def fnEveryShopWrong : ChangeSpec := { name := "fnEveryShop", fn := fun _ => fun
  | [d1, d2] => { results := [.lit (.bool false)], args := [d1, d2] }
  | _ => none }
def FnEveryShopWrongFalsely : Prop := fnEveryShopRow.holds Try.pinned (OpenSpec.ofChange fnEveryShopWrong)

/-- 'laws.FnExactStepShop': WHATEVER THE INPUT: true; the input reads as it did. -/
def fnExactStepShopSpec : ChangeSpec := { name := "fnExactStepShop", fn := fun _ => fun
  | [d1, d2] => { results := [.lit (.bool true)], args := [d1, d2] }
  | _ => none }
def fnExactStepShopRow : OpenClaim := { program := "ytahglcpndiadnaa", sum := "db04d902b298faf28ab781a9039ca1743128028bfef9b07b35c40365702cbee6", func := "loop.example/g01023/laws.FnExactStepShop", spec := "fnExactStepShop", unfollowed := true, recurses := true, apart := false }
def FnExactStepShopSaid : Prop := fnExactStepShopRow.holds Try.pinned (OpenSpec.ofChange fnExactStepShopSpec)

/-- ITS FALSE NEIGHBOUR: 'it returns false'. Refute it at one input. -/
def fnExactStepShopWrong : ChangeSpec := { name := "fnExactStepShop", fn := fun _ => fun
  | [d1, d2] => { results := [.lit (.bool false)], args := [d1, d2] }
  | _ => none }
def FnExactStepShopWrongFalsely : Prop := fnExactStepShopRow.holds Try.pinned (OpenSpec.ofChange fnExactStepShopWrong)

/-- 'laws.FnShops': WHATEVER THE INPUT: true; the input reads as it did. -/
def fnShopsSpec : ChangeSpec := { name := "fnShops", fn := fun _ => fun
  | [d] => { results := [.lit (.bool true)], args := [d] }
  | _ => none }
def fnShopsRow : OpenClaim := { program := "ytahglcpndiadnaa", sum := "db04d902b298faf28ab781a9039ca1743128028bfef9b07b35c40365702cbee6", func := "loop.example/g01023/laws.FnShops", spec := "fnShops", unfollowed := true, recurses := true, apart := false }
def FnShopsSaid : Prop := fnShopsRow.holds Try.pinned (OpenSpec.ofChange fnShopsSpec)

/-- ITS FALSE NEIGHBOUR: 'it returns false'. Refute it at one input. -/
def fnShopsWrong : ChangeSpec := { name := "fnShops", fn := fun _ => fun
  | [d] => { results := [.lit (.bool false)], args := [d] }
  | _ => none }
def FnShopsWrongFalsely : Prop := fnShopsRow.holds Try.pinned (OpenSpec.ofChange fnShopsWrong)

/-- 'laws.FnExactRunShop': WHATEVER THE INPUT: true; the input reads as it did. -/
def fnExactRunShopSpec : ChangeSpec := { name := "fnExactRunShop", fn := fun _ => fun
  | [d1, d2] => { results := [.lit (.bool true)], args := [d1, d2] }
  | _ => none }
def fnExactRunShopRow : OpenClaim := { program := "ytahglcpndiadnaa", sum := "db04d902b298faf28ab781a9039ca1743128028bfef9b07b35c40365702cbee6", func := "loop.example/g01023/laws.FnExactRunShop", spec := "fnExactRunShop", unfollowed := true, recurses := true, apart := false }
def FnExactRunShopSaid : Prop := fnExactRunShopRow.holds Try.pinned (OpenSpec.ofChange fnExactRunShopSpec)

/-- ITS FALSE NEIGHBOUR: 'it returns false'. Refute it at one input. -/
def fnExactRunShopWrong : ChangeSpec := { name := "fnExactRunShop", fn := fun _ => fun
  | [d1, d2] => { results := [.lit (.bool false)], args := [d1, d2] }
  | _ => none }
def FnExactRunShopWrongFalsely : Prop := fnExactRunShopRow.holds Try.pinned (OpenSpec.ofChange fnExactRunShopWrong)

/-- 'laws.FnEveryYarn': WHATEVER THE INPUT: true; the input reads as it did. -/
def fnEveryYarnSpec : ChangeSpec := { name := "fnEveryYarn", fn := fun _ => fun
  | [d1, d2] => { results := [.lit (.bool true)], args := [d1, d2] }
  | _ => none }
def fnEveryYarnRow : OpenClaim := { program := "ytahglcpndiadnaa", sum := "db04d902b298faf28ab781a9039ca1743128028bfef9b07b35c40365702cbee6", func := "loop.example/g01023/laws.FnEveryYarn", spec := "fnEveryYarn", unfollowed := true, recurses := true, apart := false }
def FnEveryYarnSaid : Prop := fnEveryYarnRow.holds Try.pinned (OpenSpec.ofChange fnEveryYarnSpec)

/-- ITS FALSE NEIGHBOUR: 'it returns false'. Refute it at one input. -/
def fnEveryYarnWrong : ChangeSpec := { name := "fnEveryYarn", fn := fun _ => fun
  | [d1, d2] => { results := [.lit (.bool false)], args := [d1, d2] }
  | _ => none }
def FnEveryYarnWrongFalsely : Prop := fnEveryYarnRow.holds Try.pinned (OpenSpec.ofChange fnEveryYarnWrong)

/-- 'laws.FnExactStepYarnStore': WHATEVER THE INPUT: true; the input reads as it did. -/
def fnExactStepYarnStoreSpec : ChangeSpec := { name := "fnExactStepYarnStore", fn := fun _ => fun
  | [d1, d2] => { results := [.lit (.bool true)], args := [d1, d2] }
  | _ => none }
def fnExactStepYarnStoreRow : OpenClaim := { program := "ytahglcpndiadnaa", sum := "db04d902b298faf28ab781a9039ca1743128028bfef9b07b35c40365702cbee6", func := "loop.example/g01023/laws.FnExactStepYarnStore", spec := "fnExactStepYarnStore", unfollowed := true, recurses := true, apart := false }
def FnExactStepYarnStoreSaid : Prop := fnExactStepYarnStoreRow.holds Try.pinned (OpenSpec.ofChange fnExactStepYarnStoreSpec)

/-- ITS FALSE NEIGHBOUR: 'it returns false'. Refute it at one input. -/
def fnExactStepYarnStoreWrong : ChangeSpec := { name := "fnExactStepYarnStore", fn := fun _ => fun
  | [d1, d2] => { results := [.lit (.bool false)], args := [d1, d2] }
  | _ => none }
def FnExactStepYarnStoreWrongFalsely : Prop := fnExactStepYarnStoreRow.holds Try.pinned (OpenSpec.ofChange fnExactStepYarnStoreWrong)

/-- 'laws.FnYarnStores': WHATEVER THE INPUT: true; the input reads as it did. -/
def fnYarnStoresSpec : ChangeSpec := { name := "fnYarnStores", fn := fun _ => fun
  | [d] => { results := [.lit (.bool true)], args := [d] }
  | _ => none }
def fnYarnStoresRow : OpenClaim := { program := "ytahglcpndiadnaa", sum := "db04d902b298faf28ab781a9039ca1743128028bfef9b07b35c40365702cbee6", func := "loop.example/g01023/laws.FnYarnStores", spec := "fnYarnStores", unfollowed := true, recurses := true, apart := false }
def FnYarnStoresSaid : Prop := fnYarnStoresRow.holds Try.pinned (OpenSpec.ofChange fnYarnStoresSpec)

/-- ITS FALSE NEIGHBOUR: 'it returns false'. Refute it at one input. -/
def fnYarnStoresWrong : ChangeSpec := { name := "fnYarnStores", fn := fun _ => fun
  | [d] => { results := [.lit (.bool false)], args := [d] }
  | _ => none }
def FnYarnStoresWrongFalsely : Prop := fnYarnStoresRow.holds Try.pinned (OpenSpec.ofChange fnYarnStoresWrong)

/-- 'laws.FnExactRunYarnStore': WHATEVER THE INPUT: true; the input reads as it did. -/
def fnExactRunYarnStoreSpec : ChangeSpec := { name := "fnExactRunYarnStore", fn := fun _ => fun
  | [d1, d2] => { results := [.lit (.bool true)], args := [d1, d2] }
  | _ => none }
def fnExactRunYarnStoreRow : OpenClaim := { program := "ytahglcpndiadnaa", sum := "db04d902b298faf28ab781a9039ca1743128028bfef9b07b35c40365702cbee6", func := "loop.example/g01023/laws.FnExactRunYarnStore", spec := "fnExactRunYarnStore", unfollowed := true, recurses := true, apart := false }
def FnExactRunYarnStoreSaid : Prop := fnExactRunYarnStoreRow.holds Try.pinned (OpenSpec.ofChange fnExactRunYarnStoreSpec)

/-- ITS FALSE NEIGHBOUR: 'it returns false'. Refute it at one input. -/
def fnExactRunYarnStoreWrong : ChangeSpec := { name := "fnExactRunYarnStore", fn := fun _ => fun
  | [d1, d2] => { results := [.lit (.bool false)], args := [d1, d2] }
  | _ => none }
def FnExactRunYarnStoreWrongFalsely : Prop := fnExactRunYarnStoreRow.holds Try.pinned (OpenSpec.ofChange fnExactRunYarnStoreWrong)

/- THE SECOND FORM. 'bulk': how many values and letters a reading holds, each counted each time it is reached (what is shared counts as often as it is met; a slice's spare places count too). A statement '..UptoSaid' is the law's where the arguments, and the package variables that the reading takes, are together of bulk at most 1048576: NARROWER than '..Said'. Prove '..Said' where nothing that the law and all that it calls make is longer than what came in: it says more and counts as full. Else prove '..UptoSaid'. A law counts once. -/
mutual
def uptoBulk {H : Type} : DataW H → Nat
  | .lit (.string bytes) => bytes.length + 1
  | .lit _ => 1
  | .nil => 1
  | .ptr d => uptoBulk d + 1
  | .slice elems spare => uptoBulkAll elems + uptoBulkAll spare + 1
  | .agg parts => uptoBulkAll parts + 1
  | .iface _ d => uptoBulk d + 1
  | .map entries => uptoBulkEntries entries + 1
  | .held _ => 1
def uptoBulkAll {H : Type} : List (DataW H) → Nat
  | [] => 0
  | d :: r => uptoBulk d + uptoBulkAll r
def uptoBulkEntries {H : Type} : List (Lit × DataW H) → Nat
  | [] => 0
  | x :: r => uptoBulkEntry x + uptoBulkEntries r
def uptoBulkEntry {H : Type} : Lit × DataW H → Nat
  | (.string bytes, d) => bytes.length + uptoBulk d + 1
  | (_, d) => uptoBulk d + 1
 end
def uptoSmall : (H : Type) → List (DataW H) → Bool := fun _ ds => decide (uptoBulkAll ds ≤ 1048576)
def OpenSpec.upto (s : _root_.Go.ChangeSpec) : _root_.Go.OpenSpec := { _root_.Go.OpenSpec.ofChange s with cond := some uptoSmall }

/-- 'laws.FnEveryShop', WHERE WHAT IT READS IS OF BULK AT MOST 1048576: true; the input reads as it did. -/
def fnEveryShopUptoRow : OpenClaim := { program := "ytahglcpndiadnaa", sum := "db04d902b298faf28ab781a9039ca1743128028bfef9b07b35c40365702cbee6", func := "loop.example/g01023/laws.FnEveryShop", spec := "fnEveryShop", unfollowed := true, recurses := true, apart := false, narrowed := true }
def FnEveryShopUptoSaid : Prop := fnEveryShopUptoRow.holds Try.pinned (OpenSpec.upto fnEveryShopSpec)

/-- 'laws.FnExactStepShop', WHERE WHAT IT READS IS OF BULK AT MOST 1048576: true; the input reads as it did. -/
def fnExactStepShopUptoRow : OpenClaim := { program := "ytahglcpndiadnaa", sum := "db04d902b298faf28ab781a9039ca1743128028bfef9b07b35c40365702cbee6", func := "loop.example/g01023/laws.FnExactStepShop", spec := "fnExactStepShop", unfollowed := true, recurses := true, apart := false, narrowed := true }
def FnExactStepShopUptoSaid : Prop := fnExactStepShopUptoRow.holds Try.pinned (OpenSpec.upto fnExactStepShopSpec)

/-- 'laws.FnShops', WHERE WHAT IT READS IS OF BULK AT MOST 1048576: true; the input reads as it did. -/
def fnShopsUptoRow : OpenClaim := { program := "ytahglcpndiadnaa", sum := "db04d902b298faf28ab781a9039ca1743128028bfef9b07b35c40365702cbee6", func := "loop.example/g01023/laws.FnShops", spec := "fnShops", unfollowed := true, recurses := true, apart := false, narrowed := true }
def FnShopsUptoSaid : Prop := fnShopsUptoRow.holds Try.pinned (OpenSpec.upto fnShopsSpec)

/-- 'laws.FnExactRunShop', WHERE WHAT IT READS IS OF BULK AT MOST 1048576: true; the input reads as it did. -/
def fnExactRunShopUptoRow : OpenClaim := { program := "ytahglcpndiadnaa", sum := "db04d902b298faf28ab781a9039ca1743128028bfef9b07b35c40365702cbee6", func := "loop.example/g01023/laws.FnExactRunShop", spec := "fnExactRunShop", unfollowed := true, recurses := true, apart := false, narrowed := true }
def FnExactRunShopUptoSaid : Prop := fnExactRunShopUptoRow.holds Try.pinned (OpenSpec.upto fnExactRunShopSpec)

/-- 'laws.FnEveryYarn', WHERE WHAT IT READS IS OF BULK AT MOST 1048576: true; the input reads as it did. -/
def fnEveryYarnUptoRow : OpenClaim := { program := "ytahglcpndiadnaa", sum := "db04d902b298faf28ab781a9039ca1743128028bfef9b07b35c40365702cbee6", func := "loop.example/g01023/laws.FnEveryYarn", spec := "fnEveryYarn", unfollowed := true, recurses := true, apart := false, narrowed := true }
def FnEveryYarnUptoSaid : Prop := fnEveryYarnUptoRow.holds Try.pinned (OpenSpec.upto fnEveryYarnSpec)

/-- 'laws.FnExactStepYarnStore', WHERE WHAT IT READS IS OF BULK AT MOST 1048576: true; the input reads as it did. -/
def fnExactStepYarnStoreUptoRow : OpenClaim := { program := "ytahglcpndiadnaa", sum := "db04d902b298faf28ab781a9039ca1743128028bfef9b07b35c40365702cbee6", func := "loop.example/g01023/laws.FnExactStepYarnStore", spec := "fnExactStepYarnStore", unfollowed := true, recurses := true, apart := false, narrowed := true }
def FnExactStepYarnStoreUptoSaid : Prop := fnExactStepYarnStoreUptoRow.holds Try.pinned (OpenSpec.upto fnExactStepYarnStoreSpec)

/-- 'laws.FnYarnStores', WHERE WHAT IT READS IS OF BULK AT MOST 1048576: true; the input reads as it did. -/
def fnYarnStoresUptoRow : OpenClaim := { program := "ytahglcpndiadnaa", sum := "db04d902b298faf28ab781a9039ca1743128028bfef9b07b35c40365702cbee6", func := "loop.example/g01023/laws.FnYarnStores", spec := "fnYarnStores", unfollowed := true, recurses := true, apart := false, narrowed := true }
def FnYarnStoresUptoSaid : Prop := fnYarnStoresUptoRow.holds Try.pinned (OpenSpec.upto fnYarnStoresSpec)

/-- 'laws.FnExactRunYarnStore', WHERE WHAT IT READS IS OF BULK AT MOST 1048576: true; the input reads as it did. -/
def fnExactRunYarnStoreUptoRow : OpenClaim := { program := "ytahglcpndiadnaa", sum := "db04d902b298faf28ab781a9039ca1743128028bfef9b07b35c40365702cbee6", func := "loop.example/g01023/laws.FnExactRunYarnStore", spec := "fnExactRunYarnStore", unfollowed := true, recurses := true, apart := false, narrowed := true }
def FnExactRunYarnStoreUptoSaid : Prop := fnExactRunYarnStoreUptoRow.holds Try.pinned (OpenSpec.upto fnExactRunYarnStoreSpec)

end Rows
end Go.Proofs.Ytahglcpndiadnaa
