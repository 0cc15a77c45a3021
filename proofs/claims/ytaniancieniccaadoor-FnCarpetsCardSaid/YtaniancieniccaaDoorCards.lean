/-
  DERIVED. GIVEN WITH THE SEED: THE CARDS: each row of YtaniancieniccaaDoorRows.lean that lists a variable, with what it lists TIED to the program's text (the seventh form; the later family's looks); each row that meets fmt, with fmt's text TOLD by the authors' own Lean function (tested against real Go, not proved from fmt's source: count such statements apart). THE CARD IS WHAT COUNTS. Prove the row's statement (the work); the ties are given (YtaniancieniccaaDoorTie.lean); close each card by the builder's one call (the guide's Derived/Test/ToyasCard.lean, 'card_holds'). Laid BY PROGRAM, IN A SANDBOX (cutbox-door.mjs). By AI agents, Wed Nov 11 2026. No macro, syntax, notation, axiom, sorry.
-/
import Derived.Test.YtaniancieniccaaDoorRows
import GoSem.ClaimSeven
namespace Go.Proofs.YtaniancieniccaaDoor
namespace Rows

/-- THE TIED CARD OF 'laws.FnCarpets'. -/
def fnCarpetsCard : Claim7 := { stood := { row := fnCarpetsRow, standIns := [], harness := (true, "a1a5d365a9065f97dab40d2ce39742de464e6f05078f559e3fa16e55e10415ae"), looks := false }, kinds := [], alts := [], laidByText := true, laidKinds := [.data, .data, .data], laidTests := true, laidLooks := .later }
def FnCarpetsCardSaid : Prop := Claim7.holds Tryd.pinned (.plain (OpenSpec.ofChange fnCarpetsSpec)) fnCarpetsCard

/-- THE SECOND FORM's CARD OF 'laws.FnCarpets'. -/
def fnCarpetsUptoCard : Claim7 := { stood := { row := fnCarpetsUptoRow, standIns := [], harness := (true, "a1a5d365a9065f97dab40d2ce39742de464e6f05078f559e3fa16e55e10415ae"), looks := false }, kinds := [], alts := [], laidByText := true, laidKinds := [.data, .data, .data], laidTests := true, laidLooks := .later }
def FnCarpetsUptoCardSaid : Prop := Claim7.holds Tryd.pinned (.plain (OpenSpec.upto fnCarpetsSpec)) fnCarpetsUptoCard
end Rows
end Go.Proofs.YtaniancieniccaaDoor
