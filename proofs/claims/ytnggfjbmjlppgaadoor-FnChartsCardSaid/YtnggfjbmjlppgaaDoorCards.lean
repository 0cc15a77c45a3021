/-
  DERIVED. GIVEN WITH THE SEED: THE CARDS: each row of YtnggfjbmjlppgaaDoorRows.lean that lists a variable, with what it lists TIED to the program's text (the seventh form; the later family's looks); each row that meets fmt, with fmt's text TOLD by the authors' own Lean function (tested against real Go, not proved from fmt's source: count such statements apart). THE CARD IS WHAT COUNTS. Prove the row's statement (the work); the ties are given (YtnggfjbmjlppgaaDoorTie.lean); close each card by the builder's one call (the guide's Derived/Test/ToyasCard.lean, 'card_holds'). Laid BY PROGRAM, IN A SANDBOX (cutbox-door.mjs). By AI agents, Wed Nov 11 2026. No macro, syntax, notation, axiom, sorry.
-/
import Derived.Test.YtnggfjbmjlppgaaDoorRows
import GoSem.ClaimSeven
namespace Go.Proofs.YtnggfjbmjlppgaaDoor
namespace Rows

/-- THE TIED CARD OF 'laws.FnCharts'. -/
def fnChartsCard : Claim7 := { stood := { row := fnChartsRow, standIns := [], harness := (true, "8d777ab51bd9f39efbdd805f33e95791ec31fa78123f20794256488354ac6663"), looks := false }, kinds := [], alts := [], laidByText := true, laidKinds := [.data, .pinned], laidTests := true, laidLooks := .later }
def FnChartsCardSaid : Prop := Claim7.holds Tryd.pinned (.plain (OpenSpec.ofChange fnChartsSpec)) fnChartsCard

/-- THE SECOND FORM's CARD OF 'laws.FnCharts'. -/
def fnChartsUptoCard : Claim7 := { stood := { row := fnChartsUptoRow, standIns := [], harness := (true, "8d777ab51bd9f39efbdd805f33e95791ec31fa78123f20794256488354ac6663"), looks := false }, kinds := [], alts := [], laidByText := true, laidKinds := [.data, .pinned], laidTests := true, laidLooks := .later }
def FnChartsUptoCardSaid : Prop := Claim7.holds Tryd.pinned (.plain (OpenSpec.upto fnChartsSpec)) fnChartsUptoCard
end Rows
end Go.Proofs.YtnggfjbmjlppgaaDoor
