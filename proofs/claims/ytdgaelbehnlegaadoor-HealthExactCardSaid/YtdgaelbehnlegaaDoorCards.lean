/-
  DERIVED. GIVEN WITH THE SEED: THE CARDS: each row of YtdgaelbehnlegaaDoorRows.lean that lists a variable, with what it lists TIED to the program's text (the seventh form; the later family's looks); each row that meets fmt, with fmt's text TOLD by the authors' own Lean function (tested against real Go, not proved from fmt's source: count such statements apart). THE CARD IS WHAT COUNTS. Prove the row's statement (the work); the ties are given (YtdgaelbehnlegaaDoorTie.lean); close each card by the builder's one call (the guide's Derived/Test/ToyasCard.lean, 'card_holds'). Laid BY PROGRAM, IN A SANDBOX (cutbox-door.mjs). By AI agents, Wed Nov 11 2026. No macro, syntax, notation, axiom, sorry.
-/
import Derived.Test.YtdgaelbehnlegaaDoorRows
import GoSem.ClaimSeven
namespace Go.Proofs.YtdgaelbehnlegaaDoor
namespace Rows

/-- THE TIED CARD OF 'bulkheadlaw19.HealthKeeps'. -/
def healthKeepsCard : Claim7 := { stood := { row := healthKeepsRow, standIns := [], harness := (true, "afc6467e991f8171b85e749ceeb51e5a19cfa222656878a24d36bf9d1181db17"), looks := false }, kinds := [], alts := [], laidByText := true, laidKinds := [.data, .data], laidTests := true, laidLooks := .later }
def HealthKeepsCardSaid : Prop := Claim7.holds Tryd.pinned (.plain (OpenSpec.ofChange healthKeepsSpec)) healthKeepsCard

/-- THE TIED CARD OF 'bulkheadlaw19.HealthExact'. -/
def healthExactCard : Claim7 := { stood := { row := healthExactRow, standIns := [], harness := (true, "afc6467e991f8171b85e749ceeb51e5a19cfa222656878a24d36bf9d1181db17"), looks := false }, kinds := [], alts := [], laidByText := true, laidKinds := [.data, .data], laidTests := true, laidLooks := .later }
def HealthExactCardSaid : Prop := Claim7.holds Tryd.pinned (.plain (OpenSpec.ofChange healthExactSpec)) healthExactCard

/-- THE SECOND FORM's CARD OF 'bulkheadlaw19.HealthKeeps'. -/
def healthKeepsUptoCard : Claim7 := { stood := { row := healthKeepsUptoRow, standIns := [], harness := (true, "afc6467e991f8171b85e749ceeb51e5a19cfa222656878a24d36bf9d1181db17"), looks := false }, kinds := [], alts := [], laidByText := true, laidKinds := [.data, .data], laidTests := true, laidLooks := .later }
def HealthKeepsUptoCardSaid : Prop := Claim7.holds Tryd.pinned (.plain (OpenSpec.upto healthKeepsSpec)) healthKeepsUptoCard

/-- THE SECOND FORM's CARD OF 'bulkheadlaw19.HealthExact'. -/
def healthExactUptoCard : Claim7 := { stood := { row := healthExactUptoRow, standIns := [], harness := (true, "afc6467e991f8171b85e749ceeb51e5a19cfa222656878a24d36bf9d1181db17"), looks := false }, kinds := [], alts := [], laidByText := true, laidKinds := [.data, .data], laidTests := true, laidLooks := .later }
def HealthExactUptoCardSaid : Prop := Claim7.holds Tryd.pinned (.plain (OpenSpec.upto healthExactSpec)) healthExactUptoCard
end Rows
end Go.Proofs.YtdgaelbehnlegaaDoor
