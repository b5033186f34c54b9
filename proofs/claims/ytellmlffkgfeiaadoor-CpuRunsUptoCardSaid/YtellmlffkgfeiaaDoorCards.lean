/-
  DERIVED. GIVEN WITH THE SEED: THE CARDS: each row of YtellmlffkgfeiaaDoorRows.lean that lists a variable, with what it lists TIED to the program's text (the seventh form; the later family's looks); each row that meets fmt, with fmt's text TOLD by the authors' own Lean function (tested against real Go, not proved from fmt's source: count such statements apart). THE CARD IS WHAT COUNTS. Prove the row's statement (the work); the ties are given (YtellmlffkgfeiaaDoorTie.lean); close each card by the builder's one call (the guide's Derived/Test/ToyasCard.lean, 'card_holds'). Laid BY PROGRAM, IN A SANDBOX (cutbox-door.mjs). By AI agents, Wed Nov 11 2026. No macro, syntax, notation, axiom, sorry.
-/
import Derived.Test.YtellmlffkgfeiaaDoorRows
import GoSem.ClaimSeven
namespace Go.Proofs.YtellmlffkgfeiaaDoor
namespace Rows

/-- THE TIED CARD OF 'bulkheadlaw06.CpuSteps'. -/
def cpuStepsCard : Claim7 := { stood := { row := cpuStepsRow, standIns := [], harness := (true, "02e16ee9f24f303d69e1a3ca3eb92e9be592cea93f2248b03d1921f7e690fe46"), looks := false }, kinds := [], alts := [], laidByText := true, laidKinds := [.data], laidTests := true, laidLooks := .later }
def CpuStepsCardSaid : Prop := Claim7.holds Tryd.pinned (.plain (OpenSpec.ofChange cpuStepsSpec)) cpuStepsCard

/-- THE TIED CARD OF 'bulkheadlaw06.CpuReckons'. -/
def cpuReckonsCard : Claim7 := { stood := { row := cpuReckonsRow, standIns := [], harness := (true, "02e16ee9f24f303d69e1a3ca3eb92e9be592cea93f2248b03d1921f7e690fe46"), looks := false }, kinds := [], alts := [], laidByText := true, laidKinds := [.data], laidTests := true, laidLooks := .later }
def CpuReckonsCardSaid : Prop := Claim7.holds Tryd.pinned (.plain (OpenSpec.ofChange cpuReckonsSpec)) cpuReckonsCard

/-- THE TIED CARD OF 'bulkheadlaw06.CpuDivides'. -/
def cpuDividesCard : Claim7 := { stood := { row := cpuDividesRow, standIns := [], harness := (true, "02e16ee9f24f303d69e1a3ca3eb92e9be592cea93f2248b03d1921f7e690fe46"), looks := false }, kinds := [], alts := [], laidByText := true, laidKinds := [.data], laidTests := true, laidLooks := .later }
def CpuDividesCardSaid : Prop := Claim7.holds Tryd.pinned (.plain (OpenSpec.ofChange cpuDividesSpec)) cpuDividesCard

/-- THE TIED CARD OF 'bulkheadlaw06.CpuKeeps'. -/
def cpuKeepsCard : Claim7 := { stood := { row := cpuKeepsRow, standIns := [], harness := (true, "02e16ee9f24f303d69e1a3ca3eb92e9be592cea93f2248b03d1921f7e690fe46"), looks := false }, kinds := [], alts := [], laidByText := true, laidKinds := [.data], laidTests := true, laidLooks := .later }
def CpuKeepsCardSaid : Prop := Claim7.holds Tryd.pinned (.plain (OpenSpec.ofChange cpuKeepsSpec)) cpuKeepsCard

/-- THE TIED CARD OF 'bulkheadlaw06.CpuHangs'. -/
def cpuHangsCard : Claim7 := { stood := { row := cpuHangsRow, standIns := [], harness := (true, "02e16ee9f24f303d69e1a3ca3eb92e9be592cea93f2248b03d1921f7e690fe46"), looks := false }, kinds := [], alts := [], laidByText := true, laidKinds := [.data], laidTests := true, laidLooks := .later }
def CpuHangsCardSaid : Prop := Claim7.holds Tryd.pinned (.plain (OpenSpec.ofChange cpuHangsSpec)) cpuHangsCard

/-- THE TIED CARD OF 'bulkheadlaw06.CpuRuns'. -/
def cpuRunsCard : Claim7 := { stood := { row := cpuRunsRow, standIns := [], harness := (true, "02e16ee9f24f303d69e1a3ca3eb92e9be592cea93f2248b03d1921f7e690fe46"), looks := false }, kinds := [], alts := [], laidByText := true, laidKinds := [.data], laidTests := true, laidLooks := .later }
def CpuRunsCardSaid : Prop := Claim7.holds Tryd.pinned (.plain (OpenSpec.ofChange cpuRunsSpec)) cpuRunsCard

/-- THE TIED CARD OF 'bulkheadlaw06.CpuRunIsSteps'. -/
def cpuRunIsStepsCard : Claim7 := { stood := { row := cpuRunIsStepsRow, standIns := [], harness := (true, "02e16ee9f24f303d69e1a3ca3eb92e9be592cea93f2248b03d1921f7e690fe46"), looks := false }, kinds := [], alts := [], laidByText := true, laidKinds := [.data], laidTests := true, laidLooks := .later }
def CpuRunIsStepsCardSaid : Prop := Claim7.holds Tryd.pinned (.plain (OpenSpec.ofChange cpuRunIsStepsSpec)) cpuRunIsStepsCard

/-- THE SECOND FORM's CARD OF 'bulkheadlaw06.CpuSteps'. -/
def cpuStepsUptoCard : Claim7 := { stood := { row := cpuStepsUptoRow, standIns := [], harness := (true, "02e16ee9f24f303d69e1a3ca3eb92e9be592cea93f2248b03d1921f7e690fe46"), looks := false }, kinds := [], alts := [], laidByText := true, laidKinds := [.data], laidTests := true, laidLooks := .later }
def CpuStepsUptoCardSaid : Prop := Claim7.holds Tryd.pinned (.plain (OpenSpec.upto cpuStepsSpec)) cpuStepsUptoCard

/-- THE SECOND FORM's CARD OF 'bulkheadlaw06.CpuReckons'. -/
def cpuReckonsUptoCard : Claim7 := { stood := { row := cpuReckonsUptoRow, standIns := [], harness := (true, "02e16ee9f24f303d69e1a3ca3eb92e9be592cea93f2248b03d1921f7e690fe46"), looks := false }, kinds := [], alts := [], laidByText := true, laidKinds := [.data], laidTests := true, laidLooks := .later }
def CpuReckonsUptoCardSaid : Prop := Claim7.holds Tryd.pinned (.plain (OpenSpec.upto cpuReckonsSpec)) cpuReckonsUptoCard

/-- THE SECOND FORM's CARD OF 'bulkheadlaw06.CpuDivides'. -/
def cpuDividesUptoCard : Claim7 := { stood := { row := cpuDividesUptoRow, standIns := [], harness := (true, "02e16ee9f24f303d69e1a3ca3eb92e9be592cea93f2248b03d1921f7e690fe46"), looks := false }, kinds := [], alts := [], laidByText := true, laidKinds := [.data], laidTests := true, laidLooks := .later }
def CpuDividesUptoCardSaid : Prop := Claim7.holds Tryd.pinned (.plain (OpenSpec.upto cpuDividesSpec)) cpuDividesUptoCard

/-- THE SECOND FORM's CARD OF 'bulkheadlaw06.CpuKeeps'. -/
def cpuKeepsUptoCard : Claim7 := { stood := { row := cpuKeepsUptoRow, standIns := [], harness := (true, "02e16ee9f24f303d69e1a3ca3eb92e9be592cea93f2248b03d1921f7e690fe46"), looks := false }, kinds := [], alts := [], laidByText := true, laidKinds := [.data], laidTests := true, laidLooks := .later }
def CpuKeepsUptoCardSaid : Prop := Claim7.holds Tryd.pinned (.plain (OpenSpec.upto cpuKeepsSpec)) cpuKeepsUptoCard

/-- THE SECOND FORM's CARD OF 'bulkheadlaw06.CpuHangs'. -/
def cpuHangsUptoCard : Claim7 := { stood := { row := cpuHangsUptoRow, standIns := [], harness := (true, "02e16ee9f24f303d69e1a3ca3eb92e9be592cea93f2248b03d1921f7e690fe46"), looks := false }, kinds := [], alts := [], laidByText := true, laidKinds := [.data], laidTests := true, laidLooks := .later }
def CpuHangsUptoCardSaid : Prop := Claim7.holds Tryd.pinned (.plain (OpenSpec.upto cpuHangsSpec)) cpuHangsUptoCard

/-- THE SECOND FORM's CARD OF 'bulkheadlaw06.CpuRuns'. -/
def cpuRunsUptoCard : Claim7 := { stood := { row := cpuRunsUptoRow, standIns := [], harness := (true, "02e16ee9f24f303d69e1a3ca3eb92e9be592cea93f2248b03d1921f7e690fe46"), looks := false }, kinds := [], alts := [], laidByText := true, laidKinds := [.data], laidTests := true, laidLooks := .later }
def CpuRunsUptoCardSaid : Prop := Claim7.holds Tryd.pinned (.plain (OpenSpec.upto cpuRunsSpec)) cpuRunsUptoCard

/-- THE SECOND FORM's CARD OF 'bulkheadlaw06.CpuRunIsSteps'. -/
def cpuRunIsStepsUptoCard : Claim7 := { stood := { row := cpuRunIsStepsUptoRow, standIns := [], harness := (true, "02e16ee9f24f303d69e1a3ca3eb92e9be592cea93f2248b03d1921f7e690fe46"), looks := false }, kinds := [], alts := [], laidByText := true, laidKinds := [.data], laidTests := true, laidLooks := .later }
def CpuRunIsStepsUptoCardSaid : Prop := Claim7.holds Tryd.pinned (.plain (OpenSpec.upto cpuRunIsStepsSpec)) cpuRunIsStepsUptoCard
end Rows
end Go.Proofs.YtellmlffkgfeiaaDoor
