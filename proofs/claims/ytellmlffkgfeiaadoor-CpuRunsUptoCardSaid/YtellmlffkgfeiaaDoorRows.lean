/-
  NARROWER THAN 'FOR EVERY INPUT', by the rows' own cells (each row's printed sentence says how): CpuSteps: laid · CpuReckons: laid · CpuDivides: laid · CpuKeeps: laid · CpuHangs: laid · CpuRuns: laid · CpuRunIsSteps: laid.
  DERIVED. THE GIVEN ROWS OF THIS SEAT. 7 by the template 'for every input the law returns true; each argument reads behind the call as it read before'; 0 by the template 'total and deterministic' (their statements: YtellmlffkgfeiaaDoorTotals.lean).
  GIVEN WITH THE SEED: the statements are not yours to turn. If you find one false, say at which input.
  Laid BY PROGRAM, IN A SANDBOX (cutbox-rows.mjs): the forced cells as the released guide's own fill.sh prints them over the translation d6a1254fbd1b9309… (all of the seat's roots in one cut). By AI agents, Wed Nov 11 2026. No macro, syntax, notation, axiom, sorry.
-/
import Derived.Test.YtellmlffkgfeiaaDoorChecked
import GoSem.Claim
import GoSem.ClaimJoined
import GoSem.ClaimMapViews
import Derived.JoinedTies
import Derived.KernelRfl
namespace Go.Proofs.YtellmlffkgfeiaaDoor
/- THE CELL 'sum', in the pinned program and in every row, IS THE sha256 OF THE DUMP (.gsa) THAT YtellmlffkgfeiaaDoorProg.lean LOADS. Nothing in Lean hashes anything: it is a label: what it is worth is what the hold of that sum in a sandbox is worth. -/
noncomputable def Tryd.pinned : Pinned := { name := "ytellmlffkgfeiaadoor", sum := "d6a1254fbd1b9309f9ec9cd0d898588811d99b058a38062d1a230e0253c3f4b2", checked := Tryd.checked }
namespace Rows
def none {H : Type} : Left H := { results := [], args := [] }

/- WHAT THE LISTED PACKAGE-LEVEL VARIABLES READ AS WHEN THE CALL BEGINS. Each datum BY PROGRAM (the guide's laid-datum.mjs) off the statement by which the dump's own 'gosem.cut.vars' lays the variable. In a bare row this is a premise. The card (YtellmlffkgfeiaaDoorCards.lean) ties it to the program's text. -/
def laid_bulkhead_isa_operations {H : Type} : DataW H := .agg [.agg [.lit (.string []), .lit (.string [])], .agg [.lit (.string [110, 111, 112]), .lit (.string [])], .agg [.lit (.string [108, 100, 105]), .lit (.string [97, 110])], .agg [.lit (.string [108, 100, 104]), .lit (.string [97, 110])], .agg [.lit (.string [109, 111, 118]), .lit (.string [97, 98])], .agg [.lit (.string [108, 100]), .lit (.string [97, 98, 110])], .agg [.lit (.string [115, 116]), .lit (.string [97, 98, 110])], .agg [.lit (.string [97, 100, 100]), .lit (.string [97, 98, 99])], .agg [.lit (.string [115, 117, 98]), .lit (.string [97, 98, 99])], .agg [.lit (.string [109, 117, 108]), .lit (.string [97, 98, 99])], .agg [.lit (.string [100, 105, 118]), .lit (.string [97, 98, 99])], .agg [.lit (.string [109, 111, 100]), .lit (.string [97, 98, 99])], .agg [.lit (.string [97, 110, 100]), .lit (.string [97, 98, 99])], .agg [.lit (.string [111, 114]), .lit (.string [97, 98, 99])], .agg [.lit (.string [120, 111, 114]), .lit (.string [97, 98, 99])], .agg [.lit (.string [115, 104, 108]), .lit (.string [97, 98, 99])], .agg [.lit (.string [115, 104, 114]), .lit (.string [97, 98, 99])], .agg [.lit (.string [115, 97, 114]), .lit (.string [97, 98, 99])], .agg [.lit (.string [97, 100, 100, 105]), .lit (.string [97, 98, 110])], .agg [.lit (.string [115, 108, 116]), .lit (.string [97, 98, 99])], .agg [.lit (.string [115, 108, 116, 117]), .lit (.string [97, 98, 99])], .agg [.lit (.string [115, 101, 113]), .lit (.string [97, 98, 99])], .agg [.lit (.string [106, 109, 112]), .lit (.string [112])], .agg [.lit (.string [106, 122]), .lit (.string [97, 112])], .agg [.lit (.string [106, 110, 122]), .lit (.string [97, 112])], .agg [.lit (.string [106, 109, 114]), .lit (.string [97])], .agg [.lit (.string [99, 97, 108, 108]), .lit (.string [112])], .agg [.lit (.string [115, 121, 115]), .lit (.string [110])]]

/-- 'bulkheadlaw06.CpuSteps': WHATEVER THE INPUT: true; the input reads as it did. -/
def cpuStepsSpec : ChangeSpec := { name := "cpuSteps", fn := fun _ => fun
  | [d] => { results := [.lit (.bool true)], args := [d] }
  | _ => none }
def cpuStepsRow : OpenClaim := { program := "ytellmlffkgfeiaadoor", sum := "d6a1254fbd1b9309f9ec9cd0d898588811d99b058a38062d1a230e0253c3f4b2", func := "bulkhead/bulkheadlaw06.CpuSteps", spec := "cpuSteps", unfollowed := true, recurses := true, named := ["bulkhead/isa.operations"], apart := false, laid := [("bulkhead/isa.operations", laid_bulkhead_isa_operations)] }
def CpuStepsSaid : Prop := cpuStepsRow.holds Tryd.pinned (OpenSpec.ofChange cpuStepsSpec)

/-- ITS FALSE NEIGHBOUR: 'it returns false'. Refute it at one input. -/
def cpuStepsWrong : ChangeSpec := { name := "cpuSteps", fn := fun _ => fun
  | [d] => { results := [.lit (.bool false)], args := [d] }
  | _ => none }
def CpuStepsWrongFalsely : Prop := cpuStepsRow.holds Tryd.pinned (OpenSpec.ofChange cpuStepsWrong)

/-- 'bulkheadlaw06.CpuReckons': WHATEVER THE INPUT: true; the input reads as it did. -/
def cpuReckonsSpec : ChangeSpec := { name := "cpuReckons", fn := fun _ => fun
  | [d1, d2, d3] => { results := [.lit (.bool true)], args := [d1, d2, d3] }
  | _ => none }
def cpuReckonsRow : OpenClaim := { program := "ytellmlffkgfeiaadoor", sum := "d6a1254fbd1b9309f9ec9cd0d898588811d99b058a38062d1a230e0253c3f4b2", func := "bulkhead/bulkheadlaw06.CpuReckons", spec := "cpuReckons", unfollowed := true, recurses := true, named := ["bulkhead/isa.operations"], apart := false, laid := [("bulkhead/isa.operations", laid_bulkhead_isa_operations)] }
def CpuReckonsSaid : Prop := cpuReckonsRow.holds Tryd.pinned (OpenSpec.ofChange cpuReckonsSpec)

/-- ITS FALSE NEIGHBOUR: 'it returns false'. Refute it at one input. -/
def cpuReckonsWrong : ChangeSpec := { name := "cpuReckons", fn := fun _ => fun
  | [d1, d2, d3] => { results := [.lit (.bool false)], args := [d1, d2, d3] }
  | _ => none }
def CpuReckonsWrongFalsely : Prop := cpuReckonsRow.holds Tryd.pinned (OpenSpec.ofChange cpuReckonsWrong)

/-- 'bulkheadlaw06.CpuDivides': WHATEVER THE INPUT: true; the input reads as it did. -/
def cpuDividesSpec : ChangeSpec := { name := "cpuDivides", fn := fun _ => fun
  | [d1, d2] => { results := [.lit (.bool true)], args := [d1, d2] }
  | _ => none }
def cpuDividesRow : OpenClaim := { program := "ytellmlffkgfeiaadoor", sum := "d6a1254fbd1b9309f9ec9cd0d898588811d99b058a38062d1a230e0253c3f4b2", func := "bulkhead/bulkheadlaw06.CpuDivides", spec := "cpuDivides", unfollowed := true, recurses := true, named := ["bulkhead/isa.operations"], apart := false, laid := [("bulkhead/isa.operations", laid_bulkhead_isa_operations)] }
def CpuDividesSaid : Prop := cpuDividesRow.holds Tryd.pinned (OpenSpec.ofChange cpuDividesSpec)

/-- ITS FALSE NEIGHBOUR: 'it returns false'. Refute it at one input. -/
def cpuDividesWrong : ChangeSpec := { name := "cpuDivides", fn := fun _ => fun
  | [d1, d2] => { results := [.lit (.bool false)], args := [d1, d2] }
  | _ => none }
def CpuDividesWrongFalsely : Prop := cpuDividesRow.holds Tryd.pinned (OpenSpec.ofChange cpuDividesWrong)

/-- 'bulkheadlaw06.CpuKeeps': WHATEVER THE INPUT: true; the input reads as it did. -/
def cpuKeepsSpec : ChangeSpec := { name := "cpuKeeps", fn := fun _ => fun
  | [d] => { results := [.lit (.bool true)], args := [d] }
  | _ => none }
def cpuKeepsRow : OpenClaim := { program := "ytellmlffkgfeiaadoor", sum := "d6a1254fbd1b9309f9ec9cd0d898588811d99b058a38062d1a230e0253c3f4b2", func := "bulkhead/bulkheadlaw06.CpuKeeps", spec := "cpuKeeps", unfollowed := true, recurses := true, named := ["bulkhead/isa.operations"], apart := false, laid := [("bulkhead/isa.operations", laid_bulkhead_isa_operations)] }
def CpuKeepsSaid : Prop := cpuKeepsRow.holds Tryd.pinned (OpenSpec.ofChange cpuKeepsSpec)

/-- ITS FALSE NEIGHBOUR: 'it returns false'. Refute it at one input. -/
def cpuKeepsWrong : ChangeSpec := { name := "cpuKeeps", fn := fun _ => fun
  | [d] => { results := [.lit (.bool false)], args := [d] }
  | _ => none }
def CpuKeepsWrongFalsely : Prop := cpuKeepsRow.holds Tryd.pinned (OpenSpec.ofChange cpuKeepsWrong)

/-- 'bulkheadlaw06.CpuHangs': WHATEVER THE INPUT: true; the input reads as it did. -/
def cpuHangsSpec : ChangeSpec := { name := "cpuHangs", fn := fun _ => fun
  | [d1, d2, d3] => { results := [.lit (.bool true)], args := [d1, d2, d3] }
  | _ => none }
def cpuHangsRow : OpenClaim := { program := "ytellmlffkgfeiaadoor", sum := "d6a1254fbd1b9309f9ec9cd0d898588811d99b058a38062d1a230e0253c3f4b2", func := "bulkhead/bulkheadlaw06.CpuHangs", spec := "cpuHangs", unfollowed := true, recurses := true, named := ["bulkhead/isa.operations"], apart := false, laid := [("bulkhead/isa.operations", laid_bulkhead_isa_operations)] }
def CpuHangsSaid : Prop := cpuHangsRow.holds Tryd.pinned (OpenSpec.ofChange cpuHangsSpec)

/-- ITS FALSE NEIGHBOUR: 'it returns false'. Refute it at one input. -/
def cpuHangsWrong : ChangeSpec := { name := "cpuHangs", fn := fun _ => fun
  | [d1, d2, d3] => { results := [.lit (.bool false)], args := [d1, d2, d3] }
  | _ => none }
def CpuHangsWrongFalsely : Prop := cpuHangsRow.holds Tryd.pinned (OpenSpec.ofChange cpuHangsWrong)

/-- 'bulkheadlaw06.CpuRuns': WHATEVER THE INPUT: true; the input reads as it did. -/
def cpuRunsSpec : ChangeSpec := { name := "cpuRuns", fn := fun _ => fun
  | [d1, d2] => { results := [.lit (.bool true)], args := [d1, d2] }
  | _ => none }
def cpuRunsRow : OpenClaim := { program := "ytellmlffkgfeiaadoor", sum := "d6a1254fbd1b9309f9ec9cd0d898588811d99b058a38062d1a230e0253c3f4b2", func := "bulkhead/bulkheadlaw06.CpuRuns", spec := "cpuRuns", unfollowed := true, recurses := true, named := ["bulkhead/isa.operations"], apart := false, laid := [("bulkhead/isa.operations", laid_bulkhead_isa_operations)] }
def CpuRunsSaid : Prop := cpuRunsRow.holds Tryd.pinned (OpenSpec.ofChange cpuRunsSpec)

/-- ITS FALSE NEIGHBOUR: 'it returns false'. Refute it at one input. -/
def cpuRunsWrong : ChangeSpec := { name := "cpuRuns", fn := fun _ => fun
  | [d1, d2] => { results := [.lit (.bool false)], args := [d1, d2] }
  | _ => none }
def CpuRunsWrongFalsely : Prop := cpuRunsRow.holds Tryd.pinned (OpenSpec.ofChange cpuRunsWrong)

/-- 'bulkheadlaw06.CpuRunIsSteps': WHATEVER THE INPUT: true; the input reads as it did. -/
def cpuRunIsStepsSpec : ChangeSpec := { name := "cpuRunIsSteps", fn := fun _ => fun
  | [d1, d2, d3] => { results := [.lit (.bool true)], args := [d1, d2, d3] }
  | _ => none }
def cpuRunIsStepsRow : OpenClaim := { program := "ytellmlffkgfeiaadoor", sum := "d6a1254fbd1b9309f9ec9cd0d898588811d99b058a38062d1a230e0253c3f4b2", func := "bulkhead/bulkheadlaw06.CpuRunIsSteps", spec := "cpuRunIsSteps", unfollowed := true, recurses := true, named := ["bulkhead/isa.operations"], apart := false, laid := [("bulkhead/isa.operations", laid_bulkhead_isa_operations)] }
def CpuRunIsStepsSaid : Prop := cpuRunIsStepsRow.holds Tryd.pinned (OpenSpec.ofChange cpuRunIsStepsSpec)

/-- ITS FALSE NEIGHBOUR: 'it returns false'. Refute it at one input. -/
def cpuRunIsStepsWrong : ChangeSpec := { name := "cpuRunIsSteps", fn := fun _ => fun
  | [d1, d2, d3] => { results := [.lit (.bool false)], args := [d1, d2, d3] }
  | _ => none }
def CpuRunIsStepsWrongFalsely : Prop := cpuRunIsStepsRow.holds Tryd.pinned (OpenSpec.ofChange cpuRunIsStepsWrong)

/- THE SECOND FORM. 'bulk': how many values and letters a reading holds, each counted each time it is reached (what is shared counts as often as it is met; a slice's spare places count too). A statement '..UptoSaid' is the law's where the arguments, and the package variables that the reading takes, are together of bulk at most 1048576: NARROWER than '..Said'. Prove '..Said' where nothing that the law and all that it calls make is longer than what came in: it says more and counts as full. Else prove '..UptoSaid'. A law counts once. -/
mutual
def uptoBulk {H : Type} : DataW H → Nat
  | .lit (.string bytes) => bytes.length + 1
  | .lit _ => 1
  | .nil => 1
  | .ptr d => uptoBulk d + 1
  | .slice elems spare => uptoBulkAll elems + uptoBulkAll spare + 1
  | .agg parts => uptoBulkAll parts + 1
  | .iface _ d => uptoBulk d + 1
  | .map entries => uptoBulkEntries entries + 1
  | .held _ => 1
def uptoBulkAll {H : Type} : List (DataW H) → Nat
  | [] => 0
  | d :: r => uptoBulk d + uptoBulkAll r
def uptoBulkEntries {H : Type} : List (Lit × DataW H) → Nat
  | [] => 0
  | x :: r => uptoBulkEntry x + uptoBulkEntries r
def uptoBulkEntry {H : Type} : Lit × DataW H → Nat
  | (.string bytes, d) => bytes.length + uptoBulk d + 1
  | (_, d) => uptoBulk d + 1
 end
def uptoSmall : (H : Type) → List (DataW H) → Bool := fun _ ds => decide (uptoBulkAll ds ≤ 1048576)
def OpenSpec.upto (s : _root_.Go.ChangeSpec) : _root_.Go.OpenSpec := { _root_.Go.OpenSpec.ofChange s with cond := some uptoSmall }

/-- 'bulkheadlaw06.CpuSteps', WHERE WHAT IT READS IS OF BULK AT MOST 1048576: true; the input reads as it did. -/
def cpuStepsUptoRow : OpenClaim := { program := "ytellmlffkgfeiaadoor", sum := "d6a1254fbd1b9309f9ec9cd0d898588811d99b058a38062d1a230e0253c3f4b2", func := "bulkhead/bulkheadlaw06.CpuSteps", spec := "cpuSteps", unfollowed := true, recurses := true, named := ["bulkhead/isa.operations"], apart := false, laid := [("bulkhead/isa.operations", laid_bulkhead_isa_operations)], narrowed := true }
def CpuStepsUptoSaid : Prop := cpuStepsUptoRow.holds Tryd.pinned (OpenSpec.upto cpuStepsSpec)

/-- 'bulkheadlaw06.CpuReckons', WHERE WHAT IT READS IS OF BULK AT MOST 1048576: true; the input reads as it did. -/
def cpuReckonsUptoRow : OpenClaim := { program := "ytellmlffkgfeiaadoor", sum := "d6a1254fbd1b9309f9ec9cd0d898588811d99b058a38062d1a230e0253c3f4b2", func := "bulkhead/bulkheadlaw06.CpuReckons", spec := "cpuReckons", unfollowed := true, recurses := true, named := ["bulkhead/isa.operations"], apart := false, laid := [("bulkhead/isa.operations", laid_bulkhead_isa_operations)], narrowed := true }
def CpuReckonsUptoSaid : Prop := cpuReckonsUptoRow.holds Tryd.pinned (OpenSpec.upto cpuReckonsSpec)

/-- 'bulkheadlaw06.CpuDivides', WHERE WHAT IT READS IS OF BULK AT MOST 1048576: true; the input reads as it did. -/
def cpuDividesUptoRow : OpenClaim := { program := "ytellmlffkgfeiaadoor", sum := "d6a1254fbd1b9309f9ec9cd0d898588811d99b058a38062d1a230e0253c3f4b2", func := "bulkhead/bulkheadlaw06.CpuDivides", spec := "cpuDivides", unfollowed := true, recurses := true, named := ["bulkhead/isa.operations"], apart := false, laid := [("bulkhead/isa.operations", laid_bulkhead_isa_operations)], narrowed := true }
def CpuDividesUptoSaid : Prop := cpuDividesUptoRow.holds Tryd.pinned (OpenSpec.upto cpuDividesSpec)

/-- 'bulkheadlaw06.CpuKeeps', WHERE WHAT IT READS IS OF BULK AT MOST 1048576: true; the input reads as it did. -/
def cpuKeepsUptoRow : OpenClaim := { program := "ytellmlffkgfeiaadoor", sum := "d6a1254fbd1b9309f9ec9cd0d898588811d99b058a38062d1a230e0253c3f4b2", func := "bulkhead/bulkheadlaw06.CpuKeeps", spec := "cpuKeeps", unfollowed := true, recurses := true, named := ["bulkhead/isa.operations"], apart := false, laid := [("bulkhead/isa.operations", laid_bulkhead_isa_operations)], narrowed := true }
def CpuKeepsUptoSaid : Prop := cpuKeepsUptoRow.holds Tryd.pinned (OpenSpec.upto cpuKeepsSpec)

/-- 'bulkheadlaw06.CpuHangs', WHERE WHAT IT READS IS OF BULK AT MOST 1048576: true; the input reads as it did. -/
def cpuHangsUptoRow : OpenClaim := { program := "ytellmlffkgfeiaadoor", sum := "d6a1254fbd1b9309f9ec9cd0d898588811d99b058a38062d1a230e0253c3f4b2", func := "bulkhead/bulkheadlaw06.CpuHangs", spec := "cpuHangs", unfollowed := true, recurses := true, named := ["bulkhead/isa.operations"], apart := false, laid := [("bulkhead/isa.operations", laid_bulkhead_isa_operations)], narrowed := true }
def CpuHangsUptoSaid : Prop := cpuHangsUptoRow.holds Tryd.pinned (OpenSpec.upto cpuHangsSpec)

/-- 'bulkheadlaw06.CpuRuns', WHERE WHAT IT READS IS OF BULK AT MOST 1048576: true; the input reads as it did. -/
def cpuRunsUptoRow : OpenClaim := { program := "ytellmlffkgfeiaadoor", sum := "d6a1254fbd1b9309f9ec9cd0d898588811d99b058a38062d1a230e0253c3f4b2", func := "bulkhead/bulkheadlaw06.CpuRuns", spec := "cpuRuns", unfollowed := true, recurses := true, named := ["bulkhead/isa.operations"], apart := false, laid := [("bulkhead/isa.operations", laid_bulkhead_isa_operations)], narrowed := true }
def CpuRunsUptoSaid : Prop := cpuRunsUptoRow.holds Tryd.pinned (OpenSpec.upto cpuRunsSpec)

/-- 'bulkheadlaw06.CpuRunIsSteps', WHERE WHAT IT READS IS OF BULK AT MOST 1048576: true; the input reads as it did. -/
def cpuRunIsStepsUptoRow : OpenClaim := { program := "ytellmlffkgfeiaadoor", sum := "d6a1254fbd1b9309f9ec9cd0d898588811d99b058a38062d1a230e0253c3f4b2", func := "bulkhead/bulkheadlaw06.CpuRunIsSteps", spec := "cpuRunIsSteps", unfollowed := true, recurses := true, named := ["bulkhead/isa.operations"], apart := false, laid := [("bulkhead/isa.operations", laid_bulkhead_isa_operations)], narrowed := true }
def CpuRunIsStepsUptoSaid : Prop := cpuRunIsStepsUptoRow.holds Tryd.pinned (OpenSpec.upto cpuRunIsStepsSpec)

end Rows
end Go.Proofs.YtellmlffkgfeiaaDoor
