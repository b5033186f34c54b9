/-
  NARROWER THAN 'FOR EVERY INPUT', by the rows' own cells (each row's printed sentence says how): HealthKeeps: laid · HealthExact: laid.
  DERIVED. THE GIVEN ROWS OF THIS SEAT. 2 by the template 'for every input the law returns true; each argument reads behind the call as it read before'; 0 by the template 'total and deterministic' (their statements: YtdgaelbehnlegaaDoorTotals.lean).
  GIVEN WITH THE SEED: the statements are not yours to turn. If you find one false, say at which input.
  Laid BY PROGRAM, IN A SANDBOX (cutbox-rows.mjs): the forced cells as the released guide's own fill.sh prints them over the translation 7830691d39ae2675… (all of the seat's roots in one cut). By AI agents, Wed Nov 11 2026. No macro, syntax, notation, axiom, sorry.
-/
import Derived.Test.YtdgaelbehnlegaaDoorChecked
import GoSem.Claim
import GoSem.ClaimJoined
import GoSem.ClaimMapViews
import Derived.JoinedTies
import Derived.KernelRfl
namespace Go.Proofs.YtdgaelbehnlegaaDoor
/- THE CELL 'sum', in the pinned program and in every row, IS THE sha256 OF THE DUMP (.gsa) THAT YtdgaelbehnlegaaDoorProg.lean LOADS. Nothing in Lean hashes anything: it is a label: what it is worth is what the hold of that sum in a sandbox is worth. -/
noncomputable def Tryd.pinned : Pinned := { name := "ytdgaelbehnlegaadoor", sum := "7830691d39ae267562f94c10c97cf1592aa8223568c68c19777fec50d693512c", checked := Tryd.checked }
namespace Rows
def none {H : Type} : Left H := { results := [], args := [] }

/- WHAT THE LISTED PACKAGE-LEVEL VARIABLES READ AS WHEN THE CALL BEGINS. Each datum BY PROGRAM (the guide's laid-datum.mjs) off the statement by which the dump's own 'gosem.cut.vars' lays the variable. In a bare row this is a premise. The card (YtdgaelbehnlegaaDoorCards.lean) ties it to the program's text. -/
def laid_bulkhead_health_nobody {H : Type} : DataW H := .agg [.lit (.int .i64 0), .lit (.int .i64 0)]
def laid_bulkhead_health_names {H : Type} : DataW H := .agg [.lit (.string []), .lit (.string [105, 108, 108, 101, 103, 97, 108]), .lit (.string [109, 101, 109, 111, 114, 121]), .lit (.string [100, 105, 118, 105, 100, 101]), .lit (.string [99, 111, 100, 101]), .lit (.string [115, 101, 114, 118, 105, 99, 101]), .lit (.string [114, 97, 105, 115, 101, 100]), .lit (.string [109, 105, 115, 115])]

/-- 'bulkheadlaw19.HealthKeeps': WHATEVER THE INPUT: true; the input reads as it did. -/
def healthKeepsSpec : ChangeSpec := { name := "healthKeeps", fn := fun _ => fun
  | [d] => { results := [.lit (.bool true)], args := [d] }
  | _ => none }
def healthKeepsRow : OpenClaim := { program := "ytdgaelbehnlegaadoor", sum := "7830691d39ae267562f94c10c97cf1592aa8223568c68c19777fec50d693512c", func := "bulkhead/bulkheadlaw19.HealthKeeps", spec := "healthKeeps", named := ["bulkhead/health.nobody", "bulkhead/health.names"], apart := false, laid := [("bulkhead/health.nobody", laid_bulkhead_health_nobody), ("bulkhead/health.names", laid_bulkhead_health_names)] }
def HealthKeepsSaid : Prop := healthKeepsRow.holds Tryd.pinned (OpenSpec.ofChange healthKeepsSpec)

/-- ITS FALSE NEIGHBOUR: 'it returns false'. Refute it at one input. -/
def healthKeepsWrong : ChangeSpec := { name := "healthKeeps", fn := fun _ => fun
  | [d] => { results := [.lit (.bool false)], args := [d] }
  | _ => none }
def HealthKeepsWrongFalsely : Prop := healthKeepsRow.holds Tryd.pinned (OpenSpec.ofChange healthKeepsWrong)

/-- 'bulkheadlaw19.HealthExact': WHATEVER THE INPUT: true; the input reads as it did. -/
def healthExactSpec : ChangeSpec := { name := "healthExact", fn := fun _ => fun
  | [d1, d2, d3] => { results := [.lit (.bool true)], args := [d1, d2, d3] }
  | _ => none }
def healthExactRow : OpenClaim := { program := "ytdgaelbehnlegaadoor", sum := "7830691d39ae267562f94c10c97cf1592aa8223568c68c19777fec50d693512c", func := "bulkhead/bulkheadlaw19.HealthExact", spec := "healthExact", named := ["bulkhead/health.nobody", "bulkhead/health.names"], apart := false, laid := [("bulkhead/health.nobody", laid_bulkhead_health_nobody), ("bulkhead/health.names", laid_bulkhead_health_names)] }
def HealthExactSaid : Prop := healthExactRow.holds Tryd.pinned (OpenSpec.ofChange healthExactSpec)

/-- ITS FALSE NEIGHBOUR: 'it returns false'. Refute it at one input. -/
def healthExactWrong : ChangeSpec := { name := "healthExact", fn := fun _ => fun
  | [d1, d2, d3] => { results := [.lit (.bool false)], args := [d1, d2, d3] }
  | _ => none }
def HealthExactWrongFalsely : Prop := healthExactRow.holds Tryd.pinned (OpenSpec.ofChange healthExactWrong)

/- THE SECOND FORM. 'bulk': how many values and letters a reading holds, each counted each time it is reached (what is shared counts as often as it is met; a slice's spare places count too). A statement '..UptoSaid' is the law's where the arguments, and the package variables that the reading takes, are together of bulk at most 1048576: NARROWER than '..Said'. Prove '..Said' where nothing that the law and all that it calls make is longer than what came in: it says more and counts as full. Else prove '..UptoSaid'. A law counts once. -/
mutual
def uptoBulk {H : Type} : DataW H → Nat
  | .lit (.string bytes) => bytes.length + 1
  | .lit _ => 1
  | .nil => 1
  | .ptr d => uptoBulk d + 1
  | .slice elems spare => uptoBulkAll elems + uptoBulkAll spare + 1
  | .agg parts => uptoBulkAll parts + 1
  | .iface _ d => uptoBulk d + 1
  | .map entries => uptoBulkEntries entries + 1
  | .held _ => 1
def uptoBulkAll {H : Type} : List (DataW H) → Nat
  | [] => 0
  | d :: r => uptoBulk d + uptoBulkAll r
def uptoBulkEntries {H : Type} : List (Lit × DataW H) → Nat
  | [] => 0
  | x :: r => uptoBulkEntry x + uptoBulkEntries r
def uptoBulkEntry {H : Type} : Lit × DataW H → Nat
  | (.string bytes, d) => bytes.length + uptoBulk d + 1
  | (_, d) => uptoBulk d + 1
 end
def uptoSmall : (H : Type) → List (DataW H) → Bool := fun _ ds => decide (uptoBulkAll ds ≤ 1048576)
def OpenSpec.upto (s : _root_.Go.ChangeSpec) : _root_.Go.OpenSpec := { _root_.Go.OpenSpec.ofChange s with cond := some uptoSmall }

/-- 'bulkheadlaw19.HealthKeeps', WHERE WHAT IT READS IS OF BULK AT MOST 1048576: true; the input reads as it did. -/
def healthKeepsUptoRow : OpenClaim := { program := "ytdgaelbehnlegaadoor", sum := "7830691d39ae267562f94c10c97cf1592aa8223568c68c19777fec50d693512c", func := "bulkhead/bulkheadlaw19.HealthKeeps", spec := "healthKeeps", named := ["bulkhead/health.nobody", "bulkhead/health.names"], apart := false, laid := [("bulkhead/health.nobody", laid_bulkhead_health_nobody), ("bulkhead/health.names", laid_bulkhead_health_names)], narrowed := true }
def HealthKeepsUptoSaid : Prop := healthKeepsUptoRow.holds Tryd.pinned (OpenSpec.upto healthKeepsSpec)

/-- 'bulkheadlaw19.HealthExact', WHERE WHAT IT READS IS OF BULK AT MOST 1048576: true; the input reads as it did. -/
def healthExactUptoRow : OpenClaim := { program := "ytdgaelbehnlegaadoor", sum := "7830691d39ae267562f94c10c97cf1592aa8223568c68c19777fec50d693512c", func := "bulkhead/bulkheadlaw19.HealthExact", spec := "healthExact", named := ["bulkhead/health.nobody", "bulkhead/health.names"], apart := false, laid := [("bulkhead/health.nobody", laid_bulkhead_health_nobody), ("bulkhead/health.names", laid_bulkhead_health_names)], narrowed := true }
def HealthExactUptoSaid : Prop := healthExactUptoRow.holds Tryd.pinned (OpenSpec.upto healthExactSpec)

end Rows
end Go.Proofs.YtdgaelbehnlegaaDoor
