/-
  No cell of these rows narrows 'for every input' (looked for: loops, veiled, ifaces, maps, wideKeys, modest, calm, conditions, laid).
  DERIVED. THE GIVEN ROWS OF THIS SEAT. 3 by the template 'for every input the law returns true; each argument reads behind the call as it read before'; 0 by the template 'total and deterministic' (their statements: YtifieahnnklgcaaTotals.lean).
  GIVEN WITH THE SEED: the statements are not yours to turn. If you find one false, say at which input.
  Laid BY PROGRAM, IN A SANDBOX (cutbox-rows.mjs): the forced cells as the released guide's own fill.sh prints them over the translation 8ae25633a39351bb… (all of the seat's roots in one cut). By AI agents, Wed Nov 11 2026. No macro, syntax, notation, axiom, sorry.
-/
import Derived.Test.YtifieahnnklgcaaChecked
import GoSem.Claim
import GoSem.ClaimJoined
import GoSem.ClaimMapViews
import Derived.JoinedTies
import Derived.KernelRfl
namespace Go.Proofs.Ytifieahnnklgcaa
/- THE CELL 'sum', in the pinned program and in every row, IS THE sha256 OF THE DUMP (.gsa) THAT YtifieahnnklgcaaProg.lean LOADS. Nothing in Lean hashes anything: it is a label: what it is worth is what the hold of that sum in a sandbox is worth. -/
noncomputable def Try.pinned : Pinned := { name := "ytifieahnnklgcaa", sum := "8ae25633a39351bb8f3828956134bfad55ff2c1a5904317f5d705c7b1c9d9832", checked := Try.checked }
namespace Rows
def none {H : Type} : Left H := { results := [], args := [] }

/-- 'bulkheadlaw16.ObjectsLoad': WHATEVER THE INPUT: true; the input reads as it did. -/
def objectsLoadSpec : ChangeSpec := { name := "objectsLoad", fn := fun _ => fun
  | [d1, d2] => { results := [.lit (.bool true)], args := [d1, d2] }
  | _ => none }
def objectsLoadRow : OpenClaim := { program := "ytifieahnnklgcaa", sum := "8ae25633a39351bb8f3828956134bfad55ff2c1a5904317f5d705c7b1c9d9832", func := "bulkhead/bulkheadlaw16.ObjectsLoad", spec := "objectsLoad", apart := false }
def ObjectsLoadSaid : Prop := objectsLoadRow.holds Try.pinned (OpenSpec.ofChange objectsLoadSpec)

/-- ITS FALSE NEIGHBOUR: 'it returns false'. Refute it at one input. -/
def objectsLoadWrong : ChangeSpec := { name := "objectsLoad", fn := fun _ => fun
  | [d1, d2] => { results := [.lit (.bool false)], args := [d1, d2] }
  | _ => none }
def ObjectsLoadWrongFalsely : Prop := objectsLoadRow.holds Try.pinned (OpenSpec.ofChange objectsLoadWrong)

/-- 'bulkheadlaw16.ObjectsFlow': WHATEVER THE INPUT: true; the input reads as it did. -/
def objectsFlowSpec : ChangeSpec := { name := "objectsFlow", fn := fun _ => fun
  | [d1, d2, d3, d4, d5] => { results := [.lit (.bool true)], args := [d1, d2, d3, d4, d5] }
  | _ => none }
def objectsFlowRow : OpenClaim := { program := "ytifieahnnklgcaa", sum := "8ae25633a39351bb8f3828956134bfad55ff2c1a5904317f5d705c7b1c9d9832", func := "bulkhead/bulkheadlaw16.ObjectsFlow", spec := "objectsFlow", apart := false }
def ObjectsFlowSaid : Prop := objectsFlowRow.holds Try.pinned (OpenSpec.ofChange objectsFlowSpec)

/-- ITS FALSE NEIGHBOUR: 'it returns false'. Refute it at one input. -/
def objectsFlowWrong : ChangeSpec := { name := "objectsFlow", fn := fun _ => fun
  | [d1, d2, d3, d4, d5] => { results := [.lit (.bool false)], args := [d1, d2, d3, d4, d5] }
  | _ => none }
def ObjectsFlowWrongFalsely : Prop := objectsFlowRow.holds Try.pinned (OpenSpec.ofChange objectsFlowWrong)

/-- 'bulkheadlaw16.ObjectsExact': WHATEVER THE INPUT: true; the input reads as it did. -/
def objectsExactSpec : ChangeSpec := { name := "objectsExact", fn := fun _ => fun
  | [d1, d2] => { results := [.lit (.bool true)], args := [d1, d2] }
  | _ => none }
def objectsExactRow : OpenClaim := { program := "ytifieahnnklgcaa", sum := "8ae25633a39351bb8f3828956134bfad55ff2c1a5904317f5d705c7b1c9d9832", func := "bulkhead/bulkheadlaw16.ObjectsExact", spec := "objectsExact", apart := false }
def ObjectsExactSaid : Prop := objectsExactRow.holds Try.pinned (OpenSpec.ofChange objectsExactSpec)

/-- ITS FALSE NEIGHBOUR: 'it returns false'. Refute it at one input. -/
def objectsExactWrong : ChangeSpec := { name := "objectsExact", fn := fun _ => fun
  | [d1, d2] => { results := [.lit (.bool false)], args := [d1, d2] }
  | _ => none }
def ObjectsExactWrongFalsely : Prop := objectsExactRow.holds Try.pinned (OpenSpec.ofChange objectsExactWrong)

/- THE SECOND FORM. 'bulk': how many values and letters a reading holds, each counted each time it is reached (what is shared counts as often as it is met; a slice's spare places count too). A statement '..UptoSaid' is the law's where the arguments, and the package variables that the reading takes, are together of bulk at most 1048576: NARROWER than '..Said'. Prove '..Said' where nothing that the law and all that it calls make is longer than what came in: it says more and counts as full. Else prove '..UptoSaid'. A law counts once. -/
mutual
def uptoBulk {H : Type} : DataW H → Nat
  | .lit (.string bytes) => bytes.length + 1
  | .lit _ => 1
  | .nil => 1
  | .ptr d => uptoBulk d + 1
  | .slice elems spare => uptoBulkAll elems + uptoBulkAll spare + 1
  | .agg parts => uptoBulkAll parts + 1
  | .iface _ d => uptoBulk d + 1
  | .map entries => uptoBulkEntries entries + 1
  | .held _ => 1
def uptoBulkAll {H : Type} : List (DataW H) → Nat
  | [] => 0
  | d :: r => uptoBulk d + uptoBulkAll r
def uptoBulkEntries {H : Type} : List (Lit × DataW H) → Nat
  | [] => 0
  | x :: r => uptoBulkEntry x + uptoBulkEntries r
def uptoBulkEntry {H : Type} : Lit × DataW H → Nat
  | (.string bytes, d) => bytes.length + uptoBulk d + 1
  | (_, d) => uptoBulk d + 1
 end
def uptoSmall : (H : Type) → List (DataW H) → Bool := fun _ ds => decide (uptoBulkAll ds ≤ 1048576)
def OpenSpec.upto (s : _root_.Go.ChangeSpec) : _root_.Go.OpenSpec := { _root_.Go.OpenSpec.ofChange s with cond := some uptoSmall }

/-- 'bulkheadlaw16.ObjectsLoad', WHERE WHAT IT READS IS OF BULK AT MOST 1048576: true; the input reads as it did. -/
def objectsLoadUptoRow : OpenClaim := { program := "ytifieahnnklgcaa", sum := "8ae25633a39351bb8f3828956134bfad55ff2c1a5904317f5d705c7b1c9d9832", func := "bulkhead/bulkheadlaw16.ObjectsLoad", spec := "objectsLoad", apart := false, narrowed := true }
def ObjectsLoadUptoSaid : Prop := objectsLoadUptoRow.holds Try.pinned (OpenSpec.upto objectsLoadSpec)

/-- 'bulkheadlaw16.ObjectsFlow', WHERE WHAT IT READS IS OF BULK AT MOST 1048576: true; the input reads as it did. -/
def objectsFlowUptoRow : OpenClaim := { program := "ytifieahnnklgcaa", sum := "8ae25633a39351bb8f3828956134bfad55ff2c1a5904317f5d705c7b1c9d9832", func := "bulkhead/bulkheadlaw16.ObjectsFlow", spec := "objectsFlow", apart := false, narrowed := true }
def ObjectsFlowUptoSaid : Prop := objectsFlowUptoRow.holds Try.pinned (OpenSpec.upto objectsFlowSpec)

/-- 'bulkheadlaw16.ObjectsExact', WHERE WHAT IT READS IS OF BULK AT MOST 1048576: true; the input reads as it did. -/
def objectsExactUptoRow : OpenClaim := { program := "ytifieahnnklgcaa", sum := "8ae25633a39351bb8f3828956134bfad55ff2c1a5904317f5d705c7b1c9d9832", func := "bulkhead/bulkheadlaw16.ObjectsExact", spec := "objectsExact", apart := false, narrowed := true }
def ObjectsExactUptoSaid : Prop := objectsExactUptoRow.holds Try.pinned (OpenSpec.upto objectsExactSpec)

end Rows
end Go.Proofs.Ytifieahnnklgcaa
