/-
  No cell of these rows narrows 'for every input' (looked for: loops, veiled, ifaces, maps, wideKeys, modest, calm, conditions, laid).
  DERIVED. THE GIVEN ROWS OF THIS SEAT. 2 by the template 'for every input the law returns true; each argument reads behind the call as it read before'; 0 by the template 'total and deterministic' (their statements: YtbcnkggecgblbaaTotals.lean).
  GIVEN WITH THE SEED: the statements are not yours to turn. If you find one false, say at which input.
  Laid BY PROGRAM, IN A SANDBOX (cutbox-rows.mjs): the forced cells as the released guide's own fill.sh prints them over the translation ce35e9edf0241d55… (all of the seat's roots in one cut). By AI agents, Wed Nov 11 2026. No macro, syntax, notation, axiom, sorry.
-/
import Derived.Test.YtbcnkggecgblbaaChecked
import GoSem.Claim
import GoSem.ClaimJoined
import GoSem.ClaimMapViews
import Derived.JoinedTies
import Derived.KernelRfl
namespace Go.Proofs.Ytbcnkggecgblbaa
/- THE CELL 'sum', in the pinned program and in every row, IS THE sha256 OF THE DUMP (.gsa) THAT YtbcnkggecgblbaaProg.lean LOADS. Nothing in Lean hashes anything: it is a label: what it is worth is what the hold of that sum in a sandbox is worth. -/
noncomputable def Try.pinned : Pinned := { name := "ytbcnkggecgblbaa", sum := "ce35e9edf0241d55e274dfa519a5e273f7ff4e09ac2dccee80cf1f06dae0056d", checked := Try.checked }
namespace Rows
def none {H : Type} : Left H := { results := [], args := [] }

/-- 'bulkheadlaw08.ReadyExact': WHATEVER THE INPUT: true; the input reads as it did. -/
def readyExactSpec : ChangeSpec := { name := "readyExact", fn := fun _ => fun
  | [d1, d2] => { results := [.lit (.bool true)], args := [d1, d2] }
  | _ => none }
def readyExactRow : OpenClaim := { program := "ytbcnkggecgblbaa", sum := "ce35e9edf0241d55e274dfa519a5e273f7ff4e09ac2dccee80cf1f06dae0056d", func := "bulkhead/bulkheadlaw08.ReadyExact", spec := "readyExact", inPlace := ["slices.overlaps[bulkhead/ready.one]"], unfollowed := true, recurses := true, apart := false }
def ReadyExactSaid : Prop := readyExactRow.holds Try.pinned (OpenSpec.ofChange readyExactSpec)

/-- ITS FALSE NEIGHBOUR: 'it returns false'. Refute it at one input. -/
def readyExactWrong : ChangeSpec := { name := "readyExact", fn := fun _ => fun
  | [d1, d2] => { results := [.lit (.bool false)], args := [d1, d2] }
  | _ => none }
def ReadyExactWrongFalsely : Prop := readyExactRow.holds Try.pinned (OpenSpec.ofChange readyExactWrong)

/-- 'bulkheadlaw08.ReadyFair': WHATEVER THE INPUT: true; the input reads as it did. -/
def readyFairSpec : ChangeSpec := { name := "readyFair", fn := fun _ => fun
  | [d1, d2] => { results := [.lit (.bool true)], args := [d1, d2] }
  | _ => none }
def readyFairRow : OpenClaim := { program := "ytbcnkggecgblbaa", sum := "ce35e9edf0241d55e274dfa519a5e273f7ff4e09ac2dccee80cf1f06dae0056d", func := "bulkhead/bulkheadlaw08.ReadyFair", spec := "readyFair", inPlace := ["slices.overlaps[bulkhead/ready.one]"], unfollowed := true, recurses := true, apart := false }
def ReadyFairSaid : Prop := readyFairRow.holds Try.pinned (OpenSpec.ofChange readyFairSpec)

/-- ITS FALSE NEIGHBOUR: 'it returns false'. Refute it at one input. -/
def readyFairWrong : ChangeSpec := { name := "readyFair", fn := fun _ => fun
  | [d1, d2] => { results := [.lit (.bool false)], args := [d1, d2] }
  | _ => none }
def ReadyFairWrongFalsely : Prop := readyFairRow.holds Try.pinned (OpenSpec.ofChange readyFairWrong)

/- THE SECOND FORM. 'bulk': how many values and letters a reading holds, each counted each time it is reached (what is shared counts as often as it is met; a slice's spare places count too). A statement '..UptoSaid' is the law's where the arguments, and the package variables that the reading takes, are together of bulk at most 1048576: NARROWER than '..Said'. Prove '..Said' where nothing that the law and all that it calls make is longer than what came in: it says more and counts as full. Else prove '..UptoSaid'. A law counts once. -/
mutual
def uptoBulk {H : Type} : DataW H → Nat
  | .lit (.string bytes) => bytes.length + 1
  | .lit _ => 1
  | .nil => 1
  | .ptr d => uptoBulk d + 1
  | .slice elems spare => uptoBulkAll elems + uptoBulkAll spare + 1
  | .agg parts => uptoBulkAll parts + 1
  | .iface _ d => uptoBulk d + 1
  | .map entries => uptoBulkEntries entries + 1
  | .held _ => 1
def uptoBulkAll {H : Type} : List (DataW H) → Nat
  | [] => 0
  | d :: r => uptoBulk d + uptoBulkAll r
def uptoBulkEntries {H : Type} : List (Lit × DataW H) → Nat
  | [] => 0
  | x :: r => uptoBulkEntry x + uptoBulkEntries r
def uptoBulkEntry {H : Type} : Lit × DataW H → Nat
  | (.string bytes, d) => bytes.length + uptoBulk d + 1
  | (_, d) => uptoBulk d + 1
 end
def uptoSmall : (H : Type) → List (DataW H) → Bool := fun _ ds => decide (uptoBulkAll ds ≤ 1048576)
def OpenSpec.upto (s : _root_.Go.ChangeSpec) : _root_.Go.OpenSpec := { _root_.Go.OpenSpec.ofChange s with cond := some uptoSmall }

/-- 'bulkheadlaw08.ReadyExact', WHERE WHAT IT READS IS OF BULK AT MOST 1048576: true; the input reads as it did. -/
def readyExactUptoRow : OpenClaim := { program := "ytbcnkggecgblbaa", sum := "ce35e9edf0241d55e274dfa519a5e273f7ff4e09ac2dccee80cf1f06dae0056d", func := "bulkhead/bulkheadlaw08.ReadyExact", spec := "readyExact", inPlace := ["slices.overlaps[bulkhead/ready.one]"], unfollowed := true, recurses := true, apart := false, narrowed := true }
def ReadyExactUptoSaid : Prop := readyExactUptoRow.holds Try.pinned (OpenSpec.upto readyExactSpec)

/-- 'bulkheadlaw08.ReadyFair', WHERE WHAT IT READS IS OF BULK AT MOST 1048576: true; the input reads as it did. -/
def readyFairUptoRow : OpenClaim := { program := "ytbcnkggecgblbaa", sum := "ce35e9edf0241d55e274dfa519a5e273f7ff4e09ac2dccee80cf1f06dae0056d", func := "bulkhead/bulkheadlaw08.ReadyFair", spec := "readyFair", inPlace := ["slices.overlaps[bulkhead/ready.one]"], unfollowed := true, recurses := true, apart := false, narrowed := true }
def ReadyFairUptoSaid : Prop := readyFairUptoRow.holds Try.pinned (OpenSpec.upto readyFairSpec)

end Rows
end Go.Proofs.Ytbcnkggecgblbaa
