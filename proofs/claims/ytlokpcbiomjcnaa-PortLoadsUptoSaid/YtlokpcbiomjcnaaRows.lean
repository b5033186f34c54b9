/-
  No cell of these rows narrows 'for every input' (looked for: loops, veiled, ifaces, maps, wideKeys, modest, calm, conditions, laid).
  DERIVED. THE GIVEN ROWS OF THIS SEAT. 4 by the template 'for every input the law returns true; each argument reads behind the call as it read before'; 0 by the template 'total and deterministic' (their statements: YtlokpcbiomjcnaaTotals.lean).
  GIVEN WITH THE SEED: the statements are not yours to turn. If you find one false, say at which input.
  Laid BY PROGRAM, IN A SANDBOX (cutbox-rows.mjs): the forced cells as the released guide's own fill.sh prints them over the translation 05d2b2c13fa26c25… (all of the seat's roots in one cut). By AI agents, Wed Nov 11 2026. No macro, syntax, notation, axiom, sorry.
-/
import Derived.Test.YtlokpcbiomjcnaaChecked
import GoSem.Claim
import GoSem.ClaimJoined
import GoSem.ClaimMapViews
import Derived.JoinedTies
import Derived.KernelRfl
namespace Go.Proofs.Ytlokpcbiomjcnaa
/- THE CELL 'sum', in the pinned program and in every row, IS THE sha256 OF THE DUMP (.gsa) THAT YtlokpcbiomjcnaaProg.lean LOADS. Nothing in Lean hashes anything: it is a label: what it is worth is what the hold of that sum in a sandbox is worth. -/
noncomputable def Try.pinned : Pinned := { name := "ytlokpcbiomjcnaa", sum := "05d2b2c13fa26c251e77552150f01f8ecd892fb90bbdd8e918232039cfc88c28", checked := Try.checked }
namespace Rows
def none {H : Type} : Left H := { results := [], args := [] }

/-- 'bulkheadlaw17.PortLoads': WHATEVER THE INPUT: true; the input reads as it did. -/
def portLoadsSpec : ChangeSpec := { name := "portLoads", fn := fun _ => fun
  | [d1, d2, d3] => { results := [.lit (.bool true)], args := [d1, d2, d3] }
  | _ => none }
def portLoadsRow : OpenClaim := { program := "ytlokpcbiomjcnaa", sum := "05d2b2c13fa26c251e77552150f01f8ecd892fb90bbdd8e918232039cfc88c28", func := "bulkhead/bulkheadlaw17.PortLoads", spec := "portLoads", unfollowed := true, recurses := true, apart := false }
def PortLoadsSaid : Prop := portLoadsRow.holds Try.pinned (OpenSpec.ofChange portLoadsSpec)

/-- ITS FALSE NEIGHBOUR: 'it returns false'. Refute it at one input. -/
def portLoadsWrong : ChangeSpec := { name := "portLoads", fn := fun _ => fun
  | [d1, d2, d3] => { results := [.lit (.bool false)], args := [d1, d2, d3] }
  | _ => none }
def PortLoadsWrongFalsely : Prop := portLoadsRow.holds Try.pinned (OpenSpec.ofChange portLoadsWrong)

/-- 'bulkheadlaw17.PortLastCounts': WHATEVER THE INPUT: true; the input reads as it did. -/
def portLastCountsSpec : ChangeSpec := { name := "portLastCounts", fn := fun _ => fun
  | [d1, d2, d3, d4, d5, d6, d7] => { results := [.lit (.bool true)], args := [d1, d2, d3, d4, d5, d6, d7] }
  | _ => none }
def portLastCountsRow : OpenClaim := { program := "ytlokpcbiomjcnaa", sum := "05d2b2c13fa26c251e77552150f01f8ecd892fb90bbdd8e918232039cfc88c28", func := "bulkhead/bulkheadlaw17.PortLastCounts", spec := "portLastCounts", apart := false }
def PortLastCountsSaid : Prop := portLastCountsRow.holds Try.pinned (OpenSpec.ofChange portLastCountsSpec)

/-- ITS FALSE NEIGHBOUR: 'it returns false'. Refute it at one input. -/
def portLastCountsWrong : ChangeSpec := { name := "portLastCounts", fn := fun _ => fun
  | [d1, d2, d3, d4, d5, d6, d7] => { results := [.lit (.bool false)], args := [d1, d2, d3, d4, d5, d6, d7] }
  | _ => none }
def PortLastCountsWrongFalsely : Prop := portLastCountsRow.holds Try.pinned (OpenSpec.ofChange portLastCountsWrong)

/-- 'bulkheadlaw17.PortInOrder': WHATEVER THE INPUT: true; the input reads as it did. -/
def portInOrderSpec : ChangeSpec := { name := "portInOrder", fn := fun _ => fun
  | [d1, d2, d3] => { results := [.lit (.bool true)], args := [d1, d2, d3] }
  | _ => none }
def portInOrderRow : OpenClaim := { program := "ytlokpcbiomjcnaa", sum := "05d2b2c13fa26c251e77552150f01f8ecd892fb90bbdd8e918232039cfc88c28", func := "bulkhead/bulkheadlaw17.PortInOrder", spec := "portInOrder", apart := false }
def PortInOrderSaid : Prop := portInOrderRow.holds Try.pinned (OpenSpec.ofChange portInOrderSpec)

/-- ITS FALSE NEIGHBOUR: 'it returns false'. Refute it at one input. -/
def portInOrderWrong : ChangeSpec := { name := "portInOrder", fn := fun _ => fun
  | [d1, d2, d3] => { results := [.lit (.bool false)], args := [d1, d2, d3] }
  | _ => none }
def PortInOrderWrongFalsely : Prop := portInOrderRow.holds Try.pinned (OpenSpec.ofChange portInOrderWrong)

/-- 'bulkheadlaw17.PortExact': WHATEVER THE INPUT: true; the input reads as it did. -/
def portExactSpec : ChangeSpec := { name := "portExact", fn := fun _ => fun
  | [d1, d2, d3] => { results := [.lit (.bool true)], args := [d1, d2, d3] }
  | _ => none }
def portExactRow : OpenClaim := { program := "ytlokpcbiomjcnaa", sum := "05d2b2c13fa26c251e77552150f01f8ecd892fb90bbdd8e918232039cfc88c28", func := "bulkhead/bulkheadlaw17.PortExact", spec := "portExact", unfollowed := true, recurses := true, apart := false }
def PortExactSaid : Prop := portExactRow.holds Try.pinned (OpenSpec.ofChange portExactSpec)

/-- ITS FALSE NEIGHBOUR: 'it returns false'. Refute it at one input. -/
def portExactWrong : ChangeSpec := { name := "portExact", fn := fun _ => fun
  | [d1, d2, d3] => { results := [.lit (.bool false)], args := [d1, d2, d3] }
  | _ => none }
def PortExactWrongFalsely : Prop := portExactRow.holds Try.pinned (OpenSpec.ofChange portExactWrong)

/- THE SECOND FORM. 'bulk': how many values and letters a reading holds, each counted each time it is reached (what is shared counts as often as it is met; a slice's spare places count too). A statement '..UptoSaid' is the law's where the arguments, and the package variables that the reading takes, are together of bulk at most 1048576: NARROWER than '..Said'. Prove '..Said' where nothing that the law and all that it calls make is longer than what came in: it says more and counts as full. Else prove '..UptoSaid'. A law counts once. -/
mutual
def uptoBulk {H : Type} : DataW H → Nat
  | .lit (.string bytes) => bytes.length + 1
  | .lit _ => 1
  | .nil => 1
  | .ptr d => uptoBulk d + 1
  | .slice elems spare => uptoBulkAll elems + uptoBulkAll spare + 1
  | .agg parts => uptoBulkAll parts + 1
  | .iface _ d => uptoBulk d + 1
  | .map entries => uptoBulkEntries entries + 1
  | .held _ => 1
def uptoBulkAll {H : Type} : List (DataW H) → Nat
  | [] => 0
  | d :: r => uptoBulk d + uptoBulkAll r
def uptoBulkEntries {H : Type} : List (Lit × DataW H) → Nat
  | [] => 0
  | x :: r => uptoBulkEntry x + uptoBulkEntries r
def uptoBulkEntry {H : Type} : Lit × DataW H → Nat
  | (.string bytes, d) => bytes.length + uptoBulk d + 1
  | (_, d) => uptoBulk d + 1
 end
def uptoSmall : (H : Type) → List (DataW H) → Bool := fun _ ds => decide (uptoBulkAll ds ≤ 1048576)
def OpenSpec.upto (s : _root_.Go.ChangeSpec) : _root_.Go.OpenSpec := { _root_.Go.OpenSpec.ofChange s with cond := some uptoSmall }

/-- 'bulkheadlaw17.PortLoads', WHERE WHAT IT READS IS OF BULK AT MOST 1048576: true; the input reads as it did. -/
def portLoadsUptoRow : OpenClaim := { program := "ytlokpcbiomjcnaa", sum := "05d2b2c13fa26c251e77552150f01f8ecd892fb90bbdd8e918232039cfc88c28", func := "bulkhead/bulkheadlaw17.PortLoads", spec := "portLoads", unfollowed := true, recurses := true, apart := false, narrowed := true }
def PortLoadsUptoSaid : Prop := portLoadsUptoRow.holds Try.pinned (OpenSpec.upto portLoadsSpec)

/-- 'bulkheadlaw17.PortLastCounts', WHERE WHAT IT READS IS OF BULK AT MOST 1048576: true; the input reads as it did. -/
def portLastCountsUptoRow : OpenClaim := { program := "ytlokpcbiomjcnaa", sum := "05d2b2c13fa26c251e77552150f01f8ecd892fb90bbdd8e918232039cfc88c28", func := "bulkhead/bulkheadlaw17.PortLastCounts", spec := "portLastCounts", apart := false, narrowed := true }
def PortLastCountsUptoSaid : Prop := portLastCountsUptoRow.holds Try.pinned (OpenSpec.upto portLastCountsSpec)

/-- 'bulkheadlaw17.PortInOrder', WHERE WHAT IT READS IS OF BULK AT MOST 1048576: true; the input reads as it did. -/
def portInOrderUptoRow : OpenClaim := { program := "ytlokpcbiomjcnaa", sum := "05d2b2c13fa26c251e77552150f01f8ecd892fb90bbdd8e918232039cfc88c28", func := "bulkhead/bulkheadlaw17.PortInOrder", spec := "portInOrder", apart := false, narrowed := true }
def PortInOrderUptoSaid : Prop := portInOrderUptoRow.holds Try.pinned (OpenSpec.upto portInOrderSpec)

/-- 'bulkheadlaw17.PortExact', WHERE WHAT IT READS IS OF BULK AT MOST 1048576: true; the input reads as it did. -/
def portExactUptoRow : OpenClaim := { program := "ytlokpcbiomjcnaa", sum := "05d2b2c13fa26c251e77552150f01f8ecd892fb90bbdd8e918232039cfc88c28", func := "bulkhead/bulkheadlaw17.PortExact", spec := "portExact", unfollowed := true, recurses := true, apart := false, narrowed := true }
def PortExactUptoSaid : Prop := portExactUptoRow.holds Try.pinned (OpenSpec.upto portExactSpec)

end Rows
end Go.Proofs.Ytlokpcbiomjcnaa
