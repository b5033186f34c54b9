/- The image that the statements make of ports: first its ports. -/
import Derived.Test.YtlokpcbiomjcnaaE11
import Derived.Laws.BitsLemmas
set_option linter.unusedVariables false
set_option linter.unusedSimpArgs false
namespace Go.Proofs.Ytlokpcbiomjcnaa
open Go.RowKit
def andI (x m : Int) : Int := bits .and .i64 x m
theorem and_le (x : Int) (m : Nat) (hm : m < 4611686018427387904) : 0 ≤ andI x m ∧ andI x m ≤ m := by
  have e : andI x m = IntKind.i64.wrap ((BitVec.ofInt 64 x &&& BitVec.ofInt 64 (m : Int)).toNat : Int) := rfl
  have hle : (BitVec.ofInt 64 x &&& BitVec.ofInt 64 (m : Int)).toNat ≤ m := by
    rw [BitVec.toNat_and]
    refine Nat.le_trans Nat.and_le_right ?_
    rw [BitVec.ofInt_natCast, BitVec.toNat_ofNat]
    exact Nat.mod_le _ _
  rw [e, IntKind.wrap_i64]
  omega
/-- ports, as a list handed in holds them -/
def Pts (W : World) (A : Option Addr) (ps : List Pt) : Prop := ∀ (i : Nat) p, ps[i]? = some p → ∃ ad, A = some ad ∧ Cl W (some (ad.add (i * 6))) p.cells
theorem Pts.keep {W w : World} {A : Option Addr} {ps : List Pt} (h : Pts W A ps) (hc : Ch No W w) : Pts w A ps := fun i p hp => by
  obtain ⟨ad, e, h1⟩ := h i p hp
  exact ⟨ad, e, h1.keepNo hc⟩
/-- a port, brought within its bounds -/
def imgPt (p : Pt) : Pt where
  part := 1 + andI p.part 1
  kind := andI p.kind 1
  out := p.out
  size := 1 + andI p.size 15
  depth := if andI p.kind 1 = 1 then 1 + andI p.depth 63 else 0
  refresh := if andI p.kind 1 = 1 then 0 else if p.out = true then 0 else andI p.refresh 1099511627775
def imgPts (ps : List Pt) : List Pt := (ps.take 64).map imgPt
theorem info46 : (Try.prog.info? 46).map (fun i => (i.zero, i.size, i.bytes)) = some (some (.agg #[.int .i64 0, .int .i64 0, .bool false, .int .i64 0, .int .i64 0, .int .i64 0]), 6, 48) := by kernel_rfl
theorem pt_one (p : Pt) : ∀ u ∈ p.cells, u.oneCell' = true := by
  intro u hu
  simp [Pt.cells] at hu
  rcases hu with rfl | rfl | rfl | rfl | rfl | rfl <;> rfl
theorem pcells_succ (ps : List Pt) (k : Nat) (p : Pt) (hp : ps[k]? = some p) : pcells ((ps.take (k + 1)).map imgPt) = pcells ((ps.take k).map imgPt) ++ (imgPt p).cells := by
  have hk : k < ps.length := (List.getElem?_eq_some_iff.1 hp).1
  have e : ps[k] = p := (List.getElem?_eq_some_iff.1 hp).2
  rw [List.take_succ_eq_append_getElem hk, List.map_append]
  simp [pcells, e]
end Go.Proofs.Ytlokpcbiomjcnaa
