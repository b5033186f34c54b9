/- The package-level table of the operations, as the rows lay it. -/
import Derived.Test.YtellmlffkgfeiaaDoorRows
import Derived.Test.YtellmlffkgfeiaaDoorC5
import Derived.Test.YtellmlffkgfeiaaDoorO
import Derived.Deep.DeepHandedRow
import Derived.Lib.LaidTab
set_option linter.unusedVariables false
set_option linter.unusedSimpArgs false
namespace Go.Proofs.YtellmlffkgfeiaaDoor
open Go.ChangeShapes Go.WideShapes Go.ChangeAt Go.RowKit
theorem gTab : Tryd.prog.globalNamed "bulkhead/isa.operations" = some 0 := by kernel_rfl
theorem gTabType : (Tryd.prog.globals[0]?).map (·.type) = some 87 := by kernel_rfl
theorem cells86 : Tryd.prog.cellsOf 86 = 2 := by kernel_rfl
theorem cells9 : Tryd.prog.cellsOf 9 = 1 := by kernel_rfl
/-- the rows' list -/
def tab28 : List (DataW Unit) := match (Rows.laid_bulkhead_isa_operations : DataW Unit) with | .agg l => l | _ => []
theorem tab_agg : (Rows.laid_bulkhead_isa_operations : DataW Unit) = .agg tab28 := rfl
theorem tab_at (j : Nat) (h : j < 28) : ∃ n, tab28[j]? = some (.agg [.lit (.string n), .lit (.string (shapeOf j))]) := by
  match j, h with
  | 0, _ => exact ⟨_, rfl⟩
  | 1, _ => exact ⟨_, rfl⟩
  | 2, _ => exact ⟨_, rfl⟩
  | 3, _ => exact ⟨_, rfl⟩
  | 4, _ => exact ⟨_, rfl⟩
  | 5, _ => exact ⟨_, rfl⟩
  | 6, _ => exact ⟨_, rfl⟩
  | 7, _ => exact ⟨_, rfl⟩
  | 8, _ => exact ⟨_, rfl⟩
  | 9, _ => exact ⟨_, rfl⟩
  | 10, _ => exact ⟨_, rfl⟩
  | 11, _ => exact ⟨_, rfl⟩
  | 12, _ => exact ⟨_, rfl⟩
  | 13, _ => exact ⟨_, rfl⟩
  | 14, _ => exact ⟨_, rfl⟩
  | 15, _ => exact ⟨_, rfl⟩
  | 16, _ => exact ⟨_, rfl⟩
  | 17, _ => exact ⟨_, rfl⟩
  | 18, _ => exact ⟨_, rfl⟩
  | 19, _ => exact ⟨_, rfl⟩
  | 20, _ => exact ⟨_, rfl⟩
  | 21, _ => exact ⟨_, rfl⟩
  | 22, _ => exact ⟨_, rfl⟩
  | 23, _ => exact ⟨_, rfl⟩
  | 24, _ => exact ⟨_, rfl⟩
  | 25, _ => exact ⟨_, rfl⟩
  | 26, _ => exact ⟨_, rfl⟩
  | 27, _ => exact ⟨_, rfl⟩
  | j + 28, h => exact absurd h (by omega)
theorem glob_of_laid {W : World} (h : laidMetH Tryd.prog [("bulkhead/isa.operations", Rows.laid_bulkhead_isa_operations)] W) : Glob W := by
  have h' : laidMet Tryd.prog [("bulkhead/isa.operations", Rows.laid_bulkhead_isa_operations)] W := h
  obtain ⟨ps, ⟨g, t, cs, fuel, p, q, hg, ht, hvar, hd, _, _⟩, _⟩ := h'
  obtain rfl := Option.some.inj (gTab.symm.trans hg)
  obtain rfl := Option.some.inj (gTabType.symm.trans ht)
  have htr : Tr (fun _ => ()) Tryd.prog W 87 cs.toList Rows.laid_bulkhead_isa_operations := ⟨false, fuel, p, hd⟩
  obtain ⟨ds, h1, h2, h3, h4⟩ := tr_array Tryd.underlying87 htr
  rw [tab_agg] at h1
  obtain rfl : tab28 = ds := by simpa using h1
  intro op hop
  obtain ⟨d', h5, h6⟩ := h4 op hop
  obtain ⟨n, h7⟩ := tab_at op hop
  obtain rfl := Option.some.inj (h7.symm.trans h5)
  rw [cells86] at h6
  obtain ⟨ds2, h8, h9, h10, h11⟩ := tr_struct Tryd.underlying86 h6
  obtain ⟨d2, h12, h13⟩ := h11 1 ⟨"shape", 9, 1, false, "", "bulkhead/isa", 16⟩ rfl
  obtain rfl : ds2 = [.lit (.string n), .lit (.string (shapeOf op))] := by simpa using h8.symm
  obtain rfl : d2 = .lit (.string (shapeOf op)) := by simpa using h12.symm
  obtain ⟨s, h14, h15, _⟩ := tr_string Tryd.underlying9 h13
  have hs : s = strOf (shapeOf op) := by
    have : s.data.toList = shapeOf op := by simpa using h15.symm
    unfold strOf
    rw [← this]
  rw [World.var?_cell hg hvar (op * 2 + 1), ← hs]
  have h16 : ((List.take 2 (List.drop (op * 2) cs.toList)).drop 1).take 1 = [.string s] := by
    have h18 : ((List.take 2 (List.drop (op * 2) cs.toList)).drop 1).take (Tryd.prog.cellsOf 9) = [.string s] := h14
    rwa [cells9] at h18
  have h17 : (((List.take 2 (List.drop (op * 2) cs.toList)).drop 1).take 1)[0]? = some (.string s) := by rw [h16]; rfl
  simp only [List.getElem?_take, List.getElem?_drop] at h17
  simpa using h17
end Go.Proofs.YtellmlffkgfeiaaDoor
