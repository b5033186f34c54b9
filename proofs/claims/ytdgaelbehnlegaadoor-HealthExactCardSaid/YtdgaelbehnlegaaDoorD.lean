/- The package-level variables of health, as the rows lay them; a case, opened. -/
import Derived.Test.YtdgaelbehnlegaaDoorRows
import Derived.Test.YtdgaelbehnlegaaDoorH5
import Derived.Test.YtdgaelbehnlegaaDoorO
import Derived.Deep.DeepHandedRow
import Derived.Lib.LaidTab
set_option linter.unusedVariables false
set_option linter.unusedSimpArgs false
namespace Go.Proofs.YtdgaelbehnlegaaDoor
open Go.ChangeShapes Go.WideShapes Go.ChangeAt Go.RowKit
theorem gNob : Tryd.prog.globalNamed "bulkhead/health.nobody" = some 0 := by kernel_rfl
theorem gNobType : (Tryd.prog.globals[0]?).map (·.type) = some 37 := by kernel_rfl
theorem gNam : Tryd.prog.globalNamed "bulkhead/health.names" = some 1 := by kernel_rfl
theorem gNamType : (Tryd.prog.globals[1]?).map (·.type) = some 59 := by kernel_rfl
theorem cells3 : Tryd.prog.cellsOf 3 = 1 := by kernel_rfl
theorem cells4 : Tryd.prog.cellsOf 4 = 1 := by kernel_rfl
theorem cells9 : Tryd.prog.cellsOf 9 = 1 := by kernel_rfl
theorem cells22 : Tryd.prog.cellsOf 22 = 8 := by kernel_rfl
theorem cells24 : Tryd.prog.cellsOf 24 = 13 := by kernel_rfl
theorem cells37 : Tryd.prog.cellsOf 37 = 2 := by kernel_rfl
theorem cells59 : Tryd.prog.cellsOf 59 = 8 := by kernel_rfl
theorem glob_of_laid {W : World} (h : laidMetH Tryd.prog [("bulkhead/health.nobody", Rows.laid_bulkhead_health_nobody), ("bulkhead/health.names", Rows.laid_bulkhead_health_names)] W) : Glob W := by
  have h' : laidMet Tryd.prog [("bulkhead/health.nobody", Rows.laid_bulkhead_health_nobody), ("bulkhead/health.names", Rows.laid_bulkhead_health_names)] W := h
  obtain ⟨ps, ⟨g, t, cs, fuel, p, q, hg, ht, hvar, hd, hrest, _⟩, _⟩ := h'
  obtain ⟨g2, t2, cs2, fuel2, p2, q2, hg2, ht2, hvar2, hd2, _, _⟩ := hrest
  obtain rfl := Option.some.inj (gNob.symm.trans hg)
  obtain rfl := Option.some.inj (gNobType.symm.trans ht)
  obtain rfl := Option.some.inj (gNam.symm.trans hg2)
  obtain rfl := Option.some.inj (gNamType.symm.trans ht2)
  have htr : Tr (fun _ => ()) Tryd.prog W 37 cs.toList Rows.laid_bulkhead_health_nobody := ⟨false, fuel, p, hd⟩
  have htr2 : Tr (fun _ => ()) Tryd.prog W 59 cs2.toList Rows.laid_bulkhead_health_names := ⟨false, fuel2, p2, hd2⟩
  have hnob : cs.toList = [.int .i64 0, .int .i64 0] := by
    obtain ⟨ds, e1, hl, _, hf⟩ := tr_struct Tryd.underlying37 htr
    rw [cells37] at hl
    obtain ⟨a, b, hab⟩ : ∃ a b, cs.toList = [a, b] := by
      match cs.toList, hl with
      | [a, b], _ => exact ⟨a, b, rfl⟩
    rw [hab] at hf ⊢
    obtain rfl : ds = [.lit (.int .i64 0), .lit (.int .i64 0)] := by unfold Rows.laid_bulkhead_health_nobody at e1; simpa using e1.symm
    obtain ⟨d0, f0, h0⟩ := hf 0 _ rfl
    obtain ⟨d1, f1, h1⟩ := hf 1 _ rfl
    obtain ⟨n0, g0, k0, _⟩ := tr_int Tryd.underlying3 (tr_field h0 cells3 rfl)
    obtain ⟨n1, g1, k1, _⟩ := tr_int Tryd.underlying3 (tr_field h1 cells3 rfl)
    simp only [List.getElem?_cons_zero, List.getElem?_cons_succ, Option.some.injEq] at f0 f1
    rw [← f0] at k0
    rw [← f1] at k1
    simp at k0 k1 g0 g1
    rw [g0, g1, ← k0, ← k1]
  have hnam : ∀ j : Nat, 1 ≤ j → j ≤ 7 → cs2[j]? = some (.string (nameOf j)) := by
    obtain ⟨ds, e1, hl, _, hf⟩ := tr_array Tryd.underlying59 htr2
    rw [cells59] at hl
    obtain rfl : ds = [.lit (.string []), .lit (.string [105, 108, 108, 101, 103, 97, 108]), .lit (.string [109, 101, 109, 111, 114, 121]), .lit (.string [100, 105, 118, 105, 100, 101]), .lit (.string [99, 111, 100, 101]), .lit (.string [115, 101, 114, 118, 105, 99, 101]), .lit (.string [114, 97, 105, 115, 101, 100]), .lit (.string [109, 105, 115, 115])] := by unfold Rows.laid_bulkhead_health_names at e1; simpa using e1.symm
    intro j h1 h7
    obtain ⟨d', f1, h2⟩ := hf j (by omega)
    rw [cells9, Nat.mul_one] at h2
    have hc : cs2.toList[j]? = some (cs2.toList[j]'(by omega)) := List.getElem?_eq_getElem _
    obtain ⟨s, g1, k1, _⟩ := tr_string Tryd.underlying9 (tr_field h2 rfl hc)
    have e2 : cs2.toList[j]'(by omega) = .string s := by simpa using g1
    have e3 : cs2[j]? = some (.string s) := by
      have := hc
      rw [e2] at this
      simpa using this
    rw [e3]
    have hs : ∀ l : List UInt8, d' = .lit (.string l) → s = ⟨⟨l⟩⟩ := fun l hl => by
      have := hl.symm.trans k1
      simp at this
      subst this
      rfl
    match j, h1, h7, f1 with
    | 1, _, _, f1 => rw [hs _ (by simpa using f1.symm)]; rfl
    | 2, _, _, f1 => rw [hs _ (by simpa using f1.symm)]; rfl
    | 3, _, _, f1 => rw [hs _ (by simpa using f1.symm)]; rfl
    | 4, _, _, f1 => rw [hs _ (by simpa using f1.symm)]; rfl
    | 5, _, _, f1 => rw [hs _ (by simpa using f1.symm)]; rfl
    | 6, _, _, f1 => rw [hs _ (by simpa using f1.symm)]; rfl
    | 7, _, _, f1 => rw [hs _ (by simpa using f1.symm)]; rfl
    | j + 8, _, h, _ => exact absurd h (by omega)
  have e0 : cs[0]? = some (.int .i64 0) := by rw [← Array.getElem?_toList, hnob]; rfl
  have e1 : cs[1]? = some (.int .i64 0) := by rw [← Array.getElem?_toList, hnob]; rfl
  exact ⟨by rw [World.var?_cell hg hvar]; exact e0, by rw [World.var?_cell hg hvar]; exact e1,
    by rw [World.var?_cell hg2 hvar2]; exact hnam 1 (by omega) (by omega), by rw [World.var?_cell hg2 hvar2]; exact hnam 2 (by omega) (by omega),
    by rw [World.var?_cell hg2 hvar2]; exact hnam 3 (by omega) (by omega), by rw [World.var?_cell hg2 hvar2]; exact hnam 4 (by omega) (by omega),
    by rw [World.var?_cell hg2 hvar2]; exact hnam 5 (by omega) (by omega), by rw [World.var?_cell hg2 hvar2]; exact hnam 6 (by omega) (by omega),
    by rw [World.var?_cell hg2 hvar2]; exact hnam 7 (by omega) (by omega)⟩
section
variable {H : Type} {enc : TypeId × Value → H} {W : World}
/-- eight numbers -/
theorem open_tab {cs : List Value} {d : DataW H} (h : Tr enc Tryd.prog W 22 cs d) : ∃ T : Nat → Int, cs.length = 8 ∧ ∀ i, i < 8 → cs[i]? = some (.int .i64 (T i)) := by
  obtain ⟨ds, _, hl, _, hf⟩ := tr_array Tryd.underlying22 h
  rw [cells22] at hl
  have hall : ∀ j : Nat, ∃ n : Int, j < 8 → cs[j]? = some (.int .i64 n) := by
    intro j
    by_cases hj : j < 8
    · obtain ⟨d', _, h1⟩ := hf j hj
      rw [cells3, Nat.mul_one] at h1
      have hc : cs[j]? = some (cs[j]'(by omega)) := List.getElem?_eq_getElem _
      obtain ⟨n, h2, _, hw⟩ := tr_int Tryd.underlying3 (tr_field h1 rfl hc)
      simp only [List.cons.injEq, and_true] at h2
      exact ⟨n, fun _ => by rw [hc, h2]⟩
    · exact ⟨0, fun h => absurd h hj⟩
  exact ⟨fun j => Classical.choose (hall j), hl, fun i hi => Classical.choose_spec (hall i) hi⟩
/-- a case, opened -/
theorem open_case {cs : List Value} {d : DataW H} (h : Tr enc Tryd.prog W 24 cs d) : ∃ pr hq T k p busy, CaseOf cs pr hq T k p busy := by
  obtain ⟨ds, _, hl, _, hf⟩ := tr_struct Tryd.underlying24 h
  rw [cells24] at hl
  obtain ⟨a0, a1, a2, a3, a4, a5, a6, a7, a8, a9, b0, b1, b2, rfl⟩ : ∃ a0 a1 a2 a3 a4 a5 a6 a7 a8 a9 b0 b1 b2, cs = [a0, a1, a2, a3, a4, a5, a6, a7, a8, a9, b0, b1, b2] := by
    match cs, hl with
    | [a0, a1, a2, a3, a4, a5, a6, a7, a8, a9, b0, b1, b2], _ => exact ⟨a0, a1, a2, a3, a4, a5, a6, a7, a8, a9, b0, b1, b2, rfl⟩
  obtain ⟨d0, _, h0⟩ := hf 0 _ rfl
  obtain ⟨d1, _, h1⟩ := hf 1 _ rfl
  obtain ⟨d2, _, h2⟩ := hf 2 _ rfl
  obtain ⟨d3, _, h3⟩ := hf 3 _ rfl
  obtain ⟨d4, _, h4⟩ := hf 4 _ rfl
  obtain ⟨d5, _, h5⟩ := hf 5 _ rfl
  obtain ⟨n0, g0, _, _⟩ := tr_int Tryd.underlying3 (tr_field h0 cells3 rfl)
  obtain ⟨n1, g1, _, _⟩ := tr_int Tryd.underlying3 (tr_field h1 cells3 rfl)
  obtain ⟨n3, g3, _, _⟩ := tr_int Tryd.underlying3 (tr_field h3 cells3 rfl)
  obtain ⟨n4, g4, _, _⟩ := tr_int Tryd.underlying3 (tr_field h4 cells3 rfl)
  obtain ⟨n5, g5, _⟩ := tr_bool Tryd.underlying4 (tr_field h5 cells4 rfl)
  obtain ⟨T, hT, hTT⟩ := open_tab h2
  simp only [List.cons.injEq, and_true] at g0 g1 g3 g4 g5
  subst g0 g1 g3 g4 g5
  have t : ∀ i : Nat, i < 8 → [a2, a3, a4, a5, a6, a7, a8, a9][i]? = some (.int .i64 (T i)) := hTT
  have t0 : a2 = .int .i64 (T 0) := by simpa using t 0 (by omega)
  have t1 : a3 = .int .i64 (T 1) := by simpa using t 1 (by omega)
  have t2 : a4 = .int .i64 (T 2) := by simpa using t 2 (by omega)
  have t3 : a5 = .int .i64 (T 3) := by simpa using t 3 (by omega)
  have t4 : a6 = .int .i64 (T 4) := by simpa using t 4 (by omega)
  have t5 : a7 = .int .i64 (T 5) := by simpa using t 5 (by omega)
  have t6 : a8 = .int .i64 (T 6) := by simpa using t 6 (by omega)
  have t7 : a9 = .int .i64 (T 7) := by simpa using t 7 (by omega)
  subst t0 t1 t2 t3 t4 t5 t6 t7
  refine ⟨n0, n1, T, n3, n4, n5, rfl, ?_, rfl, rfl, ?_, rfl, rfl, rfl⟩
  · intro v hv
    simp at hv
    rcases hv with rfl | rfl | rfl | rfl | rfl | rfl | rfl | rfl | rfl | rfl | rfl | rfl | rfl <;> rfl
  · intro k hk
    match k, hk with
    | 0, _ => rfl
    | 1, _ => rfl
    | 2, _ => rfl
    | 3, _ => rfl
    | 4, _ => rfl
    | 5, _ => rfl
    | 6, _ => rfl
    | 7, _ => rfl
end
end Go.Proofs.YtdgaelbehnlegaaDoor
