/- The bulk of a reading bounds the lengths in it. -/
import Derived.Test.YtellmlffkgfeiaaDoorOM
import Derived.Test.YtellmlffkgfeiaaDoorRows
set_option linter.unusedVariables false
set_option linter.unusedSimpArgs false
namespace Go.Proofs.YtellmlffkgfeiaaDoor
open Go.ChangeShapes Go.WideShapes Go.ChangeAt Go.RowKit
section
variable {H : Type} {enc : TypeId × Value → H} {W : World} {P : Program}
theorem bulk_pos (d : DataW H) : 1 ≤ Rows.uptoBulk d := by
  cases d <;> try simp [Rows.uptoBulk]
  rename_i l
  cases l <;> simp [Rows.uptoBulk]
theorem bulk_len : ∀ ds : List (DataW H), ds.length ≤ Rows.uptoBulkAll ds
  | [] => Nat.le_refl _
  | d :: ds => by
    have := bulk_len ds
    have := bulk_pos d
    simp only [List.length_cons, Rows.uptoBulkAll]
    omega
theorem bulk_at : ∀ (ds : List (DataW H)) (i : Nat) (d : DataW H), ds[i]? = some d → Rows.uptoBulk d ≤ Rows.uptoBulkAll ds
  | [], i, d, h => by simp at h
  | e :: ds, 0, d, h => by
    simp at h
    subst h
    simp only [Rows.uptoBulkAll]
    omega
  | e :: ds, i + 1, d, h => by
    have := bulk_at ds i d (by simpa using h)
    simp only [Rows.uptoBulkAll]
    omega
theorem slice_bulk {t e : TypeId} {c : Nat} {d : DataW H} {A : Option Addr} {n cap : Nat} (ht : P.underlying t = some (.slice e)) (hc : P.cellsOf e = c) (h : Tr enc P W t [.slice A n cap] d) : n ≤ Rows.uptoBulk d := by
  obtain ⟨A', ess, ds, cap', h1, h2, h3, h4, h5, h6, h7⟩ := tr_slice ht hc h
  simp only [List.cons.injEq, Value.slice.injEq, and_true] at h1
  rw [h1.2.1, ← h4]
  rcases h7 with ⟨_, rfl⟩ | ⟨sp, rfl⟩
  · simp
  · have := bulk_len ds
    simp only [Rows.uptoBulk]
    omega
theorem mach_bulk {A M : Option Addr} {n cap m mcap : Nat} {fixed : Int} {r : Nat → Int} {pc : Int} {d : DataW H} {ps : List MemPlace} (h : DataW.Trod enc Tryd.prog W 0 (fun _ => true) true 26 (.agg (machCells (.slice A n cap) (.slice M m mcap) fixed r pc).toArray) d ps) : n ≤ Rows.uptoBulk d ∧ m ≤ Rows.uptoBulk d := by
  have htr : Tr enc Tryd.prog W 26 (machCells (.slice A n cap) (.slice M m mcap) fixed r pc) d := by simpa [Value.cells] using tr_of h
  obtain ⟨ds, rfl, _, _, hf⟩ := tr_struct Tryd.underlying26 htr
  obtain ⟨d0, k0, h0⟩ := hf 0 _ rfl
  obtain ⟨d1, k1, h1⟩ := hf 1 _ rfl
  have b0 := slice_bulk Tryd.underlying22 cells45 (show Tr enc Tryd.prog W 22 [.slice A n cap] d0 from h0)
  have b1 := slice_bulk Tryd.underlying23 cells2 (show Tr enc Tryd.prog W 23 [.slice M m mcap] d1 from h1)
  have e0 := bulk_at ds 0 d0 k0
  have e1 := bulk_at ds 1 d1 k1
  simp only [Rows.uptoBulk]
  omega
theorem small_all {ds gs : List (DataW H)} (h : Rows.uptoSmall H (ds ++ gs) = true) : Rows.uptoBulkAll (ds ++ gs) ≤ 1048576 := by simpa [Rows.uptoSmall] using h
end
end Go.Proofs.YtellmlffkgfeiaaDoor
