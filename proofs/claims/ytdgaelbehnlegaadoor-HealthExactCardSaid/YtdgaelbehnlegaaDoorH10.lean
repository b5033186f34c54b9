/- intact: the lists of a partition are as part made them. -/
import Derived.Test.YtdgaelbehnlegaaDoorH8
import Derived.Test.YtdgaelbehnlegaaDoorH9
set_option linter.unusedVariables false
set_option linter.unusedSimpArgs false
namespace Go.Proofs.YtdgaelbehnlegaaDoor
open Go.RowKit
theorem procCells_get (m : Nat) (j q : Nat) (hj : j < m) (hq : q < 6) : (procCells m)[j * 6 + q]? = (onep j)[q]? := by
  induction m with
  | zero => omega
  | succ m ih =>
    rw [procCells_succ]
    by_cases h : j < m
    · rw [List.getElem?_append_left (by rw [procCells_length]; omega)]
      exact ih h
    · obtain rfl : j = m := by omega
      rw [List.getElem?_append_right (by rw [procCells_length]; omega), procCells_length, Nat.add_sub_cancel_left]
      rfl
theorem proc_range {w : World} {g m : Nat} {rest : List Value} (h : Row w g 53 (procCells m ++ rest)) (j : Nat) (hj : j < m) : w.rangeAt g (j * 6) (onep j) :=
  row_range h (j * 6) (onep j) (fun q v hq => by
    have hlt : q < 6 := (List.getElem?_eq_some_iff.1 hq).1
    rw [List.getElem?_append_left (by rw [procCells_length]; omega), procCells_get m j q hj hlt]
    exact hq)
theorem size53 : (Tryd.prog.info? 53).map (·.size) = some 6 := by kernel_rfl
theorem sizeOf53 (w : World) : (sizeOf 53).run Tryd.prog w = .ok 6 w := by kernel_rfl

set_option maxHeartbeats 4000000 in
theorem intact_calls (g gi gc cap n : Nat) (rest : List Value) (h : Int) (T : Nat → Int) (w : World) (hn : n ≤ 40) (hcap : n + 1 ≤ cap) (hcm : cap ≤ maxLen) (hr : Row w g 53 (procCells (n + 1) ++ rest)) (hi : Row w gi 2 (ints [5, 6, 7])) (hc : Row w gc 55 codeCells) :
    Calls Tryd.prog 10 #[.agg (pcells (.slice (some ⟨gi, 0, none⟩) 2 3) (.slice (some ⟨gc, 0, none⟩) 2 3) (.slice (some ⟨g, 0, none⟩) n cap) h T).toArray] w fun e w' => e = .returned (.bool true) ∧ Ch No w w' := by
  have HC0 : Hid (Ch No w (w.alloc (.cells (pcells (.slice (some ⟨gi, 0, none⟩) 2 3) (.slice (some ⟨gc, 0, none⟩) 2 3) (.slice (some ⟨g, 0, none⟩) n cap) h T).toArray 34))) := (Ch.refl No w).alloc _
  have HP := Lib.hid (Row.new w 34 (pcells (.slice (some ⟨gi, 0, none⟩) 2 3) (.slice (some ⟨gc, 0, none⟩) 2 3) (.slice (some ⟨g, 0, none⟩) n cap) h T))
  have HR := Lib.hid (hr.alloc (.cells (pcells (.slice (some ⟨gi, 0, none⟩) 2 3) (.slice (some ⟨gc, 0, none⟩) 2 3) (.slice (some ⟨g, 0, none⟩) n cap) h T).toArray 34))
  have HI := Lib.hid (hi.alloc (.cells (pcells (.slice (some ⟨gi, 0, none⟩) 2 3) (.slice (some ⟨gc, 0, none⟩) 2 3) (.slice (some ⟨g, 0, none⟩) n cap) h T).toArray 34))
  have HD := Lib.hid (hc.alloc (.cells (pcells (.slice (some ⟨gi, 0, none⟩) 2 3) (.slice (some ⟨gc, 0, none⟩) 2 3) (.slice (some ⟨g, 0, none⟩) n cap) h T).toArray 34))
  clear hr hi hc
  have hcap2 : cap ≤ 9223372036854775807 := by unfold maxLen at hcm; omega
  have hcapI : (n : Int) + 1 ≤ (cap : Int) := by omega
  clear hcm
  go_enter Tryd.func10, Tryd.ntmps10
  go_upto_region 1 with (fail)
  change Code.wp _ _ _ _ (w.alloc (.cells (pcells (.slice (some ⟨gi, 0, none⟩) 2 3) (.slice (some ⟨gc, 0, none⟩) 2 3) (.slice (some ⟨g, 0, none⟩) n cap) h T).toArray 34))
  generalize w.alloc (.cells (pcells (.slice (some ⟨gi, 0, none⟩) 2 3) (.slice (some ⟨gc, 0, none⟩) 2 3) (.slice (some ⟨g, 0, none⟩) n cap) h T).toArray 34) = w1 at *
  have p8 : w1.cell? ⟨w.heap.size, 8, none⟩ = some (.slice (some ⟨g, 0, none⟩) n cap) := HP.out.cell 8
  have p7 : w1.cell? ⟨w.heap.size, 7, none⟩ = some (.slice (some ⟨gc, 0, none⟩) 2 3) := HP.out.cell 7
  have p6 : w1.cell? ⟨w.heap.size, 6, none⟩ = some (.slice (some ⟨gi, 0, none⟩) 2 3) := HP.out.cell 6
  go_wp2_with (fail)
  go_loopw [4] (fun i wr => ∃ j : Nat, j ≤ n + 1 ∧ i = .int .i64 j ∧ wr = w1) (fun i _ => n + 1 - (intOf i).toNat)
  case atStart => exact ⟨0, by omega, rfl, rfl⟩
  case round =>
    obtain ⟨j, hj, rfl, rfl⟩ := hrel
    by_cases hlt : j < n + 1
    · have d0 : decide ((j : Int) < ((n + 1 : Nat) : Int)) = true := by simp; omega
      have HRG := Lib.hid (proc_range HR.out j hlt)
      go_wp2_with ((with_reducible refine at_op (o := ⟨some 23, .load 53 (.tmp 22), _, _, _, _⟩) ?_); refine gd_load_mid rfl 53 (.tmp 22) rfl g (j * 6) rfl [.int .i64 (100 + (j : Int)), .int .i64 0, .int .i64 0, .int .i64 0, .int .i64 0, .bool false] _ HRG.out Tryd.underlying53 rfl size53 ?_)
      go_roundw
      · exact ⟨j + 1, by omega, by go_num, by first | trivial | rfl⟩
      · simp [intOf]; omega
    · obtain rfl : j = n + 1 := by omega
      have d0 : decide (((n + 1 : Nat) : Int) < ((n + 1 : Nat) : Int)) = false := by simp
      have k0 : wr.cell? ⟨gc, 0, none⟩ = some (.int .u8 7) := HD.out.cell 0
      have k1 : wr.cell? ⟨gc, 5, none⟩ = some (.int .u8 8) := HD.out.cell 5
      have k2 : wr.cell? ⟨gc, 10, none⟩ = some (.int .u8 9) := HD.out.cell 10
      have i0 : wr.cell? ⟨gi, 0, none⟩ = some (.int .i64 5) := HI.out.cell 0
      have i1 : wr.cell? ⟨gi, 1, none⟩ = some (.int .i64 6) := HI.out.cell 1
      have i2 : wr.cell? ⟨gi, 2, none⟩ = some (.int .i64 7) := HI.out.cell 2
      go_wp2_with (fail)
      go_ret
      exact ⟨rfl, HC0⟩
end Go.Proofs.YtdgaelbehnlegaaDoor
