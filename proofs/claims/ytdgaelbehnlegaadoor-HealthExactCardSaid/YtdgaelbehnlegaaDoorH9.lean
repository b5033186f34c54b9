/- health.Valid and the document's; intact. -/
import Derived.Test.YtdgaelbehnlegaaDoorH7
import Derived.Test.YtdgaelbehnlegaaDoorP
import Derived.LoopTactic
import Derived.Deep.DeepCutAuto
set_option linter.unusedVariables false
set_option linter.unusedSimpArgs false
namespace Go.Proofs.YtdgaelbehnlegaaDoor
open Go.RowKit
/-- a table's eight numbers -/
def tab8 (T : Nat → Int) : List Value := [.int .i64 (T 0), .int .i64 (T 1), .int .i64 (T 2), .int .i64 (T 3), .int .i64 (T 4), .int .i64 (T 5), .int .i64 (T 6), .int .i64 (T 7)]
theorem tab8_get (T : Nat → Int) (k : Nat) (h : k < 8) : (tab8 T)[k]? = some (.int .i64 (T k)) := by
  match k, h with
  | 0, _ => rfl
  | 1, _ => rfl
  | 2, _ => rfl
  | 3, _ => rfl
  | 4, _ => rfl
  | 5, _ => rfl
  | 6, _ => rfl
  | 7, _ => rfl
/-- a table is valid -/
def okT (T : Nat → Int) : Bool := decide ((∀ j : Nat, j < 8 → 0 ≤ T j ∧ T j ≤ 5) ∧ T 0 = 0)

set_option maxHeartbeats 4000000 in
theorem rvalid_calls (T : Nat → Int) (w : World) : Calls Tryd.prog 15 #[.agg (tab8 T).toArray] w fun e w' => e = .returned (.bool (okT T)) ∧ Ch No w w' := by
  have HR := Lib.hid (Row.new w 22 (tab8 T))
  have HC0 : Hid (Ch No w (w.alloc (.cells (tab8 T).toArray 22))) := (Ch.refl No w).alloc _
  go_enter Tryd.func15, Tryd.ntmps15
  go_upto_region 1 with (fail)
  change Code.wp _ _ _ _ (w.alloc (.cells (tab8 T).toArray 22))
  generalize w.alloc (.cells (tab8 T).toArray 22) = w1 at *
  go_wp2_with (fail)
  go_loopw [3] (fun i wr => ∃ j : Nat, j ≤ 8 ∧ i = .int .i64 j ∧ wr = w1 ∧ Hid (∀ q : Nat, q < j → 0 ≤ T q ∧ T q ≤ 5) ∧ Hid (0 < j → T 0 = 0)) (fun i _ => 8 - (intOf i).toNat)
  case atStart => exact ⟨0, by omega, rfl, rfl, fun q hq => absurd hq (by omega), fun h => absurd h (by omega)⟩
  case round =>
    obtain ⟨j, hj, rfl, rfl, HA, HZ⟩ := hrel
    by_cases hlt : j < 8
    · have d0 : decide ((j : Int) < 8) = true := by simp; omega
      have hj0 : 0 ≤ (j : Int) := by omega
      have hj8 : (j : Int) < 8 := by omega
      have ck : wr.cell? ⟨w.heap.size, j, none⟩ = some (.int .i64 (T j)) := by rw [HR.out.cell]; exact tab8_get T j hlt
      by_cases h1 : T j < 0
      · have b1 : decide (T j < 0) = true := by simpa using h1
        have e : okT T = false := decide_eq_false (fun hh => by have := (hh.1 j hlt).1; omega)
        have HE := Lib.hid e
        clear e h1
        go_wp2_with (fail)
        go_ret
        exact ⟨by rw [HE.out]; rfl, HC0⟩
      have b1 : decide (T j < 0) = false := by simpa using h1
      by_cases h2 : 5 < T j
      · have b2 : decide (5 < T j) = true := by simpa using h2
        have e : okT T = false := decide_eq_false (fun hh => by have := (hh.1 j hlt).2; omega)
        have HE := Lib.hid e
        clear e h1 h2
        go_wp2_with (fail)
        go_ret
        exact ⟨by rw [HE.out]; rfl, HC0⟩
      have b2 : decide (5 < T j) = false := by simpa using h2
      have HA' : Hid (∀ q : Nat, q < j + 1 → 0 ≤ T q ∧ T q ≤ 5) := fun q hq => by
        by_cases e : q = j
        · subst e; omega
        · exact HA.out q (by omega)
      by_cases h0 : j = 0
      · subst h0
        have b3 : (((0 : Nat) : Int) == 0) = true := rfl
        by_cases hz : T 0 = 0
        · have b4 : (T 0 == 0) = true := by simpa using hz
          have b6 : (T 0 != 0) = false := by simp [hz]
          have HZZ := Lib.hid hz
          clear hz h1 h2
          go_wp2_with (fail)
          go_roundw
          · exact ⟨1, by omega, by first | trivial | rfl, by first | trivial | rfl, HA', fun _ => HZZ.out⟩
          · simp [intOf]
        · have b4 : (T 0 == 0) = false := by simpa using hz
          have b6 : (T 0 != 0) = true := by simpa using hz
          have e : okT T = false := decide_eq_false (fun hh => hz hh.2)
          have HE := Lib.hid e
          clear e h1 h2 hz
          go_wp2_with (fail)
          go_ret
          exact ⟨by rw [HE.out]; rfl, HC0⟩
      · have b3 : ((j : Int) == 0) = false := by simp; omega
        have HZ' : Hid (0 < j + 1 → T 0 = 0) := fun _ => HZ.out (by omega)
        clear h1 h2
        go_wp2_with (fail)
        go_roundw
        · exact ⟨j + 1, by omega, by go_num, by first | trivial | rfl, HA', HZ'⟩
        · simp [intOf]; omega
    · obtain rfl : j = 8 := by omega
      have d0 : decide (((8 : Nat) : Int) < 8) = false := by decide
      go_wp2_with (fail)
      have e : okT T = true := decide_eq_true ⟨HA.out, HZ.out (by omega)⟩
      go_ret
      exact ⟨by rw [e]; rfl, HC0⟩
theorem index_tab (T : Nat → Int) (j : Nat) (hj : j < 8) (w : World) : (Instr.index 22 (.agg (tab8 T).toArray) (.int .i64 (j : Int))).run Tryd.prog w = .ok (.int .i64 (T j)) w := by
  match j, hj with
  | 0, _ => show Sem.run Tryd.prog (Instr.index 22 (.agg (tab8 T).toArray) (.int .i64 0)) w = .ok (.int .i64 (T 0)) w; kernel_rfl
  | 1, _ => show Sem.run Tryd.prog (Instr.index 22 (.agg (tab8 T).toArray) (.int .i64 1)) w = .ok (.int .i64 (T 1)) w; kernel_rfl
  | 2, _ => show Sem.run Tryd.prog (Instr.index 22 (.agg (tab8 T).toArray) (.int .i64 2)) w = .ok (.int .i64 (T 2)) w; kernel_rfl
  | 3, _ => show Sem.run Tryd.prog (Instr.index 22 (.agg (tab8 T).toArray) (.int .i64 3)) w = .ok (.int .i64 (T 3)) w; kernel_rfl
  | 4, _ => show Sem.run Tryd.prog (Instr.index 22 (.agg (tab8 T).toArray) (.int .i64 4)) w = .ok (.int .i64 (T 4)) w; kernel_rfl
  | 5, _ => show Sem.run Tryd.prog (Instr.index 22 (.agg (tab8 T).toArray) (.int .i64 5)) w = .ok (.int .i64 (T 5)) w; kernel_rfl
  | 6, _ => show Sem.run Tryd.prog (Instr.index 22 (.agg (tab8 T).toArray) (.int .i64 6)) w = .ok (.int .i64 (T 6)) w; kernel_rfl
  | 7, _ => show Sem.run Tryd.prog (Instr.index 22 (.agg (tab8 T).toArray) (.int .i64 7)) w = .ok (.int .i64 (T 7)) w; kernel_rfl
theorem exec_index {P : Program} {a : Act} {o : Oper} {w : World} (t : TypeId) (x y : Operand) (ho : o.op = .index t x y) (vx vy v : Value)
    (hx : a.eval x = vx) (hy : a.eval y = vy) (h : (Instr.index t vx vy).run P w = .ok v w) : (execOp a.eval o).run P w = .ok (.value v) w := by
  unfold execOp
  subst hx hy
  simp only [ho, Sem.run_bind, h, Result.andThen_ok, Sem.run_pure]

set_option maxHeartbeats 4000000 in
theorem valid_calls (T : Nat → Int) (w : World) : Calls Tryd.prog 14 #[.agg (tab8 T).toArray] w fun e w' => e = .returned (.bool (okT T)) ∧ Ch No w w' := by
  have HR := Lib.hid (Row.new w 22 (tab8 T))
  have HC0 : Hid (Ch No w (w.alloc (.cells (tab8 T).toArray 22))) := (Ch.refl No w).alloc _
  have size22 : (Tryd.prog.info? 22).map (·.size) = some (tab8 T).length := by kernel_rfl
  go_enter Tryd.func14, Tryd.ntmps14
  go_upto_region 1 with (fail)
  change Code.wp _ _ _ _ (w.alloc (.cells (tab8 T).toArray 22))
  generalize w.alloc (.cells (tab8 T).toArray 22) = w1 at *
  go_wp2_with ((with_reducible refine at_op (o := ⟨some 5, .load 22 (.tmp 1), _, _, _, _⟩) ?_); refine pl_load rfl 22 (.tmp 1) rfl w.heap.size rfl 22 (tab8 T) HR.out _ Tryd.underlying22 rfl size22 ?_)
  go_loopw [6] (fun i wr => ∃ j : Nat, j ≤ 8 ∧ i = .int .i64 j ∧ wr = w1 ∧ Hid (∀ q : Nat, q < j → 0 ≤ T q ∧ T q ≤ 5)) (fun i _ => 8 - (intOf i).toNat)
  case atStart => exact ⟨0, by omega, rfl, rfl, fun q hq => absurd hq (by omega)⟩
  case round =>
    obtain ⟨j, hj, rfl, rfl, HA⟩ := hrel
    have c0 : wr.cell? ⟨w.heap.size, 0, none⟩ = some (.int .i64 (T 0)) := by rw [HR.out.cell]; exact tab8_get T 0 (by omega)
    by_cases hlt : j < 8
    · have d0 : decide ((j : Int) < 8) = true := by simp; omega
      have hj0 : 0 ≤ (j : Int) := by omega
      have hj8 : (j : Int) < 8 := by omega
      have HIX := Lib.hid (fun w => index_tab T j hlt w)
      by_cases h1 : T j < 0 ∨ 5 < T j
      · have e : okT T = false := decide_eq_false (fun hh => by have := hh.1 j hlt; omega)
        have HE := Lib.hid e
        have H1 := Lib.hid h1
        clear e h1
        go_wp2_with (first | ((with_reducible refine at_op (o := ⟨some 8, .index 22 (.tmp 5) (.tmp 6), _, _, _, _⟩) ?_); refine pl_value rfl (.int .i64 (T j)) (exec_index 22 (.tmp 5) (.tmp 6) rfl _ _ _ rfl rfl (HIX.out _)) ?_) | (go_at_call 19; refine (isAction_no _ _ H1.out).mono ?_; rintro e w' ⟨rfl, rfl⟩))
        go_ret
        exact ⟨by rw [HE.out]; rfl, HC0⟩
      · have h01 : 0 ≤ T j := by omega
        have h05 : T j ≤ 5 := by omega
        have HA' : Hid (∀ q : Nat, q < j + 1 → 0 ≤ T q ∧ T q ≤ 5) := fun q hq => by
          by_cases e : q = j
          · subst e; omega
          · exact HA.out q (by omega)
        have H01 := Lib.hid h01
        have H05 := Lib.hid h05
        clear h1 h01 h05
        go_wp2_with (first | ((with_reducible refine at_op (o := ⟨some 8, .index 22 (.tmp 5) (.tmp 6), _, _, _, _⟩) ?_); refine pl_value rfl (.int .i64 (T j)) (exec_index 22 (.tmp 5) (.tmp 6) rfl _ _ _ rfl rfl (HIX.out _)) ?_) | (go_at_call 19; refine (isAction_yes _ _ H01.out H05.out).mono ?_; rintro e w' ⟨rfl, rfl⟩))
        go_roundw
        · exact ⟨j + 1, by omega, by go_num, by first | trivial | rfl, HA'⟩
        · simp [intOf]; omega
    · obtain rfl : j = 8 := by omega
      have d0 : decide (((8 : Nat) : Int) < 8) = false := by decide
      have e : okT T = (T 0 == 0) := by
        unfold okT
        by_cases hz : T 0 = 0
        · rw [decide_eq_true ⟨HA.out, hz⟩]; simp [hz]
        · rw [decide_eq_false (fun hh => hz hh.2)]; simp [hz]
      have HE := Lib.hid e
      clear e
      go_wp2_with (fail)
      go_ret
      exact ⟨by rw [HE.out]; rfl, HC0⟩
end Go.Proofs.YtdgaelbehnlegaaDoor
