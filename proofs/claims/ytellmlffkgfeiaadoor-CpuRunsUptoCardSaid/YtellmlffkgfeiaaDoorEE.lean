/- Two effects compared. -/
import Derived.Test.YtellmlffkgfeiaaDoorC10
set_option linter.unusedVariables false
set_option linter.unusedSimpArgs false
namespace Go.Proofs.YtellmlffkgfeiaaDoor
open Go.RowKit
theorem eq_i64' (a b : Int) (w : World) : (Op.equalIn 9998 2 (.int .i64 a) (.int .i64 b)).run Tryd.prog w = .ok (a == b) w := run_equalIn_int w 9997 2 .i64 .i64 a b Tryd.underlying2
theorem eq_regs' (r r' : Nat → Int) (w : World) : (Op.equalIn 9999 24 (.agg (regCells r).toArray) (.agg (regCells r').toArray)).run Tryd.prog w = .ok ((List.range 16).all fun i => r i == r' i) w := by
  unfold Op.equalIn
  rw [Sem.run_bind, run_underlying Tryd.underlying24 w]
  simp only [Result.andThen_ok]
  rw [Sem.run_bind, show (sizeOf 2).run Tryd.prog w = .ok 1 w by kernel_rfl]
  simp only [Result.andThen_ok]
  rw [Sem.run_bind]
  simp only [Std.Legacy.Range.forIn_eq_forIn_range']
  have key : ∀ l : List Nat, (∀ i ∈ l, i < 16) → Sem.run Tryd.prog
      (forIn l ((none, ()) : Option Bool × Unit) fun i __s => do
        let a ← part 2 (regCells r).toArray (i * 1)
        let b ← part 2 (regCells r').toArray (i * 1)
        let c ← Op.equalIn 9998 2 a b
        if (!c) = true then pure (ForInStep.done (some false, ())) else pure (ForInStep.yield (none, ()))) w = .ok (if (l.all fun i => r i == r' i) = true then (none, ()) else (some false, ())) w := by
    intro l
    induction l with
    | nil => intro _; rfl
    | cons i l ih =>
      intro hl
      have hi := hl i (by simp)
      rw [List.forIn_cons, Sem.run_bind, Sem.run_bind, part_reg r i hi]
      simp only [Result.andThen_ok]
      rw [Sem.run_bind, part_reg r' i hi]
      simp only [Result.andThen_ok]
      rw [Sem.run_bind, eq_i64']
      simp only [Result.andThen_ok]
      by_cases h : r i = r' i
      · have hb : (r i == r' i) = true := by simpa using h
        simp only [hb, Bool.not_true, Bool.false_eq_true, if_false, Sem.run_pure, Result.andThen_ok, List.all_cons, Bool.true_and]
        exact ih (fun j hj => hl j (by simp [hj]))
      · have hb : (r i == r' i) = false := by simpa using h
        simp only [hb, Bool.not_false, if_true, Sem.run_pure, Result.andThen_ok, List.all_cons, Bool.false_and, Bool.false_eq_true, if_false]
  have h16 : List.range' 0 ([:16] : Std.Legacy.Range).size = List.range 16 := by decide
  rw [h16, key (List.range 16) (fun i hi => by simpa using hi)]
  simp only [Result.andThen_ok]
  cases (List.range 16).all fun i => r i == r' i <;> rfl
theorem isAgg24 (w : World) : (isAgg 24).run Tryd.prog w = .ok true w := by
  unfold isAgg
  rw [Sem.run_bind, run_underlying Tryd.underlying24 w]
  rfl
theorem part_regs (E : Eff) (w : World) : (part 24 (effCells E).toArray 0).run Tryd.prog w = .ok (.agg (regCells E.r).toArray) w := by
  unfold part
  rw [Sem.run_bind, isAgg24]
  simp only [Result.andThen_ok, if_true]
  rw [Sem.run_bind, show (sizeOf 24).run Tryd.prog w = .ok 16 w by kernel_rfl]
  simp only [Result.andThen_ok, Sem.run_pure]
  congr 2
theorem eq_eff (E : Eff) (w : World) : (Op.equalIn 10000 30 (.agg (effCells E).toArray) (.agg (effCells E).toArray)).run Tryd.prog w = .ok true w := by
  have hg : ∀ i, (effCells E)[16 + i]? = [Value.int .i64 E.pc, .bool E.st, .int .i64 E.addr, .int .i64 E.val, .int .i64 E.fault, .int .i64 E.call][i]? := eff_rest E
  have h0 := hg 0
  have h1 := hg 1
  have h2 := hg 2
  have h3 := hg 3
  have h4 := hg 4
  have h5 := hg 5
  have hr := eq_regs' E.r E.r
  have hp := part_regs E
  have ht : List.take 16 (effCells E) = regCells E.r := by simp [effCells, regCells_length]
  go_simp
end Go.Proofs.YtellmlffkgfeiaaDoor
