/- loads in a region's head -/
import Derived.Test.YtellmlffkgfeiaaDoorH0
import Derived.Test.YtellmlffkgfeiaaDoorEE
import Derived.Deep.DeepCutAuto
import Derived.Deep.MidRow
set_option linter.unusedVariables false
set_option linter.unusedSimpArgs false
namespace Go.Proofs.YtellmlffkgfeiaaDoor
open Go.RowKit
/-- a cell is read, in a region's head -/
theorem exec_load_cell {P : Program} {a : Act} {o : Oper} {w : World} (ty : TypeId) (x : Operand) (ho : o.op = .load ty x) (p : Addr) (hx : a.eval x = .pointer (some p)) (d : TypeDesc) (hu : P.underlying ty = some d)
    (hd : (match d with | .struct _ | .array _ _ => true | _ => false) = false) (v : Value) (hc : w.cell? p = some v) : (execOp a.eval o).run P w = .ok (.value v) w := by
  have hagg : (isAgg ty).run P w = .ok false w := by
    unfold isAgg
    rw [Sem.run_bind, run_underlying hu w]
    cases d <;> simp_all
  unfold execOp
  simp [ho, hx, Instr.loadAt, Instr.sureAddr, loadVar, Sem.run_bind, Sem.run_pure, hagg, run_load, hc]
theorem exec_load_mid {P : Program} {a : Act} {o : Oper} {w : World} (ty : TypeId) (x : Operand) (ho : o.op = .load ty x) (b off : Nat) (hx : a.eval x = .pointer (some ⟨b, off, none⟩)) (cs : List Value) (d : TypeDesc) (hc : w.rangeAt b off cs)
    (hu : P.underlying ty = some d) (hd : d.isRow = true) (hi : (P.info? ty).map (·.size) = some cs.length) : (execOp a.eval o).run P w = .ok (.value (.agg cs.toArray)) w := by
  unfold execOp
  simp only [ho, hx, Sem.run_bind, Sem.run_pure, Result.andThen_ok, run_loadAt_mid w b off ty cs d hc hu hd hi]
theorem mach_range {w : World} {g : Nat} {code m : Value} {fixed : Int} {r : Nat → Int} {pc : Int} (h : Row w g 26 (machCells code m fixed r pc)) : w.rangeAt g 3 (regCells r) := by
  intro j v hj
  have hlt : j < 16 := by
    have := (List.getElem?_eq_some_iff.1 hj).1
    rwa [regCells_length] at this
  rw [h.cell, mach_get _ _ _ _ _ j hlt, ← hj, regCells_get _ _ hlt]
theorem exec_eq_eff {a : Act} {o : Oper} (w : World) (x y : Operand) (ho : o.op = .binOp .eql 30 x y 30) (E : Eff) (hx : a.eval x = .agg (effCells E).toArray) (hy : a.eval y = .agg (effCells E).toArray) : (execOp a.eval o).run Tryd.prog w = .ok (.value (.bool true)) w := by
  have h := eq_eff E w
  unfold execOp
  simp only [ho, hx, hy]
  have h2 : Sem.run Tryd.prog (Op.equal 30 (.agg (effCells E).toArray) (.agg (effCells E).toArray)) w = .ok true w := h
  simp [eqGuard, binOp, Sem.run_bind, h2]
end Go.Proofs.YtellmlffkgfeiaaDoor
