/- cpu.Step: what an instruction does to registers and memory. -/
import Derived.Test.YtellmlffkgfeiaaDoorC6
import Derived.Laws.EntriesVeiled
import Derived.Deep.RegionHeld3
set_option linter.unusedVariables false
set_option linter.unusedSimpArgs false
namespace Go.Proofs.YtellmlffkgfeiaaDoor
open Go.RowKit
theorem size24 : (Tryd.prog.info? 24).map (·.size) = some 16 := by kernel_rfl
theorem size30 : (Tryd.prog.info? 30).map (·.size) = some 22 := by kernel_rfl
theorem size54 : (Tryd.prog.info? 54).map (·.size) = some 3 := by kernel_rfl
/-- an effect that begins -/
def eff0 (r : Nat → Int) (pc fault : Int) : Eff := ⟨r, pc, false, 0, 0, fault, 0⟩
def zeroEff : Eff := eff0 (fun _ => 0) 0 0
theorem build_2 (r : Nat → Int) (pc : Int) (w : World) : (Instr.build 30 #[(0, .agg (regCells r).toArray), (1, .int .i64 pc)]).run Tryd.prog w = .ok (.agg (effCells (eff0 r pc 0)).toArray) w := by kernel_rfl
theorem build_3 (r : Nat → Int) (pc : Int) (w : World) : (Instr.build 30 #[(0, .agg (regCells r).toArray), (1, .int .i64 pc), (5, .int .i64 4)]).run Tryd.prog w = .ok (.agg (effCells (eff0 r pc 4)).toArray) w := by kernel_rfl
/-- an operation that answers a value and leaves the world alone -/
theorem wpList_value {P : Program} {ops : Array Oper} {rest : List Oper} {o : Oper} {a : Act} {Q : Exit → Act → World → Prop} {w : World} (hw : Region.wanted o (yielded ops a.tmps) = true) (v : Value)
    (hv : (execOp a.eval o).run P w = .ok (.value v) w) (h : wpList P ops Q rest (a.put o.dst v) w) : wpList P ops Q (o :: rest) a w :=
  wpList_want hw fun K hK => by
    unfold Oper.wp
    rw [hv]
    exact hK _ _ h
theorem exec_build {ρ : Operand → Value} {dst : Option Tmp} {ty : TypeId} {pos : String} {after : Array Edge} {guard : Option (Nat × Bool)} {P : Program} {w : World} {t : TypeId} {parts : Array (Nat × Operand)} {v : Value}
    (h : (Instr.build t (parts.map fun p => (p.1, ρ p.2))).run P w = .ok v w) : (execOp ρ { dst, op := .build t parts, type := ty, pos, after, guard }).run P w = .ok (.value v) w := by
  unfold execOp
  simp only [Sem.run_bind, h, Result.andThen_ok, Sem.run_pure]
/-- the fixed words, brought in -/
def fix (fixed : Int) (n : Nat) : Int := min (max fixed 0) (n : Int)
/-- a whole block is read, in a region's head -/
theorem exec_load_agg {P : Program} {a : Act} {o : Oper} {w : World} (ty : TypeId) (x : Operand) (ho : o.op = .load ty x) (g : Nat) (hx : a.eval x = .pointer (some ⟨g, 0, none⟩)) (t : TypeId) (L : List Value) (hr : Row w g t L) (d : TypeDesc)
    (hu : P.underlying ty = some d) (hd : (match d with | .struct _ | .array _ _ => true | _ => false) = true) (hi : (P.info? ty).map (·.size) = some L.length) : (execOp a.eval o).run P w = .ok (.value (.agg L.toArray)) w := by
  unfold execOp
  simp only [ho, hx, Instr.loadAt, Instr.sureAddr, Sem.run_bind, Sem.run_pure, Result.andThen_ok, run_loadVar_row w g t ty L.toArray (0, 0) d hr hu hd (by simpa using hi)]
set_option maxHeartbeats 1000000 in
theorem step_out_00 (A : Option Addr) (len cap : Nat) (hl : len ≤ 9223372036854775807) (M : Option Addr) (mlen mcap : Nat) (hm : mlen ≤ 9223372036854775807) (fixed : Int) (hf : fixed < 0) (r : Nat → Int) (pc : Int) (hpc : pc < 0) (w : World) :
    Calls Tryd.prog 12 #[.slice A len cap, .slice M mlen mcap, .int .i64 fixed, .agg (regCells r).toArray, .int .i64 pc] w fun e w' => e = .returned (.agg (effCells (eff0 r (inn len pc) 4)).toArray) ∧ Ch No w w' := by
  have HI16 : Hid ((Tryd.prog.info? 24).map (·.size) = some (regCells r).length) := by rw [regCells_length]; exact size24
  have HI22 : Hid ((Tryd.prog.info? 30).map (·.size) = some (effCells (eff0 r (inn len pc) 4)).length) := by rw [effCells_length]; exact size30
  have HZ0 : Hid (Row ((w.alloc (.cells (regCells r).toArray 24)).alloc (.cells (effCells zeroEff).toArray 30)) (w.heap.size + 1) 30 (effCells zeroEff)) := Row.new_at _ 30 (effCells zeroEff) (by simp)
  go_enter Tryd.func12, Tryd.ntmps12
  go_wp2
  refine wp_region_quiet_tail 5 (by kernel_rfl) (by kernel_rfl) (fun w' => Ch No _ w') ((Ch.refl _ _).drew) ?_
  simp only [List.take_succ_cons, List.take_zero, List.drop_succ_cons, List.drop_zero]
  refine wpQuiet_read (by rfl) (.agg (regCells r).toArray) ?h1 ?r1
  case h1 =>
    intro w' hw'
    have hr : Row w' w.heap.size 24 (regCells r) := (((Row.new w 24 (regCells r)).alloc _).alloc _).keepNo hw'
    exact exec_load_agg 24 (.tmp 8) rfl w.heap.size rfl 24 (regCells r) hr _ Tryd.underlying24 rfl HI16.out
  refine wpQuiet_read (by rfl) (.agg #[.slice A len cap, .slice M mlen mcap, .int .i64 0]) ?h2 ?r2
  case h2 =>
    intro w' hw'
    have hr : Row w' (w.heap.size + 1 + 1) 54 [.slice A len cap, .slice M mlen mcap, .int .i64 0] := (Row.new_at _ 54 [.slice A len cap, .slice M mlen mcap, .int .i64 0] (by simp)).keepNo hw'
    exact exec_load_agg 54 (.tmp 11) rfl (w.heap.size + 1 + 1) rfl 54 _ hr _ Tryd.underlying54 rfl size54
  refine wpQuiet_value (by rfl) (.int .i64 pc) (fun _ => rfl) ?_
  refine wpQuiet_call (by rfl) (.int .i64 (inn len pc)) 25 #[.agg #[.slice A len cap, .slice M mlen mcap, .int .i64 0], .int .i64 pc] (fun _ => by kernel_rfl) (fun w' hw' => (to_calls A len cap hl _ _ pc _).mono fun e w'' h => ⟨h.1, hw'.then_ h.2⟩) ?_
  refine wpQuiet_value (by rfl) (.agg (effCells (eff0 r (inn len pc) 4)).toArray) (fun _ => by kernel_rfl) ?_
  refine wpQuiet_nil ?_
  simp only [Act.put, List.setIfInBounds_toArray, List.set_cons_zero, List.set_cons_succ]
  intro w2 hw2
  have HW2 := Lib.hid hw2
  have HR2 : Hid (Row w2 (w.heap.size + 1) 30 (effCells zeroEff)) := (HZ0.out.alloc _).keepNo hw2
  have HC2 : Hid (Ch No w w2) := (((Ch.refl No w).alloc _).alloc _).alloc _ |>.then_ hw2
  clear hw2
  refine wpList_store_agg (o := ⟨none, _, _, _, _, _⟩) (by rfl) 30 (.tmp 10) (.tmp 33) rfl (w.heap.size + 1) rfl 30 (effCells zeroEff) (effCells (eff0 r (inn len pc) 4)) rfl HR2.out HI22.out (by rw [effCells_length, effCells_length]) (eff_one _) ?_
  intro w5 hr5 hc5
  have HR5 := Lib.hid hr5
  have HC5 := Lib.hid hc5
  clear hr5 hc5
  simp only [Act.put, List.setIfInBounds_toArray, List.set_cons_zero, List.set_cons_succ]
  go_wp2
  refine bodyPost_ret (v := .agg (effCells (eff0 r (inn len pc) 4)).toArray) (results_row rfl _ _ (w.heap.size + 1) 30 _ _ rfl HR5.out Tryd.underlying30 rfl HI22.out) rfl ⟨rfl, HC2.out.trans HC5.out (fun i hi he => by cases he; omega)⟩
set_option maxHeartbeats 1000000 in
theorem step_out_01 (A : Option Addr) (len cap : Nat) (hl : len ≤ 9223372036854775807) (M : Option Addr) (mlen mcap : Nat) (hm : mlen ≤ 9223372036854775807) (fixed : Int) (hf : fixed < 0) (r : Nat → Int) (pc : Int) (hpc : 0 ≤ pc) (hpc2 : (len : Int) ≤ pc) (w : World) :
    Calls Tryd.prog 12 #[.slice A len cap, .slice M mlen mcap, .int .i64 fixed, .agg (regCells r).toArray, .int .i64 pc] w fun e w' => e = .returned (.agg (effCells (eff0 r (inn len pc) 4)).toArray) ∧ Ch No w w' := by
  have HI16 : Hid ((Tryd.prog.info? 24).map (·.size) = some (regCells r).length) := by rw [regCells_length]; exact size24
  have HI22 : Hid ((Tryd.prog.info? 30).map (·.size) = some (effCells (eff0 r (inn len pc) 4)).length) := by rw [effCells_length]; exact size30
  have HZ0 : Hid (Row ((w.alloc (.cells (regCells r).toArray 24)).alloc (.cells (effCells zeroEff).toArray 30)) (w.heap.size + 1) 30 (effCells zeroEff)) := Row.new_at _ 30 (effCells zeroEff) (by simp)
  go_enter Tryd.func12, Tryd.ntmps12
  go_wp2
  refine wp_region_quiet_tail 5 (by kernel_rfl) (by kernel_rfl) (fun w' => Ch No _ w') ((Ch.refl _ _).drew) ?_
  simp only [List.take_succ_cons, List.take_zero, List.drop_succ_cons, List.drop_zero]
  refine wpQuiet_read (by rfl) (.agg (regCells r).toArray) ?h1 ?r1
  case h1 =>
    intro w' hw'
    have hr : Row w' w.heap.size 24 (regCells r) := (((Row.new w 24 (regCells r)).alloc _).alloc _).keepNo hw'
    exact exec_load_agg 24 (.tmp 8) rfl w.heap.size rfl 24 (regCells r) hr _ Tryd.underlying24 rfl HI16.out
  refine wpQuiet_read (by rfl) (.agg #[.slice A len cap, .slice M mlen mcap, .int .i64 0]) ?h2 ?r2
  case h2 =>
    intro w' hw'
    have hr : Row w' (w.heap.size + 1 + 1) 54 [.slice A len cap, .slice M mlen mcap, .int .i64 0] := (Row.new_at _ 54 [.slice A len cap, .slice M mlen mcap, .int .i64 0] (by simp)).keepNo hw'
    exact exec_load_agg 54 (.tmp 11) rfl (w.heap.size + 1 + 1) rfl 54 _ hr _ Tryd.underlying54 rfl size54
  refine wpQuiet_value (by rfl) (.int .i64 pc) (fun _ => rfl) ?_
  refine wpQuiet_call (by rfl) (.int .i64 (inn len pc)) 25 #[.agg #[.slice A len cap, .slice M mlen mcap, .int .i64 0], .int .i64 pc] (fun _ => by kernel_rfl) (fun w' hw' => (to_calls A len cap hl _ _ pc _).mono fun e w'' h => ⟨h.1, hw'.then_ h.2⟩) ?_
  refine wpQuiet_value (by rfl) (.agg (effCells (eff0 r (inn len pc) 4)).toArray) (fun _ => by kernel_rfl) ?_
  refine wpQuiet_nil ?_
  simp only [Act.put, List.setIfInBounds_toArray, List.set_cons_zero, List.set_cons_succ]
  intro w2 hw2
  have HW2 := Lib.hid hw2
  have HR2 : Hid (Row w2 (w.heap.size + 1) 30 (effCells zeroEff)) := (HZ0.out.alloc _).keepNo hw2
  have HC2 : Hid (Ch No w w2) := (((Ch.refl No w).alloc _).alloc _).alloc _ |>.then_ hw2
  clear hw2
  refine wpList_store_agg (o := ⟨none, _, _, _, _, _⟩) (by rfl) 30 (.tmp 10) (.tmp 33) rfl (w.heap.size + 1) rfl 30 (effCells zeroEff) (effCells (eff0 r (inn len pc) 4)) rfl HR2.out HI22.out (by rw [effCells_length, effCells_length]) (eff_one _) ?_
  intro w5 hr5 hc5
  have HR5 := Lib.hid hr5
  have HC5 := Lib.hid hc5
  clear hr5 hc5
  simp only [Act.put, List.setIfInBounds_toArray, List.set_cons_zero, List.set_cons_succ]
  go_wp2
  refine bodyPost_ret (v := .agg (effCells (eff0 r (inn len pc) 4)).toArray) (results_row rfl _ _ (w.heap.size + 1) 30 _ _ rfl HR5.out Tryd.underlying30 rfl HI22.out) rfl ⟨rfl, HC2.out.trans HC5.out (fun i hi he => by cases he; omega)⟩
set_option maxHeartbeats 1000000 in
theorem step_out_10 (A : Option Addr) (len cap : Nat) (hl : len ≤ 9223372036854775807) (M : Option Addr) (mlen mcap : Nat) (hm : mlen ≤ 9223372036854775807) (fixed : Int) (hf : (mlen : Int) < fixed) (r : Nat → Int) (pc : Int) (hpc : pc < 0) (w : World) :
    Calls Tryd.prog 12 #[.slice A len cap, .slice M mlen mcap, .int .i64 fixed, .agg (regCells r).toArray, .int .i64 pc] w fun e w' => e = .returned (.agg (effCells (eff0 r (inn len pc) 4)).toArray) ∧ Ch No w w' := by
  have HI16 : Hid ((Tryd.prog.info? 24).map (·.size) = some (regCells r).length) := by rw [regCells_length]; exact size24
  have HI22 : Hid ((Tryd.prog.info? 30).map (·.size) = some (effCells (eff0 r (inn len pc) 4)).length) := by rw [effCells_length]; exact size30
  have HZ0 : Hid (Row ((w.alloc (.cells (regCells r).toArray 24)).alloc (.cells (effCells zeroEff).toArray 30)) (w.heap.size + 1) 30 (effCells zeroEff)) := Row.new_at _ 30 (effCells zeroEff) (by simp)
  go_enter Tryd.func12, Tryd.ntmps12
  go_wp2
  refine wp_region_quiet_tail 5 (by kernel_rfl) (by kernel_rfl) (fun w' => Ch No _ w') ((Ch.refl _ _).drew) ?_
  simp only [List.take_succ_cons, List.take_zero, List.drop_succ_cons, List.drop_zero]
  refine wpQuiet_read (by rfl) (.agg (regCells r).toArray) ?h1 ?r1
  case h1 =>
    intro w' hw'
    have hr : Row w' w.heap.size 24 (regCells r) := (((Row.new w 24 (regCells r)).alloc _).alloc _).keepNo hw'
    exact exec_load_agg 24 (.tmp 8) rfl w.heap.size rfl 24 (regCells r) hr _ Tryd.underlying24 rfl HI16.out
  refine wpQuiet_read (by rfl) (.agg #[.slice A len cap, .slice M mlen mcap, .int .i64 (mlen : Int)]) ?h2 ?r2
  case h2 =>
    intro w' hw'
    have hr : Row w' (w.heap.size + 1 + 1) 54 [.slice A len cap, .slice M mlen mcap, .int .i64 (mlen : Int)] := (Row.new_at _ 54 [.slice A len cap, .slice M mlen mcap, .int .i64 (mlen : Int)] (by simp)).keepNo hw'
    exact exec_load_agg 54 (.tmp 11) rfl (w.heap.size + 1 + 1) rfl 54 _ hr _ Tryd.underlying54 rfl size54
  refine wpQuiet_value (by rfl) (.int .i64 pc) (fun _ => rfl) ?_
  refine wpQuiet_call (by rfl) (.int .i64 (inn len pc)) 25 #[.agg #[.slice A len cap, .slice M mlen mcap, .int .i64 (mlen : Int)], .int .i64 pc] (fun _ => by kernel_rfl) (fun w' hw' => (to_calls A len cap hl _ _ pc _).mono fun e w'' h => ⟨h.1, hw'.then_ h.2⟩) ?_
  refine wpQuiet_value (by rfl) (.agg (effCells (eff0 r (inn len pc) 4)).toArray) (fun _ => by kernel_rfl) ?_
  refine wpQuiet_nil ?_
  simp only [Act.put, List.setIfInBounds_toArray, List.set_cons_zero, List.set_cons_succ]
  intro w2 hw2
  have HW2 := Lib.hid hw2
  have HR2 : Hid (Row w2 (w.heap.size + 1) 30 (effCells zeroEff)) := (HZ0.out.alloc _).keepNo hw2
  have HC2 : Hid (Ch No w w2) := (((Ch.refl No w).alloc _).alloc _).alloc _ |>.then_ hw2
  clear hw2
  refine wpList_store_agg (o := ⟨none, _, _, _, _, _⟩) (by rfl) 30 (.tmp 10) (.tmp 33) rfl (w.heap.size + 1) rfl 30 (effCells zeroEff) (effCells (eff0 r (inn len pc) 4)) rfl HR2.out HI22.out (by rw [effCells_length, effCells_length]) (eff_one _) ?_
  intro w5 hr5 hc5
  have HR5 := Lib.hid hr5
  have HC5 := Lib.hid hc5
  clear hr5 hc5
  simp only [Act.put, List.setIfInBounds_toArray, List.set_cons_zero, List.set_cons_succ]
  go_wp2
  refine bodyPost_ret (v := .agg (effCells (eff0 r (inn len pc) 4)).toArray) (results_row rfl _ _ (w.heap.size + 1) 30 _ _ rfl HR5.out Tryd.underlying30 rfl HI22.out) rfl ⟨rfl, HC2.out.trans HC5.out (fun i hi he => by cases he; omega)⟩
set_option maxHeartbeats 1000000 in
theorem step_out_11 (A : Option Addr) (len cap : Nat) (hl : len ≤ 9223372036854775807) (M : Option Addr) (mlen mcap : Nat) (hm : mlen ≤ 9223372036854775807) (fixed : Int) (hf : (mlen : Int) < fixed) (r : Nat → Int) (pc : Int) (hpc : 0 ≤ pc) (hpc2 : (len : Int) ≤ pc) (w : World) :
    Calls Tryd.prog 12 #[.slice A len cap, .slice M mlen mcap, .int .i64 fixed, .agg (regCells r).toArray, .int .i64 pc] w fun e w' => e = .returned (.agg (effCells (eff0 r (inn len pc) 4)).toArray) ∧ Ch No w w' := by
  have HI16 : Hid ((Tryd.prog.info? 24).map (·.size) = some (regCells r).length) := by rw [regCells_length]; exact size24
  have HI22 : Hid ((Tryd.prog.info? 30).map (·.size) = some (effCells (eff0 r (inn len pc) 4)).length) := by rw [effCells_length]; exact size30
  have HZ0 : Hid (Row ((w.alloc (.cells (regCells r).toArray 24)).alloc (.cells (effCells zeroEff).toArray 30)) (w.heap.size + 1) 30 (effCells zeroEff)) := Row.new_at _ 30 (effCells zeroEff) (by simp)
  go_enter Tryd.func12, Tryd.ntmps12
  go_wp2
  refine wp_region_quiet_tail 5 (by kernel_rfl) (by kernel_rfl) (fun w' => Ch No _ w') ((Ch.refl _ _).drew) ?_
  simp only [List.take_succ_cons, List.take_zero, List.drop_succ_cons, List.drop_zero]
  refine wpQuiet_read (by rfl) (.agg (regCells r).toArray) ?h1 ?r1
  case h1 =>
    intro w' hw'
    have hr : Row w' w.heap.size 24 (regCells r) := (((Row.new w 24 (regCells r)).alloc _).alloc _).keepNo hw'
    exact exec_load_agg 24 (.tmp 8) rfl w.heap.size rfl 24 (regCells r) hr _ Tryd.underlying24 rfl HI16.out
  refine wpQuiet_read (by rfl) (.agg #[.slice A len cap, .slice M mlen mcap, .int .i64 (mlen : Int)]) ?h2 ?r2
  case h2 =>
    intro w' hw'
    have hr : Row w' (w.heap.size + 1 + 1) 54 [.slice A len cap, .slice M mlen mcap, .int .i64 (mlen : Int)] := (Row.new_at _ 54 [.slice A len cap, .slice M mlen mcap, .int .i64 (mlen : Int)] (by simp)).keepNo hw'
    exact exec_load_agg 54 (.tmp 11) rfl (w.heap.size + 1 + 1) rfl 54 _ hr _ Tryd.underlying54 rfl size54
  refine wpQuiet_value (by rfl) (.int .i64 pc) (fun _ => rfl) ?_
  refine wpQuiet_call (by rfl) (.int .i64 (inn len pc)) 25 #[.agg #[.slice A len cap, .slice M mlen mcap, .int .i64 (mlen : Int)], .int .i64 pc] (fun _ => by kernel_rfl) (fun w' hw' => (to_calls A len cap hl _ _ pc _).mono fun e w'' h => ⟨h.1, hw'.then_ h.2⟩) ?_
  refine wpQuiet_value (by rfl) (.agg (effCells (eff0 r (inn len pc) 4)).toArray) (fun _ => by kernel_rfl) ?_
  refine wpQuiet_nil ?_
  simp only [Act.put, List.setIfInBounds_toArray, List.set_cons_zero, List.set_cons_succ]
  intro w2 hw2
  have HW2 := Lib.hid hw2
  have HR2 : Hid (Row w2 (w.heap.size + 1) 30 (effCells zeroEff)) := (HZ0.out.alloc _).keepNo hw2
  have HC2 : Hid (Ch No w w2) := (((Ch.refl No w).alloc _).alloc _).alloc _ |>.then_ hw2
  clear hw2
  refine wpList_store_agg (o := ⟨none, _, _, _, _, _⟩) (by rfl) 30 (.tmp 10) (.tmp 33) rfl (w.heap.size + 1) rfl 30 (effCells zeroEff) (effCells (eff0 r (inn len pc) 4)) rfl HR2.out HI22.out (by rw [effCells_length, effCells_length]) (eff_one _) ?_
  intro w5 hr5 hc5
  have HR5 := Lib.hid hr5
  have HC5 := Lib.hid hc5
  clear hr5 hc5
  simp only [Act.put, List.setIfInBounds_toArray, List.set_cons_zero, List.set_cons_succ]
  go_wp2
  refine bodyPost_ret (v := .agg (effCells (eff0 r (inn len pc) 4)).toArray) (results_row rfl _ _ (w.heap.size + 1) 30 _ _ rfl HR5.out Tryd.underlying30 rfl HI22.out) rfl ⟨rfl, HC2.out.trans HC5.out (fun i hi he => by cases he; omega)⟩
set_option maxHeartbeats 1000000 in
theorem step_out_20 (A : Option Addr) (len cap : Nat) (hl : len ≤ 9223372036854775807) (M : Option Addr) (mlen mcap : Nat) (hm : mlen ≤ 9223372036854775807) (fixed : Int) (hf : 0 ≤ fixed) (hf2 : fixed ≤ (mlen : Int)) (r : Nat → Int) (pc : Int) (hpc : pc < 0) (w : World) :
    Calls Tryd.prog 12 #[.slice A len cap, .slice M mlen mcap, .int .i64 fixed, .agg (regCells r).toArray, .int .i64 pc] w fun e w' => e = .returned (.agg (effCells (eff0 r (inn len pc) 4)).toArray) ∧ Ch No w w' := by
  have HI16 : Hid ((Tryd.prog.info? 24).map (·.size) = some (regCells r).length) := by rw [regCells_length]; exact size24
  have HI22 : Hid ((Tryd.prog.info? 30).map (·.size) = some (effCells (eff0 r (inn len pc) 4)).length) := by rw [effCells_length]; exact size30
  have HZ0 : Hid (Row ((w.alloc (.cells (regCells r).toArray 24)).alloc (.cells (effCells zeroEff).toArray 30)) (w.heap.size + 1) 30 (effCells zeroEff)) := Row.new_at _ 30 (effCells zeroEff) (by simp)
  go_enter Tryd.func12, Tryd.ntmps12
  go_wp2
  refine wp_region_quiet_tail 5 (by kernel_rfl) (by kernel_rfl) (fun w' => Ch No _ w') ((Ch.refl _ _).drew) ?_
  simp only [List.take_succ_cons, List.take_zero, List.drop_succ_cons, List.drop_zero]
  refine wpQuiet_read (by rfl) (.agg (regCells r).toArray) ?h1 ?r1
  case h1 =>
    intro w' hw'
    have hr : Row w' w.heap.size 24 (regCells r) := (((Row.new w 24 (regCells r)).alloc _).alloc _).keepNo hw'
    exact exec_load_agg 24 (.tmp 8) rfl w.heap.size rfl 24 (regCells r) hr _ Tryd.underlying24 rfl HI16.out
  refine wpQuiet_read (by rfl) (.agg #[.slice A len cap, .slice M mlen mcap, .int .i64 fixed]) ?h2 ?r2
  case h2 =>
    intro w' hw'
    have hr : Row w' (w.heap.size + 1 + 1) 54 [.slice A len cap, .slice M mlen mcap, .int .i64 fixed] := (Row.new_at _ 54 [.slice A len cap, .slice M mlen mcap, .int .i64 fixed] (by simp)).keepNo hw'
    exact exec_load_agg 54 (.tmp 11) rfl (w.heap.size + 1 + 1) rfl 54 _ hr _ Tryd.underlying54 rfl size54
  refine wpQuiet_value (by rfl) (.int .i64 pc) (fun _ => rfl) ?_
  refine wpQuiet_call (by rfl) (.int .i64 (inn len pc)) 25 #[.agg #[.slice A len cap, .slice M mlen mcap, .int .i64 fixed], .int .i64 pc] (fun _ => by kernel_rfl) (fun w' hw' => (to_calls A len cap hl _ _ pc _).mono fun e w'' h => ⟨h.1, hw'.then_ h.2⟩) ?_
  refine wpQuiet_value (by rfl) (.agg (effCells (eff0 r (inn len pc) 4)).toArray) (fun _ => by kernel_rfl) ?_
  refine wpQuiet_nil ?_
  simp only [Act.put, List.setIfInBounds_toArray, List.set_cons_zero, List.set_cons_succ]
  intro w2 hw2
  have HW2 := Lib.hid hw2
  have HR2 : Hid (Row w2 (w.heap.size + 1) 30 (effCells zeroEff)) := (HZ0.out.alloc _).keepNo hw2
  have HC2 : Hid (Ch No w w2) := (((Ch.refl No w).alloc _).alloc _).alloc _ |>.then_ hw2
  clear hw2
  refine wpList_store_agg (o := ⟨none, _, _, _, _, _⟩) (by rfl) 30 (.tmp 10) (.tmp 33) rfl (w.heap.size + 1) rfl 30 (effCells zeroEff) (effCells (eff0 r (inn len pc) 4)) rfl HR2.out HI22.out (by rw [effCells_length, effCells_length]) (eff_one _) ?_
  intro w5 hr5 hc5
  have HR5 := Lib.hid hr5
  have HC5 := Lib.hid hc5
  clear hr5 hc5
  simp only [Act.put, List.setIfInBounds_toArray, List.set_cons_zero, List.set_cons_succ]
  go_wp2
  refine bodyPost_ret (v := .agg (effCells (eff0 r (inn len pc) 4)).toArray) (results_row rfl _ _ (w.heap.size + 1) 30 _ _ rfl HR5.out Tryd.underlying30 rfl HI22.out) rfl ⟨rfl, HC2.out.trans HC5.out (fun i hi he => by cases he; omega)⟩
set_option maxHeartbeats 1000000 in
theorem step_out_21 (A : Option Addr) (len cap : Nat) (hl : len ≤ 9223372036854775807) (M : Option Addr) (mlen mcap : Nat) (hm : mlen ≤ 9223372036854775807) (fixed : Int) (hf : 0 ≤ fixed) (hf2 : fixed ≤ (mlen : Int)) (r : Nat → Int) (pc : Int) (hpc : 0 ≤ pc) (hpc2 : (len : Int) ≤ pc) (w : World) :
    Calls Tryd.prog 12 #[.slice A len cap, .slice M mlen mcap, .int .i64 fixed, .agg (regCells r).toArray, .int .i64 pc] w fun e w' => e = .returned (.agg (effCells (eff0 r (inn len pc) 4)).toArray) ∧ Ch No w w' := by
  have HI16 : Hid ((Tryd.prog.info? 24).map (·.size) = some (regCells r).length) := by rw [regCells_length]; exact size24
  have HI22 : Hid ((Tryd.prog.info? 30).map (·.size) = some (effCells (eff0 r (inn len pc) 4)).length) := by rw [effCells_length]; exact size30
  have HZ0 : Hid (Row ((w.alloc (.cells (regCells r).toArray 24)).alloc (.cells (effCells zeroEff).toArray 30)) (w.heap.size + 1) 30 (effCells zeroEff)) := Row.new_at _ 30 (effCells zeroEff) (by simp)
  go_enter Tryd.func12, Tryd.ntmps12
  go_wp2
  refine wp_region_quiet_tail 5 (by kernel_rfl) (by kernel_rfl) (fun w' => Ch No _ w') ((Ch.refl _ _).drew) ?_
  simp only [List.take_succ_cons, List.take_zero, List.drop_succ_cons, List.drop_zero]
  refine wpQuiet_read (by rfl) (.agg (regCells r).toArray) ?h1 ?r1
  case h1 =>
    intro w' hw'
    have hr : Row w' w.heap.size 24 (regCells r) := (((Row.new w 24 (regCells r)).alloc _).alloc _).keepNo hw'
    exact exec_load_agg 24 (.tmp 8) rfl w.heap.size rfl 24 (regCells r) hr _ Tryd.underlying24 rfl HI16.out
  refine wpQuiet_read (by rfl) (.agg #[.slice A len cap, .slice M mlen mcap, .int .i64 fixed]) ?h2 ?r2
  case h2 =>
    intro w' hw'
    have hr : Row w' (w.heap.size + 1 + 1) 54 [.slice A len cap, .slice M mlen mcap, .int .i64 fixed] := (Row.new_at _ 54 [.slice A len cap, .slice M mlen mcap, .int .i64 fixed] (by simp)).keepNo hw'
    exact exec_load_agg 54 (.tmp 11) rfl (w.heap.size + 1 + 1) rfl 54 _ hr _ Tryd.underlying54 rfl size54
  refine wpQuiet_value (by rfl) (.int .i64 pc) (fun _ => rfl) ?_
  refine wpQuiet_call (by rfl) (.int .i64 (inn len pc)) 25 #[.agg #[.slice A len cap, .slice M mlen mcap, .int .i64 fixed], .int .i64 pc] (fun _ => by kernel_rfl) (fun w' hw' => (to_calls A len cap hl _ _ pc _).mono fun e w'' h => ⟨h.1, hw'.then_ h.2⟩) ?_
  refine wpQuiet_value (by rfl) (.agg (effCells (eff0 r (inn len pc) 4)).toArray) (fun _ => by kernel_rfl) ?_
  refine wpQuiet_nil ?_
  simp only [Act.put, List.setIfInBounds_toArray, List.set_cons_zero, List.set_cons_succ]
  intro w2 hw2
  have HW2 := Lib.hid hw2
  have HR2 : Hid (Row w2 (w.heap.size + 1) 30 (effCells zeroEff)) := (HZ0.out.alloc _).keepNo hw2
  have HC2 : Hid (Ch No w w2) := (((Ch.refl No w).alloc _).alloc _).alloc _ |>.then_ hw2
  clear hw2
  refine wpList_store_agg (o := ⟨none, _, _, _, _, _⟩) (by rfl) 30 (.tmp 10) (.tmp 33) rfl (w.heap.size + 1) rfl 30 (effCells zeroEff) (effCells (eff0 r (inn len pc) 4)) rfl HR2.out HI22.out (by rw [effCells_length, effCells_length]) (eff_one _) ?_
  intro w5 hr5 hc5
  have HR5 := Lib.hid hr5
  have HC5 := Lib.hid hc5
  clear hr5 hc5
  simp only [Act.put, List.setIfInBounds_toArray, List.set_cons_zero, List.set_cons_succ]
  go_wp2
  refine bodyPost_ret (v := .agg (effCells (eff0 r (inn len pc) 4)).toArray) (results_row rfl _ _ (w.heap.size + 1) 30 _ _ rfl HR5.out Tryd.underlying30 rfl HI22.out) rfl ⟨rfl, HC2.out.trans HC5.out (fun i hi he => by cases he; omega)⟩
theorem step_out (A : Option Addr) (len cap : Nat) (hl : len ≤ 9223372036854775807) (M : Option Addr) (mlen mcap : Nat) (hm : mlen ≤ 9223372036854775807) (fixed : Int)  (r : Nat → Int) (pc : Int) (hpc : pc < 0 ∨ (len : Int) ≤ pc) (w : World) :
    Calls Tryd.prog 12 #[.slice A len cap, .slice M mlen mcap, .int .i64 fixed, .agg (regCells r).toArray, .int .i64 pc] w fun e w' => e = .returned (.agg (effCells (eff0 r (inn len pc) 4)).toArray) ∧ Ch No w w' := by
  by_cases h0 : pc < 0
  · by_cases f0 : fixed < 0
    · exact step_out_00 A len cap hl M mlen mcap hm fixed f0 r pc h0 w
    · by_cases f1 : (mlen : Int) < fixed
      · exact step_out_10 A len cap hl M mlen mcap hm fixed f1 r pc h0 w
      · exact step_out_20 A len cap hl M mlen mcap hm fixed (by omega) (by omega) r pc h0 w
  · by_cases f0 : fixed < 0
    · exact step_out_01 A len cap hl M mlen mcap hm fixed f0 r pc (by omega) (by omega) w
    · by_cases f1 : (mlen : Int) < fixed
      · exact step_out_11 A len cap hl M mlen mcap hm fixed f1 r pc (by omega) (by omega) w
      · exact step_out_21 A len cap hl M mlen mcap hm fixed (by omega) (by omega) r pc (by omega) (by omega) w
end Go.Proofs.YtellmlffkgfeiaaDoor

