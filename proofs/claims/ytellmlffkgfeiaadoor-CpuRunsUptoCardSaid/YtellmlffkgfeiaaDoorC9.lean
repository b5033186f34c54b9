/- does, sure, known: what the statements ask of single operations. -/
import Derived.Test.YtellmlffkgfeiaaDoorC8b
set_option linter.unusedVariables false
set_option linter.unusedSimpArgs false
namespace Go.Proofs.YtellmlffkgfeiaaDoor
open Go.RowKit
theorem isAgg2 (w : World) : (isAgg 2).run Tryd.prog w = .ok false w := by
  unfold isAgg
  rw [Sem.run_bind, run_underlying Tryd.underlying2 w]
  rfl
theorem part_reg (r : Nat → Int) (i : Nat) (h : i < 16) (w : World) : (part 2 (regCells r).toArray (i * 1)).run Tryd.prog w = .ok (.int .i64 (r i)) w := by
  unfold part
  rw [Sem.run_bind, isAgg2]
  simp only [Result.andThen_ok, Bool.false_eq_true, if_false, Nat.mul_one, List.getElem?_toArray, regCells_get r i h]
  rfl
theorem eq_i64 (a b : Int) (w : World) : (Op.equalIn 9999 2 (.int .i64 a) (.int .i64 b)).run Tryd.prog w = .ok (a == b) w := run_equalIn_int w 9998 2 .i64 .i64 a b Tryd.underlying2
theorem eq_regs (r r' : Nat → Int) (w : World) : (Op.equalIn 10000 24 (.agg (regCells r).toArray) (.agg (regCells r').toArray)).run Tryd.prog w = .ok ((List.range 16).all fun i => r i == r' i) w := by
  unfold Op.equalIn
  rw [Sem.run_bind, run_underlying Tryd.underlying24 w]
  simp only [Result.andThen_ok]
  rw [Sem.run_bind, show (sizeOf 2).run Tryd.prog w = .ok 1 w by kernel_rfl]
  simp only [Result.andThen_ok]
  rw [Sem.run_bind]
  simp only [Std.Legacy.Range.forIn_eq_forIn_range']
  have key : ∀ l : List Nat, (∀ i ∈ l, i < 16) → Sem.run Tryd.prog
      (forIn l ((none, ()) : Option Bool × Unit) fun i __s => do
        let a ← part 2 (regCells r).toArray (i * 1)
        let b ← part 2 (regCells r').toArray (i * 1)
        let c ← Op.equalIn 9999 2 a b
        if (!c) = true then pure (ForInStep.done (some false, ())) else pure (ForInStep.yield (none, ()))) w = .ok (if (l.all fun i => r i == r' i) = true then (none, ()) else (some false, ())) w := by
    intro l
    induction l with
    | nil => intro _; rfl
    | cons i l ih =>
      intro hl
      have hi := hl i (by simp)
      rw [List.forIn_cons, Sem.run_bind, Sem.run_bind, part_reg r i hi]
      simp only [Result.andThen_ok]
      rw [Sem.run_bind, part_reg r' i hi]
      simp only [Result.andThen_ok]
      rw [Sem.run_bind, eq_i64]
      simp only [Result.andThen_ok]
      by_cases h : r i = r' i
      · have hb : (r i == r' i) = true := by simpa using h
        simp only [hb, Bool.not_true, Bool.false_eq_true, if_false, Sem.run_pure, Result.andThen_ok, List.all_cons, Bool.true_and]
        exact ih (fun j hj => hl j (by simp [hj]))
      · have hb : (r i == r' i) = false := by simpa using h
        simp only [hb, Bool.not_false, if_true, Sem.run_pure, Result.andThen_ok, List.all_cons, Bool.false_and, Bool.false_eq_true, if_false]
  have h16 : List.range' 0 ([:16] : Std.Legacy.Range).size = List.range 16 := by decide
  rw [h16, key (List.range 16) (fun i hi => by simpa using hi)]
  simp only [Result.andThen_ok]
  cases (List.range 16).all fun i => r i == r' i <;> rfl
/-- the registers that 'does' sets -/
def dr (b c : Int) : Nat → Int := fun i => if i = 1 then b else if i = 2 then c else 0
def dIns (op : Nat) : Ins := ⟨op, 3, 1, 2, 0⟩
theorem dr_in {b c : Int} (hb : In64 b) (hc : In64 c) : ∀ i, i < 16 → In64 (dr b c i) := by
  intro i _
  unfold dr
  split
  · exact hb
  · split
    · exact hc
    · unfold In64; omega
theorem size45 : (Tryd.prog.info? 45).map (·.size) = some 5 := by kernel_rfl
def stepD (op : Nat) (b c : Int) : Eff := stepF [dIns op] [] 0 (dr b c) 0
theorem step_lit (op : Nat) (hop : op < 256) (b c : Int) (hb : In64 b) (hc : In64 c) (W : World) (q : Nat) (hw : Glob W) (hq : Row W q 45 (insCells op 3 1 2 0)) :
    Calls Tryd.prog 12 #[.slice (some ⟨q, 0, none⟩) 1 1, .slice none 0 0, .int .i64 0, .agg #[.int .i64 0, .int .i64 b, .int .i64 c, .int .i64 0, .int .i64 0, .int .i64 0, .int .i64 0, .int .i64 0, .int .i64 0, .int .i64 0, .int .i64 0, .int .i64 0, .int .i64 0, .int .i64 0, .int .i64 0, .int .i64 0], .int .i64 0] W fun e w' => e = .returned (.agg (effCells (stepD op b c)).toArray) ∧ Ch No W w' :=
  step_calls (some ⟨q, 0, none⟩) [dIns op] 1 (by simp) (by simp [Ins.ok, dIns]; omega) none [] 0 (by simp) (by simp) 0 (dr b c) (dr_in hb hc) 0 W (by simpa [codeCells, Ins.cells, dIns] using hq.cl0) (Cl.nil _ _) hw
set_option maxHeartbeats 4000000 in
theorem does_val (op : Nat) (hop : op < 256) (b c v : Int) (hb : In64 b) (hc : In64 c) (hE : stepD op b c = (eff0 (dr b c) 1 0).reg 3 v) (w : World) (hg : Glob w) :
    Calls Tryd.prog 21 #[.int .u8 op, .int .i64 b, .int .i64 c] w fun e w' => e = .returned (.tuple #[.int .i64 v, .bool true]) ∧ Ch No w w' := by
  have HS : Hid (∀ (W : World) (q : Nat), Glob W → Row W q 45 (insCells op 3 1 2 0) → Calls Tryd.prog 12 #[.slice (some ⟨q, 0, none⟩) 1 1, .slice none 0 0, .int .i64 0, .agg #[.int .i64 0, .int .i64 b, .int .i64 c, .int .i64 0, .int .i64 0, .int .i64 0, .int .i64 0, .int .i64 0, .int .i64 0, .int .i64 0, .int .i64 0, .int .i64 0, .int .i64 0, .int .i64 0, .int .i64 0, .int .i64 0], .int .i64 0] W fun e w' => e = .returned (.agg (effCells (stepD op b c)).toArray) ∧ Ch No W w') := step_lit op hop b c hb hc
  have HR1 : Hid (Row ((w.alloc (.cells #[.int .i64 0, .int .i64 b, .int .i64 c, .int .i64 0, .int .i64 0, .int .i64 0, .int .i64 0, .int .i64 0, .int .i64 0, .int .i64 0, .int .i64 0, .int .i64 0, .int .i64 0, .int .i64 0, .int .i64 0, .int .i64 0] 24)).alloc (.cells #[.int .u8 op, .int .u8 3, .int .u8 1, .int .u8 2, .int .i32 0] 45)) (w.heap.size + 1) 45 (insCells op 3 1 2 0)) := Row.new_at _ 45 (insCells op 3 1 2 0) (by simp)
  have HR0 : Hid (Row (w.alloc (.cells #[.int .i64 0, .int .i64 b, .int .i64 c, .int .i64 0, .int .i64 0, .int .i64 0, .int .i64 0, .int .i64 0, .int .i64 0, .int .i64 0, .int .i64 0, .int .i64 0, .int .i64 0, .int .i64 0, .int .i64 0, .int .i64 0] 24)) w.heap.size 24 (regCells (dr b c))) := Row.new w 24 (regCells (dr b c))
  have HI22 : Hid ((Tryd.prog.info? 30).map (·.size) = some (effCells (stepD op b c)).length) := by rw [effCells_length]; exact size30
  have HL2 : Hid ((effCells (stepD op b c)).length = (effCells zeroEff).length) := by show _ = _; rw [effCells_length, effCells_length]
  have HG := Lib.hid hg
  have HE := Lib.hid hE
  clear hg hE
  go_enter Tryd.func21, Tryd.ntmps21
  go_wp2_with (fail)
  refine (HS.out _ (w.heap.size + 1) (HG.out.keep (((Ch.refl No w).alloc _).alloc _) (not_no _)) HR1.out).mono ?_
  rintro e w2 ⟨rfl, hc2⟩
  have HC2 : Hid (Ch No w w2) := (((Ch.refl No w).alloc _).alloc _).then_ hc2
  have HR2 := Lib.hid ((HR0.out.alloc _).keepNo hc2)
  have HZ2 : Hid (Row (w2.alloc (.cells (effCells zeroEff).toArray 30)) w2.heap.size 30 (effCells zeroEff)) := Row.new w2 30 (effCells zeroEff)
  clear hc2
  have hlt : w.heap.size < w2.heap.size := by have := HR2.out.lt; omega
  have hne : ¬ w.heap.size = w2.heap.size := by omega
  have hf3 : ∀ w3 : World, Row w3 w2.heap.size 30 (effCells (stepD op b c)) → Ch (Is w2.heap.size) (w2.alloc (.cells (effCells zeroEff).toArray 30)) w3 → w3.cell? ⟨w2.heap.size, 0, none⟩ = some (.int .i64 0) ∧ w3.cell? ⟨w2.heap.size, 1, none⟩ = some (.int .i64 b) ∧ w3.cell? ⟨w2.heap.size, 2, none⟩ = some (.int .i64 c) ∧ w3.cell? ⟨w2.heap.size, 3, none⟩ = some (.int .i64 v) ∧ w3.cell? ⟨w2.heap.size, 4, none⟩ = some (.int .i64 0) ∧ w3.cell? ⟨w2.heap.size, 5, none⟩ = some (.int .i64 0) ∧ w3.cell? ⟨w2.heap.size, 6, none⟩ = some (.int .i64 0) ∧ w3.cell? ⟨w2.heap.size, 7, none⟩ = some (.int .i64 0) ∧ w3.cell? ⟨w2.heap.size, 8, none⟩ = some (.int .i64 0) ∧ w3.cell? ⟨w2.heap.size, 9, none⟩ = some (.int .i64 0) ∧ w3.cell? ⟨w2.heap.size, 10, none⟩ = some (.int .i64 0) ∧ w3.cell? ⟨w2.heap.size, 11, none⟩ = some (.int .i64 0) ∧ w3.cell? ⟨w2.heap.size, 12, none⟩ = some (.int .i64 0) ∧ w3.cell? ⟨w2.heap.size, 13, none⟩ = some (.int .i64 0) ∧ w3.cell? ⟨w2.heap.size, 14, none⟩ = some (.int .i64 0) ∧ w3.cell? ⟨w2.heap.size, 15, none⟩ = some (.int .i64 0) ∧ w3.cell? ⟨w.heap.size, 0, none⟩ = some (.int .i64 0) ∧ w3.cell? ⟨w.heap.size, 1, none⟩ = some (.int .i64 b) ∧ w3.cell? ⟨w.heap.size, 2, none⟩ = some (.int .i64 c) ∧ w3.cell? ⟨w.heap.size, 3, none⟩ = some (.int .i64 0) ∧ w3.cell? ⟨w.heap.size, 4, none⟩ = some (.int .i64 0) ∧ w3.cell? ⟨w.heap.size, 5, none⟩ = some (.int .i64 0) ∧ w3.cell? ⟨w.heap.size, 6, none⟩ = some (.int .i64 0) ∧ w3.cell? ⟨w.heap.size, 7, none⟩ = some (.int .i64 0) ∧ w3.cell? ⟨w.heap.size, 8, none⟩ = some (.int .i64 0) ∧ w3.cell? ⟨w.heap.size, 9, none⟩ = some (.int .i64 0) ∧ w3.cell? ⟨w.heap.size, 10, none⟩ = some (.int .i64 0) ∧ w3.cell? ⟨w.heap.size, 11, none⟩ = some (.int .i64 0) ∧ w3.cell? ⟨w.heap.size, 12, none⟩ = some (.int .i64 0) ∧ w3.cell? ⟨w.heap.size, 13, none⟩ = some (.int .i64 0) ∧ w3.cell? ⟨w.heap.size, 14, none⟩ = some (.int .i64 0) ∧ w3.cell? ⟨w.heap.size, 15, none⟩ = some (.int .i64 0) ∧ w3.cell? ⟨w2.heap.size, 16, none⟩ = some (.int .i64 1) ∧ w3.cell? ⟨w2.heap.size, 17, none⟩ = some (.bool false) ∧ w3.cell? ⟨w2.heap.size, 20, none⟩ = some (.int .i64 0) ∧ w3.cell? ⟨w2.heap.size, 21, none⟩ = some (.int .i64 0) ∧ w3.frozen? ⟨w2.heap.size, 3, none⟩ = false := by
    intro w3 hr hc
    rw [HE.out] at hr
    have hr0 : Row w3 w.heap.size 24 (regCells (dr b c)) := (HR2.out.alloc _).keepIs hc hne
    have hb : ∀ i, i < 16 → w3.cell? ⟨w.heap.size, i, none⟩ = some (.int .i64 (dr b c i)) := fun i hi => by rw [hr0.cell]; exact regCells_get _ _ hi
    exact ⟨row_reg hr 0 (by omega), row_reg hr 1 (by omega), row_reg hr 2 (by omega), row_reg hr 3 (by omega), row_reg hr 4 (by omega), row_reg hr 5 (by omega), row_reg hr 6 (by omega), row_reg hr 7 (by omega), row_reg hr 8 (by omega), row_reg hr 9 (by omega), row_reg hr 10 (by omega), row_reg hr 11 (by omega), row_reg hr 12 (by omega), row_reg hr 13 (by omega), row_reg hr 14 (by omega), row_reg hr 15 (by omega), hb 0 (by omega), hb 1 (by omega), hb 2 (by omega), hb 3 (by omega), hb 4 (by omega), hb 5 (by omega), hb 6 (by omega), hb 7 (by omega), hb 8 (by omega), hb 9 (by omega), hb 10 (by omega), hb 11 (by omega), hb 12 (by omega), hb 13 (by omega), hb 14 (by omega), hb 15 (by omega), row_rest hr 0, row_rest hr 1, row_rest hr 4, row_rest hr 5, hr.frozen 3⟩
  have HF3 := Lib.hid hf3
  clear hf3
  go_wp2_with (refine wpList_store_agg (o := ⟨none, .store 30 (.tmp 9) (.tmp 19), _, _, _, _⟩) rfl 30 (.tmp 9) (.tmp 19) rfl w2.heap.size rfl 30 (effCells zeroEff) (effCells (stepD op b c)) rfl HZ2.out HI22.out HL2.out (eff_one _) ?_; intro w3 hr3 hc3; obtain ⟨a0, a1, a2, a3, a4, a5, a6, a7, a8, a9, a10, a11, a12, a13, a14, a15, b0, b1, b2, b3, b4, b5, b6, b7, b8, b9, b10, b11, b12, b13, b14, b15, c0, c1, c2, c3, c4⟩ := HF3.out w3 hr3 hc3; have HC3 := Lib.hid hc3; clear hr3 hc3)
  have heq : ∀ W : World, (Op.equalIn 10000 24 (.agg #[.int .i64 0, .int .i64 b, .int .i64 c, .int .i64 0, .int .i64 0, .int .i64 0, .int .i64 0, .int .i64 0, .int .i64 0, .int .i64 0, .int .i64 0, .int .i64 0, .int .i64 0, .int .i64 0, .int .i64 0, .int .i64 0]) (.agg #[.int .i64 0, .int .i64 b, .int .i64 c, .int .i64 0, .int .i64 0, .int .i64 0, .int .i64 0, .int .i64 0, .int .i64 0, .int .i64 0, .int .i64 0, .int .i64 0, .int .i64 0, .int .i64 0, .int .i64 0, .int .i64 0])).run Tryd.prog W = .ok true W := fun W => (eq_regs (dr b c) (dr b c) W).trans (by simp)
  go_quiet (fail)
  go_wp2
  go_ret2
  exact ⟨rfl, (((HC2.out.alloc _).trans HC3.out (fun i hi he => by cases he; have := HC2.out.size; omega)).setCell (fun hh => absurd hh (by have := HC2.out.size; simp; omega)) _).drewN _⟩
set_option maxHeartbeats 4000000 in
theorem does_fault (op : Nat) (hop : op < 256) (b c : Int) (hb : In64 b) (hc : In64 c) (hE : stepD op b c = eff0 (dr b c) 1 3) (w : World) (hg : Glob w) :
    Calls Tryd.prog 21 #[.int .u8 op, .int .i64 b, .int .i64 c] w fun e w' => e = .returned (.tuple #[.int .i64 0, .bool false]) ∧ Ch No w w' := by
  have HS : Hid (∀ (W : World) (q : Nat), Glob W → Row W q 45 (insCells op 3 1 2 0) → Calls Tryd.prog 12 #[.slice (some ⟨q, 0, none⟩) 1 1, .slice none 0 0, .int .i64 0, .agg #[.int .i64 0, .int .i64 b, .int .i64 c, .int .i64 0, .int .i64 0, .int .i64 0, .int .i64 0, .int .i64 0, .int .i64 0, .int .i64 0, .int .i64 0, .int .i64 0, .int .i64 0, .int .i64 0, .int .i64 0, .int .i64 0], .int .i64 0] W fun e w' => e = .returned (.agg (effCells (stepD op b c)).toArray) ∧ Ch No W w') := step_lit op hop b c hb hc
  have HR1 : Hid (Row ((w.alloc (.cells #[.int .i64 0, .int .i64 b, .int .i64 c, .int .i64 0, .int .i64 0, .int .i64 0, .int .i64 0, .int .i64 0, .int .i64 0, .int .i64 0, .int .i64 0, .int .i64 0, .int .i64 0, .int .i64 0, .int .i64 0, .int .i64 0] 24)).alloc (.cells #[.int .u8 op, .int .u8 3, .int .u8 1, .int .u8 2, .int .i32 0] 45)) (w.heap.size + 1) 45 (insCells op 3 1 2 0)) := Row.new_at _ 45 (insCells op 3 1 2 0) (by simp)
  have HR0 : Hid (Row (w.alloc (.cells #[.int .i64 0, .int .i64 b, .int .i64 c, .int .i64 0, .int .i64 0, .int .i64 0, .int .i64 0, .int .i64 0, .int .i64 0, .int .i64 0, .int .i64 0, .int .i64 0, .int .i64 0, .int .i64 0, .int .i64 0, .int .i64 0] 24)) w.heap.size 24 (regCells (dr b c))) := Row.new w 24 (regCells (dr b c))
  have HI22 : Hid ((Tryd.prog.info? 30).map (·.size) = some (effCells (stepD op b c)).length) := by rw [effCells_length]; exact size30
  have HL2 : Hid ((effCells (stepD op b c)).length = (effCells zeroEff).length) := by show _ = _; rw [effCells_length, effCells_length]
  have HG := Lib.hid hg
  have HE := Lib.hid hE
  clear hg hE
  go_enter Tryd.func21, Tryd.ntmps21
  go_wp2_with (fail)
  refine (HS.out _ (w.heap.size + 1) (HG.out.keep (((Ch.refl No w).alloc _).alloc _) (not_no _)) HR1.out).mono ?_
  rintro e w2 ⟨rfl, hc2⟩
  have HC2 : Hid (Ch No w w2) := (((Ch.refl No w).alloc _).alloc _).then_ hc2
  have HR2 := Lib.hid ((HR0.out.alloc _).keepNo hc2)
  have HZ2 : Hid (Row (w2.alloc (.cells (effCells zeroEff).toArray 30)) w2.heap.size 30 (effCells zeroEff)) := Row.new w2 30 (effCells zeroEff)
  clear hc2
  have hlt : w.heap.size < w2.heap.size := by have := HR2.out.lt; omega
  have hne : ¬ w.heap.size = w2.heap.size := by omega
  have hf3 : ∀ w3 : World, Row w3 w2.heap.size 30 (effCells (stepD op b c)) → Ch (Is w2.heap.size) (w2.alloc (.cells (effCells zeroEff).toArray 30)) w3 → w3.cell? ⟨w2.heap.size, 0, none⟩ = some (.int .i64 0) ∧ w3.cell? ⟨w2.heap.size, 1, none⟩ = some (.int .i64 b) ∧ w3.cell? ⟨w2.heap.size, 2, none⟩ = some (.int .i64 c) ∧ w3.cell? ⟨w2.heap.size, 3, none⟩ = some (.int .i64 0) ∧ w3.cell? ⟨w2.heap.size, 4, none⟩ = some (.int .i64 0) ∧ w3.cell? ⟨w2.heap.size, 5, none⟩ = some (.int .i64 0) ∧ w3.cell? ⟨w2.heap.size, 6, none⟩ = some (.int .i64 0) ∧ w3.cell? ⟨w2.heap.size, 7, none⟩ = some (.int .i64 0) ∧ w3.cell? ⟨w2.heap.size, 8, none⟩ = some (.int .i64 0) ∧ w3.cell? ⟨w2.heap.size, 9, none⟩ = some (.int .i64 0) ∧ w3.cell? ⟨w2.heap.size, 10, none⟩ = some (.int .i64 0) ∧ w3.cell? ⟨w2.heap.size, 11, none⟩ = some (.int .i64 0) ∧ w3.cell? ⟨w2.heap.size, 12, none⟩ = some (.int .i64 0) ∧ w3.cell? ⟨w2.heap.size, 13, none⟩ = some (.int .i64 0) ∧ w3.cell? ⟨w2.heap.size, 14, none⟩ = some (.int .i64 0) ∧ w3.cell? ⟨w2.heap.size, 15, none⟩ = some (.int .i64 0) ∧ w3.cell? ⟨w.heap.size, 0, none⟩ = some (.int .i64 0) ∧ w3.cell? ⟨w.heap.size, 1, none⟩ = some (.int .i64 b) ∧ w3.cell? ⟨w.heap.size, 2, none⟩ = some (.int .i64 c) ∧ w3.cell? ⟨w.heap.size, 3, none⟩ = some (.int .i64 0) ∧ w3.cell? ⟨w.heap.size, 4, none⟩ = some (.int .i64 0) ∧ w3.cell? ⟨w.heap.size, 5, none⟩ = some (.int .i64 0) ∧ w3.cell? ⟨w.heap.size, 6, none⟩ = some (.int .i64 0) ∧ w3.cell? ⟨w.heap.size, 7, none⟩ = some (.int .i64 0) ∧ w3.cell? ⟨w.heap.size, 8, none⟩ = some (.int .i64 0) ∧ w3.cell? ⟨w.heap.size, 9, none⟩ = some (.int .i64 0) ∧ w3.cell? ⟨w.heap.size, 10, none⟩ = some (.int .i64 0) ∧ w3.cell? ⟨w.heap.size, 11, none⟩ = some (.int .i64 0) ∧ w3.cell? ⟨w.heap.size, 12, none⟩ = some (.int .i64 0) ∧ w3.cell? ⟨w.heap.size, 13, none⟩ = some (.int .i64 0) ∧ w3.cell? ⟨w.heap.size, 14, none⟩ = some (.int .i64 0) ∧ w3.cell? ⟨w.heap.size, 15, none⟩ = some (.int .i64 0) ∧ w3.cell? ⟨w2.heap.size, 16, none⟩ = some (.int .i64 1) ∧ w3.cell? ⟨w2.heap.size, 17, none⟩ = some (.bool false) ∧ w3.cell? ⟨w2.heap.size, 20, none⟩ = some (.int .i64 3) ∧ w3.cell? ⟨w2.heap.size, 21, none⟩ = some (.int .i64 0) ∧ w3.frozen? ⟨w2.heap.size, 3, none⟩ = false := by
    intro w3 hr hc
    rw [HE.out] at hr
    have hr0 : Row w3 w.heap.size 24 (regCells (dr b c)) := (HR2.out.alloc _).keepIs hc hne
    have hb : ∀ i, i < 16 → w3.cell? ⟨w.heap.size, i, none⟩ = some (.int .i64 (dr b c i)) := fun i hi => by rw [hr0.cell]; exact regCells_get _ _ hi
    exact ⟨row_reg hr 0 (by omega), row_reg hr 1 (by omega), row_reg hr 2 (by omega), row_reg hr 3 (by omega), row_reg hr 4 (by omega), row_reg hr 5 (by omega), row_reg hr 6 (by omega), row_reg hr 7 (by omega), row_reg hr 8 (by omega), row_reg hr 9 (by omega), row_reg hr 10 (by omega), row_reg hr 11 (by omega), row_reg hr 12 (by omega), row_reg hr 13 (by omega), row_reg hr 14 (by omega), row_reg hr 15 (by omega), hb 0 (by omega), hb 1 (by omega), hb 2 (by omega), hb 3 (by omega), hb 4 (by omega), hb 5 (by omega), hb 6 (by omega), hb 7 (by omega), hb 8 (by omega), hb 9 (by omega), hb 10 (by omega), hb 11 (by omega), hb 12 (by omega), hb 13 (by omega), hb 14 (by omega), hb 15 (by omega), row_rest hr 0, row_rest hr 1, row_rest hr 4, row_rest hr 5, hr.frozen 3⟩
  have HF3 := Lib.hid hf3
  clear hf3
  go_wp2_with (refine wpList_store_agg (o := ⟨none, .store 30 (.tmp 9) (.tmp 19), _, _, _, _⟩) rfl 30 (.tmp 9) (.tmp 19) rfl w2.heap.size rfl 30 (effCells zeroEff) (effCells (stepD op b c)) rfl HZ2.out HI22.out HL2.out (eff_one _) ?_; intro w3 hr3 hc3; obtain ⟨a0, a1, a2, a3, a4, a5, a6, a7, a8, a9, a10, a11, a12, a13, a14, a15, b0, b1, b2, b3, b4, b5, b6, b7, b8, b9, b10, b11, b12, b13, b14, b15, c0, c1, c2, c3, c4⟩ := HF3.out w3 hr3 hc3; have HC3 := Lib.hid hc3; clear hr3 hc3)
  have heq : ∀ W : World, (Op.equalIn 10000 24 (.agg #[.int .i64 0, .int .i64 b, .int .i64 c, .int .i64 0, .int .i64 0, .int .i64 0, .int .i64 0, .int .i64 0, .int .i64 0, .int .i64 0, .int .i64 0, .int .i64 0, .int .i64 0, .int .i64 0, .int .i64 0, .int .i64 0]) (.agg #[.int .i64 0, .int .i64 b, .int .i64 c, .int .i64 0, .int .i64 0, .int .i64 0, .int .i64 0, .int .i64 0, .int .i64 0, .int .i64 0, .int .i64 0, .int .i64 0, .int .i64 0, .int .i64 0, .int .i64 0, .int .i64 0])).run Tryd.prog W = .ok true W := fun W => (eq_regs (dr b c) (dr b c) W).trans (by simp)
  go_quiet (fail)
  go_wp2
  go_ret2
  exact ⟨rfl, (((HC2.out.alloc _).trans HC3.out (fun i hi he => by cases he; have := HC2.out.size; omega)).setCell (fun hh => absurd hh (by have := HC2.out.size; simp; omega)) _).drewN _⟩
end Go.Proofs.YtellmlffkgfeiaaDoor
