/- CpuDivides: the walk. -/
import Derived.Test.YtellmlffkgfeiaaDoorC10
set_option linter.unusedVariables false
set_option linter.unusedSimpArgs false
namespace Go.Proofs.YtellmlffkgfeiaaDoor
open Go.RowKit
def CALL (w : World) (f : Nat) (args : Array Value) (v : Value) : Prop := Calls Tryd.prog f args w fun e w' => e = .returned v ∧ Ch No w w'
set_option maxHeartbeats 4000000 in
theorem divides_ok (b c : Int) (hb : In64 b) (hc : In64 c) (hne : c ≠ 0) (w : World) (hg : Glob w) :
    Calls Tryd.prog 5 #[.int .i64 b, .int .i64 c] w fun e w' => e = .returned (.bool true) ∧ Ch No w w' := by
  have HD := Lib.hid (fun (W : World) (h : Glob W) => does_val 10 (by omega) b c (Fdiv b c) hb hc (stepD_10 b c hne) W h)
  have HM := Lib.hid (fun (W : World) (h : Glob W) => does_val 11 (by omega) b c (Fmod b c) hb hc (stepD_11 b c hne) W h)
  have HX := Lib.hid (fun (W : World) (h : Glob W) => sure_val 9 (by omega) (Fdiv b c) c (Fmul (Fdiv b c) c) (div_in b c) hc (stepD_9 _ _) W h)
  have HA := Lib.hid (fun (W : World) (h : Glob W) => sure_val 7 (by omega) (Fmul (Fdiv b c) c) (Fmod b c) b (in64_toInt _) (rest_in b c hne hc) (by rw [stepD_7, euclid b c hb]) W h)
  have c1 : (c == 0) = false := by simpa using hne
  have c2 : (c != 0) = true := by simpa using hne
  have hp := rest_pos b c hne
  have hq := rest_lt b c hne
  have HG := Lib.hid hg
  unfold In64 at hc
  obtain ⟨hc3, hc4⟩ := hc
  clear hg hne
  generalize hqe : Fdiv b c = q at *
  generalize hre : Fmod b c = r at *
  clear hqe hre
  have fin : ((c == (-9223372036854775808)) = true) ∨ ((c == (-9223372036854775808)) = false ∧ 0 < c ∧ r < c) ∨ ((c == (-9223372036854775808)) = false ∧ ¬ 0 < c ∧ c < 0 ∧ r < -c) := by
    by_cases h1 : c = -9223372036854775808
    · exact .inl (by simpa using h1)
    · have : (c == (-9223372036854775808)) = false := by simpa using h1
      have hz : c ≠ 0 := by simpa using c1
      rcases Int.lt_or_gt_of_ne hz with h | h
      · exact .inr (.inr ⟨this, by omega, h, by omega⟩)
      · exact .inr (.inl ⟨this, h, by omega⟩)
  go_enter Tryd.func5, Tryd.ntmps5
  go_wp2_with (fail)
  refine (HD.out _ HG.out).mono ?_
  rintro e w11 ⟨rfl, hc11⟩
  have HG11 := Lib.hid (HG.out.keep hc11 (not_no _))
  have HC11 := Lib.hid hc11
  clear hc11
  go_wp2_with (fail)
  refine (HM.out _ HG11.out).mono ?_
  rintro e w12 ⟨rfl, hc12⟩
  have HG12 := Lib.hid (HG11.out.keep hc12 (not_no _))
  have HC12 := Lib.hid (HC11.out.then_ hc12)
  clear hc12
  go_wp2_with (fail)
  refine (known_calls _ HG12.out).mono ?_
  rintro e w13 ⟨rfl, hc13⟩
  have HG13 := Lib.hid (HG12.out.keep hc13 (not_no _))
  have HC13 := Lib.hid (HC12.out.then_ hc13)
  clear hc13
  go_wp2_with (fail)
  refine (HX.out _ HG13.out).mono ?_
  rintro e w14 ⟨rfl, hc14⟩
  have HG14 := Lib.hid (HG13.out.keep hc14 (not_no _))
  have HC14 := Lib.hid (HC13.out.then_ hc14)
  clear hc14
  go_wp2_with (fail)
  refine (HA.out _ HG14.out).mono ?_
  rintro e w15 ⟨rfl, hc15⟩
  have HG15 := Lib.hid (HG14.out.keep hc15 (not_no _))
  have HC15 := Lib.hid (HC14.out.then_ hc15)
  clear hc15
  rcases fin with f1 | ⟨f1, f2, f3⟩ | ⟨f1, f2, f3, f4⟩
  all_goals go_wp2_with (fail)
  all_goals go_ret
  all_goals first | exact ⟨rfl, HC15.out⟩ | (refine ⟨?_, HC15.out⟩; simp_all; done) | (refine ⟨?_, HC15.out⟩; simp_all; rw [wrap_in ⟨by omega, by omega⟩]; omega)
theorem step_lit0 (b : Int) (hb : In64 b) (W : World) (q : Nat) (hw : Glob W) (hq : Row W q 45 (insCells 11 1 1 2 0)) :
    Calls Tryd.prog 12 #[.slice (some ⟨q, 0, none⟩) 1 1, .slice none 0 0, .int .i64 0, .agg #[.int .i64 0, .int .i64 b, .int .i64 0, .int .i64 0, .int .i64 0, .int .i64 0, .int .i64 0, .int .i64 0, .int .i64 0, .int .i64 0, .int .i64 0, .int .i64 0, .int .i64 0, .int .i64 0, .int .i64 0, .int .i64 0], .int .i64 0] W fun e w' => e = .returned (.agg (effCells (eff0 (dr b 0) 1 3)).toArray) ∧ Ch No W w' :=
  step_calls (some ⟨q, 0, none⟩) [⟨11, 1, 1, 2, 0⟩] 1 (by simp) (by simp [Ins.ok]) none [] 0 (by simp) (by simp) 0 (dr b 0) (dr_in hb (in_small 0 (by omega) (by omega))) 0 W (by simpa [codeCells, Ins.cells] using hq.cl0) (Cl.nil _ _) hw
set_option maxHeartbeats 4000000 in
theorem divides_zero (b : Int) (hb : In64 b) (w : World) (hg : Glob w) :
    Calls Tryd.prog 5 #[.int .i64 b, .int .i64 0] w fun e w' => e = .returned (.bool true) ∧ Ch No w w' := by
  have hc : In64 0 := in_small 0 (by omega) (by omega)
  have HD := Lib.hid (fun (W : World) (h : Glob W) => does_fault 10 (by omega) b 0 hb hc (stepD_100 b) W h)
  have HM := Lib.hid (fun (W : World) (h : Glob W) => does_fault 11 (by omega) b 0 hb hc (stepD_110 b) W h)
  have HS : Hid (∀ (W : World) (q : Nat), Glob W → Row W q 45 (insCells 11 1 1 2 0) → Calls Tryd.prog 12 #[.slice (some ⟨q, 0, none⟩) 1 1, .slice none 0 0, .int .i64 0, .agg #[.int .i64 0, .int .i64 b, .int .i64 0, .int .i64 0, .int .i64 0, .int .i64 0, .int .i64 0, .int .i64 0, .int .i64 0, .int .i64 0, .int .i64 0, .int .i64 0, .int .i64 0, .int .i64 0, .int .i64 0, .int .i64 0], .int .i64 0] W fun e w' => e = .returned (.agg (effCells (eff0 (dr b 0) 1 3)).toArray) ∧ Ch No W w') := step_lit0 b hb
  have HI22 : Hid ((Tryd.prog.info? 30).map (·.size) = some (effCells (eff0 (dr b 0) 1 3)).length) := by rw [effCells_length]; exact size30
  have HL2 : Hid ((effCells (eff0 (dr b 0) 1 3)).length = (effCells zeroEff).length) := by show _ = _; rw [effCells_length, effCells_length]
  have HG := Lib.hid hg
  clear hg hc
  go_enter Tryd.func5, Tryd.ntmps5
  go_wp2_with (fail)
  refine (HD.out _ HG.out).mono ?_
  rintro e w11 ⟨rfl, hc11⟩
  have HG11 := Lib.hid (HG.out.keep hc11 (not_no _))
  have HC11 := Lib.hid hc11
  clear hc11
  go_wp2_with (fail)
  refine (HM.out _ HG11.out).mono ?_
  rintro e w12 ⟨rfl, hc12⟩
  have HG12 := Lib.hid (HG11.out.keep hc12 (not_no _))
  have HC12 := Lib.hid (HC11.out.then_ hc12)
  clear hc12
  go_wp2_with (fail)
  refine (known_calls _ HG12.out).mono ?_
  rintro e w13 ⟨rfl, hc13⟩
  have HG13 := Lib.hid (HG12.out.keep hc13 (not_no _))
  have HC13 := Lib.hid (HC12.out.then_ hc13)
  clear hc13
  have HR1 : Hid (Row ((w13.alloc (.cells #[.int .i64 0, .int .i64 b, .int .i64 0, .int .i64 0, .int .i64 0, .int .i64 0, .int .i64 0, .int .i64 0, .int .i64 0, .int .i64 0, .int .i64 0, .int .i64 0, .int .i64 0, .int .i64 0, .int .i64 0, .int .i64 0] 24)).alloc (.cells #[.int .u8 11, .int .u8 1, .int .u8 1, .int .u8 2, .int .i32 0] 45)) (w13.heap.size + 1) 45 (insCells 11 1 1 2 0)) := Row.new_at _ 45 (insCells 11 1 1 2 0) (by simp)
  have HR0 : Hid (Row (w13.alloc (.cells #[.int .i64 0, .int .i64 b, .int .i64 0, .int .i64 0, .int .i64 0, .int .i64 0, .int .i64 0, .int .i64 0, .int .i64 0, .int .i64 0, .int .i64 0, .int .i64 0, .int .i64 0, .int .i64 0, .int .i64 0, .int .i64 0] 24)) w13.heap.size 24 (regCells (dr b 0))) := Row.new w13 24 (regCells (dr b 0))
  go_wp2_with (fail)
  refine (HS.out _ (w13.heap.size + 1) (HG13.out.keep (((Ch.refl No w13).alloc _).alloc _) (not_no _)) HR1.out).mono ?_
  rintro e w2 ⟨rfl, hc2⟩
  have HC2 : Hid (Ch No w13 w2) := (((Ch.refl No w13).alloc _).alloc _).then_ hc2
  have HR2 := Lib.hid ((HR0.out.alloc _).keepNo hc2)
  have HZ2 : Hid (Row (w2.alloc (.cells (effCells zeroEff).toArray 30)) w2.heap.size 30 (effCells zeroEff)) := Row.new w2 30 (effCells zeroEff)
  clear hc2
  have hlt : w13.heap.size < w2.heap.size := by have := HR2.out.lt; omega
  have hne : ¬ w13.heap.size = w2.heap.size := by omega
  have hf3 : ∀ w3 : World, Row w3 w2.heap.size 30 (effCells (eff0 (dr b 0) 1 3)) → Ch (Is w2.heap.size) (w2.alloc (.cells (effCells zeroEff).toArray 30)) w3 → w3.cell? ⟨w2.heap.size, 0, none⟩ = some (.int .i64 0) ∧ w3.cell? ⟨w2.heap.size, 1, none⟩ = some (.int .i64 b) ∧ w3.cell? ⟨w2.heap.size, 2, none⟩ = some (.int .i64 0) ∧ w3.cell? ⟨w2.heap.size, 3, none⟩ = some (.int .i64 0) ∧ w3.cell? ⟨w2.heap.size, 4, none⟩ = some (.int .i64 0) ∧ w3.cell? ⟨w2.heap.size, 5, none⟩ = some (.int .i64 0) ∧ w3.cell? ⟨w2.heap.size, 6, none⟩ = some (.int .i64 0) ∧ w3.cell? ⟨w2.heap.size, 7, none⟩ = some (.int .i64 0) ∧ w3.cell? ⟨w2.heap.size, 8, none⟩ = some (.int .i64 0) ∧ w3.cell? ⟨w2.heap.size, 9, none⟩ = some (.int .i64 0) ∧ w3.cell? ⟨w2.heap.size, 10, none⟩ = some (.int .i64 0) ∧ w3.cell? ⟨w2.heap.size, 11, none⟩ = some (.int .i64 0) ∧ w3.cell? ⟨w2.heap.size, 12, none⟩ = some (.int .i64 0) ∧ w3.cell? ⟨w2.heap.size, 13, none⟩ = some (.int .i64 0) ∧ w3.cell? ⟨w2.heap.size, 14, none⟩ = some (.int .i64 0) ∧ w3.cell? ⟨w2.heap.size, 15, none⟩ = some (.int .i64 0) ∧ w3.cell? ⟨w13.heap.size, 0, none⟩ = some (.int .i64 0) ∧ w3.cell? ⟨w13.heap.size, 1, none⟩ = some (.int .i64 b) ∧ w3.cell? ⟨w13.heap.size, 2, none⟩ = some (.int .i64 0) ∧ w3.cell? ⟨w13.heap.size, 3, none⟩ = some (.int .i64 0) ∧ w3.cell? ⟨w13.heap.size, 4, none⟩ = some (.int .i64 0) ∧ w3.cell? ⟨w13.heap.size, 5, none⟩ = some (.int .i64 0) ∧ w3.cell? ⟨w13.heap.size, 6, none⟩ = some (.int .i64 0) ∧ w3.cell? ⟨w13.heap.size, 7, none⟩ = some (.int .i64 0) ∧ w3.cell? ⟨w13.heap.size, 8, none⟩ = some (.int .i64 0) ∧ w3.cell? ⟨w13.heap.size, 9, none⟩ = some (.int .i64 0) ∧ w3.cell? ⟨w13.heap.size, 10, none⟩ = some (.int .i64 0) ∧ w3.cell? ⟨w13.heap.size, 11, none⟩ = some (.int .i64 0) ∧ w3.cell? ⟨w13.heap.size, 12, none⟩ = some (.int .i64 0) ∧ w3.cell? ⟨w13.heap.size, 13, none⟩ = some (.int .i64 0) ∧ w3.cell? ⟨w13.heap.size, 14, none⟩ = some (.int .i64 0) ∧ w3.cell? ⟨w13.heap.size, 15, none⟩ = some (.int .i64 0) ∧ w3.cell? ⟨w2.heap.size, 16, none⟩ = some (.int .i64 1) ∧ w3.cell? ⟨w2.heap.size, 20, none⟩ = some (.int .i64 3) := by
    intro w3 hr hc
    have hr0 : Row w3 w13.heap.size 24 (regCells (dr b 0)) := (HR2.out.alloc _).keepIs hc hne
    have hb : ∀ i, i < 16 → w3.cell? ⟨w13.heap.size, i, none⟩ = some (.int .i64 (dr b 0 i)) := fun i hi => by rw [hr0.cell]; exact regCells_get _ _ hi
    exact ⟨row_reg hr 0 (by omega), row_reg hr 1 (by omega), row_reg hr 2 (by omega), row_reg hr 3 (by omega), row_reg hr 4 (by omega), row_reg hr 5 (by omega), row_reg hr 6 (by omega), row_reg hr 7 (by omega), row_reg hr 8 (by omega), row_reg hr 9 (by omega), row_reg hr 10 (by omega), row_reg hr 11 (by omega), row_reg hr 12 (by omega), row_reg hr 13 (by omega), row_reg hr 14 (by omega), row_reg hr 15 (by omega), hb 0 (by omega), hb 1 (by omega), hb 2 (by omega), hb 3 (by omega), hb 4 (by omega), hb 5 (by omega), hb 6 (by omega), hb 7 (by omega), hb 8 (by omega), hb 9 (by omega), hb 10 (by omega), hb 11 (by omega), hb 12 (by omega), hb 13 (by omega), hb 14 (by omega), hb 15 (by omega), row_rest hr 0, row_rest hr 4⟩
  have HF3 := Lib.hid hf3
  clear hf3
  have heq : ∀ W : World, (Op.equalIn 10000 24 (.agg #[.int .i64 0, .int .i64 b, .int .i64 0, .int .i64 0, .int .i64 0, .int .i64 0, .int .i64 0, .int .i64 0, .int .i64 0, .int .i64 0, .int .i64 0, .int .i64 0, .int .i64 0, .int .i64 0, .int .i64 0, .int .i64 0]) (.agg #[.int .i64 0, .int .i64 b, .int .i64 0, .int .i64 0, .int .i64 0, .int .i64 0, .int .i64 0, .int .i64 0, .int .i64 0, .int .i64 0, .int .i64 0, .int .i64 0, .int .i64 0, .int .i64 0, .int .i64 0, .int .i64 0])).run Tryd.prog W = .ok true W := fun W => (eq_regs (dr b 0) (dr b 0) W).trans (by simp)
  go_wp2_with (refine wpList_store_agg (o := ⟨none, .store 30 (.tmp 10) (.tmp 44), _, _, _, _⟩) rfl 30 (.tmp 10) (.tmp 44) rfl w2.heap.size rfl 30 (effCells zeroEff) (effCells (eff0 (dr b 0) 1 3)) rfl HZ2.out HI22.out HL2.out (eff_one _) ?_; intro w3 hr3 hc3; obtain ⟨a0, a1, a2, a3, a4, a5, a6, a7, a8, a9, a10, a11, a12, a13, a14, a15, b0, b1, b2, b3, b4, b5, b6, b7, b8, b9, b10, b11, b12, b13, b14, b15, d0, d1⟩ := HF3.out w3 hr3 hc3; have HC3 := Lib.hid hc3; clear hr3 hc3)
  go_ret
  exact ⟨rfl, (HC13.out.then_ HC2.out |>.alloc _).trans HC3.out (fun i hi he => by cases he; have := HC2.out.size; have := HC13.out.size; omega)⟩
/-- CpuDivides, whatever the numbers -/
theorem divides_calls (b c : Int) (hb : In64 b) (hc : In64 c) (w : World) (hg : Glob w) :
    Calls Tryd.prog 5 #[.int .i64 b, .int .i64 c] w fun e w' => e = .returned (.bool true) ∧ Ch No w w' := by
  by_cases h : c = 0
  · subst h
    exact divides_zero b hb w hg
  · exact divides_ok b c hb hc h w hg
end Go.Proofs.YtellmlffkgfeiaaDoor