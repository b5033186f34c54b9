/- The document's answer: memory. -/
import Derived.Test.YtellmlffkgfeiaaDoorV3
import Derived.Test.YtellmlffkgfeiaaDoorU4
set_option linter.unusedVariables false
set_option linter.unusedSimpArgs false
namespace Go.Proofs.YtellmlffkgfeiaaDoor
open Go.RowKit
theorem pl_build3 {ops : Array Oper} {rest : List Oper} {o : Oper} {a : Act} {Q : Exit → Act → World → Prop} {w : World} (hgd : o.guard = none) (x y z : Operand) (ho : o.op = .build 30 #[(0, x), (1, y), (5, z)]) (r : Nat → Int) (pc f : Int)
    (hx : a.eval x = .agg (regCells r).toArray) (hy : a.eval y = .int .i64 pc) (hz : a.eval z = .int .i64 f) (h : wpList Tryd.prog ops Q rest (a.put o.dst (.agg (effCells (eff0 r pc f)).toArray)) w) : wpList Tryd.prog ops Q (o :: rest) a w := by
  refine wpList_plain hgd fun _ hK => ?_
  obtain ⟨dst, op, ty, pos, after, guard⟩ := o
  simp only at ho
  subst ho
  have e : (execOp a.eval { dst, op := .build 30 #[(0, x), (1, y), (5, z)], type := ty, pos, after, guard }).run Tryd.prog w = .ok (.value (.agg (effCells (eff0 r pc f)).toArray)) w := by
    refine exec_build ?_
    simp only [List.map_toArray, List.map_cons, List.map_nil, hx, hy, hz]
    exact build_3' r pc f w
  unfold Oper.wp
  rw [e]
  exact hK _ _ h
set_option maxHeartbeats 1000000 in
theorem fault_29 (r : Nat → Int) (pc f : Int) (hp0 : -9223372036854775808 ≤ pc) (hp1 : pc < 9223372036854775807) (w : World) : Calls Tryd.prog 29 #[.agg (regCells r).toArray, .int .i64 pc, .int .i64 f] w fun e w' => e = .returned (.agg (effCells (eff0 r (pc + 1) f)).toArray) ∧ Ch No w w' := by
  have HRR : Hid (Row ((w.alloc (.cells (regCells r).toArray 24)).alloc (.cells (effCells zeroEff).toArray 30)) w.heap.size 24 (regCells r)) := (Row.new w 24 (regCells r)).alloc _
  have HZ : Hid (Row ((w.alloc (.cells (regCells r).toArray 24)).alloc (.cells (effCells zeroEff).toArray 30)) (w.heap.size + 1) 30 (effCells zeroEff)) := Row.new_at _ 30 (effCells zeroEff) (by simp)
  go_enter Tryd.func29, Tryd.ntmps29
  go_wp2_with (first | ((with_reducible refine at_op (o := ⟨some 7, _, _, _, _, _⟩) ?_); refine pl_load (o := ⟨some 7, _, _, _, _, _⟩) rfl 24 _ rfl w.heap.size rfl 24 (regCells r) HRR.out _ Tryd.underlying24 rfl (sizeR _) ?_) | ((with_reducible refine at_op (o := ⟨some 11, _, _, _, _, _⟩) ?_); refine pl_build3 (o := ⟨some 11, _, _, _, _, _⟩) rfl (.tmp 7) (.tmp 9) (.tmp 10) rfl r (pc + 1) f rfl rfl rfl ?_) | ((with_reducible refine at_op (o := ⟨none, .store 30 (.tmp 6) (.tmp 11), _, _, _, _⟩) ?_); refine pl_store (o := ⟨none, .store 30 (.tmp 6) (.tmp 11), _, _, _, _⟩) rfl 30 (.tmp 6) (.tmp 11) rfl (w.heap.size + 1) rfl 30 (effCells zeroEff) (effCells (eff0 r (pc + 1) f)) rfl HZ.out (sizeE _) (lenE _ _) (eff_one _) ?_; intro w1 hr1 hc1; have HR1 := Lib.hid hr1; have HC1 := Lib.hid hc1; clear hr1 hc1))
  refine bodyPost_ret (v := .agg (effCells (eff0 r (pc + 1) f)).toArray) (results_row rfl _ _ (w.heap.size + 1) 30 _ _ rfl HR1.out Tryd.underlying30 rfl (sizeE _)) rfl ⟨rfl, ?_⟩
  exact (((Ch.refl No w).alloc _).alloc _).trans HC1.out (fun i hi he => by cases he; omega)
set_option maxHeartbeats 1000000 in
theorem with_67 (E : Eff) (r : Nat) (hr : r < 16) (v : Int) (w : World) : Calls Tryd.prog 67 #[.agg (effCells E).toArray, .int .u8 r, .int .i64 v] w fun e w' => e = .returned (.agg (effCells (E.reg r v)).toArray) ∧ Ch No w w' := by
  have HR0 : Hid (Row ((w.alloc (.cells (effCells E).toArray 30)).alloc (.cells (effCells zeroEff).toArray 30)) w.heap.size 30 (effCells E)) := (Row.new w 30 (effCells E)).alloc _
  have HZ : Hid (Row ((w.alloc (.cells (effCells E).toArray 30)).alloc (.cells (effCells zeroEff).toArray 30)) (w.heap.size + 1) 30 (effCells zeroEff)) := Row.new_at _ 30 (effCells zeroEff) (by simp)
  have HC0 : Hid (Ch No w ((w.alloc (.cells (effCells E).toArray 30)).alloc (.cells (effCells zeroEff).toArray 30))) := ((Ch.refl No w).alloc _).alloc _
  have hr1 : (r : Int) < 16 := by omega
  go_enter Tryd.func67, Tryd.ntmps67
  go_upto_region 1 with (fail)
  change Code.wp _ _ _ _ (World.alloc (World.alloc w (.cells (effCells E).toArray 30)) (.cells (effCells zeroEff).toArray 30))
  generalize World.alloc (World.alloc w (.cells (effCells E).toArray 30)) (.cells (effCells zeroEff).toArray 30) = w1 at *
  have hlt : w.heap.size < w1.heap.size := HR0.out.lt
  have c0 : w1.cell? ⟨w.heap.size, r, none⟩ = some (.int .i64 (E.r r)) := row_reg HR0.out r hr
  have f0 : w1.frozen? ⟨w.heap.size, r, none⟩ = false := HR0.out.frozen r
  have HS : Hid (Row (w1.setCell ⟨w.heap.size, r, none⟩ (.int .i64 v)) w.heap.size 30 (effCells (E.reg r v))) := by
    show Row _ _ _ _
    rw [← eff_set_reg E r hr v]
    exact HR0.out.set_ r _
  have HZ1 : Hid (Row (w1.setCell ⟨w.heap.size, r, none⟩ (.int .i64 v)) (w.heap.size + 1) 30 (effCells zeroEff)) := HZ.out.setOther (by simp) _
  go_wp2_with (first | ((with_reducible refine at_op (o := ⟨some 12, _, _, _, _, _⟩) ?_); refine pl_load (o := ⟨some 12, _, _, _, _, _⟩) rfl 30 _ rfl w.heap.size rfl 30 (effCells (E.reg r v)) HS.out _ Tryd.underlying30 rfl (sizeE _) ?_) | ((with_reducible refine at_op (o := ⟨none, .store 30 (.tmp 6) (.tmp 12), _, _, _, _⟩) ?_); refine pl_store (o := ⟨none, .store 30 (.tmp 6) (.tmp 12), _, _, _, _⟩) rfl 30 (.tmp 6) (.tmp 12) rfl (w.heap.size + 1) rfl 30 (effCells zeroEff) (effCells (E.reg r v)) rfl HZ1.out (sizeE _) (lenE _ _) (eff_one _) ?_; intro w2 hr2 hc2; have HR2 := Lib.hid hr2; have HC2 := Lib.hid hc2; clear hr2 hc2))
  refine bodyPost_ret (v := .agg (effCells (E.reg r v)).toArray) (results_row rfl _ _ (w.heap.size + 1) 30 _ _ rfl HR2.out Tryd.underlying30 rfl (sizeE _)) rfl ⟨rfl, ?_⟩
  exact (HC0.out.setCell (fun hh => absurd hh (by simp)) _).trans HC2.out (fun i hi he => by cases he; omega)
theorem ch_newg {w w' : World} {g : Nat} {w0 : World} (hc : Ch No w0 w) (h : Ch (Is g) w w') (hg : w0.heap.size ≤ g) : Ch No w0 w' := hc.trans h (fun i hi he => by cases he; omega)

open Go.RowKit
theorem may_ld (len a : Int) (h0 : 0 ≤ len) : may len 0 a 1 = decide (0 ≤ a ∧ a < len) := by
  unfold may
  rw [Bool.eq_iff_iff]
  simp
  omega
theorem may_st (len : Nat) (fixed a : Int) : may len (fix fixed len) a 1 = decide (0 ≤ a ∧ a < len ∧ fixed ≤ a) := by
  unfold may fix
  rw [Bool.eq_iff_iff]
  simp
  omega
/-- what memory answers -/
def memF (op a b : Nat) (n : Int) (xs : List Int) (fixed : Int) (r : Nat → Int) (pc : Int) : Eff :=
  if Fadd (r b) n < 0 ∨ (xs.length : Int) ≤ Fadd (r b) n ∨ (op = 6 ∧ Fadd (r b) n < fixed) then eff0 r (pc + 1) 2
  else if op = 5 then (eff0 r (pc + 1) 0).reg a (rd xs (Fadd (r b) n).toNat) else { eff0 r (pc + 1) 0 with st := true, addr := Fadd (r b) n, val := r a }
set_option maxRecDepth 100000 in
set_option maxHeartbeats 4000000 in
theorem mem_bad (op a b c : Nat) (n : Int) (hop : op = 5 ∨ op = 6) (ha : a < 16) (hb : b < 16) (M : Option Addr) (xs : List Int) (mcap : Nat) (hm : xs.length ≤ 9223372036854775807) (fixed : Int) (r : Nat → Int) (pc : Int) (hp0 : -9223372036854775808 ≤ pc) (hp1 : pc < 9223372036854775807) (hn0 : -2147483648 ≤ n) (hn1 : n ≤ 2147483647) (w : World)
    (hbad : Fadd (r b) n < 0 ∨ (xs.length : Int) ≤ Fadd (r b) n ∨ (op = 6 ∧ Fadd (r b) n < fixed)) :
    Calls Tryd.prog 69 #[.agg (insCells op a b c n).toArray, .slice M xs.length mcap, .int .i64 fixed, .agg (regCells r).toArray, .int .i64 pc] w fun e w' => e = .returned (.agg (effCells (eff0 r (pc + 1) 2)).toArray) ∧ Ch No w w' := by
  have HX : Hid (Row (((w.alloc (.cells (insCells op a b c n).toArray 45)).alloc (.cells (regCells r).toArray 24)).alloc (.cells (effCells zeroEff).toArray 30)) w.heap.size 45 (insCells op a b c n)) := ((Row.new w 45 (insCells op a b c n)).alloc _).alloc _
  have HRR : Hid (Row (((w.alloc (.cells (insCells op a b c n).toArray 45)).alloc (.cells (regCells r).toArray 24)).alloc (.cells (effCells zeroEff).toArray 30)) (w.heap.size + 1) 24 (regCells r)) := (Row.new_at _ 24 (regCells r) (by simp)).alloc _
  have HZ : Hid (Row (((w.alloc (.cells (insCells op a b c n).toArray 45)).alloc (.cells (regCells r).toArray 24)).alloc (.cells (effCells zeroEff).toArray 30)) (w.heap.size + 1 + 1) 30 (effCells zeroEff)) := Row.new_at _ 30 (effCells zeroEff) (by simp)
  have HC0 : Hid (Ch No w (((w.alloc (.cells (insCells op a b c n).toArray 45)).alloc (.cells (regCells r).toArray 24)).alloc (.cells (effCells zeroEff).toArray 30))) := (((Ch.refl No w).alloc _).alloc _).alloc _
  have hb1 : (b : Int) < 16 := by omega
  have hadd : IntKind.i64.wrap (r b + n) = Fadd (r b) n := by rw [i64_wrap, bv_toInt, add_is]
  have hnw : IntKind.i64.wrap n = n := by rw [i64_wrap, bv_in ⟨by omega, by omega⟩]
  generalize Fadd (r b) n = ad at *
  have HB := Lib.hid hbad
  have HOP := Lib.hid hop
  clear hbad hop
  go_enter Tryd.func69, Tryd.ntmps69
  go_upto_region 1 with (fail)
  change Code.wp _ _ _ _ (World.alloc (World.alloc (World.alloc w (.cells (insCells op a b c n).toArray 45)) (.cells (regCells r).toArray 24)) (.cells (effCells zeroEff).toArray 30))
  generalize World.alloc (World.alloc (World.alloc w (.cells (insCells op a b c n).toArray 45)) (.cells (regCells r).toArray 24)) (.cells (effCells zeroEff).toArray 30) = w1 at *
  have x0 : w1.cell? ⟨w.heap.size, 0, none⟩ = some (.int .u8 op) := HX.out.cell 0
  have x2 : w1.cell? ⟨w.heap.size, 2, none⟩ = some (.int .u8 b) := HX.out.cell 2
  have x4 : w1.cell? ⟨w.heap.size, 4, none⟩ = some (.int .i32 n) := HX.out.cell 4
  have y0 : w1.cell? ⟨w.heap.size + 1, b, none⟩ = some (.int .i64 (r b)) := by rw [HRR.out.cell, regCells_get r b hb]
  go_quiet (fail)
  have HW : Hid (∀ j, Row (w1.drewN j) (w.heap.size + 1) 24 (regCells r) ∧ Row (w1.drewN j) (w.heap.size + 1 + 1) 30 (effCells zeroEff) ∧ Ch No w (w1.drewN j)) := fun j => ⟨HRR.out.drewN j, HZ.out.drewN j, HC0.out.drewN j⟩
  by_cases h1 : ad < 0
  · have d1 : decide (ad < 0) = true := by simpa using h1
    go_wp2_with (first | ((with_reducible refine at_op (o := ⟨some 40, _, _, _, _, _⟩) ?_); refine pl_load (o := ⟨some 40, _, _, _, _, _⟩) rfl 24 _ rfl (w.heap.size + 1) rfl 24 (regCells r) (HRR.out.drewN _) _ Tryd.underlying24 rfl (sizeR _) ?_) | (go_at_call 29; refine (fault_29 r pc 2 hp0 hp1 _).mono ?_; rintro e w2 ⟨rfl, hc2⟩; have HZ2 := Lib.hid ((HZ.out.drewN _).keepNo hc2); have HC2 := Lib.hid ((HC0.out.drewN _).then_ hc2); clear hc2) | ((with_reducible refine at_op (o := ⟨none, .store 30 (.tmp 10) (.tmp 42), _, _, _, _⟩) ?_); refine pl_store (o := ⟨none, .store 30 (.tmp 10) (.tmp 42), _, _, _, _⟩) rfl 30 (.tmp 10) (.tmp 42) rfl (w.heap.size + 1 + 1) rfl 30 (effCells zeroEff) (effCells (eff0 r (pc + 1) 2)) rfl HZ2.out (sizeE _) (lenE _ _) (eff_one _) ?_; intro w3 hr3 hc3; have HR3 := Lib.hid hr3; have HC3 := Lib.hid hc3; clear hr3 hc3))
    refine bodyPost_ret (v := .agg (effCells (eff0 r (pc + 1) 2)).toArray) (results_row rfl _ _ (w.heap.size + 1 + 1) 30 _ _ rfl HR3.out Tryd.underlying30 rfl (sizeE _)) rfl ⟨rfl, ?_⟩
    exact HC2.out.trans HC3.out (fun i hi he => by cases he; omega)
  · have d1 : decide (ad < 0) = false := by simpa using h1
    by_cases h2 : (xs.length : Int) ≤ ad
    · have d2 : decide ((xs.length : Int) ≤ ad) = true := by simpa using h2
      go_wp2_with (first | ((with_reducible refine at_op (o := ⟨some 40, _, _, _, _, _⟩) ?_); refine pl_load (o := ⟨some 40, _, _, _, _, _⟩) rfl 24 _ rfl (w.heap.size + 1) rfl 24 (regCells r) (HRR.out.drewN _) _ Tryd.underlying24 rfl (sizeR _) ?_) | (go_at_call 29; refine (fault_29 r pc 2 hp0 hp1 _).mono ?_; rintro e w2 ⟨rfl, hc2⟩; have HZ2 := Lib.hid ((HZ.out.drewN _).keepNo hc2); have HC2 := Lib.hid ((HC0.out.drewN _).then_ hc2); clear hc2) | ((with_reducible refine at_op (o := ⟨none, .store 30 (.tmp 10) (.tmp 42), _, _, _, _⟩) ?_); refine pl_store (o := ⟨none, .store 30 (.tmp 10) (.tmp 42), _, _, _, _⟩) rfl 30 (.tmp 10) (.tmp 42) rfl (w.heap.size + 1 + 1) rfl 30 (effCells zeroEff) (effCells (eff0 r (pc + 1) 2)) rfl HZ2.out (sizeE _) (lenE _ _) (eff_one _) ?_; intro w3 hr3 hc3; have HR3 := Lib.hid hr3; have HC3 := Lib.hid hc3; clear hr3 hc3))
      refine bodyPost_ret (v := .agg (effCells (eff0 r (pc + 1) 2)).toArray) (results_row rfl _ _ (w.heap.size + 1 + 1) 30 _ _ rfl HR3.out Tryd.underlying30 rfl (sizeE _)) rfl ⟨rfl, ?_⟩
      exact HC2.out.trans HC3.out (fun i hi he => by cases he; omega)
    · have d2 : decide ((xs.length : Int) ≤ ad) = false := by simpa using h2
      have h6 : op = 6 ∧ ad < fixed := by have := HB.out; omega
      have b6 : ((op : Int) == 6) = true := by simp; omega
      have d6 : decide (ad < fixed) = true := by simpa using h6.2
      clear h6
      go_wp2_with (first | ((with_reducible refine at_op (o := ⟨some 40, _, _, _, _, _⟩) ?_); refine pl_load (o := ⟨some 40, _, _, _, _, _⟩) rfl 24 _ rfl (w.heap.size + 1) rfl 24 (regCells r) (HRR.out.drewN _) _ Tryd.underlying24 rfl (sizeR _) ?_) | (go_at_call 29; refine (fault_29 r pc 2 hp0 hp1 _).mono ?_; rintro e w2 ⟨rfl, hc2⟩; have HZ2 := Lib.hid ((HZ.out.drewN _).keepNo hc2); have HC2 := Lib.hid ((HC0.out.drewN _).then_ hc2); clear hc2) | ((with_reducible refine at_op (o := ⟨none, .store 30 (.tmp 10) (.tmp 42), _, _, _, _⟩) ?_); refine pl_store (o := ⟨none, .store 30 (.tmp 10) (.tmp 42), _, _, _, _⟩) rfl 30 (.tmp 10) (.tmp 42) rfl (w.heap.size + 1 + 1) rfl 30 (effCells zeroEff) (effCells (eff0 r (pc + 1) 2)) rfl HZ2.out (sizeE _) (lenE _ _) (eff_one _) ?_; intro w3 hr3 hc3; have HR3 := Lib.hid hr3; have HC3 := Lib.hid hc3; clear hr3 hc3))
      refine bodyPost_ret (v := .agg (effCells (eff0 r (pc + 1) 2)).toArray) (results_row rfl _ _ (w.heap.size + 1 + 1) 30 _ _ rfl HR3.out Tryd.underlying30 rfl (sizeE _)) rfl ⟨rfl, ?_⟩
      exact HC2.out.trans HC3.out (fun i hi he => by cases he; omega)
end Go.Proofs.YtellmlffkgfeiaaDoor
