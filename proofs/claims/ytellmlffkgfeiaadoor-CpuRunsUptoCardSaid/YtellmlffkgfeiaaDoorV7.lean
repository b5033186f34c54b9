/- The document's answer: div, mod and the jumps. -/
import Derived.Test.YtellmlffkgfeiaaDoorV5
set_option linter.unusedVariables false
set_option linter.unusedSimpArgs false
namespace Go.Proofs.YtellmlffkgfeiaaDoor
open Go.RowKit
set_option maxRecDepth 100000 in
set_option maxHeartbeats 4000000 in
theorem mem_ld (a b c : Nat) (n : Int) (ha : a < 16) (hb : b < 16) (M : Option Addr) (xs : List Int) (mcap : Nat) (hm : xs.length ≤ 9223372036854775807) (fixed : Int) (r : Nat → Int) (pc : Int) (hp0 : -9223372036854775808 ≤ pc) (hp1 : pc < 9223372036854775807) (hn0 : -2147483648 ≤ n) (hn1 : n ≤ 2147483647) (w : World)
    (hM : Cl w M (ints xs)) (h1 : 0 ≤ Fadd (r b) n) (h2 : Fadd (r b) n < xs.length) :
    Calls Tryd.prog 69 #[.agg (insCells 5 a b c n).toArray, .slice M xs.length mcap, .int .i64 fixed, .agg (regCells r).toArray, .int .i64 pc] w fun e w' => e = .returned (.agg (effCells ((eff0 r (pc + 1) 0).reg a (rd xs (Fadd (r b) n).toNat))).toArray) ∧ Ch No w w' := by
  have HX : Hid (Row (((w.alloc (.cells (insCells 5 a b c n).toArray 45)).alloc (.cells (regCells r).toArray 24)).alloc (.cells (effCells zeroEff).toArray 30)) w.heap.size 45 (insCells 5 a b c n)) := ((Row.new w 45 (insCells 5 a b c n)).alloc _).alloc _
  have HRR : Hid (Row (((w.alloc (.cells (insCells 5 a b c n).toArray 45)).alloc (.cells (regCells r).toArray 24)).alloc (.cells (effCells zeroEff).toArray 30)) (w.heap.size + 1) 24 (regCells r)) := (Row.new_at _ 24 (regCells r) (by simp)).alloc _
  have HZ : Hid (Row (((w.alloc (.cells (insCells 5 a b c n).toArray 45)).alloc (.cells (regCells r).toArray 24)).alloc (.cells (effCells zeroEff).toArray 30)) (w.heap.size + 1 + 1) 30 (effCells zeroEff)) := Row.new_at _ 30 (effCells zeroEff) (by simp)
  have HC0 : Hid (Ch No w (((w.alloc (.cells (insCells 5 a b c n).toArray 45)).alloc (.cells (regCells r).toArray 24)).alloc (.cells (effCells zeroEff).toArray 30))) := (((Ch.refl No w).alloc _).alloc _).alloc _
  have hb1 : (b : Int) < 16 := by omega
  have hadd : IntKind.i64.wrap (r b + n) = Fadd (r b) n := by rw [i64_wrap, bv_toInt, add_is]
  have hnw : IntKind.i64.wrap n = n := by rw [i64_wrap, bv_in ⟨by omega, by omega⟩]
  generalize Fadd (r b) n = ad at *
  obtain ⟨k, rfl⟩ := Int.eq_ofNat_of_zero_le h1
  simp only [Int.ofNat_eq_natCast, Int.toNat_natCast] at *
  have hk : k < xs.length := by omega
  obtain ⟨md, rfl, hmc⟩ := cl_rd (hM.keepNo HC0.out) k hk
  have HMC := Lib.hid hmc
  clear hM hmc
  go_enter Tryd.func69, Tryd.ntmps69
  go_upto_region 1 with (fail)
  change Code.wp _ _ _ _ (World.alloc (World.alloc (World.alloc w (.cells (insCells 5 a b c n).toArray 45)) (.cells (regCells r).toArray 24)) (.cells (effCells zeroEff).toArray 30))
  generalize World.alloc (World.alloc (World.alloc w (.cells (insCells 5 a b c n).toArray 45)) (.cells (regCells r).toArray 24)) (.cells (effCells zeroEff).toArray 30) = w1 at *
  have x0 : w1.cell? ⟨w.heap.size, 0, none⟩ = some (.int .u8 5) := HX.out.cell 0
  have x2 : w1.cell? ⟨w.heap.size, 2, none⟩ = some (.int .u8 b) := HX.out.cell 2
  have x4 : w1.cell? ⟨w.heap.size, 4, none⟩ = some (.int .i32 n) := HX.out.cell 4
  have y0 : w1.cell? ⟨w.heap.size + 1, b, none⟩ = some (.int .i64 (r b)) := by rw [HRR.out.cell, regCells_get r b hb]
  have HN1 : Hid (¬ w.heap.size = w1.heap.size ∧ ¬ w.heap.size + 1 = w1.heap.size ∧ ¬ w.heap.size + 1 + 1 = w1.heap.size ∧ w.heap.size ≤ w1.heap.size) := by
    have := HZ.out.lt
    exact ⟨by omega, by omega, by omega, by omega⟩
  have HNEW : Hid (∀ j, Row ((w1.drewN j).alloc (.cells (effCells zeroEff).toArray 30)) w1.heap.size 30 (effCells zeroEff)) := fun j => Row.new_at _ 30 (effCells zeroEff) rfl
  go_quiet (fail)
  go_upto_region 5 with (first | ((with_reducible refine at_op (o := ⟨some 43, _, _, _, _, _⟩) ?_); refine pl_load (o := ⟨some 43, _, _, _, _, _⟩) rfl 24 _ rfl (w.heap.size + 1) rfl 24 (regCells r) (HRR.out.drewN _) _ Tryd.underlying24 rfl (sizeR _) ?_) | ((with_reducible refine at_op (o := ⟨some 46, _, _, _, _, _⟩) ?_); refine pl_build2 (o := ⟨some 46, _, _, _, _, _⟩) rfl (.tmp 43) (.tmp 45) rfl r (pc + 1) rfl rfl ?_) | ((with_reducible refine at_op (o := ⟨none, .store 30 (.tmp 12) (.tmp 46), _, _, _, _⟩) ?_); refine pl_store (o := ⟨none, .store 30 (.tmp 12) (.tmp 46), _, _, _, _⟩) rfl 30 (.tmp 12) (.tmp 46) rfl w1.heap.size rfl 30 (effCells zeroEff) (effCells (eff0 r (pc + 1) 0)) rfl (HNEW.out _) (sizeE _) (lenE _ _) (eff_one _) ?_; intro w4 hr4 hc4; have HE4 := Lib.hid hr4; have HX4 := Lib.hid (((HX.out.drewN _).alloc _).keepIs hc4 HN1.out.1); have HR4 := Lib.hid (((HRR.out.drewN _).alloc _).keepIs hc4 HN1.out.2.1); have HZ4 := Lib.hid (((HZ.out.drewN _).alloc _).keepIs hc4 HN1.out.2.2.1); have HC4 := Lib.hid (ch_newg ((HC0.out.drewN _).alloc _) hc4 HN1.out.2.2.2); have HD4 := Lib.hid (((Ch.refl (Is w1.heap.size) w1).drewN _).alloc _ |>.trans hc4 (fun _ _ h => h)); clear hr4 hc4))
  clear x0 x2 x4 y0
  have hlt4 : w1.heap.size < w4.heap.size := HE4.out.lt
  have x0 : w4.cell? ⟨w.heap.size, 0, none⟩ = some (.int .u8 5) := HX4.out.cell 0
  have x1 : w4.cell? ⟨w.heap.size, 1, none⟩ = some (.int .u8 a) := HX4.out.cell 1
  have hmb : md.block < w1.heap.size := by
    have := World.block_lt_of_cell? w1 _ HMC.out
    have e : (md.add k).block = md.block := by unfold Addr.add; split <;> rfl
    omega
  have m4 : w4.cell? (md.add k) = some (.int .i64 (rd xs k)) := by
    have e : (md.add k).block = md.block := by unfold Addr.add; split <;> rfl
    refine HD4.out.cell (fun h => ?_) HMC.out
    have h' : (md.add k).block = w1.heap.size := h
    omega
  have k1 : (k : Int) < (xs.length : Int) := by omega
  have k2 : (0 : Int) ≤ (k : Int) := by omega
  go_upto_region 6 with (fail)
  refine wp_region_qt 7 (by kernel_rfl) (by kernel_rfl) ?_
  simp only [List.take_succ_cons, List.take_zero, List.drop_succ_cons, List.drop_zero]
  refine wpQuiet_read (by rfl) (.agg (effCells (eff0 r (pc + 1) 0)).toArray) (fun w' hw' => by
    obtain ⟨j, rfl⟩ := hw'
    exact exec_load_agg 30 (.tmp 12) rfl w1.heap.size rfl 30 _ (HE4.out.drewN j) _ Tryd.underlying30 rfl (sizeE _)) ?_
  simp only [Act.put, List.setIfInBounds_toArray, List.set_cons_zero, List.set_cons_succ]
  repeat (quiet_step (fail))
  refine wpQuiet_nil ?_
  intro _ hw'
  obtain ⟨nq, hw''⟩ := hw'
  subst hw''
  go_wp2_with (first | (go_at_call 67; refine (with_67 (eff0 r (pc + 1) 0) a ha (rd xs k) _).mono ?_; rintro e w5 ⟨rfl, hc5⟩; have HZ5 := Lib.hid ((HZ4.out.drewN _).keepNo hc5); have HC5 := Lib.hid ((HC4.out.drewN _).then_ hc5); clear hc5) | ((with_reducible refine at_op (o := ⟨none, .store 30 (.tmp 10) (.tmp 57), _, _, _, _⟩) ?_); refine wpList_store_agg (o := ⟨none, .store 30 (.tmp 10) (.tmp 57), _, _, _, _⟩) rfl 30 (.tmp 10) (.tmp 57) rfl (w.heap.size + 1 + 1) rfl 30 (effCells zeroEff) (effCells ((eff0 r (pc + 1) 0).reg a (rd xs k))) rfl HZ5.out (sizeE _) (lenE _ _) (eff_one _) ?_; intro w6 hr6 hc6; have HR6 := Lib.hid hr6; have HC6 := Lib.hid hc6; clear hr6 hc6))
  refine bodyPost_ret (v := .agg (effCells ((eff0 r (pc + 1) 0).reg a (rd xs k))).toArray) (results_row rfl _ _ (w.heap.size + 1 + 1) 30 _ _ rfl HR6.out Tryd.underlying30 rfl (sizeE _)) rfl ⟨rfl, ?_⟩
  exact ch_newg HC5.out HC6.out (by omega)

open Go.RowKit
set_option maxRecDepth 100000 in
set_option maxHeartbeats 4000000 in
theorem mem_st (a b c : Nat) (n : Int) (ha : a < 16) (hb : b < 16) (M : Option Addr) (xs : List Int) (mcap : Nat) (hm : xs.length ≤ 9223372036854775807) (fixed : Int) (r : Nat → Int) (pc : Int) (hp0 : -9223372036854775808 ≤ pc) (hp1 : pc < 9223372036854775807) (hn0 : -2147483648 ≤ n) (hn1 : n ≤ 2147483647) (w : World)
    (h1 : 0 ≤ Fadd (r b) n) (h2 : Fadd (r b) n < xs.length) (h3 : fixed ≤ Fadd (r b) n) :
    Calls Tryd.prog 69 #[.agg (insCells 6 a b c n).toArray, .slice M xs.length mcap, .int .i64 fixed, .agg (regCells r).toArray, .int .i64 pc] w fun e w' => e = .returned (.agg (effCells { eff0 r (pc + 1) 0 with st := true, addr := Fadd (r b) n, val := r a }).toArray) ∧ Ch No w w' := by
  have HX : Hid (Row (((w.alloc (.cells (insCells 6 a b c n).toArray 45)).alloc (.cells (regCells r).toArray 24)).alloc (.cells (effCells zeroEff).toArray 30)) w.heap.size 45 (insCells 6 a b c n)) := ((Row.new w 45 (insCells 6 a b c n)).alloc _).alloc _
  have HRR : Hid (Row (((w.alloc (.cells (insCells 6 a b c n).toArray 45)).alloc (.cells (regCells r).toArray 24)).alloc (.cells (effCells zeroEff).toArray 30)) (w.heap.size + 1) 24 (regCells r)) := (Row.new_at _ 24 (regCells r) (by simp)).alloc _
  have HZ : Hid (Row (((w.alloc (.cells (insCells 6 a b c n).toArray 45)).alloc (.cells (regCells r).toArray 24)).alloc (.cells (effCells zeroEff).toArray 30)) (w.heap.size + 1 + 1) 30 (effCells zeroEff)) := Row.new_at _ 30 (effCells zeroEff) (by simp)
  have HC0 : Hid (Ch No w (((w.alloc (.cells (insCells 6 a b c n).toArray 45)).alloc (.cells (regCells r).toArray 24)).alloc (.cells (effCells zeroEff).toArray 30))) := (((Ch.refl No w).alloc _).alloc _).alloc _
  have hb1 : (b : Int) < 16 := by omega
  have hadd : IntKind.i64.wrap (r b + n) = Fadd (r b) n := by rw [i64_wrap, bv_toInt, add_is]
  have hnw : IntKind.i64.wrap n = n := by rw [i64_wrap, bv_in ⟨by omega, by omega⟩]
  generalize Fadd (r b) n = ad at *
  obtain ⟨k, rfl⟩ := Int.eq_ofNat_of_zero_le h1
  simp only [Int.ofNat_eq_natCast, Int.toNat_natCast] at *
  have hk : k < xs.length := by omega
  go_enter Tryd.func69, Tryd.ntmps69
  go_upto_region 1 with (fail)
  change Code.wp _ _ _ _ (World.alloc (World.alloc (World.alloc w (.cells (insCells 6 a b c n).toArray 45)) (.cells (regCells r).toArray 24)) (.cells (effCells zeroEff).toArray 30))
  generalize World.alloc (World.alloc (World.alloc w (.cells (insCells 6 a b c n).toArray 45)) (.cells (regCells r).toArray 24)) (.cells (effCells zeroEff).toArray 30) = w1 at *
  have x0 : w1.cell? ⟨w.heap.size, 0, none⟩ = some (.int .u8 6) := HX.out.cell 0
  have x2 : w1.cell? ⟨w.heap.size, 2, none⟩ = some (.int .u8 b) := HX.out.cell 2
  have x4 : w1.cell? ⟨w.heap.size, 4, none⟩ = some (.int .i32 n) := HX.out.cell 4
  have y0 : w1.cell? ⟨w.heap.size + 1, b, none⟩ = some (.int .i64 (r b)) := by rw [HRR.out.cell, regCells_get r b hb]
  have HN1 : Hid (¬ w.heap.size = w1.heap.size ∧ ¬ w.heap.size + 1 = w1.heap.size ∧ ¬ w.heap.size + 1 + 1 = w1.heap.size ∧ w.heap.size ≤ w1.heap.size) := by
    have := HZ.out.lt
    exact ⟨by omega, by omega, by omega, by omega⟩
  have HNEW : Hid (∀ j, Row ((w1.drewN j).alloc (.cells (effCells zeroEff).toArray 30)) w1.heap.size 30 (effCells zeroEff)) := fun j => Row.new_at _ 30 (effCells zeroEff) rfl
  have d3 : decide ((k : Int) < fixed) = false := by simp; omega
  go_quiet (fail)
  go_upto_region 5 with (first | ((with_reducible refine at_op (o := ⟨some 43, _, _, _, _, _⟩) ?_); refine pl_load (o := ⟨some 43, _, _, _, _, _⟩) rfl 24 _ rfl (w.heap.size + 1) rfl 24 (regCells r) (HRR.out.drewN _) _ Tryd.underlying24 rfl (sizeR _) ?_) | ((with_reducible refine at_op (o := ⟨some 46, _, _, _, _, _⟩) ?_); refine pl_build2 (o := ⟨some 46, _, _, _, _, _⟩) rfl (.tmp 43) (.tmp 45) rfl r (pc + 1) rfl rfl ?_) | ((with_reducible refine at_op (o := ⟨none, .store 30 (.tmp 12) (.tmp 46), _, _, _, _⟩) ?_); refine pl_store (o := ⟨none, .store 30 (.tmp 12) (.tmp 46), _, _, _, _⟩) rfl 30 (.tmp 12) (.tmp 46) rfl w1.heap.size rfl 30 (effCells zeroEff) (effCells (eff0 r (pc + 1) 0)) rfl (HNEW.out _) (sizeE _) (lenE _ _) (eff_one _) ?_; intro w4 hr4 hc4; have HE4 := Lib.hid hr4; have HX4 := Lib.hid (((HX.out.drewN _).alloc _).keepIs hc4 HN1.out.1); have HR4 := Lib.hid (((HRR.out.drewN _).alloc _).keepIs hc4 HN1.out.2.1); have HZ4 := Lib.hid (((HZ.out.drewN _).alloc _).keepIs hc4 HN1.out.2.2.1); have HC4 := Lib.hid (ch_newg ((HC0.out.drewN _).alloc _) hc4 HN1.out.2.2.2); have HD4 := Lib.hid (((Ch.refl (Is w1.heap.size) w1).drewN _).alloc _ |>.trans hc4 (fun _ _ h => h)); clear hr4 hc4))
  clear x0 x2 x4 y0
  have hlt4 : w1.heap.size < w4.heap.size := HE4.out.lt
  have x0 : w4.cell? ⟨w.heap.size, 0, none⟩ = some (.int .u8 6) := HX4.out.cell 0
  have x1 : w4.cell? ⟨w.heap.size, 1, none⟩ = some (.int .u8 a) := HX4.out.cell 1
  have ha1 : (a : Int) < 16 := by omega
  have y1 : w4.cell? ⟨w.heap.size + 1, a, none⟩ = some (.int .i64 (r a)) := by rw [HR4.out.cell, regCells_get r a ha]
  have e17 : w4.cell? ⟨w1.heap.size, 17, none⟩ = some (.bool false) := row_rest HE4.out 1
  have e18 : w4.cell? ⟨w1.heap.size, 18, none⟩ = some (.int .i64 0) := row_rest HE4.out 2
  have e19 : w4.cell? ⟨w1.heap.size, 19, none⟩ = some (.int .i64 0) := row_rest HE4.out 3
  have z17 : w4.frozen? ⟨w1.heap.size, 17, none⟩ = false := HE4.out.frozen 17
  have z18 : w4.frozen? ⟨w1.heap.size, 18, none⟩ = false := HE4.out.frozen 18
  have z19 : w4.frozen? ⟨w1.heap.size, 19, none⟩ = false := HE4.out.frozen 19
  have n0 : ¬ w.heap.size = w1.heap.size := HN1.out.1
  have n1 : ¬ w.heap.size + 1 = w1.heap.size := HN1.out.2.1
  have HE7 : Hid (Row (((w4.setCell ⟨w1.heap.size, 17, none⟩ (.bool true)).setCell ⟨w1.heap.size, 18, none⟩ (.int .i64 (k : Int))).setCell ⟨w1.heap.size, 19, none⟩ (.int .i64 (r a))) w1.heap.size 30 (effCells { eff0 r (pc + 1) 0 with st := true, addr := (k : Int), val := r a })) := by
    show Row _ _ _ _
    have h := ((HE4.out.set_ 17 (.bool true)).set_ 18 (.int .i64 (k : Int))).set_ 19 (.int .i64 (r a))
    rw [eff_set_st, eff_set_addr, eff_set_val] at h
    exact h
  have HZ7 : Hid (Row (((w4.setCell ⟨w1.heap.size, 17, none⟩ (.bool true)).setCell ⟨w1.heap.size, 18, none⟩ (.int .i64 (k : Int))).setCell ⟨w1.heap.size, 19, none⟩ (.int .i64 (r a))) (w.heap.size + 1 + 1) 30 (effCells zeroEff)) := ((HZ4.out.setOther HN1.out.2.2.1 _).setOther HN1.out.2.2.1 _).setOther HN1.out.2.2.1 _
  have HC7 : Hid (Ch No w (((w4.setCell ⟨w1.heap.size, 17, none⟩ (.bool true)).setCell ⟨w1.heap.size, 18, none⟩ (.int .i64 (k : Int))).setCell ⟨w1.heap.size, 19, none⟩ (.int .i64 (r a)))) := by
    have hh : ∀ p : Addr, p.block = w1.heap.size → (p.block < w.heap.size → No p.block) := fun p e h => absurd h (by have := HN1.out.2.2.2; omega)
    exact ((HC4.out.setCell (hh _ rfl) _).setCell (hh _ rfl) _).setCell (hh _ rfl) _
  go_wp2_with (first | ((with_reducible refine at_op (o := ⟨some 67, _, _, _, _, _⟩) ?_); refine pl_load (o := ⟨some 67, _, _, _, _, _⟩) rfl 30 _ rfl w1.heap.size rfl 30 (effCells { eff0 r (pc + 1) 0 with st := true, addr := (k : Int), val := r a }) HE7.out _ Tryd.underlying30 rfl (sizeE _) ?_) | ((with_reducible refine at_op (o := ⟨none, .store 30 (.tmp 10) (.tmp 67), _, _, _, _⟩) ?_); refine pl_store (o := ⟨none, .store 30 (.tmp 10) (.tmp 67), _, _, _, _⟩) rfl 30 (.tmp 10) (.tmp 67) rfl (w.heap.size + 1 + 1) rfl 30 (effCells zeroEff) (effCells { eff0 r (pc + 1) 0 with st := true, addr := (k : Int), val := r a }) rfl HZ7.out (sizeE _) (lenE _ _) (eff_one _) ?_; intro w6 hr6 hc6; have HR6 := Lib.hid hr6; have HC6 := Lib.hid hc6; clear hr6 hc6))
  refine bodyPost_ret (v := .agg (effCells { eff0 r (pc + 1) 0 with st := true, addr := (k : Int), val := r a }).toArray) (results_row rfl _ _ (w.heap.size + 1 + 1) 30 _ _ rfl HR6.out Tryd.underlying30 rfl (sizeE _)) rfl ⟨rfl, ?_⟩
  exact ch_newg HC7.out HC6.out (by omega)

open Go.RowKit
set_option maxRecDepth 100000 in
set_option maxHeartbeats 4000000 in
theorem div_10_zero (a b c : Nat) (n : Int) (ha : a < 16) (hb : b < 16) (hc : c < 16) (r : Nat → Int) (hin : ∀ i, i < 16 → In64 (r i)) (pc : Int) (hp0 : -9223372036854775808 ≤ pc) (hp1 : pc < 9223372036854775807) (hn0 : -2147483648 ≤ n) (hn1 : n ≤ 2147483647) (w : World) (h0 : r c = 0) :
    Calls Tryd.prog 70 #[.agg (insCells 10 a b c n).toArray, .agg (regCells r).toArray, .int .i64 pc] w fun e w' => e = .returned (.agg (effCells (eff0 r (pc + 1) 3)).toArray) ∧ Ch No w w' := by
  have HX : Hid (Row (World.alloc (World.alloc (World.alloc w (.cells (insCells 10 a b c n).toArray 45)) (.cells (regCells r).toArray 24)) (.cells (effCells zeroEff).toArray 30)) w.heap.size 45 (insCells 10 a b c n)) := ((Row.new w 45 (insCells 10 a b c n)).alloc _).alloc _
  have HRR : Hid (Row (World.alloc (World.alloc (World.alloc w (.cells (insCells 10 a b c n).toArray 45)) (.cells (regCells r).toArray 24)) (.cells (effCells zeroEff).toArray 30)) (w.heap.size + 1) 24 (regCells r)) := (Row.new_at _ 24 (regCells r) (by simp)).alloc _
  have HZ : Hid (Row (World.alloc (World.alloc (World.alloc w (.cells (insCells 10 a b c n).toArray 45)) (.cells (regCells r).toArray 24)) (.cells (effCells zeroEff).toArray 30)) (w.heap.size + 1 + 1) 30 (effCells zeroEff)) := Row.new_at _ 30 (effCells zeroEff) (by simp)
  have HC0 : Hid (Ch No w (World.alloc (World.alloc (World.alloc w (.cells (insCells 10 a b c n).toArray 45)) (.cells (regCells r).toArray 24)) (.cells (effCells zeroEff).toArray 30))) := (((Ch.refl No w).alloc _).alloc _).alloc _
  have hnw : IntKind.i64.wrap n = n := by rw [i64_wrap, bv_in ⟨by omega, by omega⟩]
  have ia : (a : Int) < 16 := by omega
  have ib : (b : Int) < 16 := by omega
  have ic : (c : Int) < 16 := by omega
  have HIN := Lib.hid hin
  clear hin
  have b0 : (r c == 0) = true := by simp [h0]
  clear h0
  go_enter Tryd.func70, Tryd.ntmps70
  go_upto_region 1 with (fail)
  change Code.wp _ _ _ _ (World.alloc (World.alloc (World.alloc w (.cells (insCells 10 a b c n).toArray 45)) (.cells (regCells r).toArray 24)) (.cells (effCells zeroEff).toArray 30))
  generalize World.alloc (World.alloc (World.alloc w (.cells (insCells 10 a b c n).toArray 45)) (.cells (regCells r).toArray 24)) (.cells (effCells zeroEff).toArray 30) = w1 at *
  have x0 : w1.cell? ⟨w.heap.size, 0, none⟩ = some (.int .u8 10) := HX.out.cell 0
  have x1 : w1.cell? ⟨w.heap.size, 1, none⟩ = some (.int .u8 a) := HX.out.cell 1
  have x2 : w1.cell? ⟨w.heap.size, 2, none⟩ = some (.int .u8 b) := HX.out.cell 2
  have x3 : w1.cell? ⟨w.heap.size, 3, none⟩ = some (.int .u8 c) := HX.out.cell 3
  have x4 : w1.cell? ⟨w.heap.size, 4, none⟩ = some (.int .i32 n) := HX.out.cell 4
  have ya : w1.cell? ⟨w.heap.size + 1, a, none⟩ = some (.int .i64 (r a)) := by rw [HRR.out.cell, regCells_get r a ha]
  have yb : w1.cell? ⟨w.heap.size + 1, b, none⟩ = some (.int .i64 (r b)) := by rw [HRR.out.cell, regCells_get r b hb]
  have yc : w1.cell? ⟨w.heap.size + 1, c, none⟩ = some (.int .i64 (r c)) := by rw [HRR.out.cell, regCells_get r c hc]
  have HN1 : Hid (¬ w.heap.size = w1.heap.size ∧ ¬ w.heap.size + 1 = w1.heap.size ∧ ¬ w.heap.size + 1 + 1 = w1.heap.size ∧ w.heap.size ≤ w1.heap.size) := by
    have := HZ.out.lt
    exact ⟨by omega, by omega, by omega, by omega⟩
  have HNEW : Hid (Row (w1.alloc (.cells (effCells zeroEff).toArray 30)) w1.heap.size 30 (effCells zeroEff)) := Row.new _ 30 (effCells zeroEff)
  go_wp2_with (first | ((with_reducible refine at_op (o := ⟨some 24, _, _, _, _, _⟩) ?_); refine pl_load (o := ⟨some 24, _, _, _, _, _⟩) rfl 24 _ rfl (w.heap.size + 1) rfl 24 (regCells r) HRR.out _ Tryd.underlying24 rfl (sizeR _) ?_) | (go_at_call 29; refine (fault_29 r pc 3 hp0 hp1 _).mono ?_; rintro e w2 ⟨rfl, hc2⟩; have HZ2 := Lib.hid (HZ.out.keepNo hc2); have HC2 := Lib.hid (HC0.out.then_ hc2); clear hc2) | ((with_reducible refine at_op (o := ⟨none, .store 30 (.tmp 6) (.tmp 26), _, _, _, _⟩) ?_); refine pl_store (o := ⟨none, .store 30 (.tmp 6) (.tmp 26), _, _, _, _⟩) rfl 30 (.tmp 6) (.tmp 26) rfl (w.heap.size + 1 + 1) rfl 30 (effCells zeroEff) (effCells (eff0 r (pc + 1) 3)) rfl HZ2.out (sizeE _) (lenE _ _) (eff_one _) ?_; intro w6 hr6 hc6; have HR6 := Lib.hid hr6; have HC6 := Lib.hid hc6; clear hr6 hc6))
  refine bodyPost_ret (v := .agg (effCells (eff0 r (pc + 1) 3)).toArray) (results_row rfl _ _ (w.heap.size + 1 + 1) 30 _ _ rfl HR6.out Tryd.underlying30 rfl (sizeE _)) rfl ⟨rfl, ?_⟩
  exact ch_newg HC2.out HC6.out (by omega)
set_option maxRecDepth 100000 in
set_option maxHeartbeats 4000000 in
theorem div_10 (a b c : Nat) (n : Int) (ha : a < 16) (hb : b < 16) (hc : c < 16) (r : Nat → Int) (hin : ∀ i, i < 16 → In64 (r i)) (pc : Int) (hp0 : -9223372036854775808 ≤ pc) (hp1 : pc < 9223372036854775807) (hn0 : -2147483648 ≤ n) (hn1 : n ≤ 2147483647) (w : World) (h0 : r c ≠ 0) :
    Calls Tryd.prog 70 #[.agg (insCells 10 a b c n).toArray, .agg (regCells r).toArray, .int .i64 pc] w fun e w' => e = .returned (.agg (effCells ((eff0 r (pc + 1) 0).reg a (Fdiv (r b) (r c)))).toArray) ∧ Ch No w w' := by
  have HX : Hid (Row (World.alloc (World.alloc (World.alloc w (.cells (insCells 10 a b c n).toArray 45)) (.cells (regCells r).toArray 24)) (.cells (effCells zeroEff).toArray 30)) w.heap.size 45 (insCells 10 a b c n)) := ((Row.new w 45 (insCells 10 a b c n)).alloc _).alloc _
  have HRR : Hid (Row (World.alloc (World.alloc (World.alloc w (.cells (insCells 10 a b c n).toArray 45)) (.cells (regCells r).toArray 24)) (.cells (effCells zeroEff).toArray 30)) (w.heap.size + 1) 24 (regCells r)) := (Row.new_at _ 24 (regCells r) (by simp)).alloc _
  have HZ : Hid (Row (World.alloc (World.alloc (World.alloc w (.cells (insCells 10 a b c n).toArray 45)) (.cells (regCells r).toArray 24)) (.cells (effCells zeroEff).toArray 30)) (w.heap.size + 1 + 1) 30 (effCells zeroEff)) := Row.new_at _ 30 (effCells zeroEff) (by simp)
  have HC0 : Hid (Ch No w (World.alloc (World.alloc (World.alloc w (.cells (insCells 10 a b c n).toArray 45)) (.cells (regCells r).toArray 24)) (.cells (effCells zeroEff).toArray 30))) := (((Ch.refl No w).alloc _).alloc _).alloc _
  have hnw : IntKind.i64.wrap n = n := by rw [i64_wrap, bv_in ⟨by omega, by omega⟩]
  have ia : (a : Int) < 16 := by omega
  have ib : (b : Int) < 16 := by omega
  have ic : (c : Int) < 16 := by omega
  have HIN := Lib.hid hin
  clear hin
  have b0 : (r c == 0) = false := by simpa using h0
  have HQ := Lib.hid (fun W => quot_68 (r b) (r c) (HIN.out b hb) (HIN.out c hc) h0 W)
  clear h0
  go_enter Tryd.func70, Tryd.ntmps70
  go_upto_region 1 with (fail)
  change Code.wp _ _ _ _ (World.alloc (World.alloc (World.alloc w (.cells (insCells 10 a b c n).toArray 45)) (.cells (regCells r).toArray 24)) (.cells (effCells zeroEff).toArray 30))
  generalize World.alloc (World.alloc (World.alloc w (.cells (insCells 10 a b c n).toArray 45)) (.cells (regCells r).toArray 24)) (.cells (effCells zeroEff).toArray 30) = w1 at *
  have x0 : w1.cell? ⟨w.heap.size, 0, none⟩ = some (.int .u8 10) := HX.out.cell 0
  have x1 : w1.cell? ⟨w.heap.size, 1, none⟩ = some (.int .u8 a) := HX.out.cell 1
  have x2 : w1.cell? ⟨w.heap.size, 2, none⟩ = some (.int .u8 b) := HX.out.cell 2
  have x3 : w1.cell? ⟨w.heap.size, 3, none⟩ = some (.int .u8 c) := HX.out.cell 3
  have x4 : w1.cell? ⟨w.heap.size, 4, none⟩ = some (.int .i32 n) := HX.out.cell 4
  have ya : w1.cell? ⟨w.heap.size + 1, a, none⟩ = some (.int .i64 (r a)) := by rw [HRR.out.cell, regCells_get r a ha]
  have yb : w1.cell? ⟨w.heap.size + 1, b, none⟩ = some (.int .i64 (r b)) := by rw [HRR.out.cell, regCells_get r b hb]
  have yc : w1.cell? ⟨w.heap.size + 1, c, none⟩ = some (.int .i64 (r c)) := by rw [HRR.out.cell, regCells_get r c hc]
  have HN1 : Hid (¬ w.heap.size = w1.heap.size ∧ ¬ w.heap.size + 1 = w1.heap.size ∧ ¬ w.heap.size + 1 + 1 = w1.heap.size ∧ w.heap.size ≤ w1.heap.size) := by
    have := HZ.out.lt
    exact ⟨by omega, by omega, by omega, by omega⟩
  have HNEW : Hid (Row (w1.alloc (.cells (effCells zeroEff).toArray 30)) w1.heap.size 30 (effCells zeroEff)) := Row.new _ 30 (effCells zeroEff)
  go_upto_region 7 with (first | (go_at_call 68; refine (HQ.out _).mono ?_; rintro e w' ⟨rfl, rfl⟩) | ((with_reducible refine at_op (o := ⟨some 33, _, _, _, _, _⟩) ?_); refine pl_load (o := ⟨some 33, _, _, _, _, _⟩) rfl 24 _ rfl (w.heap.size + 1) rfl 24 (regCells r) HRR.out _ Tryd.underlying24 rfl (sizeR _) ?_) | ((with_reducible refine at_op (o := ⟨some 36, _, _, _, _, _⟩) ?_); refine pl_build2 (o := ⟨some 36, _, _, _, _, _⟩) rfl (.tmp 33) (.tmp 35) rfl r (pc + 1) rfl rfl ?_) | ((with_reducible refine at_op (o := ⟨none, .store 30 (.tmp 11) (.tmp 36), _, _, _, _⟩) ?_); refine pl_store (o := ⟨none, .store 30 (.tmp 11) (.tmp 36), _, _, _, _⟩) rfl 30 (.tmp 11) (.tmp 36) rfl (w1.heap.size) rfl 30 (effCells zeroEff) (effCells (eff0 r (pc + 1) 0)) rfl HNEW.out (sizeE _) (lenE _ _) (eff_one _) ?_; intro w4 hr4 hc4; have HE4 := Lib.hid hr4; have HX4 := Lib.hid ((HX.out.alloc _).keepIs hc4 HN1.out.1); have HR4 := Lib.hid ((HRR.out.alloc _).keepIs hc4 HN1.out.2.1); have HZ4 := Lib.hid ((HZ.out.alloc _).keepIs hc4 HN1.out.2.2.1); have HC4 := Lib.hid (ch_newg (HC0.out.alloc _) hc4 HN1.out.2.2.2); clear hr4 hc4))
  clear x0 x1 x2 x3 x4 ya yb yc
  have hlt4 : w1.heap.size < w4.heap.size := HE4.out.lt
  have x0 : w4.cell? ⟨w.heap.size, 0, none⟩ = some (.int .u8 10) := HX4.out.cell 0
  have x1 : w4.cell? ⟨w.heap.size, 1, none⟩ = some (.int .u8 a) := HX4.out.cell 1
  have x4 : w4.cell? ⟨w.heap.size, 4, none⟩ = some (.int .i32 n) := HX4.out.cell 4
  go_wp2_with (first | ((with_reducible refine at_op (o := ⟨some 40, _, _, _, _, _⟩) ?_); refine pl_load (o := ⟨some 40, _, _, _, _, _⟩) rfl 30 _ rfl (w1.heap.size) rfl 30 (effCells (eff0 r (pc + 1) 0)) HE4.out _ Tryd.underlying30 rfl (sizeE _) ?_) | (go_at_call 67; refine (with_67 (eff0 r (pc + 1) 0) a ha (Fdiv (r b) (r c)) _).mono ?_; rintro e w5 ⟨rfl, hc5⟩; have HZ5 := Lib.hid (HZ4.out.keepNo hc5); have HC5 := Lib.hid (HC4.out.then_ hc5); clear hc5) | ((with_reducible refine at_op (o := ⟨none, .store 30 (.tmp 6) (.tmp 44), _, _, _, _⟩) ?_); refine pl_store (o := ⟨none, .store 30 (.tmp 6) (.tmp 44), _, _, _, _⟩) rfl 30 (.tmp 6) (.tmp 44) rfl (w.heap.size + 1 + 1) rfl 30 (effCells zeroEff) (effCells ((eff0 r (pc + 1) 0).reg a (Fdiv (r b) (r c)))) rfl HZ5.out (sizeE _) (lenE _ _) (eff_one _) ?_; intro w6 hr6 hc6; have HR6 := Lib.hid hr6; have HC6 := Lib.hid hc6; clear hr6 hc6))
  refine bodyPost_ret (v := .agg (effCells ((eff0 r (pc + 1) 0).reg a (Fdiv (r b) (r c)))).toArray) (results_row rfl _ _ (w.heap.size + 1 + 1) 30 _ _ rfl HR6.out Tryd.underlying30 rfl (sizeE _)) rfl ⟨rfl, ?_⟩
  exact ch_newg HC5.out HC6.out (by omega)
set_option maxRecDepth 100000 in
set_option maxHeartbeats 4000000 in
theorem div_11_zero (a b c : Nat) (n : Int) (ha : a < 16) (hb : b < 16) (hc : c < 16) (r : Nat → Int) (hin : ∀ i, i < 16 → In64 (r i)) (pc : Int) (hp0 : -9223372036854775808 ≤ pc) (hp1 : pc < 9223372036854775807) (hn0 : -2147483648 ≤ n) (hn1 : n ≤ 2147483647) (w : World) (h0 : r c = 0) :
    Calls Tryd.prog 70 #[.agg (insCells 11 a b c n).toArray, .agg (regCells r).toArray, .int .i64 pc] w fun e w' => e = .returned (.agg (effCells (eff0 r (pc + 1) 3)).toArray) ∧ Ch No w w' := by
  have HX : Hid (Row (World.alloc (World.alloc (World.alloc w (.cells (insCells 11 a b c n).toArray 45)) (.cells (regCells r).toArray 24)) (.cells (effCells zeroEff).toArray 30)) w.heap.size 45 (insCells 11 a b c n)) := ((Row.new w 45 (insCells 11 a b c n)).alloc _).alloc _
  have HRR : Hid (Row (World.alloc (World.alloc (World.alloc w (.cells (insCells 11 a b c n).toArray 45)) (.cells (regCells r).toArray 24)) (.cells (effCells zeroEff).toArray 30)) (w.heap.size + 1) 24 (regCells r)) := (Row.new_at _ 24 (regCells r) (by simp)).alloc _
  have HZ : Hid (Row (World.alloc (World.alloc (World.alloc w (.cells (insCells 11 a b c n).toArray 45)) (.cells (regCells r).toArray 24)) (.cells (effCells zeroEff).toArray 30)) (w.heap.size + 1 + 1) 30 (effCells zeroEff)) := Row.new_at _ 30 (effCells zeroEff) (by simp)
  have HC0 : Hid (Ch No w (World.alloc (World.alloc (World.alloc w (.cells (insCells 11 a b c n).toArray 45)) (.cells (regCells r).toArray 24)) (.cells (effCells zeroEff).toArray 30))) := (((Ch.refl No w).alloc _).alloc _).alloc _
  have hnw : IntKind.i64.wrap n = n := by rw [i64_wrap, bv_in ⟨by omega, by omega⟩]
  have ia : (a : Int) < 16 := by omega
  have ib : (b : Int) < 16 := by omega
  have ic : (c : Int) < 16 := by omega
  have HIN := Lib.hid hin
  clear hin
  have b0 : (r c == 0) = true := by simp [h0]
  clear h0
  go_enter Tryd.func70, Tryd.ntmps70
  go_upto_region 1 with (fail)
  change Code.wp _ _ _ _ (World.alloc (World.alloc (World.alloc w (.cells (insCells 11 a b c n).toArray 45)) (.cells (regCells r).toArray 24)) (.cells (effCells zeroEff).toArray 30))
  generalize World.alloc (World.alloc (World.alloc w (.cells (insCells 11 a b c n).toArray 45)) (.cells (regCells r).toArray 24)) (.cells (effCells zeroEff).toArray 30) = w1 at *
  have x0 : w1.cell? ⟨w.heap.size, 0, none⟩ = some (.int .u8 11) := HX.out.cell 0
  have x1 : w1.cell? ⟨w.heap.size, 1, none⟩ = some (.int .u8 a) := HX.out.cell 1
  have x2 : w1.cell? ⟨w.heap.size, 2, none⟩ = some (.int .u8 b) := HX.out.cell 2
  have x3 : w1.cell? ⟨w.heap.size, 3, none⟩ = some (.int .u8 c) := HX.out.cell 3
  have x4 : w1.cell? ⟨w.heap.size, 4, none⟩ = some (.int .i32 n) := HX.out.cell 4
  have ya : w1.cell? ⟨w.heap.size + 1, a, none⟩ = some (.int .i64 (r a)) := by rw [HRR.out.cell, regCells_get r a ha]
  have yb : w1.cell? ⟨w.heap.size + 1, b, none⟩ = some (.int .i64 (r b)) := by rw [HRR.out.cell, regCells_get r b hb]
  have yc : w1.cell? ⟨w.heap.size + 1, c, none⟩ = some (.int .i64 (r c)) := by rw [HRR.out.cell, regCells_get r c hc]
  have HN1 : Hid (¬ w.heap.size = w1.heap.size ∧ ¬ w.heap.size + 1 = w1.heap.size ∧ ¬ w.heap.size + 1 + 1 = w1.heap.size ∧ w.heap.size ≤ w1.heap.size) := by
    have := HZ.out.lt
    exact ⟨by omega, by omega, by omega, by omega⟩
  have HNEW : Hid (Row (w1.alloc (.cells (effCells zeroEff).toArray 30)) w1.heap.size 30 (effCells zeroEff)) := Row.new _ 30 (effCells zeroEff)
  go_wp2_with (first | ((with_reducible refine at_op (o := ⟨some 24, _, _, _, _, _⟩) ?_); refine pl_load (o := ⟨some 24, _, _, _, _, _⟩) rfl 24 _ rfl (w.heap.size + 1) rfl 24 (regCells r) HRR.out _ Tryd.underlying24 rfl (sizeR _) ?_) | (go_at_call 29; refine (fault_29 r pc 3 hp0 hp1 _).mono ?_; rintro e w2 ⟨rfl, hc2⟩; have HZ2 := Lib.hid (HZ.out.keepNo hc2); have HC2 := Lib.hid (HC0.out.then_ hc2); clear hc2) | ((with_reducible refine at_op (o := ⟨none, .store 30 (.tmp 6) (.tmp 26), _, _, _, _⟩) ?_); refine pl_store (o := ⟨none, .store 30 (.tmp 6) (.tmp 26), _, _, _, _⟩) rfl 30 (.tmp 6) (.tmp 26) rfl (w.heap.size + 1 + 1) rfl 30 (effCells zeroEff) (effCells (eff0 r (pc + 1) 3)) rfl HZ2.out (sizeE _) (lenE _ _) (eff_one _) ?_; intro w6 hr6 hc6; have HR6 := Lib.hid hr6; have HC6 := Lib.hid hc6; clear hr6 hc6))
  refine bodyPost_ret (v := .agg (effCells (eff0 r (pc + 1) 3)).toArray) (results_row rfl _ _ (w.heap.size + 1 + 1) 30 _ _ rfl HR6.out Tryd.underlying30 rfl (sizeE _)) rfl ⟨rfl, ?_⟩
  exact ch_newg HC2.out HC6.out (by omega)
set_option maxRecDepth 100000 in
set_option maxHeartbeats 4000000 in
theorem div_11 (a b c : Nat) (n : Int) (ha : a < 16) (hb : b < 16) (hc : c < 16) (r : Nat → Int) (hin : ∀ i, i < 16 → In64 (r i)) (pc : Int) (hp0 : -9223372036854775808 ≤ pc) (hp1 : pc < 9223372036854775807) (hn0 : -2147483648 ≤ n) (hn1 : n ≤ 2147483647) (w : World) (h0 : r c ≠ 0) :
    Calls Tryd.prog 70 #[.agg (insCells 11 a b c n).toArray, .agg (regCells r).toArray, .int .i64 pc] w fun e w' => e = .returned (.agg (effCells ((eff0 r (pc + 1) 0).reg a (Fmod (r b) (r c)))).toArray) ∧ Ch No w w' := by
  have HX : Hid (Row (World.alloc (World.alloc (World.alloc w (.cells (insCells 11 a b c n).toArray 45)) (.cells (regCells r).toArray 24)) (.cells (effCells zeroEff).toArray 30)) w.heap.size 45 (insCells 11 a b c n)) := ((Row.new w 45 (insCells 11 a b c n)).alloc _).alloc _
  have HRR : Hid (Row (World.alloc (World.alloc (World.alloc w (.cells (insCells 11 a b c n).toArray 45)) (.cells (regCells r).toArray 24)) (.cells (effCells zeroEff).toArray 30)) (w.heap.size + 1) 24 (regCells r)) := (Row.new_at _ 24 (regCells r) (by simp)).alloc _
  have HZ : Hid (Row (World.alloc (World.alloc (World.alloc w (.cells (insCells 11 a b c n).toArray 45)) (.cells (regCells r).toArray 24)) (.cells (effCells zeroEff).toArray 30)) (w.heap.size + 1 + 1) 30 (effCells zeroEff)) := Row.new_at _ 30 (effCells zeroEff) (by simp)
  have HC0 : Hid (Ch No w (World.alloc (World.alloc (World.alloc w (.cells (insCells 11 a b c n).toArray 45)) (.cells (regCells r).toArray 24)) (.cells (effCells zeroEff).toArray 30))) := (((Ch.refl No w).alloc _).alloc _).alloc _
  have hnw : IntKind.i64.wrap n = n := by rw [i64_wrap, bv_in ⟨by omega, by omega⟩]
  have ia : (a : Int) < 16 := by omega
  have ib : (b : Int) < 16 := by omega
  have ic : (c : Int) < 16 := by omega
  have HIN := Lib.hid hin
  clear hin
  have b0 : (r c == 0) = false := by simpa using h0
  have HQ := Lib.hid (fun W => quot_68 (r b) (r c) (HIN.out b hb) (HIN.out c hc) h0 W)
  clear h0
  go_enter Tryd.func70, Tryd.ntmps70
  go_upto_region 1 with (fail)
  change Code.wp _ _ _ _ (World.alloc (World.alloc (World.alloc w (.cells (insCells 11 a b c n).toArray 45)) (.cells (regCells r).toArray 24)) (.cells (effCells zeroEff).toArray 30))
  generalize World.alloc (World.alloc (World.alloc w (.cells (insCells 11 a b c n).toArray 45)) (.cells (regCells r).toArray 24)) (.cells (effCells zeroEff).toArray 30) = w1 at *
  have x0 : w1.cell? ⟨w.heap.size, 0, none⟩ = some (.int .u8 11) := HX.out.cell 0
  have x1 : w1.cell? ⟨w.heap.size, 1, none⟩ = some (.int .u8 a) := HX.out.cell 1
  have x2 : w1.cell? ⟨w.heap.size, 2, none⟩ = some (.int .u8 b) := HX.out.cell 2
  have x3 : w1.cell? ⟨w.heap.size, 3, none⟩ = some (.int .u8 c) := HX.out.cell 3
  have x4 : w1.cell? ⟨w.heap.size, 4, none⟩ = some (.int .i32 n) := HX.out.cell 4
  have ya : w1.cell? ⟨w.heap.size + 1, a, none⟩ = some (.int .i64 (r a)) := by rw [HRR.out.cell, regCells_get r a ha]
  have yb : w1.cell? ⟨w.heap.size + 1, b, none⟩ = some (.int .i64 (r b)) := by rw [HRR.out.cell, regCells_get r b hb]
  have yc : w1.cell? ⟨w.heap.size + 1, c, none⟩ = some (.int .i64 (r c)) := by rw [HRR.out.cell, regCells_get r c hc]
  have HN1 : Hid (¬ w.heap.size = w1.heap.size ∧ ¬ w.heap.size + 1 = w1.heap.size ∧ ¬ w.heap.size + 1 + 1 = w1.heap.size ∧ w.heap.size ≤ w1.heap.size) := by
    have := HZ.out.lt
    exact ⟨by omega, by omega, by omega, by omega⟩
  have HNEW : Hid (Row (w1.alloc (.cells (effCells zeroEff).toArray 30)) w1.heap.size 30 (effCells zeroEff)) := Row.new _ 30 (effCells zeroEff)
  go_upto_region 7 with (first | (go_at_call 68; refine (HQ.out _).mono ?_; rintro e w' ⟨rfl, rfl⟩) | ((with_reducible refine at_op (o := ⟨some 33, _, _, _, _, _⟩) ?_); refine pl_load (o := ⟨some 33, _, _, _, _, _⟩) rfl 24 _ rfl (w.heap.size + 1) rfl 24 (regCells r) HRR.out _ Tryd.underlying24 rfl (sizeR _) ?_) | ((with_reducible refine at_op (o := ⟨some 36, _, _, _, _, _⟩) ?_); refine pl_build2 (o := ⟨some 36, _, _, _, _, _⟩) rfl (.tmp 33) (.tmp 35) rfl r (pc + 1) rfl rfl ?_) | ((with_reducible refine at_op (o := ⟨none, .store 30 (.tmp 11) (.tmp 36), _, _, _, _⟩) ?_); refine pl_store (o := ⟨none, .store 30 (.tmp 11) (.tmp 36), _, _, _, _⟩) rfl 30 (.tmp 11) (.tmp 36) rfl (w1.heap.size) rfl 30 (effCells zeroEff) (effCells (eff0 r (pc + 1) 0)) rfl HNEW.out (sizeE _) (lenE _ _) (eff_one _) ?_; intro w4 hr4 hc4; have HE4 := Lib.hid hr4; have HX4 := Lib.hid ((HX.out.alloc _).keepIs hc4 HN1.out.1); have HR4 := Lib.hid ((HRR.out.alloc _).keepIs hc4 HN1.out.2.1); have HZ4 := Lib.hid ((HZ.out.alloc _).keepIs hc4 HN1.out.2.2.1); have HC4 := Lib.hid (ch_newg (HC0.out.alloc _) hc4 HN1.out.2.2.2); clear hr4 hc4))
  clear x0 x1 x2 x3 x4 ya yb yc
  have hlt4 : w1.heap.size < w4.heap.size := HE4.out.lt
  have x0 : w4.cell? ⟨w.heap.size, 0, none⟩ = some (.int .u8 11) := HX4.out.cell 0
  have x1 : w4.cell? ⟨w.heap.size, 1, none⟩ = some (.int .u8 a) := HX4.out.cell 1
  have x4 : w4.cell? ⟨w.heap.size, 4, none⟩ = some (.int .i32 n) := HX4.out.cell 4
  go_wp2_with (first | ((with_reducible refine at_op (o := ⟨some 45, _, _, _, _, _⟩) ?_); refine pl_load (o := ⟨some 45, _, _, _, _, _⟩) rfl 30 _ rfl (w1.heap.size) rfl 30 (effCells (eff0 r (pc + 1) 0)) HE4.out _ Tryd.underlying30 rfl (sizeE _) ?_) | (go_at_call 67; refine (with_67 (eff0 r (pc + 1) 0) a ha (Fmod (r b) (r c)) _).mono ?_; rintro e w5 ⟨rfl, hc5⟩; have HZ5 := Lib.hid (HZ4.out.keepNo hc5); have HC5 := Lib.hid (HC4.out.then_ hc5); clear hc5) | ((with_reducible refine at_op (o := ⟨none, .store 30 (.tmp 6) (.tmp 49), _, _, _, _⟩) ?_); refine pl_store (o := ⟨none, .store 30 (.tmp 6) (.tmp 49), _, _, _, _⟩) rfl 30 (.tmp 6) (.tmp 49) rfl (w.heap.size + 1 + 1) rfl 30 (effCells zeroEff) (effCells ((eff0 r (pc + 1) 0).reg a (Fmod (r b) (r c)))) rfl HZ5.out (sizeE _) (lenE _ _) (eff_one _) ?_; intro w6 hr6 hc6; have HR6 := Lib.hid hr6; have HC6 := Lib.hid hc6; clear hr6 hc6))
  refine bodyPost_ret (v := .agg (effCells ((eff0 r (pc + 1) 0).reg a (Fmod (r b) (r c)))).toArray) (results_row rfl _ _ (w.heap.size + 1 + 1) 30 _ _ rfl HR6.out Tryd.underlying30 rfl (sizeE _)) rfl ⟨rfl, ?_⟩
  exact ch_newg HC5.out HC6.out (by omega)
set_option maxRecDepth 100000 in
set_option maxHeartbeats 4000000 in
theorem jump_22 (A : Option Addr) (len cap : Nat) (hl : len ≤ 9223372036854775807) (a b c : Nat) (n : Int) (ha : a < 16) (hb : b < 16) (hc : c < 16) (r : Nat → Int) (hin : ∀ i, i < 16 → In64 (r i)) (pc : Int) (hp0 : -9223372036854775808 ≤ pc) (hp1 : pc < 9223372036854775807) (hn0 : -2147483648 ≤ n) (hn1 : n ≤ 2147483647) (w : World) :
    Calls Tryd.prog 72 #[.slice A len cap, .agg (insCells 22 a b c n).toArray, .agg (regCells r).toArray, .int .i64 pc] w fun e w' => e = .returned (.agg (effCells ({ eff0 r (pc + 1) 0 with pc := inn len n })).toArray) ∧ Ch No w w' := by
  have HX : Hid (Row (World.alloc (World.alloc (World.alloc w (.cells (insCells 22 a b c n).toArray 45)) (.cells (regCells r).toArray 24)) (.cells (effCells zeroEff).toArray 30)) w.heap.size 45 (insCells 22 a b c n)) := ((Row.new w 45 (insCells 22 a b c n)).alloc _).alloc _
  have HRR : Hid (Row (World.alloc (World.alloc (World.alloc w (.cells (insCells 22 a b c n).toArray 45)) (.cells (regCells r).toArray 24)) (.cells (effCells zeroEff).toArray 30)) (w.heap.size + 1) 24 (regCells r)) := (Row.new_at _ 24 (regCells r) (by simp)).alloc _
  have HZ : Hid (Row (World.alloc (World.alloc (World.alloc w (.cells (insCells 22 a b c n).toArray 45)) (.cells (regCells r).toArray 24)) (.cells (effCells zeroEff).toArray 30)) (w.heap.size + 1 + 1) 30 (effCells zeroEff)) := Row.new_at _ 30 (effCells zeroEff) (by simp)
  have HC0 : Hid (Ch No w (World.alloc (World.alloc (World.alloc w (.cells (insCells 22 a b c n).toArray 45)) (.cells (regCells r).toArray 24)) (.cells (effCells zeroEff).toArray 30))) := (((Ch.refl No w).alloc _).alloc _).alloc _
  have hnw : IntKind.i64.wrap n = n := by rw [i64_wrap, bv_in ⟨by omega, by omega⟩]
  have ia : (a : Int) < 16 := by omega
  have ib : (b : Int) < 16 := by omega
  have ic : (c : Int) < 16 := by omega
  have HIN := Lib.hid hin
  clear hin
  go_enter Tryd.func72, Tryd.ntmps72
  go_upto_region 1 with (fail)
  change Code.wp _ _ _ _ (World.alloc (World.alloc (World.alloc w (.cells (insCells 22 a b c n).toArray 45)) (.cells (regCells r).toArray 24)) (.cells (effCells zeroEff).toArray 30))
  generalize World.alloc (World.alloc (World.alloc w (.cells (insCells 22 a b c n).toArray 45)) (.cells (regCells r).toArray 24)) (.cells (effCells zeroEff).toArray 30) = w1 at *
  have x0 : w1.cell? ⟨w.heap.size, 0, none⟩ = some (.int .u8 22) := HX.out.cell 0
  have x1 : w1.cell? ⟨w.heap.size, 1, none⟩ = some (.int .u8 a) := HX.out.cell 1
  have x2 : w1.cell? ⟨w.heap.size, 2, none⟩ = some (.int .u8 b) := HX.out.cell 2
  have x3 : w1.cell? ⟨w.heap.size, 3, none⟩ = some (.int .u8 c) := HX.out.cell 3
  have x4 : w1.cell? ⟨w.heap.size, 4, none⟩ = some (.int .i32 n) := HX.out.cell 4
  have ya : w1.cell? ⟨w.heap.size + 1, a, none⟩ = some (.int .i64 (r a)) := by rw [HRR.out.cell, regCells_get r a ha]
  have yb : w1.cell? ⟨w.heap.size + 1, b, none⟩ = some (.int .i64 (r b)) := by rw [HRR.out.cell, regCells_get r b hb]
  have yc : w1.cell? ⟨w.heap.size + 1, c, none⟩ = some (.int .i64 (r c)) := by rw [HRR.out.cell, regCells_get r c hc]
  have HN1 : Hid (¬ w.heap.size = w1.heap.size ∧ ¬ w.heap.size + 1 = w1.heap.size ∧ ¬ w.heap.size + 1 + 1 = w1.heap.size ∧ w.heap.size ≤ w1.heap.size) := by
    have := HZ.out.lt
    exact ⟨by omega, by omega, by omega, by omega⟩
  have HNEW : Hid (Row (w1.alloc (.cells (effCells zeroEff).toArray 30)) w1.heap.size 30 (effCells zeroEff)) := Row.new _ 30 (effCells zeroEff)
  go_upto_region 3 with (first | ((with_reducible refine at_op (o := ⟨some 16, _, _, _, _, _⟩) ?_); refine pl_load (o := ⟨some 16, _, _, _, _, _⟩) rfl 24 _ rfl (w.heap.size + 1) rfl 24 (regCells r) HRR.out _ Tryd.underlying24 rfl (sizeR _) ?_) | ((with_reducible refine at_op (o := ⟨some 19, _, _, _, _, _⟩) ?_); refine pl_build2 (o := ⟨some 19, _, _, _, _, _⟩) rfl (.tmp 16) (.tmp 18) rfl r (pc + 1) rfl rfl ?_) | ((with_reducible refine at_op (o := ⟨none, .store 30 (.tmp 10) (.tmp 19), _, _, _, _⟩) ?_); refine pl_store (o := ⟨none, .store 30 (.tmp 10) (.tmp 19), _, _, _, _⟩) rfl 30 (.tmp 10) (.tmp 19) rfl (w1.heap.size) rfl 30 (effCells zeroEff) (effCells (eff0 r (pc + 1) 0)) rfl HNEW.out (sizeE _) (lenE _ _) (eff_one _) ?_; intro w4 hr4 hc4; have HE4 := Lib.hid hr4; have HX4 := Lib.hid ((HX.out.alloc _).keepIs hc4 HN1.out.1); have HR4 := Lib.hid ((HRR.out.alloc _).keepIs hc4 HN1.out.2.1); have HZ4 := Lib.hid ((HZ.out.alloc _).keepIs hc4 HN1.out.2.2.1); have HC4 := Lib.hid (ch_newg (HC0.out.alloc _) hc4 HN1.out.2.2.2); clear hr4 hc4))
  clear x0 x1 x2 x3 x4 ya yb yc
  have hlt4 : w1.heap.size < w4.heap.size := HE4.out.lt
  have x0 : w4.cell? ⟨w.heap.size, 0, none⟩ = some (.int .u8 22) := HX4.out.cell 0
  have x1 : w4.cell? ⟨w.heap.size, 1, none⟩ = some (.int .u8 a) := HX4.out.cell 1
  have x4 : w4.cell? ⟨w.heap.size, 4, none⟩ = some (.int .i32 n) := HX4.out.cell 4
  have e16 : w4.cell? ⟨w1.heap.size, 16, none⟩ = some (.int .i64 (pc + 1)) := row_rest HE4.out 0
  have z16 : w4.frozen? ⟨w1.heap.size, 16, none⟩ = false := HE4.out.frozen 16
  have n0 : ¬ w.heap.size = w1.heap.size := HN1.out.1
  have HE7 : Hid (Row (w4.setCell ⟨w1.heap.size, 16, none⟩ (.int .i64 (inn len (n)))) w1.heap.size 30 (effCells { eff0 r (pc + 1) 0 with pc := inn len (n) })) := by
    show Row _ _ _ _
    have h := HE4.out.set_ 16 (.int .i64 (inn len (n)))
    rw [eff_set_pc] at h
    exact h
  have HZ7 : Hid (Row (w4.setCell ⟨w1.heap.size, 16, none⟩ (.int .i64 (inn len (n)))) (w.heap.size + 1 + 1) 30 (effCells zeroEff)) := HZ4.out.setOther HN1.out.2.2.1 _
  have HC7 : Hid (Ch No w (w4.setCell ⟨w1.heap.size, 16, none⟩ (.int .i64 (inn len (n))))) := HC4.out.setCell (fun h => absurd h (by have := HN1.out.2.2.2; show ¬ w1.heap.size < _; omega)) _
  have HJ := Lib.hid (fun W => in_27 A len cap hl (n) W)
  go_wp2_with (first | (go_at_call 27; refine (HJ.out _).mono ?_; rintro e w' ⟨rfl, rfl⟩) | ((with_reducible refine at_op (o := ⟨some 58, _, _, _, _, _⟩) ?_); refine pl_load (o := ⟨some 58, _, _, _, _, _⟩) rfl 30 _ rfl (w1.heap.size) rfl 30 (effCells { eff0 r (pc + 1) 0 with pc := inn len (n) }) HE7.out _ Tryd.underlying30 rfl (sizeE _) ?_) | ((with_reducible refine at_op (o := ⟨none, .store 30 (.tmp 8) (.tmp 58), _, _, _, _⟩) ?_); refine pl_store (o := ⟨none, .store 30 (.tmp 8) (.tmp 58), _, _, _, _⟩) rfl 30 (.tmp 8) (.tmp 58) rfl (w.heap.size + 1 + 1) rfl 30 (effCells zeroEff) (effCells ({ eff0 r (pc + 1) 0 with pc := inn len (n) })) rfl HZ7.out (sizeE _) (lenE _ _) (eff_one _) ?_; intro w6 hr6 hc6; have HR6 := Lib.hid hr6; have HC6 := Lib.hid hc6; clear hr6 hc6))
  refine bodyPost_ret (v := .agg (effCells ({ eff0 r (pc + 1) 0 with pc := inn len (n) })).toArray) (results_row rfl _ _ (w.heap.size + 1 + 1) 30 _ _ rfl HR6.out Tryd.underlying30 rfl (sizeE _)) rfl ⟨rfl, ?_⟩
  exact ch_newg HC7.out HC6.out (by omega)
set_option maxRecDepth 100000 in
set_option maxHeartbeats 4000000 in
theorem jump_23_go (A : Option Addr) (len cap : Nat) (hl : len ≤ 9223372036854775807) (a b c : Nat) (n : Int) (ha : a < 16) (hb : b < 16) (hc : c < 16) (r : Nat → Int) (hin : ∀ i, i < 16 → In64 (r i)) (pc : Int) (hp0 : -9223372036854775808 ≤ pc) (hp1 : pc < 9223372036854775807) (hn0 : -2147483648 ≤ n) (hn1 : n ≤ 2147483647) (w : World) (h0 : r a = 0) :
    Calls Tryd.prog 72 #[.slice A len cap, .agg (insCells 23 a b c n).toArray, .agg (regCells r).toArray, .int .i64 pc] w fun e w' => e = .returned (.agg (effCells ({ eff0 r (pc + 1) 0 with pc := inn len n })).toArray) ∧ Ch No w w' := by
  have HX : Hid (Row (World.alloc (World.alloc (World.alloc w (.cells (insCells 23 a b c n).toArray 45)) (.cells (regCells r).toArray 24)) (.cells (effCells zeroEff).toArray 30)) w.heap.size 45 (insCells 23 a b c n)) := ((Row.new w 45 (insCells 23 a b c n)).alloc _).alloc _
  have HRR : Hid (Row (World.alloc (World.alloc (World.alloc w (.cells (insCells 23 a b c n).toArray 45)) (.cells (regCells r).toArray 24)) (.cells (effCells zeroEff).toArray 30)) (w.heap.size + 1) 24 (regCells r)) := (Row.new_at _ 24 (regCells r) (by simp)).alloc _
  have HZ : Hid (Row (World.alloc (World.alloc (World.alloc w (.cells (insCells 23 a b c n).toArray 45)) (.cells (regCells r).toArray 24)) (.cells (effCells zeroEff).toArray 30)) (w.heap.size + 1 + 1) 30 (effCells zeroEff)) := Row.new_at _ 30 (effCells zeroEff) (by simp)
  have HC0 : Hid (Ch No w (World.alloc (World.alloc (World.alloc w (.cells (insCells 23 a b c n).toArray 45)) (.cells (regCells r).toArray 24)) (.cells (effCells zeroEff).toArray 30))) := (((Ch.refl No w).alloc _).alloc _).alloc _
  have hnw : IntKind.i64.wrap n = n := by rw [i64_wrap, bv_in ⟨by omega, by omega⟩]
  have ia : (a : Int) < 16 := by omega
  have ib : (b : Int) < 16 := by omega
  have ic : (c : Int) < 16 := by omega
  have HIN := Lib.hid hin
  clear hin
  have b0 : (r a != 0) = false := by simp [h0]
  clear h0
  go_enter Tryd.func72, Tryd.ntmps72
  go_upto_region 1 with (fail)
  change Code.wp _ _ _ _ (World.alloc (World.alloc (World.alloc w (.cells (insCells 23 a b c n).toArray 45)) (.cells (regCells r).toArray 24)) (.cells (effCells zeroEff).toArray 30))
  generalize World.alloc (World.alloc (World.alloc w (.cells (insCells 23 a b c n).toArray 45)) (.cells (regCells r).toArray 24)) (.cells (effCells zeroEff).toArray 30) = w1 at *
  have x0 : w1.cell? ⟨w.heap.size, 0, none⟩ = some (.int .u8 23) := HX.out.cell 0
  have x1 : w1.cell? ⟨w.heap.size, 1, none⟩ = some (.int .u8 a) := HX.out.cell 1
  have x2 : w1.cell? ⟨w.heap.size, 2, none⟩ = some (.int .u8 b) := HX.out.cell 2
  have x3 : w1.cell? ⟨w.heap.size, 3, none⟩ = some (.int .u8 c) := HX.out.cell 3
  have x4 : w1.cell? ⟨w.heap.size, 4, none⟩ = some (.int .i32 n) := HX.out.cell 4
  have ya : w1.cell? ⟨w.heap.size + 1, a, none⟩ = some (.int .i64 (r a)) := by rw [HRR.out.cell, regCells_get r a ha]
  have yb : w1.cell? ⟨w.heap.size + 1, b, none⟩ = some (.int .i64 (r b)) := by rw [HRR.out.cell, regCells_get r b hb]
  have yc : w1.cell? ⟨w.heap.size + 1, c, none⟩ = some (.int .i64 (r c)) := by rw [HRR.out.cell, regCells_get r c hc]
  have HN1 : Hid (¬ w.heap.size = w1.heap.size ∧ ¬ w.heap.size + 1 = w1.heap.size ∧ ¬ w.heap.size + 1 + 1 = w1.heap.size ∧ w.heap.size ≤ w1.heap.size) := by
    have := HZ.out.lt
    exact ⟨by omega, by omega, by omega, by omega⟩
  have HNEW : Hid (Row (w1.alloc (.cells (effCells zeroEff).toArray 30)) w1.heap.size 30 (effCells zeroEff)) := Row.new _ 30 (effCells zeroEff)
  go_upto_region 3 with (first | ((with_reducible refine at_op (o := ⟨some 16, _, _, _, _, _⟩) ?_); refine pl_load (o := ⟨some 16, _, _, _, _, _⟩) rfl 24 _ rfl (w.heap.size + 1) rfl 24 (regCells r) HRR.out _ Tryd.underlying24 rfl (sizeR _) ?_) | ((with_reducible refine at_op (o := ⟨some 19, _, _, _, _, _⟩) ?_); refine pl_build2 (o := ⟨some 19, _, _, _, _, _⟩) rfl (.tmp 16) (.tmp 18) rfl r (pc + 1) rfl rfl ?_) | ((with_reducible refine at_op (o := ⟨none, .store 30 (.tmp 10) (.tmp 19), _, _, _, _⟩) ?_); refine pl_store (o := ⟨none, .store 30 (.tmp 10) (.tmp 19), _, _, _, _⟩) rfl 30 (.tmp 10) (.tmp 19) rfl (w1.heap.size) rfl 30 (effCells zeroEff) (effCells (eff0 r (pc + 1) 0)) rfl HNEW.out (sizeE _) (lenE _ _) (eff_one _) ?_; intro w4 hr4 hc4; have HE4 := Lib.hid hr4; have HX4 := Lib.hid ((HX.out.alloc _).keepIs hc4 HN1.out.1); have HR4 := Lib.hid ((HRR.out.alloc _).keepIs hc4 HN1.out.2.1); have HZ4 := Lib.hid ((HZ.out.alloc _).keepIs hc4 HN1.out.2.2.1); have HC4 := Lib.hid (ch_newg (HC0.out.alloc _) hc4 HN1.out.2.2.2); clear hr4 hc4))
  clear x0 x1 x2 x3 x4 ya yb yc
  have hlt4 : w1.heap.size < w4.heap.size := HE4.out.lt
  have x0 : w4.cell? ⟨w.heap.size, 0, none⟩ = some (.int .u8 23) := HX4.out.cell 0
  have x1 : w4.cell? ⟨w.heap.size, 1, none⟩ = some (.int .u8 a) := HX4.out.cell 1
  have x4 : w4.cell? ⟨w.heap.size, 4, none⟩ = some (.int .i32 n) := HX4.out.cell 4
  have e16 : w4.cell? ⟨w1.heap.size, 16, none⟩ = some (.int .i64 (pc + 1)) := row_rest HE4.out 0
  have z16 : w4.frozen? ⟨w1.heap.size, 16, none⟩ = false := HE4.out.frozen 16
  have n0 : ¬ w.heap.size = w1.heap.size := HN1.out.1
  have HE7 : Hid (Row (w4.setCell ⟨w1.heap.size, 16, none⟩ (.int .i64 (inn len (n)))) w1.heap.size 30 (effCells { eff0 r (pc + 1) 0 with pc := inn len (n) })) := by
    show Row _ _ _ _
    have h := HE4.out.set_ 16 (.int .i64 (inn len (n)))
    rw [eff_set_pc] at h
    exact h
  have HZ7 : Hid (Row (w4.setCell ⟨w1.heap.size, 16, none⟩ (.int .i64 (inn len (n)))) (w.heap.size + 1 + 1) 30 (effCells zeroEff)) := HZ4.out.setOther HN1.out.2.2.1 _
  have HC7 : Hid (Ch No w (w4.setCell ⟨w1.heap.size, 16, none⟩ (.int .i64 (inn len (n))))) := HC4.out.setCell (fun h => absurd h (by have := HN1.out.2.2.2; show ¬ w1.heap.size < _; omega)) _
  have HJ := Lib.hid (fun W => in_27 A len cap hl (n) W)
  go_wp2_with (first | (go_at_call 27; refine (HJ.out _).mono ?_; rintro e w' ⟨rfl, rfl⟩) | ((with_reducible refine at_op (o := ⟨some 58, _, _, _, _, _⟩) ?_); refine pl_load (o := ⟨some 58, _, _, _, _, _⟩) rfl 30 _ rfl (w1.heap.size) rfl 30 (effCells { eff0 r (pc + 1) 0 with pc := inn len (n) }) HE7.out _ Tryd.underlying30 rfl (sizeE _) ?_) | ((with_reducible refine at_op (o := ⟨none, .store 30 (.tmp 8) (.tmp 58), _, _, _, _⟩) ?_); refine pl_store (o := ⟨none, .store 30 (.tmp 8) (.tmp 58), _, _, _, _⟩) rfl 30 (.tmp 8) (.tmp 58) rfl (w.heap.size + 1 + 1) rfl 30 (effCells zeroEff) (effCells ({ eff0 r (pc + 1) 0 with pc := inn len (n) })) rfl HZ7.out (sizeE _) (lenE _ _) (eff_one _) ?_; intro w6 hr6 hc6; have HR6 := Lib.hid hr6; have HC6 := Lib.hid hc6; clear hr6 hc6))
  refine bodyPost_ret (v := .agg (effCells ({ eff0 r (pc + 1) 0 with pc := inn len (n) })).toArray) (results_row rfl _ _ (w.heap.size + 1 + 1) 30 _ _ rfl HR6.out Tryd.underlying30 rfl (sizeE _)) rfl ⟨rfl, ?_⟩
  exact ch_newg HC7.out HC6.out (by omega)
set_option maxRecDepth 100000 in
set_option maxHeartbeats 4000000 in
theorem jump_23_stay (A : Option Addr) (len cap : Nat) (hl : len ≤ 9223372036854775807) (a b c : Nat) (n : Int) (ha : a < 16) (hb : b < 16) (hc : c < 16) (r : Nat → Int) (hin : ∀ i, i < 16 → In64 (r i)) (pc : Int) (hp0 : -9223372036854775808 ≤ pc) (hp1 : pc < 9223372036854775807) (hn0 : -2147483648 ≤ n) (hn1 : n ≤ 2147483647) (w : World) (h0 : r a ≠ 0) :
    Calls Tryd.prog 72 #[.slice A len cap, .agg (insCells 23 a b c n).toArray, .agg (regCells r).toArray, .int .i64 pc] w fun e w' => e = .returned (.agg (effCells (eff0 r (pc + 1) 0)).toArray) ∧ Ch No w w' := by
  have HX : Hid (Row (World.alloc (World.alloc (World.alloc w (.cells (insCells 23 a b c n).toArray 45)) (.cells (regCells r).toArray 24)) (.cells (effCells zeroEff).toArray 30)) w.heap.size 45 (insCells 23 a b c n)) := ((Row.new w 45 (insCells 23 a b c n)).alloc _).alloc _
  have HRR : Hid (Row (World.alloc (World.alloc (World.alloc w (.cells (insCells 23 a b c n).toArray 45)) (.cells (regCells r).toArray 24)) (.cells (effCells zeroEff).toArray 30)) (w.heap.size + 1) 24 (regCells r)) := (Row.new_at _ 24 (regCells r) (by simp)).alloc _
  have HZ : Hid (Row (World.alloc (World.alloc (World.alloc w (.cells (insCells 23 a b c n).toArray 45)) (.cells (regCells r).toArray 24)) (.cells (effCells zeroEff).toArray 30)) (w.heap.size + 1 + 1) 30 (effCells zeroEff)) := Row.new_at _ 30 (effCells zeroEff) (by simp)
  have HC0 : Hid (Ch No w (World.alloc (World.alloc (World.alloc w (.cells (insCells 23 a b c n).toArray 45)) (.cells (regCells r).toArray 24)) (.cells (effCells zeroEff).toArray 30))) := (((Ch.refl No w).alloc _).alloc _).alloc _
  have hnw : IntKind.i64.wrap n = n := by rw [i64_wrap, bv_in ⟨by omega, by omega⟩]
  have ia : (a : Int) < 16 := by omega
  have ib : (b : Int) < 16 := by omega
  have ic : (c : Int) < 16 := by omega
  have HIN := Lib.hid hin
  clear hin
  have b0 : (r a != 0) = true := by simpa using h0
  clear h0
  go_enter Tryd.func72, Tryd.ntmps72
  go_upto_region 1 with (fail)
  change Code.wp _ _ _ _ (World.alloc (World.alloc (World.alloc w (.cells (insCells 23 a b c n).toArray 45)) (.cells (regCells r).toArray 24)) (.cells (effCells zeroEff).toArray 30))
  generalize World.alloc (World.alloc (World.alloc w (.cells (insCells 23 a b c n).toArray 45)) (.cells (regCells r).toArray 24)) (.cells (effCells zeroEff).toArray 30) = w1 at *
  have x0 : w1.cell? ⟨w.heap.size, 0, none⟩ = some (.int .u8 23) := HX.out.cell 0
  have x1 : w1.cell? ⟨w.heap.size, 1, none⟩ = some (.int .u8 a) := HX.out.cell 1
  have x2 : w1.cell? ⟨w.heap.size, 2, none⟩ = some (.int .u8 b) := HX.out.cell 2
  have x3 : w1.cell? ⟨w.heap.size, 3, none⟩ = some (.int .u8 c) := HX.out.cell 3
  have x4 : w1.cell? ⟨w.heap.size, 4, none⟩ = some (.int .i32 n) := HX.out.cell 4
  have ya : w1.cell? ⟨w.heap.size + 1, a, none⟩ = some (.int .i64 (r a)) := by rw [HRR.out.cell, regCells_get r a ha]
  have yb : w1.cell? ⟨w.heap.size + 1, b, none⟩ = some (.int .i64 (r b)) := by rw [HRR.out.cell, regCells_get r b hb]
  have yc : w1.cell? ⟨w.heap.size + 1, c, none⟩ = some (.int .i64 (r c)) := by rw [HRR.out.cell, regCells_get r c hc]
  have HN1 : Hid (¬ w.heap.size = w1.heap.size ∧ ¬ w.heap.size + 1 = w1.heap.size ∧ ¬ w.heap.size + 1 + 1 = w1.heap.size ∧ w.heap.size ≤ w1.heap.size) := by
    have := HZ.out.lt
    exact ⟨by omega, by omega, by omega, by omega⟩
  have HNEW : Hid (Row (w1.alloc (.cells (effCells zeroEff).toArray 30)) w1.heap.size 30 (effCells zeroEff)) := Row.new _ 30 (effCells zeroEff)
  go_upto_region 3 with (first | ((with_reducible refine at_op (o := ⟨some 16, _, _, _, _, _⟩) ?_); refine pl_load (o := ⟨some 16, _, _, _, _, _⟩) rfl 24 _ rfl (w.heap.size + 1) rfl 24 (regCells r) HRR.out _ Tryd.underlying24 rfl (sizeR _) ?_) | ((with_reducible refine at_op (o := ⟨some 19, _, _, _, _, _⟩) ?_); refine pl_build2 (o := ⟨some 19, _, _, _, _, _⟩) rfl (.tmp 16) (.tmp 18) rfl r (pc + 1) rfl rfl ?_) | ((with_reducible refine at_op (o := ⟨none, .store 30 (.tmp 10) (.tmp 19), _, _, _, _⟩) ?_); refine pl_store (o := ⟨none, .store 30 (.tmp 10) (.tmp 19), _, _, _, _⟩) rfl 30 (.tmp 10) (.tmp 19) rfl (w1.heap.size) rfl 30 (effCells zeroEff) (effCells (eff0 r (pc + 1) 0)) rfl HNEW.out (sizeE _) (lenE _ _) (eff_one _) ?_; intro w4 hr4 hc4; have HE4 := Lib.hid hr4; have HX4 := Lib.hid ((HX.out.alloc _).keepIs hc4 HN1.out.1); have HR4 := Lib.hid ((HRR.out.alloc _).keepIs hc4 HN1.out.2.1); have HZ4 := Lib.hid ((HZ.out.alloc _).keepIs hc4 HN1.out.2.2.1); have HC4 := Lib.hid (ch_newg (HC0.out.alloc _) hc4 HN1.out.2.2.2); clear hr4 hc4))
  clear x0 x1 x2 x3 x4 ya yb yc
  have hlt4 : w1.heap.size < w4.heap.size := HE4.out.lt
  have x0 : w4.cell? ⟨w.heap.size, 0, none⟩ = some (.int .u8 23) := HX4.out.cell 0
  have x1 : w4.cell? ⟨w.heap.size, 1, none⟩ = some (.int .u8 a) := HX4.out.cell 1
  have x4 : w4.cell? ⟨w.heap.size, 4, none⟩ = some (.int .i32 n) := HX4.out.cell 4
  go_wp2_with (first | ((with_reducible refine at_op (o := ⟨some 44, _, _, _, _, _⟩) ?_); refine pl_load (o := ⟨some 44, _, _, _, _, _⟩) rfl 30 _ rfl (w1.heap.size) rfl 30 (effCells (eff0 r (pc + 1) 0)) HE4.out _ Tryd.underlying30 rfl (sizeE _) ?_) | ((with_reducible refine at_op (o := ⟨none, .store 30 (.tmp 8) (.tmp 44), _, _, _, _⟩) ?_); refine pl_store (o := ⟨none, .store 30 (.tmp 8) (.tmp 44), _, _, _, _⟩) rfl 30 (.tmp 8) (.tmp 44) rfl (w.heap.size + 1 + 1) rfl 30 (effCells zeroEff) (effCells (eff0 r (pc + 1) 0)) rfl HZ4.out (sizeE _) (lenE _ _) (eff_one _) ?_; intro w6 hr6 hc6; have HR6 := Lib.hid hr6; have HC6 := Lib.hid hc6; clear hr6 hc6))
  refine bodyPost_ret (v := .agg (effCells (eff0 r (pc + 1) 0)).toArray) (results_row rfl _ _ (w.heap.size + 1 + 1) 30 _ _ rfl HR6.out Tryd.underlying30 rfl (sizeE _)) rfl ⟨rfl, ?_⟩
  exact ch_newg HC4.out HC6.out (by omega)
set_option maxRecDepth 100000 in
set_option maxHeartbeats 4000000 in
theorem jump_24_go (A : Option Addr) (len cap : Nat) (hl : len ≤ 9223372036854775807) (a b c : Nat) (n : Int) (ha : a < 16) (hb : b < 16) (hc : c < 16) (r : Nat → Int) (hin : ∀ i, i < 16 → In64 (r i)) (pc : Int) (hp0 : -9223372036854775808 ≤ pc) (hp1 : pc < 9223372036854775807) (hn0 : -2147483648 ≤ n) (hn1 : n ≤ 2147483647) (w : World) (h0 : r a ≠ 0) :
    Calls Tryd.prog 72 #[.slice A len cap, .agg (insCells 24 a b c n).toArray, .agg (regCells r).toArray, .int .i64 pc] w fun e w' => e = .returned (.agg (effCells ({ eff0 r (pc + 1) 0 with pc := inn len n })).toArray) ∧ Ch No w w' := by
  have HX : Hid (Row (World.alloc (World.alloc (World.alloc w (.cells (insCells 24 a b c n).toArray 45)) (.cells (regCells r).toArray 24)) (.cells (effCells zeroEff).toArray 30)) w.heap.size 45 (insCells 24 a b c n)) := ((Row.new w 45 (insCells 24 a b c n)).alloc _).alloc _
  have HRR : Hid (Row (World.alloc (World.alloc (World.alloc w (.cells (insCells 24 a b c n).toArray 45)) (.cells (regCells r).toArray 24)) (.cells (effCells zeroEff).toArray 30)) (w.heap.size + 1) 24 (regCells r)) := (Row.new_at _ 24 (regCells r) (by simp)).alloc _
  have HZ : Hid (Row (World.alloc (World.alloc (World.alloc w (.cells (insCells 24 a b c n).toArray 45)) (.cells (regCells r).toArray 24)) (.cells (effCells zeroEff).toArray 30)) (w.heap.size + 1 + 1) 30 (effCells zeroEff)) := Row.new_at _ 30 (effCells zeroEff) (by simp)
  have HC0 : Hid (Ch No w (World.alloc (World.alloc (World.alloc w (.cells (insCells 24 a b c n).toArray 45)) (.cells (regCells r).toArray 24)) (.cells (effCells zeroEff).toArray 30))) := (((Ch.refl No w).alloc _).alloc _).alloc _
  have hnw : IntKind.i64.wrap n = n := by rw [i64_wrap, bv_in ⟨by omega, by omega⟩]
  have ia : (a : Int) < 16 := by omega
  have ib : (b : Int) < 16 := by omega
  have ic : (c : Int) < 16 := by omega
  have HIN := Lib.hid hin
  clear hin
  have b0 : (r a == 0) = false := by simpa using h0
  clear h0
  go_enter Tryd.func72, Tryd.ntmps72
  go_upto_region 1 with (fail)
  change Code.wp _ _ _ _ (World.alloc (World.alloc (World.alloc w (.cells (insCells 24 a b c n).toArray 45)) (.cells (regCells r).toArray 24)) (.cells (effCells zeroEff).toArray 30))
  generalize World.alloc (World.alloc (World.alloc w (.cells (insCells 24 a b c n).toArray 45)) (.cells (regCells r).toArray 24)) (.cells (effCells zeroEff).toArray 30) = w1 at *
  have x0 : w1.cell? ⟨w.heap.size, 0, none⟩ = some (.int .u8 24) := HX.out.cell 0
  have x1 : w1.cell? ⟨w.heap.size, 1, none⟩ = some (.int .u8 a) := HX.out.cell 1
  have x2 : w1.cell? ⟨w.heap.size, 2, none⟩ = some (.int .u8 b) := HX.out.cell 2
  have x3 : w1.cell? ⟨w.heap.size, 3, none⟩ = some (.int .u8 c) := HX.out.cell 3
  have x4 : w1.cell? ⟨w.heap.size, 4, none⟩ = some (.int .i32 n) := HX.out.cell 4
  have ya : w1.cell? ⟨w.heap.size + 1, a, none⟩ = some (.int .i64 (r a)) := by rw [HRR.out.cell, regCells_get r a ha]
  have yb : w1.cell? ⟨w.heap.size + 1, b, none⟩ = some (.int .i64 (r b)) := by rw [HRR.out.cell, regCells_get r b hb]
  have yc : w1.cell? ⟨w.heap.size + 1, c, none⟩ = some (.int .i64 (r c)) := by rw [HRR.out.cell, regCells_get r c hc]
  have HN1 : Hid (¬ w.heap.size = w1.heap.size ∧ ¬ w.heap.size + 1 = w1.heap.size ∧ ¬ w.heap.size + 1 + 1 = w1.heap.size ∧ w.heap.size ≤ w1.heap.size) := by
    have := HZ.out.lt
    exact ⟨by omega, by omega, by omega, by omega⟩
  have HNEW : Hid (Row (w1.alloc (.cells (effCells zeroEff).toArray 30)) w1.heap.size 30 (effCells zeroEff)) := Row.new _ 30 (effCells zeroEff)
  go_upto_region 3 with (first | ((with_reducible refine at_op (o := ⟨some 16, _, _, _, _, _⟩) ?_); refine pl_load (o := ⟨some 16, _, _, _, _, _⟩) rfl 24 _ rfl (w.heap.size + 1) rfl 24 (regCells r) HRR.out _ Tryd.underlying24 rfl (sizeR _) ?_) | ((with_reducible refine at_op (o := ⟨some 19, _, _, _, _, _⟩) ?_); refine pl_build2 (o := ⟨some 19, _, _, _, _, _⟩) rfl (.tmp 16) (.tmp 18) rfl r (pc + 1) rfl rfl ?_) | ((with_reducible refine at_op (o := ⟨none, .store 30 (.tmp 10) (.tmp 19), _, _, _, _⟩) ?_); refine pl_store (o := ⟨none, .store 30 (.tmp 10) (.tmp 19), _, _, _, _⟩) rfl 30 (.tmp 10) (.tmp 19) rfl (w1.heap.size) rfl 30 (effCells zeroEff) (effCells (eff0 r (pc + 1) 0)) rfl HNEW.out (sizeE _) (lenE _ _) (eff_one _) ?_; intro w4 hr4 hc4; have HE4 := Lib.hid hr4; have HX4 := Lib.hid ((HX.out.alloc _).keepIs hc4 HN1.out.1); have HR4 := Lib.hid ((HRR.out.alloc _).keepIs hc4 HN1.out.2.1); have HZ4 := Lib.hid ((HZ.out.alloc _).keepIs hc4 HN1.out.2.2.1); have HC4 := Lib.hid (ch_newg (HC0.out.alloc _) hc4 HN1.out.2.2.2); clear hr4 hc4))
  clear x0 x1 x2 x3 x4 ya yb yc
  have hlt4 : w1.heap.size < w4.heap.size := HE4.out.lt
  have x0 : w4.cell? ⟨w.heap.size, 0, none⟩ = some (.int .u8 24) := HX4.out.cell 0
  have x1 : w4.cell? ⟨w.heap.size, 1, none⟩ = some (.int .u8 a) := HX4.out.cell 1
  have x4 : w4.cell? ⟨w.heap.size, 4, none⟩ = some (.int .i32 n) := HX4.out.cell 4
  have e16 : w4.cell? ⟨w1.heap.size, 16, none⟩ = some (.int .i64 (pc + 1)) := row_rest HE4.out 0
  have z16 : w4.frozen? ⟨w1.heap.size, 16, none⟩ = false := HE4.out.frozen 16
  have n0 : ¬ w.heap.size = w1.heap.size := HN1.out.1
  have HE7 : Hid (Row (w4.setCell ⟨w1.heap.size, 16, none⟩ (.int .i64 (inn len (n)))) w1.heap.size 30 (effCells { eff0 r (pc + 1) 0 with pc := inn len (n) })) := by
    show Row _ _ _ _
    have h := HE4.out.set_ 16 (.int .i64 (inn len (n)))
    rw [eff_set_pc] at h
    exact h
  have HZ7 : Hid (Row (w4.setCell ⟨w1.heap.size, 16, none⟩ (.int .i64 (inn len (n)))) (w.heap.size + 1 + 1) 30 (effCells zeroEff)) := HZ4.out.setOther HN1.out.2.2.1 _
  have HC7 : Hid (Ch No w (w4.setCell ⟨w1.heap.size, 16, none⟩ (.int .i64 (inn len (n))))) := HC4.out.setCell (fun h => absurd h (by have := HN1.out.2.2.2; show ¬ w1.heap.size < _; omega)) _
  have HJ := Lib.hid (fun W => in_27 A len cap hl (n) W)
  go_wp2_with (first | (go_at_call 27; refine (HJ.out _).mono ?_; rintro e w' ⟨rfl, rfl⟩) | ((with_reducible refine at_op (o := ⟨some 58, _, _, _, _, _⟩) ?_); refine pl_load (o := ⟨some 58, _, _, _, _, _⟩) rfl 30 _ rfl (w1.heap.size) rfl 30 (effCells { eff0 r (pc + 1) 0 with pc := inn len (n) }) HE7.out _ Tryd.underlying30 rfl (sizeE _) ?_) | ((with_reducible refine at_op (o := ⟨none, .store 30 (.tmp 8) (.tmp 58), _, _, _, _⟩) ?_); refine pl_store (o := ⟨none, .store 30 (.tmp 8) (.tmp 58), _, _, _, _⟩) rfl 30 (.tmp 8) (.tmp 58) rfl (w.heap.size + 1 + 1) rfl 30 (effCells zeroEff) (effCells ({ eff0 r (pc + 1) 0 with pc := inn len (n) })) rfl HZ7.out (sizeE _) (lenE _ _) (eff_one _) ?_; intro w6 hr6 hc6; have HR6 := Lib.hid hr6; have HC6 := Lib.hid hc6; clear hr6 hc6))
  refine bodyPost_ret (v := .agg (effCells ({ eff0 r (pc + 1) 0 with pc := inn len (n) })).toArray) (results_row rfl _ _ (w.heap.size + 1 + 1) 30 _ _ rfl HR6.out Tryd.underlying30 rfl (sizeE _)) rfl ⟨rfl, ?_⟩
  exact ch_newg HC7.out HC6.out (by omega)
set_option maxRecDepth 100000 in
set_option maxHeartbeats 4000000 in
theorem jump_24_stay (A : Option Addr) (len cap : Nat) (hl : len ≤ 9223372036854775807) (a b c : Nat) (n : Int) (ha : a < 16) (hb : b < 16) (hc : c < 16) (r : Nat → Int) (hin : ∀ i, i < 16 → In64 (r i)) (pc : Int) (hp0 : -9223372036854775808 ≤ pc) (hp1 : pc < 9223372036854775807) (hn0 : -2147483648 ≤ n) (hn1 : n ≤ 2147483647) (w : World) (h0 : r a = 0) :
    Calls Tryd.prog 72 #[.slice A len cap, .agg (insCells 24 a b c n).toArray, .agg (regCells r).toArray, .int .i64 pc] w fun e w' => e = .returned (.agg (effCells (eff0 r (pc + 1) 0)).toArray) ∧ Ch No w w' := by
  have HX : Hid (Row (World.alloc (World.alloc (World.alloc w (.cells (insCells 24 a b c n).toArray 45)) (.cells (regCells r).toArray 24)) (.cells (effCells zeroEff).toArray 30)) w.heap.size 45 (insCells 24 a b c n)) := ((Row.new w 45 (insCells 24 a b c n)).alloc _).alloc _
  have HRR : Hid (Row (World.alloc (World.alloc (World.alloc w (.cells (insCells 24 a b c n).toArray 45)) (.cells (regCells r).toArray 24)) (.cells (effCells zeroEff).toArray 30)) (w.heap.size + 1) 24 (regCells r)) := (Row.new_at _ 24 (regCells r) (by simp)).alloc _
  have HZ : Hid (Row (World.alloc (World.alloc (World.alloc w (.cells (insCells 24 a b c n).toArray 45)) (.cells (regCells r).toArray 24)) (.cells (effCells zeroEff).toArray 30)) (w.heap.size + 1 + 1) 30 (effCells zeroEff)) := Row.new_at _ 30 (effCells zeroEff) (by simp)
  have HC0 : Hid (Ch No w (World.alloc (World.alloc (World.alloc w (.cells (insCells 24 a b c n).toArray 45)) (.cells (regCells r).toArray 24)) (.cells (effCells zeroEff).toArray 30))) := (((Ch.refl No w).alloc _).alloc _).alloc _
  have hnw : IntKind.i64.wrap n = n := by rw [i64_wrap, bv_in ⟨by omega, by omega⟩]
  have ia : (a : Int) < 16 := by omega
  have ib : (b : Int) < 16 := by omega
  have ic : (c : Int) < 16 := by omega
  have HIN := Lib.hid hin
  clear hin
  have b0 : (r a == 0) = true := by simpa using h0
  clear h0
  go_enter Tryd.func72, Tryd.ntmps72
  go_upto_region 1 with (fail)
  change Code.wp _ _ _ _ (World.alloc (World.alloc (World.alloc w (.cells (insCells 24 a b c n).toArray 45)) (.cells (regCells r).toArray 24)) (.cells (effCells zeroEff).toArray 30))
  generalize World.alloc (World.alloc (World.alloc w (.cells (insCells 24 a b c n).toArray 45)) (.cells (regCells r).toArray 24)) (.cells (effCells zeroEff).toArray 30) = w1 at *
  have x0 : w1.cell? ⟨w.heap.size, 0, none⟩ = some (.int .u8 24) := HX.out.cell 0
  have x1 : w1.cell? ⟨w.heap.size, 1, none⟩ = some (.int .u8 a) := HX.out.cell 1
  have x2 : w1.cell? ⟨w.heap.size, 2, none⟩ = some (.int .u8 b) := HX.out.cell 2
  have x3 : w1.cell? ⟨w.heap.size, 3, none⟩ = some (.int .u8 c) := HX.out.cell 3
  have x4 : w1.cell? ⟨w.heap.size, 4, none⟩ = some (.int .i32 n) := HX.out.cell 4
  have ya : w1.cell? ⟨w.heap.size + 1, a, none⟩ = some (.int .i64 (r a)) := by rw [HRR.out.cell, regCells_get r a ha]
  have yb : w1.cell? ⟨w.heap.size + 1, b, none⟩ = some (.int .i64 (r b)) := by rw [HRR.out.cell, regCells_get r b hb]
  have yc : w1.cell? ⟨w.heap.size + 1, c, none⟩ = some (.int .i64 (r c)) := by rw [HRR.out.cell, regCells_get r c hc]
  have HN1 : Hid (¬ w.heap.size = w1.heap.size ∧ ¬ w.heap.size + 1 = w1.heap.size ∧ ¬ w.heap.size + 1 + 1 = w1.heap.size ∧ w.heap.size ≤ w1.heap.size) := by
    have := HZ.out.lt
    exact ⟨by omega, by omega, by omega, by omega⟩
  have HNEW : Hid (Row (w1.alloc (.cells (effCells zeroEff).toArray 30)) w1.heap.size 30 (effCells zeroEff)) := Row.new _ 30 (effCells zeroEff)
  go_upto_region 3 with (first | ((with_reducible refine at_op (o := ⟨some 16, _, _, _, _, _⟩) ?_); refine pl_load (o := ⟨some 16, _, _, _, _, _⟩) rfl 24 _ rfl (w.heap.size + 1) rfl 24 (regCells r) HRR.out _ Tryd.underlying24 rfl (sizeR _) ?_) | ((with_reducible refine at_op (o := ⟨some 19, _, _, _, _, _⟩) ?_); refine pl_build2 (o := ⟨some 19, _, _, _, _, _⟩) rfl (.tmp 16) (.tmp 18) rfl r (pc + 1) rfl rfl ?_) | ((with_reducible refine at_op (o := ⟨none, .store 30 (.tmp 10) (.tmp 19), _, _, _, _⟩) ?_); refine pl_store (o := ⟨none, .store 30 (.tmp 10) (.tmp 19), _, _, _, _⟩) rfl 30 (.tmp 10) (.tmp 19) rfl (w1.heap.size) rfl 30 (effCells zeroEff) (effCells (eff0 r (pc + 1) 0)) rfl HNEW.out (sizeE _) (lenE _ _) (eff_one _) ?_; intro w4 hr4 hc4; have HE4 := Lib.hid hr4; have HX4 := Lib.hid ((HX.out.alloc _).keepIs hc4 HN1.out.1); have HR4 := Lib.hid ((HRR.out.alloc _).keepIs hc4 HN1.out.2.1); have HZ4 := Lib.hid ((HZ.out.alloc _).keepIs hc4 HN1.out.2.2.1); have HC4 := Lib.hid (ch_newg (HC0.out.alloc _) hc4 HN1.out.2.2.2); clear hr4 hc4))
  clear x0 x1 x2 x3 x4 ya yb yc
  have hlt4 : w1.heap.size < w4.heap.size := HE4.out.lt
  have x0 : w4.cell? ⟨w.heap.size, 0, none⟩ = some (.int .u8 24) := HX4.out.cell 0
  have x1 : w4.cell? ⟨w.heap.size, 1, none⟩ = some (.int .u8 a) := HX4.out.cell 1
  have x4 : w4.cell? ⟨w.heap.size, 4, none⟩ = some (.int .i32 n) := HX4.out.cell 4
  go_wp2_with (first | ((with_reducible refine at_op (o := ⟨some 44, _, _, _, _, _⟩) ?_); refine pl_load (o := ⟨some 44, _, _, _, _, _⟩) rfl 30 _ rfl (w1.heap.size) rfl 30 (effCells (eff0 r (pc + 1) 0)) HE4.out _ Tryd.underlying30 rfl (sizeE _) ?_) | ((with_reducible refine at_op (o := ⟨none, .store 30 (.tmp 8) (.tmp 44), _, _, _, _⟩) ?_); refine pl_store (o := ⟨none, .store 30 (.tmp 8) (.tmp 44), _, _, _, _⟩) rfl 30 (.tmp 8) (.tmp 44) rfl (w.heap.size + 1 + 1) rfl 30 (effCells zeroEff) (effCells (eff0 r (pc + 1) 0)) rfl HZ4.out (sizeE _) (lenE _ _) (eff_one _) ?_; intro w6 hr6 hc6; have HR6 := Lib.hid hr6; have HC6 := Lib.hid hc6; clear hr6 hc6))
  refine bodyPost_ret (v := .agg (effCells (eff0 r (pc + 1) 0)).toArray) (results_row rfl _ _ (w.heap.size + 1 + 1) 30 _ _ rfl HR6.out Tryd.underlying30 rfl (sizeE _)) rfl ⟨rfl, ?_⟩
  exact ch_newg HC4.out HC6.out (by omega)
set_option maxRecDepth 100000 in
set_option maxHeartbeats 4000000 in
theorem jump_25 (A : Option Addr) (len cap : Nat) (hl : len ≤ 9223372036854775807) (a b c : Nat) (n : Int) (ha : a < 16) (hb : b < 16) (hc : c < 16) (r : Nat → Int) (hin : ∀ i, i < 16 → In64 (r i)) (pc : Int) (hp0 : -9223372036854775808 ≤ pc) (hp1 : pc < 9223372036854775807) (hn0 : -2147483648 ≤ n) (hn1 : n ≤ 2147483647) (w : World) :
    Calls Tryd.prog 72 #[.slice A len cap, .agg (insCells 25 a b c n).toArray, .agg (regCells r).toArray, .int .i64 pc] w fun e w' => e = .returned (.agg (effCells ({ eff0 r (pc + 1) 0 with pc := inn len (r a) })).toArray) ∧ Ch No w w' := by
  have HX : Hid (Row (World.alloc (World.alloc (World.alloc w (.cells (insCells 25 a b c n).toArray 45)) (.cells (regCells r).toArray 24)) (.cells (effCells zeroEff).toArray 30)) w.heap.size 45 (insCells 25 a b c n)) := ((Row.new w 45 (insCells 25 a b c n)).alloc _).alloc _
  have HRR : Hid (Row (World.alloc (World.alloc (World.alloc w (.cells (insCells 25 a b c n).toArray 45)) (.cells (regCells r).toArray 24)) (.cells (effCells zeroEff).toArray 30)) (w.heap.size + 1) 24 (regCells r)) := (Row.new_at _ 24 (regCells r) (by simp)).alloc _
  have HZ : Hid (Row (World.alloc (World.alloc (World.alloc w (.cells (insCells 25 a b c n).toArray 45)) (.cells (regCells r).toArray 24)) (.cells (effCells zeroEff).toArray 30)) (w.heap.size + 1 + 1) 30 (effCells zeroEff)) := Row.new_at _ 30 (effCells zeroEff) (by simp)
  have HC0 : Hid (Ch No w (World.alloc (World.alloc (World.alloc w (.cells (insCells 25 a b c n).toArray 45)) (.cells (regCells r).toArray 24)) (.cells (effCells zeroEff).toArray 30))) := (((Ch.refl No w).alloc _).alloc _).alloc _
  have hnw : IntKind.i64.wrap n = n := by rw [i64_wrap, bv_in ⟨by omega, by omega⟩]
  have ia : (a : Int) < 16 := by omega
  have ib : (b : Int) < 16 := by omega
  have ic : (c : Int) < 16 := by omega
  have HIN := Lib.hid hin
  clear hin
  go_enter Tryd.func72, Tryd.ntmps72
  go_upto_region 1 with (fail)
  change Code.wp _ _ _ _ (World.alloc (World.alloc (World.alloc w (.cells (insCells 25 a b c n).toArray 45)) (.cells (regCells r).toArray 24)) (.cells (effCells zeroEff).toArray 30))
  generalize World.alloc (World.alloc (World.alloc w (.cells (insCells 25 a b c n).toArray 45)) (.cells (regCells r).toArray 24)) (.cells (effCells zeroEff).toArray 30) = w1 at *
  have x0 : w1.cell? ⟨w.heap.size, 0, none⟩ = some (.int .u8 25) := HX.out.cell 0
  have x1 : w1.cell? ⟨w.heap.size, 1, none⟩ = some (.int .u8 a) := HX.out.cell 1
  have x2 : w1.cell? ⟨w.heap.size, 2, none⟩ = some (.int .u8 b) := HX.out.cell 2
  have x3 : w1.cell? ⟨w.heap.size, 3, none⟩ = some (.int .u8 c) := HX.out.cell 3
  have x4 : w1.cell? ⟨w.heap.size, 4, none⟩ = some (.int .i32 n) := HX.out.cell 4
  have ya : w1.cell? ⟨w.heap.size + 1, a, none⟩ = some (.int .i64 (r a)) := by rw [HRR.out.cell, regCells_get r a ha]
  have yb : w1.cell? ⟨w.heap.size + 1, b, none⟩ = some (.int .i64 (r b)) := by rw [HRR.out.cell, regCells_get r b hb]
  have yc : w1.cell? ⟨w.heap.size + 1, c, none⟩ = some (.int .i64 (r c)) := by rw [HRR.out.cell, regCells_get r c hc]
  have HN1 : Hid (¬ w.heap.size = w1.heap.size ∧ ¬ w.heap.size + 1 = w1.heap.size ∧ ¬ w.heap.size + 1 + 1 = w1.heap.size ∧ w.heap.size ≤ w1.heap.size) := by
    have := HZ.out.lt
    exact ⟨by omega, by omega, by omega, by omega⟩
  have HNEW : Hid (Row (w1.alloc (.cells (effCells zeroEff).toArray 30)) w1.heap.size 30 (effCells zeroEff)) := Row.new _ 30 (effCells zeroEff)
  go_upto_region 3 with (first | ((with_reducible refine at_op (o := ⟨some 16, _, _, _, _, _⟩) ?_); refine pl_load (o := ⟨some 16, _, _, _, _, _⟩) rfl 24 _ rfl (w.heap.size + 1) rfl 24 (regCells r) HRR.out _ Tryd.underlying24 rfl (sizeR _) ?_) | ((with_reducible refine at_op (o := ⟨some 19, _, _, _, _, _⟩) ?_); refine pl_build2 (o := ⟨some 19, _, _, _, _, _⟩) rfl (.tmp 16) (.tmp 18) rfl r (pc + 1) rfl rfl ?_) | ((with_reducible refine at_op (o := ⟨none, .store 30 (.tmp 10) (.tmp 19), _, _, _, _⟩) ?_); refine pl_store (o := ⟨none, .store 30 (.tmp 10) (.tmp 19), _, _, _, _⟩) rfl 30 (.tmp 10) (.tmp 19) rfl (w1.heap.size) rfl 30 (effCells zeroEff) (effCells (eff0 r (pc + 1) 0)) rfl HNEW.out (sizeE _) (lenE _ _) (eff_one _) ?_; intro w4 hr4 hc4; have HE4 := Lib.hid hr4; have HX4 := Lib.hid ((HX.out.alloc _).keepIs hc4 HN1.out.1); have HR4 := Lib.hid ((HRR.out.alloc _).keepIs hc4 HN1.out.2.1); have HZ4 := Lib.hid ((HZ.out.alloc _).keepIs hc4 HN1.out.2.2.1); have HC4 := Lib.hid (ch_newg (HC0.out.alloc _) hc4 HN1.out.2.2.2); clear hr4 hc4))
  clear x0 x1 x2 x3 x4 ya yb yc
  have hlt4 : w1.heap.size < w4.heap.size := HE4.out.lt
  have x0 : w4.cell? ⟨w.heap.size, 0, none⟩ = some (.int .u8 25) := HX4.out.cell 0
  have x1 : w4.cell? ⟨w.heap.size, 1, none⟩ = some (.int .u8 a) := HX4.out.cell 1
  have x4 : w4.cell? ⟨w.heap.size, 4, none⟩ = some (.int .i32 n) := HX4.out.cell 4
  have e16 : w4.cell? ⟨w1.heap.size, 16, none⟩ = some (.int .i64 (pc + 1)) := row_rest HE4.out 0
  have z16 : w4.frozen? ⟨w1.heap.size, 16, none⟩ = false := HE4.out.frozen 16
  have n0 : ¬ w.heap.size = w1.heap.size := HN1.out.1
  have HE7 : Hid (Row (w4.setCell ⟨w1.heap.size, 16, none⟩ (.int .i64 (inn len (r a)))) w1.heap.size 30 (effCells { eff0 r (pc + 1) 0 with pc := inn len (r a) })) := by
    show Row _ _ _ _
    have h := HE4.out.set_ 16 (.int .i64 (inn len (r a)))
    rw [eff_set_pc] at h
    exact h
  have HZ7 : Hid (Row (w4.setCell ⟨w1.heap.size, 16, none⟩ (.int .i64 (inn len (r a)))) (w.heap.size + 1 + 1) 30 (effCells zeroEff)) := HZ4.out.setOther HN1.out.2.2.1 _
  have HC7 : Hid (Ch No w (w4.setCell ⟨w1.heap.size, 16, none⟩ (.int .i64 (inn len (r a))))) := HC4.out.setCell (fun h => absurd h (by have := HN1.out.2.2.2; show ¬ w1.heap.size < _; omega)) _
  have HJ := Lib.hid (fun W => in_27 A len cap hl (r a) W)
  go_wp2_with (first | (go_at_call 27; refine (HJ.out _).mono ?_; rintro e w' ⟨rfl, rfl⟩) | ((with_reducible refine at_op (o := ⟨some 27, _, _, _, _, _⟩) ?_); refine pl_load (o := ⟨some 27, _, _, _, _, _⟩) rfl 30 _ rfl (w1.heap.size) rfl 30 (effCells { eff0 r (pc + 1) 0 with pc := inn len (r a) }) HE7.out _ Tryd.underlying30 rfl (sizeE _) ?_) | ((with_reducible refine at_op (o := ⟨none, .store 30 (.tmp 8) (.tmp 27), _, _, _, _⟩) ?_); refine pl_store (o := ⟨none, .store 30 (.tmp 8) (.tmp 27), _, _, _, _⟩) rfl 30 (.tmp 8) (.tmp 27) rfl (w.heap.size + 1 + 1) rfl 30 (effCells zeroEff) (effCells ({ eff0 r (pc + 1) 0 with pc := inn len (r a) })) rfl HZ7.out (sizeE _) (lenE _ _) (eff_one _) ?_; intro w6 hr6 hc6; have HR6 := Lib.hid hr6; have HC6 := Lib.hid hc6; clear hr6 hc6))
  refine bodyPost_ret (v := .agg (effCells ({ eff0 r (pc + 1) 0 with pc := inn len (r a) })).toArray) (results_row rfl _ _ (w.heap.size + 1 + 1) 30 _ _ rfl HR6.out Tryd.underlying30 rfl (sizeE _)) rfl ⟨rfl, ?_⟩
  exact ch_newg HC7.out HC6.out (by omega)
set_option maxRecDepth 100000 in
set_option maxHeartbeats 4000000 in
theorem jump_26 (A : Option Addr) (len cap : Nat) (hl : len ≤ 9223372036854775807) (a b c : Nat) (n : Int) (ha : a < 16) (hb : b < 16) (hc : c < 16) (r : Nat → Int) (hin : ∀ i, i < 16 → In64 (r i)) (pc : Int) (hp0 : -9223372036854775808 ≤ pc) (hp1 : pc < 9223372036854775807) (hn0 : -2147483648 ≤ n) (hn1 : n ≤ 2147483647) (w : World) :
    Calls Tryd.prog 72 #[.slice A len cap, .agg (insCells 26 a b c n).toArray, .agg (regCells r).toArray, .int .i64 pc] w fun e w' => e = .returned (.agg (effCells (({ eff0 r (pc + 1) 0 with pc := inn len n } : Eff).reg 14 (pc + 1))).toArray) ∧ Ch No w w' := by
  have HX : Hid (Row (World.alloc (World.alloc (World.alloc w (.cells (insCells 26 a b c n).toArray 45)) (.cells (regCells r).toArray 24)) (.cells (effCells zeroEff).toArray 30)) w.heap.size 45 (insCells 26 a b c n)) := ((Row.new w 45 (insCells 26 a b c n)).alloc _).alloc _
  have HRR : Hid (Row (World.alloc (World.alloc (World.alloc w (.cells (insCells 26 a b c n).toArray 45)) (.cells (regCells r).toArray 24)) (.cells (effCells zeroEff).toArray 30)) (w.heap.size + 1) 24 (regCells r)) := (Row.new_at _ 24 (regCells r) (by simp)).alloc _
  have HZ : Hid (Row (World.alloc (World.alloc (World.alloc w (.cells (insCells 26 a b c n).toArray 45)) (.cells (regCells r).toArray 24)) (.cells (effCells zeroEff).toArray 30)) (w.heap.size + 1 + 1) 30 (effCells zeroEff)) := Row.new_at _ 30 (effCells zeroEff) (by simp)
  have HC0 : Hid (Ch No w (World.alloc (World.alloc (World.alloc w (.cells (insCells 26 a b c n).toArray 45)) (.cells (regCells r).toArray 24)) (.cells (effCells zeroEff).toArray 30))) := (((Ch.refl No w).alloc _).alloc _).alloc _
  have hnw : IntKind.i64.wrap n = n := by rw [i64_wrap, bv_in ⟨by omega, by omega⟩]
  have ia : (a : Int) < 16 := by omega
  have ib : (b : Int) < 16 := by omega
  have ic : (c : Int) < 16 := by omega
  have HIN := Lib.hid hin
  clear hin
  go_enter Tryd.func72, Tryd.ntmps72
  go_upto_region 1 with (fail)
  change Code.wp _ _ _ _ (World.alloc (World.alloc (World.alloc w (.cells (insCells 26 a b c n).toArray 45)) (.cells (regCells r).toArray 24)) (.cells (effCells zeroEff).toArray 30))
  generalize World.alloc (World.alloc (World.alloc w (.cells (insCells 26 a b c n).toArray 45)) (.cells (regCells r).toArray 24)) (.cells (effCells zeroEff).toArray 30) = w1 at *
  have x0 : w1.cell? ⟨w.heap.size, 0, none⟩ = some (.int .u8 26) := HX.out.cell 0
  have x1 : w1.cell? ⟨w.heap.size, 1, none⟩ = some (.int .u8 a) := HX.out.cell 1
  have x2 : w1.cell? ⟨w.heap.size, 2, none⟩ = some (.int .u8 b) := HX.out.cell 2
  have x3 : w1.cell? ⟨w.heap.size, 3, none⟩ = some (.int .u8 c) := HX.out.cell 3
  have x4 : w1.cell? ⟨w.heap.size, 4, none⟩ = some (.int .i32 n) := HX.out.cell 4
  have ya : w1.cell? ⟨w.heap.size + 1, a, none⟩ = some (.int .i64 (r a)) := by rw [HRR.out.cell, regCells_get r a ha]
  have yb : w1.cell? ⟨w.heap.size + 1, b, none⟩ = some (.int .i64 (r b)) := by rw [HRR.out.cell, regCells_get r b hb]
  have yc : w1.cell? ⟨w.heap.size + 1, c, none⟩ = some (.int .i64 (r c)) := by rw [HRR.out.cell, regCells_get r c hc]
  have HN1 : Hid (¬ w.heap.size = w1.heap.size ∧ ¬ w.heap.size + 1 = w1.heap.size ∧ ¬ w.heap.size + 1 + 1 = w1.heap.size ∧ w.heap.size ≤ w1.heap.size) := by
    have := HZ.out.lt
    exact ⟨by omega, by omega, by omega, by omega⟩
  have HNEW : Hid (Row (w1.alloc (.cells (effCells zeroEff).toArray 30)) w1.heap.size 30 (effCells zeroEff)) := Row.new _ 30 (effCells zeroEff)
  go_upto_region 3 with (first | ((with_reducible refine at_op (o := ⟨some 16, _, _, _, _, _⟩) ?_); refine pl_load (o := ⟨some 16, _, _, _, _, _⟩) rfl 24 _ rfl (w.heap.size + 1) rfl 24 (regCells r) HRR.out _ Tryd.underlying24 rfl (sizeR _) ?_) | ((with_reducible refine at_op (o := ⟨some 19, _, _, _, _, _⟩) ?_); refine pl_build2 (o := ⟨some 19, _, _, _, _, _⟩) rfl (.tmp 16) (.tmp 18) rfl r (pc + 1) rfl rfl ?_) | ((with_reducible refine at_op (o := ⟨none, .store 30 (.tmp 10) (.tmp 19), _, _, _, _⟩) ?_); refine pl_store (o := ⟨none, .store 30 (.tmp 10) (.tmp 19), _, _, _, _⟩) rfl 30 (.tmp 10) (.tmp 19) rfl (w1.heap.size) rfl 30 (effCells zeroEff) (effCells (eff0 r (pc + 1) 0)) rfl HNEW.out (sizeE _) (lenE _ _) (eff_one _) ?_; intro w4 hr4 hc4; have HE4 := Lib.hid hr4; have HX4 := Lib.hid ((HX.out.alloc _).keepIs hc4 HN1.out.1); have HR4 := Lib.hid ((HRR.out.alloc _).keepIs hc4 HN1.out.2.1); have HZ4 := Lib.hid ((HZ.out.alloc _).keepIs hc4 HN1.out.2.2.1); have HC4 := Lib.hid (ch_newg (HC0.out.alloc _) hc4 HN1.out.2.2.2); clear hr4 hc4))
  clear x0 x1 x2 x3 x4 ya yb yc
  have hlt4 : w1.heap.size < w4.heap.size := HE4.out.lt
  have x0 : w4.cell? ⟨w.heap.size, 0, none⟩ = some (.int .u8 26) := HX4.out.cell 0
  have x1 : w4.cell? ⟨w.heap.size, 1, none⟩ = some (.int .u8 a) := HX4.out.cell 1
  have x4 : w4.cell? ⟨w.heap.size, 4, none⟩ = some (.int .i32 n) := HX4.out.cell 4
  have e16 : w4.cell? ⟨w1.heap.size, 16, none⟩ = some (.int .i64 (pc + 1)) := row_rest HE4.out 0
  have z16 : w4.frozen? ⟨w1.heap.size, 16, none⟩ = false := HE4.out.frozen 16
  have n0 : ¬ w.heap.size = w1.heap.size := HN1.out.1
  have HE7 : Hid (Row (w4.setCell ⟨w1.heap.size, 16, none⟩ (.int .i64 (inn len (n)))) w1.heap.size 30 (effCells { eff0 r (pc + 1) 0 with pc := inn len (n) })) := by
    show Row _ _ _ _
    have h := HE4.out.set_ 16 (.int .i64 (inn len (n)))
    rw [eff_set_pc] at h
    exact h
  have HZ7 : Hid (Row (w4.setCell ⟨w1.heap.size, 16, none⟩ (.int .i64 (inn len (n)))) (w.heap.size + 1 + 1) 30 (effCells zeroEff)) := HZ4.out.setOther HN1.out.2.2.1 _
  have HC7 : Hid (Ch No w (w4.setCell ⟨w1.heap.size, 16, none⟩ (.int .i64 (inn len (n))))) := HC4.out.setCell (fun h => absurd h (by have := HN1.out.2.2.2; show ¬ w1.heap.size < _; omega)) _
  have HJ := Lib.hid (fun W => in_27 A len cap hl (n) W)
  go_wp2_with (first | (go_at_call 27; refine (HJ.out _).mono ?_; rintro e w' ⟨rfl, rfl⟩) | ((with_reducible refine at_op (o := ⟨some 54, _, _, _, _, _⟩) ?_); refine pl_load (o := ⟨some 54, _, _, _, _, _⟩) rfl 30 _ rfl (w1.heap.size) rfl 30 (effCells { eff0 r (pc + 1) 0 with pc := inn len (n) }) HE7.out _ Tryd.underlying30 rfl (sizeE _) ?_) | (go_at_call 67; refine (with_67 { eff0 r (pc + 1) 0 with pc := inn len (n) } 14 (Nat.lt_of_sub_eq_succ rfl) (pc + 1) _).mono ?_; rintro e w5 ⟨rfl, hc5⟩; have HZ5 := Lib.hid (HZ7.out.keepNo hc5); have HC5 := Lib.hid (HC7.out.then_ hc5); clear hc5) | ((with_reducible refine at_op (o := ⟨none, .store 30 (.tmp 8) (.tmp 57), _, _, _, _⟩) ?_); refine pl_store (o := ⟨none, .store 30 (.tmp 8) (.tmp 57), _, _, _, _⟩) rfl 30 (.tmp 8) (.tmp 57) rfl (w.heap.size + 1 + 1) rfl 30 (effCells zeroEff) (effCells (({ eff0 r (pc + 1) 0 with pc := inn len (n) } : Eff).reg 14 (pc + 1))) rfl HZ5.out (sizeE _) (lenE _ _) (eff_one _) ?_; intro w6 hr6 hc6; have HR6 := Lib.hid hr6; have HC6 := Lib.hid hc6; clear hr6 hc6))
  refine bodyPost_ret (v := .agg (effCells (({ eff0 r (pc + 1) 0 with pc := inn len (n) } : Eff).reg 14 (pc + 1))).toArray) (results_row rfl _ _ (w.heap.size + 1 + 1) 30 _ _ rfl HR6.out Tryd.underlying30 rfl (sizeE _)) rfl ⟨rfl, ?_⟩
  exact ch_newg HC5.out HC6.out (by omega)
end Go.Proofs.YtellmlffkgfeiaaDoor
