/- The document's answer for a legal instruction: what is reckoned from two registers. -/
import Derived.Test.YtellmlffkgfeiaaDoorV7
set_option linter.unusedVariables false
set_option linter.unusedSimpArgs false
namespace Go.Proofs.YtellmlffkgfeiaaDoor
open Go.RowKit
set_option maxRecDepth 100000 in
set_option maxHeartbeats 4000000 in
theorem done_7 (A : Option Addr) (len cap : Nat) (hl : len ≤ 9223372036854775807) (M : Option Addr) (xs : List Int) (mcap : Nat) (hm : xs.length ≤ 9223372036854775807) (fixed : Int) (a b c : Nat) (n : Int) (ha : a < 16) (hb : b < 16) (hc : c < 16) (r : Nat → Int) (hin : ∀ i, i < 16 → In64 (r i)) (pc : Int) (hp0 : -9223372036854775808 ≤ pc) (hp1 : pc < 9223372036854775807) (hn0 : -2147483648 ≤ n) (hn1 : n ≤ 2147483647) (w : World) :
    Calls Tryd.prog 30 #[.slice A len cap, .agg (insCells 7 a b c n).toArray, .slice M xs.length mcap, .int .i64 fixed, .agg (regCells r).toArray, .int .i64 pc] w fun e w' => e = .returned (.agg (effCells ((eff0 r (pc + 1) 0).reg a (recF 7 (r b) (r c)))).toArray) ∧ Ch No w w' := by
  have HX : Hid (Row (World.alloc (World.alloc (World.alloc w (.cells (insCells 7 a b c n).toArray 45)) (.cells (regCells r).toArray 24)) (.cells (effCells zeroEff).toArray 30)) w.heap.size 45 (insCells 7 a b c n)) := ((Row.new w 45 (insCells 7 a b c n)).alloc _).alloc _
  have HRR : Hid (Row (World.alloc (World.alloc (World.alloc w (.cells (insCells 7 a b c n).toArray 45)) (.cells (regCells r).toArray 24)) (.cells (effCells zeroEff).toArray 30)) (w.heap.size + 1) 24 (regCells r)) := (Row.new_at _ 24 (regCells r) (by simp)).alloc _
  have HZ : Hid (Row (World.alloc (World.alloc (World.alloc w (.cells (insCells 7 a b c n).toArray 45)) (.cells (regCells r).toArray 24)) (.cells (effCells zeroEff).toArray 30)) (w.heap.size + 1 + 1) 30 (effCells zeroEff)) := Row.new_at _ 30 (effCells zeroEff) (by simp)
  have HC0 : Hid (Ch No w (World.alloc (World.alloc (World.alloc w (.cells (insCells 7 a b c n).toArray 45)) (.cells (regCells r).toArray 24)) (.cells (effCells zeroEff).toArray 30))) := (((Ch.refl No w).alloc _).alloc _).alloc _
  have hnw : IntKind.i64.wrap n = n := by rw [i64_wrap, bv_in ⟨by omega, by omega⟩]
  have ia : (a : Int) < 16 := by omega
  have ib : (b : Int) < 16 := by omega
  have ic : (c : Int) < 16 := by omega
  have HIN := Lib.hid hin
  clear hin
  have HK : Hid (∀ W, Calls Tryd.prog 71 #[.int .u8 7, .int .i64 (r b), .int .i64 (r c)] W fun e w' => e = .returned (.int .i64 (recF 7 (r b) (r c))) ∧ w' = W) := fun W => (reckoned_71 7 (by omega) (r b) (r c) (HIN.out b hb) (HIN.out c hc) W).mono fun _ _ h => ⟨h.1, h.2.symm⟩
  go_enter Tryd.func30, Tryd.ntmps30
  go_upto_region 1 with (fail)
  change Code.wp _ _ _ _ (World.alloc (World.alloc (World.alloc w (.cells (insCells 7 a b c n).toArray 45)) (.cells (regCells r).toArray 24)) (.cells (effCells zeroEff).toArray 30))
  generalize World.alloc (World.alloc (World.alloc w (.cells (insCells 7 a b c n).toArray 45)) (.cells (regCells r).toArray 24)) (.cells (effCells zeroEff).toArray 30) = w1 at *
  have x0 : w1.cell? ⟨w.heap.size, 0, none⟩ = some (.int .u8 7) := HX.out.cell 0
  have x1 : w1.cell? ⟨w.heap.size, 1, none⟩ = some (.int .u8 a) := HX.out.cell 1
  have x2 : w1.cell? ⟨w.heap.size, 2, none⟩ = some (.int .u8 b) := HX.out.cell 2
  have x3 : w1.cell? ⟨w.heap.size, 3, none⟩ = some (.int .u8 c) := HX.out.cell 3
  have x4 : w1.cell? ⟨w.heap.size, 4, none⟩ = some (.int .i32 n) := HX.out.cell 4
  have ya : w1.cell? ⟨w.heap.size + 1, a, none⟩ = some (.int .i64 (r a)) := by rw [HRR.out.cell, regCells_get r a ha]
  have yb : w1.cell? ⟨w.heap.size + 1, b, none⟩ = some (.int .i64 (r b)) := by rw [HRR.out.cell, regCells_get r b hb]
  have yc : w1.cell? ⟨w.heap.size + 1, c, none⟩ = some (.int .i64 (r c)) := by rw [HRR.out.cell, regCells_get r c hc]
  have HN1 : Hid (¬ w.heap.size = w1.heap.size ∧ ¬ w.heap.size + 1 = w1.heap.size ∧ ¬ w.heap.size + 1 + 1 = w1.heap.size ∧ w.heap.size ≤ w1.heap.size) := by
    have := HZ.out.lt
    exact ⟨by omega, by omega, by omega, by omega⟩
  have HNEW : Hid (Row (w1.alloc (.cells (effCells zeroEff).toArray 30)) w1.heap.size 30 (effCells zeroEff)) := Row.new _ 30 (effCells zeroEff)
  clear x0 x1 x2 x3 x4 ya yb yc
  go_upto_region 2 with (first | ((with_reducible refine at_op (o := ⟨some 18, _, _, _, _, _⟩) ?_); refine pl_load (o := ⟨some 18, _, _, _, _, _⟩) rfl 24 _ rfl (w.heap.size + 1) rfl 24 (regCells r) HRR.out _ Tryd.underlying24 rfl (sizeR _) ?_) | ((with_reducible refine at_op (o := ⟨some 21, _, _, _, _, _⟩) ?_); refine pl_build2 (o := ⟨some 21, _, _, _, _, _⟩) rfl (.tmp 18) (.tmp 20) rfl r (pc + 1) rfl rfl ?_) | ((with_reducible refine at_op (o := ⟨none, .store 30 (.tmp 13) (.tmp 21), _, _, _, _⟩) ?_); refine pl_store (o := ⟨none, .store 30 (.tmp 13) (.tmp 21), _, _, _, _⟩) rfl 30 (.tmp 13) (.tmp 21) rfl (w1.heap.size) rfl 30 (effCells zeroEff) (effCells (eff0 r (pc + 1) 0)) rfl HNEW.out (sizeE _) (lenE _ _) (eff_one _) ?_; intro w4 hr4 hc4; have HE4 := Lib.hid hr4; have HX4 := Lib.hid ((HX.out.alloc _).keepIs hc4 HN1.out.1); have HR4 := Lib.hid ((HRR.out.alloc _).keepIs hc4 HN1.out.2.1); have HZ4 := Lib.hid ((HZ.out.alloc _).keepIs hc4 HN1.out.2.2.1); have HC4 := Lib.hid (ch_newg (HC0.out.alloc _) hc4 HN1.out.2.2.2); clear hr4 hc4))
  have hlt4 : w1.heap.size < w4.heap.size := HE4.out.lt
  have x0 : w4.cell? ⟨w.heap.size, 0, none⟩ = some (.int .u8 7) := HX4.out.cell 0
  have x1 : w4.cell? ⟨w.heap.size, 1, none⟩ = some (.int .u8 a) := HX4.out.cell 1
  have x2 : w4.cell? ⟨w.heap.size, 2, none⟩ = some (.int .u8 b) := HX4.out.cell 2
  have x3 : w4.cell? ⟨w.heap.size, 3, none⟩ = some (.int .u8 c) := HX4.out.cell 3
  have x4 : w4.cell? ⟨w.heap.size, 4, none⟩ = some (.int .i32 n) := HX4.out.cell 4
  have ya : w4.cell? ⟨w.heap.size + 1, a, none⟩ = some (.int .i64 (r a)) := by rw [HR4.out.cell, regCells_get r a ha]
  have yb : w4.cell? ⟨w.heap.size + 1, b, none⟩ = some (.int .i64 (r b)) := by rw [HR4.out.cell, regCells_get r b hb]
  have yc : w4.cell? ⟨w.heap.size + 1, c, none⟩ = some (.int .i64 (r c)) := by rw [HR4.out.cell, regCells_get r c hc]
  go_upto_region 33 with (fail)
  refine wp_region_qt 12 (by kernel_rfl) (by kernel_rfl) ?_
  simp only [List.take_succ_cons, List.take_zero, List.drop_succ_cons, List.drop_zero]
  refine wpQuiet_read (by rfl) (.agg (effCells (eff0 r (pc + 1) 0)).toArray) (fun w' hw' => by
    obtain ⟨j, rfl⟩ := hw'
    exact exec_load_agg 30 (.tmp 13) rfl w1.heap.size rfl 30 _ (HE4.out.drewN j) _ Tryd.underlying30 rfl (sizeE _)) ?_
  simp only [Act.put, List.setIfInBounds_toArray, List.set_cons_zero, List.set_cons_succ]
  have hcw : IntKind.i64.wrap (c : Int) = (c : Int) := by rw [i64_wrap, bv_in ⟨by omega, by omega⟩]
  have ic0 : (0 : Int) ≤ (c : Int) := by omega
  repeat (quiet_step (((go_at_call 71; exact Calls.quiet_of_same (HK.out _)))))
  refine wpQuiet_nil ?_
  intro _ hw'
  obtain ⟨nq, hw''⟩ := hw'
  subst hw''
  go_wp2_with (first | (go_at_call 67; refine (with_67 (eff0 r (pc + 1) 0) a ha (recF 7 (r b) (r c)) _).mono ?_; rintro e w5 ⟨rfl, hc5⟩; have HZ5 := Lib.hid ((HZ4.out.drewN _).keepNo hc5); have HC5 := Lib.hid ((HC4.out.drewN _).then_ hc5); clear hc5) | ((with_reducible refine at_op (o := ⟨none, .store 30 (.tmp 12) (.tmp 130), _, _, _, _⟩) ?_); refine wpList_store_agg (o := ⟨none, .store 30 (.tmp 12) (.tmp 130), _, _, _, _⟩) rfl 30 (.tmp 12) (.tmp 130) rfl (w.heap.size + 1 + 1) rfl 30 (effCells zeroEff) (effCells ((eff0 r (pc + 1) 0).reg a (recF 7 (r b) (r c)))) rfl HZ5.out (sizeE _) (lenE _ _) (eff_one _) ?_; intro w6 hr6 hc6; have HR6 := Lib.hid hr6; have HC6 := Lib.hid hc6; clear hr6 hc6))
  refine bodyPost_ret (v := .agg (effCells ((eff0 r (pc + 1) 0).reg a (recF 7 (r b) (r c)))).toArray) (results_row rfl _ _ (w.heap.size + 1 + 1) 30 _ _ rfl HR6.out Tryd.underlying30 rfl (sizeE _)) rfl ⟨rfl, ?_⟩
  exact ch_newg HC5.out HC6.out (by omega)
set_option maxRecDepth 100000 in
set_option maxHeartbeats 4000000 in
theorem done_8 (A : Option Addr) (len cap : Nat) (hl : len ≤ 9223372036854775807) (M : Option Addr) (xs : List Int) (mcap : Nat) (hm : xs.length ≤ 9223372036854775807) (fixed : Int) (a b c : Nat) (n : Int) (ha : a < 16) (hb : b < 16) (hc : c < 16) (r : Nat → Int) (hin : ∀ i, i < 16 → In64 (r i)) (pc : Int) (hp0 : -9223372036854775808 ≤ pc) (hp1 : pc < 9223372036854775807) (hn0 : -2147483648 ≤ n) (hn1 : n ≤ 2147483647) (w : World) :
    Calls Tryd.prog 30 #[.slice A len cap, .agg (insCells 8 a b c n).toArray, .slice M xs.length mcap, .int .i64 fixed, .agg (regCells r).toArray, .int .i64 pc] w fun e w' => e = .returned (.agg (effCells ((eff0 r (pc + 1) 0).reg a (recF 8 (r b) (r c)))).toArray) ∧ Ch No w w' := by
  have HX : Hid (Row (World.alloc (World.alloc (World.alloc w (.cells (insCells 8 a b c n).toArray 45)) (.cells (regCells r).toArray 24)) (.cells (effCells zeroEff).toArray 30)) w.heap.size 45 (insCells 8 a b c n)) := ((Row.new w 45 (insCells 8 a b c n)).alloc _).alloc _
  have HRR : Hid (Row (World.alloc (World.alloc (World.alloc w (.cells (insCells 8 a b c n).toArray 45)) (.cells (regCells r).toArray 24)) (.cells (effCells zeroEff).toArray 30)) (w.heap.size + 1) 24 (regCells r)) := (Row.new_at _ 24 (regCells r) (by simp)).alloc _
  have HZ : Hid (Row (World.alloc (World.alloc (World.alloc w (.cells (insCells 8 a b c n).toArray 45)) (.cells (regCells r).toArray 24)) (.cells (effCells zeroEff).toArray 30)) (w.heap.size + 1 + 1) 30 (effCells zeroEff)) := Row.new_at _ 30 (effCells zeroEff) (by simp)
  have HC0 : Hid (Ch No w (World.alloc (World.alloc (World.alloc w (.cells (insCells 8 a b c n).toArray 45)) (.cells (regCells r).toArray 24)) (.cells (effCells zeroEff).toArray 30))) := (((Ch.refl No w).alloc _).alloc _).alloc _
  have hnw : IntKind.i64.wrap n = n := by rw [i64_wrap, bv_in ⟨by omega, by omega⟩]
  have ia : (a : Int) < 16 := by omega
  have ib : (b : Int) < 16 := by omega
  have ic : (c : Int) < 16 := by omega
  have HIN := Lib.hid hin
  clear hin
  have HK : Hid (∀ W, Calls Tryd.prog 71 #[.int .u8 8, .int .i64 (r b), .int .i64 (r c)] W fun e w' => e = .returned (.int .i64 (recF 8 (r b) (r c))) ∧ w' = W) := fun W => (reckoned_71 8 (by omega) (r b) (r c) (HIN.out b hb) (HIN.out c hc) W).mono fun _ _ h => ⟨h.1, h.2.symm⟩
  go_enter Tryd.func30, Tryd.ntmps30
  go_upto_region 1 with (fail)
  change Code.wp _ _ _ _ (World.alloc (World.alloc (World.alloc w (.cells (insCells 8 a b c n).toArray 45)) (.cells (regCells r).toArray 24)) (.cells (effCells zeroEff).toArray 30))
  generalize World.alloc (World.alloc (World.alloc w (.cells (insCells 8 a b c n).toArray 45)) (.cells (regCells r).toArray 24)) (.cells (effCells zeroEff).toArray 30) = w1 at *
  have x0 : w1.cell? ⟨w.heap.size, 0, none⟩ = some (.int .u8 8) := HX.out.cell 0
  have x1 : w1.cell? ⟨w.heap.size, 1, none⟩ = some (.int .u8 a) := HX.out.cell 1
  have x2 : w1.cell? ⟨w.heap.size, 2, none⟩ = some (.int .u8 b) := HX.out.cell 2
  have x3 : w1.cell? ⟨w.heap.size, 3, none⟩ = some (.int .u8 c) := HX.out.cell 3
  have x4 : w1.cell? ⟨w.heap.size, 4, none⟩ = some (.int .i32 n) := HX.out.cell 4
  have ya : w1.cell? ⟨w.heap.size + 1, a, none⟩ = some (.int .i64 (r a)) := by rw [HRR.out.cell, regCells_get r a ha]
  have yb : w1.cell? ⟨w.heap.size + 1, b, none⟩ = some (.int .i64 (r b)) := by rw [HRR.out.cell, regCells_get r b hb]
  have yc : w1.cell? ⟨w.heap.size + 1, c, none⟩ = some (.int .i64 (r c)) := by rw [HRR.out.cell, regCells_get r c hc]
  have HN1 : Hid (¬ w.heap.size = w1.heap.size ∧ ¬ w.heap.size + 1 = w1.heap.size ∧ ¬ w.heap.size + 1 + 1 = w1.heap.size ∧ w.heap.size ≤ w1.heap.size) := by
    have := HZ.out.lt
    exact ⟨by omega, by omega, by omega, by omega⟩
  have HNEW : Hid (Row (w1.alloc (.cells (effCells zeroEff).toArray 30)) w1.heap.size 30 (effCells zeroEff)) := Row.new _ 30 (effCells zeroEff)
  clear x0 x1 x2 x3 x4 ya yb yc
  go_upto_region 2 with (first | ((with_reducible refine at_op (o := ⟨some 18, _, _, _, _, _⟩) ?_); refine pl_load (o := ⟨some 18, _, _, _, _, _⟩) rfl 24 _ rfl (w.heap.size + 1) rfl 24 (regCells r) HRR.out _ Tryd.underlying24 rfl (sizeR _) ?_) | ((with_reducible refine at_op (o := ⟨some 21, _, _, _, _, _⟩) ?_); refine pl_build2 (o := ⟨some 21, _, _, _, _, _⟩) rfl (.tmp 18) (.tmp 20) rfl r (pc + 1) rfl rfl ?_) | ((with_reducible refine at_op (o := ⟨none, .store 30 (.tmp 13) (.tmp 21), _, _, _, _⟩) ?_); refine pl_store (o := ⟨none, .store 30 (.tmp 13) (.tmp 21), _, _, _, _⟩) rfl 30 (.tmp 13) (.tmp 21) rfl (w1.heap.size) rfl 30 (effCells zeroEff) (effCells (eff0 r (pc + 1) 0)) rfl HNEW.out (sizeE _) (lenE _ _) (eff_one _) ?_; intro w4 hr4 hc4; have HE4 := Lib.hid hr4; have HX4 := Lib.hid ((HX.out.alloc _).keepIs hc4 HN1.out.1); have HR4 := Lib.hid ((HRR.out.alloc _).keepIs hc4 HN1.out.2.1); have HZ4 := Lib.hid ((HZ.out.alloc _).keepIs hc4 HN1.out.2.2.1); have HC4 := Lib.hid (ch_newg (HC0.out.alloc _) hc4 HN1.out.2.2.2); clear hr4 hc4))
  have hlt4 : w1.heap.size < w4.heap.size := HE4.out.lt
  have x0 : w4.cell? ⟨w.heap.size, 0, none⟩ = some (.int .u8 8) := HX4.out.cell 0
  have x1 : w4.cell? ⟨w.heap.size, 1, none⟩ = some (.int .u8 a) := HX4.out.cell 1
  have x2 : w4.cell? ⟨w.heap.size, 2, none⟩ = some (.int .u8 b) := HX4.out.cell 2
  have x3 : w4.cell? ⟨w.heap.size, 3, none⟩ = some (.int .u8 c) := HX4.out.cell 3
  have x4 : w4.cell? ⟨w.heap.size, 4, none⟩ = some (.int .i32 n) := HX4.out.cell 4
  have ya : w4.cell? ⟨w.heap.size + 1, a, none⟩ = some (.int .i64 (r a)) := by rw [HR4.out.cell, regCells_get r a ha]
  have yb : w4.cell? ⟨w.heap.size + 1, b, none⟩ = some (.int .i64 (r b)) := by rw [HR4.out.cell, regCells_get r b hb]
  have yc : w4.cell? ⟨w.heap.size + 1, c, none⟩ = some (.int .i64 (r c)) := by rw [HR4.out.cell, regCells_get r c hc]
  go_upto_region 33 with (fail)
  refine wp_region_qt 12 (by kernel_rfl) (by kernel_rfl) ?_
  simp only [List.take_succ_cons, List.take_zero, List.drop_succ_cons, List.drop_zero]
  refine wpQuiet_read (by rfl) (.agg (effCells (eff0 r (pc + 1) 0)).toArray) (fun w' hw' => by
    obtain ⟨j, rfl⟩ := hw'
    exact exec_load_agg 30 (.tmp 13) rfl w1.heap.size rfl 30 _ (HE4.out.drewN j) _ Tryd.underlying30 rfl (sizeE _)) ?_
  simp only [Act.put, List.setIfInBounds_toArray, List.set_cons_zero, List.set_cons_succ]
  have hcw : IntKind.i64.wrap (c : Int) = (c : Int) := by rw [i64_wrap, bv_in ⟨by omega, by omega⟩]
  have ic0 : (0 : Int) ≤ (c : Int) := by omega
  repeat (quiet_step (((go_at_call 71; exact Calls.quiet_of_same (HK.out _)))))
  refine wpQuiet_nil ?_
  intro _ hw'
  obtain ⟨nq, hw''⟩ := hw'
  subst hw''
  go_wp2_with (first | (go_at_call 67; refine (with_67 (eff0 r (pc + 1) 0) a ha (recF 8 (r b) (r c)) _).mono ?_; rintro e w5 ⟨rfl, hc5⟩; have HZ5 := Lib.hid ((HZ4.out.drewN _).keepNo hc5); have HC5 := Lib.hid ((HC4.out.drewN _).then_ hc5); clear hc5) | ((with_reducible refine at_op (o := ⟨none, .store 30 (.tmp 12) (.tmp 130), _, _, _, _⟩) ?_); refine wpList_store_agg (o := ⟨none, .store 30 (.tmp 12) (.tmp 130), _, _, _, _⟩) rfl 30 (.tmp 12) (.tmp 130) rfl (w.heap.size + 1 + 1) rfl 30 (effCells zeroEff) (effCells ((eff0 r (pc + 1) 0).reg a (recF 8 (r b) (r c)))) rfl HZ5.out (sizeE _) (lenE _ _) (eff_one _) ?_; intro w6 hr6 hc6; have HR6 := Lib.hid hr6; have HC6 := Lib.hid hc6; clear hr6 hc6))
  refine bodyPost_ret (v := .agg (effCells ((eff0 r (pc + 1) 0).reg a (recF 8 (r b) (r c)))).toArray) (results_row rfl _ _ (w.heap.size + 1 + 1) 30 _ _ rfl HR6.out Tryd.underlying30 rfl (sizeE _)) rfl ⟨rfl, ?_⟩
  exact ch_newg HC5.out HC6.out (by omega)
set_option maxRecDepth 100000 in
set_option maxHeartbeats 4000000 in
theorem done_9 (A : Option Addr) (len cap : Nat) (hl : len ≤ 9223372036854775807) (M : Option Addr) (xs : List Int) (mcap : Nat) (hm : xs.length ≤ 9223372036854775807) (fixed : Int) (a b c : Nat) (n : Int) (ha : a < 16) (hb : b < 16) (hc : c < 16) (r : Nat → Int) (hin : ∀ i, i < 16 → In64 (r i)) (pc : Int) (hp0 : -9223372036854775808 ≤ pc) (hp1 : pc < 9223372036854775807) (hn0 : -2147483648 ≤ n) (hn1 : n ≤ 2147483647) (w : World) :
    Calls Tryd.prog 30 #[.slice A len cap, .agg (insCells 9 a b c n).toArray, .slice M xs.length mcap, .int .i64 fixed, .agg (regCells r).toArray, .int .i64 pc] w fun e w' => e = .returned (.agg (effCells ((eff0 r (pc + 1) 0).reg a (recF 9 (r b) (r c)))).toArray) ∧ Ch No w w' := by
  have HX : Hid (Row (World.alloc (World.alloc (World.alloc w (.cells (insCells 9 a b c n).toArray 45)) (.cells (regCells r).toArray 24)) (.cells (effCells zeroEff).toArray 30)) w.heap.size 45 (insCells 9 a b c n)) := ((Row.new w 45 (insCells 9 a b c n)).alloc _).alloc _
  have HRR : Hid (Row (World.alloc (World.alloc (World.alloc w (.cells (insCells 9 a b c n).toArray 45)) (.cells (regCells r).toArray 24)) (.cells (effCells zeroEff).toArray 30)) (w.heap.size + 1) 24 (regCells r)) := (Row.new_at _ 24 (regCells r) (by simp)).alloc _
  have HZ : Hid (Row (World.alloc (World.alloc (World.alloc w (.cells (insCells 9 a b c n).toArray 45)) (.cells (regCells r).toArray 24)) (.cells (effCells zeroEff).toArray 30)) (w.heap.size + 1 + 1) 30 (effCells zeroEff)) := Row.new_at _ 30 (effCells zeroEff) (by simp)
  have HC0 : Hid (Ch No w (World.alloc (World.alloc (World.alloc w (.cells (insCells 9 a b c n).toArray 45)) (.cells (regCells r).toArray 24)) (.cells (effCells zeroEff).toArray 30))) := (((Ch.refl No w).alloc _).alloc _).alloc _
  have hnw : IntKind.i64.wrap n = n := by rw [i64_wrap, bv_in ⟨by omega, by omega⟩]
  have ia : (a : Int) < 16 := by omega
  have ib : (b : Int) < 16 := by omega
  have ic : (c : Int) < 16 := by omega
  have HIN := Lib.hid hin
  clear hin
  have HK : Hid (∀ W, Calls Tryd.prog 71 #[.int .u8 9, .int .i64 (r b), .int .i64 (r c)] W fun e w' => e = .returned (.int .i64 (recF 9 (r b) (r c))) ∧ w' = W) := fun W => (reckoned_71 9 (by omega) (r b) (r c) (HIN.out b hb) (HIN.out c hc) W).mono fun _ _ h => ⟨h.1, h.2.symm⟩
  go_enter Tryd.func30, Tryd.ntmps30
  go_upto_region 1 with (fail)
  change Code.wp _ _ _ _ (World.alloc (World.alloc (World.alloc w (.cells (insCells 9 a b c n).toArray 45)) (.cells (regCells r).toArray 24)) (.cells (effCells zeroEff).toArray 30))
  generalize World.alloc (World.alloc (World.alloc w (.cells (insCells 9 a b c n).toArray 45)) (.cells (regCells r).toArray 24)) (.cells (effCells zeroEff).toArray 30) = w1 at *
  have x0 : w1.cell? ⟨w.heap.size, 0, none⟩ = some (.int .u8 9) := HX.out.cell 0
  have x1 : w1.cell? ⟨w.heap.size, 1, none⟩ = some (.int .u8 a) := HX.out.cell 1
  have x2 : w1.cell? ⟨w.heap.size, 2, none⟩ = some (.int .u8 b) := HX.out.cell 2
  have x3 : w1.cell? ⟨w.heap.size, 3, none⟩ = some (.int .u8 c) := HX.out.cell 3
  have x4 : w1.cell? ⟨w.heap.size, 4, none⟩ = some (.int .i32 n) := HX.out.cell 4
  have ya : w1.cell? ⟨w.heap.size + 1, a, none⟩ = some (.int .i64 (r a)) := by rw [HRR.out.cell, regCells_get r a ha]
  have yb : w1.cell? ⟨w.heap.size + 1, b, none⟩ = some (.int .i64 (r b)) := by rw [HRR.out.cell, regCells_get r b hb]
  have yc : w1.cell? ⟨w.heap.size + 1, c, none⟩ = some (.int .i64 (r c)) := by rw [HRR.out.cell, regCells_get r c hc]
  have HN1 : Hid (¬ w.heap.size = w1.heap.size ∧ ¬ w.heap.size + 1 = w1.heap.size ∧ ¬ w.heap.size + 1 + 1 = w1.heap.size ∧ w.heap.size ≤ w1.heap.size) := by
    have := HZ.out.lt
    exact ⟨by omega, by omega, by omega, by omega⟩
  have HNEW : Hid (Row (w1.alloc (.cells (effCells zeroEff).toArray 30)) w1.heap.size 30 (effCells zeroEff)) := Row.new _ 30 (effCells zeroEff)
  clear x0 x1 x2 x3 x4 ya yb yc
  go_upto_region 2 with (first | ((with_reducible refine at_op (o := ⟨some 18, _, _, _, _, _⟩) ?_); refine pl_load (o := ⟨some 18, _, _, _, _, _⟩) rfl 24 _ rfl (w.heap.size + 1) rfl 24 (regCells r) HRR.out _ Tryd.underlying24 rfl (sizeR _) ?_) | ((with_reducible refine at_op (o := ⟨some 21, _, _, _, _, _⟩) ?_); refine pl_build2 (o := ⟨some 21, _, _, _, _, _⟩) rfl (.tmp 18) (.tmp 20) rfl r (pc + 1) rfl rfl ?_) | ((with_reducible refine at_op (o := ⟨none, .store 30 (.tmp 13) (.tmp 21), _, _, _, _⟩) ?_); refine pl_store (o := ⟨none, .store 30 (.tmp 13) (.tmp 21), _, _, _, _⟩) rfl 30 (.tmp 13) (.tmp 21) rfl (w1.heap.size) rfl 30 (effCells zeroEff) (effCells (eff0 r (pc + 1) 0)) rfl HNEW.out (sizeE _) (lenE _ _) (eff_one _) ?_; intro w4 hr4 hc4; have HE4 := Lib.hid hr4; have HX4 := Lib.hid ((HX.out.alloc _).keepIs hc4 HN1.out.1); have HR4 := Lib.hid ((HRR.out.alloc _).keepIs hc4 HN1.out.2.1); have HZ4 := Lib.hid ((HZ.out.alloc _).keepIs hc4 HN1.out.2.2.1); have HC4 := Lib.hid (ch_newg (HC0.out.alloc _) hc4 HN1.out.2.2.2); clear hr4 hc4))
  have hlt4 : w1.heap.size < w4.heap.size := HE4.out.lt
  have x0 : w4.cell? ⟨w.heap.size, 0, none⟩ = some (.int .u8 9) := HX4.out.cell 0
  have x1 : w4.cell? ⟨w.heap.size, 1, none⟩ = some (.int .u8 a) := HX4.out.cell 1
  have x2 : w4.cell? ⟨w.heap.size, 2, none⟩ = some (.int .u8 b) := HX4.out.cell 2
  have x3 : w4.cell? ⟨w.heap.size, 3, none⟩ = some (.int .u8 c) := HX4.out.cell 3
  have x4 : w4.cell? ⟨w.heap.size, 4, none⟩ = some (.int .i32 n) := HX4.out.cell 4
  have ya : w4.cell? ⟨w.heap.size + 1, a, none⟩ = some (.int .i64 (r a)) := by rw [HR4.out.cell, regCells_get r a ha]
  have yb : w4.cell? ⟨w.heap.size + 1, b, none⟩ = some (.int .i64 (r b)) := by rw [HR4.out.cell, regCells_get r b hb]
  have yc : w4.cell? ⟨w.heap.size + 1, c, none⟩ = some (.int .i64 (r c)) := by rw [HR4.out.cell, regCells_get r c hc]
  go_upto_region 33 with (fail)
  refine wp_region_qt 12 (by kernel_rfl) (by kernel_rfl) ?_
  simp only [List.take_succ_cons, List.take_zero, List.drop_succ_cons, List.drop_zero]
  refine wpQuiet_read (by rfl) (.agg (effCells (eff0 r (pc + 1) 0)).toArray) (fun w' hw' => by
    obtain ⟨j, rfl⟩ := hw'
    exact exec_load_agg 30 (.tmp 13) rfl w1.heap.size rfl 30 _ (HE4.out.drewN j) _ Tryd.underlying30 rfl (sizeE _)) ?_
  simp only [Act.put, List.setIfInBounds_toArray, List.set_cons_zero, List.set_cons_succ]
  have hcw : IntKind.i64.wrap (c : Int) = (c : Int) := by rw [i64_wrap, bv_in ⟨by omega, by omega⟩]
  have ic0 : (0 : Int) ≤ (c : Int) := by omega
  repeat (quiet_step (((go_at_call 71; exact Calls.quiet_of_same (HK.out _)))))
  refine wpQuiet_nil ?_
  intro _ hw'
  obtain ⟨nq, hw''⟩ := hw'
  subst hw''
  go_wp2_with (first | (go_at_call 67; refine (with_67 (eff0 r (pc + 1) 0) a ha (recF 9 (r b) (r c)) _).mono ?_; rintro e w5 ⟨rfl, hc5⟩; have HZ5 := Lib.hid ((HZ4.out.drewN _).keepNo hc5); have HC5 := Lib.hid ((HC4.out.drewN _).then_ hc5); clear hc5) | ((with_reducible refine at_op (o := ⟨none, .store 30 (.tmp 12) (.tmp 130), _, _, _, _⟩) ?_); refine wpList_store_agg (o := ⟨none, .store 30 (.tmp 12) (.tmp 130), _, _, _, _⟩) rfl 30 (.tmp 12) (.tmp 130) rfl (w.heap.size + 1 + 1) rfl 30 (effCells zeroEff) (effCells ((eff0 r (pc + 1) 0).reg a (recF 9 (r b) (r c)))) rfl HZ5.out (sizeE _) (lenE _ _) (eff_one _) ?_; intro w6 hr6 hc6; have HR6 := Lib.hid hr6; have HC6 := Lib.hid hc6; clear hr6 hc6))
  refine bodyPost_ret (v := .agg (effCells ((eff0 r (pc + 1) 0).reg a (recF 9 (r b) (r c)))).toArray) (results_row rfl _ _ (w.heap.size + 1 + 1) 30 _ _ rfl HR6.out Tryd.underlying30 rfl (sizeE _)) rfl ⟨rfl, ?_⟩
  exact ch_newg HC5.out HC6.out (by omega)
set_option maxRecDepth 100000 in
set_option maxHeartbeats 4000000 in
theorem done_12 (A : Option Addr) (len cap : Nat) (hl : len ≤ 9223372036854775807) (M : Option Addr) (xs : List Int) (mcap : Nat) (hm : xs.length ≤ 9223372036854775807) (fixed : Int) (a b c : Nat) (n : Int) (ha : a < 16) (hb : b < 16) (hc : c < 16) (r : Nat → Int) (hin : ∀ i, i < 16 → In64 (r i)) (pc : Int) (hp0 : -9223372036854775808 ≤ pc) (hp1 : pc < 9223372036854775807) (hn0 : -2147483648 ≤ n) (hn1 : n ≤ 2147483647) (w : World) :
    Calls Tryd.prog 30 #[.slice A len cap, .agg (insCells 12 a b c n).toArray, .slice M xs.length mcap, .int .i64 fixed, .agg (regCells r).toArray, .int .i64 pc] w fun e w' => e = .returned (.agg (effCells ((eff0 r (pc + 1) 0).reg a (recF 12 (r b) (r c)))).toArray) ∧ Ch No w w' := by
  have HX : Hid (Row (World.alloc (World.alloc (World.alloc w (.cells (insCells 12 a b c n).toArray 45)) (.cells (regCells r).toArray 24)) (.cells (effCells zeroEff).toArray 30)) w.heap.size 45 (insCells 12 a b c n)) := ((Row.new w 45 (insCells 12 a b c n)).alloc _).alloc _
  have HRR : Hid (Row (World.alloc (World.alloc (World.alloc w (.cells (insCells 12 a b c n).toArray 45)) (.cells (regCells r).toArray 24)) (.cells (effCells zeroEff).toArray 30)) (w.heap.size + 1) 24 (regCells r)) := (Row.new_at _ 24 (regCells r) (by simp)).alloc _
  have HZ : Hid (Row (World.alloc (World.alloc (World.alloc w (.cells (insCells 12 a b c n).toArray 45)) (.cells (regCells r).toArray 24)) (.cells (effCells zeroEff).toArray 30)) (w.heap.size + 1 + 1) 30 (effCells zeroEff)) := Row.new_at _ 30 (effCells zeroEff) (by simp)
  have HC0 : Hid (Ch No w (World.alloc (World.alloc (World.alloc w (.cells (insCells 12 a b c n).toArray 45)) (.cells (regCells r).toArray 24)) (.cells (effCells zeroEff).toArray 30))) := (((Ch.refl No w).alloc _).alloc _).alloc _
  have hnw : IntKind.i64.wrap n = n := by rw [i64_wrap, bv_in ⟨by omega, by omega⟩]
  have ia : (a : Int) < 16 := by omega
  have ib : (b : Int) < 16 := by omega
  have ic : (c : Int) < 16 := by omega
  have HIN := Lib.hid hin
  clear hin
  have HK : Hid (∀ W, Calls Tryd.prog 71 #[.int .u8 12, .int .i64 (r b), .int .i64 (r c)] W fun e w' => e = .returned (.int .i64 (recF 12 (r b) (r c))) ∧ w' = W) := fun W => (reckoned_71 12 (by omega) (r b) (r c) (HIN.out b hb) (HIN.out c hc) W).mono fun _ _ h => ⟨h.1, h.2.symm⟩
  go_enter Tryd.func30, Tryd.ntmps30
  go_upto_region 1 with (fail)
  change Code.wp _ _ _ _ (World.alloc (World.alloc (World.alloc w (.cells (insCells 12 a b c n).toArray 45)) (.cells (regCells r).toArray 24)) (.cells (effCells zeroEff).toArray 30))
  generalize World.alloc (World.alloc (World.alloc w (.cells (insCells 12 a b c n).toArray 45)) (.cells (regCells r).toArray 24)) (.cells (effCells zeroEff).toArray 30) = w1 at *
  have x0 : w1.cell? ⟨w.heap.size, 0, none⟩ = some (.int .u8 12) := HX.out.cell 0
  have x1 : w1.cell? ⟨w.heap.size, 1, none⟩ = some (.int .u8 a) := HX.out.cell 1
  have x2 : w1.cell? ⟨w.heap.size, 2, none⟩ = some (.int .u8 b) := HX.out.cell 2
  have x3 : w1.cell? ⟨w.heap.size, 3, none⟩ = some (.int .u8 c) := HX.out.cell 3
  have x4 : w1.cell? ⟨w.heap.size, 4, none⟩ = some (.int .i32 n) := HX.out.cell 4
  have ya : w1.cell? ⟨w.heap.size + 1, a, none⟩ = some (.int .i64 (r a)) := by rw [HRR.out.cell, regCells_get r a ha]
  have yb : w1.cell? ⟨w.heap.size + 1, b, none⟩ = some (.int .i64 (r b)) := by rw [HRR.out.cell, regCells_get r b hb]
  have yc : w1.cell? ⟨w.heap.size + 1, c, none⟩ = some (.int .i64 (r c)) := by rw [HRR.out.cell, regCells_get r c hc]
  have HN1 : Hid (¬ w.heap.size = w1.heap.size ∧ ¬ w.heap.size + 1 = w1.heap.size ∧ ¬ w.heap.size + 1 + 1 = w1.heap.size ∧ w.heap.size ≤ w1.heap.size) := by
    have := HZ.out.lt
    exact ⟨by omega, by omega, by omega, by omega⟩
  have HNEW : Hid (Row (w1.alloc (.cells (effCells zeroEff).toArray 30)) w1.heap.size 30 (effCells zeroEff)) := Row.new _ 30 (effCells zeroEff)
  clear x0 x1 x2 x3 x4 ya yb yc
  go_upto_region 2 with (first | ((with_reducible refine at_op (o := ⟨some 18, _, _, _, _, _⟩) ?_); refine pl_load (o := ⟨some 18, _, _, _, _, _⟩) rfl 24 _ rfl (w.heap.size + 1) rfl 24 (regCells r) HRR.out _ Tryd.underlying24 rfl (sizeR _) ?_) | ((with_reducible refine at_op (o := ⟨some 21, _, _, _, _, _⟩) ?_); refine pl_build2 (o := ⟨some 21, _, _, _, _, _⟩) rfl (.tmp 18) (.tmp 20) rfl r (pc + 1) rfl rfl ?_) | ((with_reducible refine at_op (o := ⟨none, .store 30 (.tmp 13) (.tmp 21), _, _, _, _⟩) ?_); refine pl_store (o := ⟨none, .store 30 (.tmp 13) (.tmp 21), _, _, _, _⟩) rfl 30 (.tmp 13) (.tmp 21) rfl (w1.heap.size) rfl 30 (effCells zeroEff) (effCells (eff0 r (pc + 1) 0)) rfl HNEW.out (sizeE _) (lenE _ _) (eff_one _) ?_; intro w4 hr4 hc4; have HE4 := Lib.hid hr4; have HX4 := Lib.hid ((HX.out.alloc _).keepIs hc4 HN1.out.1); have HR4 := Lib.hid ((HRR.out.alloc _).keepIs hc4 HN1.out.2.1); have HZ4 := Lib.hid ((HZ.out.alloc _).keepIs hc4 HN1.out.2.2.1); have HC4 := Lib.hid (ch_newg (HC0.out.alloc _) hc4 HN1.out.2.2.2); clear hr4 hc4))
  have hlt4 : w1.heap.size < w4.heap.size := HE4.out.lt
  have x0 : w4.cell? ⟨w.heap.size, 0, none⟩ = some (.int .u8 12) := HX4.out.cell 0
  have x1 : w4.cell? ⟨w.heap.size, 1, none⟩ = some (.int .u8 a) := HX4.out.cell 1
  have x2 : w4.cell? ⟨w.heap.size, 2, none⟩ = some (.int .u8 b) := HX4.out.cell 2
  have x3 : w4.cell? ⟨w.heap.size, 3, none⟩ = some (.int .u8 c) := HX4.out.cell 3
  have x4 : w4.cell? ⟨w.heap.size, 4, none⟩ = some (.int .i32 n) := HX4.out.cell 4
  have ya : w4.cell? ⟨w.heap.size + 1, a, none⟩ = some (.int .i64 (r a)) := by rw [HR4.out.cell, regCells_get r a ha]
  have yb : w4.cell? ⟨w.heap.size + 1, b, none⟩ = some (.int .i64 (r b)) := by rw [HR4.out.cell, regCells_get r b hb]
  have yc : w4.cell? ⟨w.heap.size + 1, c, none⟩ = some (.int .i64 (r c)) := by rw [HR4.out.cell, regCells_get r c hc]
  go_upto_region 33 with (fail)
  refine wp_region_qt 12 (by kernel_rfl) (by kernel_rfl) ?_
  simp only [List.take_succ_cons, List.take_zero, List.drop_succ_cons, List.drop_zero]
  refine wpQuiet_read (by rfl) (.agg (effCells (eff0 r (pc + 1) 0)).toArray) (fun w' hw' => by
    obtain ⟨j, rfl⟩ := hw'
    exact exec_load_agg 30 (.tmp 13) rfl w1.heap.size rfl 30 _ (HE4.out.drewN j) _ Tryd.underlying30 rfl (sizeE _)) ?_
  simp only [Act.put, List.setIfInBounds_toArray, List.set_cons_zero, List.set_cons_succ]
  have hcw : IntKind.i64.wrap (c : Int) = (c : Int) := by rw [i64_wrap, bv_in ⟨by omega, by omega⟩]
  have ic0 : (0 : Int) ≤ (c : Int) := by omega
  repeat (quiet_step (((go_at_call 71; exact Calls.quiet_of_same (HK.out _)))))
  refine wpQuiet_nil ?_
  intro _ hw'
  obtain ⟨nq, hw''⟩ := hw'
  subst hw''
  go_wp2_with (first | (go_at_call 67; refine (with_67 (eff0 r (pc + 1) 0) a ha (recF 12 (r b) (r c)) _).mono ?_; rintro e w5 ⟨rfl, hc5⟩; have HZ5 := Lib.hid ((HZ4.out.drewN _).keepNo hc5); have HC5 := Lib.hid ((HC4.out.drewN _).then_ hc5); clear hc5) | ((with_reducible refine at_op (o := ⟨none, .store 30 (.tmp 12) (.tmp 130), _, _, _, _⟩) ?_); refine wpList_store_agg (o := ⟨none, .store 30 (.tmp 12) (.tmp 130), _, _, _, _⟩) rfl 30 (.tmp 12) (.tmp 130) rfl (w.heap.size + 1 + 1) rfl 30 (effCells zeroEff) (effCells ((eff0 r (pc + 1) 0).reg a (recF 12 (r b) (r c)))) rfl HZ5.out (sizeE _) (lenE _ _) (eff_one _) ?_; intro w6 hr6 hc6; have HR6 := Lib.hid hr6; have HC6 := Lib.hid hc6; clear hr6 hc6))
  refine bodyPost_ret (v := .agg (effCells ((eff0 r (pc + 1) 0).reg a (recF 12 (r b) (r c)))).toArray) (results_row rfl _ _ (w.heap.size + 1 + 1) 30 _ _ rfl HR6.out Tryd.underlying30 rfl (sizeE _)) rfl ⟨rfl, ?_⟩
  exact ch_newg HC5.out HC6.out (by omega)
set_option maxRecDepth 100000 in
set_option maxHeartbeats 4000000 in
theorem done_13 (A : Option Addr) (len cap : Nat) (hl : len ≤ 9223372036854775807) (M : Option Addr) (xs : List Int) (mcap : Nat) (hm : xs.length ≤ 9223372036854775807) (fixed : Int) (a b c : Nat) (n : Int) (ha : a < 16) (hb : b < 16) (hc : c < 16) (r : Nat → Int) (hin : ∀ i, i < 16 → In64 (r i)) (pc : Int) (hp0 : -9223372036854775808 ≤ pc) (hp1 : pc < 9223372036854775807) (hn0 : -2147483648 ≤ n) (hn1 : n ≤ 2147483647) (w : World) :
    Calls Tryd.prog 30 #[.slice A len cap, .agg (insCells 13 a b c n).toArray, .slice M xs.length mcap, .int .i64 fixed, .agg (regCells r).toArray, .int .i64 pc] w fun e w' => e = .returned (.agg (effCells ((eff0 r (pc + 1) 0).reg a (recF 13 (r b) (r c)))).toArray) ∧ Ch No w w' := by
  have HX : Hid (Row (World.alloc (World.alloc (World.alloc w (.cells (insCells 13 a b c n).toArray 45)) (.cells (regCells r).toArray 24)) (.cells (effCells zeroEff).toArray 30)) w.heap.size 45 (insCells 13 a b c n)) := ((Row.new w 45 (insCells 13 a b c n)).alloc _).alloc _
  have HRR : Hid (Row (World.alloc (World.alloc (World.alloc w (.cells (insCells 13 a b c n).toArray 45)) (.cells (regCells r).toArray 24)) (.cells (effCells zeroEff).toArray 30)) (w.heap.size + 1) 24 (regCells r)) := (Row.new_at _ 24 (regCells r) (by simp)).alloc _
  have HZ : Hid (Row (World.alloc (World.alloc (World.alloc w (.cells (insCells 13 a b c n).toArray 45)) (.cells (regCells r).toArray 24)) (.cells (effCells zeroEff).toArray 30)) (w.heap.size + 1 + 1) 30 (effCells zeroEff)) := Row.new_at _ 30 (effCells zeroEff) (by simp)
  have HC0 : Hid (Ch No w (World.alloc (World.alloc (World.alloc w (.cells (insCells 13 a b c n).toArray 45)) (.cells (regCells r).toArray 24)) (.cells (effCells zeroEff).toArray 30))) := (((Ch.refl No w).alloc _).alloc _).alloc _
  have hnw : IntKind.i64.wrap n = n := by rw [i64_wrap, bv_in ⟨by omega, by omega⟩]
  have ia : (a : Int) < 16 := by omega
  have ib : (b : Int) < 16 := by omega
  have ic : (c : Int) < 16 := by omega
  have HIN := Lib.hid hin
  clear hin
  have HK : Hid (∀ W, Calls Tryd.prog 71 #[.int .u8 13, .int .i64 (r b), .int .i64 (r c)] W fun e w' => e = .returned (.int .i64 (recF 13 (r b) (r c))) ∧ w' = W) := fun W => (reckoned_71 13 (by omega) (r b) (r c) (HIN.out b hb) (HIN.out c hc) W).mono fun _ _ h => ⟨h.1, h.2.symm⟩
  go_enter Tryd.func30, Tryd.ntmps30
  go_upto_region 1 with (fail)
  change Code.wp _ _ _ _ (World.alloc (World.alloc (World.alloc w (.cells (insCells 13 a b c n).toArray 45)) (.cells (regCells r).toArray 24)) (.cells (effCells zeroEff).toArray 30))
  generalize World.alloc (World.alloc (World.alloc w (.cells (insCells 13 a b c n).toArray 45)) (.cells (regCells r).toArray 24)) (.cells (effCells zeroEff).toArray 30) = w1 at *
  have x0 : w1.cell? ⟨w.heap.size, 0, none⟩ = some (.int .u8 13) := HX.out.cell 0
  have x1 : w1.cell? ⟨w.heap.size, 1, none⟩ = some (.int .u8 a) := HX.out.cell 1
  have x2 : w1.cell? ⟨w.heap.size, 2, none⟩ = some (.int .u8 b) := HX.out.cell 2
  have x3 : w1.cell? ⟨w.heap.size, 3, none⟩ = some (.int .u8 c) := HX.out.cell 3
  have x4 : w1.cell? ⟨w.heap.size, 4, none⟩ = some (.int .i32 n) := HX.out.cell 4
  have ya : w1.cell? ⟨w.heap.size + 1, a, none⟩ = some (.int .i64 (r a)) := by rw [HRR.out.cell, regCells_get r a ha]
  have yb : w1.cell? ⟨w.heap.size + 1, b, none⟩ = some (.int .i64 (r b)) := by rw [HRR.out.cell, regCells_get r b hb]
  have yc : w1.cell? ⟨w.heap.size + 1, c, none⟩ = some (.int .i64 (r c)) := by rw [HRR.out.cell, regCells_get r c hc]
  have HN1 : Hid (¬ w.heap.size = w1.heap.size ∧ ¬ w.heap.size + 1 = w1.heap.size ∧ ¬ w.heap.size + 1 + 1 = w1.heap.size ∧ w.heap.size ≤ w1.heap.size) := by
    have := HZ.out.lt
    exact ⟨by omega, by omega, by omega, by omega⟩
  have HNEW : Hid (Row (w1.alloc (.cells (effCells zeroEff).toArray 30)) w1.heap.size 30 (effCells zeroEff)) := Row.new _ 30 (effCells zeroEff)
  clear x0 x1 x2 x3 x4 ya yb yc
  go_upto_region 2 with (first | ((with_reducible refine at_op (o := ⟨some 18, _, _, _, _, _⟩) ?_); refine pl_load (o := ⟨some 18, _, _, _, _, _⟩) rfl 24 _ rfl (w.heap.size + 1) rfl 24 (regCells r) HRR.out _ Tryd.underlying24 rfl (sizeR _) ?_) | ((with_reducible refine at_op (o := ⟨some 21, _, _, _, _, _⟩) ?_); refine pl_build2 (o := ⟨some 21, _, _, _, _, _⟩) rfl (.tmp 18) (.tmp 20) rfl r (pc + 1) rfl rfl ?_) | ((with_reducible refine at_op (o := ⟨none, .store 30 (.tmp 13) (.tmp 21), _, _, _, _⟩) ?_); refine pl_store (o := ⟨none, .store 30 (.tmp 13) (.tmp 21), _, _, _, _⟩) rfl 30 (.tmp 13) (.tmp 21) rfl (w1.heap.size) rfl 30 (effCells zeroEff) (effCells (eff0 r (pc + 1) 0)) rfl HNEW.out (sizeE _) (lenE _ _) (eff_one _) ?_; intro w4 hr4 hc4; have HE4 := Lib.hid hr4; have HX4 := Lib.hid ((HX.out.alloc _).keepIs hc4 HN1.out.1); have HR4 := Lib.hid ((HRR.out.alloc _).keepIs hc4 HN1.out.2.1); have HZ4 := Lib.hid ((HZ.out.alloc _).keepIs hc4 HN1.out.2.2.1); have HC4 := Lib.hid (ch_newg (HC0.out.alloc _) hc4 HN1.out.2.2.2); clear hr4 hc4))
  have hlt4 : w1.heap.size < w4.heap.size := HE4.out.lt
  have x0 : w4.cell? ⟨w.heap.size, 0, none⟩ = some (.int .u8 13) := HX4.out.cell 0
  have x1 : w4.cell? ⟨w.heap.size, 1, none⟩ = some (.int .u8 a) := HX4.out.cell 1
  have x2 : w4.cell? ⟨w.heap.size, 2, none⟩ = some (.int .u8 b) := HX4.out.cell 2
  have x3 : w4.cell? ⟨w.heap.size, 3, none⟩ = some (.int .u8 c) := HX4.out.cell 3
  have x4 : w4.cell? ⟨w.heap.size, 4, none⟩ = some (.int .i32 n) := HX4.out.cell 4
  have ya : w4.cell? ⟨w.heap.size + 1, a, none⟩ = some (.int .i64 (r a)) := by rw [HR4.out.cell, regCells_get r a ha]
  have yb : w4.cell? ⟨w.heap.size + 1, b, none⟩ = some (.int .i64 (r b)) := by rw [HR4.out.cell, regCells_get r b hb]
  have yc : w4.cell? ⟨w.heap.size + 1, c, none⟩ = some (.int .i64 (r c)) := by rw [HR4.out.cell, regCells_get r c hc]
  go_upto_region 33 with (fail)
  refine wp_region_qt 12 (by kernel_rfl) (by kernel_rfl) ?_
  simp only [List.take_succ_cons, List.take_zero, List.drop_succ_cons, List.drop_zero]
  refine wpQuiet_read (by rfl) (.agg (effCells (eff0 r (pc + 1) 0)).toArray) (fun w' hw' => by
    obtain ⟨j, rfl⟩ := hw'
    exact exec_load_agg 30 (.tmp 13) rfl w1.heap.size rfl 30 _ (HE4.out.drewN j) _ Tryd.underlying30 rfl (sizeE _)) ?_
  simp only [Act.put, List.setIfInBounds_toArray, List.set_cons_zero, List.set_cons_succ]
  have hcw : IntKind.i64.wrap (c : Int) = (c : Int) := by rw [i64_wrap, bv_in ⟨by omega, by omega⟩]
  have ic0 : (0 : Int) ≤ (c : Int) := by omega
  repeat (quiet_step (((go_at_call 71; exact Calls.quiet_of_same (HK.out _)))))
  refine wpQuiet_nil ?_
  intro _ hw'
  obtain ⟨nq, hw''⟩ := hw'
  subst hw''
  go_wp2_with (first | (go_at_call 67; refine (with_67 (eff0 r (pc + 1) 0) a ha (recF 13 (r b) (r c)) _).mono ?_; rintro e w5 ⟨rfl, hc5⟩; have HZ5 := Lib.hid ((HZ4.out.drewN _).keepNo hc5); have HC5 := Lib.hid ((HC4.out.drewN _).then_ hc5); clear hc5) | ((with_reducible refine at_op (o := ⟨none, .store 30 (.tmp 12) (.tmp 130), _, _, _, _⟩) ?_); refine wpList_store_agg (o := ⟨none, .store 30 (.tmp 12) (.tmp 130), _, _, _, _⟩) rfl 30 (.tmp 12) (.tmp 130) rfl (w.heap.size + 1 + 1) rfl 30 (effCells zeroEff) (effCells ((eff0 r (pc + 1) 0).reg a (recF 13 (r b) (r c)))) rfl HZ5.out (sizeE _) (lenE _ _) (eff_one _) ?_; intro w6 hr6 hc6; have HR6 := Lib.hid hr6; have HC6 := Lib.hid hc6; clear hr6 hc6))
  refine bodyPost_ret (v := .agg (effCells ((eff0 r (pc + 1) 0).reg a (recF 13 (r b) (r c)))).toArray) (results_row rfl _ _ (w.heap.size + 1 + 1) 30 _ _ rfl HR6.out Tryd.underlying30 rfl (sizeE _)) rfl ⟨rfl, ?_⟩
  exact ch_newg HC5.out HC6.out (by omega)
set_option maxRecDepth 100000 in
set_option maxHeartbeats 4000000 in
theorem done_14 (A : Option Addr) (len cap : Nat) (hl : len ≤ 9223372036854775807) (M : Option Addr) (xs : List Int) (mcap : Nat) (hm : xs.length ≤ 9223372036854775807) (fixed : Int) (a b c : Nat) (n : Int) (ha : a < 16) (hb : b < 16) (hc : c < 16) (r : Nat → Int) (hin : ∀ i, i < 16 → In64 (r i)) (pc : Int) (hp0 : -9223372036854775808 ≤ pc) (hp1 : pc < 9223372036854775807) (hn0 : -2147483648 ≤ n) (hn1 : n ≤ 2147483647) (w : World) :
    Calls Tryd.prog 30 #[.slice A len cap, .agg (insCells 14 a b c n).toArray, .slice M xs.length mcap, .int .i64 fixed, .agg (regCells r).toArray, .int .i64 pc] w fun e w' => e = .returned (.agg (effCells ((eff0 r (pc + 1) 0).reg a (recF 14 (r b) (r c)))).toArray) ∧ Ch No w w' := by
  have HX : Hid (Row (World.alloc (World.alloc (World.alloc w (.cells (insCells 14 a b c n).toArray 45)) (.cells (regCells r).toArray 24)) (.cells (effCells zeroEff).toArray 30)) w.heap.size 45 (insCells 14 a b c n)) := ((Row.new w 45 (insCells 14 a b c n)).alloc _).alloc _
  have HRR : Hid (Row (World.alloc (World.alloc (World.alloc w (.cells (insCells 14 a b c n).toArray 45)) (.cells (regCells r).toArray 24)) (.cells (effCells zeroEff).toArray 30)) (w.heap.size + 1) 24 (regCells r)) := (Row.new_at _ 24 (regCells r) (by simp)).alloc _
  have HZ : Hid (Row (World.alloc (World.alloc (World.alloc w (.cells (insCells 14 a b c n).toArray 45)) (.cells (regCells r).toArray 24)) (.cells (effCells zeroEff).toArray 30)) (w.heap.size + 1 + 1) 30 (effCells zeroEff)) := Row.new_at _ 30 (effCells zeroEff) (by simp)
  have HC0 : Hid (Ch No w (World.alloc (World.alloc (World.alloc w (.cells (insCells 14 a b c n).toArray 45)) (.cells (regCells r).toArray 24)) (.cells (effCells zeroEff).toArray 30))) := (((Ch.refl No w).alloc _).alloc _).alloc _
  have hnw : IntKind.i64.wrap n = n := by rw [i64_wrap, bv_in ⟨by omega, by omega⟩]
  have ia : (a : Int) < 16 := by omega
  have ib : (b : Int) < 16 := by omega
  have ic : (c : Int) < 16 := by omega
  have HIN := Lib.hid hin
  clear hin
  have HK : Hid (∀ W, Calls Tryd.prog 71 #[.int .u8 14, .int .i64 (r b), .int .i64 (r c)] W fun e w' => e = .returned (.int .i64 (recF 14 (r b) (r c))) ∧ w' = W) := fun W => (reckoned_71 14 (by omega) (r b) (r c) (HIN.out b hb) (HIN.out c hc) W).mono fun _ _ h => ⟨h.1, h.2.symm⟩
  go_enter Tryd.func30, Tryd.ntmps30
  go_upto_region 1 with (fail)
  change Code.wp _ _ _ _ (World.alloc (World.alloc (World.alloc w (.cells (insCells 14 a b c n).toArray 45)) (.cells (regCells r).toArray 24)) (.cells (effCells zeroEff).toArray 30))
  generalize World.alloc (World.alloc (World.alloc w (.cells (insCells 14 a b c n).toArray 45)) (.cells (regCells r).toArray 24)) (.cells (effCells zeroEff).toArray 30) = w1 at *
  have x0 : w1.cell? ⟨w.heap.size, 0, none⟩ = some (.int .u8 14) := HX.out.cell 0
  have x1 : w1.cell? ⟨w.heap.size, 1, none⟩ = some (.int .u8 a) := HX.out.cell 1
  have x2 : w1.cell? ⟨w.heap.size, 2, none⟩ = some (.int .u8 b) := HX.out.cell 2
  have x3 : w1.cell? ⟨w.heap.size, 3, none⟩ = some (.int .u8 c) := HX.out.cell 3
  have x4 : w1.cell? ⟨w.heap.size, 4, none⟩ = some (.int .i32 n) := HX.out.cell 4
  have ya : w1.cell? ⟨w.heap.size + 1, a, none⟩ = some (.int .i64 (r a)) := by rw [HRR.out.cell, regCells_get r a ha]
  have yb : w1.cell? ⟨w.heap.size + 1, b, none⟩ = some (.int .i64 (r b)) := by rw [HRR.out.cell, regCells_get r b hb]
  have yc : w1.cell? ⟨w.heap.size + 1, c, none⟩ = some (.int .i64 (r c)) := by rw [HRR.out.cell, regCells_get r c hc]
  have HN1 : Hid (¬ w.heap.size = w1.heap.size ∧ ¬ w.heap.size + 1 = w1.heap.size ∧ ¬ w.heap.size + 1 + 1 = w1.heap.size ∧ w.heap.size ≤ w1.heap.size) := by
    have := HZ.out.lt
    exact ⟨by omega, by omega, by omega, by omega⟩
  have HNEW : Hid (Row (w1.alloc (.cells (effCells zeroEff).toArray 30)) w1.heap.size 30 (effCells zeroEff)) := Row.new _ 30 (effCells zeroEff)
  clear x0 x1 x2 x3 x4 ya yb yc
  go_upto_region 2 with (first | ((with_reducible refine at_op (o := ⟨some 18, _, _, _, _, _⟩) ?_); refine pl_load (o := ⟨some 18, _, _, _, _, _⟩) rfl 24 _ rfl (w.heap.size + 1) rfl 24 (regCells r) HRR.out _ Tryd.underlying24 rfl (sizeR _) ?_) | ((with_reducible refine at_op (o := ⟨some 21, _, _, _, _, _⟩) ?_); refine pl_build2 (o := ⟨some 21, _, _, _, _, _⟩) rfl (.tmp 18) (.tmp 20) rfl r (pc + 1) rfl rfl ?_) | ((with_reducible refine at_op (o := ⟨none, .store 30 (.tmp 13) (.tmp 21), _, _, _, _⟩) ?_); refine pl_store (o := ⟨none, .store 30 (.tmp 13) (.tmp 21), _, _, _, _⟩) rfl 30 (.tmp 13) (.tmp 21) rfl (w1.heap.size) rfl 30 (effCells zeroEff) (effCells (eff0 r (pc + 1) 0)) rfl HNEW.out (sizeE _) (lenE _ _) (eff_one _) ?_; intro w4 hr4 hc4; have HE4 := Lib.hid hr4; have HX4 := Lib.hid ((HX.out.alloc _).keepIs hc4 HN1.out.1); have HR4 := Lib.hid ((HRR.out.alloc _).keepIs hc4 HN1.out.2.1); have HZ4 := Lib.hid ((HZ.out.alloc _).keepIs hc4 HN1.out.2.2.1); have HC4 := Lib.hid (ch_newg (HC0.out.alloc _) hc4 HN1.out.2.2.2); clear hr4 hc4))
  have hlt4 : w1.heap.size < w4.heap.size := HE4.out.lt
  have x0 : w4.cell? ⟨w.heap.size, 0, none⟩ = some (.int .u8 14) := HX4.out.cell 0
  have x1 : w4.cell? ⟨w.heap.size, 1, none⟩ = some (.int .u8 a) := HX4.out.cell 1
  have x2 : w4.cell? ⟨w.heap.size, 2, none⟩ = some (.int .u8 b) := HX4.out.cell 2
  have x3 : w4.cell? ⟨w.heap.size, 3, none⟩ = some (.int .u8 c) := HX4.out.cell 3
  have x4 : w4.cell? ⟨w.heap.size, 4, none⟩ = some (.int .i32 n) := HX4.out.cell 4
  have ya : w4.cell? ⟨w.heap.size + 1, a, none⟩ = some (.int .i64 (r a)) := by rw [HR4.out.cell, regCells_get r a ha]
  have yb : w4.cell? ⟨w.heap.size + 1, b, none⟩ = some (.int .i64 (r b)) := by rw [HR4.out.cell, regCells_get r b hb]
  have yc : w4.cell? ⟨w.heap.size + 1, c, none⟩ = some (.int .i64 (r c)) := by rw [HR4.out.cell, regCells_get r c hc]
  go_upto_region 33 with (fail)
  refine wp_region_qt 12 (by kernel_rfl) (by kernel_rfl) ?_
  simp only [List.take_succ_cons, List.take_zero, List.drop_succ_cons, List.drop_zero]
  refine wpQuiet_read (by rfl) (.agg (effCells (eff0 r (pc + 1) 0)).toArray) (fun w' hw' => by
    obtain ⟨j, rfl⟩ := hw'
    exact exec_load_agg 30 (.tmp 13) rfl w1.heap.size rfl 30 _ (HE4.out.drewN j) _ Tryd.underlying30 rfl (sizeE _)) ?_
  simp only [Act.put, List.setIfInBounds_toArray, List.set_cons_zero, List.set_cons_succ]
  have hcw : IntKind.i64.wrap (c : Int) = (c : Int) := by rw [i64_wrap, bv_in ⟨by omega, by omega⟩]
  have ic0 : (0 : Int) ≤ (c : Int) := by omega
  repeat (quiet_step (((go_at_call 71; exact Calls.quiet_of_same (HK.out _)))))
  refine wpQuiet_nil ?_
  intro _ hw'
  obtain ⟨nq, hw''⟩ := hw'
  subst hw''
  go_wp2_with (first | (go_at_call 67; refine (with_67 (eff0 r (pc + 1) 0) a ha (recF 14 (r b) (r c)) _).mono ?_; rintro e w5 ⟨rfl, hc5⟩; have HZ5 := Lib.hid ((HZ4.out.drewN _).keepNo hc5); have HC5 := Lib.hid ((HC4.out.drewN _).then_ hc5); clear hc5) | ((with_reducible refine at_op (o := ⟨none, .store 30 (.tmp 12) (.tmp 130), _, _, _, _⟩) ?_); refine wpList_store_agg (o := ⟨none, .store 30 (.tmp 12) (.tmp 130), _, _, _, _⟩) rfl 30 (.tmp 12) (.tmp 130) rfl (w.heap.size + 1 + 1) rfl 30 (effCells zeroEff) (effCells ((eff0 r (pc + 1) 0).reg a (recF 14 (r b) (r c)))) rfl HZ5.out (sizeE _) (lenE _ _) (eff_one _) ?_; intro w6 hr6 hc6; have HR6 := Lib.hid hr6; have HC6 := Lib.hid hc6; clear hr6 hc6))
  refine bodyPost_ret (v := .agg (effCells ((eff0 r (pc + 1) 0).reg a (recF 14 (r b) (r c)))).toArray) (results_row rfl _ _ (w.heap.size + 1 + 1) 30 _ _ rfl HR6.out Tryd.underlying30 rfl (sizeE _)) rfl ⟨rfl, ?_⟩
  exact ch_newg HC5.out HC6.out (by omega)
set_option maxRecDepth 100000 in
set_option maxHeartbeats 4000000 in
theorem done_15 (A : Option Addr) (len cap : Nat) (hl : len ≤ 9223372036854775807) (M : Option Addr) (xs : List Int) (mcap : Nat) (hm : xs.length ≤ 9223372036854775807) (fixed : Int) (a b c : Nat) (n : Int) (ha : a < 16) (hb : b < 16) (hc : c < 16) (r : Nat → Int) (hin : ∀ i, i < 16 → In64 (r i)) (pc : Int) (hp0 : -9223372036854775808 ≤ pc) (hp1 : pc < 9223372036854775807) (hn0 : -2147483648 ≤ n) (hn1 : n ≤ 2147483647) (w : World) :
    Calls Tryd.prog 30 #[.slice A len cap, .agg (insCells 15 a b c n).toArray, .slice M xs.length mcap, .int .i64 fixed, .agg (regCells r).toArray, .int .i64 pc] w fun e w' => e = .returned (.agg (effCells ((eff0 r (pc + 1) 0).reg a (recF 15 (r b) (r c)))).toArray) ∧ Ch No w w' := by
  have HX : Hid (Row (World.alloc (World.alloc (World.alloc w (.cells (insCells 15 a b c n).toArray 45)) (.cells (regCells r).toArray 24)) (.cells (effCells zeroEff).toArray 30)) w.heap.size 45 (insCells 15 a b c n)) := ((Row.new w 45 (insCells 15 a b c n)).alloc _).alloc _
  have HRR : Hid (Row (World.alloc (World.alloc (World.alloc w (.cells (insCells 15 a b c n).toArray 45)) (.cells (regCells r).toArray 24)) (.cells (effCells zeroEff).toArray 30)) (w.heap.size + 1) 24 (regCells r)) := (Row.new_at _ 24 (regCells r) (by simp)).alloc _
  have HZ : Hid (Row (World.alloc (World.alloc (World.alloc w (.cells (insCells 15 a b c n).toArray 45)) (.cells (regCells r).toArray 24)) (.cells (effCells zeroEff).toArray 30)) (w.heap.size + 1 + 1) 30 (effCells zeroEff)) := Row.new_at _ 30 (effCells zeroEff) (by simp)
  have HC0 : Hid (Ch No w (World.alloc (World.alloc (World.alloc w (.cells (insCells 15 a b c n).toArray 45)) (.cells (regCells r).toArray 24)) (.cells (effCells zeroEff).toArray 30))) := (((Ch.refl No w).alloc _).alloc _).alloc _
  have hnw : IntKind.i64.wrap n = n := by rw [i64_wrap, bv_in ⟨by omega, by omega⟩]
  have ia : (a : Int) < 16 := by omega
  have ib : (b : Int) < 16 := by omega
  have ic : (c : Int) < 16 := by omega
  have HIN := Lib.hid hin
  clear hin
  have HK : Hid (∀ W, Calls Tryd.prog 71 #[.int .u8 15, .int .i64 (r b), .int .i64 (r c)] W fun e w' => e = .returned (.int .i64 (recF 15 (r b) (r c))) ∧ w' = W) := fun W => (reckoned_71 15 (by omega) (r b) (r c) (HIN.out b hb) (HIN.out c hc) W).mono fun _ _ h => ⟨h.1, h.2.symm⟩
  go_enter Tryd.func30, Tryd.ntmps30
  go_upto_region 1 with (fail)
  change Code.wp _ _ _ _ (World.alloc (World.alloc (World.alloc w (.cells (insCells 15 a b c n).toArray 45)) (.cells (regCells r).toArray 24)) (.cells (effCells zeroEff).toArray 30))
  generalize World.alloc (World.alloc (World.alloc w (.cells (insCells 15 a b c n).toArray 45)) (.cells (regCells r).toArray 24)) (.cells (effCells zeroEff).toArray 30) = w1 at *
  have x0 : w1.cell? ⟨w.heap.size, 0, none⟩ = some (.int .u8 15) := HX.out.cell 0
  have x1 : w1.cell? ⟨w.heap.size, 1, none⟩ = some (.int .u8 a) := HX.out.cell 1
  have x2 : w1.cell? ⟨w.heap.size, 2, none⟩ = some (.int .u8 b) := HX.out.cell 2
  have x3 : w1.cell? ⟨w.heap.size, 3, none⟩ = some (.int .u8 c) := HX.out.cell 3
  have x4 : w1.cell? ⟨w.heap.size, 4, none⟩ = some (.int .i32 n) := HX.out.cell 4
  have ya : w1.cell? ⟨w.heap.size + 1, a, none⟩ = some (.int .i64 (r a)) := by rw [HRR.out.cell, regCells_get r a ha]
  have yb : w1.cell? ⟨w.heap.size + 1, b, none⟩ = some (.int .i64 (r b)) := by rw [HRR.out.cell, regCells_get r b hb]
  have yc : w1.cell? ⟨w.heap.size + 1, c, none⟩ = some (.int .i64 (r c)) := by rw [HRR.out.cell, regCells_get r c hc]
  have HN1 : Hid (¬ w.heap.size = w1.heap.size ∧ ¬ w.heap.size + 1 = w1.heap.size ∧ ¬ w.heap.size + 1 + 1 = w1.heap.size ∧ w.heap.size ≤ w1.heap.size) := by
    have := HZ.out.lt
    exact ⟨by omega, by omega, by omega, by omega⟩
  have HNEW : Hid (Row (w1.alloc (.cells (effCells zeroEff).toArray 30)) w1.heap.size 30 (effCells zeroEff)) := Row.new _ 30 (effCells zeroEff)
  clear x0 x1 x2 x3 x4 ya yb yc
  go_upto_region 2 with (first | ((with_reducible refine at_op (o := ⟨some 18, _, _, _, _, _⟩) ?_); refine pl_load (o := ⟨some 18, _, _, _, _, _⟩) rfl 24 _ rfl (w.heap.size + 1) rfl 24 (regCells r) HRR.out _ Tryd.underlying24 rfl (sizeR _) ?_) | ((with_reducible refine at_op (o := ⟨some 21, _, _, _, _, _⟩) ?_); refine pl_build2 (o := ⟨some 21, _, _, _, _, _⟩) rfl (.tmp 18) (.tmp 20) rfl r (pc + 1) rfl rfl ?_) | ((with_reducible refine at_op (o := ⟨none, .store 30 (.tmp 13) (.tmp 21), _, _, _, _⟩) ?_); refine pl_store (o := ⟨none, .store 30 (.tmp 13) (.tmp 21), _, _, _, _⟩) rfl 30 (.tmp 13) (.tmp 21) rfl (w1.heap.size) rfl 30 (effCells zeroEff) (effCells (eff0 r (pc + 1) 0)) rfl HNEW.out (sizeE _) (lenE _ _) (eff_one _) ?_; intro w4 hr4 hc4; have HE4 := Lib.hid hr4; have HX4 := Lib.hid ((HX.out.alloc _).keepIs hc4 HN1.out.1); have HR4 := Lib.hid ((HRR.out.alloc _).keepIs hc4 HN1.out.2.1); have HZ4 := Lib.hid ((HZ.out.alloc _).keepIs hc4 HN1.out.2.2.1); have HC4 := Lib.hid (ch_newg (HC0.out.alloc _) hc4 HN1.out.2.2.2); clear hr4 hc4))
  have hlt4 : w1.heap.size < w4.heap.size := HE4.out.lt
  have x0 : w4.cell? ⟨w.heap.size, 0, none⟩ = some (.int .u8 15) := HX4.out.cell 0
  have x1 : w4.cell? ⟨w.heap.size, 1, none⟩ = some (.int .u8 a) := HX4.out.cell 1
  have x2 : w4.cell? ⟨w.heap.size, 2, none⟩ = some (.int .u8 b) := HX4.out.cell 2
  have x3 : w4.cell? ⟨w.heap.size, 3, none⟩ = some (.int .u8 c) := HX4.out.cell 3
  have x4 : w4.cell? ⟨w.heap.size, 4, none⟩ = some (.int .i32 n) := HX4.out.cell 4
  have ya : w4.cell? ⟨w.heap.size + 1, a, none⟩ = some (.int .i64 (r a)) := by rw [HR4.out.cell, regCells_get r a ha]
  have yb : w4.cell? ⟨w.heap.size + 1, b, none⟩ = some (.int .i64 (r b)) := by rw [HR4.out.cell, regCells_get r b hb]
  have yc : w4.cell? ⟨w.heap.size + 1, c, none⟩ = some (.int .i64 (r c)) := by rw [HR4.out.cell, regCells_get r c hc]
  go_upto_region 33 with (fail)
  refine wp_region_qt 12 (by kernel_rfl) (by kernel_rfl) ?_
  simp only [List.take_succ_cons, List.take_zero, List.drop_succ_cons, List.drop_zero]
  refine wpQuiet_read (by rfl) (.agg (effCells (eff0 r (pc + 1) 0)).toArray) (fun w' hw' => by
    obtain ⟨j, rfl⟩ := hw'
    exact exec_load_agg 30 (.tmp 13) rfl w1.heap.size rfl 30 _ (HE4.out.drewN j) _ Tryd.underlying30 rfl (sizeE _)) ?_
  simp only [Act.put, List.setIfInBounds_toArray, List.set_cons_zero, List.set_cons_succ]
  have hcw : IntKind.i64.wrap (c : Int) = (c : Int) := by rw [i64_wrap, bv_in ⟨by omega, by omega⟩]
  have ic0 : (0 : Int) ≤ (c : Int) := by omega
  repeat (quiet_step (((go_at_call 71; exact Calls.quiet_of_same (HK.out _)))))
  refine wpQuiet_nil ?_
  intro _ hw'
  obtain ⟨nq, hw''⟩ := hw'
  subst hw''
  go_wp2_with (first | (go_at_call 67; refine (with_67 (eff0 r (pc + 1) 0) a ha (recF 15 (r b) (r c)) _).mono ?_; rintro e w5 ⟨rfl, hc5⟩; have HZ5 := Lib.hid ((HZ4.out.drewN _).keepNo hc5); have HC5 := Lib.hid ((HC4.out.drewN _).then_ hc5); clear hc5) | ((with_reducible refine at_op (o := ⟨none, .store 30 (.tmp 12) (.tmp 130), _, _, _, _⟩) ?_); refine wpList_store_agg (o := ⟨none, .store 30 (.tmp 12) (.tmp 130), _, _, _, _⟩) rfl 30 (.tmp 12) (.tmp 130) rfl (w.heap.size + 1 + 1) rfl 30 (effCells zeroEff) (effCells ((eff0 r (pc + 1) 0).reg a (recF 15 (r b) (r c)))) rfl HZ5.out (sizeE _) (lenE _ _) (eff_one _) ?_; intro w6 hr6 hc6; have HR6 := Lib.hid hr6; have HC6 := Lib.hid hc6; clear hr6 hc6))
  refine bodyPost_ret (v := .agg (effCells ((eff0 r (pc + 1) 0).reg a (recF 15 (r b) (r c)))).toArray) (results_row rfl _ _ (w.heap.size + 1 + 1) 30 _ _ rfl HR6.out Tryd.underlying30 rfl (sizeE _)) rfl ⟨rfl, ?_⟩
  exact ch_newg HC5.out HC6.out (by omega)
set_option maxRecDepth 100000 in
set_option maxHeartbeats 4000000 in
theorem done_16 (A : Option Addr) (len cap : Nat) (hl : len ≤ 9223372036854775807) (M : Option Addr) (xs : List Int) (mcap : Nat) (hm : xs.length ≤ 9223372036854775807) (fixed : Int) (a b c : Nat) (n : Int) (ha : a < 16) (hb : b < 16) (hc : c < 16) (r : Nat → Int) (hin : ∀ i, i < 16 → In64 (r i)) (pc : Int) (hp0 : -9223372036854775808 ≤ pc) (hp1 : pc < 9223372036854775807) (hn0 : -2147483648 ≤ n) (hn1 : n ≤ 2147483647) (w : World) :
    Calls Tryd.prog 30 #[.slice A len cap, .agg (insCells 16 a b c n).toArray, .slice M xs.length mcap, .int .i64 fixed, .agg (regCells r).toArray, .int .i64 pc] w fun e w' => e = .returned (.agg (effCells ((eff0 r (pc + 1) 0).reg a (recF 16 (r b) (r c)))).toArray) ∧ Ch No w w' := by
  have HX : Hid (Row (World.alloc (World.alloc (World.alloc w (.cells (insCells 16 a b c n).toArray 45)) (.cells (regCells r).toArray 24)) (.cells (effCells zeroEff).toArray 30)) w.heap.size 45 (insCells 16 a b c n)) := ((Row.new w 45 (insCells 16 a b c n)).alloc _).alloc _
  have HRR : Hid (Row (World.alloc (World.alloc (World.alloc w (.cells (insCells 16 a b c n).toArray 45)) (.cells (regCells r).toArray 24)) (.cells (effCells zeroEff).toArray 30)) (w.heap.size + 1) 24 (regCells r)) := (Row.new_at _ 24 (regCells r) (by simp)).alloc _
  have HZ : Hid (Row (World.alloc (World.alloc (World.alloc w (.cells (insCells 16 a b c n).toArray 45)) (.cells (regCells r).toArray 24)) (.cells (effCells zeroEff).toArray 30)) (w.heap.size + 1 + 1) 30 (effCells zeroEff)) := Row.new_at _ 30 (effCells zeroEff) (by simp)
  have HC0 : Hid (Ch No w (World.alloc (World.alloc (World.alloc w (.cells (insCells 16 a b c n).toArray 45)) (.cells (regCells r).toArray 24)) (.cells (effCells zeroEff).toArray 30))) := (((Ch.refl No w).alloc _).alloc _).alloc _
  have hnw : IntKind.i64.wrap n = n := by rw [i64_wrap, bv_in ⟨by omega, by omega⟩]
  have ia : (a : Int) < 16 := by omega
  have ib : (b : Int) < 16 := by omega
  have ic : (c : Int) < 16 := by omega
  have HIN := Lib.hid hin
  clear hin
  have HK : Hid (∀ W, Calls Tryd.prog 71 #[.int .u8 16, .int .i64 (r b), .int .i64 (r c)] W fun e w' => e = .returned (.int .i64 (recF 16 (r b) (r c))) ∧ w' = W) := fun W => (reckoned_71 16 (by omega) (r b) (r c) (HIN.out b hb) (HIN.out c hc) W).mono fun _ _ h => ⟨h.1, h.2.symm⟩
  go_enter Tryd.func30, Tryd.ntmps30
  go_upto_region 1 with (fail)
  change Code.wp _ _ _ _ (World.alloc (World.alloc (World.alloc w (.cells (insCells 16 a b c n).toArray 45)) (.cells (regCells r).toArray 24)) (.cells (effCells zeroEff).toArray 30))
  generalize World.alloc (World.alloc (World.alloc w (.cells (insCells 16 a b c n).toArray 45)) (.cells (regCells r).toArray 24)) (.cells (effCells zeroEff).toArray 30) = w1 at *
  have x0 : w1.cell? ⟨w.heap.size, 0, none⟩ = some (.int .u8 16) := HX.out.cell 0
  have x1 : w1.cell? ⟨w.heap.size, 1, none⟩ = some (.int .u8 a) := HX.out.cell 1
  have x2 : w1.cell? ⟨w.heap.size, 2, none⟩ = some (.int .u8 b) := HX.out.cell 2
  have x3 : w1.cell? ⟨w.heap.size, 3, none⟩ = some (.int .u8 c) := HX.out.cell 3
  have x4 : w1.cell? ⟨w.heap.size, 4, none⟩ = some (.int .i32 n) := HX.out.cell 4
  have ya : w1.cell? ⟨w.heap.size + 1, a, none⟩ = some (.int .i64 (r a)) := by rw [HRR.out.cell, regCells_get r a ha]
  have yb : w1.cell? ⟨w.heap.size + 1, b, none⟩ = some (.int .i64 (r b)) := by rw [HRR.out.cell, regCells_get r b hb]
  have yc : w1.cell? ⟨w.heap.size + 1, c, none⟩ = some (.int .i64 (r c)) := by rw [HRR.out.cell, regCells_get r c hc]
  have HN1 : Hid (¬ w.heap.size = w1.heap.size ∧ ¬ w.heap.size + 1 = w1.heap.size ∧ ¬ w.heap.size + 1 + 1 = w1.heap.size ∧ w.heap.size ≤ w1.heap.size) := by
    have := HZ.out.lt
    exact ⟨by omega, by omega, by omega, by omega⟩
  have HNEW : Hid (Row (w1.alloc (.cells (effCells zeroEff).toArray 30)) w1.heap.size 30 (effCells zeroEff)) := Row.new _ 30 (effCells zeroEff)
  clear x0 x1 x2 x3 x4 ya yb yc
  go_upto_region 2 with (first | ((with_reducible refine at_op (o := ⟨some 18, _, _, _, _, _⟩) ?_); refine pl_load (o := ⟨some 18, _, _, _, _, _⟩) rfl 24 _ rfl (w.heap.size + 1) rfl 24 (regCells r) HRR.out _ Tryd.underlying24 rfl (sizeR _) ?_) | ((with_reducible refine at_op (o := ⟨some 21, _, _, _, _, _⟩) ?_); refine pl_build2 (o := ⟨some 21, _, _, _, _, _⟩) rfl (.tmp 18) (.tmp 20) rfl r (pc + 1) rfl rfl ?_) | ((with_reducible refine at_op (o := ⟨none, .store 30 (.tmp 13) (.tmp 21), _, _, _, _⟩) ?_); refine pl_store (o := ⟨none, .store 30 (.tmp 13) (.tmp 21), _, _, _, _⟩) rfl 30 (.tmp 13) (.tmp 21) rfl (w1.heap.size) rfl 30 (effCells zeroEff) (effCells (eff0 r (pc + 1) 0)) rfl HNEW.out (sizeE _) (lenE _ _) (eff_one _) ?_; intro w4 hr4 hc4; have HE4 := Lib.hid hr4; have HX4 := Lib.hid ((HX.out.alloc _).keepIs hc4 HN1.out.1); have HR4 := Lib.hid ((HRR.out.alloc _).keepIs hc4 HN1.out.2.1); have HZ4 := Lib.hid ((HZ.out.alloc _).keepIs hc4 HN1.out.2.2.1); have HC4 := Lib.hid (ch_newg (HC0.out.alloc _) hc4 HN1.out.2.2.2); clear hr4 hc4))
  have hlt4 : w1.heap.size < w4.heap.size := HE4.out.lt
  have x0 : w4.cell? ⟨w.heap.size, 0, none⟩ = some (.int .u8 16) := HX4.out.cell 0
  have x1 : w4.cell? ⟨w.heap.size, 1, none⟩ = some (.int .u8 a) := HX4.out.cell 1
  have x2 : w4.cell? ⟨w.heap.size, 2, none⟩ = some (.int .u8 b) := HX4.out.cell 2
  have x3 : w4.cell? ⟨w.heap.size, 3, none⟩ = some (.int .u8 c) := HX4.out.cell 3
  have x4 : w4.cell? ⟨w.heap.size, 4, none⟩ = some (.int .i32 n) := HX4.out.cell 4
  have ya : w4.cell? ⟨w.heap.size + 1, a, none⟩ = some (.int .i64 (r a)) := by rw [HR4.out.cell, regCells_get r a ha]
  have yb : w4.cell? ⟨w.heap.size + 1, b, none⟩ = some (.int .i64 (r b)) := by rw [HR4.out.cell, regCells_get r b hb]
  have yc : w4.cell? ⟨w.heap.size + 1, c, none⟩ = some (.int .i64 (r c)) := by rw [HR4.out.cell, regCells_get r c hc]
  go_upto_region 33 with (fail)
  refine wp_region_qt 12 (by kernel_rfl) (by kernel_rfl) ?_
  simp only [List.take_succ_cons, List.take_zero, List.drop_succ_cons, List.drop_zero]
  refine wpQuiet_read (by rfl) (.agg (effCells (eff0 r (pc + 1) 0)).toArray) (fun w' hw' => by
    obtain ⟨j, rfl⟩ := hw'
    exact exec_load_agg 30 (.tmp 13) rfl w1.heap.size rfl 30 _ (HE4.out.drewN j) _ Tryd.underlying30 rfl (sizeE _)) ?_
  simp only [Act.put, List.setIfInBounds_toArray, List.set_cons_zero, List.set_cons_succ]
  have hcw : IntKind.i64.wrap (c : Int) = (c : Int) := by rw [i64_wrap, bv_in ⟨by omega, by omega⟩]
  have ic0 : (0 : Int) ≤ (c : Int) := by omega
  repeat (quiet_step (((go_at_call 71; exact Calls.quiet_of_same (HK.out _)))))
  refine wpQuiet_nil ?_
  intro _ hw'
  obtain ⟨nq, hw''⟩ := hw'
  subst hw''
  go_wp2_with (first | (go_at_call 67; refine (with_67 (eff0 r (pc + 1) 0) a ha (recF 16 (r b) (r c)) _).mono ?_; rintro e w5 ⟨rfl, hc5⟩; have HZ5 := Lib.hid ((HZ4.out.drewN _).keepNo hc5); have HC5 := Lib.hid ((HC4.out.drewN _).then_ hc5); clear hc5) | ((with_reducible refine at_op (o := ⟨none, .store 30 (.tmp 12) (.tmp 130), _, _, _, _⟩) ?_); refine wpList_store_agg (o := ⟨none, .store 30 (.tmp 12) (.tmp 130), _, _, _, _⟩) rfl 30 (.tmp 12) (.tmp 130) rfl (w.heap.size + 1 + 1) rfl 30 (effCells zeroEff) (effCells ((eff0 r (pc + 1) 0).reg a (recF 16 (r b) (r c)))) rfl HZ5.out (sizeE _) (lenE _ _) (eff_one _) ?_; intro w6 hr6 hc6; have HR6 := Lib.hid hr6; have HC6 := Lib.hid hc6; clear hr6 hc6))
  refine bodyPost_ret (v := .agg (effCells ((eff0 r (pc + 1) 0).reg a (recF 16 (r b) (r c)))).toArray) (results_row rfl _ _ (w.heap.size + 1 + 1) 30 _ _ rfl HR6.out Tryd.underlying30 rfl (sizeE _)) rfl ⟨rfl, ?_⟩
  exact ch_newg HC5.out HC6.out (by omega)
set_option maxRecDepth 100000 in
set_option maxHeartbeats 4000000 in
theorem done_17 (A : Option Addr) (len cap : Nat) (hl : len ≤ 9223372036854775807) (M : Option Addr) (xs : List Int) (mcap : Nat) (hm : xs.length ≤ 9223372036854775807) (fixed : Int) (a b c : Nat) (n : Int) (ha : a < 16) (hb : b < 16) (hc : c < 16) (r : Nat → Int) (hin : ∀ i, i < 16 → In64 (r i)) (pc : Int) (hp0 : -9223372036854775808 ≤ pc) (hp1 : pc < 9223372036854775807) (hn0 : -2147483648 ≤ n) (hn1 : n ≤ 2147483647) (w : World) :
    Calls Tryd.prog 30 #[.slice A len cap, .agg (insCells 17 a b c n).toArray, .slice M xs.length mcap, .int .i64 fixed, .agg (regCells r).toArray, .int .i64 pc] w fun e w' => e = .returned (.agg (effCells ((eff0 r (pc + 1) 0).reg a (recF 17 (r b) (r c)))).toArray) ∧ Ch No w w' := by
  have HX : Hid (Row (World.alloc (World.alloc (World.alloc w (.cells (insCells 17 a b c n).toArray 45)) (.cells (regCells r).toArray 24)) (.cells (effCells zeroEff).toArray 30)) w.heap.size 45 (insCells 17 a b c n)) := ((Row.new w 45 (insCells 17 a b c n)).alloc _).alloc _
  have HRR : Hid (Row (World.alloc (World.alloc (World.alloc w (.cells (insCells 17 a b c n).toArray 45)) (.cells (regCells r).toArray 24)) (.cells (effCells zeroEff).toArray 30)) (w.heap.size + 1) 24 (regCells r)) := (Row.new_at _ 24 (regCells r) (by simp)).alloc _
  have HZ : Hid (Row (World.alloc (World.alloc (World.alloc w (.cells (insCells 17 a b c n).toArray 45)) (.cells (regCells r).toArray 24)) (.cells (effCells zeroEff).toArray 30)) (w.heap.size + 1 + 1) 30 (effCells zeroEff)) := Row.new_at _ 30 (effCells zeroEff) (by simp)
  have HC0 : Hid (Ch No w (World.alloc (World.alloc (World.alloc w (.cells (insCells 17 a b c n).toArray 45)) (.cells (regCells r).toArray 24)) (.cells (effCells zeroEff).toArray 30))) := (((Ch.refl No w).alloc _).alloc _).alloc _
  have hnw : IntKind.i64.wrap n = n := by rw [i64_wrap, bv_in ⟨by omega, by omega⟩]
  have ia : (a : Int) < 16 := by omega
  have ib : (b : Int) < 16 := by omega
  have ic : (c : Int) < 16 := by omega
  have HIN := Lib.hid hin
  clear hin
  have HK : Hid (∀ W, Calls Tryd.prog 71 #[.int .u8 17, .int .i64 (r b), .int .i64 (r c)] W fun e w' => e = .returned (.int .i64 (recF 17 (r b) (r c))) ∧ w' = W) := fun W => (reckoned_71 17 (by omega) (r b) (r c) (HIN.out b hb) (HIN.out c hc) W).mono fun _ _ h => ⟨h.1, h.2.symm⟩
  go_enter Tryd.func30, Tryd.ntmps30
  go_upto_region 1 with (fail)
  change Code.wp _ _ _ _ (World.alloc (World.alloc (World.alloc w (.cells (insCells 17 a b c n).toArray 45)) (.cells (regCells r).toArray 24)) (.cells (effCells zeroEff).toArray 30))
  generalize World.alloc (World.alloc (World.alloc w (.cells (insCells 17 a b c n).toArray 45)) (.cells (regCells r).toArray 24)) (.cells (effCells zeroEff).toArray 30) = w1 at *
  have x0 : w1.cell? ⟨w.heap.size, 0, none⟩ = some (.int .u8 17) := HX.out.cell 0
  have x1 : w1.cell? ⟨w.heap.size, 1, none⟩ = some (.int .u8 a) := HX.out.cell 1
  have x2 : w1.cell? ⟨w.heap.size, 2, none⟩ = some (.int .u8 b) := HX.out.cell 2
  have x3 : w1.cell? ⟨w.heap.size, 3, none⟩ = some (.int .u8 c) := HX.out.cell 3
  have x4 : w1.cell? ⟨w.heap.size, 4, none⟩ = some (.int .i32 n) := HX.out.cell 4
  have ya : w1.cell? ⟨w.heap.size + 1, a, none⟩ = some (.int .i64 (r a)) := by rw [HRR.out.cell, regCells_get r a ha]
  have yb : w1.cell? ⟨w.heap.size + 1, b, none⟩ = some (.int .i64 (r b)) := by rw [HRR.out.cell, regCells_get r b hb]
  have yc : w1.cell? ⟨w.heap.size + 1, c, none⟩ = some (.int .i64 (r c)) := by rw [HRR.out.cell, regCells_get r c hc]
  have HN1 : Hid (¬ w.heap.size = w1.heap.size ∧ ¬ w.heap.size + 1 = w1.heap.size ∧ ¬ w.heap.size + 1 + 1 = w1.heap.size ∧ w.heap.size ≤ w1.heap.size) := by
    have := HZ.out.lt
    exact ⟨by omega, by omega, by omega, by omega⟩
  have HNEW : Hid (Row (w1.alloc (.cells (effCells zeroEff).toArray 30)) w1.heap.size 30 (effCells zeroEff)) := Row.new _ 30 (effCells zeroEff)
  clear x0 x1 x2 x3 x4 ya yb yc
  go_upto_region 2 with (first | ((with_reducible refine at_op (o := ⟨some 18, _, _, _, _, _⟩) ?_); refine pl_load (o := ⟨some 18, _, _, _, _, _⟩) rfl 24 _ rfl (w.heap.size + 1) rfl 24 (regCells r) HRR.out _ Tryd.underlying24 rfl (sizeR _) ?_) | ((with_reducible refine at_op (o := ⟨some 21, _, _, _, _, _⟩) ?_); refine pl_build2 (o := ⟨some 21, _, _, _, _, _⟩) rfl (.tmp 18) (.tmp 20) rfl r (pc + 1) rfl rfl ?_) | ((with_reducible refine at_op (o := ⟨none, .store 30 (.tmp 13) (.tmp 21), _, _, _, _⟩) ?_); refine pl_store (o := ⟨none, .store 30 (.tmp 13) (.tmp 21), _, _, _, _⟩) rfl 30 (.tmp 13) (.tmp 21) rfl (w1.heap.size) rfl 30 (effCells zeroEff) (effCells (eff0 r (pc + 1) 0)) rfl HNEW.out (sizeE _) (lenE _ _) (eff_one _) ?_; intro w4 hr4 hc4; have HE4 := Lib.hid hr4; have HX4 := Lib.hid ((HX.out.alloc _).keepIs hc4 HN1.out.1); have HR4 := Lib.hid ((HRR.out.alloc _).keepIs hc4 HN1.out.2.1); have HZ4 := Lib.hid ((HZ.out.alloc _).keepIs hc4 HN1.out.2.2.1); have HC4 := Lib.hid (ch_newg (HC0.out.alloc _) hc4 HN1.out.2.2.2); clear hr4 hc4))
  have hlt4 : w1.heap.size < w4.heap.size := HE4.out.lt
  have x0 : w4.cell? ⟨w.heap.size, 0, none⟩ = some (.int .u8 17) := HX4.out.cell 0
  have x1 : w4.cell? ⟨w.heap.size, 1, none⟩ = some (.int .u8 a) := HX4.out.cell 1
  have x2 : w4.cell? ⟨w.heap.size, 2, none⟩ = some (.int .u8 b) := HX4.out.cell 2
  have x3 : w4.cell? ⟨w.heap.size, 3, none⟩ = some (.int .u8 c) := HX4.out.cell 3
  have x4 : w4.cell? ⟨w.heap.size, 4, none⟩ = some (.int .i32 n) := HX4.out.cell 4
  have ya : w4.cell? ⟨w.heap.size + 1, a, none⟩ = some (.int .i64 (r a)) := by rw [HR4.out.cell, regCells_get r a ha]
  have yb : w4.cell? ⟨w.heap.size + 1, b, none⟩ = some (.int .i64 (r b)) := by rw [HR4.out.cell, regCells_get r b hb]
  have yc : w4.cell? ⟨w.heap.size + 1, c, none⟩ = some (.int .i64 (r c)) := by rw [HR4.out.cell, regCells_get r c hc]
  go_upto_region 33 with (fail)
  refine wp_region_qt 12 (by kernel_rfl) (by kernel_rfl) ?_
  simp only [List.take_succ_cons, List.take_zero, List.drop_succ_cons, List.drop_zero]
  refine wpQuiet_read (by rfl) (.agg (effCells (eff0 r (pc + 1) 0)).toArray) (fun w' hw' => by
    obtain ⟨j, rfl⟩ := hw'
    exact exec_load_agg 30 (.tmp 13) rfl w1.heap.size rfl 30 _ (HE4.out.drewN j) _ Tryd.underlying30 rfl (sizeE _)) ?_
  simp only [Act.put, List.setIfInBounds_toArray, List.set_cons_zero, List.set_cons_succ]
  have hcw : IntKind.i64.wrap (c : Int) = (c : Int) := by rw [i64_wrap, bv_in ⟨by omega, by omega⟩]
  have ic0 : (0 : Int) ≤ (c : Int) := by omega
  repeat (quiet_step (((go_at_call 71; exact Calls.quiet_of_same (HK.out _)))))
  refine wpQuiet_nil ?_
  intro _ hw'
  obtain ⟨nq, hw''⟩ := hw'
  subst hw''
  go_wp2_with (first | (go_at_call 67; refine (with_67 (eff0 r (pc + 1) 0) a ha (recF 17 (r b) (r c)) _).mono ?_; rintro e w5 ⟨rfl, hc5⟩; have HZ5 := Lib.hid ((HZ4.out.drewN _).keepNo hc5); have HC5 := Lib.hid ((HC4.out.drewN _).then_ hc5); clear hc5) | ((with_reducible refine at_op (o := ⟨none, .store 30 (.tmp 12) (.tmp 130), _, _, _, _⟩) ?_); refine wpList_store_agg (o := ⟨none, .store 30 (.tmp 12) (.tmp 130), _, _, _, _⟩) rfl 30 (.tmp 12) (.tmp 130) rfl (w.heap.size + 1 + 1) rfl 30 (effCells zeroEff) (effCells ((eff0 r (pc + 1) 0).reg a (recF 17 (r b) (r c)))) rfl HZ5.out (sizeE _) (lenE _ _) (eff_one _) ?_; intro w6 hr6 hc6; have HR6 := Lib.hid hr6; have HC6 := Lib.hid hc6; clear hr6 hc6))
  refine bodyPost_ret (v := .agg (effCells ((eff0 r (pc + 1) 0).reg a (recF 17 (r b) (r c)))).toArray) (results_row rfl _ _ (w.heap.size + 1 + 1) 30 _ _ rfl HR6.out Tryd.underlying30 rfl (sizeE _)) rfl ⟨rfl, ?_⟩
  exact ch_newg HC5.out HC6.out (by omega)
set_option maxRecDepth 100000 in
set_option maxHeartbeats 4000000 in
theorem done_19 (A : Option Addr) (len cap : Nat) (hl : len ≤ 9223372036854775807) (M : Option Addr) (xs : List Int) (mcap : Nat) (hm : xs.length ≤ 9223372036854775807) (fixed : Int) (a b c : Nat) (n : Int) (ha : a < 16) (hb : b < 16) (hc : c < 16) (r : Nat → Int) (hin : ∀ i, i < 16 → In64 (r i)) (pc : Int) (hp0 : -9223372036854775808 ≤ pc) (hp1 : pc < 9223372036854775807) (hn0 : -2147483648 ≤ n) (hn1 : n ≤ 2147483647) (w : World) :
    Calls Tryd.prog 30 #[.slice A len cap, .agg (insCells 19 a b c n).toArray, .slice M xs.length mcap, .int .i64 fixed, .agg (regCells r).toArray, .int .i64 pc] w fun e w' => e = .returned (.agg (effCells ((eff0 r (pc + 1) 0).reg a (recF 19 (r b) (r c)))).toArray) ∧ Ch No w w' := by
  have HX : Hid (Row (World.alloc (World.alloc (World.alloc w (.cells (insCells 19 a b c n).toArray 45)) (.cells (regCells r).toArray 24)) (.cells (effCells zeroEff).toArray 30)) w.heap.size 45 (insCells 19 a b c n)) := ((Row.new w 45 (insCells 19 a b c n)).alloc _).alloc _
  have HRR : Hid (Row (World.alloc (World.alloc (World.alloc w (.cells (insCells 19 a b c n).toArray 45)) (.cells (regCells r).toArray 24)) (.cells (effCells zeroEff).toArray 30)) (w.heap.size + 1) 24 (regCells r)) := (Row.new_at _ 24 (regCells r) (by simp)).alloc _
  have HZ : Hid (Row (World.alloc (World.alloc (World.alloc w (.cells (insCells 19 a b c n).toArray 45)) (.cells (regCells r).toArray 24)) (.cells (effCells zeroEff).toArray 30)) (w.heap.size + 1 + 1) 30 (effCells zeroEff)) := Row.new_at _ 30 (effCells zeroEff) (by simp)
  have HC0 : Hid (Ch No w (World.alloc (World.alloc (World.alloc w (.cells (insCells 19 a b c n).toArray 45)) (.cells (regCells r).toArray 24)) (.cells (effCells zeroEff).toArray 30))) := (((Ch.refl No w).alloc _).alloc _).alloc _
  have hnw : IntKind.i64.wrap n = n := by rw [i64_wrap, bv_in ⟨by omega, by omega⟩]
  have ia : (a : Int) < 16 := by omega
  have ib : (b : Int) < 16 := by omega
  have ic : (c : Int) < 16 := by omega
  have HIN := Lib.hid hin
  clear hin
  have HK : Hid (∀ W, Calls Tryd.prog 71 #[.int .u8 19, .int .i64 (r b), .int .i64 (r c)] W fun e w' => e = .returned (.int .i64 (recF 19 (r b) (r c))) ∧ w' = W) := fun W => (reckoned_71 19 (by omega) (r b) (r c) (HIN.out b hb) (HIN.out c hc) W).mono fun _ _ h => ⟨h.1, h.2.symm⟩
  go_enter Tryd.func30, Tryd.ntmps30
  go_upto_region 1 with (fail)
  change Code.wp _ _ _ _ (World.alloc (World.alloc (World.alloc w (.cells (insCells 19 a b c n).toArray 45)) (.cells (regCells r).toArray 24)) (.cells (effCells zeroEff).toArray 30))
  generalize World.alloc (World.alloc (World.alloc w (.cells (insCells 19 a b c n).toArray 45)) (.cells (regCells r).toArray 24)) (.cells (effCells zeroEff).toArray 30) = w1 at *
  have x0 : w1.cell? ⟨w.heap.size, 0, none⟩ = some (.int .u8 19) := HX.out.cell 0
  have x1 : w1.cell? ⟨w.heap.size, 1, none⟩ = some (.int .u8 a) := HX.out.cell 1
  have x2 : w1.cell? ⟨w.heap.size, 2, none⟩ = some (.int .u8 b) := HX.out.cell 2
  have x3 : w1.cell? ⟨w.heap.size, 3, none⟩ = some (.int .u8 c) := HX.out.cell 3
  have x4 : w1.cell? ⟨w.heap.size, 4, none⟩ = some (.int .i32 n) := HX.out.cell 4
  have ya : w1.cell? ⟨w.heap.size + 1, a, none⟩ = some (.int .i64 (r a)) := by rw [HRR.out.cell, regCells_get r a ha]
  have yb : w1.cell? ⟨w.heap.size + 1, b, none⟩ = some (.int .i64 (r b)) := by rw [HRR.out.cell, regCells_get r b hb]
  have yc : w1.cell? ⟨w.heap.size + 1, c, none⟩ = some (.int .i64 (r c)) := by rw [HRR.out.cell, regCells_get r c hc]
  have HN1 : Hid (¬ w.heap.size = w1.heap.size ∧ ¬ w.heap.size + 1 = w1.heap.size ∧ ¬ w.heap.size + 1 + 1 = w1.heap.size ∧ w.heap.size ≤ w1.heap.size) := by
    have := HZ.out.lt
    exact ⟨by omega, by omega, by omega, by omega⟩
  have HNEW : Hid (Row (w1.alloc (.cells (effCells zeroEff).toArray 30)) w1.heap.size 30 (effCells zeroEff)) := Row.new _ 30 (effCells zeroEff)
  clear x0 x1 x2 x3 x4 ya yb yc
  go_upto_region 2 with (first | ((with_reducible refine at_op (o := ⟨some 18, _, _, _, _, _⟩) ?_); refine pl_load (o := ⟨some 18, _, _, _, _, _⟩) rfl 24 _ rfl (w.heap.size + 1) rfl 24 (regCells r) HRR.out _ Tryd.underlying24 rfl (sizeR _) ?_) | ((with_reducible refine at_op (o := ⟨some 21, _, _, _, _, _⟩) ?_); refine pl_build2 (o := ⟨some 21, _, _, _, _, _⟩) rfl (.tmp 18) (.tmp 20) rfl r (pc + 1) rfl rfl ?_) | ((with_reducible refine at_op (o := ⟨none, .store 30 (.tmp 13) (.tmp 21), _, _, _, _⟩) ?_); refine pl_store (o := ⟨none, .store 30 (.tmp 13) (.tmp 21), _, _, _, _⟩) rfl 30 (.tmp 13) (.tmp 21) rfl (w1.heap.size) rfl 30 (effCells zeroEff) (effCells (eff0 r (pc + 1) 0)) rfl HNEW.out (sizeE _) (lenE _ _) (eff_one _) ?_; intro w4 hr4 hc4; have HE4 := Lib.hid hr4; have HX4 := Lib.hid ((HX.out.alloc _).keepIs hc4 HN1.out.1); have HR4 := Lib.hid ((HRR.out.alloc _).keepIs hc4 HN1.out.2.1); have HZ4 := Lib.hid ((HZ.out.alloc _).keepIs hc4 HN1.out.2.2.1); have HC4 := Lib.hid (ch_newg (HC0.out.alloc _) hc4 HN1.out.2.2.2); clear hr4 hc4))
  have hlt4 : w1.heap.size < w4.heap.size := HE4.out.lt
  have x0 : w4.cell? ⟨w.heap.size, 0, none⟩ = some (.int .u8 19) := HX4.out.cell 0
  have x1 : w4.cell? ⟨w.heap.size, 1, none⟩ = some (.int .u8 a) := HX4.out.cell 1
  have x2 : w4.cell? ⟨w.heap.size, 2, none⟩ = some (.int .u8 b) := HX4.out.cell 2
  have x3 : w4.cell? ⟨w.heap.size, 3, none⟩ = some (.int .u8 c) := HX4.out.cell 3
  have x4 : w4.cell? ⟨w.heap.size, 4, none⟩ = some (.int .i32 n) := HX4.out.cell 4
  have ya : w4.cell? ⟨w.heap.size + 1, a, none⟩ = some (.int .i64 (r a)) := by rw [HR4.out.cell, regCells_get r a ha]
  have yb : w4.cell? ⟨w.heap.size + 1, b, none⟩ = some (.int .i64 (r b)) := by rw [HR4.out.cell, regCells_get r b hb]
  have yc : w4.cell? ⟨w.heap.size + 1, c, none⟩ = some (.int .i64 (r c)) := by rw [HR4.out.cell, regCells_get r c hc]
  go_upto_region 33 with (fail)
  refine wp_region_qt 12 (by kernel_rfl) (by kernel_rfl) ?_
  simp only [List.take_succ_cons, List.take_zero, List.drop_succ_cons, List.drop_zero]
  refine wpQuiet_read (by rfl) (.agg (effCells (eff0 r (pc + 1) 0)).toArray) (fun w' hw' => by
    obtain ⟨j, rfl⟩ := hw'
    exact exec_load_agg 30 (.tmp 13) rfl w1.heap.size rfl 30 _ (HE4.out.drewN j) _ Tryd.underlying30 rfl (sizeE _)) ?_
  simp only [Act.put, List.setIfInBounds_toArray, List.set_cons_zero, List.set_cons_succ]
  have hcw : IntKind.i64.wrap (c : Int) = (c : Int) := by rw [i64_wrap, bv_in ⟨by omega, by omega⟩]
  have ic0 : (0 : Int) ≤ (c : Int) := by omega
  repeat (quiet_step (((go_at_call 71; exact Calls.quiet_of_same (HK.out _)))))
  refine wpQuiet_nil ?_
  intro _ hw'
  obtain ⟨nq, hw''⟩ := hw'
  subst hw''
  go_wp2_with (first | (go_at_call 67; refine (with_67 (eff0 r (pc + 1) 0) a ha (recF 19 (r b) (r c)) _).mono ?_; rintro e w5 ⟨rfl, hc5⟩; have HZ5 := Lib.hid ((HZ4.out.drewN _).keepNo hc5); have HC5 := Lib.hid ((HC4.out.drewN _).then_ hc5); clear hc5) | ((with_reducible refine at_op (o := ⟨none, .store 30 (.tmp 12) (.tmp 130), _, _, _, _⟩) ?_); refine wpList_store_agg (o := ⟨none, .store 30 (.tmp 12) (.tmp 130), _, _, _, _⟩) rfl 30 (.tmp 12) (.tmp 130) rfl (w.heap.size + 1 + 1) rfl 30 (effCells zeroEff) (effCells ((eff0 r (pc + 1) 0).reg a (recF 19 (r b) (r c)))) rfl HZ5.out (sizeE _) (lenE _ _) (eff_one _) ?_; intro w6 hr6 hc6; have HR6 := Lib.hid hr6; have HC6 := Lib.hid hc6; clear hr6 hc6))
  refine bodyPost_ret (v := .agg (effCells ((eff0 r (pc + 1) 0).reg a (recF 19 (r b) (r c)))).toArray) (results_row rfl _ _ (w.heap.size + 1 + 1) 30 _ _ rfl HR6.out Tryd.underlying30 rfl (sizeE _)) rfl ⟨rfl, ?_⟩
  exact ch_newg HC5.out HC6.out (by omega)
set_option maxRecDepth 100000 in
set_option maxHeartbeats 4000000 in
theorem done_20 (A : Option Addr) (len cap : Nat) (hl : len ≤ 9223372036854775807) (M : Option Addr) (xs : List Int) (mcap : Nat) (hm : xs.length ≤ 9223372036854775807) (fixed : Int) (a b c : Nat) (n : Int) (ha : a < 16) (hb : b < 16) (hc : c < 16) (r : Nat → Int) (hin : ∀ i, i < 16 → In64 (r i)) (pc : Int) (hp0 : -9223372036854775808 ≤ pc) (hp1 : pc < 9223372036854775807) (hn0 : -2147483648 ≤ n) (hn1 : n ≤ 2147483647) (w : World) :
    Calls Tryd.prog 30 #[.slice A len cap, .agg (insCells 20 a b c n).toArray, .slice M xs.length mcap, .int .i64 fixed, .agg (regCells r).toArray, .int .i64 pc] w fun e w' => e = .returned (.agg (effCells ((eff0 r (pc + 1) 0).reg a (recF 20 (r b) (r c)))).toArray) ∧ Ch No w w' := by
  have HX : Hid (Row (World.alloc (World.alloc (World.alloc w (.cells (insCells 20 a b c n).toArray 45)) (.cells (regCells r).toArray 24)) (.cells (effCells zeroEff).toArray 30)) w.heap.size 45 (insCells 20 a b c n)) := ((Row.new w 45 (insCells 20 a b c n)).alloc _).alloc _
  have HRR : Hid (Row (World.alloc (World.alloc (World.alloc w (.cells (insCells 20 a b c n).toArray 45)) (.cells (regCells r).toArray 24)) (.cells (effCells zeroEff).toArray 30)) (w.heap.size + 1) 24 (regCells r)) := (Row.new_at _ 24 (regCells r) (by simp)).alloc _
  have HZ : Hid (Row (World.alloc (World.alloc (World.alloc w (.cells (insCells 20 a b c n).toArray 45)) (.cells (regCells r).toArray 24)) (.cells (effCells zeroEff).toArray 30)) (w.heap.size + 1 + 1) 30 (effCells zeroEff)) := Row.new_at _ 30 (effCells zeroEff) (by simp)
  have HC0 : Hid (Ch No w (World.alloc (World.alloc (World.alloc w (.cells (insCells 20 a b c n).toArray 45)) (.cells (regCells r).toArray 24)) (.cells (effCells zeroEff).toArray 30))) := (((Ch.refl No w).alloc _).alloc _).alloc _
  have hnw : IntKind.i64.wrap n = n := by rw [i64_wrap, bv_in ⟨by omega, by omega⟩]
  have ia : (a : Int) < 16 := by omega
  have ib : (b : Int) < 16 := by omega
  have ic : (c : Int) < 16 := by omega
  have HIN := Lib.hid hin
  clear hin
  have HK : Hid (∀ W, Calls Tryd.prog 71 #[.int .u8 20, .int .i64 (r b), .int .i64 (r c)] W fun e w' => e = .returned (.int .i64 (recF 20 (r b) (r c))) ∧ w' = W) := fun W => (reckoned_71 20 (by omega) (r b) (r c) (HIN.out b hb) (HIN.out c hc) W).mono fun _ _ h => ⟨h.1, h.2.symm⟩
  go_enter Tryd.func30, Tryd.ntmps30
  go_upto_region 1 with (fail)
  change Code.wp _ _ _ _ (World.alloc (World.alloc (World.alloc w (.cells (insCells 20 a b c n).toArray 45)) (.cells (regCells r).toArray 24)) (.cells (effCells zeroEff).toArray 30))
  generalize World.alloc (World.alloc (World.alloc w (.cells (insCells 20 a b c n).toArray 45)) (.cells (regCells r).toArray 24)) (.cells (effCells zeroEff).toArray 30) = w1 at *
  have x0 : w1.cell? ⟨w.heap.size, 0, none⟩ = some (.int .u8 20) := HX.out.cell 0
  have x1 : w1.cell? ⟨w.heap.size, 1, none⟩ = some (.int .u8 a) := HX.out.cell 1
  have x2 : w1.cell? ⟨w.heap.size, 2, none⟩ = some (.int .u8 b) := HX.out.cell 2
  have x3 : w1.cell? ⟨w.heap.size, 3, none⟩ = some (.int .u8 c) := HX.out.cell 3
  have x4 : w1.cell? ⟨w.heap.size, 4, none⟩ = some (.int .i32 n) := HX.out.cell 4
  have ya : w1.cell? ⟨w.heap.size + 1, a, none⟩ = some (.int .i64 (r a)) := by rw [HRR.out.cell, regCells_get r a ha]
  have yb : w1.cell? ⟨w.heap.size + 1, b, none⟩ = some (.int .i64 (r b)) := by rw [HRR.out.cell, regCells_get r b hb]
  have yc : w1.cell? ⟨w.heap.size + 1, c, none⟩ = some (.int .i64 (r c)) := by rw [HRR.out.cell, regCells_get r c hc]
  have HN1 : Hid (¬ w.heap.size = w1.heap.size ∧ ¬ w.heap.size + 1 = w1.heap.size ∧ ¬ w.heap.size + 1 + 1 = w1.heap.size ∧ w.heap.size ≤ w1.heap.size) := by
    have := HZ.out.lt
    exact ⟨by omega, by omega, by omega, by omega⟩
  have HNEW : Hid (Row (w1.alloc (.cells (effCells zeroEff).toArray 30)) w1.heap.size 30 (effCells zeroEff)) := Row.new _ 30 (effCells zeroEff)
  clear x0 x1 x2 x3 x4 ya yb yc
  go_upto_region 2 with (first | ((with_reducible refine at_op (o := ⟨some 18, _, _, _, _, _⟩) ?_); refine pl_load (o := ⟨some 18, _, _, _, _, _⟩) rfl 24 _ rfl (w.heap.size + 1) rfl 24 (regCells r) HRR.out _ Tryd.underlying24 rfl (sizeR _) ?_) | ((with_reducible refine at_op (o := ⟨some 21, _, _, _, _, _⟩) ?_); refine pl_build2 (o := ⟨some 21, _, _, _, _, _⟩) rfl (.tmp 18) (.tmp 20) rfl r (pc + 1) rfl rfl ?_) | ((with_reducible refine at_op (o := ⟨none, .store 30 (.tmp 13) (.tmp 21), _, _, _, _⟩) ?_); refine pl_store (o := ⟨none, .store 30 (.tmp 13) (.tmp 21), _, _, _, _⟩) rfl 30 (.tmp 13) (.tmp 21) rfl (w1.heap.size) rfl 30 (effCells zeroEff) (effCells (eff0 r (pc + 1) 0)) rfl HNEW.out (sizeE _) (lenE _ _) (eff_one _) ?_; intro w4 hr4 hc4; have HE4 := Lib.hid hr4; have HX4 := Lib.hid ((HX.out.alloc _).keepIs hc4 HN1.out.1); have HR4 := Lib.hid ((HRR.out.alloc _).keepIs hc4 HN1.out.2.1); have HZ4 := Lib.hid ((HZ.out.alloc _).keepIs hc4 HN1.out.2.2.1); have HC4 := Lib.hid (ch_newg (HC0.out.alloc _) hc4 HN1.out.2.2.2); clear hr4 hc4))
  have hlt4 : w1.heap.size < w4.heap.size := HE4.out.lt
  have x0 : w4.cell? ⟨w.heap.size, 0, none⟩ = some (.int .u8 20) := HX4.out.cell 0
  have x1 : w4.cell? ⟨w.heap.size, 1, none⟩ = some (.int .u8 a) := HX4.out.cell 1
  have x2 : w4.cell? ⟨w.heap.size, 2, none⟩ = some (.int .u8 b) := HX4.out.cell 2
  have x3 : w4.cell? ⟨w.heap.size, 3, none⟩ = some (.int .u8 c) := HX4.out.cell 3
  have x4 : w4.cell? ⟨w.heap.size, 4, none⟩ = some (.int .i32 n) := HX4.out.cell 4
  have ya : w4.cell? ⟨w.heap.size + 1, a, none⟩ = some (.int .i64 (r a)) := by rw [HR4.out.cell, regCells_get r a ha]
  have yb : w4.cell? ⟨w.heap.size + 1, b, none⟩ = some (.int .i64 (r b)) := by rw [HR4.out.cell, regCells_get r b hb]
  have yc : w4.cell? ⟨w.heap.size + 1, c, none⟩ = some (.int .i64 (r c)) := by rw [HR4.out.cell, regCells_get r c hc]
  go_upto_region 33 with (fail)
  refine wp_region_qt 12 (by kernel_rfl) (by kernel_rfl) ?_
  simp only [List.take_succ_cons, List.take_zero, List.drop_succ_cons, List.drop_zero]
  refine wpQuiet_read (by rfl) (.agg (effCells (eff0 r (pc + 1) 0)).toArray) (fun w' hw' => by
    obtain ⟨j, rfl⟩ := hw'
    exact exec_load_agg 30 (.tmp 13) rfl w1.heap.size rfl 30 _ (HE4.out.drewN j) _ Tryd.underlying30 rfl (sizeE _)) ?_
  simp only [Act.put, List.setIfInBounds_toArray, List.set_cons_zero, List.set_cons_succ]
  have hcw : IntKind.i64.wrap (c : Int) = (c : Int) := by rw [i64_wrap, bv_in ⟨by omega, by omega⟩]
  have ic0 : (0 : Int) ≤ (c : Int) := by omega
  repeat (quiet_step (((go_at_call 71; exact Calls.quiet_of_same (HK.out _)))))
  refine wpQuiet_nil ?_
  intro _ hw'
  obtain ⟨nq, hw''⟩ := hw'
  subst hw''
  go_wp2_with (first | (go_at_call 67; refine (with_67 (eff0 r (pc + 1) 0) a ha (recF 20 (r b) (r c)) _).mono ?_; rintro e w5 ⟨rfl, hc5⟩; have HZ5 := Lib.hid ((HZ4.out.drewN _).keepNo hc5); have HC5 := Lib.hid ((HC4.out.drewN _).then_ hc5); clear hc5) | ((with_reducible refine at_op (o := ⟨none, .store 30 (.tmp 12) (.tmp 130), _, _, _, _⟩) ?_); refine wpList_store_agg (o := ⟨none, .store 30 (.tmp 12) (.tmp 130), _, _, _, _⟩) rfl 30 (.tmp 12) (.tmp 130) rfl (w.heap.size + 1 + 1) rfl 30 (effCells zeroEff) (effCells ((eff0 r (pc + 1) 0).reg a (recF 20 (r b) (r c)))) rfl HZ5.out (sizeE _) (lenE _ _) (eff_one _) ?_; intro w6 hr6 hc6; have HR6 := Lib.hid hr6; have HC6 := Lib.hid hc6; clear hr6 hc6))
  refine bodyPost_ret (v := .agg (effCells ((eff0 r (pc + 1) 0).reg a (recF 20 (r b) (r c)))).toArray) (results_row rfl _ _ (w.heap.size + 1 + 1) 30 _ _ rfl HR6.out Tryd.underlying30 rfl (sizeE _)) rfl ⟨rfl, ?_⟩
  exact ch_newg HC5.out HC6.out (by omega)
set_option maxRecDepth 100000 in
set_option maxHeartbeats 4000000 in
theorem done_21 (A : Option Addr) (len cap : Nat) (hl : len ≤ 9223372036854775807) (M : Option Addr) (xs : List Int) (mcap : Nat) (hm : xs.length ≤ 9223372036854775807) (fixed : Int) (a b c : Nat) (n : Int) (ha : a < 16) (hb : b < 16) (hc : c < 16) (r : Nat → Int) (hin : ∀ i, i < 16 → In64 (r i)) (pc : Int) (hp0 : -9223372036854775808 ≤ pc) (hp1 : pc < 9223372036854775807) (hn0 : -2147483648 ≤ n) (hn1 : n ≤ 2147483647) (w : World) :
    Calls Tryd.prog 30 #[.slice A len cap, .agg (insCells 21 a b c n).toArray, .slice M xs.length mcap, .int .i64 fixed, .agg (regCells r).toArray, .int .i64 pc] w fun e w' => e = .returned (.agg (effCells ((eff0 r (pc + 1) 0).reg a (recF 21 (r b) (r c)))).toArray) ∧ Ch No w w' := by
  have HX : Hid (Row (World.alloc (World.alloc (World.alloc w (.cells (insCells 21 a b c n).toArray 45)) (.cells (regCells r).toArray 24)) (.cells (effCells zeroEff).toArray 30)) w.heap.size 45 (insCells 21 a b c n)) := ((Row.new w 45 (insCells 21 a b c n)).alloc _).alloc _
  have HRR : Hid (Row (World.alloc (World.alloc (World.alloc w (.cells (insCells 21 a b c n).toArray 45)) (.cells (regCells r).toArray 24)) (.cells (effCells zeroEff).toArray 30)) (w.heap.size + 1) 24 (regCells r)) := (Row.new_at _ 24 (regCells r) (by simp)).alloc _
  have HZ : Hid (Row (World.alloc (World.alloc (World.alloc w (.cells (insCells 21 a b c n).toArray 45)) (.cells (regCells r).toArray 24)) (.cells (effCells zeroEff).toArray 30)) (w.heap.size + 1 + 1) 30 (effCells zeroEff)) := Row.new_at _ 30 (effCells zeroEff) (by simp)
  have HC0 : Hid (Ch No w (World.alloc (World.alloc (World.alloc w (.cells (insCells 21 a b c n).toArray 45)) (.cells (regCells r).toArray 24)) (.cells (effCells zeroEff).toArray 30))) := (((Ch.refl No w).alloc _).alloc _).alloc _
  have hnw : IntKind.i64.wrap n = n := by rw [i64_wrap, bv_in ⟨by omega, by omega⟩]
  have ia : (a : Int) < 16 := by omega
  have ib : (b : Int) < 16 := by omega
  have ic : (c : Int) < 16 := by omega
  have HIN := Lib.hid hin
  clear hin
  have HK : Hid (∀ W, Calls Tryd.prog 71 #[.int .u8 21, .int .i64 (r b), .int .i64 (r c)] W fun e w' => e = .returned (.int .i64 (recF 21 (r b) (r c))) ∧ w' = W) := fun W => (reckoned_71 21 (by omega) (r b) (r c) (HIN.out b hb) (HIN.out c hc) W).mono fun _ _ h => ⟨h.1, h.2.symm⟩
  go_enter Tryd.func30, Tryd.ntmps30
  go_upto_region 1 with (fail)
  change Code.wp _ _ _ _ (World.alloc (World.alloc (World.alloc w (.cells (insCells 21 a b c n).toArray 45)) (.cells (regCells r).toArray 24)) (.cells (effCells zeroEff).toArray 30))
  generalize World.alloc (World.alloc (World.alloc w (.cells (insCells 21 a b c n).toArray 45)) (.cells (regCells r).toArray 24)) (.cells (effCells zeroEff).toArray 30) = w1 at *
  have x0 : w1.cell? ⟨w.heap.size, 0, none⟩ = some (.int .u8 21) := HX.out.cell 0
  have x1 : w1.cell? ⟨w.heap.size, 1, none⟩ = some (.int .u8 a) := HX.out.cell 1
  have x2 : w1.cell? ⟨w.heap.size, 2, none⟩ = some (.int .u8 b) := HX.out.cell 2
  have x3 : w1.cell? ⟨w.heap.size, 3, none⟩ = some (.int .u8 c) := HX.out.cell 3
  have x4 : w1.cell? ⟨w.heap.size, 4, none⟩ = some (.int .i32 n) := HX.out.cell 4
  have ya : w1.cell? ⟨w.heap.size + 1, a, none⟩ = some (.int .i64 (r a)) := by rw [HRR.out.cell, regCells_get r a ha]
  have yb : w1.cell? ⟨w.heap.size + 1, b, none⟩ = some (.int .i64 (r b)) := by rw [HRR.out.cell, regCells_get r b hb]
  have yc : w1.cell? ⟨w.heap.size + 1, c, none⟩ = some (.int .i64 (r c)) := by rw [HRR.out.cell, regCells_get r c hc]
  have HN1 : Hid (¬ w.heap.size = w1.heap.size ∧ ¬ w.heap.size + 1 = w1.heap.size ∧ ¬ w.heap.size + 1 + 1 = w1.heap.size ∧ w.heap.size ≤ w1.heap.size) := by
    have := HZ.out.lt
    exact ⟨by omega, by omega, by omega, by omega⟩
  have HNEW : Hid (Row (w1.alloc (.cells (effCells zeroEff).toArray 30)) w1.heap.size 30 (effCells zeroEff)) := Row.new _ 30 (effCells zeroEff)
  clear x0 x1 x2 x3 x4 ya yb yc
  go_upto_region 2 with (first | ((with_reducible refine at_op (o := ⟨some 18, _, _, _, _, _⟩) ?_); refine pl_load (o := ⟨some 18, _, _, _, _, _⟩) rfl 24 _ rfl (w.heap.size + 1) rfl 24 (regCells r) HRR.out _ Tryd.underlying24 rfl (sizeR _) ?_) | ((with_reducible refine at_op (o := ⟨some 21, _, _, _, _, _⟩) ?_); refine pl_build2 (o := ⟨some 21, _, _, _, _, _⟩) rfl (.tmp 18) (.tmp 20) rfl r (pc + 1) rfl rfl ?_) | ((with_reducible refine at_op (o := ⟨none, .store 30 (.tmp 13) (.tmp 21), _, _, _, _⟩) ?_); refine pl_store (o := ⟨none, .store 30 (.tmp 13) (.tmp 21), _, _, _, _⟩) rfl 30 (.tmp 13) (.tmp 21) rfl (w1.heap.size) rfl 30 (effCells zeroEff) (effCells (eff0 r (pc + 1) 0)) rfl HNEW.out (sizeE _) (lenE _ _) (eff_one _) ?_; intro w4 hr4 hc4; have HE4 := Lib.hid hr4; have HX4 := Lib.hid ((HX.out.alloc _).keepIs hc4 HN1.out.1); have HR4 := Lib.hid ((HRR.out.alloc _).keepIs hc4 HN1.out.2.1); have HZ4 := Lib.hid ((HZ.out.alloc _).keepIs hc4 HN1.out.2.2.1); have HC4 := Lib.hid (ch_newg (HC0.out.alloc _) hc4 HN1.out.2.2.2); clear hr4 hc4))
  have hlt4 : w1.heap.size < w4.heap.size := HE4.out.lt
  have x0 : w4.cell? ⟨w.heap.size, 0, none⟩ = some (.int .u8 21) := HX4.out.cell 0
  have x1 : w4.cell? ⟨w.heap.size, 1, none⟩ = some (.int .u8 a) := HX4.out.cell 1
  have x2 : w4.cell? ⟨w.heap.size, 2, none⟩ = some (.int .u8 b) := HX4.out.cell 2
  have x3 : w4.cell? ⟨w.heap.size, 3, none⟩ = some (.int .u8 c) := HX4.out.cell 3
  have x4 : w4.cell? ⟨w.heap.size, 4, none⟩ = some (.int .i32 n) := HX4.out.cell 4
  have ya : w4.cell? ⟨w.heap.size + 1, a, none⟩ = some (.int .i64 (r a)) := by rw [HR4.out.cell, regCells_get r a ha]
  have yb : w4.cell? ⟨w.heap.size + 1, b, none⟩ = some (.int .i64 (r b)) := by rw [HR4.out.cell, regCells_get r b hb]
  have yc : w4.cell? ⟨w.heap.size + 1, c, none⟩ = some (.int .i64 (r c)) := by rw [HR4.out.cell, regCells_get r c hc]
  go_upto_region 33 with (fail)
  refine wp_region_qt 12 (by kernel_rfl) (by kernel_rfl) ?_
  simp only [List.take_succ_cons, List.take_zero, List.drop_succ_cons, List.drop_zero]
  refine wpQuiet_read (by rfl) (.agg (effCells (eff0 r (pc + 1) 0)).toArray) (fun w' hw' => by
    obtain ⟨j, rfl⟩ := hw'
    exact exec_load_agg 30 (.tmp 13) rfl w1.heap.size rfl 30 _ (HE4.out.drewN j) _ Tryd.underlying30 rfl (sizeE _)) ?_
  simp only [Act.put, List.setIfInBounds_toArray, List.set_cons_zero, List.set_cons_succ]
  have hcw : IntKind.i64.wrap (c : Int) = (c : Int) := by rw [i64_wrap, bv_in ⟨by omega, by omega⟩]
  have ic0 : (0 : Int) ≤ (c : Int) := by omega
  repeat (quiet_step (((go_at_call 71; exact Calls.quiet_of_same (HK.out _)))))
  refine wpQuiet_nil ?_
  intro _ hw'
  obtain ⟨nq, hw''⟩ := hw'
  subst hw''
  go_wp2_with (first | (go_at_call 67; refine (with_67 (eff0 r (pc + 1) 0) a ha (recF 21 (r b) (r c)) _).mono ?_; rintro e w5 ⟨rfl, hc5⟩; have HZ5 := Lib.hid ((HZ4.out.drewN _).keepNo hc5); have HC5 := Lib.hid ((HC4.out.drewN _).then_ hc5); clear hc5) | ((with_reducible refine at_op (o := ⟨none, .store 30 (.tmp 12) (.tmp 130), _, _, _, _⟩) ?_); refine wpList_store_agg (o := ⟨none, .store 30 (.tmp 12) (.tmp 130), _, _, _, _⟩) rfl 30 (.tmp 12) (.tmp 130) rfl (w.heap.size + 1 + 1) rfl 30 (effCells zeroEff) (effCells ((eff0 r (pc + 1) 0).reg a (recF 21 (r b) (r c)))) rfl HZ5.out (sizeE _) (lenE _ _) (eff_one _) ?_; intro w6 hr6 hc6; have HR6 := Lib.hid hr6; have HC6 := Lib.hid hc6; clear hr6 hc6))
  refine bodyPost_ret (v := .agg (effCells ((eff0 r (pc + 1) 0).reg a (recF 21 (r b) (r c)))).toArray) (results_row rfl _ _ (w.heap.size + 1 + 1) 30 _ _ rfl HR6.out Tryd.underlying30 rfl (sizeE _)) rfl ⟨rfl, ?_⟩
  exact ch_newg HC5.out HC6.out (by omega)
end Go.Proofs.YtellmlffkgfeiaaDoor
