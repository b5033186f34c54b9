/- The document's answer for a legal instruction, operation by operation. -/
import Derived.Test.YtellmlffkgfeiaaDoorV7
set_option linter.unusedVariables false
set_option linter.unusedSimpArgs false
namespace Go.Proofs.YtellmlffkgfeiaaDoor
open Go.RowKit
set_option maxRecDepth 100000 in
set_option maxHeartbeats 4000000 in
theorem done_1 (A : Option Addr) (len cap : Nat) (hl : len ≤ 9223372036854775807) (M : Option Addr) (xs : List Int) (mcap : Nat) (hm : xs.length ≤ 9223372036854775807) (fixed : Int) (a b c : Nat) (n : Int) (ha : a < 16) (hb : b < 16) (hc : c < 16) (r : Nat → Int) (hin : ∀ i, i < 16 → In64 (r i)) (pc : Int) (hp0 : -9223372036854775808 ≤ pc) (hp1 : pc < 9223372036854775807) (hn0 : -2147483648 ≤ n) (hn1 : n ≤ 2147483647) (w : World) :
    Calls Tryd.prog 30 #[.slice A len cap, .agg (insCells 1 a b c n).toArray, .slice M xs.length mcap, .int .i64 fixed, .agg (regCells r).toArray, .int .i64 pc] w fun e w' => e = .returned (.agg (effCells (eff0 r (pc + 1) 0)).toArray) ∧ Ch No w w' := by
  have HX : Hid (Row (World.alloc (World.alloc (World.alloc w (.cells (insCells 1 a b c n).toArray 45)) (.cells (regCells r).toArray 24)) (.cells (effCells zeroEff).toArray 30)) w.heap.size 45 (insCells 1 a b c n)) := ((Row.new w 45 (insCells 1 a b c n)).alloc _).alloc _
  have HRR : Hid (Row (World.alloc (World.alloc (World.alloc w (.cells (insCells 1 a b c n).toArray 45)) (.cells (regCells r).toArray 24)) (.cells (effCells zeroEff).toArray 30)) (w.heap.size + 1) 24 (regCells r)) := (Row.new_at _ 24 (regCells r) (by simp)).alloc _
  have HZ : Hid (Row (World.alloc (World.alloc (World.alloc w (.cells (insCells 1 a b c n).toArray 45)) (.cells (regCells r).toArray 24)) (.cells (effCells zeroEff).toArray 30)) (w.heap.size + 1 + 1) 30 (effCells zeroEff)) := Row.new_at _ 30 (effCells zeroEff) (by simp)
  have HC0 : Hid (Ch No w (World.alloc (World.alloc (World.alloc w (.cells (insCells 1 a b c n).toArray 45)) (.cells (regCells r).toArray 24)) (.cells (effCells zeroEff).toArray 30))) := (((Ch.refl No w).alloc _).alloc _).alloc _
  have hnw : IntKind.i64.wrap n = n := by rw [i64_wrap, bv_in ⟨by omega, by omega⟩]
  have ia : (a : Int) < 16 := by omega
  have ib : (b : Int) < 16 := by omega
  have ic : (c : Int) < 16 := by omega
  have HIN := Lib.hid hin
  clear hin
  go_enter Tryd.func30, Tryd.ntmps30
  go_upto_region 1 with (fail)
  change Code.wp _ _ _ _ (World.alloc (World.alloc (World.alloc w (.cells (insCells 1 a b c n).toArray 45)) (.cells (regCells r).toArray 24)) (.cells (effCells zeroEff).toArray 30))
  generalize World.alloc (World.alloc (World.alloc w (.cells (insCells 1 a b c n).toArray 45)) (.cells (regCells r).toArray 24)) (.cells (effCells zeroEff).toArray 30) = w1 at *
  have x0 : w1.cell? ⟨w.heap.size, 0, none⟩ = some (.int .u8 1) := HX.out.cell 0
  have x1 : w1.cell? ⟨w.heap.size, 1, none⟩ = some (.int .u8 a) := HX.out.cell 1
  have x2 : w1.cell? ⟨w.heap.size, 2, none⟩ = some (.int .u8 b) := HX.out.cell 2
  have x3 : w1.cell? ⟨w.heap.size, 3, none⟩ = some (.int .u8 c) := HX.out.cell 3
  have x4 : w1.cell? ⟨w.heap.size, 4, none⟩ = some (.int .i32 n) := HX.out.cell 4
  have ya : w1.cell? ⟨w.heap.size + 1, a, none⟩ = some (.int .i64 (r a)) := by rw [HRR.out.cell, regCells_get r a ha]
  have yb : w1.cell? ⟨w.heap.size + 1, b, none⟩ = some (.int .i64 (r b)) := by rw [HRR.out.cell, regCells_get r b hb]
  have yc : w1.cell? ⟨w.heap.size + 1, c, none⟩ = some (.int .i64 (r c)) := by rw [HRR.out.cell, regCells_get r c hc]
  have HN1 : Hid (¬ w.heap.size = w1.heap.size ∧ ¬ w.heap.size + 1 = w1.heap.size ∧ ¬ w.heap.size + 1 + 1 = w1.heap.size ∧ w.heap.size ≤ w1.heap.size) := by
    have := HZ.out.lt
    exact ⟨by omega, by omega, by omega, by omega⟩
  have HNEW : Hid (Row (w1.alloc (.cells (effCells zeroEff).toArray 30)) w1.heap.size 30 (effCells zeroEff)) := Row.new _ 30 (effCells zeroEff)
  clear x0 x1 x2 x3 x4 ya yb yc
  go_upto_region 2 with (first | ((with_reducible refine at_op (o := ⟨some 18, _, _, _, _, _⟩) ?_); refine pl_load (o := ⟨some 18, _, _, _, _, _⟩) rfl 24 _ rfl (w.heap.size + 1) rfl 24 (regCells r) HRR.out _ Tryd.underlying24 rfl (sizeR _) ?_) | ((with_reducible refine at_op (o := ⟨some 21, _, _, _, _, _⟩) ?_); refine pl_build2 (o := ⟨some 21, _, _, _, _, _⟩) rfl (.tmp 18) (.tmp 20) rfl r (pc + 1) rfl rfl ?_) | ((with_reducible refine at_op (o := ⟨none, .store 30 (.tmp 13) (.tmp 21), _, _, _, _⟩) ?_); refine pl_store (o := ⟨none, .store 30 (.tmp 13) (.tmp 21), _, _, _, _⟩) rfl 30 (.tmp 13) (.tmp 21) rfl (w1.heap.size) rfl 30 (effCells zeroEff) (effCells (eff0 r (pc + 1) 0)) rfl HNEW.out (sizeE _) (lenE _ _) (eff_one _) ?_; intro w4 hr4 hc4; have HE4 := Lib.hid hr4; have HX4 := Lib.hid ((HX.out.alloc _).keepIs hc4 HN1.out.1); have HR4 := Lib.hid ((HRR.out.alloc _).keepIs hc4 HN1.out.2.1); have HZ4 := Lib.hid ((HZ.out.alloc _).keepIs hc4 HN1.out.2.2.1); have HC4 := Lib.hid (ch_newg (HC0.out.alloc _) hc4 HN1.out.2.2.2); clear hr4 hc4))
  have hlt4 : w1.heap.size < w4.heap.size := HE4.out.lt
  have x0 : w4.cell? ⟨w.heap.size, 0, none⟩ = some (.int .u8 1) := HX4.out.cell 0
  have x1 : w4.cell? ⟨w.heap.size, 1, none⟩ = some (.int .u8 a) := HX4.out.cell 1
  have x2 : w4.cell? ⟨w.heap.size, 2, none⟩ = some (.int .u8 b) := HX4.out.cell 2
  have x3 : w4.cell? ⟨w.heap.size, 3, none⟩ = some (.int .u8 c) := HX4.out.cell 3
  have x4 : w4.cell? ⟨w.heap.size, 4, none⟩ = some (.int .i32 n) := HX4.out.cell 4
  have ya : w4.cell? ⟨w.heap.size + 1, a, none⟩ = some (.int .i64 (r a)) := by rw [HR4.out.cell, regCells_get r a ha]
  have yb : w4.cell? ⟨w.heap.size + 1, b, none⟩ = some (.int .i64 (r b)) := by rw [HR4.out.cell, regCells_get r b hb]
  have yc : w4.cell? ⟨w.heap.size + 1, c, none⟩ = some (.int .i64 (r c)) := by rw [HR4.out.cell, regCells_get r c hc]
  go_wp2_with (first | ((with_reducible refine at_op (o := ⟨some 34, _, _, _, _, _⟩) ?_); refine pl_load (o := ⟨some 34, _, _, _, _, _⟩) rfl 30 _ rfl (w1.heap.size) rfl 30 (effCells (eff0 r (pc + 1) 0)) HE4.out _ Tryd.underlying30 rfl (sizeE _) ?_) | ((with_reducible refine at_op (o := ⟨none, .store 30 (.tmp 12) (.tmp 34), _, _, _, _⟩) ?_); refine pl_store (o := ⟨none, .store 30 (.tmp 12) (.tmp 34), _, _, _, _⟩) rfl 30 (.tmp 12) (.tmp 34) rfl (w.heap.size + 1 + 1) rfl 30 (effCells zeroEff) (effCells (eff0 r (pc + 1) 0)) rfl HZ4.out (sizeE _) (lenE _ _) (eff_one _) ?_; intro w6 hr6 hc6; have HR6 := Lib.hid hr6; have HC6 := Lib.hid hc6; clear hr6 hc6))
  refine bodyPost_ret (v := .agg (effCells (eff0 r (pc + 1) 0)).toArray) (results_row rfl _ _ (w.heap.size + 1 + 1) 30 _ _ rfl HR6.out Tryd.underlying30 rfl (sizeE _)) rfl ⟨rfl, ?_⟩
  exact ch_newg HC4.out HC6.out (by omega)
set_option maxRecDepth 100000 in
set_option maxHeartbeats 4000000 in
theorem done_2 (A : Option Addr) (len cap : Nat) (hl : len ≤ 9223372036854775807) (M : Option Addr) (xs : List Int) (mcap : Nat) (hm : xs.length ≤ 9223372036854775807) (fixed : Int) (a b c : Nat) (n : Int) (ha : a < 16) (hb : b < 16) (hc : c < 16) (r : Nat → Int) (hin : ∀ i, i < 16 → In64 (r i)) (pc : Int) (hp0 : -9223372036854775808 ≤ pc) (hp1 : pc < 9223372036854775807) (hn0 : -2147483648 ≤ n) (hn1 : n ≤ 2147483647) (w : World) :
    Calls Tryd.prog 30 #[.slice A len cap, .agg (insCells 2 a b c n).toArray, .slice M xs.length mcap, .int .i64 fixed, .agg (regCells r).toArray, .int .i64 pc] w fun e w' => e = .returned (.agg (effCells ((eff0 r (pc + 1) 0).reg a n)).toArray) ∧ Ch No w w' := by
  have HX : Hid (Row (World.alloc (World.alloc (World.alloc w (.cells (insCells 2 a b c n).toArray 45)) (.cells (regCells r).toArray 24)) (.cells (effCells zeroEff).toArray 30)) w.heap.size 45 (insCells 2 a b c n)) := ((Row.new w 45 (insCells 2 a b c n)).alloc _).alloc _
  have HRR : Hid (Row (World.alloc (World.alloc (World.alloc w (.cells (insCells 2 a b c n).toArray 45)) (.cells (regCells r).toArray 24)) (.cells (effCells zeroEff).toArray 30)) (w.heap.size + 1) 24 (regCells r)) := (Row.new_at _ 24 (regCells r) (by simp)).alloc _
  have HZ : Hid (Row (World.alloc (World.alloc (World.alloc w (.cells (insCells 2 a b c n).toArray 45)) (.cells (regCells r).toArray 24)) (.cells (effCells zeroEff).toArray 30)) (w.heap.size + 1 + 1) 30 (effCells zeroEff)) := Row.new_at _ 30 (effCells zeroEff) (by simp)
  have HC0 : Hid (Ch No w (World.alloc (World.alloc (World.alloc w (.cells (insCells 2 a b c n).toArray 45)) (.cells (regCells r).toArray 24)) (.cells (effCells zeroEff).toArray 30))) := (((Ch.refl No w).alloc _).alloc _).alloc _
  have hnw : IntKind.i64.wrap n = n := by rw [i64_wrap, bv_in ⟨by omega, by omega⟩]
  have ia : (a : Int) < 16 := by omega
  have ib : (b : Int) < 16 := by omega
  have ic : (c : Int) < 16 := by omega
  have HIN := Lib.hid hin
  clear hin
  go_enter Tryd.func30, Tryd.ntmps30
  go_upto_region 1 with (fail)
  change Code.wp _ _ _ _ (World.alloc (World.alloc (World.alloc w (.cells (insCells 2 a b c n).toArray 45)) (.cells (regCells r).toArray 24)) (.cells (effCells zeroEff).toArray 30))
  generalize World.alloc (World.alloc (World.alloc w (.cells (insCells 2 a b c n).toArray 45)) (.cells (regCells r).toArray 24)) (.cells (effCells zeroEff).toArray 30) = w1 at *
  have x0 : w1.cell? ⟨w.heap.size, 0, none⟩ = some (.int .u8 2) := HX.out.cell 0
  have x1 : w1.cell? ⟨w.heap.size, 1, none⟩ = some (.int .u8 a) := HX.out.cell 1
  have x2 : w1.cell? ⟨w.heap.size, 2, none⟩ = some (.int .u8 b) := HX.out.cell 2
  have x3 : w1.cell? ⟨w.heap.size, 3, none⟩ = some (.int .u8 c) := HX.out.cell 3
  have x4 : w1.cell? ⟨w.heap.size, 4, none⟩ = some (.int .i32 n) := HX.out.cell 4
  have ya : w1.cell? ⟨w.heap.size + 1, a, none⟩ = some (.int .i64 (r a)) := by rw [HRR.out.cell, regCells_get r a ha]
  have yb : w1.cell? ⟨w.heap.size + 1, b, none⟩ = some (.int .i64 (r b)) := by rw [HRR.out.cell, regCells_get r b hb]
  have yc : w1.cell? ⟨w.heap.size + 1, c, none⟩ = some (.int .i64 (r c)) := by rw [HRR.out.cell, regCells_get r c hc]
  have HN1 : Hid (¬ w.heap.size = w1.heap.size ∧ ¬ w.heap.size + 1 = w1.heap.size ∧ ¬ w.heap.size + 1 + 1 = w1.heap.size ∧ w.heap.size ≤ w1.heap.size) := by
    have := HZ.out.lt
    exact ⟨by omega, by omega, by omega, by omega⟩
  have HNEW : Hid (Row (w1.alloc (.cells (effCells zeroEff).toArray 30)) w1.heap.size 30 (effCells zeroEff)) := Row.new _ 30 (effCells zeroEff)
  clear x0 x1 x2 x3 x4 ya yb yc
  go_upto_region 2 with (first | ((with_reducible refine at_op (o := ⟨some 18, _, _, _, _, _⟩) ?_); refine pl_load (o := ⟨some 18, _, _, _, _, _⟩) rfl 24 _ rfl (w.heap.size + 1) rfl 24 (regCells r) HRR.out _ Tryd.underlying24 rfl (sizeR _) ?_) | ((with_reducible refine at_op (o := ⟨some 21, _, _, _, _, _⟩) ?_); refine pl_build2 (o := ⟨some 21, _, _, _, _, _⟩) rfl (.tmp 18) (.tmp 20) rfl r (pc + 1) rfl rfl ?_) | ((with_reducible refine at_op (o := ⟨none, .store 30 (.tmp 13) (.tmp 21), _, _, _, _⟩) ?_); refine pl_store (o := ⟨none, .store 30 (.tmp 13) (.tmp 21), _, _, _, _⟩) rfl 30 (.tmp 13) (.tmp 21) rfl (w1.heap.size) rfl 30 (effCells zeroEff) (effCells (eff0 r (pc + 1) 0)) rfl HNEW.out (sizeE _) (lenE _ _) (eff_one _) ?_; intro w4 hr4 hc4; have HE4 := Lib.hid hr4; have HX4 := Lib.hid ((HX.out.alloc _).keepIs hc4 HN1.out.1); have HR4 := Lib.hid ((HRR.out.alloc _).keepIs hc4 HN1.out.2.1); have HZ4 := Lib.hid ((HZ.out.alloc _).keepIs hc4 HN1.out.2.2.1); have HC4 := Lib.hid (ch_newg (HC0.out.alloc _) hc4 HN1.out.2.2.2); clear hr4 hc4))
  have hlt4 : w1.heap.size < w4.heap.size := HE4.out.lt
  have x0 : w4.cell? ⟨w.heap.size, 0, none⟩ = some (.int .u8 2) := HX4.out.cell 0
  have x1 : w4.cell? ⟨w.heap.size, 1, none⟩ = some (.int .u8 a) := HX4.out.cell 1
  have x2 : w4.cell? ⟨w.heap.size, 2, none⟩ = some (.int .u8 b) := HX4.out.cell 2
  have x3 : w4.cell? ⟨w.heap.size, 3, none⟩ = some (.int .u8 c) := HX4.out.cell 3
  have x4 : w4.cell? ⟨w.heap.size, 4, none⟩ = some (.int .i32 n) := HX4.out.cell 4
  have ya : w4.cell? ⟨w.heap.size + 1, a, none⟩ = some (.int .i64 (r a)) := by rw [HR4.out.cell, regCells_get r a ha]
  have yb : w4.cell? ⟨w.heap.size + 1, b, none⟩ = some (.int .i64 (r b)) := by rw [HR4.out.cell, regCells_get r b hb]
  have yc : w4.cell? ⟨w.heap.size + 1, c, none⟩ = some (.int .i64 (r c)) := by rw [HR4.out.cell, regCells_get r c hc]
  go_wp2_with (first | ((with_reducible refine at_op (o := ⟨some 37, _, _, _, _, _⟩) ?_); refine pl_load (o := ⟨some 37, _, _, _, _, _⟩) rfl 30 _ rfl (w1.heap.size) rfl 30 (effCells (eff0 r (pc + 1) 0)) HE4.out _ Tryd.underlying30 rfl (sizeE _) ?_) | (go_at_call 67; refine (with_67 (eff0 r (pc + 1) 0) a ha (n) _).mono ?_; rintro e w5 ⟨rfl, hc5⟩; have HZ5 := Lib.hid (HZ4.out.keepNo hc5); have HC5 := Lib.hid (HC4.out.then_ hc5); clear hc5) | ((with_reducible refine at_op (o := ⟨none, .store 30 (.tmp 12) (.tmp 41), _, _, _, _⟩) ?_); refine pl_store (o := ⟨none, .store 30 (.tmp 12) (.tmp 41), _, _, _, _⟩) rfl 30 (.tmp 12) (.tmp 41) rfl (w.heap.size + 1 + 1) rfl 30 (effCells zeroEff) (effCells ((eff0 r (pc + 1) 0).reg a (n))) rfl HZ5.out (sizeE _) (lenE _ _) (eff_one _) ?_; intro w6 hr6 hc6; have HR6 := Lib.hid hr6; have HC6 := Lib.hid hc6; clear hr6 hc6))
  refine bodyPost_ret (v := .agg (effCells ((eff0 r (pc + 1) 0).reg a n)).toArray) (results_row rfl _ _ (w.heap.size + 1 + 1) 30 _ _ rfl HR6.out Tryd.underlying30 rfl (sizeE _)) rfl ⟨rfl, ?_⟩
  exact ch_newg HC5.out HC6.out (by omega)
set_option maxRecDepth 100000 in
set_option maxHeartbeats 4000000 in
theorem done_3 (A : Option Addr) (len cap : Nat) (hl : len ≤ 9223372036854775807) (M : Option Addr) (xs : List Int) (mcap : Nat) (hm : xs.length ≤ 9223372036854775807) (fixed : Int) (a b c : Nat) (n : Int) (ha : a < 16) (hb : b < 16) (hc : c < 16) (r : Nat → Int) (hin : ∀ i, i < 16 → In64 (r i)) (pc : Int) (hp0 : -9223372036854775808 ≤ pc) (hp1 : pc < 9223372036854775807) (hn0 : -2147483648 ≤ n) (hn1 : n ≤ 2147483647) (w : World) :
    Calls Tryd.prog 30 #[.slice A len cap, .agg (insCells 3 a b c n).toArray, .slice M xs.length mcap, .int .i64 fixed, .agg (regCells r).toArray, .int .i64 pc] w fun e w' => e = .returned (.agg (effCells ((eff0 r (pc + 1) 0).reg a (n * 4294967296 + r a % 4294967296))).toArray) ∧ Ch No w w' := by
  have HX : Hid (Row (World.alloc (World.alloc (World.alloc w (.cells (insCells 3 a b c n).toArray 45)) (.cells (regCells r).toArray 24)) (.cells (effCells zeroEff).toArray 30)) w.heap.size 45 (insCells 3 a b c n)) := ((Row.new w 45 (insCells 3 a b c n)).alloc _).alloc _
  have HRR : Hid (Row (World.alloc (World.alloc (World.alloc w (.cells (insCells 3 a b c n).toArray 45)) (.cells (regCells r).toArray 24)) (.cells (effCells zeroEff).toArray 30)) (w.heap.size + 1) 24 (regCells r)) := (Row.new_at _ 24 (regCells r) (by simp)).alloc _
  have HZ : Hid (Row (World.alloc (World.alloc (World.alloc w (.cells (insCells 3 a b c n).toArray 45)) (.cells (regCells r).toArray 24)) (.cells (effCells zeroEff).toArray 30)) (w.heap.size + 1 + 1) 30 (effCells zeroEff)) := Row.new_at _ 30 (effCells zeroEff) (by simp)
  have HC0 : Hid (Ch No w (World.alloc (World.alloc (World.alloc w (.cells (insCells 3 a b c n).toArray 45)) (.cells (regCells r).toArray 24)) (.cells (effCells zeroEff).toArray 30))) := (((Ch.refl No w).alloc _).alloc _).alloc _
  have hnw : IntKind.i64.wrap n = n := by rw [i64_wrap, bv_in ⟨by omega, by omega⟩]
  have ia : (a : Int) < 16 := by omega
  have ib : (b : Int) < 16 := by omega
  have ic : (c : Int) < 16 := by omega
  have HIN := Lib.hid hin
  clear hin
  have HQ := Lib.hid (fun W => quot_68 (r a) 4294967296 (HIN.out a ha) (by unfold In64; omega) (by omega) W)
  have q0 : 0 ≤ r a % 4294967296 := by omega
  have q1 : r a % 4294967296 < 4294967296 := by omega
  go_enter Tryd.func30, Tryd.ntmps30
  go_upto_region 1 with (fail)
  change Code.wp _ _ _ _ (World.alloc (World.alloc (World.alloc w (.cells (insCells 3 a b c n).toArray 45)) (.cells (regCells r).toArray 24)) (.cells (effCells zeroEff).toArray 30))
  generalize World.alloc (World.alloc (World.alloc w (.cells (insCells 3 a b c n).toArray 45)) (.cells (regCells r).toArray 24)) (.cells (effCells zeroEff).toArray 30) = w1 at *
  have x0 : w1.cell? ⟨w.heap.size, 0, none⟩ = some (.int .u8 3) := HX.out.cell 0
  have x1 : w1.cell? ⟨w.heap.size, 1, none⟩ = some (.int .u8 a) := HX.out.cell 1
  have x2 : w1.cell? ⟨w.heap.size, 2, none⟩ = some (.int .u8 b) := HX.out.cell 2
  have x3 : w1.cell? ⟨w.heap.size, 3, none⟩ = some (.int .u8 c) := HX.out.cell 3
  have x4 : w1.cell? ⟨w.heap.size, 4, none⟩ = some (.int .i32 n) := HX.out.cell 4
  have ya : w1.cell? ⟨w.heap.size + 1, a, none⟩ = some (.int .i64 (r a)) := by rw [HRR.out.cell, regCells_get r a ha]
  have yb : w1.cell? ⟨w.heap.size + 1, b, none⟩ = some (.int .i64 (r b)) := by rw [HRR.out.cell, regCells_get r b hb]
  have yc : w1.cell? ⟨w.heap.size + 1, c, none⟩ = some (.int .i64 (r c)) := by rw [HRR.out.cell, regCells_get r c hc]
  have HN1 : Hid (¬ w.heap.size = w1.heap.size ∧ ¬ w.heap.size + 1 = w1.heap.size ∧ ¬ w.heap.size + 1 + 1 = w1.heap.size ∧ w.heap.size ≤ w1.heap.size) := by
    have := HZ.out.lt
    exact ⟨by omega, by omega, by omega, by omega⟩
  have HNEW : Hid (Row (w1.alloc (.cells (effCells zeroEff).toArray 30)) w1.heap.size 30 (effCells zeroEff)) := Row.new _ 30 (effCells zeroEff)
  clear x0 x1 x2 x3 x4 ya yb yc
  go_upto_region 2 with (first | ((with_reducible refine at_op (o := ⟨some 18, _, _, _, _, _⟩) ?_); refine pl_load (o := ⟨some 18, _, _, _, _, _⟩) rfl 24 _ rfl (w.heap.size + 1) rfl 24 (regCells r) HRR.out _ Tryd.underlying24 rfl (sizeR _) ?_) | ((with_reducible refine at_op (o := ⟨some 21, _, _, _, _, _⟩) ?_); refine pl_build2 (o := ⟨some 21, _, _, _, _, _⟩) rfl (.tmp 18) (.tmp 20) rfl r (pc + 1) rfl rfl ?_) | ((with_reducible refine at_op (o := ⟨none, .store 30 (.tmp 13) (.tmp 21), _, _, _, _⟩) ?_); refine pl_store (o := ⟨none, .store 30 (.tmp 13) (.tmp 21), _, _, _, _⟩) rfl 30 (.tmp 13) (.tmp 21) rfl (w1.heap.size) rfl 30 (effCells zeroEff) (effCells (eff0 r (pc + 1) 0)) rfl HNEW.out (sizeE _) (lenE _ _) (eff_one _) ?_; intro w4 hr4 hc4; have HE4 := Lib.hid hr4; have HX4 := Lib.hid ((HX.out.alloc _).keepIs hc4 HN1.out.1); have HR4 := Lib.hid ((HRR.out.alloc _).keepIs hc4 HN1.out.2.1); have HZ4 := Lib.hid ((HZ.out.alloc _).keepIs hc4 HN1.out.2.2.1); have HC4 := Lib.hid (ch_newg (HC0.out.alloc _) hc4 HN1.out.2.2.2); clear hr4 hc4))
  have hlt4 : w1.heap.size < w4.heap.size := HE4.out.lt
  have x0 : w4.cell? ⟨w.heap.size, 0, none⟩ = some (.int .u8 3) := HX4.out.cell 0
  have x1 : w4.cell? ⟨w.heap.size, 1, none⟩ = some (.int .u8 a) := HX4.out.cell 1
  have x2 : w4.cell? ⟨w.heap.size, 2, none⟩ = some (.int .u8 b) := HX4.out.cell 2
  have x3 : w4.cell? ⟨w.heap.size, 3, none⟩ = some (.int .u8 c) := HX4.out.cell 3
  have x4 : w4.cell? ⟨w.heap.size, 4, none⟩ = some (.int .i32 n) := HX4.out.cell 4
  have ya : w4.cell? ⟨w.heap.size + 1, a, none⟩ = some (.int .i64 (r a)) := by rw [HR4.out.cell, regCells_get r a ha]
  have yb : w4.cell? ⟨w.heap.size + 1, b, none⟩ = some (.int .i64 (r b)) := by rw [HR4.out.cell, regCells_get r b hb]
  have yc : w4.cell? ⟨w.heap.size + 1, c, none⟩ = some (.int .i64 (r c)) := by rw [HR4.out.cell, regCells_get r c hc]
  go_wp2_with (first | (go_at_call 68; refine (HQ.out _).mono ?_; rintro e w' ⟨rfl, rfl⟩; unfold Fmod) | ((with_reducible refine at_op (o := ⟨some 53, _, _, _, _, _⟩) ?_); refine pl_load (o := ⟨some 53, _, _, _, _, _⟩) rfl 30 _ rfl (w1.heap.size) rfl 30 (effCells (eff0 r (pc + 1) 0)) HE4.out _ Tryd.underlying30 rfl (sizeE _) ?_) | (go_at_call 67; refine (with_67 (eff0 r (pc + 1) 0) a ha (n * 4294967296 + r a % 4294967296) _).mono ?_; rintro e w5 ⟨rfl, hc5⟩; have HZ5 := Lib.hid (HZ4.out.keepNo hc5); have HC5 := Lib.hid (HC4.out.then_ hc5); clear hc5) | ((with_reducible refine at_op (o := ⟨none, .store 30 (.tmp 12) (.tmp 60), _, _, _, _⟩) ?_); refine pl_store (o := ⟨none, .store 30 (.tmp 12) (.tmp 60), _, _, _, _⟩) rfl 30 (.tmp 12) (.tmp 60) rfl (w.heap.size + 1 + 1) rfl 30 (effCells zeroEff) (effCells ((eff0 r (pc + 1) 0).reg a (n * 4294967296 + r a % 4294967296))) rfl HZ5.out (sizeE _) (lenE _ _) (eff_one _) ?_; intro w6 hr6 hc6; have HR6 := Lib.hid hr6; have HC6 := Lib.hid hc6; clear hr6 hc6))
  refine bodyPost_ret (v := .agg (effCells ((eff0 r (pc + 1) 0).reg a (n * 4294967296 + r a % 4294967296))).toArray) (results_row rfl _ _ (w.heap.size + 1 + 1) 30 _ _ rfl HR6.out Tryd.underlying30 rfl (sizeE _)) rfl ⟨rfl, ?_⟩
  exact ch_newg HC5.out HC6.out (by omega)
set_option maxRecDepth 100000 in
set_option maxHeartbeats 4000000 in
theorem done_4 (A : Option Addr) (len cap : Nat) (hl : len ≤ 9223372036854775807) (M : Option Addr) (xs : List Int) (mcap : Nat) (hm : xs.length ≤ 9223372036854775807) (fixed : Int) (a b c : Nat) (n : Int) (ha : a < 16) (hb : b < 16) (hc : c < 16) (r : Nat → Int) (hin : ∀ i, i < 16 → In64 (r i)) (pc : Int) (hp0 : -9223372036854775808 ≤ pc) (hp1 : pc < 9223372036854775807) (hn0 : -2147483648 ≤ n) (hn1 : n ≤ 2147483647) (w : World) :
    Calls Tryd.prog 30 #[.slice A len cap, .agg (insCells 4 a b c n).toArray, .slice M xs.length mcap, .int .i64 fixed, .agg (regCells r).toArray, .int .i64 pc] w fun e w' => e = .returned (.agg (effCells ((eff0 r (pc + 1) 0).reg a (r b))).toArray) ∧ Ch No w w' := by
  have HX : Hid (Row (World.alloc (World.alloc (World.alloc w (.cells (insCells 4 a b c n).toArray 45)) (.cells (regCells r).toArray 24)) (.cells (effCells zeroEff).toArray 30)) w.heap.size 45 (insCells 4 a b c n)) := ((Row.new w 45 (insCells 4 a b c n)).alloc _).alloc _
  have HRR : Hid (Row (World.alloc (World.alloc (World.alloc w (.cells (insCells 4 a b c n).toArray 45)) (.cells (regCells r).toArray 24)) (.cells (effCells zeroEff).toArray 30)) (w.heap.size + 1) 24 (regCells r)) := (Row.new_at _ 24 (regCells r) (by simp)).alloc _
  have HZ : Hid (Row (World.alloc (World.alloc (World.alloc w (.cells (insCells 4 a b c n).toArray 45)) (.cells (regCells r).toArray 24)) (.cells (effCells zeroEff).toArray 30)) (w.heap.size + 1 + 1) 30 (effCells zeroEff)) := Row.new_at _ 30 (effCells zeroEff) (by simp)
  have HC0 : Hid (Ch No w (World.alloc (World.alloc (World.alloc w (.cells (insCells 4 a b c n).toArray 45)) (.cells (regCells r).toArray 24)) (.cells (effCells zeroEff).toArray 30))) := (((Ch.refl No w).alloc _).alloc _).alloc _
  have hnw : IntKind.i64.wrap n = n := by rw [i64_wrap, bv_in ⟨by omega, by omega⟩]
  have ia : (a : Int) < 16 := by omega
  have ib : (b : Int) < 16 := by omega
  have ic : (c : Int) < 16 := by omega
  have HIN := Lib.hid hin
  clear hin
  go_enter Tryd.func30, Tryd.ntmps30
  go_upto_region 1 with (fail)
  change Code.wp _ _ _ _ (World.alloc (World.alloc (World.alloc w (.cells (insCells 4 a b c n).toArray 45)) (.cells (regCells r).toArray 24)) (.cells (effCells zeroEff).toArray 30))
  generalize World.alloc (World.alloc (World.alloc w (.cells (insCells 4 a b c n).toArray 45)) (.cells (regCells r).toArray 24)) (.cells (effCells zeroEff).toArray 30) = w1 at *
  have x0 : w1.cell? ⟨w.heap.size, 0, none⟩ = some (.int .u8 4) := HX.out.cell 0
  have x1 : w1.cell? ⟨w.heap.size, 1, none⟩ = some (.int .u8 a) := HX.out.cell 1
  have x2 : w1.cell? ⟨w.heap.size, 2, none⟩ = some (.int .u8 b) := HX.out.cell 2
  have x3 : w1.cell? ⟨w.heap.size, 3, none⟩ = some (.int .u8 c) := HX.out.cell 3
  have x4 : w1.cell? ⟨w.heap.size, 4, none⟩ = some (.int .i32 n) := HX.out.cell 4
  have ya : w1.cell? ⟨w.heap.size + 1, a, none⟩ = some (.int .i64 (r a)) := by rw [HRR.out.cell, regCells_get r a ha]
  have yb : w1.cell? ⟨w.heap.size + 1, b, none⟩ = some (.int .i64 (r b)) := by rw [HRR.out.cell, regCells_get r b hb]
  have yc : w1.cell? ⟨w.heap.size + 1, c, none⟩ = some (.int .i64 (r c)) := by rw [HRR.out.cell, regCells_get r c hc]
  have HN1 : Hid (¬ w.heap.size = w1.heap.size ∧ ¬ w.heap.size + 1 = w1.heap.size ∧ ¬ w.heap.size + 1 + 1 = w1.heap.size ∧ w.heap.size ≤ w1.heap.size) := by
    have := HZ.out.lt
    exact ⟨by omega, by omega, by omega, by omega⟩
  have HNEW : Hid (Row (w1.alloc (.cells (effCells zeroEff).toArray 30)) w1.heap.size 30 (effCells zeroEff)) := Row.new _ 30 (effCells zeroEff)
  clear x0 x1 x2 x3 x4 ya yb yc
  go_upto_region 2 with (first | ((with_reducible refine at_op (o := ⟨some 18, _, _, _, _, _⟩) ?_); refine pl_load (o := ⟨some 18, _, _, _, _, _⟩) rfl 24 _ rfl (w.heap.size + 1) rfl 24 (regCells r) HRR.out _ Tryd.underlying24 rfl (sizeR _) ?_) | ((with_reducible refine at_op (o := ⟨some 21, _, _, _, _, _⟩) ?_); refine pl_build2 (o := ⟨some 21, _, _, _, _, _⟩) rfl (.tmp 18) (.tmp 20) rfl r (pc + 1) rfl rfl ?_) | ((with_reducible refine at_op (o := ⟨none, .store 30 (.tmp 13) (.tmp 21), _, _, _, _⟩) ?_); refine pl_store (o := ⟨none, .store 30 (.tmp 13) (.tmp 21), _, _, _, _⟩) rfl 30 (.tmp 13) (.tmp 21) rfl (w1.heap.size) rfl 30 (effCells zeroEff) (effCells (eff0 r (pc + 1) 0)) rfl HNEW.out (sizeE _) (lenE _ _) (eff_one _) ?_; intro w4 hr4 hc4; have HE4 := Lib.hid hr4; have HX4 := Lib.hid ((HX.out.alloc _).keepIs hc4 HN1.out.1); have HR4 := Lib.hid ((HRR.out.alloc _).keepIs hc4 HN1.out.2.1); have HZ4 := Lib.hid ((HZ.out.alloc _).keepIs hc4 HN1.out.2.2.1); have HC4 := Lib.hid (ch_newg (HC0.out.alloc _) hc4 HN1.out.2.2.2); clear hr4 hc4))
  have hlt4 : w1.heap.size < w4.heap.size := HE4.out.lt
  have x0 : w4.cell? ⟨w.heap.size, 0, none⟩ = some (.int .u8 4) := HX4.out.cell 0
  have x1 : w4.cell? ⟨w.heap.size, 1, none⟩ = some (.int .u8 a) := HX4.out.cell 1
  have x2 : w4.cell? ⟨w.heap.size, 2, none⟩ = some (.int .u8 b) := HX4.out.cell 2
  have x3 : w4.cell? ⟨w.heap.size, 3, none⟩ = some (.int .u8 c) := HX4.out.cell 3
  have x4 : w4.cell? ⟨w.heap.size, 4, none⟩ = some (.int .i32 n) := HX4.out.cell 4
  have ya : w4.cell? ⟨w.heap.size + 1, a, none⟩ = some (.int .i64 (r a)) := by rw [HR4.out.cell, regCells_get r a ha]
  have yb : w4.cell? ⟨w.heap.size + 1, b, none⟩ = some (.int .i64 (r b)) := by rw [HR4.out.cell, regCells_get r b hb]
  have yc : w4.cell? ⟨w.heap.size + 1, c, none⟩ = some (.int .i64 (r c)) := by rw [HR4.out.cell, regCells_get r c hc]
  go_wp2_with (first | ((with_reducible refine at_op (o := ⟨some 63, _, _, _, _, _⟩) ?_); refine pl_load (o := ⟨some 63, _, _, _, _, _⟩) rfl 30 _ rfl (w1.heap.size) rfl 30 (effCells (eff0 r (pc + 1) 0)) HE4.out _ Tryd.underlying30 rfl (sizeE _) ?_) | (go_at_call 67; refine (with_67 (eff0 r (pc + 1) 0) a ha (r b) _).mono ?_; rintro e w5 ⟨rfl, hc5⟩; have HZ5 := Lib.hid (HZ4.out.keepNo hc5); have HC5 := Lib.hid (HC4.out.then_ hc5); clear hc5) | ((with_reducible refine at_op (o := ⟨none, .store 30 (.tmp 12) (.tmp 67), _, _, _, _⟩) ?_); refine pl_store (o := ⟨none, .store 30 (.tmp 12) (.tmp 67), _, _, _, _⟩) rfl 30 (.tmp 12) (.tmp 67) rfl (w.heap.size + 1 + 1) rfl 30 (effCells zeroEff) (effCells ((eff0 r (pc + 1) 0).reg a (r b))) rfl HZ5.out (sizeE _) (lenE _ _) (eff_one _) ?_; intro w6 hr6 hc6; have HR6 := Lib.hid hr6; have HC6 := Lib.hid hc6; clear hr6 hc6))
  refine bodyPost_ret (v := .agg (effCells ((eff0 r (pc + 1) 0).reg a (r b))).toArray) (results_row rfl _ _ (w.heap.size + 1 + 1) 30 _ _ rfl HR6.out Tryd.underlying30 rfl (sizeE _)) rfl ⟨rfl, ?_⟩
  exact ch_newg HC5.out HC6.out (by omega)
set_option maxRecDepth 100000 in
set_option maxHeartbeats 4000000 in
theorem done_5_ok (A : Option Addr) (len cap : Nat) (hl : len ≤ 9223372036854775807) (M : Option Addr) (xs : List Int) (mcap : Nat) (hm : xs.length ≤ 9223372036854775807) (fixed : Int) (a b c : Nat) (n : Int) (ha : a < 16) (hb : b < 16) (hc : c < 16) (r : Nat → Int) (hin : ∀ i, i < 16 → In64 (r i)) (pc : Int) (hp0 : -9223372036854775808 ≤ pc) (hp1 : pc < 9223372036854775807) (hn0 : -2147483648 ≤ n) (hn1 : n ≤ 2147483647) (w : World) (hM : Cl w M (ints xs)) (h1 : 0 ≤ Fadd (r b) n) (h2 : Fadd (r b) n < xs.length) :
    Calls Tryd.prog 30 #[.slice A len cap, .agg (insCells 5 a b c n).toArray, .slice M xs.length mcap, .int .i64 fixed, .agg (regCells r).toArray, .int .i64 pc] w fun e w' => e = .returned (.agg (effCells ((eff0 r (pc + 1) 0).reg a (rd xs (Fadd (r b) n).toNat))).toArray) ∧ Ch No w w' := by
  have HX : Hid (Row (World.alloc (World.alloc (World.alloc w (.cells (insCells 5 a b c n).toArray 45)) (.cells (regCells r).toArray 24)) (.cells (effCells zeroEff).toArray 30)) w.heap.size 45 (insCells 5 a b c n)) := ((Row.new w 45 (insCells 5 a b c n)).alloc _).alloc _
  have HRR : Hid (Row (World.alloc (World.alloc (World.alloc w (.cells (insCells 5 a b c n).toArray 45)) (.cells (regCells r).toArray 24)) (.cells (effCells zeroEff).toArray 30)) (w.heap.size + 1) 24 (regCells r)) := (Row.new_at _ 24 (regCells r) (by simp)).alloc _
  have HZ : Hid (Row (World.alloc (World.alloc (World.alloc w (.cells (insCells 5 a b c n).toArray 45)) (.cells (regCells r).toArray 24)) (.cells (effCells zeroEff).toArray 30)) (w.heap.size + 1 + 1) 30 (effCells zeroEff)) := Row.new_at _ 30 (effCells zeroEff) (by simp)
  have HC0 : Hid (Ch No w (World.alloc (World.alloc (World.alloc w (.cells (insCells 5 a b c n).toArray 45)) (.cells (regCells r).toArray 24)) (.cells (effCells zeroEff).toArray 30))) := (((Ch.refl No w).alloc _).alloc _).alloc _
  have hnw : IntKind.i64.wrap n = n := by rw [i64_wrap, bv_in ⟨by omega, by omega⟩]
  have ia : (a : Int) < 16 := by omega
  have ib : (b : Int) < 16 := by omega
  have ic : (c : Int) < 16 := by omega
  have HIN := Lib.hid hin
  clear hin
  have HMM := Lib.hid hM
  clear hM
  go_enter Tryd.func30, Tryd.ntmps30
  go_upto_region 1 with (fail)
  change Code.wp _ _ _ _ (World.alloc (World.alloc (World.alloc w (.cells (insCells 5 a b c n).toArray 45)) (.cells (regCells r).toArray 24)) (.cells (effCells zeroEff).toArray 30))
  generalize World.alloc (World.alloc (World.alloc w (.cells (insCells 5 a b c n).toArray 45)) (.cells (regCells r).toArray 24)) (.cells (effCells zeroEff).toArray 30) = w1 at *
  have x0 : w1.cell? ⟨w.heap.size, 0, none⟩ = some (.int .u8 5) := HX.out.cell 0
  have x1 : w1.cell? ⟨w.heap.size, 1, none⟩ = some (.int .u8 a) := HX.out.cell 1
  have x2 : w1.cell? ⟨w.heap.size, 2, none⟩ = some (.int .u8 b) := HX.out.cell 2
  have x3 : w1.cell? ⟨w.heap.size, 3, none⟩ = some (.int .u8 c) := HX.out.cell 3
  have x4 : w1.cell? ⟨w.heap.size, 4, none⟩ = some (.int .i32 n) := HX.out.cell 4
  have ya : w1.cell? ⟨w.heap.size + 1, a, none⟩ = some (.int .i64 (r a)) := by rw [HRR.out.cell, regCells_get r a ha]
  have yb : w1.cell? ⟨w.heap.size + 1, b, none⟩ = some (.int .i64 (r b)) := by rw [HRR.out.cell, regCells_get r b hb]
  have yc : w1.cell? ⟨w.heap.size + 1, c, none⟩ = some (.int .i64 (r c)) := by rw [HRR.out.cell, regCells_get r c hc]
  have HN1 : Hid (¬ w.heap.size = w1.heap.size ∧ ¬ w.heap.size + 1 = w1.heap.size ∧ ¬ w.heap.size + 1 + 1 = w1.heap.size ∧ w.heap.size ≤ w1.heap.size) := by
    have := HZ.out.lt
    exact ⟨by omega, by omega, by omega, by omega⟩
  have HNEW : Hid (Row (w1.alloc (.cells (effCells zeroEff).toArray 30)) w1.heap.size 30 (effCells zeroEff)) := Row.new _ 30 (effCells zeroEff)
  clear x0 x1 x2 x3 x4 ya yb yc
  go_upto_region 2 with (first | ((with_reducible refine at_op (o := ⟨some 18, _, _, _, _, _⟩) ?_); refine pl_load (o := ⟨some 18, _, _, _, _, _⟩) rfl 24 _ rfl (w.heap.size + 1) rfl 24 (regCells r) HRR.out _ Tryd.underlying24 rfl (sizeR _) ?_) | ((with_reducible refine at_op (o := ⟨some 21, _, _, _, _, _⟩) ?_); refine pl_build2 (o := ⟨some 21, _, _, _, _, _⟩) rfl (.tmp 18) (.tmp 20) rfl r (pc + 1) rfl rfl ?_) | ((with_reducible refine at_op (o := ⟨none, .store 30 (.tmp 13) (.tmp 21), _, _, _, _⟩) ?_); refine pl_store (o := ⟨none, .store 30 (.tmp 13) (.tmp 21), _, _, _, _⟩) rfl 30 (.tmp 13) (.tmp 21) rfl (w1.heap.size) rfl 30 (effCells zeroEff) (effCells (eff0 r (pc + 1) 0)) rfl HNEW.out (sizeE _) (lenE _ _) (eff_one _) ?_; intro w4 hr4 hc4; have HE4 := Lib.hid hr4; have HX4 := Lib.hid ((HX.out.alloc _).keepIs hc4 HN1.out.1); have HR4 := Lib.hid ((HRR.out.alloc _).keepIs hc4 HN1.out.2.1); have HZ4 := Lib.hid ((HZ.out.alloc _).keepIs hc4 HN1.out.2.2.1); have HC4 := Lib.hid (ch_newg (HC0.out.alloc _) hc4 HN1.out.2.2.2); clear hr4 hc4))
  have hlt4 : w1.heap.size < w4.heap.size := HE4.out.lt
  have x0 : w4.cell? ⟨w.heap.size, 0, none⟩ = some (.int .u8 5) := HX4.out.cell 0
  have x1 : w4.cell? ⟨w.heap.size, 1, none⟩ = some (.int .u8 a) := HX4.out.cell 1
  have x2 : w4.cell? ⟨w.heap.size, 2, none⟩ = some (.int .u8 b) := HX4.out.cell 2
  have x3 : w4.cell? ⟨w.heap.size, 3, none⟩ = some (.int .u8 c) := HX4.out.cell 3
  have x4 : w4.cell? ⟨w.heap.size, 4, none⟩ = some (.int .i32 n) := HX4.out.cell 4
  have ya : w4.cell? ⟨w.heap.size + 1, a, none⟩ = some (.int .i64 (r a)) := by rw [HR4.out.cell, regCells_get r a ha]
  have yb : w4.cell? ⟨w.heap.size + 1, b, none⟩ = some (.int .i64 (r b)) := by rw [HR4.out.cell, regCells_get r b hb]
  have yc : w4.cell? ⟨w.heap.size + 1, c, none⟩ = some (.int .i64 (r c)) := by rw [HR4.out.cell, regCells_get r c hc]
  go_wp2_with (first | ((with_reducible refine at_op (o := ⟨some 71, _, _, _, _, _⟩) ?_); refine pl_load (o := ⟨some 71, _, _, _, _, _⟩) rfl 45 _ rfl (w.heap.size) rfl 45 (insCells 5 a b c n) HX4.out _ Tryd.underlying45 rfl (size45) ?_) | ((with_reducible refine at_op (o := ⟨some 74, _, _, _, _, _⟩) ?_); refine pl_load (o := ⟨some 74, _, _, _, _, _⟩) rfl 24 _ rfl (w.heap.size + 1) rfl 24 (regCells r) HR4.out _ Tryd.underlying24 rfl (sizeR _) ?_) | (go_at_call 69; refine (mem_ld a b c n ha hb M xs mcap hm fixed r pc hp0 hp1 hn0 hn1 _ (HMM.out.keepNo HC4.out) h1 h2).mono ?_; rintro e w5 ⟨rfl, hc5⟩; have HZ5 := Lib.hid (HZ4.out.keepNo hc5); have HC5 := Lib.hid (HC4.out.then_ hc5); clear hc5) | ((with_reducible refine at_op (o := ⟨none, .store 30 (.tmp 12) (.tmp 76), _, _, _, _⟩) ?_); refine pl_store (o := ⟨none, .store 30 (.tmp 12) (.tmp 76), _, _, _, _⟩) rfl 30 (.tmp 12) (.tmp 76) rfl (w.heap.size + 1 + 1) rfl 30 (effCells zeroEff) (effCells ((eff0 r (pc + 1) 0).reg a (rd xs (Fadd (r b) n).toNat))) rfl HZ5.out (sizeE _) (lenE _ _) (eff_one _) ?_; intro w6 hr6 hc6; have HR6 := Lib.hid hr6; have HC6 := Lib.hid hc6; clear hr6 hc6))
  refine bodyPost_ret (v := .agg (effCells ((eff0 r (pc + 1) 0).reg a (rd xs (Fadd (r b) n).toNat))).toArray) (results_row rfl _ _ (w.heap.size + 1 + 1) 30 _ _ rfl HR6.out Tryd.underlying30 rfl (sizeE _)) rfl ⟨rfl, ?_⟩
  exact ch_newg HC5.out HC6.out (by omega)
set_option maxRecDepth 100000 in
set_option maxHeartbeats 4000000 in
theorem done_5_bad (A : Option Addr) (len cap : Nat) (hl : len ≤ 9223372036854775807) (M : Option Addr) (xs : List Int) (mcap : Nat) (hm : xs.length ≤ 9223372036854775807) (fixed : Int) (a b c : Nat) (n : Int) (ha : a < 16) (hb : b < 16) (hc : c < 16) (r : Nat → Int) (hin : ∀ i, i < 16 → In64 (r i)) (pc : Int) (hp0 : -9223372036854775808 ≤ pc) (hp1 : pc < 9223372036854775807) (hn0 : -2147483648 ≤ n) (hn1 : n ≤ 2147483647) (w : World) (hbad : Fadd (r b) n < 0 ∨ (xs.length : Int) ≤ Fadd (r b) n ∨ (5 = 6 ∧ Fadd (r b) n < fixed)) :
    Calls Tryd.prog 30 #[.slice A len cap, .agg (insCells 5 a b c n).toArray, .slice M xs.length mcap, .int .i64 fixed, .agg (regCells r).toArray, .int .i64 pc] w fun e w' => e = .returned (.agg (effCells (eff0 r (pc + 1) 2)).toArray) ∧ Ch No w w' := by
  have HX : Hid (Row (World.alloc (World.alloc (World.alloc w (.cells (insCells 5 a b c n).toArray 45)) (.cells (regCells r).toArray 24)) (.cells (effCells zeroEff).toArray 30)) w.heap.size 45 (insCells 5 a b c n)) := ((Row.new w 45 (insCells 5 a b c n)).alloc _).alloc _
  have HRR : Hid (Row (World.alloc (World.alloc (World.alloc w (.cells (insCells 5 a b c n).toArray 45)) (.cells (regCells r).toArray 24)) (.cells (effCells zeroEff).toArray 30)) (w.heap.size + 1) 24 (regCells r)) := (Row.new_at _ 24 (regCells r) (by simp)).alloc _
  have HZ : Hid (Row (World.alloc (World.alloc (World.alloc w (.cells (insCells 5 a b c n).toArray 45)) (.cells (regCells r).toArray 24)) (.cells (effCells zeroEff).toArray 30)) (w.heap.size + 1 + 1) 30 (effCells zeroEff)) := Row.new_at _ 30 (effCells zeroEff) (by simp)
  have HC0 : Hid (Ch No w (World.alloc (World.alloc (World.alloc w (.cells (insCells 5 a b c n).toArray 45)) (.cells (regCells r).toArray 24)) (.cells (effCells zeroEff).toArray 30))) := (((Ch.refl No w).alloc _).alloc _).alloc _
  have hnw : IntKind.i64.wrap n = n := by rw [i64_wrap, bv_in ⟨by omega, by omega⟩]
  have ia : (a : Int) < 16 := by omega
  have ib : (b : Int) < 16 := by omega
  have ic : (c : Int) < 16 := by omega
  have HIN := Lib.hid hin
  clear hin
  have HBAD := Lib.hid hbad
  clear hbad
  go_enter Tryd.func30, Tryd.ntmps30
  go_upto_region 1 with (fail)
  change Code.wp _ _ _ _ (World.alloc (World.alloc (World.alloc w (.cells (insCells 5 a b c n).toArray 45)) (.cells (regCells r).toArray 24)) (.cells (effCells zeroEff).toArray 30))
  generalize World.alloc (World.alloc (World.alloc w (.cells (insCells 5 a b c n).toArray 45)) (.cells (regCells r).toArray 24)) (.cells (effCells zeroEff).toArray 30) = w1 at *
  have x0 : w1.cell? ⟨w.heap.size, 0, none⟩ = some (.int .u8 5) := HX.out.cell 0
  have x1 : w1.cell? ⟨w.heap.size, 1, none⟩ = some (.int .u8 a) := HX.out.cell 1
  have x2 : w1.cell? ⟨w.heap.size, 2, none⟩ = some (.int .u8 b) := HX.out.cell 2
  have x3 : w1.cell? ⟨w.heap.size, 3, none⟩ = some (.int .u8 c) := HX.out.cell 3
  have x4 : w1.cell? ⟨w.heap.size, 4, none⟩ = some (.int .i32 n) := HX.out.cell 4
  have ya : w1.cell? ⟨w.heap.size + 1, a, none⟩ = some (.int .i64 (r a)) := by rw [HRR.out.cell, regCells_get r a ha]
  have yb : w1.cell? ⟨w.heap.size + 1, b, none⟩ = some (.int .i64 (r b)) := by rw [HRR.out.cell, regCells_get r b hb]
  have yc : w1.cell? ⟨w.heap.size + 1, c, none⟩ = some (.int .i64 (r c)) := by rw [HRR.out.cell, regCells_get r c hc]
  have HN1 : Hid (¬ w.heap.size = w1.heap.size ∧ ¬ w.heap.size + 1 = w1.heap.size ∧ ¬ w.heap.size + 1 + 1 = w1.heap.size ∧ w.heap.size ≤ w1.heap.size) := by
    have := HZ.out.lt
    exact ⟨by omega, by omega, by omega, by omega⟩
  have HNEW : Hid (Row (w1.alloc (.cells (effCells zeroEff).toArray 30)) w1.heap.size 30 (effCells zeroEff)) := Row.new _ 30 (effCells zeroEff)
  clear x0 x1 x2 x3 x4 ya yb yc
  go_upto_region 2 with (first | ((with_reducible refine at_op (o := ⟨some 18, _, _, _, _, _⟩) ?_); refine pl_load (o := ⟨some 18, _, _, _, _, _⟩) rfl 24 _ rfl (w.heap.size + 1) rfl 24 (regCells r) HRR.out _ Tryd.underlying24 rfl (sizeR _) ?_) | ((with_reducible refine at_op (o := ⟨some 21, _, _, _, _, _⟩) ?_); refine pl_build2 (o := ⟨some 21, _, _, _, _, _⟩) rfl (.tmp 18) (.tmp 20) rfl r (pc + 1) rfl rfl ?_) | ((with_reducible refine at_op (o := ⟨none, .store 30 (.tmp 13) (.tmp 21), _, _, _, _⟩) ?_); refine pl_store (o := ⟨none, .store 30 (.tmp 13) (.tmp 21), _, _, _, _⟩) rfl 30 (.tmp 13) (.tmp 21) rfl (w1.heap.size) rfl 30 (effCells zeroEff) (effCells (eff0 r (pc + 1) 0)) rfl HNEW.out (sizeE _) (lenE _ _) (eff_one _) ?_; intro w4 hr4 hc4; have HE4 := Lib.hid hr4; have HX4 := Lib.hid ((HX.out.alloc _).keepIs hc4 HN1.out.1); have HR4 := Lib.hid ((HRR.out.alloc _).keepIs hc4 HN1.out.2.1); have HZ4 := Lib.hid ((HZ.out.alloc _).keepIs hc4 HN1.out.2.2.1); have HC4 := Lib.hid (ch_newg (HC0.out.alloc _) hc4 HN1.out.2.2.2); clear hr4 hc4))
  have hlt4 : w1.heap.size < w4.heap.size := HE4.out.lt
  have x0 : w4.cell? ⟨w.heap.size, 0, none⟩ = some (.int .u8 5) := HX4.out.cell 0
  have x1 : w4.cell? ⟨w.heap.size, 1, none⟩ = some (.int .u8 a) := HX4.out.cell 1
  have x2 : w4.cell? ⟨w.heap.size, 2, none⟩ = some (.int .u8 b) := HX4.out.cell 2
  have x3 : w4.cell? ⟨w.heap.size, 3, none⟩ = some (.int .u8 c) := HX4.out.cell 3
  have x4 : w4.cell? ⟨w.heap.size, 4, none⟩ = some (.int .i32 n) := HX4.out.cell 4
  have ya : w4.cell? ⟨w.heap.size + 1, a, none⟩ = some (.int .i64 (r a)) := by rw [HR4.out.cell, regCells_get r a ha]
  have yb : w4.cell? ⟨w.heap.size + 1, b, none⟩ = some (.int .i64 (r b)) := by rw [HR4.out.cell, regCells_get r b hb]
  have yc : w4.cell? ⟨w.heap.size + 1, c, none⟩ = some (.int .i64 (r c)) := by rw [HR4.out.cell, regCells_get r c hc]
  go_wp2_with (first | ((with_reducible refine at_op (o := ⟨some 71, _, _, _, _, _⟩) ?_); refine pl_load (o := ⟨some 71, _, _, _, _, _⟩) rfl 45 _ rfl (w.heap.size) rfl 45 (insCells 5 a b c n) HX4.out _ Tryd.underlying45 rfl (size45) ?_) | ((with_reducible refine at_op (o := ⟨some 74, _, _, _, _, _⟩) ?_); refine pl_load (o := ⟨some 74, _, _, _, _, _⟩) rfl 24 _ rfl (w.heap.size + 1) rfl 24 (regCells r) HR4.out _ Tryd.underlying24 rfl (sizeR _) ?_) | (go_at_call 69; refine (mem_bad 5 a b c n (by omega) ha hb M xs mcap hm fixed r pc hp0 hp1 hn0 hn1 _ HBAD.out).mono ?_; rintro e w5 ⟨rfl, hc5⟩; have HZ5 := Lib.hid (HZ4.out.keepNo hc5); have HC5 := Lib.hid (HC4.out.then_ hc5); clear hc5) | ((with_reducible refine at_op (o := ⟨none, .store 30 (.tmp 12) (.tmp 76), _, _, _, _⟩) ?_); refine pl_store (o := ⟨none, .store 30 (.tmp 12) (.tmp 76), _, _, _, _⟩) rfl 30 (.tmp 12) (.tmp 76) rfl (w.heap.size + 1 + 1) rfl 30 (effCells zeroEff) (effCells (eff0 r (pc + 1) 2)) rfl HZ5.out (sizeE _) (lenE _ _) (eff_one _) ?_; intro w6 hr6 hc6; have HR6 := Lib.hid hr6; have HC6 := Lib.hid hc6; clear hr6 hc6))
  refine bodyPost_ret (v := .agg (effCells (eff0 r (pc + 1) 2)).toArray) (results_row rfl _ _ (w.heap.size + 1 + 1) 30 _ _ rfl HR6.out Tryd.underlying30 rfl (sizeE _)) rfl ⟨rfl, ?_⟩
  exact ch_newg HC5.out HC6.out (by omega)
set_option maxRecDepth 100000 in
set_option maxHeartbeats 4000000 in
theorem done_6_bad (A : Option Addr) (len cap : Nat) (hl : len ≤ 9223372036854775807) (M : Option Addr) (xs : List Int) (mcap : Nat) (hm : xs.length ≤ 9223372036854775807) (fixed : Int) (a b c : Nat) (n : Int) (ha : a < 16) (hb : b < 16) (hc : c < 16) (r : Nat → Int) (hin : ∀ i, i < 16 → In64 (r i)) (pc : Int) (hp0 : -9223372036854775808 ≤ pc) (hp1 : pc < 9223372036854775807) (hn0 : -2147483648 ≤ n) (hn1 : n ≤ 2147483647) (w : World) (hbad : Fadd (r b) n < 0 ∨ (xs.length : Int) ≤ Fadd (r b) n ∨ (6 = 6 ∧ Fadd (r b) n < fixed)) :
    Calls Tryd.prog 30 #[.slice A len cap, .agg (insCells 6 a b c n).toArray, .slice M xs.length mcap, .int .i64 fixed, .agg (regCells r).toArray, .int .i64 pc] w fun e w' => e = .returned (.agg (effCells (eff0 r (pc + 1) 2)).toArray) ∧ Ch No w w' := by
  have HX : Hid (Row (World.alloc (World.alloc (World.alloc w (.cells (insCells 6 a b c n).toArray 45)) (.cells (regCells r).toArray 24)) (.cells (effCells zeroEff).toArray 30)) w.heap.size 45 (insCells 6 a b c n)) := ((Row.new w 45 (insCells 6 a b c n)).alloc _).alloc _
  have HRR : Hid (Row (World.alloc (World.alloc (World.alloc w (.cells (insCells 6 a b c n).toArray 45)) (.cells (regCells r).toArray 24)) (.cells (effCells zeroEff).toArray 30)) (w.heap.size + 1) 24 (regCells r)) := (Row.new_at _ 24 (regCells r) (by simp)).alloc _
  have HZ : Hid (Row (World.alloc (World.alloc (World.alloc w (.cells (insCells 6 a b c n).toArray 45)) (.cells (regCells r).toArray 24)) (.cells (effCells zeroEff).toArray 30)) (w.heap.size + 1 + 1) 30 (effCells zeroEff)) := Row.new_at _ 30 (effCells zeroEff) (by simp)
  have HC0 : Hid (Ch No w (World.alloc (World.alloc (World.alloc w (.cells (insCells 6 a b c n).toArray 45)) (.cells (regCells r).toArray 24)) (.cells (effCells zeroEff).toArray 30))) := (((Ch.refl No w).alloc _).alloc _).alloc _
  have hnw : IntKind.i64.wrap n = n := by rw [i64_wrap, bv_in ⟨by omega, by omega⟩]
  have ia : (a : Int) < 16 := by omega
  have ib : (b : Int) < 16 := by omega
  have ic : (c : Int) < 16 := by omega
  have HIN := Lib.hid hin
  clear hin
  have HBAD := Lib.hid hbad
  clear hbad
  go_enter Tryd.func30, Tryd.ntmps30
  go_upto_region 1 with (fail)
  change Code.wp _ _ _ _ (World.alloc (World.alloc (World.alloc w (.cells (insCells 6 a b c n).toArray 45)) (.cells (regCells r).toArray 24)) (.cells (effCells zeroEff).toArray 30))
  generalize World.alloc (World.alloc (World.alloc w (.cells (insCells 6 a b c n).toArray 45)) (.cells (regCells r).toArray 24)) (.cells (effCells zeroEff).toArray 30) = w1 at *
  have x0 : w1.cell? ⟨w.heap.size, 0, none⟩ = some (.int .u8 6) := HX.out.cell 0
  have x1 : w1.cell? ⟨w.heap.size, 1, none⟩ = some (.int .u8 a) := HX.out.cell 1
  have x2 : w1.cell? ⟨w.heap.size, 2, none⟩ = some (.int .u8 b) := HX.out.cell 2
  have x3 : w1.cell? ⟨w.heap.size, 3, none⟩ = some (.int .u8 c) := HX.out.cell 3
  have x4 : w1.cell? ⟨w.heap.size, 4, none⟩ = some (.int .i32 n) := HX.out.cell 4
  have ya : w1.cell? ⟨w.heap.size + 1, a, none⟩ = some (.int .i64 (r a)) := by rw [HRR.out.cell, regCells_get r a ha]
  have yb : w1.cell? ⟨w.heap.size + 1, b, none⟩ = some (.int .i64 (r b)) := by rw [HRR.out.cell, regCells_get r b hb]
  have yc : w1.cell? ⟨w.heap.size + 1, c, none⟩ = some (.int .i64 (r c)) := by rw [HRR.out.cell, regCells_get r c hc]
  have HN1 : Hid (¬ w.heap.size = w1.heap.size ∧ ¬ w.heap.size + 1 = w1.heap.size ∧ ¬ w.heap.size + 1 + 1 = w1.heap.size ∧ w.heap.size ≤ w1.heap.size) := by
    have := HZ.out.lt
    exact ⟨by omega, by omega, by omega, by omega⟩
  have HNEW : Hid (Row (w1.alloc (.cells (effCells zeroEff).toArray 30)) w1.heap.size 30 (effCells zeroEff)) := Row.new _ 30 (effCells zeroEff)
  clear x0 x1 x2 x3 x4 ya yb yc
  go_upto_region 2 with (first | ((with_reducible refine at_op (o := ⟨some 18, _, _, _, _, _⟩) ?_); refine pl_load (o := ⟨some 18, _, _, _, _, _⟩) rfl 24 _ rfl (w.heap.size + 1) rfl 24 (regCells r) HRR.out _ Tryd.underlying24 rfl (sizeR _) ?_) | ((with_reducible refine at_op (o := ⟨some 21, _, _, _, _, _⟩) ?_); refine pl_build2 (o := ⟨some 21, _, _, _, _, _⟩) rfl (.tmp 18) (.tmp 20) rfl r (pc + 1) rfl rfl ?_) | ((with_reducible refine at_op (o := ⟨none, .store 30 (.tmp 13) (.tmp 21), _, _, _, _⟩) ?_); refine pl_store (o := ⟨none, .store 30 (.tmp 13) (.tmp 21), _, _, _, _⟩) rfl 30 (.tmp 13) (.tmp 21) rfl (w1.heap.size) rfl 30 (effCells zeroEff) (effCells (eff0 r (pc + 1) 0)) rfl HNEW.out (sizeE _) (lenE _ _) (eff_one _) ?_; intro w4 hr4 hc4; have HE4 := Lib.hid hr4; have HX4 := Lib.hid ((HX.out.alloc _).keepIs hc4 HN1.out.1); have HR4 := Lib.hid ((HRR.out.alloc _).keepIs hc4 HN1.out.2.1); have HZ4 := Lib.hid ((HZ.out.alloc _).keepIs hc4 HN1.out.2.2.1); have HC4 := Lib.hid (ch_newg (HC0.out.alloc _) hc4 HN1.out.2.2.2); clear hr4 hc4))
  have hlt4 : w1.heap.size < w4.heap.size := HE4.out.lt
  have x0 : w4.cell? ⟨w.heap.size, 0, none⟩ = some (.int .u8 6) := HX4.out.cell 0
  have x1 : w4.cell? ⟨w.heap.size, 1, none⟩ = some (.int .u8 a) := HX4.out.cell 1
  have x2 : w4.cell? ⟨w.heap.size, 2, none⟩ = some (.int .u8 b) := HX4.out.cell 2
  have x3 : w4.cell? ⟨w.heap.size, 3, none⟩ = some (.int .u8 c) := HX4.out.cell 3
  have x4 : w4.cell? ⟨w.heap.size, 4, none⟩ = some (.int .i32 n) := HX4.out.cell 4
  have ya : w4.cell? ⟨w.heap.size + 1, a, none⟩ = some (.int .i64 (r a)) := by rw [HR4.out.cell, regCells_get r a ha]
  have yb : w4.cell? ⟨w.heap.size + 1, b, none⟩ = some (.int .i64 (r b)) := by rw [HR4.out.cell, regCells_get r b hb]
  have yc : w4.cell? ⟨w.heap.size + 1, c, none⟩ = some (.int .i64 (r c)) := by rw [HR4.out.cell, regCells_get r c hc]
  go_wp2_with (first | ((with_reducible refine at_op (o := ⟨some 71, _, _, _, _, _⟩) ?_); refine pl_load (o := ⟨some 71, _, _, _, _, _⟩) rfl 45 _ rfl (w.heap.size) rfl 45 (insCells 6 a b c n) HX4.out _ Tryd.underlying45 rfl (size45) ?_) | ((with_reducible refine at_op (o := ⟨some 74, _, _, _, _, _⟩) ?_); refine pl_load (o := ⟨some 74, _, _, _, _, _⟩) rfl 24 _ rfl (w.heap.size + 1) rfl 24 (regCells r) HR4.out _ Tryd.underlying24 rfl (sizeR _) ?_) | (go_at_call 69; refine (mem_bad 6 a b c n (by omega) ha hb M xs mcap hm fixed r pc hp0 hp1 hn0 hn1 _ HBAD.out).mono ?_; rintro e w5 ⟨rfl, hc5⟩; have HZ5 := Lib.hid (HZ4.out.keepNo hc5); have HC5 := Lib.hid (HC4.out.then_ hc5); clear hc5) | ((with_reducible refine at_op (o := ⟨none, .store 30 (.tmp 12) (.tmp 76), _, _, _, _⟩) ?_); refine pl_store (o := ⟨none, .store 30 (.tmp 12) (.tmp 76), _, _, _, _⟩) rfl 30 (.tmp 12) (.tmp 76) rfl (w.heap.size + 1 + 1) rfl 30 (effCells zeroEff) (effCells (eff0 r (pc + 1) 2)) rfl HZ5.out (sizeE _) (lenE _ _) (eff_one _) ?_; intro w6 hr6 hc6; have HR6 := Lib.hid hr6; have HC6 := Lib.hid hc6; clear hr6 hc6))
  refine bodyPost_ret (v := .agg (effCells (eff0 r (pc + 1) 2)).toArray) (results_row rfl _ _ (w.heap.size + 1 + 1) 30 _ _ rfl HR6.out Tryd.underlying30 rfl (sizeE _)) rfl ⟨rfl, ?_⟩
  exact ch_newg HC5.out HC6.out (by omega)
set_option maxRecDepth 100000 in
set_option maxHeartbeats 4000000 in
theorem done_6_ok (A : Option Addr) (len cap : Nat) (hl : len ≤ 9223372036854775807) (M : Option Addr) (xs : List Int) (mcap : Nat) (hm : xs.length ≤ 9223372036854775807) (fixed : Int) (a b c : Nat) (n : Int) (ha : a < 16) (hb : b < 16) (hc : c < 16) (r : Nat → Int) (hin : ∀ i, i < 16 → In64 (r i)) (pc : Int) (hp0 : -9223372036854775808 ≤ pc) (hp1 : pc < 9223372036854775807) (hn0 : -2147483648 ≤ n) (hn1 : n ≤ 2147483647) (w : World) (h1 : 0 ≤ Fadd (r b) n) (h2 : Fadd (r b) n < xs.length) (h3 : fixed ≤ Fadd (r b) n) :
    Calls Tryd.prog 30 #[.slice A len cap, .agg (insCells 6 a b c n).toArray, .slice M xs.length mcap, .int .i64 fixed, .agg (regCells r).toArray, .int .i64 pc] w fun e w' => e = .returned (.agg (effCells ({ eff0 r (pc + 1) 0 with st := true, addr := Fadd (r b) n, val := r a })).toArray) ∧ Ch No w w' := by
  have HX : Hid (Row (World.alloc (World.alloc (World.alloc w (.cells (insCells 6 a b c n).toArray 45)) (.cells (regCells r).toArray 24)) (.cells (effCells zeroEff).toArray 30)) w.heap.size 45 (insCells 6 a b c n)) := ((Row.new w 45 (insCells 6 a b c n)).alloc _).alloc _
  have HRR : Hid (Row (World.alloc (World.alloc (World.alloc w (.cells (insCells 6 a b c n).toArray 45)) (.cells (regCells r).toArray 24)) (.cells (effCells zeroEff).toArray 30)) (w.heap.size + 1) 24 (regCells r)) := (Row.new_at _ 24 (regCells r) (by simp)).alloc _
  have HZ : Hid (Row (World.alloc (World.alloc (World.alloc w (.cells (insCells 6 a b c n).toArray 45)) (.cells (regCells r).toArray 24)) (.cells (effCells zeroEff).toArray 30)) (w.heap.size + 1 + 1) 30 (effCells zeroEff)) := Row.new_at _ 30 (effCells zeroEff) (by simp)
  have HC0 : Hid (Ch No w (World.alloc (World.alloc (World.alloc w (.cells (insCells 6 a b c n).toArray 45)) (.cells (regCells r).toArray 24)) (.cells (effCells zeroEff).toArray 30))) := (((Ch.refl No w).alloc _).alloc _).alloc _
  have hnw : IntKind.i64.wrap n = n := by rw [i64_wrap, bv_in ⟨by omega, by omega⟩]
  have ia : (a : Int) < 16 := by omega
  have ib : (b : Int) < 16 := by omega
  have ic : (c : Int) < 16 := by omega
  have HIN := Lib.hid hin
  clear hin
  go_enter Tryd.func30, Tryd.ntmps30
  go_upto_region 1 with (fail)
  change Code.wp _ _ _ _ (World.alloc (World.alloc (World.alloc w (.cells (insCells 6 a b c n).toArray 45)) (.cells (regCells r).toArray 24)) (.cells (effCells zeroEff).toArray 30))
  generalize World.alloc (World.alloc (World.alloc w (.cells (insCells 6 a b c n).toArray 45)) (.cells (regCells r).toArray 24)) (.cells (effCells zeroEff).toArray 30) = w1 at *
  have x0 : w1.cell? ⟨w.heap.size, 0, none⟩ = some (.int .u8 6) := HX.out.cell 0
  have x1 : w1.cell? ⟨w.heap.size, 1, none⟩ = some (.int .u8 a) := HX.out.cell 1
  have x2 : w1.cell? ⟨w.heap.size, 2, none⟩ = some (.int .u8 b) := HX.out.cell 2
  have x3 : w1.cell? ⟨w.heap.size, 3, none⟩ = some (.int .u8 c) := HX.out.cell 3
  have x4 : w1.cell? ⟨w.heap.size, 4, none⟩ = some (.int .i32 n) := HX.out.cell 4
  have ya : w1.cell? ⟨w.heap.size + 1, a, none⟩ = some (.int .i64 (r a)) := by rw [HRR.out.cell, regCells_get r a ha]
  have yb : w1.cell? ⟨w.heap.size + 1, b, none⟩ = some (.int .i64 (r b)) := by rw [HRR.out.cell, regCells_get r b hb]
  have yc : w1.cell? ⟨w.heap.size + 1, c, none⟩ = some (.int .i64 (r c)) := by rw [HRR.out.cell, regCells_get r c hc]
  have HN1 : Hid (¬ w.heap.size = w1.heap.size ∧ ¬ w.heap.size + 1 = w1.heap.size ∧ ¬ w.heap.size + 1 + 1 = w1.heap.size ∧ w.heap.size ≤ w1.heap.size) := by
    have := HZ.out.lt
    exact ⟨by omega, by omega, by omega, by omega⟩
  have HNEW : Hid (Row (w1.alloc (.cells (effCells zeroEff).toArray 30)) w1.heap.size 30 (effCells zeroEff)) := Row.new _ 30 (effCells zeroEff)
  clear x0 x1 x2 x3 x4 ya yb yc
  go_upto_region 2 with (first | ((with_reducible refine at_op (o := ⟨some 18, _, _, _, _, _⟩) ?_); refine pl_load (o := ⟨some 18, _, _, _, _, _⟩) rfl 24 _ rfl (w.heap.size + 1) rfl 24 (regCells r) HRR.out _ Tryd.underlying24 rfl (sizeR _) ?_) | ((with_reducible refine at_op (o := ⟨some 21, _, _, _, _, _⟩) ?_); refine pl_build2 (o := ⟨some 21, _, _, _, _, _⟩) rfl (.tmp 18) (.tmp 20) rfl r (pc + 1) rfl rfl ?_) | ((with_reducible refine at_op (o := ⟨none, .store 30 (.tmp 13) (.tmp 21), _, _, _, _⟩) ?_); refine pl_store (o := ⟨none, .store 30 (.tmp 13) (.tmp 21), _, _, _, _⟩) rfl 30 (.tmp 13) (.tmp 21) rfl (w1.heap.size) rfl 30 (effCells zeroEff) (effCells (eff0 r (pc + 1) 0)) rfl HNEW.out (sizeE _) (lenE _ _) (eff_one _) ?_; intro w4 hr4 hc4; have HE4 := Lib.hid hr4; have HX4 := Lib.hid ((HX.out.alloc _).keepIs hc4 HN1.out.1); have HR4 := Lib.hid ((HRR.out.alloc _).keepIs hc4 HN1.out.2.1); have HZ4 := Lib.hid ((HZ.out.alloc _).keepIs hc4 HN1.out.2.2.1); have HC4 := Lib.hid (ch_newg (HC0.out.alloc _) hc4 HN1.out.2.2.2); clear hr4 hc4))
  have hlt4 : w1.heap.size < w4.heap.size := HE4.out.lt
  have x0 : w4.cell? ⟨w.heap.size, 0, none⟩ = some (.int .u8 6) := HX4.out.cell 0
  have x1 : w4.cell? ⟨w.heap.size, 1, none⟩ = some (.int .u8 a) := HX4.out.cell 1
  have x2 : w4.cell? ⟨w.heap.size, 2, none⟩ = some (.int .u8 b) := HX4.out.cell 2
  have x3 : w4.cell? ⟨w.heap.size, 3, none⟩ = some (.int .u8 c) := HX4.out.cell 3
  have x4 : w4.cell? ⟨w.heap.size, 4, none⟩ = some (.int .i32 n) := HX4.out.cell 4
  have ya : w4.cell? ⟨w.heap.size + 1, a, none⟩ = some (.int .i64 (r a)) := by rw [HR4.out.cell, regCells_get r a ha]
  have yb : w4.cell? ⟨w.heap.size + 1, b, none⟩ = some (.int .i64 (r b)) := by rw [HR4.out.cell, regCells_get r b hb]
  have yc : w4.cell? ⟨w.heap.size + 1, c, none⟩ = some (.int .i64 (r c)) := by rw [HR4.out.cell, regCells_get r c hc]
  go_wp2_with (first | ((with_reducible refine at_op (o := ⟨some 71, _, _, _, _, _⟩) ?_); refine pl_load (o := ⟨some 71, _, _, _, _, _⟩) rfl 45 _ rfl (w.heap.size) rfl 45 (insCells 6 a b c n) HX4.out _ Tryd.underlying45 rfl (size45) ?_) | ((with_reducible refine at_op (o := ⟨some 74, _, _, _, _, _⟩) ?_); refine pl_load (o := ⟨some 74, _, _, _, _, _⟩) rfl 24 _ rfl (w.heap.size + 1) rfl 24 (regCells r) HR4.out _ Tryd.underlying24 rfl (sizeR _) ?_) | (go_at_call 69; refine (mem_st a b c n ha hb M xs mcap hm fixed r pc hp0 hp1 hn0 hn1 _ h1 h2 h3).mono ?_; rintro e w5 ⟨rfl, hc5⟩; have HZ5 := Lib.hid (HZ4.out.keepNo hc5); have HC5 := Lib.hid (HC4.out.then_ hc5); clear hc5) | ((with_reducible refine at_op (o := ⟨none, .store 30 (.tmp 12) (.tmp 76), _, _, _, _⟩) ?_); refine pl_store (o := ⟨none, .store 30 (.tmp 12) (.tmp 76), _, _, _, _⟩) rfl 30 (.tmp 12) (.tmp 76) rfl (w.heap.size + 1 + 1) rfl 30 (effCells zeroEff) (effCells ({ eff0 r (pc + 1) 0 with st := true, addr := Fadd (r b) n, val := r a })) rfl HZ5.out (sizeE _) (lenE _ _) (eff_one _) ?_; intro w6 hr6 hc6; have HR6 := Lib.hid hr6; have HC6 := Lib.hid hc6; clear hr6 hc6))
  refine bodyPost_ret (v := .agg (effCells ({ eff0 r (pc + 1) 0 with st := true, addr := Fadd (r b) n, val := r a })).toArray) (results_row rfl _ _ (w.heap.size + 1 + 1) 30 _ _ rfl HR6.out Tryd.underlying30 rfl (sizeE _)) rfl ⟨rfl, ?_⟩
  exact ch_newg HC5.out HC6.out (by omega)
set_option maxRecDepth 100000 in
set_option maxHeartbeats 4000000 in
theorem done_10_zero (A : Option Addr) (len cap : Nat) (hl : len ≤ 9223372036854775807) (M : Option Addr) (xs : List Int) (mcap : Nat) (hm : xs.length ≤ 9223372036854775807) (fixed : Int) (a b c : Nat) (n : Int) (ha : a < 16) (hb : b < 16) (hc : c < 16) (r : Nat → Int) (hin : ∀ i, i < 16 → In64 (r i)) (pc : Int) (hp0 : -9223372036854775808 ≤ pc) (hp1 : pc < 9223372036854775807) (hn0 : -2147483648 ≤ n) (hn1 : n ≤ 2147483647) (w : World) (h0 : r c = 0) :
    Calls Tryd.prog 30 #[.slice A len cap, .agg (insCells 10 a b c n).toArray, .slice M xs.length mcap, .int .i64 fixed, .agg (regCells r).toArray, .int .i64 pc] w fun e w' => e = .returned (.agg (effCells (eff0 r (pc + 1) 3)).toArray) ∧ Ch No w w' := by
  have HX : Hid (Row (World.alloc (World.alloc (World.alloc w (.cells (insCells 10 a b c n).toArray 45)) (.cells (regCells r).toArray 24)) (.cells (effCells zeroEff).toArray 30)) w.heap.size 45 (insCells 10 a b c n)) := ((Row.new w 45 (insCells 10 a b c n)).alloc _).alloc _
  have HRR : Hid (Row (World.alloc (World.alloc (World.alloc w (.cells (insCells 10 a b c n).toArray 45)) (.cells (regCells r).toArray 24)) (.cells (effCells zeroEff).toArray 30)) (w.heap.size + 1) 24 (regCells r)) := (Row.new_at _ 24 (regCells r) (by simp)).alloc _
  have HZ : Hid (Row (World.alloc (World.alloc (World.alloc w (.cells (insCells 10 a b c n).toArray 45)) (.cells (regCells r).toArray 24)) (.cells (effCells zeroEff).toArray 30)) (w.heap.size + 1 + 1) 30 (effCells zeroEff)) := Row.new_at _ 30 (effCells zeroEff) (by simp)
  have HC0 : Hid (Ch No w (World.alloc (World.alloc (World.alloc w (.cells (insCells 10 a b c n).toArray 45)) (.cells (regCells r).toArray 24)) (.cells (effCells zeroEff).toArray 30))) := (((Ch.refl No w).alloc _).alloc _).alloc _
  have hnw : IntKind.i64.wrap n = n := by rw [i64_wrap, bv_in ⟨by omega, by omega⟩]
  have ia : (a : Int) < 16 := by omega
  have ib : (b : Int) < 16 := by omega
  have ic : (c : Int) < 16 := by omega
  have HIN := Lib.hid hin
  clear hin
  have H0 := Lib.hid h0
  clear h0
  go_enter Tryd.func30, Tryd.ntmps30
  go_upto_region 1 with (fail)
  change Code.wp _ _ _ _ (World.alloc (World.alloc (World.alloc w (.cells (insCells 10 a b c n).toArray 45)) (.cells (regCells r).toArray 24)) (.cells (effCells zeroEff).toArray 30))
  generalize World.alloc (World.alloc (World.alloc w (.cells (insCells 10 a b c n).toArray 45)) (.cells (regCells r).toArray 24)) (.cells (effCells zeroEff).toArray 30) = w1 at *
  have x0 : w1.cell? ⟨w.heap.size, 0, none⟩ = some (.int .u8 10) := HX.out.cell 0
  have x1 : w1.cell? ⟨w.heap.size, 1, none⟩ = some (.int .u8 a) := HX.out.cell 1
  have x2 : w1.cell? ⟨w.heap.size, 2, none⟩ = some (.int .u8 b) := HX.out.cell 2
  have x3 : w1.cell? ⟨w.heap.size, 3, none⟩ = some (.int .u8 c) := HX.out.cell 3
  have x4 : w1.cell? ⟨w.heap.size, 4, none⟩ = some (.int .i32 n) := HX.out.cell 4
  have ya : w1.cell? ⟨w.heap.size + 1, a, none⟩ = some (.int .i64 (r a)) := by rw [HRR.out.cell, regCells_get r a ha]
  have yb : w1.cell? ⟨w.heap.size + 1, b, none⟩ = some (.int .i64 (r b)) := by rw [HRR.out.cell, regCells_get r b hb]
  have yc : w1.cell? ⟨w.heap.size + 1, c, none⟩ = some (.int .i64 (r c)) := by rw [HRR.out.cell, regCells_get r c hc]
  have HN1 : Hid (¬ w.heap.size = w1.heap.size ∧ ¬ w.heap.size + 1 = w1.heap.size ∧ ¬ w.heap.size + 1 + 1 = w1.heap.size ∧ w.heap.size ≤ w1.heap.size) := by
    have := HZ.out.lt
    exact ⟨by omega, by omega, by omega, by omega⟩
  have HNEW : Hid (Row (w1.alloc (.cells (effCells zeroEff).toArray 30)) w1.heap.size 30 (effCells zeroEff)) := Row.new _ 30 (effCells zeroEff)
  clear x0 x1 x2 x3 x4 ya yb yc
  go_upto_region 2 with (first | ((with_reducible refine at_op (o := ⟨some 18, _, _, _, _, _⟩) ?_); refine pl_load (o := ⟨some 18, _, _, _, _, _⟩) rfl 24 _ rfl (w.heap.size + 1) rfl 24 (regCells r) HRR.out _ Tryd.underlying24 rfl (sizeR _) ?_) | ((with_reducible refine at_op (o := ⟨some 21, _, _, _, _, _⟩) ?_); refine pl_build2 (o := ⟨some 21, _, _, _, _, _⟩) rfl (.tmp 18) (.tmp 20) rfl r (pc + 1) rfl rfl ?_) | ((with_reducible refine at_op (o := ⟨none, .store 30 (.tmp 13) (.tmp 21), _, _, _, _⟩) ?_); refine pl_store (o := ⟨none, .store 30 (.tmp 13) (.tmp 21), _, _, _, _⟩) rfl 30 (.tmp 13) (.tmp 21) rfl (w1.heap.size) rfl 30 (effCells zeroEff) (effCells (eff0 r (pc + 1) 0)) rfl HNEW.out (sizeE _) (lenE _ _) (eff_one _) ?_; intro w4 hr4 hc4; have HE4 := Lib.hid hr4; have HX4 := Lib.hid ((HX.out.alloc _).keepIs hc4 HN1.out.1); have HR4 := Lib.hid ((HRR.out.alloc _).keepIs hc4 HN1.out.2.1); have HZ4 := Lib.hid ((HZ.out.alloc _).keepIs hc4 HN1.out.2.2.1); have HC4 := Lib.hid (ch_newg (HC0.out.alloc _) hc4 HN1.out.2.2.2); clear hr4 hc4))
  have hlt4 : w1.heap.size < w4.heap.size := HE4.out.lt
  have x0 : w4.cell? ⟨w.heap.size, 0, none⟩ = some (.int .u8 10) := HX4.out.cell 0
  have x1 : w4.cell? ⟨w.heap.size, 1, none⟩ = some (.int .u8 a) := HX4.out.cell 1
  have x2 : w4.cell? ⟨w.heap.size, 2, none⟩ = some (.int .u8 b) := HX4.out.cell 2
  have x3 : w4.cell? ⟨w.heap.size, 3, none⟩ = some (.int .u8 c) := HX4.out.cell 3
  have x4 : w4.cell? ⟨w.heap.size, 4, none⟩ = some (.int .i32 n) := HX4.out.cell 4
  have ya : w4.cell? ⟨w.heap.size + 1, a, none⟩ = some (.int .i64 (r a)) := by rw [HR4.out.cell, regCells_get r a ha]
  have yb : w4.cell? ⟨w.heap.size + 1, b, none⟩ = some (.int .i64 (r b)) := by rw [HR4.out.cell, regCells_get r b hb]
  have yc : w4.cell? ⟨w.heap.size + 1, c, none⟩ = some (.int .i64 (r c)) := by rw [HR4.out.cell, regCells_get r c hc]
  go_wp2_with (first | ((with_reducible refine at_op (o := ⟨some 80, _, _, _, _, _⟩) ?_); refine pl_load (o := ⟨some 80, _, _, _, _, _⟩) rfl 45 _ rfl (w.heap.size) rfl 45 (insCells 10 a b c n) HX4.out _ Tryd.underlying45 rfl (size45) ?_) | ((with_reducible refine at_op (o := ⟨some 81, _, _, _, _, _⟩) ?_); refine pl_load (o := ⟨some 81, _, _, _, _, _⟩) rfl 24 _ rfl (w.heap.size + 1) rfl 24 (regCells r) HR4.out _ Tryd.underlying24 rfl (sizeR _) ?_) | (go_at_call 70; refine (div_10_zero a b c n ha hb hc r HIN.out pc hp0 hp1 hn0 hn1 _ H0.out).mono ?_; rintro e w5 ⟨rfl, hc5⟩; have HZ5 := Lib.hid (HZ4.out.keepNo hc5); have HC5 := Lib.hid (HC4.out.then_ hc5); clear hc5) | ((with_reducible refine at_op (o := ⟨none, .store 30 (.tmp 12) (.tmp 83), _, _, _, _⟩) ?_); refine pl_store (o := ⟨none, .store 30 (.tmp 12) (.tmp 83), _, _, _, _⟩) rfl 30 (.tmp 12) (.tmp 83) rfl (w.heap.size + 1 + 1) rfl 30 (effCells zeroEff) (effCells (eff0 r (pc + 1) 3)) rfl HZ5.out (sizeE _) (lenE _ _) (eff_one _) ?_; intro w6 hr6 hc6; have HR6 := Lib.hid hr6; have HC6 := Lib.hid hc6; clear hr6 hc6))
  refine bodyPost_ret (v := .agg (effCells (eff0 r (pc + 1) 3)).toArray) (results_row rfl _ _ (w.heap.size + 1 + 1) 30 _ _ rfl HR6.out Tryd.underlying30 rfl (sizeE _)) rfl ⟨rfl, ?_⟩
  exact ch_newg HC5.out HC6.out (by omega)
set_option maxRecDepth 100000 in
set_option maxHeartbeats 4000000 in
theorem done_10 (A : Option Addr) (len cap : Nat) (hl : len ≤ 9223372036854775807) (M : Option Addr) (xs : List Int) (mcap : Nat) (hm : xs.length ≤ 9223372036854775807) (fixed : Int) (a b c : Nat) (n : Int) (ha : a < 16) (hb : b < 16) (hc : c < 16) (r : Nat → Int) (hin : ∀ i, i < 16 → In64 (r i)) (pc : Int) (hp0 : -9223372036854775808 ≤ pc) (hp1 : pc < 9223372036854775807) (hn0 : -2147483648 ≤ n) (hn1 : n ≤ 2147483647) (w : World) (h0 : r c ≠ 0) :
    Calls Tryd.prog 30 #[.slice A len cap, .agg (insCells 10 a b c n).toArray, .slice M xs.length mcap, .int .i64 fixed, .agg (regCells r).toArray, .int .i64 pc] w fun e w' => e = .returned (.agg (effCells ((eff0 r (pc + 1) 0).reg a (Fdiv (r b) (r c)))).toArray) ∧ Ch No w w' := by
  have HX : Hid (Row (World.alloc (World.alloc (World.alloc w (.cells (insCells 10 a b c n).toArray 45)) (.cells (regCells r).toArray 24)) (.cells (effCells zeroEff).toArray 30)) w.heap.size 45 (insCells 10 a b c n)) := ((Row.new w 45 (insCells 10 a b c n)).alloc _).alloc _
  have HRR : Hid (Row (World.alloc (World.alloc (World.alloc w (.cells (insCells 10 a b c n).toArray 45)) (.cells (regCells r).toArray 24)) (.cells (effCells zeroEff).toArray 30)) (w.heap.size + 1) 24 (regCells r)) := (Row.new_at _ 24 (regCells r) (by simp)).alloc _
  have HZ : Hid (Row (World.alloc (World.alloc (World.alloc w (.cells (insCells 10 a b c n).toArray 45)) (.cells (regCells r).toArray 24)) (.cells (effCells zeroEff).toArray 30)) (w.heap.size + 1 + 1) 30 (effCells zeroEff)) := Row.new_at _ 30 (effCells zeroEff) (by simp)
  have HC0 : Hid (Ch No w (World.alloc (World.alloc (World.alloc w (.cells (insCells 10 a b c n).toArray 45)) (.cells (regCells r).toArray 24)) (.cells (effCells zeroEff).toArray 30))) := (((Ch.refl No w).alloc _).alloc _).alloc _
  have hnw : IntKind.i64.wrap n = n := by rw [i64_wrap, bv_in ⟨by omega, by omega⟩]
  have ia : (a : Int) < 16 := by omega
  have ib : (b : Int) < 16 := by omega
  have ic : (c : Int) < 16 := by omega
  have HIN := Lib.hid hin
  clear hin
  have H0 := Lib.hid h0
  clear h0
  go_enter Tryd.func30, Tryd.ntmps30
  go_upto_region 1 with (fail)
  change Code.wp _ _ _ _ (World.alloc (World.alloc (World.alloc w (.cells (insCells 10 a b c n).toArray 45)) (.cells (regCells r).toArray 24)) (.cells (effCells zeroEff).toArray 30))
  generalize World.alloc (World.alloc (World.alloc w (.cells (insCells 10 a b c n).toArray 45)) (.cells (regCells r).toArray 24)) (.cells (effCells zeroEff).toArray 30) = w1 at *
  have x0 : w1.cell? ⟨w.heap.size, 0, none⟩ = some (.int .u8 10) := HX.out.cell 0
  have x1 : w1.cell? ⟨w.heap.size, 1, none⟩ = some (.int .u8 a) := HX.out.cell 1
  have x2 : w1.cell? ⟨w.heap.size, 2, none⟩ = some (.int .u8 b) := HX.out.cell 2
  have x3 : w1.cell? ⟨w.heap.size, 3, none⟩ = some (.int .u8 c) := HX.out.cell 3
  have x4 : w1.cell? ⟨w.heap.size, 4, none⟩ = some (.int .i32 n) := HX.out.cell 4
  have ya : w1.cell? ⟨w.heap.size + 1, a, none⟩ = some (.int .i64 (r a)) := by rw [HRR.out.cell, regCells_get r a ha]
  have yb : w1.cell? ⟨w.heap.size + 1, b, none⟩ = some (.int .i64 (r b)) := by rw [HRR.out.cell, regCells_get r b hb]
  have yc : w1.cell? ⟨w.heap.size + 1, c, none⟩ = some (.int .i64 (r c)) := by rw [HRR.out.cell, regCells_get r c hc]
  have HN1 : Hid (¬ w.heap.size = w1.heap.size ∧ ¬ w.heap.size + 1 = w1.heap.size ∧ ¬ w.heap.size + 1 + 1 = w1.heap.size ∧ w.heap.size ≤ w1.heap.size) := by
    have := HZ.out.lt
    exact ⟨by omega, by omega, by omega, by omega⟩
  have HNEW : Hid (Row (w1.alloc (.cells (effCells zeroEff).toArray 30)) w1.heap.size 30 (effCells zeroEff)) := Row.new _ 30 (effCells zeroEff)
  clear x0 x1 x2 x3 x4 ya yb yc
  go_upto_region 2 with (first | ((with_reducible refine at_op (o := ⟨some 18, _, _, _, _, _⟩) ?_); refine pl_load (o := ⟨some 18, _, _, _, _, _⟩) rfl 24 _ rfl (w.heap.size + 1) rfl 24 (regCells r) HRR.out _ Tryd.underlying24 rfl (sizeR _) ?_) | ((with_reducible refine at_op (o := ⟨some 21, _, _, _, _, _⟩) ?_); refine pl_build2 (o := ⟨some 21, _, _, _, _, _⟩) rfl (.tmp 18) (.tmp 20) rfl r (pc + 1) rfl rfl ?_) | ((with_reducible refine at_op (o := ⟨none, .store 30 (.tmp 13) (.tmp 21), _, _, _, _⟩) ?_); refine pl_store (o := ⟨none, .store 30 (.tmp 13) (.tmp 21), _, _, _, _⟩) rfl 30 (.tmp 13) (.tmp 21) rfl (w1.heap.size) rfl 30 (effCells zeroEff) (effCells (eff0 r (pc + 1) 0)) rfl HNEW.out (sizeE _) (lenE _ _) (eff_one _) ?_; intro w4 hr4 hc4; have HE4 := Lib.hid hr4; have HX4 := Lib.hid ((HX.out.alloc _).keepIs hc4 HN1.out.1); have HR4 := Lib.hid ((HRR.out.alloc _).keepIs hc4 HN1.out.2.1); have HZ4 := Lib.hid ((HZ.out.alloc _).keepIs hc4 HN1.out.2.2.1); have HC4 := Lib.hid (ch_newg (HC0.out.alloc _) hc4 HN1.out.2.2.2); clear hr4 hc4))
  have hlt4 : w1.heap.size < w4.heap.size := HE4.out.lt
  have x0 : w4.cell? ⟨w.heap.size, 0, none⟩ = some (.int .u8 10) := HX4.out.cell 0
  have x1 : w4.cell? ⟨w.heap.size, 1, none⟩ = some (.int .u8 a) := HX4.out.cell 1
  have x2 : w4.cell? ⟨w.heap.size, 2, none⟩ = some (.int .u8 b) := HX4.out.cell 2
  have x3 : w4.cell? ⟨w.heap.size, 3, none⟩ = some (.int .u8 c) := HX4.out.cell 3
  have x4 : w4.cell? ⟨w.heap.size, 4, none⟩ = some (.int .i32 n) := HX4.out.cell 4
  have ya : w4.cell? ⟨w.heap.size + 1, a, none⟩ = some (.int .i64 (r a)) := by rw [HR4.out.cell, regCells_get r a ha]
  have yb : w4.cell? ⟨w.heap.size + 1, b, none⟩ = some (.int .i64 (r b)) := by rw [HR4.out.cell, regCells_get r b hb]
  have yc : w4.cell? ⟨w.heap.size + 1, c, none⟩ = some (.int .i64 (r c)) := by rw [HR4.out.cell, regCells_get r c hc]
  go_wp2_with (first | ((with_reducible refine at_op (o := ⟨some 80, _, _, _, _, _⟩) ?_); refine pl_load (o := ⟨some 80, _, _, _, _, _⟩) rfl 45 _ rfl (w.heap.size) rfl 45 (insCells 10 a b c n) HX4.out _ Tryd.underlying45 rfl (size45) ?_) | ((with_reducible refine at_op (o := ⟨some 81, _, _, _, _, _⟩) ?_); refine pl_load (o := ⟨some 81, _, _, _, _, _⟩) rfl 24 _ rfl (w.heap.size + 1) rfl 24 (regCells r) HR4.out _ Tryd.underlying24 rfl (sizeR _) ?_) | (go_at_call 70; refine (div_10 a b c n ha hb hc r HIN.out pc hp0 hp1 hn0 hn1 _ H0.out).mono ?_; rintro e w5 ⟨rfl, hc5⟩; have HZ5 := Lib.hid (HZ4.out.keepNo hc5); have HC5 := Lib.hid (HC4.out.then_ hc5); clear hc5) | ((with_reducible refine at_op (o := ⟨none, .store 30 (.tmp 12) (.tmp 83), _, _, _, _⟩) ?_); refine pl_store (o := ⟨none, .store 30 (.tmp 12) (.tmp 83), _, _, _, _⟩) rfl 30 (.tmp 12) (.tmp 83) rfl (w.heap.size + 1 + 1) rfl 30 (effCells zeroEff) (effCells ((eff0 r (pc + 1) 0).reg a (Fdiv (r b) (r c)))) rfl HZ5.out (sizeE _) (lenE _ _) (eff_one _) ?_; intro w6 hr6 hc6; have HR6 := Lib.hid hr6; have HC6 := Lib.hid hc6; clear hr6 hc6))
  refine bodyPost_ret (v := .agg (effCells ((eff0 r (pc + 1) 0).reg a (Fdiv (r b) (r c)))).toArray) (results_row rfl _ _ (w.heap.size + 1 + 1) 30 _ _ rfl HR6.out Tryd.underlying30 rfl (sizeE _)) rfl ⟨rfl, ?_⟩
  exact ch_newg HC5.out HC6.out (by omega)
set_option maxRecDepth 100000 in
set_option maxHeartbeats 4000000 in
theorem done_11_zero (A : Option Addr) (len cap : Nat) (hl : len ≤ 9223372036854775807) (M : Option Addr) (xs : List Int) (mcap : Nat) (hm : xs.length ≤ 9223372036854775807) (fixed : Int) (a b c : Nat) (n : Int) (ha : a < 16) (hb : b < 16) (hc : c < 16) (r : Nat → Int) (hin : ∀ i, i < 16 → In64 (r i)) (pc : Int) (hp0 : -9223372036854775808 ≤ pc) (hp1 : pc < 9223372036854775807) (hn0 : -2147483648 ≤ n) (hn1 : n ≤ 2147483647) (w : World) (h0 : r c = 0) :
    Calls Tryd.prog 30 #[.slice A len cap, .agg (insCells 11 a b c n).toArray, .slice M xs.length mcap, .int .i64 fixed, .agg (regCells r).toArray, .int .i64 pc] w fun e w' => e = .returned (.agg (effCells (eff0 r (pc + 1) 3)).toArray) ∧ Ch No w w' := by
  have HX : Hid (Row (World.alloc (World.alloc (World.alloc w (.cells (insCells 11 a b c n).toArray 45)) (.cells (regCells r).toArray 24)) (.cells (effCells zeroEff).toArray 30)) w.heap.size 45 (insCells 11 a b c n)) := ((Row.new w 45 (insCells 11 a b c n)).alloc _).alloc _
  have HRR : Hid (Row (World.alloc (World.alloc (World.alloc w (.cells (insCells 11 a b c n).toArray 45)) (.cells (regCells r).toArray 24)) (.cells (effCells zeroEff).toArray 30)) (w.heap.size + 1) 24 (regCells r)) := (Row.new_at _ 24 (regCells r) (by simp)).alloc _
  have HZ : Hid (Row (World.alloc (World.alloc (World.alloc w (.cells (insCells 11 a b c n).toArray 45)) (.cells (regCells r).toArray 24)) (.cells (effCells zeroEff).toArray 30)) (w.heap.size + 1 + 1) 30 (effCells zeroEff)) := Row.new_at _ 30 (effCells zeroEff) (by simp)
  have HC0 : Hid (Ch No w (World.alloc (World.alloc (World.alloc w (.cells (insCells 11 a b c n).toArray 45)) (.cells (regCells r).toArray 24)) (.cells (effCells zeroEff).toArray 30))) := (((Ch.refl No w).alloc _).alloc _).alloc _
  have hnw : IntKind.i64.wrap n = n := by rw [i64_wrap, bv_in ⟨by omega, by omega⟩]
  have ia : (a : Int) < 16 := by omega
  have ib : (b : Int) < 16 := by omega
  have ic : (c : Int) < 16 := by omega
  have HIN := Lib.hid hin
  clear hin
  have H0 := Lib.hid h0
  clear h0
  go_enter Tryd.func30, Tryd.ntmps30
  go_upto_region 1 with (fail)
  change Code.wp _ _ _ _ (World.alloc (World.alloc (World.alloc w (.cells (insCells 11 a b c n).toArray 45)) (.cells (regCells r).toArray 24)) (.cells (effCells zeroEff).toArray 30))
  generalize World.alloc (World.alloc (World.alloc w (.cells (insCells 11 a b c n).toArray 45)) (.cells (regCells r).toArray 24)) (.cells (effCells zeroEff).toArray 30) = w1 at *
  have x0 : w1.cell? ⟨w.heap.size, 0, none⟩ = some (.int .u8 11) := HX.out.cell 0
  have x1 : w1.cell? ⟨w.heap.size, 1, none⟩ = some (.int .u8 a) := HX.out.cell 1
  have x2 : w1.cell? ⟨w.heap.size, 2, none⟩ = some (.int .u8 b) := HX.out.cell 2
  have x3 : w1.cell? ⟨w.heap.size, 3, none⟩ = some (.int .u8 c) := HX.out.cell 3
  have x4 : w1.cell? ⟨w.heap.size, 4, none⟩ = some (.int .i32 n) := HX.out.cell 4
  have ya : w1.cell? ⟨w.heap.size + 1, a, none⟩ = some (.int .i64 (r a)) := by rw [HRR.out.cell, regCells_get r a ha]
  have yb : w1.cell? ⟨w.heap.size + 1, b, none⟩ = some (.int .i64 (r b)) := by rw [HRR.out.cell, regCells_get r b hb]
  have yc : w1.cell? ⟨w.heap.size + 1, c, none⟩ = some (.int .i64 (r c)) := by rw [HRR.out.cell, regCells_get r c hc]
  have HN1 : Hid (¬ w.heap.size = w1.heap.size ∧ ¬ w.heap.size + 1 = w1.heap.size ∧ ¬ w.heap.size + 1 + 1 = w1.heap.size ∧ w.heap.size ≤ w1.heap.size) := by
    have := HZ.out.lt
    exact ⟨by omega, by omega, by omega, by omega⟩
  have HNEW : Hid (Row (w1.alloc (.cells (effCells zeroEff).toArray 30)) w1.heap.size 30 (effCells zeroEff)) := Row.new _ 30 (effCells zeroEff)
  clear x0 x1 x2 x3 x4 ya yb yc
  go_upto_region 2 with (first | ((with_reducible refine at_op (o := ⟨some 18, _, _, _, _, _⟩) ?_); refine pl_load (o := ⟨some 18, _, _, _, _, _⟩) rfl 24 _ rfl (w.heap.size + 1) rfl 24 (regCells r) HRR.out _ Tryd.underlying24 rfl (sizeR _) ?_) | ((with_reducible refine at_op (o := ⟨some 21, _, _, _, _, _⟩) ?_); refine pl_build2 (o := ⟨some 21, _, _, _, _, _⟩) rfl (.tmp 18) (.tmp 20) rfl r (pc + 1) rfl rfl ?_) | ((with_reducible refine at_op (o := ⟨none, .store 30 (.tmp 13) (.tmp 21), _, _, _, _⟩) ?_); refine pl_store (o := ⟨none, .store 30 (.tmp 13) (.tmp 21), _, _, _, _⟩) rfl 30 (.tmp 13) (.tmp 21) rfl (w1.heap.size) rfl 30 (effCells zeroEff) (effCells (eff0 r (pc + 1) 0)) rfl HNEW.out (sizeE _) (lenE _ _) (eff_one _) ?_; intro w4 hr4 hc4; have HE4 := Lib.hid hr4; have HX4 := Lib.hid ((HX.out.alloc _).keepIs hc4 HN1.out.1); have HR4 := Lib.hid ((HRR.out.alloc _).keepIs hc4 HN1.out.2.1); have HZ4 := Lib.hid ((HZ.out.alloc _).keepIs hc4 HN1.out.2.2.1); have HC4 := Lib.hid (ch_newg (HC0.out.alloc _) hc4 HN1.out.2.2.2); clear hr4 hc4))
  have hlt4 : w1.heap.size < w4.heap.size := HE4.out.lt
  have x0 : w4.cell? ⟨w.heap.size, 0, none⟩ = some (.int .u8 11) := HX4.out.cell 0
  have x1 : w4.cell? ⟨w.heap.size, 1, none⟩ = some (.int .u8 a) := HX4.out.cell 1
  have x2 : w4.cell? ⟨w.heap.size, 2, none⟩ = some (.int .u8 b) := HX4.out.cell 2
  have x3 : w4.cell? ⟨w.heap.size, 3, none⟩ = some (.int .u8 c) := HX4.out.cell 3
  have x4 : w4.cell? ⟨w.heap.size, 4, none⟩ = some (.int .i32 n) := HX4.out.cell 4
  have ya : w4.cell? ⟨w.heap.size + 1, a, none⟩ = some (.int .i64 (r a)) := by rw [HR4.out.cell, regCells_get r a ha]
  have yb : w4.cell? ⟨w.heap.size + 1, b, none⟩ = some (.int .i64 (r b)) := by rw [HR4.out.cell, regCells_get r b hb]
  have yc : w4.cell? ⟨w.heap.size + 1, c, none⟩ = some (.int .i64 (r c)) := by rw [HR4.out.cell, regCells_get r c hc]
  go_wp2_with (first | ((with_reducible refine at_op (o := ⟨some 80, _, _, _, _, _⟩) ?_); refine pl_load (o := ⟨some 80, _, _, _, _, _⟩) rfl 45 _ rfl (w.heap.size) rfl 45 (insCells 11 a b c n) HX4.out _ Tryd.underlying45 rfl (size45) ?_) | ((with_reducible refine at_op (o := ⟨some 81, _, _, _, _, _⟩) ?_); refine pl_load (o := ⟨some 81, _, _, _, _, _⟩) rfl 24 _ rfl (w.heap.size + 1) rfl 24 (regCells r) HR4.out _ Tryd.underlying24 rfl (sizeR _) ?_) | (go_at_call 70; refine (div_11_zero a b c n ha hb hc r HIN.out pc hp0 hp1 hn0 hn1 _ H0.out).mono ?_; rintro e w5 ⟨rfl, hc5⟩; have HZ5 := Lib.hid (HZ4.out.keepNo hc5); have HC5 := Lib.hid (HC4.out.then_ hc5); clear hc5) | ((with_reducible refine at_op (o := ⟨none, .store 30 (.tmp 12) (.tmp 83), _, _, _, _⟩) ?_); refine pl_store (o := ⟨none, .store 30 (.tmp 12) (.tmp 83), _, _, _, _⟩) rfl 30 (.tmp 12) (.tmp 83) rfl (w.heap.size + 1 + 1) rfl 30 (effCells zeroEff) (effCells (eff0 r (pc + 1) 3)) rfl HZ5.out (sizeE _) (lenE _ _) (eff_one _) ?_; intro w6 hr6 hc6; have HR6 := Lib.hid hr6; have HC6 := Lib.hid hc6; clear hr6 hc6))
  refine bodyPost_ret (v := .agg (effCells (eff0 r (pc + 1) 3)).toArray) (results_row rfl _ _ (w.heap.size + 1 + 1) 30 _ _ rfl HR6.out Tryd.underlying30 rfl (sizeE _)) rfl ⟨rfl, ?_⟩
  exact ch_newg HC5.out HC6.out (by omega)
set_option maxRecDepth 100000 in
set_option maxHeartbeats 4000000 in
theorem done_11 (A : Option Addr) (len cap : Nat) (hl : len ≤ 9223372036854775807) (M : Option Addr) (xs : List Int) (mcap : Nat) (hm : xs.length ≤ 9223372036854775807) (fixed : Int) (a b c : Nat) (n : Int) (ha : a < 16) (hb : b < 16) (hc : c < 16) (r : Nat → Int) (hin : ∀ i, i < 16 → In64 (r i)) (pc : Int) (hp0 : -9223372036854775808 ≤ pc) (hp1 : pc < 9223372036854775807) (hn0 : -2147483648 ≤ n) (hn1 : n ≤ 2147483647) (w : World) (h0 : r c ≠ 0) :
    Calls Tryd.prog 30 #[.slice A len cap, .agg (insCells 11 a b c n).toArray, .slice M xs.length mcap, .int .i64 fixed, .agg (regCells r).toArray, .int .i64 pc] w fun e w' => e = .returned (.agg (effCells ((eff0 r (pc + 1) 0).reg a (Fmod (r b) (r c)))).toArray) ∧ Ch No w w' := by
  have HX : Hid (Row (World.alloc (World.alloc (World.alloc w (.cells (insCells 11 a b c n).toArray 45)) (.cells (regCells r).toArray 24)) (.cells (effCells zeroEff).toArray 30)) w.heap.size 45 (insCells 11 a b c n)) := ((Row.new w 45 (insCells 11 a b c n)).alloc _).alloc _
  have HRR : Hid (Row (World.alloc (World.alloc (World.alloc w (.cells (insCells 11 a b c n).toArray 45)) (.cells (regCells r).toArray 24)) (.cells (effCells zeroEff).toArray 30)) (w.heap.size + 1) 24 (regCells r)) := (Row.new_at _ 24 (regCells r) (by simp)).alloc _
  have HZ : Hid (Row (World.alloc (World.alloc (World.alloc w (.cells (insCells 11 a b c n).toArray 45)) (.cells (regCells r).toArray 24)) (.cells (effCells zeroEff).toArray 30)) (w.heap.size + 1 + 1) 30 (effCells zeroEff)) := Row.new_at _ 30 (effCells zeroEff) (by simp)
  have HC0 : Hid (Ch No w (World.alloc (World.alloc (World.alloc w (.cells (insCells 11 a b c n).toArray 45)) (.cells (regCells r).toArray 24)) (.cells (effCells zeroEff).toArray 30))) := (((Ch.refl No w).alloc _).alloc _).alloc _
  have hnw : IntKind.i64.wrap n = n := by rw [i64_wrap, bv_in ⟨by omega, by omega⟩]
  have ia : (a : Int) < 16 := by omega
  have ib : (b : Int) < 16 := by omega
  have ic : (c : Int) < 16 := by omega
  have HIN := Lib.hid hin
  clear hin
  have H0 := Lib.hid h0
  clear h0
  go_enter Tryd.func30, Tryd.ntmps30
  go_upto_region 1 with (fail)
  change Code.wp _ _ _ _ (World.alloc (World.alloc (World.alloc w (.cells (insCells 11 a b c n).toArray 45)) (.cells (regCells r).toArray 24)) (.cells (effCells zeroEff).toArray 30))
  generalize World.alloc (World.alloc (World.alloc w (.cells (insCells 11 a b c n).toArray 45)) (.cells (regCells r).toArray 24)) (.cells (effCells zeroEff).toArray 30) = w1 at *
  have x0 : w1.cell? ⟨w.heap.size, 0, none⟩ = some (.int .u8 11) := HX.out.cell 0
  have x1 : w1.cell? ⟨w.heap.size, 1, none⟩ = some (.int .u8 a) := HX.out.cell 1
  have x2 : w1.cell? ⟨w.heap.size, 2, none⟩ = some (.int .u8 b) := HX.out.cell 2
  have x3 : w1.cell? ⟨w.heap.size, 3, none⟩ = some (.int .u8 c) := HX.out.cell 3
  have x4 : w1.cell? ⟨w.heap.size, 4, none⟩ = some (.int .i32 n) := HX.out.cell 4
  have ya : w1.cell? ⟨w.heap.size + 1, a, none⟩ = some (.int .i64 (r a)) := by rw [HRR.out.cell, regCells_get r a ha]
  have yb : w1.cell? ⟨w.heap.size + 1, b, none⟩ = some (.int .i64 (r b)) := by rw [HRR.out.cell, regCells_get r b hb]
  have yc : w1.cell? ⟨w.heap.size + 1, c, none⟩ = some (.int .i64 (r c)) := by rw [HRR.out.cell, regCells_get r c hc]
  have HN1 : Hid (¬ w.heap.size = w1.heap.size ∧ ¬ w.heap.size + 1 = w1.heap.size ∧ ¬ w.heap.size + 1 + 1 = w1.heap.size ∧ w.heap.size ≤ w1.heap.size) := by
    have := HZ.out.lt
    exact ⟨by omega, by omega, by omega, by omega⟩
  have HNEW : Hid (Row (w1.alloc (.cells (effCells zeroEff).toArray 30)) w1.heap.size 30 (effCells zeroEff)) := Row.new _ 30 (effCells zeroEff)
  clear x0 x1 x2 x3 x4 ya yb yc
  go_upto_region 2 with (first | ((with_reducible refine at_op (o := ⟨some 18, _, _, _, _, _⟩) ?_); refine pl_load (o := ⟨some 18, _, _, _, _, _⟩) rfl 24 _ rfl (w.heap.size + 1) rfl 24 (regCells r) HRR.out _ Tryd.underlying24 rfl (sizeR _) ?_) | ((with_reducible refine at_op (o := ⟨some 21, _, _, _, _, _⟩) ?_); refine pl_build2 (o := ⟨some 21, _, _, _, _, _⟩) rfl (.tmp 18) (.tmp 20) rfl r (pc + 1) rfl rfl ?_) | ((with_reducible refine at_op (o := ⟨none, .store 30 (.tmp 13) (.tmp 21), _, _, _, _⟩) ?_); refine pl_store (o := ⟨none, .store 30 (.tmp 13) (.tmp 21), _, _, _, _⟩) rfl 30 (.tmp 13) (.tmp 21) rfl (w1.heap.size) rfl 30 (effCells zeroEff) (effCells (eff0 r (pc + 1) 0)) rfl HNEW.out (sizeE _) (lenE _ _) (eff_one _) ?_; intro w4 hr4 hc4; have HE4 := Lib.hid hr4; have HX4 := Lib.hid ((HX.out.alloc _).keepIs hc4 HN1.out.1); have HR4 := Lib.hid ((HRR.out.alloc _).keepIs hc4 HN1.out.2.1); have HZ4 := Lib.hid ((HZ.out.alloc _).keepIs hc4 HN1.out.2.2.1); have HC4 := Lib.hid (ch_newg (HC0.out.alloc _) hc4 HN1.out.2.2.2); clear hr4 hc4))
  have hlt4 : w1.heap.size < w4.heap.size := HE4.out.lt
  have x0 : w4.cell? ⟨w.heap.size, 0, none⟩ = some (.int .u8 11) := HX4.out.cell 0
  have x1 : w4.cell? ⟨w.heap.size, 1, none⟩ = some (.int .u8 a) := HX4.out.cell 1
  have x2 : w4.cell? ⟨w.heap.size, 2, none⟩ = some (.int .u8 b) := HX4.out.cell 2
  have x3 : w4.cell? ⟨w.heap.size, 3, none⟩ = some (.int .u8 c) := HX4.out.cell 3
  have x4 : w4.cell? ⟨w.heap.size, 4, none⟩ = some (.int .i32 n) := HX4.out.cell 4
  have ya : w4.cell? ⟨w.heap.size + 1, a, none⟩ = some (.int .i64 (r a)) := by rw [HR4.out.cell, regCells_get r a ha]
  have yb : w4.cell? ⟨w.heap.size + 1, b, none⟩ = some (.int .i64 (r b)) := by rw [HR4.out.cell, regCells_get r b hb]
  have yc : w4.cell? ⟨w.heap.size + 1, c, none⟩ = some (.int .i64 (r c)) := by rw [HR4.out.cell, regCells_get r c hc]
  go_wp2_with (first | ((with_reducible refine at_op (o := ⟨some 80, _, _, _, _, _⟩) ?_); refine pl_load (o := ⟨some 80, _, _, _, _, _⟩) rfl 45 _ rfl (w.heap.size) rfl 45 (insCells 11 a b c n) HX4.out _ Tryd.underlying45 rfl (size45) ?_) | ((with_reducible refine at_op (o := ⟨some 81, _, _, _, _, _⟩) ?_); refine pl_load (o := ⟨some 81, _, _, _, _, _⟩) rfl 24 _ rfl (w.heap.size + 1) rfl 24 (regCells r) HR4.out _ Tryd.underlying24 rfl (sizeR _) ?_) | (go_at_call 70; refine (div_11 a b c n ha hb hc r HIN.out pc hp0 hp1 hn0 hn1 _ H0.out).mono ?_; rintro e w5 ⟨rfl, hc5⟩; have HZ5 := Lib.hid (HZ4.out.keepNo hc5); have HC5 := Lib.hid (HC4.out.then_ hc5); clear hc5) | ((with_reducible refine at_op (o := ⟨none, .store 30 (.tmp 12) (.tmp 83), _, _, _, _⟩) ?_); refine pl_store (o := ⟨none, .store 30 (.tmp 12) (.tmp 83), _, _, _, _⟩) rfl 30 (.tmp 12) (.tmp 83) rfl (w.heap.size + 1 + 1) rfl 30 (effCells zeroEff) (effCells ((eff0 r (pc + 1) 0).reg a (Fmod (r b) (r c)))) rfl HZ5.out (sizeE _) (lenE _ _) (eff_one _) ?_; intro w6 hr6 hc6; have HR6 := Lib.hid hr6; have HC6 := Lib.hid hc6; clear hr6 hc6))
  refine bodyPost_ret (v := .agg (effCells ((eff0 r (pc + 1) 0).reg a (Fmod (r b) (r c)))).toArray) (results_row rfl _ _ (w.heap.size + 1 + 1) 30 _ _ rfl HR6.out Tryd.underlying30 rfl (sizeE _)) rfl ⟨rfl, ?_⟩
  exact ch_newg HC5.out HC6.out (by omega)
set_option maxRecDepth 100000 in
set_option maxHeartbeats 4000000 in
theorem done_22 (A : Option Addr) (len cap : Nat) (hl : len ≤ 9223372036854775807) (M : Option Addr) (xs : List Int) (mcap : Nat) (hm : xs.length ≤ 9223372036854775807) (fixed : Int) (a b c : Nat) (n : Int) (ha : a < 16) (hb : b < 16) (hc : c < 16) (r : Nat → Int) (hin : ∀ i, i < 16 → In64 (r i)) (pc : Int) (hp0 : -9223372036854775808 ≤ pc) (hp1 : pc < 9223372036854775807) (hn0 : -2147483648 ≤ n) (hn1 : n ≤ 2147483647) (w : World) :
    Calls Tryd.prog 30 #[.slice A len cap, .agg (insCells 22 a b c n).toArray, .slice M xs.length mcap, .int .i64 fixed, .agg (regCells r).toArray, .int .i64 pc] w fun e w' => e = .returned (.agg (effCells ({ eff0 r (pc + 1) 0 with pc := inn len n })).toArray) ∧ Ch No w w' := by
  have HX : Hid (Row (World.alloc (World.alloc (World.alloc w (.cells (insCells 22 a b c n).toArray 45)) (.cells (regCells r).toArray 24)) (.cells (effCells zeroEff).toArray 30)) w.heap.size 45 (insCells 22 a b c n)) := ((Row.new w 45 (insCells 22 a b c n)).alloc _).alloc _
  have HRR : Hid (Row (World.alloc (World.alloc (World.alloc w (.cells (insCells 22 a b c n).toArray 45)) (.cells (regCells r).toArray 24)) (.cells (effCells zeroEff).toArray 30)) (w.heap.size + 1) 24 (regCells r)) := (Row.new_at _ 24 (regCells r) (by simp)).alloc _
  have HZ : Hid (Row (World.alloc (World.alloc (World.alloc w (.cells (insCells 22 a b c n).toArray 45)) (.cells (regCells r).toArray 24)) (.cells (effCells zeroEff).toArray 30)) (w.heap.size + 1 + 1) 30 (effCells zeroEff)) := Row.new_at _ 30 (effCells zeroEff) (by simp)
  have HC0 : Hid (Ch No w (World.alloc (World.alloc (World.alloc w (.cells (insCells 22 a b c n).toArray 45)) (.cells (regCells r).toArray 24)) (.cells (effCells zeroEff).toArray 30))) := (((Ch.refl No w).alloc _).alloc _).alloc _
  have hnw : IntKind.i64.wrap n = n := by rw [i64_wrap, bv_in ⟨by omega, by omega⟩]
  have ia : (a : Int) < 16 := by omega
  have ib : (b : Int) < 16 := by omega
  have ic : (c : Int) < 16 := by omega
  have HIN := Lib.hid hin
  clear hin
  go_enter Tryd.func30, Tryd.ntmps30
  go_upto_region 1 with (fail)
  change Code.wp _ _ _ _ (World.alloc (World.alloc (World.alloc w (.cells (insCells 22 a b c n).toArray 45)) (.cells (regCells r).toArray 24)) (.cells (effCells zeroEff).toArray 30))
  generalize World.alloc (World.alloc (World.alloc w (.cells (insCells 22 a b c n).toArray 45)) (.cells (regCells r).toArray 24)) (.cells (effCells zeroEff).toArray 30) = w1 at *
  have x0 : w1.cell? ⟨w.heap.size, 0, none⟩ = some (.int .u8 22) := HX.out.cell 0
  have x1 : w1.cell? ⟨w.heap.size, 1, none⟩ = some (.int .u8 a) := HX.out.cell 1
  have x2 : w1.cell? ⟨w.heap.size, 2, none⟩ = some (.int .u8 b) := HX.out.cell 2
  have x3 : w1.cell? ⟨w.heap.size, 3, none⟩ = some (.int .u8 c) := HX.out.cell 3
  have x4 : w1.cell? ⟨w.heap.size, 4, none⟩ = some (.int .i32 n) := HX.out.cell 4
  have ya : w1.cell? ⟨w.heap.size + 1, a, none⟩ = some (.int .i64 (r a)) := by rw [HRR.out.cell, regCells_get r a ha]
  have yb : w1.cell? ⟨w.heap.size + 1, b, none⟩ = some (.int .i64 (r b)) := by rw [HRR.out.cell, regCells_get r b hb]
  have yc : w1.cell? ⟨w.heap.size + 1, c, none⟩ = some (.int .i64 (r c)) := by rw [HRR.out.cell, regCells_get r c hc]
  have HN1 : Hid (¬ w.heap.size = w1.heap.size ∧ ¬ w.heap.size + 1 = w1.heap.size ∧ ¬ w.heap.size + 1 + 1 = w1.heap.size ∧ w.heap.size ≤ w1.heap.size) := by
    have := HZ.out.lt
    exact ⟨by omega, by omega, by omega, by omega⟩
  have HNEW : Hid (Row (w1.alloc (.cells (effCells zeroEff).toArray 30)) w1.heap.size 30 (effCells zeroEff)) := Row.new _ 30 (effCells zeroEff)
  clear x0 x1 x2 x3 x4 ya yb yc
  go_upto_region 2 with (first | ((with_reducible refine at_op (o := ⟨some 18, _, _, _, _, _⟩) ?_); refine pl_load (o := ⟨some 18, _, _, _, _, _⟩) rfl 24 _ rfl (w.heap.size + 1) rfl 24 (regCells r) HRR.out _ Tryd.underlying24 rfl (sizeR _) ?_) | ((with_reducible refine at_op (o := ⟨some 21, _, _, _, _, _⟩) ?_); refine pl_build2 (o := ⟨some 21, _, _, _, _, _⟩) rfl (.tmp 18) (.tmp 20) rfl r (pc + 1) rfl rfl ?_) | ((with_reducible refine at_op (o := ⟨none, .store 30 (.tmp 13) (.tmp 21), _, _, _, _⟩) ?_); refine pl_store (o := ⟨none, .store 30 (.tmp 13) (.tmp 21), _, _, _, _⟩) rfl 30 (.tmp 13) (.tmp 21) rfl (w1.heap.size) rfl 30 (effCells zeroEff) (effCells (eff0 r (pc + 1) 0)) rfl HNEW.out (sizeE _) (lenE _ _) (eff_one _) ?_; intro w4 hr4 hc4; have HE4 := Lib.hid hr4; have HX4 := Lib.hid ((HX.out.alloc _).keepIs hc4 HN1.out.1); have HR4 := Lib.hid ((HRR.out.alloc _).keepIs hc4 HN1.out.2.1); have HZ4 := Lib.hid ((HZ.out.alloc _).keepIs hc4 HN1.out.2.2.1); have HC4 := Lib.hid (ch_newg (HC0.out.alloc _) hc4 HN1.out.2.2.2); clear hr4 hc4))
  have hlt4 : w1.heap.size < w4.heap.size := HE4.out.lt
  have x0 : w4.cell? ⟨w.heap.size, 0, none⟩ = some (.int .u8 22) := HX4.out.cell 0
  have x1 : w4.cell? ⟨w.heap.size, 1, none⟩ = some (.int .u8 a) := HX4.out.cell 1
  have x2 : w4.cell? ⟨w.heap.size, 2, none⟩ = some (.int .u8 b) := HX4.out.cell 2
  have x3 : w4.cell? ⟨w.heap.size, 3, none⟩ = some (.int .u8 c) := HX4.out.cell 3
  have x4 : w4.cell? ⟨w.heap.size, 4, none⟩ = some (.int .i32 n) := HX4.out.cell 4
  have ya : w4.cell? ⟨w.heap.size + 1, a, none⟩ = some (.int .i64 (r a)) := by rw [HR4.out.cell, regCells_get r a ha]
  have yb : w4.cell? ⟨w.heap.size + 1, b, none⟩ = some (.int .i64 (r b)) := by rw [HR4.out.cell, regCells_get r b hb]
  have yc : w4.cell? ⟨w.heap.size + 1, c, none⟩ = some (.int .i64 (r c)) := by rw [HR4.out.cell, regCells_get r c hc]
  go_wp2_with (first | ((with_reducible refine at_op (o := ⟨some 100, _, _, _, _, _⟩) ?_); refine pl_load (o := ⟨some 100, _, _, _, _, _⟩) rfl 45 _ rfl (w.heap.size) rfl 45 (insCells 22 a b c n) HX4.out _ Tryd.underlying45 rfl (size45) ?_) | ((with_reducible refine at_op (o := ⟨some 101, _, _, _, _, _⟩) ?_); refine pl_load (o := ⟨some 101, _, _, _, _, _⟩) rfl 24 _ rfl (w.heap.size + 1) rfl 24 (regCells r) HR4.out _ Tryd.underlying24 rfl (sizeR _) ?_) | (go_at_call 72; refine (jump_22 A len cap hl a b c n ha hb hc r HIN.out pc hp0 hp1 hn0 hn1 _).mono ?_; rintro e w5 ⟨rfl, hc5⟩; have HZ5 := Lib.hid (HZ4.out.keepNo hc5); have HC5 := Lib.hid (HC4.out.then_ hc5); clear hc5) | ((with_reducible refine at_op (o := ⟨none, .store 30 (.tmp 12) (.tmp 103), _, _, _, _⟩) ?_); refine pl_store (o := ⟨none, .store 30 (.tmp 12) (.tmp 103), _, _, _, _⟩) rfl 30 (.tmp 12) (.tmp 103) rfl (w.heap.size + 1 + 1) rfl 30 (effCells zeroEff) (effCells ({ eff0 r (pc + 1) 0 with pc := inn len n })) rfl HZ5.out (sizeE _) (lenE _ _) (eff_one _) ?_; intro w6 hr6 hc6; have HR6 := Lib.hid hr6; have HC6 := Lib.hid hc6; clear hr6 hc6))
  refine bodyPost_ret (v := .agg (effCells ({ eff0 r (pc + 1) 0 with pc := inn len n })).toArray) (results_row rfl _ _ (w.heap.size + 1 + 1) 30 _ _ rfl HR6.out Tryd.underlying30 rfl (sizeE _)) rfl ⟨rfl, ?_⟩
  exact ch_newg HC5.out HC6.out (by omega)
set_option maxRecDepth 100000 in
set_option maxHeartbeats 4000000 in
theorem done_23_go (A : Option Addr) (len cap : Nat) (hl : len ≤ 9223372036854775807) (M : Option Addr) (xs : List Int) (mcap : Nat) (hm : xs.length ≤ 9223372036854775807) (fixed : Int) (a b c : Nat) (n : Int) (ha : a < 16) (hb : b < 16) (hc : c < 16) (r : Nat → Int) (hin : ∀ i, i < 16 → In64 (r i)) (pc : Int) (hp0 : -9223372036854775808 ≤ pc) (hp1 : pc < 9223372036854775807) (hn0 : -2147483648 ≤ n) (hn1 : n ≤ 2147483647) (w : World) (h0 : r a = 0) :
    Calls Tryd.prog 30 #[.slice A len cap, .agg (insCells 23 a b c n).toArray, .slice M xs.length mcap, .int .i64 fixed, .agg (regCells r).toArray, .int .i64 pc] w fun e w' => e = .returned (.agg (effCells ({ eff0 r (pc + 1) 0 with pc := inn len n })).toArray) ∧ Ch No w w' := by
  have HX : Hid (Row (World.alloc (World.alloc (World.alloc w (.cells (insCells 23 a b c n).toArray 45)) (.cells (regCells r).toArray 24)) (.cells (effCells zeroEff).toArray 30)) w.heap.size 45 (insCells 23 a b c n)) := ((Row.new w 45 (insCells 23 a b c n)).alloc _).alloc _
  have HRR : Hid (Row (World.alloc (World.alloc (World.alloc w (.cells (insCells 23 a b c n).toArray 45)) (.cells (regCells r).toArray 24)) (.cells (effCells zeroEff).toArray 30)) (w.heap.size + 1) 24 (regCells r)) := (Row.new_at _ 24 (regCells r) (by simp)).alloc _
  have HZ : Hid (Row (World.alloc (World.alloc (World.alloc w (.cells (insCells 23 a b c n).toArray 45)) (.cells (regCells r).toArray 24)) (.cells (effCells zeroEff).toArray 30)) (w.heap.size + 1 + 1) 30 (effCells zeroEff)) := Row.new_at _ 30 (effCells zeroEff) (by simp)
  have HC0 : Hid (Ch No w (World.alloc (World.alloc (World.alloc w (.cells (insCells 23 a b c n).toArray 45)) (.cells (regCells r).toArray 24)) (.cells (effCells zeroEff).toArray 30))) := (((Ch.refl No w).alloc _).alloc _).alloc _
  have hnw : IntKind.i64.wrap n = n := by rw [i64_wrap, bv_in ⟨by omega, by omega⟩]
  have ia : (a : Int) < 16 := by omega
  have ib : (b : Int) < 16 := by omega
  have ic : (c : Int) < 16 := by omega
  have HIN := Lib.hid hin
  clear hin
  have H0 := Lib.hid h0
  clear h0
  go_enter Tryd.func30, Tryd.ntmps30
  go_upto_region 1 with (fail)
  change Code.wp _ _ _ _ (World.alloc (World.alloc (World.alloc w (.cells (insCells 23 a b c n).toArray 45)) (.cells (regCells r).toArray 24)) (.cells (effCells zeroEff).toArray 30))
  generalize World.alloc (World.alloc (World.alloc w (.cells (insCells 23 a b c n).toArray 45)) (.cells (regCells r).toArray 24)) (.cells (effCells zeroEff).toArray 30) = w1 at *
  have x0 : w1.cell? ⟨w.heap.size, 0, none⟩ = some (.int .u8 23) := HX.out.cell 0
  have x1 : w1.cell? ⟨w.heap.size, 1, none⟩ = some (.int .u8 a) := HX.out.cell 1
  have x2 : w1.cell? ⟨w.heap.size, 2, none⟩ = some (.int .u8 b) := HX.out.cell 2
  have x3 : w1.cell? ⟨w.heap.size, 3, none⟩ = some (.int .u8 c) := HX.out.cell 3
  have x4 : w1.cell? ⟨w.heap.size, 4, none⟩ = some (.int .i32 n) := HX.out.cell 4
  have ya : w1.cell? ⟨w.heap.size + 1, a, none⟩ = some (.int .i64 (r a)) := by rw [HRR.out.cell, regCells_get r a ha]
  have yb : w1.cell? ⟨w.heap.size + 1, b, none⟩ = some (.int .i64 (r b)) := by rw [HRR.out.cell, regCells_get r b hb]
  have yc : w1.cell? ⟨w.heap.size + 1, c, none⟩ = some (.int .i64 (r c)) := by rw [HRR.out.cell, regCells_get r c hc]
  have HN1 : Hid (¬ w.heap.size = w1.heap.size ∧ ¬ w.heap.size + 1 = w1.heap.size ∧ ¬ w.heap.size + 1 + 1 = w1.heap.size ∧ w.heap.size ≤ w1.heap.size) := by
    have := HZ.out.lt
    exact ⟨by omega, by omega, by omega, by omega⟩
  have HNEW : Hid (Row (w1.alloc (.cells (effCells zeroEff).toArray 30)) w1.heap.size 30 (effCells zeroEff)) := Row.new _ 30 (effCells zeroEff)
  clear x0 x1 x2 x3 x4 ya yb yc
  go_upto_region 2 with (first | ((with_reducible refine at_op (o := ⟨some 18, _, _, _, _, _⟩) ?_); refine pl_load (o := ⟨some 18, _, _, _, _, _⟩) rfl 24 _ rfl (w.heap.size + 1) rfl 24 (regCells r) HRR.out _ Tryd.underlying24 rfl (sizeR _) ?_) | ((with_reducible refine at_op (o := ⟨some 21, _, _, _, _, _⟩) ?_); refine pl_build2 (o := ⟨some 21, _, _, _, _, _⟩) rfl (.tmp 18) (.tmp 20) rfl r (pc + 1) rfl rfl ?_) | ((with_reducible refine at_op (o := ⟨none, .store 30 (.tmp 13) (.tmp 21), _, _, _, _⟩) ?_); refine pl_store (o := ⟨none, .store 30 (.tmp 13) (.tmp 21), _, _, _, _⟩) rfl 30 (.tmp 13) (.tmp 21) rfl (w1.heap.size) rfl 30 (effCells zeroEff) (effCells (eff0 r (pc + 1) 0)) rfl HNEW.out (sizeE _) (lenE _ _) (eff_one _) ?_; intro w4 hr4 hc4; have HE4 := Lib.hid hr4; have HX4 := Lib.hid ((HX.out.alloc _).keepIs hc4 HN1.out.1); have HR4 := Lib.hid ((HRR.out.alloc _).keepIs hc4 HN1.out.2.1); have HZ4 := Lib.hid ((HZ.out.alloc _).keepIs hc4 HN1.out.2.2.1); have HC4 := Lib.hid (ch_newg (HC0.out.alloc _) hc4 HN1.out.2.2.2); clear hr4 hc4))
  have hlt4 : w1.heap.size < w4.heap.size := HE4.out.lt
  have x0 : w4.cell? ⟨w.heap.size, 0, none⟩ = some (.int .u8 23) := HX4.out.cell 0
  have x1 : w4.cell? ⟨w.heap.size, 1, none⟩ = some (.int .u8 a) := HX4.out.cell 1
  have x2 : w4.cell? ⟨w.heap.size, 2, none⟩ = some (.int .u8 b) := HX4.out.cell 2
  have x3 : w4.cell? ⟨w.heap.size, 3, none⟩ = some (.int .u8 c) := HX4.out.cell 3
  have x4 : w4.cell? ⟨w.heap.size, 4, none⟩ = some (.int .i32 n) := HX4.out.cell 4
  have ya : w4.cell? ⟨w.heap.size + 1, a, none⟩ = some (.int .i64 (r a)) := by rw [HR4.out.cell, regCells_get r a ha]
  have yb : w4.cell? ⟨w.heap.size + 1, b, none⟩ = some (.int .i64 (r b)) := by rw [HR4.out.cell, regCells_get r b hb]
  have yc : w4.cell? ⟨w.heap.size + 1, c, none⟩ = some (.int .i64 (r c)) := by rw [HR4.out.cell, regCells_get r c hc]
  go_wp2_with (first | ((with_reducible refine at_op (o := ⟨some 100, _, _, _, _, _⟩) ?_); refine pl_load (o := ⟨some 100, _, _, _, _, _⟩) rfl 45 _ rfl (w.heap.size) rfl 45 (insCells 23 a b c n) HX4.out _ Tryd.underlying45 rfl (size45) ?_) | ((with_reducible refine at_op (o := ⟨some 101, _, _, _, _, _⟩) ?_); refine pl_load (o := ⟨some 101, _, _, _, _, _⟩) rfl 24 _ rfl (w.heap.size + 1) rfl 24 (regCells r) HR4.out _ Tryd.underlying24 rfl (sizeR _) ?_) | (go_at_call 72; refine (jump_23_go A len cap hl a b c n ha hb hc r HIN.out pc hp0 hp1 hn0 hn1 _ H0.out).mono ?_; rintro e w5 ⟨rfl, hc5⟩; have HZ5 := Lib.hid (HZ4.out.keepNo hc5); have HC5 := Lib.hid (HC4.out.then_ hc5); clear hc5) | ((with_reducible refine at_op (o := ⟨none, .store 30 (.tmp 12) (.tmp 103), _, _, _, _⟩) ?_); refine pl_store (o := ⟨none, .store 30 (.tmp 12) (.tmp 103), _, _, _, _⟩) rfl 30 (.tmp 12) (.tmp 103) rfl (w.heap.size + 1 + 1) rfl 30 (effCells zeroEff) (effCells ({ eff0 r (pc + 1) 0 with pc := inn len n })) rfl HZ5.out (sizeE _) (lenE _ _) (eff_one _) ?_; intro w6 hr6 hc6; have HR6 := Lib.hid hr6; have HC6 := Lib.hid hc6; clear hr6 hc6))
  refine bodyPost_ret (v := .agg (effCells ({ eff0 r (pc + 1) 0 with pc := inn len n })).toArray) (results_row rfl _ _ (w.heap.size + 1 + 1) 30 _ _ rfl HR6.out Tryd.underlying30 rfl (sizeE _)) rfl ⟨rfl, ?_⟩
  exact ch_newg HC5.out HC6.out (by omega)
set_option maxRecDepth 100000 in
set_option maxHeartbeats 4000000 in
theorem done_23_stay (A : Option Addr) (len cap : Nat) (hl : len ≤ 9223372036854775807) (M : Option Addr) (xs : List Int) (mcap : Nat) (hm : xs.length ≤ 9223372036854775807) (fixed : Int) (a b c : Nat) (n : Int) (ha : a < 16) (hb : b < 16) (hc : c < 16) (r : Nat → Int) (hin : ∀ i, i < 16 → In64 (r i)) (pc : Int) (hp0 : -9223372036854775808 ≤ pc) (hp1 : pc < 9223372036854775807) (hn0 : -2147483648 ≤ n) (hn1 : n ≤ 2147483647) (w : World) (h0 : r a ≠ 0) :
    Calls Tryd.prog 30 #[.slice A len cap, .agg (insCells 23 a b c n).toArray, .slice M xs.length mcap, .int .i64 fixed, .agg (regCells r).toArray, .int .i64 pc] w fun e w' => e = .returned (.agg (effCells (eff0 r (pc + 1) 0)).toArray) ∧ Ch No w w' := by
  have HX : Hid (Row (World.alloc (World.alloc (World.alloc w (.cells (insCells 23 a b c n).toArray 45)) (.cells (regCells r).toArray 24)) (.cells (effCells zeroEff).toArray 30)) w.heap.size 45 (insCells 23 a b c n)) := ((Row.new w 45 (insCells 23 a b c n)).alloc _).alloc _
  have HRR : Hid (Row (World.alloc (World.alloc (World.alloc w (.cells (insCells 23 a b c n).toArray 45)) (.cells (regCells r).toArray 24)) (.cells (effCells zeroEff).toArray 30)) (w.heap.size + 1) 24 (regCells r)) := (Row.new_at _ 24 (regCells r) (by simp)).alloc _
  have HZ : Hid (Row (World.alloc (World.alloc (World.alloc w (.cells (insCells 23 a b c n).toArray 45)) (.cells (regCells r).toArray 24)) (.cells (effCells zeroEff).toArray 30)) (w.heap.size + 1 + 1) 30 (effCells zeroEff)) := Row.new_at _ 30 (effCells zeroEff) (by simp)
  have HC0 : Hid (Ch No w (World.alloc (World.alloc (World.alloc w (.cells (insCells 23 a b c n).toArray 45)) (.cells (regCells r).toArray 24)) (.cells (effCells zeroEff).toArray 30))) := (((Ch.refl No w).alloc _).alloc _).alloc _
  have hnw : IntKind.i64.wrap n = n := by rw [i64_wrap, bv_in ⟨by omega, by omega⟩]
  have ia : (a : Int) < 16 := by omega
  have ib : (b : Int) < 16 := by omega
  have ic : (c : Int) < 16 := by omega
  have HIN := Lib.hid hin
  clear hin
  have H0 := Lib.hid h0
  clear h0
  go_enter Tryd.func30, Tryd.ntmps30
  go_upto_region 1 with (fail)
  change Code.wp _ _ _ _ (World.alloc (World.alloc (World.alloc w (.cells (insCells 23 a b c n).toArray 45)) (.cells (regCells r).toArray 24)) (.cells (effCells zeroEff).toArray 30))
  generalize World.alloc (World.alloc (World.alloc w (.cells (insCells 23 a b c n).toArray 45)) (.cells (regCells r).toArray 24)) (.cells (effCells zeroEff).toArray 30) = w1 at *
  have x0 : w1.cell? ⟨w.heap.size, 0, none⟩ = some (.int .u8 23) := HX.out.cell 0
  have x1 : w1.cell? ⟨w.heap.size, 1, none⟩ = some (.int .u8 a) := HX.out.cell 1
  have x2 : w1.cell? ⟨w.heap.size, 2, none⟩ = some (.int .u8 b) := HX.out.cell 2
  have x3 : w1.cell? ⟨w.heap.size, 3, none⟩ = some (.int .u8 c) := HX.out.cell 3
  have x4 : w1.cell? ⟨w.heap.size, 4, none⟩ = some (.int .i32 n) := HX.out.cell 4
  have ya : w1.cell? ⟨w.heap.size + 1, a, none⟩ = some (.int .i64 (r a)) := by rw [HRR.out.cell, regCells_get r a ha]
  have yb : w1.cell? ⟨w.heap.size + 1, b, none⟩ = some (.int .i64 (r b)) := by rw [HRR.out.cell, regCells_get r b hb]
  have yc : w1.cell? ⟨w.heap.size + 1, c, none⟩ = some (.int .i64 (r c)) := by rw [HRR.out.cell, regCells_get r c hc]
  have HN1 : Hid (¬ w.heap.size = w1.heap.size ∧ ¬ w.heap.size + 1 = w1.heap.size ∧ ¬ w.heap.size + 1 + 1 = w1.heap.size ∧ w.heap.size ≤ w1.heap.size) := by
    have := HZ.out.lt
    exact ⟨by omega, by omega, by omega, by omega⟩
  have HNEW : Hid (Row (w1.alloc (.cells (effCells zeroEff).toArray 30)) w1.heap.size 30 (effCells zeroEff)) := Row.new _ 30 (effCells zeroEff)
  clear x0 x1 x2 x3 x4 ya yb yc
  go_upto_region 2 with (first | ((with_reducible refine at_op (o := ⟨some 18, _, _, _, _, _⟩) ?_); refine pl_load (o := ⟨some 18, _, _, _, _, _⟩) rfl 24 _ rfl (w.heap.size + 1) rfl 24 (regCells r) HRR.out _ Tryd.underlying24 rfl (sizeR _) ?_) | ((with_reducible refine at_op (o := ⟨some 21, _, _, _, _, _⟩) ?_); refine pl_build2 (o := ⟨some 21, _, _, _, _, _⟩) rfl (.tmp 18) (.tmp 20) rfl r (pc + 1) rfl rfl ?_) | ((with_reducible refine at_op (o := ⟨none, .store 30 (.tmp 13) (.tmp 21), _, _, _, _⟩) ?_); refine pl_store (o := ⟨none, .store 30 (.tmp 13) (.tmp 21), _, _, _, _⟩) rfl 30 (.tmp 13) (.tmp 21) rfl (w1.heap.size) rfl 30 (effCells zeroEff) (effCells (eff0 r (pc + 1) 0)) rfl HNEW.out (sizeE _) (lenE _ _) (eff_one _) ?_; intro w4 hr4 hc4; have HE4 := Lib.hid hr4; have HX4 := Lib.hid ((HX.out.alloc _).keepIs hc4 HN1.out.1); have HR4 := Lib.hid ((HRR.out.alloc _).keepIs hc4 HN1.out.2.1); have HZ4 := Lib.hid ((HZ.out.alloc _).keepIs hc4 HN1.out.2.2.1); have HC4 := Lib.hid (ch_newg (HC0.out.alloc _) hc4 HN1.out.2.2.2); clear hr4 hc4))
  have hlt4 : w1.heap.size < w4.heap.size := HE4.out.lt
  have x0 : w4.cell? ⟨w.heap.size, 0, none⟩ = some (.int .u8 23) := HX4.out.cell 0
  have x1 : w4.cell? ⟨w.heap.size, 1, none⟩ = some (.int .u8 a) := HX4.out.cell 1
  have x2 : w4.cell? ⟨w.heap.size, 2, none⟩ = some (.int .u8 b) := HX4.out.cell 2
  have x3 : w4.cell? ⟨w.heap.size, 3, none⟩ = some (.int .u8 c) := HX4.out.cell 3
  have x4 : w4.cell? ⟨w.heap.size, 4, none⟩ = some (.int .i32 n) := HX4.out.cell 4
  have ya : w4.cell? ⟨w.heap.size + 1, a, none⟩ = some (.int .i64 (r a)) := by rw [HR4.out.cell, regCells_get r a ha]
  have yb : w4.cell? ⟨w.heap.size + 1, b, none⟩ = some (.int .i64 (r b)) := by rw [HR4.out.cell, regCells_get r b hb]
  have yc : w4.cell? ⟨w.heap.size + 1, c, none⟩ = some (.int .i64 (r c)) := by rw [HR4.out.cell, regCells_get r c hc]
  go_wp2_with (first | ((with_reducible refine at_op (o := ⟨some 100, _, _, _, _, _⟩) ?_); refine pl_load (o := ⟨some 100, _, _, _, _, _⟩) rfl 45 _ rfl (w.heap.size) rfl 45 (insCells 23 a b c n) HX4.out _ Tryd.underlying45 rfl (size45) ?_) | ((with_reducible refine at_op (o := ⟨some 101, _, _, _, _, _⟩) ?_); refine pl_load (o := ⟨some 101, _, _, _, _, _⟩) rfl 24 _ rfl (w.heap.size + 1) rfl 24 (regCells r) HR4.out _ Tryd.underlying24 rfl (sizeR _) ?_) | (go_at_call 72; refine (jump_23_stay A len cap hl a b c n ha hb hc r HIN.out pc hp0 hp1 hn0 hn1 _ H0.out).mono ?_; rintro e w5 ⟨rfl, hc5⟩; have HZ5 := Lib.hid (HZ4.out.keepNo hc5); have HC5 := Lib.hid (HC4.out.then_ hc5); clear hc5) | ((with_reducible refine at_op (o := ⟨none, .store 30 (.tmp 12) (.tmp 103), _, _, _, _⟩) ?_); refine pl_store (o := ⟨none, .store 30 (.tmp 12) (.tmp 103), _, _, _, _⟩) rfl 30 (.tmp 12) (.tmp 103) rfl (w.heap.size + 1 + 1) rfl 30 (effCells zeroEff) (effCells (eff0 r (pc + 1) 0)) rfl HZ5.out (sizeE _) (lenE _ _) (eff_one _) ?_; intro w6 hr6 hc6; have HR6 := Lib.hid hr6; have HC6 := Lib.hid hc6; clear hr6 hc6))
  refine bodyPost_ret (v := .agg (effCells (eff0 r (pc + 1) 0)).toArray) (results_row rfl _ _ (w.heap.size + 1 + 1) 30 _ _ rfl HR6.out Tryd.underlying30 rfl (sizeE _)) rfl ⟨rfl, ?_⟩
  exact ch_newg HC5.out HC6.out (by omega)
set_option maxRecDepth 100000 in
set_option maxHeartbeats 4000000 in
theorem done_24_go (A : Option Addr) (len cap : Nat) (hl : len ≤ 9223372036854775807) (M : Option Addr) (xs : List Int) (mcap : Nat) (hm : xs.length ≤ 9223372036854775807) (fixed : Int) (a b c : Nat) (n : Int) (ha : a < 16) (hb : b < 16) (hc : c < 16) (r : Nat → Int) (hin : ∀ i, i < 16 → In64 (r i)) (pc : Int) (hp0 : -9223372036854775808 ≤ pc) (hp1 : pc < 9223372036854775807) (hn0 : -2147483648 ≤ n) (hn1 : n ≤ 2147483647) (w : World) (h0 : r a ≠ 0) :
    Calls Tryd.prog 30 #[.slice A len cap, .agg (insCells 24 a b c n).toArray, .slice M xs.length mcap, .int .i64 fixed, .agg (regCells r).toArray, .int .i64 pc] w fun e w' => e = .returned (.agg (effCells ({ eff0 r (pc + 1) 0 with pc := inn len n })).toArray) ∧ Ch No w w' := by
  have HX : Hid (Row (World.alloc (World.alloc (World.alloc w (.cells (insCells 24 a b c n).toArray 45)) (.cells (regCells r).toArray 24)) (.cells (effCells zeroEff).toArray 30)) w.heap.size 45 (insCells 24 a b c n)) := ((Row.new w 45 (insCells 24 a b c n)).alloc _).alloc _
  have HRR : Hid (Row (World.alloc (World.alloc (World.alloc w (.cells (insCells 24 a b c n).toArray 45)) (.cells (regCells r).toArray 24)) (.cells (effCells zeroEff).toArray 30)) (w.heap.size + 1) 24 (regCells r)) := (Row.new_at _ 24 (regCells r) (by simp)).alloc _
  have HZ : Hid (Row (World.alloc (World.alloc (World.alloc w (.cells (insCells 24 a b c n).toArray 45)) (.cells (regCells r).toArray 24)) (.cells (effCells zeroEff).toArray 30)) (w.heap.size + 1 + 1) 30 (effCells zeroEff)) := Row.new_at _ 30 (effCells zeroEff) (by simp)
  have HC0 : Hid (Ch No w (World.alloc (World.alloc (World.alloc w (.cells (insCells 24 a b c n).toArray 45)) (.cells (regCells r).toArray 24)) (.cells (effCells zeroEff).toArray 30))) := (((Ch.refl No w).alloc _).alloc _).alloc _
  have hnw : IntKind.i64.wrap n = n := by rw [i64_wrap, bv_in ⟨by omega, by omega⟩]
  have ia : (a : Int) < 16 := by omega
  have ib : (b : Int) < 16 := by omega
  have ic : (c : Int) < 16 := by omega
  have HIN := Lib.hid hin
  clear hin
  have H0 := Lib.hid h0
  clear h0
  go_enter Tryd.func30, Tryd.ntmps30
  go_upto_region 1 with (fail)
  change Code.wp _ _ _ _ (World.alloc (World.alloc (World.alloc w (.cells (insCells 24 a b c n).toArray 45)) (.cells (regCells r).toArray 24)) (.cells (effCells zeroEff).toArray 30))
  generalize World.alloc (World.alloc (World.alloc w (.cells (insCells 24 a b c n).toArray 45)) (.cells (regCells r).toArray 24)) (.cells (effCells zeroEff).toArray 30) = w1 at *
  have x0 : w1.cell? ⟨w.heap.size, 0, none⟩ = some (.int .u8 24) := HX.out.cell 0
  have x1 : w1.cell? ⟨w.heap.size, 1, none⟩ = some (.int .u8 a) := HX.out.cell 1
  have x2 : w1.cell? ⟨w.heap.size, 2, none⟩ = some (.int .u8 b) := HX.out.cell 2
  have x3 : w1.cell? ⟨w.heap.size, 3, none⟩ = some (.int .u8 c) := HX.out.cell 3
  have x4 : w1.cell? ⟨w.heap.size, 4, none⟩ = some (.int .i32 n) := HX.out.cell 4
  have ya : w1.cell? ⟨w.heap.size + 1, a, none⟩ = some (.int .i64 (r a)) := by rw [HRR.out.cell, regCells_get r a ha]
  have yb : w1.cell? ⟨w.heap.size + 1, b, none⟩ = some (.int .i64 (r b)) := by rw [HRR.out.cell, regCells_get r b hb]
  have yc : w1.cell? ⟨w.heap.size + 1, c, none⟩ = some (.int .i64 (r c)) := by rw [HRR.out.cell, regCells_get r c hc]
  have HN1 : Hid (¬ w.heap.size = w1.heap.size ∧ ¬ w.heap.size + 1 = w1.heap.size ∧ ¬ w.heap.size + 1 + 1 = w1.heap.size ∧ w.heap.size ≤ w1.heap.size) := by
    have := HZ.out.lt
    exact ⟨by omega, by omega, by omega, by omega⟩
  have HNEW : Hid (Row (w1.alloc (.cells (effCells zeroEff).toArray 30)) w1.heap.size 30 (effCells zeroEff)) := Row.new _ 30 (effCells zeroEff)
  clear x0 x1 x2 x3 x4 ya yb yc
  go_upto_region 2 with (first | ((with_reducible refine at_op (o := ⟨some 18, _, _, _, _, _⟩) ?_); refine pl_load (o := ⟨some 18, _, _, _, _, _⟩) rfl 24 _ rfl (w.heap.size + 1) rfl 24 (regCells r) HRR.out _ Tryd.underlying24 rfl (sizeR _) ?_) | ((with_reducible refine at_op (o := ⟨some 21, _, _, _, _, _⟩) ?_); refine pl_build2 (o := ⟨some 21, _, _, _, _, _⟩) rfl (.tmp 18) (.tmp 20) rfl r (pc + 1) rfl rfl ?_) | ((with_reducible refine at_op (o := ⟨none, .store 30 (.tmp 13) (.tmp 21), _, _, _, _⟩) ?_); refine pl_store (o := ⟨none, .store 30 (.tmp 13) (.tmp 21), _, _, _, _⟩) rfl 30 (.tmp 13) (.tmp 21) rfl (w1.heap.size) rfl 30 (effCells zeroEff) (effCells (eff0 r (pc + 1) 0)) rfl HNEW.out (sizeE _) (lenE _ _) (eff_one _) ?_; intro w4 hr4 hc4; have HE4 := Lib.hid hr4; have HX4 := Lib.hid ((HX.out.alloc _).keepIs hc4 HN1.out.1); have HR4 := Lib.hid ((HRR.out.alloc _).keepIs hc4 HN1.out.2.1); have HZ4 := Lib.hid ((HZ.out.alloc _).keepIs hc4 HN1.out.2.2.1); have HC4 := Lib.hid (ch_newg (HC0.out.alloc _) hc4 HN1.out.2.2.2); clear hr4 hc4))
  have hlt4 : w1.heap.size < w4.heap.size := HE4.out.lt
  have x0 : w4.cell? ⟨w.heap.size, 0, none⟩ = some (.int .u8 24) := HX4.out.cell 0
  have x1 : w4.cell? ⟨w.heap.size, 1, none⟩ = some (.int .u8 a) := HX4.out.cell 1
  have x2 : w4.cell? ⟨w.heap.size, 2, none⟩ = some (.int .u8 b) := HX4.out.cell 2
  have x3 : w4.cell? ⟨w.heap.size, 3, none⟩ = some (.int .u8 c) := HX4.out.cell 3
  have x4 : w4.cell? ⟨w.heap.size, 4, none⟩ = some (.int .i32 n) := HX4.out.cell 4
  have ya : w4.cell? ⟨w.heap.size + 1, a, none⟩ = some (.int .i64 (r a)) := by rw [HR4.out.cell, regCells_get r a ha]
  have yb : w4.cell? ⟨w.heap.size + 1, b, none⟩ = some (.int .i64 (r b)) := by rw [HR4.out.cell, regCells_get r b hb]
  have yc : w4.cell? ⟨w.heap.size + 1, c, none⟩ = some (.int .i64 (r c)) := by rw [HR4.out.cell, regCells_get r c hc]
  go_wp2_with (first | ((with_reducible refine at_op (o := ⟨some 100, _, _, _, _, _⟩) ?_); refine pl_load (o := ⟨some 100, _, _, _, _, _⟩) rfl 45 _ rfl (w.heap.size) rfl 45 (insCells 24 a b c n) HX4.out _ Tryd.underlying45 rfl (size45) ?_) | ((with_reducible refine at_op (o := ⟨some 101, _, _, _, _, _⟩) ?_); refine pl_load (o := ⟨some 101, _, _, _, _, _⟩) rfl 24 _ rfl (w.heap.size + 1) rfl 24 (regCells r) HR4.out _ Tryd.underlying24 rfl (sizeR _) ?_) | (go_at_call 72; refine (jump_24_go A len cap hl a b c n ha hb hc r HIN.out pc hp0 hp1 hn0 hn1 _ H0.out).mono ?_; rintro e w5 ⟨rfl, hc5⟩; have HZ5 := Lib.hid (HZ4.out.keepNo hc5); have HC5 := Lib.hid (HC4.out.then_ hc5); clear hc5) | ((with_reducible refine at_op (o := ⟨none, .store 30 (.tmp 12) (.tmp 103), _, _, _, _⟩) ?_); refine pl_store (o := ⟨none, .store 30 (.tmp 12) (.tmp 103), _, _, _, _⟩) rfl 30 (.tmp 12) (.tmp 103) rfl (w.heap.size + 1 + 1) rfl 30 (effCells zeroEff) (effCells ({ eff0 r (pc + 1) 0 with pc := inn len n })) rfl HZ5.out (sizeE _) (lenE _ _) (eff_one _) ?_; intro w6 hr6 hc6; have HR6 := Lib.hid hr6; have HC6 := Lib.hid hc6; clear hr6 hc6))
  refine bodyPost_ret (v := .agg (effCells ({ eff0 r (pc + 1) 0 with pc := inn len n })).toArray) (results_row rfl _ _ (w.heap.size + 1 + 1) 30 _ _ rfl HR6.out Tryd.underlying30 rfl (sizeE _)) rfl ⟨rfl, ?_⟩
  exact ch_newg HC5.out HC6.out (by omega)
set_option maxRecDepth 100000 in
set_option maxHeartbeats 4000000 in
theorem done_24_stay (A : Option Addr) (len cap : Nat) (hl : len ≤ 9223372036854775807) (M : Option Addr) (xs : List Int) (mcap : Nat) (hm : xs.length ≤ 9223372036854775807) (fixed : Int) (a b c : Nat) (n : Int) (ha : a < 16) (hb : b < 16) (hc : c < 16) (r : Nat → Int) (hin : ∀ i, i < 16 → In64 (r i)) (pc : Int) (hp0 : -9223372036854775808 ≤ pc) (hp1 : pc < 9223372036854775807) (hn0 : -2147483648 ≤ n) (hn1 : n ≤ 2147483647) (w : World) (h0 : r a = 0) :
    Calls Tryd.prog 30 #[.slice A len cap, .agg (insCells 24 a b c n).toArray, .slice M xs.length mcap, .int .i64 fixed, .agg (regCells r).toArray, .int .i64 pc] w fun e w' => e = .returned (.agg (effCells (eff0 r (pc + 1) 0)).toArray) ∧ Ch No w w' := by
  have HX : Hid (Row (World.alloc (World.alloc (World.alloc w (.cells (insCells 24 a b c n).toArray 45)) (.cells (regCells r).toArray 24)) (.cells (effCells zeroEff).toArray 30)) w.heap.size 45 (insCells 24 a b c n)) := ((Row.new w 45 (insCells 24 a b c n)).alloc _).alloc _
  have HRR : Hid (Row (World.alloc (World.alloc (World.alloc w (.cells (insCells 24 a b c n).toArray 45)) (.cells (regCells r).toArray 24)) (.cells (effCells zeroEff).toArray 30)) (w.heap.size + 1) 24 (regCells r)) := (Row.new_at _ 24 (regCells r) (by simp)).alloc _
  have HZ : Hid (Row (World.alloc (World.alloc (World.alloc w (.cells (insCells 24 a b c n).toArray 45)) (.cells (regCells r).toArray 24)) (.cells (effCells zeroEff).toArray 30)) (w.heap.size + 1 + 1) 30 (effCells zeroEff)) := Row.new_at _ 30 (effCells zeroEff) (by simp)
  have HC0 : Hid (Ch No w (World.alloc (World.alloc (World.alloc w (.cells (insCells 24 a b c n).toArray 45)) (.cells (regCells r).toArray 24)) (.cells (effCells zeroEff).toArray 30))) := (((Ch.refl No w).alloc _).alloc _).alloc _
  have hnw : IntKind.i64.wrap n = n := by rw [i64_wrap, bv_in ⟨by omega, by omega⟩]
  have ia : (a : Int) < 16 := by omega
  have ib : (b : Int) < 16 := by omega
  have ic : (c : Int) < 16 := by omega
  have HIN := Lib.hid hin
  clear hin
  have H0 := Lib.hid h0
  clear h0
  go_enter Tryd.func30, Tryd.ntmps30
  go_upto_region 1 with (fail)
  change Code.wp _ _ _ _ (World.alloc (World.alloc (World.alloc w (.cells (insCells 24 a b c n).toArray 45)) (.cells (regCells r).toArray 24)) (.cells (effCells zeroEff).toArray 30))
  generalize World.alloc (World.alloc (World.alloc w (.cells (insCells 24 a b c n).toArray 45)) (.cells (regCells r).toArray 24)) (.cells (effCells zeroEff).toArray 30) = w1 at *
  have x0 : w1.cell? ⟨w.heap.size, 0, none⟩ = some (.int .u8 24) := HX.out.cell 0
  have x1 : w1.cell? ⟨w.heap.size, 1, none⟩ = some (.int .u8 a) := HX.out.cell 1
  have x2 : w1.cell? ⟨w.heap.size, 2, none⟩ = some (.int .u8 b) := HX.out.cell 2
  have x3 : w1.cell? ⟨w.heap.size, 3, none⟩ = some (.int .u8 c) := HX.out.cell 3
  have x4 : w1.cell? ⟨w.heap.size, 4, none⟩ = some (.int .i32 n) := HX.out.cell 4
  have ya : w1.cell? ⟨w.heap.size + 1, a, none⟩ = some (.int .i64 (r a)) := by rw [HRR.out.cell, regCells_get r a ha]
  have yb : w1.cell? ⟨w.heap.size + 1, b, none⟩ = some (.int .i64 (r b)) := by rw [HRR.out.cell, regCells_get r b hb]
  have yc : w1.cell? ⟨w.heap.size + 1, c, none⟩ = some (.int .i64 (r c)) := by rw [HRR.out.cell, regCells_get r c hc]
  have HN1 : Hid (¬ w.heap.size = w1.heap.size ∧ ¬ w.heap.size + 1 = w1.heap.size ∧ ¬ w.heap.size + 1 + 1 = w1.heap.size ∧ w.heap.size ≤ w1.heap.size) := by
    have := HZ.out.lt
    exact ⟨by omega, by omega, by omega, by omega⟩
  have HNEW : Hid (Row (w1.alloc (.cells (effCells zeroEff).toArray 30)) w1.heap.size 30 (effCells zeroEff)) := Row.new _ 30 (effCells zeroEff)
  clear x0 x1 x2 x3 x4 ya yb yc
  go_upto_region 2 with (first | ((with_reducible refine at_op (o := ⟨some 18, _, _, _, _, _⟩) ?_); refine pl_load (o := ⟨some 18, _, _, _, _, _⟩) rfl 24 _ rfl (w.heap.size + 1) rfl 24 (regCells r) HRR.out _ Tryd.underlying24 rfl (sizeR _) ?_) | ((with_reducible refine at_op (o := ⟨some 21, _, _, _, _, _⟩) ?_); refine pl_build2 (o := ⟨some 21, _, _, _, _, _⟩) rfl (.tmp 18) (.tmp 20) rfl r (pc + 1) rfl rfl ?_) | ((with_reducible refine at_op (o := ⟨none, .store 30 (.tmp 13) (.tmp 21), _, _, _, _⟩) ?_); refine pl_store (o := ⟨none, .store 30 (.tmp 13) (.tmp 21), _, _, _, _⟩) rfl 30 (.tmp 13) (.tmp 21) rfl (w1.heap.size) rfl 30 (effCells zeroEff) (effCells (eff0 r (pc + 1) 0)) rfl HNEW.out (sizeE _) (lenE _ _) (eff_one _) ?_; intro w4 hr4 hc4; have HE4 := Lib.hid hr4; have HX4 := Lib.hid ((HX.out.alloc _).keepIs hc4 HN1.out.1); have HR4 := Lib.hid ((HRR.out.alloc _).keepIs hc4 HN1.out.2.1); have HZ4 := Lib.hid ((HZ.out.alloc _).keepIs hc4 HN1.out.2.2.1); have HC4 := Lib.hid (ch_newg (HC0.out.alloc _) hc4 HN1.out.2.2.2); clear hr4 hc4))
  have hlt4 : w1.heap.size < w4.heap.size := HE4.out.lt
  have x0 : w4.cell? ⟨w.heap.size, 0, none⟩ = some (.int .u8 24) := HX4.out.cell 0
  have x1 : w4.cell? ⟨w.heap.size, 1, none⟩ = some (.int .u8 a) := HX4.out.cell 1
  have x2 : w4.cell? ⟨w.heap.size, 2, none⟩ = some (.int .u8 b) := HX4.out.cell 2
  have x3 : w4.cell? ⟨w.heap.size, 3, none⟩ = some (.int .u8 c) := HX4.out.cell 3
  have x4 : w4.cell? ⟨w.heap.size, 4, none⟩ = some (.int .i32 n) := HX4.out.cell 4
  have ya : w4.cell? ⟨w.heap.size + 1, a, none⟩ = some (.int .i64 (r a)) := by rw [HR4.out.cell, regCells_get r a ha]
  have yb : w4.cell? ⟨w.heap.size + 1, b, none⟩ = some (.int .i64 (r b)) := by rw [HR4.out.cell, regCells_get r b hb]
  have yc : w4.cell? ⟨w.heap.size + 1, c, none⟩ = some (.int .i64 (r c)) := by rw [HR4.out.cell, regCells_get r c hc]
  go_wp2_with (first | ((with_reducible refine at_op (o := ⟨some 100, _, _, _, _, _⟩) ?_); refine pl_load (o := ⟨some 100, _, _, _, _, _⟩) rfl 45 _ rfl (w.heap.size) rfl 45 (insCells 24 a b c n) HX4.out _ Tryd.underlying45 rfl (size45) ?_) | ((with_reducible refine at_op (o := ⟨some 101, _, _, _, _, _⟩) ?_); refine pl_load (o := ⟨some 101, _, _, _, _, _⟩) rfl 24 _ rfl (w.heap.size + 1) rfl 24 (regCells r) HR4.out _ Tryd.underlying24 rfl (sizeR _) ?_) | (go_at_call 72; refine (jump_24_stay A len cap hl a b c n ha hb hc r HIN.out pc hp0 hp1 hn0 hn1 _ H0.out).mono ?_; rintro e w5 ⟨rfl, hc5⟩; have HZ5 := Lib.hid (HZ4.out.keepNo hc5); have HC5 := Lib.hid (HC4.out.then_ hc5); clear hc5) | ((with_reducible refine at_op (o := ⟨none, .store 30 (.tmp 12) (.tmp 103), _, _, _, _⟩) ?_); refine pl_store (o := ⟨none, .store 30 (.tmp 12) (.tmp 103), _, _, _, _⟩) rfl 30 (.tmp 12) (.tmp 103) rfl (w.heap.size + 1 + 1) rfl 30 (effCells zeroEff) (effCells (eff0 r (pc + 1) 0)) rfl HZ5.out (sizeE _) (lenE _ _) (eff_one _) ?_; intro w6 hr6 hc6; have HR6 := Lib.hid hr6; have HC6 := Lib.hid hc6; clear hr6 hc6))
  refine bodyPost_ret (v := .agg (effCells (eff0 r (pc + 1) 0)).toArray) (results_row rfl _ _ (w.heap.size + 1 + 1) 30 _ _ rfl HR6.out Tryd.underlying30 rfl (sizeE _)) rfl ⟨rfl, ?_⟩
  exact ch_newg HC5.out HC6.out (by omega)
set_option maxRecDepth 100000 in
set_option maxHeartbeats 4000000 in
theorem done_25 (A : Option Addr) (len cap : Nat) (hl : len ≤ 9223372036854775807) (M : Option Addr) (xs : List Int) (mcap : Nat) (hm : xs.length ≤ 9223372036854775807) (fixed : Int) (a b c : Nat) (n : Int) (ha : a < 16) (hb : b < 16) (hc : c < 16) (r : Nat → Int) (hin : ∀ i, i < 16 → In64 (r i)) (pc : Int) (hp0 : -9223372036854775808 ≤ pc) (hp1 : pc < 9223372036854775807) (hn0 : -2147483648 ≤ n) (hn1 : n ≤ 2147483647) (w : World) :
    Calls Tryd.prog 30 #[.slice A len cap, .agg (insCells 25 a b c n).toArray, .slice M xs.length mcap, .int .i64 fixed, .agg (regCells r).toArray, .int .i64 pc] w fun e w' => e = .returned (.agg (effCells ({ eff0 r (pc + 1) 0 with pc := inn len (r a) })).toArray) ∧ Ch No w w' := by
  have HX : Hid (Row (World.alloc (World.alloc (World.alloc w (.cells (insCells 25 a b c n).toArray 45)) (.cells (regCells r).toArray 24)) (.cells (effCells zeroEff).toArray 30)) w.heap.size 45 (insCells 25 a b c n)) := ((Row.new w 45 (insCells 25 a b c n)).alloc _).alloc _
  have HRR : Hid (Row (World.alloc (World.alloc (World.alloc w (.cells (insCells 25 a b c n).toArray 45)) (.cells (regCells r).toArray 24)) (.cells (effCells zeroEff).toArray 30)) (w.heap.size + 1) 24 (regCells r)) := (Row.new_at _ 24 (regCells r) (by simp)).alloc _
  have HZ : Hid (Row (World.alloc (World.alloc (World.alloc w (.cells (insCells 25 a b c n).toArray 45)) (.cells (regCells r).toArray 24)) (.cells (effCells zeroEff).toArray 30)) (w.heap.size + 1 + 1) 30 (effCells zeroEff)) := Row.new_at _ 30 (effCells zeroEff) (by simp)
  have HC0 : Hid (Ch No w (World.alloc (World.alloc (World.alloc w (.cells (insCells 25 a b c n).toArray 45)) (.cells (regCells r).toArray 24)) (.cells (effCells zeroEff).toArray 30))) := (((Ch.refl No w).alloc _).alloc _).alloc _
  have hnw : IntKind.i64.wrap n = n := by rw [i64_wrap, bv_in ⟨by omega, by omega⟩]
  have ia : (a : Int) < 16 := by omega
  have ib : (b : Int) < 16 := by omega
  have ic : (c : Int) < 16 := by omega
  have HIN := Lib.hid hin
  clear hin
  go_enter Tryd.func30, Tryd.ntmps30
  go_upto_region 1 with (fail)
  change Code.wp _ _ _ _ (World.alloc (World.alloc (World.alloc w (.cells (insCells 25 a b c n).toArray 45)) (.cells (regCells r).toArray 24)) (.cells (effCells zeroEff).toArray 30))
  generalize World.alloc (World.alloc (World.alloc w (.cells (insCells 25 a b c n).toArray 45)) (.cells (regCells r).toArray 24)) (.cells (effCells zeroEff).toArray 30) = w1 at *
  have x0 : w1.cell? ⟨w.heap.size, 0, none⟩ = some (.int .u8 25) := HX.out.cell 0
  have x1 : w1.cell? ⟨w.heap.size, 1, none⟩ = some (.int .u8 a) := HX.out.cell 1
  have x2 : w1.cell? ⟨w.heap.size, 2, none⟩ = some (.int .u8 b) := HX.out.cell 2
  have x3 : w1.cell? ⟨w.heap.size, 3, none⟩ = some (.int .u8 c) := HX.out.cell 3
  have x4 : w1.cell? ⟨w.heap.size, 4, none⟩ = some (.int .i32 n) := HX.out.cell 4
  have ya : w1.cell? ⟨w.heap.size + 1, a, none⟩ = some (.int .i64 (r a)) := by rw [HRR.out.cell, regCells_get r a ha]
  have yb : w1.cell? ⟨w.heap.size + 1, b, none⟩ = some (.int .i64 (r b)) := by rw [HRR.out.cell, regCells_get r b hb]
  have yc : w1.cell? ⟨w.heap.size + 1, c, none⟩ = some (.int .i64 (r c)) := by rw [HRR.out.cell, regCells_get r c hc]
  have HN1 : Hid (¬ w.heap.size = w1.heap.size ∧ ¬ w.heap.size + 1 = w1.heap.size ∧ ¬ w.heap.size + 1 + 1 = w1.heap.size ∧ w.heap.size ≤ w1.heap.size) := by
    have := HZ.out.lt
    exact ⟨by omega, by omega, by omega, by omega⟩
  have HNEW : Hid (Row (w1.alloc (.cells (effCells zeroEff).toArray 30)) w1.heap.size 30 (effCells zeroEff)) := Row.new _ 30 (effCells zeroEff)
  clear x0 x1 x2 x3 x4 ya yb yc
  go_upto_region 2 with (first | ((with_reducible refine at_op (o := ⟨some 18, _, _, _, _, _⟩) ?_); refine pl_load (o := ⟨some 18, _, _, _, _, _⟩) rfl 24 _ rfl (w.heap.size + 1) rfl 24 (regCells r) HRR.out _ Tryd.underlying24 rfl (sizeR _) ?_) | ((with_reducible refine at_op (o := ⟨some 21, _, _, _, _, _⟩) ?_); refine pl_build2 (o := ⟨some 21, _, _, _, _, _⟩) rfl (.tmp 18) (.tmp 20) rfl r (pc + 1) rfl rfl ?_) | ((with_reducible refine at_op (o := ⟨none, .store 30 (.tmp 13) (.tmp 21), _, _, _, _⟩) ?_); refine pl_store (o := ⟨none, .store 30 (.tmp 13) (.tmp 21), _, _, _, _⟩) rfl 30 (.tmp 13) (.tmp 21) rfl (w1.heap.size) rfl 30 (effCells zeroEff) (effCells (eff0 r (pc + 1) 0)) rfl HNEW.out (sizeE _) (lenE _ _) (eff_one _) ?_; intro w4 hr4 hc4; have HE4 := Lib.hid hr4; have HX4 := Lib.hid ((HX.out.alloc _).keepIs hc4 HN1.out.1); have HR4 := Lib.hid ((HRR.out.alloc _).keepIs hc4 HN1.out.2.1); have HZ4 := Lib.hid ((HZ.out.alloc _).keepIs hc4 HN1.out.2.2.1); have HC4 := Lib.hid (ch_newg (HC0.out.alloc _) hc4 HN1.out.2.2.2); clear hr4 hc4))
  have hlt4 : w1.heap.size < w4.heap.size := HE4.out.lt
  have x0 : w4.cell? ⟨w.heap.size, 0, none⟩ = some (.int .u8 25) := HX4.out.cell 0
  have x1 : w4.cell? ⟨w.heap.size, 1, none⟩ = some (.int .u8 a) := HX4.out.cell 1
  have x2 : w4.cell? ⟨w.heap.size, 2, none⟩ = some (.int .u8 b) := HX4.out.cell 2
  have x3 : w4.cell? ⟨w.heap.size, 3, none⟩ = some (.int .u8 c) := HX4.out.cell 3
  have x4 : w4.cell? ⟨w.heap.size, 4, none⟩ = some (.int .i32 n) := HX4.out.cell 4
  have ya : w4.cell? ⟨w.heap.size + 1, a, none⟩ = some (.int .i64 (r a)) := by rw [HR4.out.cell, regCells_get r a ha]
  have yb : w4.cell? ⟨w.heap.size + 1, b, none⟩ = some (.int .i64 (r b)) := by rw [HR4.out.cell, regCells_get r b hb]
  have yc : w4.cell? ⟨w.heap.size + 1, c, none⟩ = some (.int .i64 (r c)) := by rw [HR4.out.cell, regCells_get r c hc]
  go_wp2_with (first | ((with_reducible refine at_op (o := ⟨some 100, _, _, _, _, _⟩) ?_); refine pl_load (o := ⟨some 100, _, _, _, _, _⟩) rfl 45 _ rfl (w.heap.size) rfl 45 (insCells 25 a b c n) HX4.out _ Tryd.underlying45 rfl (size45) ?_) | ((with_reducible refine at_op (o := ⟨some 101, _, _, _, _, _⟩) ?_); refine pl_load (o := ⟨some 101, _, _, _, _, _⟩) rfl 24 _ rfl (w.heap.size + 1) rfl 24 (regCells r) HR4.out _ Tryd.underlying24 rfl (sizeR _) ?_) | (go_at_call 72; refine (jump_25 A len cap hl a b c n ha hb hc r HIN.out pc hp0 hp1 hn0 hn1 _).mono ?_; rintro e w5 ⟨rfl, hc5⟩; have HZ5 := Lib.hid (HZ4.out.keepNo hc5); have HC5 := Lib.hid (HC4.out.then_ hc5); clear hc5) | ((with_reducible refine at_op (o := ⟨none, .store 30 (.tmp 12) (.tmp 103), _, _, _, _⟩) ?_); refine pl_store (o := ⟨none, .store 30 (.tmp 12) (.tmp 103), _, _, _, _⟩) rfl 30 (.tmp 12) (.tmp 103) rfl (w.heap.size + 1 + 1) rfl 30 (effCells zeroEff) (effCells ({ eff0 r (pc + 1) 0 with pc := inn len (r a) })) rfl HZ5.out (sizeE _) (lenE _ _) (eff_one _) ?_; intro w6 hr6 hc6; have HR6 := Lib.hid hr6; have HC6 := Lib.hid hc6; clear hr6 hc6))
  refine bodyPost_ret (v := .agg (effCells ({ eff0 r (pc + 1) 0 with pc := inn len (r a) })).toArray) (results_row rfl _ _ (w.heap.size + 1 + 1) 30 _ _ rfl HR6.out Tryd.underlying30 rfl (sizeE _)) rfl ⟨rfl, ?_⟩
  exact ch_newg HC5.out HC6.out (by omega)
set_option maxRecDepth 100000 in
set_option maxHeartbeats 4000000 in
theorem done_26 (A : Option Addr) (len cap : Nat) (hl : len ≤ 9223372036854775807) (M : Option Addr) (xs : List Int) (mcap : Nat) (hm : xs.length ≤ 9223372036854775807) (fixed : Int) (a b c : Nat) (n : Int) (ha : a < 16) (hb : b < 16) (hc : c < 16) (r : Nat → Int) (hin : ∀ i, i < 16 → In64 (r i)) (pc : Int) (hp0 : -9223372036854775808 ≤ pc) (hp1 : pc < 9223372036854775807) (hn0 : -2147483648 ≤ n) (hn1 : n ≤ 2147483647) (w : World) :
    Calls Tryd.prog 30 #[.slice A len cap, .agg (insCells 26 a b c n).toArray, .slice M xs.length mcap, .int .i64 fixed, .agg (regCells r).toArray, .int .i64 pc] w fun e w' => e = .returned (.agg (effCells (({ eff0 r (pc + 1) 0 with pc := inn len n } : Eff).reg 14 (pc + 1))).toArray) ∧ Ch No w w' := by
  have HX : Hid (Row (World.alloc (World.alloc (World.alloc w (.cells (insCells 26 a b c n).toArray 45)) (.cells (regCells r).toArray 24)) (.cells (effCells zeroEff).toArray 30)) w.heap.size 45 (insCells 26 a b c n)) := ((Row.new w 45 (insCells 26 a b c n)).alloc _).alloc _
  have HRR : Hid (Row (World.alloc (World.alloc (World.alloc w (.cells (insCells 26 a b c n).toArray 45)) (.cells (regCells r).toArray 24)) (.cells (effCells zeroEff).toArray 30)) (w.heap.size + 1) 24 (regCells r)) := (Row.new_at _ 24 (regCells r) (by simp)).alloc _
  have HZ : Hid (Row (World.alloc (World.alloc (World.alloc w (.cells (insCells 26 a b c n).toArray 45)) (.cells (regCells r).toArray 24)) (.cells (effCells zeroEff).toArray 30)) (w.heap.size + 1 + 1) 30 (effCells zeroEff)) := Row.new_at _ 30 (effCells zeroEff) (by simp)
  have HC0 : Hid (Ch No w (World.alloc (World.alloc (World.alloc w (.cells (insCells 26 a b c n).toArray 45)) (.cells (regCells r).toArray 24)) (.cells (effCells zeroEff).toArray 30))) := (((Ch.refl No w).alloc _).alloc _).alloc _
  have hnw : IntKind.i64.wrap n = n := by rw [i64_wrap, bv_in ⟨by omega, by omega⟩]
  have ia : (a : Int) < 16 := by omega
  have ib : (b : Int) < 16 := by omega
  have ic : (c : Int) < 16 := by omega
  have HIN := Lib.hid hin
  clear hin
  go_enter Tryd.func30, Tryd.ntmps30
  go_upto_region 1 with (fail)
  change Code.wp _ _ _ _ (World.alloc (World.alloc (World.alloc w (.cells (insCells 26 a b c n).toArray 45)) (.cells (regCells r).toArray 24)) (.cells (effCells zeroEff).toArray 30))
  generalize World.alloc (World.alloc (World.alloc w (.cells (insCells 26 a b c n).toArray 45)) (.cells (regCells r).toArray 24)) (.cells (effCells zeroEff).toArray 30) = w1 at *
  have x0 : w1.cell? ⟨w.heap.size, 0, none⟩ = some (.int .u8 26) := HX.out.cell 0
  have x1 : w1.cell? ⟨w.heap.size, 1, none⟩ = some (.int .u8 a) := HX.out.cell 1
  have x2 : w1.cell? ⟨w.heap.size, 2, none⟩ = some (.int .u8 b) := HX.out.cell 2
  have x3 : w1.cell? ⟨w.heap.size, 3, none⟩ = some (.int .u8 c) := HX.out.cell 3
  have x4 : w1.cell? ⟨w.heap.size, 4, none⟩ = some (.int .i32 n) := HX.out.cell 4
  have ya : w1.cell? ⟨w.heap.size + 1, a, none⟩ = some (.int .i64 (r a)) := by rw [HRR.out.cell, regCells_get r a ha]
  have yb : w1.cell? ⟨w.heap.size + 1, b, none⟩ = some (.int .i64 (r b)) := by rw [HRR.out.cell, regCells_get r b hb]
  have yc : w1.cell? ⟨w.heap.size + 1, c, none⟩ = some (.int .i64 (r c)) := by rw [HRR.out.cell, regCells_get r c hc]
  have HN1 : Hid (¬ w.heap.size = w1.heap.size ∧ ¬ w.heap.size + 1 = w1.heap.size ∧ ¬ w.heap.size + 1 + 1 = w1.heap.size ∧ w.heap.size ≤ w1.heap.size) := by
    have := HZ.out.lt
    exact ⟨by omega, by omega, by omega, by omega⟩
  have HNEW : Hid (Row (w1.alloc (.cells (effCells zeroEff).toArray 30)) w1.heap.size 30 (effCells zeroEff)) := Row.new _ 30 (effCells zeroEff)
  clear x0 x1 x2 x3 x4 ya yb yc
  go_upto_region 2 with (first | ((with_reducible refine at_op (o := ⟨some 18, _, _, _, _, _⟩) ?_); refine pl_load (o := ⟨some 18, _, _, _, _, _⟩) rfl 24 _ rfl (w.heap.size + 1) rfl 24 (regCells r) HRR.out _ Tryd.underlying24 rfl (sizeR _) ?_) | ((with_reducible refine at_op (o := ⟨some 21, _, _, _, _, _⟩) ?_); refine pl_build2 (o := ⟨some 21, _, _, _, _, _⟩) rfl (.tmp 18) (.tmp 20) rfl r (pc + 1) rfl rfl ?_) | ((with_reducible refine at_op (o := ⟨none, .store 30 (.tmp 13) (.tmp 21), _, _, _, _⟩) ?_); refine pl_store (o := ⟨none, .store 30 (.tmp 13) (.tmp 21), _, _, _, _⟩) rfl 30 (.tmp 13) (.tmp 21) rfl (w1.heap.size) rfl 30 (effCells zeroEff) (effCells (eff0 r (pc + 1) 0)) rfl HNEW.out (sizeE _) (lenE _ _) (eff_one _) ?_; intro w4 hr4 hc4; have HE4 := Lib.hid hr4; have HX4 := Lib.hid ((HX.out.alloc _).keepIs hc4 HN1.out.1); have HR4 := Lib.hid ((HRR.out.alloc _).keepIs hc4 HN1.out.2.1); have HZ4 := Lib.hid ((HZ.out.alloc _).keepIs hc4 HN1.out.2.2.1); have HC4 := Lib.hid (ch_newg (HC0.out.alloc _) hc4 HN1.out.2.2.2); clear hr4 hc4))
  have hlt4 : w1.heap.size < w4.heap.size := HE4.out.lt
  have x0 : w4.cell? ⟨w.heap.size, 0, none⟩ = some (.int .u8 26) := HX4.out.cell 0
  have x1 : w4.cell? ⟨w.heap.size, 1, none⟩ = some (.int .u8 a) := HX4.out.cell 1
  have x2 : w4.cell? ⟨w.heap.size, 2, none⟩ = some (.int .u8 b) := HX4.out.cell 2
  have x3 : w4.cell? ⟨w.heap.size, 3, none⟩ = some (.int .u8 c) := HX4.out.cell 3
  have x4 : w4.cell? ⟨w.heap.size, 4, none⟩ = some (.int .i32 n) := HX4.out.cell 4
  have ya : w4.cell? ⟨w.heap.size + 1, a, none⟩ = some (.int .i64 (r a)) := by rw [HR4.out.cell, regCells_get r a ha]
  have yb : w4.cell? ⟨w.heap.size + 1, b, none⟩ = some (.int .i64 (r b)) := by rw [HR4.out.cell, regCells_get r b hb]
  have yc : w4.cell? ⟨w.heap.size + 1, c, none⟩ = some (.int .i64 (r c)) := by rw [HR4.out.cell, regCells_get r c hc]
  go_wp2_with (first | ((with_reducible refine at_op (o := ⟨some 100, _, _, _, _, _⟩) ?_); refine pl_load (o := ⟨some 100, _, _, _, _, _⟩) rfl 45 _ rfl (w.heap.size) rfl 45 (insCells 26 a b c n) HX4.out _ Tryd.underlying45 rfl (size45) ?_) | ((with_reducible refine at_op (o := ⟨some 101, _, _, _, _, _⟩) ?_); refine pl_load (o := ⟨some 101, _, _, _, _, _⟩) rfl 24 _ rfl (w.heap.size + 1) rfl 24 (regCells r) HR4.out _ Tryd.underlying24 rfl (sizeR _) ?_) | (go_at_call 72; refine (jump_26 A len cap hl a b c n ha hb hc r HIN.out pc hp0 hp1 hn0 hn1 _).mono ?_; rintro e w5 ⟨rfl, hc5⟩; have HZ5 := Lib.hid (HZ4.out.keepNo hc5); have HC5 := Lib.hid (HC4.out.then_ hc5); clear hc5) | ((with_reducible refine at_op (o := ⟨none, .store 30 (.tmp 12) (.tmp 103), _, _, _, _⟩) ?_); refine pl_store (o := ⟨none, .store 30 (.tmp 12) (.tmp 103), _, _, _, _⟩) rfl 30 (.tmp 12) (.tmp 103) rfl (w.heap.size + 1 + 1) rfl 30 (effCells zeroEff) (effCells (({ eff0 r (pc + 1) 0 with pc := inn len n } : Eff).reg 14 (pc + 1))) rfl HZ5.out (sizeE _) (lenE _ _) (eff_one _) ?_; intro w6 hr6 hc6; have HR6 := Lib.hid hr6; have HC6 := Lib.hid hc6; clear hr6 hc6))
  refine bodyPost_ret (v := .agg (effCells (({ eff0 r (pc + 1) 0 with pc := inn len n } : Eff).reg 14 (pc + 1))).toArray) (results_row rfl _ _ (w.heap.size + 1 + 1) 30 _ _ rfl HR6.out Tryd.underlying30 rfl (sizeE _)) rfl ⟨rfl, ?_⟩
  exact ch_newg HC5.out HC6.out (by omega)
set_option maxRecDepth 100000 in
set_option maxHeartbeats 4000000 in
theorem done_27_bad (A : Option Addr) (len cap : Nat) (hl : len ≤ 9223372036854775807) (M : Option Addr) (xs : List Int) (mcap : Nat) (hm : xs.length ≤ 9223372036854775807) (fixed : Int) (a b c : Nat) (n : Int) (ha : a < 16) (hb : b < 16) (hc : c < 16) (r : Nat → Int) (hin : ∀ i, i < 16 → In64 (r i)) (pc : Int) (hp0 : -9223372036854775808 ≤ pc) (hp1 : pc < 9223372036854775807) (hn0 : -2147483648 ≤ n) (hn1 : n ≤ 2147483647) (w : World) (h0 : n < 1 ∨ 27 < n) :
    Calls Tryd.prog 30 #[.slice A len cap, .agg (insCells 27 a b c n).toArray, .slice M xs.length mcap, .int .i64 fixed, .agg (regCells r).toArray, .int .i64 pc] w fun e w' => e = .returned (.agg (effCells (eff0 r (pc + 1) 5)).toArray) ∧ Ch No w w' := by
  have HX : Hid (Row (World.alloc (World.alloc (World.alloc w (.cells (insCells 27 a b c n).toArray 45)) (.cells (regCells r).toArray 24)) (.cells (effCells zeroEff).toArray 30)) w.heap.size 45 (insCells 27 a b c n)) := ((Row.new w 45 (insCells 27 a b c n)).alloc _).alloc _
  have HRR : Hid (Row (World.alloc (World.alloc (World.alloc w (.cells (insCells 27 a b c n).toArray 45)) (.cells (regCells r).toArray 24)) (.cells (effCells zeroEff).toArray 30)) (w.heap.size + 1) 24 (regCells r)) := (Row.new_at _ 24 (regCells r) (by simp)).alloc _
  have HZ : Hid (Row (World.alloc (World.alloc (World.alloc w (.cells (insCells 27 a b c n).toArray 45)) (.cells (regCells r).toArray 24)) (.cells (effCells zeroEff).toArray 30)) (w.heap.size + 1 + 1) 30 (effCells zeroEff)) := Row.new_at _ 30 (effCells zeroEff) (by simp)
  have HC0 : Hid (Ch No w (World.alloc (World.alloc (World.alloc w (.cells (insCells 27 a b c n).toArray 45)) (.cells (regCells r).toArray 24)) (.cells (effCells zeroEff).toArray 30))) := (((Ch.refl No w).alloc _).alloc _).alloc _
  have hnw : IntKind.i64.wrap n = n := by rw [i64_wrap, bv_in ⟨by omega, by omega⟩]
  have ia : (a : Int) < 16 := by omega
  have ib : (b : Int) < 16 := by omega
  have ic : (c : Int) < 16 := by omega
  have HIN := Lib.hid hin
  clear hin
  have H0 := Lib.hid h0
  clear h0
  go_enter Tryd.func30, Tryd.ntmps30
  go_upto_region 1 with (fail)
  change Code.wp _ _ _ _ (World.alloc (World.alloc (World.alloc w (.cells (insCells 27 a b c n).toArray 45)) (.cells (regCells r).toArray 24)) (.cells (effCells zeroEff).toArray 30))
  generalize World.alloc (World.alloc (World.alloc w (.cells (insCells 27 a b c n).toArray 45)) (.cells (regCells r).toArray 24)) (.cells (effCells zeroEff).toArray 30) = w1 at *
  have x0 : w1.cell? ⟨w.heap.size, 0, none⟩ = some (.int .u8 27) := HX.out.cell 0
  have x1 : w1.cell? ⟨w.heap.size, 1, none⟩ = some (.int .u8 a) := HX.out.cell 1
  have x2 : w1.cell? ⟨w.heap.size, 2, none⟩ = some (.int .u8 b) := HX.out.cell 2
  have x3 : w1.cell? ⟨w.heap.size, 3, none⟩ = some (.int .u8 c) := HX.out.cell 3
  have x4 : w1.cell? ⟨w.heap.size, 4, none⟩ = some (.int .i32 n) := HX.out.cell 4
  have ya : w1.cell? ⟨w.heap.size + 1, a, none⟩ = some (.int .i64 (r a)) := by rw [HRR.out.cell, regCells_get r a ha]
  have yb : w1.cell? ⟨w.heap.size + 1, b, none⟩ = some (.int .i64 (r b)) := by rw [HRR.out.cell, regCells_get r b hb]
  have yc : w1.cell? ⟨w.heap.size + 1, c, none⟩ = some (.int .i64 (r c)) := by rw [HRR.out.cell, regCells_get r c hc]
  have HN1 : Hid (¬ w.heap.size = w1.heap.size ∧ ¬ w.heap.size + 1 = w1.heap.size ∧ ¬ w.heap.size + 1 + 1 = w1.heap.size ∧ w.heap.size ≤ w1.heap.size) := by
    have := HZ.out.lt
    exact ⟨by omega, by omega, by omega, by omega⟩
  have HNEW : Hid (Row (w1.alloc (.cells (effCells zeroEff).toArray 30)) w1.heap.size 30 (effCells zeroEff)) := Row.new _ 30 (effCells zeroEff)
  clear x0 x1 x2 x3 x4 ya yb yc
  go_upto_region 2 with (first | ((with_reducible refine at_op (o := ⟨some 18, _, _, _, _, _⟩) ?_); refine pl_load (o := ⟨some 18, _, _, _, _, _⟩) rfl 24 _ rfl (w.heap.size + 1) rfl 24 (regCells r) HRR.out _ Tryd.underlying24 rfl (sizeR _) ?_) | ((with_reducible refine at_op (o := ⟨some 21, _, _, _, _, _⟩) ?_); refine pl_build2 (o := ⟨some 21, _, _, _, _, _⟩) rfl (.tmp 18) (.tmp 20) rfl r (pc + 1) rfl rfl ?_) | ((with_reducible refine at_op (o := ⟨none, .store 30 (.tmp 13) (.tmp 21), _, _, _, _⟩) ?_); refine pl_store (o := ⟨none, .store 30 (.tmp 13) (.tmp 21), _, _, _, _⟩) rfl 30 (.tmp 13) (.tmp 21) rfl (w1.heap.size) rfl 30 (effCells zeroEff) (effCells (eff0 r (pc + 1) 0)) rfl HNEW.out (sizeE _) (lenE _ _) (eff_one _) ?_; intro w4 hr4 hc4; have HE4 := Lib.hid hr4; have HX4 := Lib.hid ((HX.out.alloc _).keepIs hc4 HN1.out.1); have HR4 := Lib.hid ((HRR.out.alloc _).keepIs hc4 HN1.out.2.1); have HZ4 := Lib.hid ((HZ.out.alloc _).keepIs hc4 HN1.out.2.2.1); have HC4 := Lib.hid (ch_newg (HC0.out.alloc _) hc4 HN1.out.2.2.2); clear hr4 hc4))
  have hlt4 : w1.heap.size < w4.heap.size := HE4.out.lt
  have x0 : w4.cell? ⟨w.heap.size, 0, none⟩ = some (.int .u8 27) := HX4.out.cell 0
  have x1 : w4.cell? ⟨w.heap.size, 1, none⟩ = some (.int .u8 a) := HX4.out.cell 1
  have x2 : w4.cell? ⟨w.heap.size, 2, none⟩ = some (.int .u8 b) := HX4.out.cell 2
  have x3 : w4.cell? ⟨w.heap.size, 3, none⟩ = some (.int .u8 c) := HX4.out.cell 3
  have x4 : w4.cell? ⟨w.heap.size, 4, none⟩ = some (.int .i32 n) := HX4.out.cell 4
  have ya : w4.cell? ⟨w.heap.size + 1, a, none⟩ = some (.int .i64 (r a)) := by rw [HR4.out.cell, regCells_get r a ha]
  have yb : w4.cell? ⟨w.heap.size + 1, b, none⟩ = some (.int .i64 (r b)) := by rw [HR4.out.cell, regCells_get r b hb]
  have yc : w4.cell? ⟨w.heap.size + 1, c, none⟩ = some (.int .i64 (r c)) := by rw [HR4.out.cell, regCells_get r c hc]
  by_cases h1 : n < 1
  · have d1 : decide (n < 1) = true := by simpa using h1
    go_wp2_with (first | ((with_reducible refine at_op (o := ⟨some 112, _, _, _, _, _⟩) ?_); refine pl_load (o := ⟨some 112, _, _, _, _, _⟩) rfl 24 _ rfl (w.heap.size + 1) rfl 24 (regCells r) HR4.out _ Tryd.underlying24 rfl (sizeR _) ?_) | (go_at_call 29; refine (fault_29 r pc 5 hp0 hp1 _).mono ?_; rintro e w5 ⟨rfl, hc5⟩; have HZ5 := Lib.hid (HZ4.out.keepNo hc5); have HC5 := Lib.hid (HC4.out.then_ hc5); clear hc5) | ((with_reducible refine at_op (o := ⟨none, .store 30 (.tmp 12) (.tmp 114), _, _, _, _⟩) ?_); refine pl_store (o := ⟨none, .store 30 (.tmp 12) (.tmp 114), _, _, _, _⟩) rfl 30 (.tmp 12) (.tmp 114) rfl (w.heap.size + 1 + 1) rfl 30 (effCells zeroEff) (effCells (eff0 r (pc + 1) 5)) rfl HZ5.out (sizeE _) (lenE _ _) (eff_one _) ?_; intro w6 hr6 hc6; have HR6 := Lib.hid hr6; have HC6 := Lib.hid hc6; clear hr6 hc6))
    refine bodyPost_ret (v := .agg (effCells (eff0 r (pc + 1) 5)).toArray) (results_row rfl _ _ (w.heap.size + 1 + 1) 30 _ _ rfl HR6.out Tryd.underlying30 rfl (sizeE _)) rfl ⟨rfl, ?_⟩
    exact ch_newg HC5.out HC6.out (by omega)
  · have d1 : decide (n < 1) = false := by simpa using h1
    have h2 : 27 < n := by have := H0.out; omega
    have d2 : decide (27 < n) = true := by simpa using h2
    go_wp2_with (first | ((with_reducible refine at_op (o := ⟨some 112, _, _, _, _, _⟩) ?_); refine pl_load (o := ⟨some 112, _, _, _, _, _⟩) rfl 24 _ rfl (w.heap.size + 1) rfl 24 (regCells r) HR4.out _ Tryd.underlying24 rfl (sizeR _) ?_) | (go_at_call 29; refine (fault_29 r pc 5 hp0 hp1 _).mono ?_; rintro e w5 ⟨rfl, hc5⟩; have HZ5 := Lib.hid (HZ4.out.keepNo hc5); have HC5 := Lib.hid (HC4.out.then_ hc5); clear hc5) | ((with_reducible refine at_op (o := ⟨none, .store 30 (.tmp 12) (.tmp 114), _, _, _, _⟩) ?_); refine pl_store (o := ⟨none, .store 30 (.tmp 12) (.tmp 114), _, _, _, _⟩) rfl 30 (.tmp 12) (.tmp 114) rfl (w.heap.size + 1 + 1) rfl 30 (effCells zeroEff) (effCells (eff0 r (pc + 1) 5)) rfl HZ5.out (sizeE _) (lenE _ _) (eff_one _) ?_; intro w6 hr6 hc6; have HR6 := Lib.hid hr6; have HC6 := Lib.hid hc6; clear hr6 hc6))
    refine bodyPost_ret (v := .agg (effCells (eff0 r (pc + 1) 5)).toArray) (results_row rfl _ _ (w.heap.size + 1 + 1) 30 _ _ rfl HR6.out Tryd.underlying30 rfl (sizeE _)) rfl ⟨rfl, ?_⟩
    exact ch_newg HC5.out HC6.out (by omega)
set_option maxRecDepth 100000 in
set_option maxHeartbeats 4000000 in
theorem done_27 (A : Option Addr) (len cap : Nat) (hl : len ≤ 9223372036854775807) (M : Option Addr) (xs : List Int) (mcap : Nat) (hm : xs.length ≤ 9223372036854775807) (fixed : Int) (a b c : Nat) (n : Int) (ha : a < 16) (hb : b < 16) (hc : c < 16) (r : Nat → Int) (hin : ∀ i, i < 16 → In64 (r i)) (pc : Int) (hp0 : -9223372036854775808 ≤ pc) (hp1 : pc < 9223372036854775807) (hn0 : -2147483648 ≤ n) (hn1 : n ≤ 2147483647) (w : World) (h1 : 1 ≤ n) (h2 : n ≤ 27) :
    Calls Tryd.prog 30 #[.slice A len cap, .agg (insCells 27 a b c n).toArray, .slice M xs.length mcap, .int .i64 fixed, .agg (regCells r).toArray, .int .i64 pc] w fun e w' => e = .returned (.agg (effCells ({ eff0 r (pc + 1) 0 with call := n })).toArray) ∧ Ch No w w' := by
  have HX : Hid (Row (World.alloc (World.alloc (World.alloc w (.cells (insCells 27 a b c n).toArray 45)) (.cells (regCells r).toArray 24)) (.cells (effCells zeroEff).toArray 30)) w.heap.size 45 (insCells 27 a b c n)) := ((Row.new w 45 (insCells 27 a b c n)).alloc _).alloc _
  have HRR : Hid (Row (World.alloc (World.alloc (World.alloc w (.cells (insCells 27 a b c n).toArray 45)) (.cells (regCells r).toArray 24)) (.cells (effCells zeroEff).toArray 30)) (w.heap.size + 1) 24 (regCells r)) := (Row.new_at _ 24 (regCells r) (by simp)).alloc _
  have HZ : Hid (Row (World.alloc (World.alloc (World.alloc w (.cells (insCells 27 a b c n).toArray 45)) (.cells (regCells r).toArray 24)) (.cells (effCells zeroEff).toArray 30)) (w.heap.size + 1 + 1) 30 (effCells zeroEff)) := Row.new_at _ 30 (effCells zeroEff) (by simp)
  have HC0 : Hid (Ch No w (World.alloc (World.alloc (World.alloc w (.cells (insCells 27 a b c n).toArray 45)) (.cells (regCells r).toArray 24)) (.cells (effCells zeroEff).toArray 30))) := (((Ch.refl No w).alloc _).alloc _).alloc _
  have hnw : IntKind.i64.wrap n = n := by rw [i64_wrap, bv_in ⟨by omega, by omega⟩]
  have ia : (a : Int) < 16 := by omega
  have ib : (b : Int) < 16 := by omega
  have ic : (c : Int) < 16 := by omega
  have HIN := Lib.hid hin
  clear hin
  have d1 : decide (n < 1) = false := by simp; omega
  have d2 : decide (27 < n) = false := by simp; omega
  go_enter Tryd.func30, Tryd.ntmps30
  go_upto_region 1 with (fail)
  change Code.wp _ _ _ _ (World.alloc (World.alloc (World.alloc w (.cells (insCells 27 a b c n).toArray 45)) (.cells (regCells r).toArray 24)) (.cells (effCells zeroEff).toArray 30))
  generalize World.alloc (World.alloc (World.alloc w (.cells (insCells 27 a b c n).toArray 45)) (.cells (regCells r).toArray 24)) (.cells (effCells zeroEff).toArray 30) = w1 at *
  have x0 : w1.cell? ⟨w.heap.size, 0, none⟩ = some (.int .u8 27) := HX.out.cell 0
  have x1 : w1.cell? ⟨w.heap.size, 1, none⟩ = some (.int .u8 a) := HX.out.cell 1
  have x2 : w1.cell? ⟨w.heap.size, 2, none⟩ = some (.int .u8 b) := HX.out.cell 2
  have x3 : w1.cell? ⟨w.heap.size, 3, none⟩ = some (.int .u8 c) := HX.out.cell 3
  have x4 : w1.cell? ⟨w.heap.size, 4, none⟩ = some (.int .i32 n) := HX.out.cell 4
  have ya : w1.cell? ⟨w.heap.size + 1, a, none⟩ = some (.int .i64 (r a)) := by rw [HRR.out.cell, regCells_get r a ha]
  have yb : w1.cell? ⟨w.heap.size + 1, b, none⟩ = some (.int .i64 (r b)) := by rw [HRR.out.cell, regCells_get r b hb]
  have yc : w1.cell? ⟨w.heap.size + 1, c, none⟩ = some (.int .i64 (r c)) := by rw [HRR.out.cell, regCells_get r c hc]
  have HN1 : Hid (¬ w.heap.size = w1.heap.size ∧ ¬ w.heap.size + 1 = w1.heap.size ∧ ¬ w.heap.size + 1 + 1 = w1.heap.size ∧ w.heap.size ≤ w1.heap.size) := by
    have := HZ.out.lt
    exact ⟨by omega, by omega, by omega, by omega⟩
  have HNEW : Hid (Row (w1.alloc (.cells (effCells zeroEff).toArray 30)) w1.heap.size 30 (effCells zeroEff)) := Row.new _ 30 (effCells zeroEff)
  clear x0 x1 x2 x3 x4 ya yb yc
  go_upto_region 2 with (first | ((with_reducible refine at_op (o := ⟨some 18, _, _, _, _, _⟩) ?_); refine pl_load (o := ⟨some 18, _, _, _, _, _⟩) rfl 24 _ rfl (w.heap.size + 1) rfl 24 (regCells r) HRR.out _ Tryd.underlying24 rfl (sizeR _) ?_) | ((with_reducible refine at_op (o := ⟨some 21, _, _, _, _, _⟩) ?_); refine pl_build2 (o := ⟨some 21, _, _, _, _, _⟩) rfl (.tmp 18) (.tmp 20) rfl r (pc + 1) rfl rfl ?_) | ((with_reducible refine at_op (o := ⟨none, .store 30 (.tmp 13) (.tmp 21), _, _, _, _⟩) ?_); refine pl_store (o := ⟨none, .store 30 (.tmp 13) (.tmp 21), _, _, _, _⟩) rfl 30 (.tmp 13) (.tmp 21) rfl (w1.heap.size) rfl 30 (effCells zeroEff) (effCells (eff0 r (pc + 1) 0)) rfl HNEW.out (sizeE _) (lenE _ _) (eff_one _) ?_; intro w4 hr4 hc4; have HE4 := Lib.hid hr4; have HX4 := Lib.hid ((HX.out.alloc _).keepIs hc4 HN1.out.1); have HR4 := Lib.hid ((HRR.out.alloc _).keepIs hc4 HN1.out.2.1); have HZ4 := Lib.hid ((HZ.out.alloc _).keepIs hc4 HN1.out.2.2.1); have HC4 := Lib.hid (ch_newg (HC0.out.alloc _) hc4 HN1.out.2.2.2); clear hr4 hc4))
  have hlt4 : w1.heap.size < w4.heap.size := HE4.out.lt
  have x0 : w4.cell? ⟨w.heap.size, 0, none⟩ = some (.int .u8 27) := HX4.out.cell 0
  have x1 : w4.cell? ⟨w.heap.size, 1, none⟩ = some (.int .u8 a) := HX4.out.cell 1
  have x2 : w4.cell? ⟨w.heap.size, 2, none⟩ = some (.int .u8 b) := HX4.out.cell 2
  have x3 : w4.cell? ⟨w.heap.size, 3, none⟩ = some (.int .u8 c) := HX4.out.cell 3
  have x4 : w4.cell? ⟨w.heap.size, 4, none⟩ = some (.int .i32 n) := HX4.out.cell 4
  have ya : w4.cell? ⟨w.heap.size + 1, a, none⟩ = some (.int .i64 (r a)) := by rw [HR4.out.cell, regCells_get r a ha]
  have yb : w4.cell? ⟨w.heap.size + 1, b, none⟩ = some (.int .i64 (r b)) := by rw [HR4.out.cell, regCells_get r b hb]
  have yc : w4.cell? ⟨w.heap.size + 1, c, none⟩ = some (.int .i64 (r c)) := by rw [HR4.out.cell, regCells_get r c hc]
  have e21 : w4.cell? ⟨w1.heap.size, 21, none⟩ = some (.int .i64 0) := row_rest HE4.out 5
  have z21 : w4.frozen? ⟨w1.heap.size, 21, none⟩ = false := HE4.out.frozen 21
  have HE7 : Hid (Row (w4.setCell ⟨w1.heap.size, 21, none⟩ (.int .i64 n)) w1.heap.size 30 (effCells { eff0 r (pc + 1) 0 with call := n })) := by
    show Row _ _ _ _
    have h := HE4.out.set_ 21 (.int .i64 n)
    rw [eff_set_call] at h
    exact h
  have HZ7 : Hid (Row (w4.setCell ⟨w1.heap.size, 21, none⟩ (.int .i64 n)) (w.heap.size + 1 + 1) 30 (effCells zeroEff)) := HZ4.out.setOther HN1.out.2.2.1 _
  have HC7 : Hid (Ch No w (w4.setCell ⟨w1.heap.size, 21, none⟩ (.int .i64 n))) := HC4.out.setCell (fun h => absurd h (by have := HN1.out.2.2.2; show ¬ w1.heap.size < _; omega)) _
  go_wp2_with (first | ((with_reducible refine at_op (o := ⟨some 117, _, _, _, _, _⟩) ?_); refine pl_load (o := ⟨some 117, _, _, _, _, _⟩) rfl 30 _ rfl (w1.heap.size) rfl 30 (effCells { eff0 r (pc + 1) 0 with call := n }) HE7.out _ Tryd.underlying30 rfl (sizeE _) ?_) | ((with_reducible refine at_op (o := ⟨none, .store 30 (.tmp 12) (.tmp 117), _, _, _, _⟩) ?_); refine pl_store (o := ⟨none, .store 30 (.tmp 12) (.tmp 117), _, _, _, _⟩) rfl 30 (.tmp 12) (.tmp 117) rfl (w.heap.size + 1 + 1) rfl 30 (effCells zeroEff) (effCells ({ eff0 r (pc + 1) 0 with call := n })) rfl HZ7.out (sizeE _) (lenE _ _) (eff_one _) ?_; intro w6 hr6 hc6; have HR6 := Lib.hid hr6; have HC6 := Lib.hid hc6; clear hr6 hc6))
  refine bodyPost_ret (v := .agg (effCells ({ eff0 r (pc + 1) 0 with call := n })).toArray) (results_row rfl _ _ (w.heap.size + 1 + 1) 30 _ _ rfl HR6.out Tryd.underlying30 rfl (sizeE _)) rfl ⟨rfl, ?_⟩
  exact ch_newg HC7.out HC6.out (by omega)
set_option maxRecDepth 100000 in
set_option maxHeartbeats 4000000 in
theorem done_18 (A : Option Addr) (len cap : Nat) (hl : len ≤ 9223372036854775807) (M : Option Addr) (xs : List Int) (mcap : Nat) (hm : xs.length ≤ 9223372036854775807) (fixed : Int) (a b c : Nat) (n : Int) (ha : a < 16) (hb : b < 16) (hc : c < 16) (r : Nat → Int) (hin : ∀ i, i < 16 → In64 (r i)) (pc : Int) (hp0 : -9223372036854775808 ≤ pc) (hp1 : pc < 9223372036854775807) (hn0 : -2147483648 ≤ n) (hn1 : n ≤ 2147483647) (w : World) :
    Calls Tryd.prog 30 #[.slice A len cap, .agg (insCells 18 a b c n).toArray, .slice M xs.length mcap, .int .i64 fixed, .agg (regCells r).toArray, .int .i64 pc] w fun e w' => e = .returned (.agg (effCells ((eff0 r (pc + 1) 0).reg a (recF 18 (r b) (n)))).toArray) ∧ Ch No w w' := by
  have HX : Hid (Row (World.alloc (World.alloc (World.alloc w (.cells (insCells 18 a b c n).toArray 45)) (.cells (regCells r).toArray 24)) (.cells (effCells zeroEff).toArray 30)) w.heap.size 45 (insCells 18 a b c n)) := ((Row.new w 45 (insCells 18 a b c n)).alloc _).alloc _
  have HRR : Hid (Row (World.alloc (World.alloc (World.alloc w (.cells (insCells 18 a b c n).toArray 45)) (.cells (regCells r).toArray 24)) (.cells (effCells zeroEff).toArray 30)) (w.heap.size + 1) 24 (regCells r)) := (Row.new_at _ 24 (regCells r) (by simp)).alloc _
  have HZ : Hid (Row (World.alloc (World.alloc (World.alloc w (.cells (insCells 18 a b c n).toArray 45)) (.cells (regCells r).toArray 24)) (.cells (effCells zeroEff).toArray 30)) (w.heap.size + 1 + 1) 30 (effCells zeroEff)) := Row.new_at _ 30 (effCells zeroEff) (by simp)
  have HC0 : Hid (Ch No w (World.alloc (World.alloc (World.alloc w (.cells (insCells 18 a b c n).toArray 45)) (.cells (regCells r).toArray 24)) (.cells (effCells zeroEff).toArray 30))) := (((Ch.refl No w).alloc _).alloc _).alloc _
  have hnw : IntKind.i64.wrap n = n := by rw [i64_wrap, bv_in ⟨by omega, by omega⟩]
  have ia : (a : Int) < 16 := by omega
  have ib : (b : Int) < 16 := by omega
  have ic : (c : Int) < 16 := by omega
  have HIN := Lib.hid hin
  clear hin
  have HK : Hid (∀ W, Calls Tryd.prog 71 #[.int .u8 18, .int .i64 (r b), .int .i64 (n)] W fun e w' => e = .returned (.int .i64 (recF 18 (r b) (n))) ∧ w' = W) := fun W => (reckoned_71 18 (by omega) (r b) (n) (HIN.out b hb) (in_of_small hn0 hn1) W).mono fun _ _ h => ⟨h.1, h.2.symm⟩
  go_enter Tryd.func30, Tryd.ntmps30
  go_upto_region 1 with (fail)
  change Code.wp _ _ _ _ (World.alloc (World.alloc (World.alloc w (.cells (insCells 18 a b c n).toArray 45)) (.cells (regCells r).toArray 24)) (.cells (effCells zeroEff).toArray 30))
  generalize World.alloc (World.alloc (World.alloc w (.cells (insCells 18 a b c n).toArray 45)) (.cells (regCells r).toArray 24)) (.cells (effCells zeroEff).toArray 30) = w1 at *
  have x0 : w1.cell? ⟨w.heap.size, 0, none⟩ = some (.int .u8 18) := HX.out.cell 0
  have x1 : w1.cell? ⟨w.heap.size, 1, none⟩ = some (.int .u8 a) := HX.out.cell 1
  have x2 : w1.cell? ⟨w.heap.size, 2, none⟩ = some (.int .u8 b) := HX.out.cell 2
  have x3 : w1.cell? ⟨w.heap.size, 3, none⟩ = some (.int .u8 c) := HX.out.cell 3
  have x4 : w1.cell? ⟨w.heap.size, 4, none⟩ = some (.int .i32 n) := HX.out.cell 4
  have ya : w1.cell? ⟨w.heap.size + 1, a, none⟩ = some (.int .i64 (r a)) := by rw [HRR.out.cell, regCells_get r a ha]
  have yb : w1.cell? ⟨w.heap.size + 1, b, none⟩ = some (.int .i64 (r b)) := by rw [HRR.out.cell, regCells_get r b hb]
  have yc : w1.cell? ⟨w.heap.size + 1, c, none⟩ = some (.int .i64 (r c)) := by rw [HRR.out.cell, regCells_get r c hc]
  have HN1 : Hid (¬ w.heap.size = w1.heap.size ∧ ¬ w.heap.size + 1 = w1.heap.size ∧ ¬ w.heap.size + 1 + 1 = w1.heap.size ∧ w.heap.size ≤ w1.heap.size) := by
    have := HZ.out.lt
    exact ⟨by omega, by omega, by omega, by omega⟩
  have HNEW : Hid (Row (w1.alloc (.cells (effCells zeroEff).toArray 30)) w1.heap.size 30 (effCells zeroEff)) := Row.new _ 30 (effCells zeroEff)
  clear x0 x1 x2 x3 x4 ya yb yc
  go_upto_region 2 with (first | ((with_reducible refine at_op (o := ⟨some 18, _, _, _, _, _⟩) ?_); refine pl_load (o := ⟨some 18, _, _, _, _, _⟩) rfl 24 _ rfl (w.heap.size + 1) rfl 24 (regCells r) HRR.out _ Tryd.underlying24 rfl (sizeR _) ?_) | ((with_reducible refine at_op (o := ⟨some 21, _, _, _, _, _⟩) ?_); refine pl_build2 (o := ⟨some 21, _, _, _, _, _⟩) rfl (.tmp 18) (.tmp 20) rfl r (pc + 1) rfl rfl ?_) | ((with_reducible refine at_op (o := ⟨none, .store 30 (.tmp 13) (.tmp 21), _, _, _, _⟩) ?_); refine pl_store (o := ⟨none, .store 30 (.tmp 13) (.tmp 21), _, _, _, _⟩) rfl 30 (.tmp 13) (.tmp 21) rfl (w1.heap.size) rfl 30 (effCells zeroEff) (effCells (eff0 r (pc + 1) 0)) rfl HNEW.out (sizeE _) (lenE _ _) (eff_one _) ?_; intro w4 hr4 hc4; have HE4 := Lib.hid hr4; have HX4 := Lib.hid ((HX.out.alloc _).keepIs hc4 HN1.out.1); have HR4 := Lib.hid ((HRR.out.alloc _).keepIs hc4 HN1.out.2.1); have HZ4 := Lib.hid ((HZ.out.alloc _).keepIs hc4 HN1.out.2.2.1); have HC4 := Lib.hid (ch_newg (HC0.out.alloc _) hc4 HN1.out.2.2.2); clear hr4 hc4))
  have hlt4 : w1.heap.size < w4.heap.size := HE4.out.lt
  have x0 : w4.cell? ⟨w.heap.size, 0, none⟩ = some (.int .u8 18) := HX4.out.cell 0
  have x1 : w4.cell? ⟨w.heap.size, 1, none⟩ = some (.int .u8 a) := HX4.out.cell 1
  have x2 : w4.cell? ⟨w.heap.size, 2, none⟩ = some (.int .u8 b) := HX4.out.cell 2
  have x3 : w4.cell? ⟨w.heap.size, 3, none⟩ = some (.int .u8 c) := HX4.out.cell 3
  have x4 : w4.cell? ⟨w.heap.size, 4, none⟩ = some (.int .i32 n) := HX4.out.cell 4
  have ya : w4.cell? ⟨w.heap.size + 1, a, none⟩ = some (.int .i64 (r a)) := by rw [HR4.out.cell, regCells_get r a ha]
  have yb : w4.cell? ⟨w.heap.size + 1, b, none⟩ = some (.int .i64 (r b)) := by rw [HR4.out.cell, regCells_get r b hb]
  have yc : w4.cell? ⟨w.heap.size + 1, c, none⟩ = some (.int .i64 (r c)) := by rw [HR4.out.cell, regCells_get r c hc]
  go_upto_region 21 with (fail)
  refine wp_region_qt 6 (by kernel_rfl) (by kernel_rfl) ?_
  simp only [List.take_succ_cons, List.take_zero, List.drop_succ_cons, List.drop_zero]
  refine wpQuiet_read (by rfl) (.agg (effCells (eff0 r (pc + 1) 0)).toArray) (fun w' hw' => by
    obtain ⟨j, rfl⟩ := hw'
    exact exec_load_agg 30 (.tmp 13) rfl w1.heap.size rfl 30 _ (HE4.out.drewN j) _ Tryd.underlying30 rfl (sizeE _)) ?_
  simp only [Act.put, List.setIfInBounds_toArray, List.set_cons_zero, List.set_cons_succ]
  have hcw : IntKind.i64.wrap (c : Int) = (c : Int) := by rw [i64_wrap, bv_in ⟨by omega, by omega⟩]
  have ic0 : (0 : Int) ≤ (c : Int) := by omega
  repeat (quiet_step (((go_at_call 71; exact Calls.quiet_of_same (HK.out _)))))
  refine wpQuiet_nil ?_
  intro _ hw'
  obtain ⟨nq, hw''⟩ := hw'
  subst hw''
  go_wp2_with (first | (go_at_call 67; refine (with_67 (eff0 r (pc + 1) 0) a ha (recF 18 (r b) (n)) _).mono ?_; rintro e w5 ⟨rfl, hc5⟩; have HZ5 := Lib.hid ((HZ4.out.drewN _).keepNo hc5); have HC5 := Lib.hid ((HC4.out.drewN _).then_ hc5); clear hc5) | ((with_reducible refine at_op (o := ⟨none, .store 30 (.tmp 12) (.tmp 92), _, _, _, _⟩) ?_); refine wpList_store_agg (o := ⟨none, .store 30 (.tmp 12) (.tmp 92), _, _, _, _⟩) rfl 30 (.tmp 12) (.tmp 92) rfl (w.heap.size + 1 + 1) rfl 30 (effCells zeroEff) (effCells ((eff0 r (pc + 1) 0).reg a (recF 18 (r b) (n)))) rfl HZ5.out (sizeE _) (lenE _ _) (eff_one _) ?_; intro w6 hr6 hc6; have HR6 := Lib.hid hr6; have HC6 := Lib.hid hc6; clear hr6 hc6))
  refine bodyPost_ret (v := .agg (effCells ((eff0 r (pc + 1) 0).reg a (recF 18 (r b) (n)))).toArray) (results_row rfl _ _ (w.heap.size + 1 + 1) 30 _ _ rfl HR6.out Tryd.underlying30 rfl (sizeE _)) rfl ⟨rfl, ?_⟩
  exact ch_newg HC5.out HC6.out (by omega)
end Go.Proofs.YtellmlffkgfeiaaDoor
