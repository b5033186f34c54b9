/- The closures of package cpu's table (two): what each does to an effect. -/
import Derived.Test.YtellmlffkgfeiaaDoorC2
import Derived.Deep.RegionWith
import Derived.Deep.DrawnRows
set_option linter.unusedVariables false
set_option linter.unusedSimpArgs false
attribute [local go_sem ↓] Go.wp_at_zero Go.wp_at_succ
namespace Go.Proofs.YtellmlffkgfeiaaDoor
open Go.RowKit
set_option maxHeartbeats 1000000 in
theorem op_add (A : Option Addr) (len cap : Nat) (hl : len ≤ 9223372036854775807) (M : Option Addr) (mlen mcap : Nat) (fixed : Int) (op a b c : Nat) (n : Int) (hn0 : -2147483648 ≤ n) (hn1 : n ≤ 2147483647) (g : Nat) (E : Eff) (ha : a < 16) (hb : b < 16) (hc : c < 16) (q : Nat) (w : World) (hg : Row w g 30 (effCells E)) (hq : w.cell? ⟨q, 0, none⟩ = some (.func (.func 42) #[] #[])) :
    Calls Tryd.prog 77 #[.agg #[.slice A len cap, .slice M mlen mcap, .int .i64 fixed], .agg #[.int .u8 op, .int .u8 a, .int .u8 b, .int .u8 c, .int .i32 n], .pointer (some ⟨g, 0, none⟩), .pointer (some ⟨q, 0, none⟩)] w fun e w' => e = .returned (.tuple #[]) ∧ Row w' g 30 (effCells (E.reg a (Fadd (E.r b) (E.r c)))) ∧ Ch (Is g) w w' := by
  have Ha := row_reg hg a ha
  have ia : (a : Int) < 16 := by omega
  have Hb := row_reg hg b hb
  have ib : (b : Int) < 16 := by omega
  have Hc := row_reg hg c hc
  have ic : (c : Int) < 16 := by omega
  have HFa := hg.frozen a
  have hq0 : q < w.heap.size := World.block_lt_of_cell? w _ hq
  have hg0 : g < w.heap.size := hg.lt
  have hw : IntKind.i64.wrap n = n := by rw [i64_wrap, bv_in ⟨by omega, by omega⟩]
  have HG := Lib.hid hg
  clear hg
  go_enter Tryd.func77, Tryd.ntmps77
  go_wp2
  refine wp_region_qt 22 (by kernel_rfl) (by kernel_rfl) ?_
  simp only [List.take_succ_cons, List.take_zero, List.drop_succ_cons, List.drop_zero]
  repeat (quiet_step (((go_at_call 42; refine Calls.quiet_of_same ((leaf_42 _ _ _).mono fun e w1 h => ⟨h.1, h.2.symm⟩)))))
  refine wpQuiet_nil ?_
  intro _ hw'
  obtain ⟨nq, hw''⟩ := hw'
  subst hw''
  go_wp2
  go_end0
  refine ⟨rfl, ?_, (by repeat (first | exact Ch.refl _ _ | apply Ch.drewN | apply Ch.drew | apply Ch.alloc | (refine Ch.setCell ?_ (fun _ => is_self g) _)))⟩
  rw [← eff_set_reg _ _ ha]
  exact (by repeat (first | exact HG.out | apply Row.drewN | apply Row.drew | apply Row.set_ | apply Row.alloc))
set_option maxHeartbeats 1000000 in
theorem op_sub (A : Option Addr) (len cap : Nat) (hl : len ≤ 9223372036854775807) (M : Option Addr) (mlen mcap : Nat) (fixed : Int) (op a b c : Nat) (n : Int) (hn0 : -2147483648 ≤ n) (hn1 : n ≤ 2147483647) (g : Nat) (E : Eff) (ha : a < 16) (hb : b < 16) (hc : c < 16) (q : Nat) (w : World) (hg : Row w g 30 (effCells E)) (hq : w.cell? ⟨q, 0, none⟩ = some (.func (.func 43) #[] #[])) :
    Calls Tryd.prog 77 #[.agg #[.slice A len cap, .slice M mlen mcap, .int .i64 fixed], .agg #[.int .u8 op, .int .u8 a, .int .u8 b, .int .u8 c, .int .i32 n], .pointer (some ⟨g, 0, none⟩), .pointer (some ⟨q, 0, none⟩)] w fun e w' => e = .returned (.tuple #[]) ∧ Row w' g 30 (effCells (E.reg a (Fsub (E.r b) (E.r c)))) ∧ Ch (Is g) w w' := by
  have Ha := row_reg hg a ha
  have ia : (a : Int) < 16 := by omega
  have Hb := row_reg hg b hb
  have ib : (b : Int) < 16 := by omega
  have Hc := row_reg hg c hc
  have ic : (c : Int) < 16 := by omega
  have HFa := hg.frozen a
  have hq0 : q < w.heap.size := World.block_lt_of_cell? w _ hq
  have hg0 : g < w.heap.size := hg.lt
  have hw : IntKind.i64.wrap n = n := by rw [i64_wrap, bv_in ⟨by omega, by omega⟩]
  have HG := Lib.hid hg
  clear hg
  go_enter Tryd.func77, Tryd.ntmps77
  go_wp2
  refine wp_region_qt 22 (by kernel_rfl) (by kernel_rfl) ?_
  simp only [List.take_succ_cons, List.take_zero, List.drop_succ_cons, List.drop_zero]
  repeat (quiet_step (((go_at_call 43; refine Calls.quiet_of_same ((leaf_43 _ _ _).mono fun e w1 h => ⟨h.1, h.2.symm⟩)))))
  refine wpQuiet_nil ?_
  intro _ hw'
  obtain ⟨nq, hw''⟩ := hw'
  subst hw''
  go_wp2
  go_end0
  refine ⟨rfl, ?_, (by repeat (first | exact Ch.refl _ _ | apply Ch.drewN | apply Ch.drew | apply Ch.alloc | (refine Ch.setCell ?_ (fun _ => is_self g) _)))⟩
  rw [← eff_set_reg _ _ ha]
  exact (by repeat (first | exact HG.out | apply Row.drewN | apply Row.drew | apply Row.set_ | apply Row.alloc))
set_option maxHeartbeats 1000000 in
theorem op_mul (A : Option Addr) (len cap : Nat) (hl : len ≤ 9223372036854775807) (M : Option Addr) (mlen mcap : Nat) (fixed : Int) (op a b c : Nat) (n : Int) (hn0 : -2147483648 ≤ n) (hn1 : n ≤ 2147483647) (g : Nat) (E : Eff) (ha : a < 16) (hb : b < 16) (hc : c < 16) (q : Nat) (w : World) (hg : Row w g 30 (effCells E)) (hq : w.cell? ⟨q, 0, none⟩ = some (.func (.func 44) #[] #[])) :
    Calls Tryd.prog 77 #[.agg #[.slice A len cap, .slice M mlen mcap, .int .i64 fixed], .agg #[.int .u8 op, .int .u8 a, .int .u8 b, .int .u8 c, .int .i32 n], .pointer (some ⟨g, 0, none⟩), .pointer (some ⟨q, 0, none⟩)] w fun e w' => e = .returned (.tuple #[]) ∧ Row w' g 30 (effCells (E.reg a (Fmul (E.r b) (E.r c)))) ∧ Ch (Is g) w w' := by
  have Ha := row_reg hg a ha
  have ia : (a : Int) < 16 := by omega
  have Hb := row_reg hg b hb
  have ib : (b : Int) < 16 := by omega
  have Hc := row_reg hg c hc
  have ic : (c : Int) < 16 := by omega
  have HFa := hg.frozen a
  have hq0 : q < w.heap.size := World.block_lt_of_cell? w _ hq
  have hg0 : g < w.heap.size := hg.lt
  have hw : IntKind.i64.wrap n = n := by rw [i64_wrap, bv_in ⟨by omega, by omega⟩]
  have HG := Lib.hid hg
  clear hg
  go_enter Tryd.func77, Tryd.ntmps77
  go_wp2
  refine wp_region_qt 22 (by kernel_rfl) (by kernel_rfl) ?_
  simp only [List.take_succ_cons, List.take_zero, List.drop_succ_cons, List.drop_zero]
  repeat (quiet_step (((go_at_call 44; refine Calls.quiet_of_same ((leaf_44 _ _ _).mono fun e w1 h => ⟨h.1, h.2.symm⟩)))))
  refine wpQuiet_nil ?_
  intro _ hw'
  obtain ⟨nq, hw''⟩ := hw'
  subst hw''
  go_wp2
  go_end0
  refine ⟨rfl, ?_, (by repeat (first | exact Ch.refl _ _ | apply Ch.drewN | apply Ch.drew | apply Ch.alloc | (refine Ch.setCell ?_ (fun _ => is_self g) _)))⟩
  rw [← eff_set_reg _ _ ha]
  exact (by repeat (first | exact HG.out | apply Row.drewN | apply Row.drew | apply Row.set_ | apply Row.alloc))
set_option maxHeartbeats 1000000 in
theorem op_and (A : Option Addr) (len cap : Nat) (hl : len ≤ 9223372036854775807) (M : Option Addr) (mlen mcap : Nat) (fixed : Int) (op a b c : Nat) (n : Int) (hn0 : -2147483648 ≤ n) (hn1 : n ≤ 2147483647) (g : Nat) (E : Eff) (ha : a < 16) (hb : b < 16) (hc : c < 16) (q : Nat) (w : World) (hg : Row w g 30 (effCells E)) (hq : w.cell? ⟨q, 0, none⟩ = some (.func (.func 46) #[] #[])) :
    Calls Tryd.prog 77 #[.agg #[.slice A len cap, .slice M mlen mcap, .int .i64 fixed], .agg #[.int .u8 op, .int .u8 a, .int .u8 b, .int .u8 c, .int .i32 n], .pointer (some ⟨g, 0, none⟩), .pointer (some ⟨q, 0, none⟩)] w fun e w' => e = .returned (.tuple #[]) ∧ Row w' g 30 (effCells (E.reg a (Fand (E.r b) (E.r c)))) ∧ Ch (Is g) w w' := by
  have Ha := row_reg hg a ha
  have ia : (a : Int) < 16 := by omega
  have Hb := row_reg hg b hb
  have ib : (b : Int) < 16 := by omega
  have Hc := row_reg hg c hc
  have ic : (c : Int) < 16 := by omega
  have HFa := hg.frozen a
  have hq0 : q < w.heap.size := World.block_lt_of_cell? w _ hq
  have hg0 : g < w.heap.size := hg.lt
  have hw : IntKind.i64.wrap n = n := by rw [i64_wrap, bv_in ⟨by omega, by omega⟩]
  have HG := Lib.hid hg
  clear hg
  go_enter Tryd.func77, Tryd.ntmps77
  go_wp2
  refine wp_region_qt 22 (by kernel_rfl) (by kernel_rfl) ?_
  simp only [List.take_succ_cons, List.take_zero, List.drop_succ_cons, List.drop_zero]
  repeat (quiet_step (((go_at_call 46; refine Calls.quiet_of_same ((leaf_46 _ _ _).mono fun e w1 h => ⟨h.1, h.2.symm⟩)))))
  refine wpQuiet_nil ?_
  intro _ hw'
  obtain ⟨nq, hw''⟩ := hw'
  subst hw''
  go_wp2
  go_end0
  refine ⟨rfl, ?_, (by repeat (first | exact Ch.refl _ _ | apply Ch.drewN | apply Ch.drew | apply Ch.alloc | (refine Ch.setCell ?_ (fun _ => is_self g) _)))⟩
  rw [← eff_set_reg _ _ ha]
  exact (by repeat (first | exact HG.out | apply Row.drewN | apply Row.drew | apply Row.set_ | apply Row.alloc))
set_option maxHeartbeats 1000000 in
theorem op_or (A : Option Addr) (len cap : Nat) (hl : len ≤ 9223372036854775807) (M : Option Addr) (mlen mcap : Nat) (fixed : Int) (op a b c : Nat) (n : Int) (hn0 : -2147483648 ≤ n) (hn1 : n ≤ 2147483647) (g : Nat) (E : Eff) (ha : a < 16) (hb : b < 16) (hc : c < 16) (q : Nat) (w : World) (hg : Row w g 30 (effCells E)) (hq : w.cell? ⟨q, 0, none⟩ = some (.func (.func 47) #[] #[])) :
    Calls Tryd.prog 77 #[.agg #[.slice A len cap, .slice M mlen mcap, .int .i64 fixed], .agg #[.int .u8 op, .int .u8 a, .int .u8 b, .int .u8 c, .int .i32 n], .pointer (some ⟨g, 0, none⟩), .pointer (some ⟨q, 0, none⟩)] w fun e w' => e = .returned (.tuple #[]) ∧ Row w' g 30 (effCells (E.reg a (For (E.r b) (E.r c)))) ∧ Ch (Is g) w w' := by
  have Ha := row_reg hg a ha
  have ia : (a : Int) < 16 := by omega
  have Hb := row_reg hg b hb
  have ib : (b : Int) < 16 := by omega
  have Hc := row_reg hg c hc
  have ic : (c : Int) < 16 := by omega
  have HFa := hg.frozen a
  have hq0 : q < w.heap.size := World.block_lt_of_cell? w _ hq
  have hg0 : g < w.heap.size := hg.lt
  have hw : IntKind.i64.wrap n = n := by rw [i64_wrap, bv_in ⟨by omega, by omega⟩]
  have HG := Lib.hid hg
  clear hg
  go_enter Tryd.func77, Tryd.ntmps77
  go_wp2
  refine wp_region_qt 22 (by kernel_rfl) (by kernel_rfl) ?_
  simp only [List.take_succ_cons, List.take_zero, List.drop_succ_cons, List.drop_zero]
  repeat (quiet_step (((go_at_call 47; refine Calls.quiet_of_same ((leaf_47 _ _ _).mono fun e w1 h => ⟨h.1, h.2.symm⟩)))))
  refine wpQuiet_nil ?_
  intro _ hw'
  obtain ⟨nq, hw''⟩ := hw'
  subst hw''
  go_wp2
  go_end0
  refine ⟨rfl, ?_, (by repeat (first | exact Ch.refl _ _ | apply Ch.drewN | apply Ch.drew | apply Ch.alloc | (refine Ch.setCell ?_ (fun _ => is_self g) _)))⟩
  rw [← eff_set_reg _ _ ha]
  exact (by repeat (first | exact HG.out | apply Row.drewN | apply Row.drew | apply Row.set_ | apply Row.alloc))
set_option maxHeartbeats 1000000 in
theorem op_xor (A : Option Addr) (len cap : Nat) (hl : len ≤ 9223372036854775807) (M : Option Addr) (mlen mcap : Nat) (fixed : Int) (op a b c : Nat) (n : Int) (hn0 : -2147483648 ≤ n) (hn1 : n ≤ 2147483647) (g : Nat) (E : Eff) (ha : a < 16) (hb : b < 16) (hc : c < 16) (q : Nat) (w : World) (hg : Row w g 30 (effCells E)) (hq : w.cell? ⟨q, 0, none⟩ = some (.func (.func 48) #[] #[])) :
    Calls Tryd.prog 77 #[.agg #[.slice A len cap, .slice M mlen mcap, .int .i64 fixed], .agg #[.int .u8 op, .int .u8 a, .int .u8 b, .int .u8 c, .int .i32 n], .pointer (some ⟨g, 0, none⟩), .pointer (some ⟨q, 0, none⟩)] w fun e w' => e = .returned (.tuple #[]) ∧ Row w' g 30 (effCells (E.reg a (Fxor (E.r b) (E.r c)))) ∧ Ch (Is g) w w' := by
  have Ha := row_reg hg a ha
  have ia : (a : Int) < 16 := by omega
  have Hb := row_reg hg b hb
  have ib : (b : Int) < 16 := by omega
  have Hc := row_reg hg c hc
  have ic : (c : Int) < 16 := by omega
  have HFa := hg.frozen a
  have hq0 : q < w.heap.size := World.block_lt_of_cell? w _ hq
  have hg0 : g < w.heap.size := hg.lt
  have hw : IntKind.i64.wrap n = n := by rw [i64_wrap, bv_in ⟨by omega, by omega⟩]
  have HG := Lib.hid hg
  clear hg
  go_enter Tryd.func77, Tryd.ntmps77
  go_wp2
  refine wp_region_qt 22 (by kernel_rfl) (by kernel_rfl) ?_
  simp only [List.take_succ_cons, List.take_zero, List.drop_succ_cons, List.drop_zero]
  repeat (quiet_step (((go_at_call 48; refine Calls.quiet_of_same ((leaf_48 _ _ _).mono fun e w1 h => ⟨h.1, h.2.symm⟩)))))
  refine wpQuiet_nil ?_
  intro _ hw'
  obtain ⟨nq, hw''⟩ := hw'
  subst hw''
  go_wp2
  go_end0
  refine ⟨rfl, ?_, (by repeat (first | exact Ch.refl _ _ | apply Ch.drewN | apply Ch.drew | apply Ch.alloc | (refine Ch.setCell ?_ (fun _ => is_self g) _)))⟩
  rw [← eff_set_reg _ _ ha]
  exact (by repeat (first | exact HG.out | apply Row.drewN | apply Row.drew | apply Row.set_ | apply Row.alloc))
end Go.Proofs.YtellmlffkgfeiaaDoor
