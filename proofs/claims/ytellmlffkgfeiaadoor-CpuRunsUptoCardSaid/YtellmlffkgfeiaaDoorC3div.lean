/- The closures of package cpu's table (div): what each does to an effect. -/
import Derived.Test.YtellmlffkgfeiaaDoorC2
import Derived.Deep.RegionWith
import Derived.Deep.DrawnRows
set_option linter.unusedVariables false
set_option linter.unusedSimpArgs false
attribute [local go_sem ↓] Go.wp_at_zero Go.wp_at_succ
namespace Go.Proofs.YtellmlffkgfeiaaDoor
open Go.RowKit
set_option maxHeartbeats 1000000 in
theorem op_div (A : Option Addr) (len cap : Nat) (hl : len ≤ 9223372036854775807) (M : Option Addr) (mlen mcap : Nat) (fixed : Int) (op a b c : Nat) (n : Int) (hn0 : -2147483648 ≤ n) (hn1 : n ≤ 2147483647) (g : Nat) (E : Eff) (ha : a < 16) (hb : b < 16) (hc : c < 16) (q : Nat) (w : World) (hg : Row w g 30 (effCells E)) (hq : w.cell? ⟨q, 0, none⟩ = some (.bool false)) (hne : E.r c ≠ 0) (ir : In64 (E.r b) ∧ In64 (E.r c)) :
    Calls Tryd.prog 78 #[.agg #[.slice A len cap, .slice M mlen mcap, .int .i64 fixed], .agg #[.int .u8 op, .int .u8 a, .int .u8 b, .int .u8 c, .int .i32 n], .pointer (some ⟨g, 0, none⟩), .pointer (some ⟨q, 0, none⟩)] w fun e w' => e = .returned (.tuple #[]) ∧ Row w' g 30 (effCells (E.reg a (Fdiv (E.r b) (E.r c)))) ∧ Ch (Is g) w w' := by
  have Ha := row_reg hg a ha
  have ia : (a : Int) < 16 := by omega
  have Hb := row_reg hg b hb
  have ib : (b : Int) < 16 := by omega
  have Hc := row_reg hg c hc
  have ic : (c : Int) < 16 := by omega
  have HFa := hg.frozen a
  have hq0 : q < w.heap.size := World.block_lt_of_cell? w _ hq
  have hz : (E.r c == 0) = false := by simpa using hne
  have HQC := Lib.hid (fun W => quotient (E.r b) (E.r c) ir.1 ir.2 hne W)
  clear ir hne
  have hg0 : g < w.heap.size := hg.lt
  have hw : IntKind.i64.wrap n = n := by rw [i64_wrap, bv_in ⟨by omega, by omega⟩]
  have HG := Lib.hid hg
  clear hg
  go_enter Tryd.func78, Tryd.ntmps78
  go_wp2
  go_quiet (fail)
  go_wp2_with (go_at_call 79; refine (HQC.out _).mono ?_; rintro e w1 ⟨rfl, n1, rfl⟩)
  refine wp_region_qt 7 (by kernel_rfl) (by kernel_rfl) ?_
  simp only [List.take_succ_cons, List.take_zero, List.drop_succ_cons, List.drop_zero]
  repeat (quiet_step (fail))
  refine wpQuiet_nil ?_
  intro _ hw'
  obtain ⟨nq, hw''⟩ := hw'
  subst hw''
  go_wp2
  go_end0
  refine ⟨rfl, ?_, (by repeat (first | exact Ch.refl _ _ | apply Ch.drewN | apply Ch.drew | apply Ch.alloc | (refine Ch.setCell ?_ (fun _ => is_self g) _)))⟩
  rw [← eff_set_reg _ _ ha]
  exact (by repeat (first | exact HG.out | apply Row.drewN | apply Row.drew | apply Row.set_ | apply Row.alloc))
set_option maxHeartbeats 1000000 in
theorem op_mod (A : Option Addr) (len cap : Nat) (hl : len ≤ 9223372036854775807) (M : Option Addr) (mlen mcap : Nat) (fixed : Int) (op a b c : Nat) (n : Int) (hn0 : -2147483648 ≤ n) (hn1 : n ≤ 2147483647) (g : Nat) (E : Eff) (ha : a < 16) (hb : b < 16) (hc : c < 16) (q : Nat) (w : World) (hg : Row w g 30 (effCells E)) (hq : w.cell? ⟨q, 0, none⟩ = some (.bool true)) (hne : E.r c ≠ 0) (ir : In64 (E.r b) ∧ In64 (E.r c)) :
    Calls Tryd.prog 78 #[.agg #[.slice A len cap, .slice M mlen mcap, .int .i64 fixed], .agg #[.int .u8 op, .int .u8 a, .int .u8 b, .int .u8 c, .int .i32 n], .pointer (some ⟨g, 0, none⟩), .pointer (some ⟨q, 0, none⟩)] w fun e w' => e = .returned (.tuple #[]) ∧ Row w' g 30 (effCells (E.reg a (Fmod (E.r b) (E.r c)))) ∧ Ch (Is g) w w' := by
  have Ha := row_reg hg a ha
  have ia : (a : Int) < 16 := by omega
  have Hb := row_reg hg b hb
  have ib : (b : Int) < 16 := by omega
  have Hc := row_reg hg c hc
  have ic : (c : Int) < 16 := by omega
  have HFa := hg.frozen a
  have hq0 : q < w.heap.size := World.block_lt_of_cell? w _ hq
  have hz : (E.r c == 0) = false := by simpa using hne
  have HQC := Lib.hid (fun W => quotient (E.r b) (E.r c) ir.1 ir.2 hne W)
  clear ir hne
  have hg0 : g < w.heap.size := hg.lt
  have hw : IntKind.i64.wrap n = n := by rw [i64_wrap, bv_in ⟨by omega, by omega⟩]
  have HG := Lib.hid hg
  clear hg
  go_enter Tryd.func78, Tryd.ntmps78
  go_wp2
  go_quiet (fail)
  go_wp2_with (go_at_call 79; refine (HQC.out _).mono ?_; rintro e w1 ⟨rfl, n1, rfl⟩)
  refine wp_region_qt 7 (by kernel_rfl) (by kernel_rfl) ?_
  simp only [List.take_succ_cons, List.take_zero, List.drop_succ_cons, List.drop_zero]
  repeat (quiet_step (fail))
  refine wpQuiet_nil ?_
  intro _ hw'
  obtain ⟨nq, hw''⟩ := hw'
  subst hw''
  go_wp2
  go_end0
  refine ⟨rfl, ?_, (by repeat (first | exact Ch.refl _ _ | apply Ch.drewN | apply Ch.drew | apply Ch.alloc | (refine Ch.setCell ?_ (fun _ => is_self g) _)))⟩
  rw [← eff_set_reg _ _ ha]
  exact (by repeat (first | exact HG.out | apply Row.drewN | apply Row.drew | apply Row.set_ | apply Row.alloc))
set_option maxHeartbeats 1000000 in
theorem op_div0 (A : Option Addr) (len cap : Nat) (hl : len ≤ 9223372036854775807) (M : Option Addr) (mlen mcap : Nat) (fixed : Int) (op a b c : Nat) (n : Int) (hn0 : -2147483648 ≤ n) (hn1 : n ≤ 2147483647) (g : Nat) (E : Eff) (hb : b < 16) (hc : c < 16) (q : Nat) (w : World) (hg : Row w g 30 (effCells E)) (hz : (E.r c == 0) = true) :
    Calls Tryd.prog 78 #[.agg #[.slice A len cap, .slice M mlen mcap, .int .i64 fixed], .agg #[.int .u8 op, .int .u8 a, .int .u8 b, .int .u8 c, .int .i32 n], .pointer (some ⟨g, 0, none⟩), .pointer (some ⟨q, 0, none⟩)] w fun e w' => e = .returned (.tuple #[]) ∧ Row w' g 30 (effCells ({ E with fault := 3 })) ∧ Ch (Is g) w w' := by
  have Hb := row_reg hg b hb
  have ib : (b : Int) < 16 := by omega
  have Hc := row_reg hg c hc
  have ic : (c : Int) < 16 := by omega
  have Hf : w.cell? ⟨g, 20, none⟩ = some (.int .i64 E.fault) := row_rest hg 4
  have HFf := hg.frozen 20
  have Hc : w.cell? ⟨g, 21, none⟩ = some (.int .i64 E.call) := row_rest hg 5
  have HFc := hg.frozen 21
  have hg0 : g < w.heap.size := hg.lt
  have hw : IntKind.i64.wrap n = n := by rw [i64_wrap, bv_in ⟨by omega, by omega⟩]
  have HG := Lib.hid hg
  clear hg
  go_enter Tryd.func78, Tryd.ntmps78
  go_wp2
  go_quiet (fail)
  go_wp2
  refine bodyPost_ret (v := .tuple #[]) (results_none rfl _ _ _) rfl ⟨rfl, ?_, (by repeat (first | exact Ch.refl _ _ | apply Ch.drewN | apply Ch.drew | apply Ch.alloc | (refine Ch.setCell ?_ (fun _ => is_self g) _)))⟩
  rw [← eff_set_fault]
  exact (by repeat (first | exact HG.out | apply Row.drewN | apply Row.drew | apply Row.set_ | apply Row.alloc))
end Go.Proofs.YtellmlffkgfeiaaDoor
