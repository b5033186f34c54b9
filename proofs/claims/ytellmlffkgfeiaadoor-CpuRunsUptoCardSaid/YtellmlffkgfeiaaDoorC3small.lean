/- The closures of package cpu's table (small): what each does to an effect. -/
import Derived.Test.YtellmlffkgfeiaaDoorC2
import Derived.Deep.RegionWith
import Derived.Deep.DrawnRows
set_option linter.unusedVariables false
set_option linter.unusedSimpArgs false
attribute [local go_sem ↓] Go.wp_at_zero Go.wp_at_succ
namespace Go.Proofs.YtellmlffkgfeiaaDoor
open Go.RowKit
set_option maxHeartbeats 1000000 in
theorem op_nop (A : Option Addr) (len cap : Nat) (hl : len ≤ 9223372036854775807) (M : Option Addr) (mlen mcap : Nat) (fixed : Int) (op a b c : Nat) (n : Int) (hn0 : -2147483648 ≤ n) (hn1 : n ≤ 2147483647) (g : Nat) (E : Eff) (w : World) (hg : Row w g 30 (effCells E)) :
    Calls Tryd.prog 34 #[.agg #[.slice A len cap, .slice M mlen mcap, .int .i64 fixed], .agg #[.int .u8 op, .int .u8 a, .int .u8 b, .int .u8 c, .int .i32 n], .pointer (some ⟨g, 0, none⟩)] w fun e w' => e = .returned (.tuple #[]) ∧ Row w' g 30 (effCells (E)) ∧ Ch (Is g) w w' := by
  have hg0 : g < w.heap.size := hg.lt
  have hw : IntKind.i64.wrap n = n := by rw [i64_wrap, bv_in ⟨by omega, by omega⟩]
  have HG := Lib.hid hg
  clear hg
  go_enter Tryd.func34, Tryd.ntmps34
  go_wp2
  go_end0
  refine ⟨rfl, (by repeat (first | exact HG.out | apply Row.drewN | apply Row.drew | apply Row.set_ | apply Row.alloc)), (by repeat (first | exact Ch.refl _ _ | apply Ch.drewN | apply Ch.drew | apply Ch.alloc | (refine Ch.setCell ?_ (fun _ => is_self g) _)))⟩
set_option maxHeartbeats 1000000 in
theorem op_ldi (A : Option Addr) (len cap : Nat) (hl : len ≤ 9223372036854775807) (M : Option Addr) (mlen mcap : Nat) (fixed : Int) (op a b c : Nat) (n : Int) (hn0 : -2147483648 ≤ n) (hn1 : n ≤ 2147483647) (g : Nat) (E : Eff) (ha : a < 16) (w : World) (hg : Row w g 30 (effCells E)) :
    Calls Tryd.prog 35 #[.agg #[.slice A len cap, .slice M mlen mcap, .int .i64 fixed], .agg #[.int .u8 op, .int .u8 a, .int .u8 b, .int .u8 c, .int .i32 n], .pointer (some ⟨g, 0, none⟩)] w fun e w' => e = .returned (.tuple #[]) ∧ Row w' g 30 (effCells (E.reg a n)) ∧ Ch (Is g) w w' := by
  have Ha := row_reg hg a ha
  have ia : (a : Int) < 16 := by omega
  have HFa := hg.frozen a
  have hg0 : g < w.heap.size := hg.lt
  have hw : IntKind.i64.wrap n = n := by rw [i64_wrap, bv_in ⟨by omega, by omega⟩]
  have HG := Lib.hid hg
  clear hg
  go_enter Tryd.func35, Tryd.ntmps35
  go_wp2
  refine wp_region_qt 9 (by kernel_rfl) (by kernel_rfl) ?_
  simp only [List.take_succ_cons, List.take_zero, List.drop_succ_cons, List.drop_zero]
  repeat (quiet_step (fail))
  refine wpQuiet_nil ?_
  intro _ hw'
  obtain ⟨nq, hw''⟩ := hw'
  subst hw''
  go_wp2
  go_end0
  refine ⟨rfl, ?_, (by repeat (first | exact Ch.refl _ _ | apply Ch.drewN | apply Ch.drew | apply Ch.alloc | (refine Ch.setCell ?_ (fun _ => is_self g) _)))⟩
  rw [← eff_set_reg _ _ ha]
  exact (by repeat (first | exact HG.out | apply Row.drewN | apply Row.drew | apply Row.set_ | apply Row.alloc))
set_option maxHeartbeats 1000000 in
theorem op_ldh (A : Option Addr) (len cap : Nat) (hl : len ≤ 9223372036854775807) (M : Option Addr) (mlen mcap : Nat) (fixed : Int) (op a b c : Nat) (n : Int) (hn0 : -2147483648 ≤ n) (hn1 : n ≤ 2147483647) (g : Nat) (E : Eff) (ha : a < 16) (w : World) (hg : Row w g 30 (effCells E)) :
    Calls Tryd.prog 36 #[.agg #[.slice A len cap, .slice M mlen mcap, .int .i64 fixed], .agg #[.int .u8 op, .int .u8 a, .int .u8 b, .int .u8 c, .int .i32 n], .pointer (some ⟨g, 0, none⟩)] w fun e w' => e = .returned (.tuple #[]) ∧ Row w' g 30 (effCells (E.reg a (For (n * 4294967296) (Fand (E.r a) 4294967295)))) ∧ Ch (Is g) w w' := by
  have Ha := row_reg hg a ha
  have ia : (a : Int) < 16 := by omega
  have HFa := hg.frozen a
  have hg0 : g < w.heap.size := hg.lt
  have hw : IntKind.i64.wrap n = n := by rw [i64_wrap, bv_in ⟨by omega, by omega⟩]
  have HG := Lib.hid hg
  clear hg
  go_enter Tryd.func36, Tryd.ntmps36
  go_wp2
  refine wp_region_qt 19 (by kernel_rfl) (by kernel_rfl) ?_
  simp only [List.take_succ_cons, List.take_zero, List.drop_succ_cons, List.drop_zero]
  repeat (quiet_step (fail))
  refine wpQuiet_nil ?_
  intro _ hw'
  obtain ⟨nq, hw''⟩ := hw'
  subst hw''
  go_wp2
  go_end0
  refine ⟨rfl, ?_, (by repeat (first | exact Ch.refl _ _ | apply Ch.drewN | apply Ch.drew | apply Ch.alloc | (refine Ch.setCell ?_ (fun _ => is_self g) _)))⟩
  rw [← or_is, ← and_is, ← eff_set_reg _ _ ha]
  exact (by repeat (first | exact HG.out | apply Row.drewN | apply Row.drew | apply Row.set_ | apply Row.alloc))
end Go.Proofs.YtellmlffkgfeiaaDoor
