/- The closures of package cpu's table (service): what each does to an effect. -/
import Derived.Test.YtellmlffkgfeiaaDoorC2
import Derived.Deep.RegionWith
import Derived.Deep.DrawnRows
set_option linter.unusedVariables false
set_option linter.unusedSimpArgs false
attribute [local go_sem ↓] Go.wp_at_zero Go.wp_at_succ
namespace Go.Proofs.YtellmlffkgfeiaaDoor
open Go.RowKit
set_option maxHeartbeats 1000000 in
theorem op_sys_yes (A : Option Addr) (len cap : Nat) (hl : len ≤ 9223372036854775807) (M : Option Addr) (mlen mcap : Nat) (fixed : Int) (op a b c : Nat) (n : Int) (hn0 : -2147483648 ≤ n) (hn1 : n ≤ 2147483647) (g : Nat) (E : Eff) (w : World) (hg : Row w g 30 (effCells E)) (h1 : 1 ≤ n) (h2 : n < 28) :
    Calls Tryd.prog 63 #[.agg #[.slice A len cap, .slice M mlen mcap, .int .i64 fixed], .agg #[.int .u8 op, .int .u8 a, .int .u8 b, .int .u8 c, .int .i32 n], .pointer (some ⟨g, 0, none⟩)] w fun e w' => e = .returned (.tuple #[]) ∧ Row w' g 30 (effCells ({ E with call := n })) ∧ Ch (Is g) w w' := by
  have Hf : w.cell? ⟨g, 20, none⟩ = some (.int .i64 E.fault) := row_rest hg 4
  have HFf := hg.frozen 20
  have Hc : w.cell? ⟨g, 21, none⟩ = some (.int .i64 E.call) := row_rest hg 5
  have HFc := hg.frozen 21
  have hg0 : g < w.heap.size := hg.lt
  have hw : IntKind.i64.wrap n = n := by rw [i64_wrap, bv_in ⟨by omega, by omega⟩]
  have HG := Lib.hid hg
  clear hg
  go_enter Tryd.func63, Tryd.ntmps63
  go_wp2
  go_end0
  refine ⟨rfl, ?_, (by repeat (first | exact Ch.refl _ _ | apply Ch.drewN | apply Ch.drew | apply Ch.alloc | (refine Ch.setCell ?_ (fun _ => is_self g) _)))⟩
  rw [← eff_set_call]
  exact (by repeat (first | exact HG.out | apply Row.drewN | apply Row.drew | apply Row.set_ | apply Row.alloc))
set_option maxHeartbeats 1000000 in
theorem op_sys_low (A : Option Addr) (len cap : Nat) (hl : len ≤ 9223372036854775807) (M : Option Addr) (mlen mcap : Nat) (fixed : Int) (op a b c : Nat) (n : Int) (hn0 : -2147483648 ≤ n) (hn1 : n ≤ 2147483647) (g : Nat) (E : Eff) (w : World) (hg : Row w g 30 (effCells E)) (h1 : n < 1) :
    Calls Tryd.prog 63 #[.agg #[.slice A len cap, .slice M mlen mcap, .int .i64 fixed], .agg #[.int .u8 op, .int .u8 a, .int .u8 b, .int .u8 c, .int .i32 n], .pointer (some ⟨g, 0, none⟩)] w fun e w' => e = .returned (.tuple #[]) ∧ Row w' g 30 (effCells ({ E with fault := 5 })) ∧ Ch (Is g) w w' := by
  have Hf : w.cell? ⟨g, 20, none⟩ = some (.int .i64 E.fault) := row_rest hg 4
  have HFf := hg.frozen 20
  have Hc : w.cell? ⟨g, 21, none⟩ = some (.int .i64 E.call) := row_rest hg 5
  have HFc := hg.frozen 21
  have hg0 : g < w.heap.size := hg.lt
  have hw : IntKind.i64.wrap n = n := by rw [i64_wrap, bv_in ⟨by omega, by omega⟩]
  have HG := Lib.hid hg
  clear hg
  go_enter Tryd.func63, Tryd.ntmps63
  go_wp2
  refine bodyPost_ret (v := .tuple #[]) (results_none rfl _ _ _) rfl ⟨rfl, ?_, (by repeat (first | exact Ch.refl _ _ | apply Ch.drewN | apply Ch.drew | apply Ch.alloc | (refine Ch.setCell ?_ (fun _ => is_self g) _)))⟩
  rw [← eff_set_fault]
  exact (by repeat (first | exact HG.out | apply Row.drewN | apply Row.drew | apply Row.set_ | apply Row.alloc))
set_option maxHeartbeats 1000000 in
theorem op_sys_high (A : Option Addr) (len cap : Nat) (hl : len ≤ 9223372036854775807) (M : Option Addr) (mlen mcap : Nat) (fixed : Int) (op a b c : Nat) (n : Int) (hn0 : -2147483648 ≤ n) (hn1 : n ≤ 2147483647) (g : Nat) (E : Eff) (w : World) (hg : Row w g 30 (effCells E)) (h1 : 1 ≤ n) (h2 : 28 ≤ n) :
    Calls Tryd.prog 63 #[.agg #[.slice A len cap, .slice M mlen mcap, .int .i64 fixed], .agg #[.int .u8 op, .int .u8 a, .int .u8 b, .int .u8 c, .int .i32 n], .pointer (some ⟨g, 0, none⟩)] w fun e w' => e = .returned (.tuple #[]) ∧ Row w' g 30 (effCells ({ E with fault := 5 })) ∧ Ch (Is g) w w' := by
  have Hf : w.cell? ⟨g, 20, none⟩ = some (.int .i64 E.fault) := row_rest hg 4
  have HFf := hg.frozen 20
  have Hc : w.cell? ⟨g, 21, none⟩ = some (.int .i64 E.call) := row_rest hg 5
  have HFc := hg.frozen 21
  have hg0 : g < w.heap.size := hg.lt
  have hw : IntKind.i64.wrap n = n := by rw [i64_wrap, bv_in ⟨by omega, by omega⟩]
  have HG := Lib.hid hg
  clear hg
  go_enter Tryd.func63, Tryd.ntmps63
  go_wp2
  refine bodyPost_ret (v := .tuple #[]) (results_none rfl _ _ _) rfl ⟨rfl, ?_, (by repeat (first | exact Ch.refl _ _ | apply Ch.drewN | apply Ch.drew | apply Ch.alloc | (refine Ch.setCell ?_ (fun _ => is_self g) _)))⟩
  rw [← eff_set_fault]
  exact (by repeat (first | exact HG.out | apply Row.drewN | apply Row.drew | apply Row.set_ | apply Row.alloc))
end Go.Proofs.YtellmlffkgfeiaaDoor
