/- The closures of package cpu's table (store): what each does to an effect. -/
import Derived.Test.YtellmlffkgfeiaaDoorC2
import Derived.Deep.RegionWith
import Derived.Deep.DrawnRows
set_option linter.unusedVariables false
set_option linter.unusedSimpArgs false
attribute [local go_sem ↓] Go.wp_at_zero Go.wp_at_succ
namespace Go.Proofs.YtellmlffkgfeiaaDoor
open Go.RowKit
set_option maxHeartbeats 4000000 in
theorem op_st_yes (A : Option Addr) (len cap : Nat) (hl : len ≤ 9223372036854775807) (M : Option Addr) (xs : List Int) (mcap : Nat) (hm : xs.length ≤ 9223372036854775807) (hmc : xs.length ≤ mcap) (fixed : Int) (op a b c : Nat) (n : Int) (hn0 : -2147483648 ≤ n) (hn1 : n ≤ 2147483647) (g : Nat) (E : Eff) (ha : a < 16) (hb : b < 16) (w : World) (hg : Row w g 30 (effCells E)) (hy : may xs.length fixed (Fadd (E.r b) n) 1 = true) :
    Calls Tryd.prog 40 #[.agg #[.slice A len cap, .slice M xs.length mcap, .int .i64 fixed], .agg #[.int .u8 op, .int .u8 a, .int .u8 b, .int .u8 c, .int .i32 n], .pointer (some ⟨g, 0, none⟩)] w fun e w' => e = .returned (.tuple #[]) ∧ Row w' g 30 (effCells ({ E with st := true, addr := Fadd (E.r b) n, val := E.r a })) ∧ Ch (Is g) w w' := by
  have Ha := row_reg hg a ha
  have ia : (a : Int) < 16 := by omega
  have Hb := row_reg hg b hb
  have ib : (b : Int) < 16 := by omega
  have Hst : w.cell? ⟨g, 17, none⟩ = some (.bool E.st) := row_rest hg 1
  have Had : w.cell? ⟨g, 18, none⟩ = some (.int .i64 E.addr) := row_rest hg 2
  have Hva : w.cell? ⟨g, 19, none⟩ = some (.int .i64 E.val) := row_rest hg 3
  have F17 := hg.frozen 17
  have F18 := hg.frozen 18
  have F19 := hg.frozen 19
  have Hf : w.cell? ⟨g, 20, none⟩ = some (.int .i64 E.fault) := row_rest hg 4
  have HFf := hg.frozen 20
  have Hc : w.cell? ⟨g, 21, none⟩ = some (.int .i64 E.call) := row_rest hg 5
  have HFc := hg.frozen 21
  have hadd : IntKind.i64.wrap (E.r b + n) = Fadd (E.r b) n := by rw [i64_wrap, bv_toInt, add_is]
  have hwr : ∀ W : World, Calls Tryd.prog 76 #[.int .i64 xs.length, .int .i64 fixed, .int .i64 (Fadd (E.r b) n), .int .i64 1] W fun e w' => e = .returned (.bool true) ∧ W = w' := fun W => by
    have := writable (xs.length : Int) fixed (Fadd (E.r b) n) 1 W (by omega) (by omega)
    rw [hy] at this
    exact this
  have HWR := Lib.hid hwr
  clear hwr hy
  have hg0 : g < w.heap.size := hg.lt
  have hw : IntKind.i64.wrap n = n := by rw [i64_wrap, bv_in ⟨by omega, by omega⟩]
  have HG := Lib.hid hg
  clear hg
  go_enter Tryd.func40, Tryd.ntmps40
  go_wp2
  go_quiet (fail)
  go_wp2_with (go_at_call 76; refine (HWR.out _).mono ?_; rintro e w1 ⟨rfl, rfl⟩)
  go_region
  all_goals go_wp2
  all_goals go_end0
  all_goals refine ⟨rfl, ?_, (by repeat (first | exact Ch.refl _ _ | apply Ch.drewN | apply Ch.drew | apply Ch.alloc | (refine Ch.setCell ?_ (fun _ => is_self g) _)))⟩
  all_goals rw [show effCells { E with st := true, addr := Fadd (E.r b) n, val := E.r a } = (((effCells E).set 17 (.bool true)).set 18 (.int .i64 (Fadd (E.r b) n))).set 19 (.int .i64 (E.r a)) by rw [eff_set_st, eff_set_addr, eff_set_val]]
  all_goals exact (by repeat (first | exact HG.out | apply Row.drewN | apply Row.drew | apply Row.set_ | apply Row.alloc))
set_option maxHeartbeats 1000000 in
theorem op_st_no (A : Option Addr) (len cap : Nat) (hl : len ≤ 9223372036854775807) (M : Option Addr) (xs : List Int) (mcap : Nat) (hm : xs.length ≤ 9223372036854775807) (hmc : xs.length ≤ mcap) (fixed : Int) (op a b c : Nat) (n : Int) (hn0 : -2147483648 ≤ n) (hn1 : n ≤ 2147483647) (g : Nat) (E : Eff) (ha : a < 16) (hb : b < 16) (w : World) (hg : Row w g 30 (effCells E)) (hy : may xs.length fixed (Fadd (E.r b) n) 1 = false) :
    Calls Tryd.prog 40 #[.agg #[.slice A len cap, .slice M xs.length mcap, .int .i64 fixed], .agg #[.int .u8 op, .int .u8 a, .int .u8 b, .int .u8 c, .int .i32 n], .pointer (some ⟨g, 0, none⟩)] w fun e w' => e = .returned (.tuple #[]) ∧ Row w' g 30 (effCells ({ E with fault := 2 })) ∧ Ch (Is g) w w' := by
  have Ha := row_reg hg a ha
  have ia : (a : Int) < 16 := by omega
  have Hb := row_reg hg b hb
  have ib : (b : Int) < 16 := by omega
  have Hf : w.cell? ⟨g, 20, none⟩ = some (.int .i64 E.fault) := row_rest hg 4
  have HFf := hg.frozen 20
  have Hc : w.cell? ⟨g, 21, none⟩ = some (.int .i64 E.call) := row_rest hg 5
  have HFc := hg.frozen 21
  have hadd : IntKind.i64.wrap (E.r b + n) = Fadd (E.r b) n := by rw [i64_wrap, bv_toInt, add_is]
  have hwr : ∀ W : World, Calls Tryd.prog 76 #[.int .i64 xs.length, .int .i64 fixed, .int .i64 (Fadd (E.r b) n), .int .i64 1] W fun e w' => e = .returned (.bool false) ∧ W = w' := fun W => by
    have := writable (xs.length : Int) fixed (Fadd (E.r b) n) 1 W (by omega) (by omega)
    rw [hy] at this
    exact this
  have HWR := Lib.hid hwr
  clear hwr hy
  have hg0 : g < w.heap.size := hg.lt
  have hw : IntKind.i64.wrap n = n := by rw [i64_wrap, bv_in ⟨by omega, by omega⟩]
  have HG := Lib.hid hg
  clear hg
  go_enter Tryd.func40, Tryd.ntmps40
  go_wp2
  go_quiet (fail)
  go_wp2_with (go_at_call 76; refine (HWR.out _).mono ?_; rintro e w1 ⟨rfl, rfl⟩)
  refine bodyPost_ret (v := .tuple #[]) (results_none rfl _ _ _) rfl ⟨rfl, ?_, (by repeat (first | exact Ch.refl _ _ | apply Ch.drewN | apply Ch.drew | apply Ch.alloc | (refine Ch.setCell ?_ (fun _ => is_self g) _)))⟩
  rw [← eff_set_fault]
  exact (by repeat (first | exact HG.out | apply Row.drewN | apply Row.drew | apply Row.set_ | apply Row.alloc))
end Go.Proofs.YtellmlffkgfeiaaDoor
