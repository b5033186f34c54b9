/- The closures of package cpu's table (load): what each does to an effect. -/
import Derived.Test.YtellmlffkgfeiaaDoorC2
import Derived.Deep.RegionWith
import Derived.Deep.DrawnRows
set_option linter.unusedVariables false
set_option linter.unusedSimpArgs false
attribute [local go_sem ↓] Go.wp_at_zero Go.wp_at_succ
namespace Go.Proofs.YtellmlffkgfeiaaDoor
open Go.RowKit
set_option maxHeartbeats 1000000 in
theorem op_ld_yes (A : Option Addr) (len cap : Nat) (hl : len ≤ 9223372036854775807) (M : Option Addr) (xs : List Int) (mcap : Nat) (hm : xs.length ≤ 9223372036854775807) (hmc : xs.length ≤ mcap) (fixed : Int) (op a b c : Nat) (n : Int) (hn0 : -2147483648 ≤ n) (hn1 : n ≤ 2147483647) (g : Nat) (E : Eff) (ha : a < 16) (hb : b < 16) (w : World) (hg : Row w g 30 (effCells E)) (hx : Cl w M (ints xs)) (hy : may xs.length 0 (Fadd (E.r b) n) 1 = true) :
    Calls Tryd.prog 39 #[.agg #[.slice A len cap, .slice M xs.length mcap, .int .i64 fixed], .agg #[.int .u8 op, .int .u8 a, .int .u8 b, .int .u8 c, .int .i32 n], .pointer (some ⟨g, 0, none⟩)] w fun e w' => e = .returned (.tuple #[]) ∧ Row w' g 30 (effCells (E.reg a (rd xs (Fadd (E.r b) n).toNat))) ∧ Ch (Is g) w w' := by
  have Ha := row_reg hg a ha
  have ia : (a : Int) < 16 := by omega
  have Hb := row_reg hg b hb
  have ib : (b : Int) < 16 := by omega
  have HFa := hg.frozen a
  have hadd : IntKind.i64.wrap (E.r b + n) = Fadd (E.r b) n := by rw [i64_wrap, bv_toInt, add_is]
  have hlo : ∀ (X Y : Obj) (k : Nat), Calls Tryd.prog 75 #[.slice M xs.length mcap, .int .i64 (Fadd (E.r b) n)] (((w.alloc X).alloc Y).drewN k) fun e w' => e = .returned (.tuple #[.int .i64 (rd xs (Fadd (E.r b) n).toNat), .bool true]) ∧ w' = (((w.alloc X).alloc Y).drewN k) :=
    fun X Y k => (load_yes M mcap _ xs _ hm hmc hy (hx.keepNo ((((Ch.refl No w).alloc X).alloc Y).drewN k))).mono fun e w' h => ⟨h.1, h.2.symm⟩
  have HLO := Lib.hid hlo
  clear hlo hx hy
  have hg0 : g < w.heap.size := hg.lt
  have hw : IntKind.i64.wrap n = n := by rw [i64_wrap, bv_in ⟨by omega, by omega⟩]
  have HG := Lib.hid hg
  clear hg
  go_enter Tryd.func39, Tryd.ntmps39
  go_wp2
  go_quiet ((go_at_call 75; exact Calls.quiet_of_same (HLO.out _ _ _)))
  go_wp2
  refine wp_region_qt 7 (by kernel_rfl) (by kernel_rfl) ?_
  simp only [List.take_succ_cons, List.take_zero, List.drop_succ_cons, List.drop_zero]
  repeat (quiet_step (fail))
  refine wpQuiet_nil ?_
  intro _ hw'
  obtain ⟨nq, hw''⟩ := hw'
  subst hw''
  go_wp2
  go_end0
  refine ⟨rfl, ?_, (by repeat (first | exact Ch.refl _ _ | apply Ch.drewN | apply Ch.drew | apply Ch.alloc | (refine Ch.setCell ?_ (fun _ => is_self g) _)))⟩
  rw [← eff_set_reg _ _ ha]
  exact (by repeat (first | exact HG.out | apply Row.drewN | apply Row.drew | apply Row.set_ | apply Row.alloc))
set_option maxHeartbeats 1000000 in
theorem op_ld_no (A : Option Addr) (len cap : Nat) (hl : len ≤ 9223372036854775807) (M : Option Addr) (xs : List Int) (mcap : Nat) (hm : xs.length ≤ 9223372036854775807) (hmc : xs.length ≤ mcap) (fixed : Int) (op a b c : Nat) (n : Int) (hn0 : -2147483648 ≤ n) (hn1 : n ≤ 2147483647) (g : Nat) (E : Eff) (hb : b < 16) (w : World) (hg : Row w g 30 (effCells E)) (hy : may xs.length 0 (Fadd (E.r b) n) 1 = false) :
    Calls Tryd.prog 39 #[.agg #[.slice A len cap, .slice M xs.length mcap, .int .i64 fixed], .agg #[.int .u8 op, .int .u8 a, .int .u8 b, .int .u8 c, .int .i32 n], .pointer (some ⟨g, 0, none⟩)] w fun e w' => e = .returned (.tuple #[]) ∧ Row w' g 30 (effCells ({ E with fault := 2 })) ∧ Ch (Is g) w w' := by
  have Hb := row_reg hg b hb
  have ib : (b : Int) < 16 := by omega
  have Hf : w.cell? ⟨g, 20, none⟩ = some (.int .i64 E.fault) := row_rest hg 4
  have HFf := hg.frozen 20
  have Hc : w.cell? ⟨g, 21, none⟩ = some (.int .i64 E.call) := row_rest hg 5
  have HFc := hg.frozen 21
  have hadd : IntKind.i64.wrap (E.r b + n) = Fadd (E.r b) n := by rw [i64_wrap, bv_toInt, add_is]
  have hlo : ∀ (X Y : Obj) (k : Nat), Calls Tryd.prog 75 #[.slice M xs.length mcap, .int .i64 (Fadd (E.r b) n)] (((w.alloc X).alloc Y).drewN k) fun e w' => e = .returned (.tuple #[.int .i64 0, .bool false]) ∧ w' = (((w.alloc X).alloc Y).drewN k) :=
    fun X Y k => (load_no M xs.length mcap _ _ hm hy).mono fun e w' h => ⟨h.1, h.2.symm⟩
  have HLO := Lib.hid hlo
  clear hlo hy
  have hg0 : g < w.heap.size := hg.lt
  have hw : IntKind.i64.wrap n = n := by rw [i64_wrap, bv_in ⟨by omega, by omega⟩]
  have HG := Lib.hid hg
  clear hg
  go_enter Tryd.func39, Tryd.ntmps39
  go_wp2
  go_quiet ((go_at_call 75; exact Calls.quiet_of_same (HLO.out _ _ _)))
  go_wp2
  refine bodyPost_ret (v := .tuple #[]) (results_none rfl _ _ _) rfl ⟨rfl, ?_, (by repeat (first | exact Ch.refl _ _ | apply Ch.drewN | apply Ch.drew | apply Ch.alloc | (refine Ch.setCell ?_ (fun _ => is_self g) _)))⟩
  rw [← eff_set_fault]
  exact (by repeat (first | exact HG.out | apply Row.drewN | apply Row.drew | apply Row.set_ | apply Row.alloc))
end Go.Proofs.YtellmlffkgfeiaaDoor
