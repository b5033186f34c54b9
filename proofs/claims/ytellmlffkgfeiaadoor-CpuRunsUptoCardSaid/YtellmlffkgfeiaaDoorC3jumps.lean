/- The closures of package cpu's table (jumps): what each does to an effect. -/
import Derived.Test.YtellmlffkgfeiaaDoorC2
import Derived.Deep.RegionWith
import Derived.Deep.DrawnRows
set_option linter.unusedVariables false
set_option linter.unusedSimpArgs false
attribute [local go_sem ↓] Go.wp_at_zero Go.wp_at_succ
namespace Go.Proofs.YtellmlffkgfeiaaDoor
open Go.RowKit
set_option maxHeartbeats 1000000 in
theorem op_jmp (A : Option Addr) (len cap : Nat) (hl : len ≤ 9223372036854775807) (M : Option Addr) (mlen mcap : Nat) (fixed : Int) (op a b c : Nat) (n : Int) (hn0 : -2147483648 ≤ n) (hn1 : n ≤ 2147483647) (g : Nat) (E : Eff) (ha : a < 16) (q : Nat) (w : World) (hg : Row w g 30 (effCells E)) (hq : w.cell? ⟨q, 0, none⟩ = some (.func (.func 58) #[] #[])) :
    Calls Tryd.prog 80 #[.agg #[.slice A len cap, .slice M mlen mcap, .int .i64 fixed], .agg #[.int .u8 op, .int .u8 a, .int .u8 b, .int .u8 c, .int .i32 n], .pointer (some ⟨g, 0, none⟩), .pointer (some ⟨q, 0, none⟩)] w fun e w' => e = .returned (.tuple #[]) ∧ Row w' g 30 (effCells ({ E with pc := inn len n })) ∧ Ch (Is g) w w' := by
  have Ha := row_reg hg a ha
  have ia : (a : Int) < 16 := by omega
  have hq0 : q < w.heap.size := World.block_lt_of_cell? w _ hq
  have hk : ∀ (X Y : Obj) (w1 : World), Ch No ((w.alloc X).alloc Y) w1 → w1.cell? ⟨g, 16, none⟩ = some (.int .i64 E.pc) ∧ w1.frozen? ⟨g, 16, none⟩ = false := by
    intro X Y w1 h
    have hr : Row w1 g 30 (effCells E) := ((hg.alloc _).alloc _).keepNo h
    exact ⟨row_rest hr 0, hr.frozen 16⟩
  have HK := Lib.hid hk
  clear hk
  have hg0 : g < w.heap.size := hg.lt
  have hw : IntKind.i64.wrap n = n := by rw [i64_wrap, bv_in ⟨by omega, by omega⟩]
  have HG := Lib.hid hg
  clear hg
  go_enter Tryd.func80, Tryd.ntmps80
  go_wp2
  go_quiet (((go_at_call 58; refine Calls.quiet_of_same ((leaf_58 _ _).mono fun e w1 h => ⟨h.1, h.2.symm⟩))))
  go_wp2_with (go_at_call 25; refine (to_calls _ _ _ hl _ _ _ _).mono ?_; rintro e w1 ⟨rfl, hc⟩; have HC := Lib.hid hc; obtain ⟨k1, k2⟩ := HK.out _ _ _ hc.undrewN; clear hc)
  go_end0
  refine ⟨rfl, ?_, (by repeat (first | exact ((((Ch.refl No _).alloc _).alloc _).then_ HC.out.undrewN).mono (fun _ _ h => h.elim) | apply Ch.drewN | apply Ch.drew | (refine Ch.setCell ?_ (fun _ => is_self g) _)))⟩
  rw [← eff_set_pc]
  exact (by repeat (first | exact (((HG.out.alloc _).alloc _).keepNo HC.out.undrewN) | apply Row.drewN | apply Row.drew | apply Row.set_))
set_option maxHeartbeats 1000000 in
theorem op_jz_yes (A : Option Addr) (len cap : Nat) (hl : len ≤ 9223372036854775807) (M : Option Addr) (mlen mcap : Nat) (fixed : Int) (op a b c : Nat) (n : Int) (hn0 : -2147483648 ≤ n) (hn1 : n ≤ 2147483647) (g : Nat) (E : Eff) (ha : a < 16) (q : Nat) (w : World) (hg : Row w g 30 (effCells E)) (hq : w.cell? ⟨q, 0, none⟩ = some (.func (.func 59) #[] #[])) (hz : (E.r a == 0) = true) :
    Calls Tryd.prog 80 #[.agg #[.slice A len cap, .slice M mlen mcap, .int .i64 fixed], .agg #[.int .u8 op, .int .u8 a, .int .u8 b, .int .u8 c, .int .i32 n], .pointer (some ⟨g, 0, none⟩), .pointer (some ⟨q, 0, none⟩)] w fun e w' => e = .returned (.tuple #[]) ∧ Row w' g 30 (effCells ({ E with pc := inn len n })) ∧ Ch (Is g) w w' := by
  have Ha := row_reg hg a ha
  have ia : (a : Int) < 16 := by omega
  have hq0 : q < w.heap.size := World.block_lt_of_cell? w _ hq
  have hk : ∀ (X Y : Obj) (w1 : World), Ch No ((w.alloc X).alloc Y) w1 → w1.cell? ⟨g, 16, none⟩ = some (.int .i64 E.pc) ∧ w1.frozen? ⟨g, 16, none⟩ = false := by
    intro X Y w1 h
    have hr : Row w1 g 30 (effCells E) := ((hg.alloc _).alloc _).keepNo h
    exact ⟨row_rest hr 0, hr.frozen 16⟩
  have HK := Lib.hid hk
  clear hk
  have hg0 : g < w.heap.size := hg.lt
  have hw : IntKind.i64.wrap n = n := by rw [i64_wrap, bv_in ⟨by omega, by omega⟩]
  have HG := Lib.hid hg
  clear hg
  go_enter Tryd.func80, Tryd.ntmps80
  go_wp2
  go_quiet (((go_at_call 59; refine Calls.quiet_of_same ((leaf_59 _ _).mono fun e w1 h => ⟨h.1, h.2.symm⟩))))
  go_wp2_with (go_at_call 25; refine (to_calls _ _ _ hl _ _ _ _).mono ?_; rintro e w1 ⟨rfl, hc⟩; have HC := Lib.hid hc; obtain ⟨k1, k2⟩ := HK.out _ _ _ hc.undrewN; clear hc)
  go_end0
  refine ⟨rfl, ?_, (by repeat (first | exact ((((Ch.refl No _).alloc _).alloc _).then_ HC.out.undrewN).mono (fun _ _ h => h.elim) | apply Ch.drewN | apply Ch.drew | (refine Ch.setCell ?_ (fun _ => is_self g) _)))⟩
  rw [← eff_set_pc]
  exact (by repeat (first | exact (((HG.out.alloc _).alloc _).keepNo HC.out.undrewN) | apply Row.drewN | apply Row.drew | apply Row.set_))
set_option maxHeartbeats 1000000 in
theorem op_jz_no (A : Option Addr) (len cap : Nat) (hl : len ≤ 9223372036854775807) (M : Option Addr) (mlen mcap : Nat) (fixed : Int) (op a b c : Nat) (n : Int) (hn0 : -2147483648 ≤ n) (hn1 : n ≤ 2147483647) (g : Nat) (E : Eff) (ha : a < 16) (q : Nat) (w : World) (hg : Row w g 30 (effCells E)) (hq : w.cell? ⟨q, 0, none⟩ = some (.func (.func 59) #[] #[])) (hz : (E.r a == 0) = false) :
    Calls Tryd.prog 80 #[.agg #[.slice A len cap, .slice M mlen mcap, .int .i64 fixed], .agg #[.int .u8 op, .int .u8 a, .int .u8 b, .int .u8 c, .int .i32 n], .pointer (some ⟨g, 0, none⟩), .pointer (some ⟨q, 0, none⟩)] w fun e w' => e = .returned (.tuple #[]) ∧ Row w' g 30 (effCells (E)) ∧ Ch (Is g) w w' := by
  have Ha := row_reg hg a ha
  have ia : (a : Int) < 16 := by omega
  have hq0 : q < w.heap.size := World.block_lt_of_cell? w _ hq
  have hg0 : g < w.heap.size := hg.lt
  have hw : IntKind.i64.wrap n = n := by rw [i64_wrap, bv_in ⟨by omega, by omega⟩]
  have HG := Lib.hid hg
  clear hg
  go_enter Tryd.func80, Tryd.ntmps80
  go_wp2
  go_quiet (((go_at_call 59; refine Calls.quiet_of_same ((leaf_59 _ _).mono fun e w1 h => ⟨h.1, h.2.symm⟩))))
  go_wp2
  go_end0
  refine ⟨rfl, (by repeat (first | exact HG.out | apply Row.drewN | apply Row.drew | apply Row.set_ | apply Row.alloc)), (by repeat (first | exact Ch.refl _ _ | apply Ch.drewN | apply Ch.drew | apply Ch.alloc | (refine Ch.setCell ?_ (fun _ => is_self g) _)))⟩
set_option maxHeartbeats 1000000 in
theorem op_jnz_yes (A : Option Addr) (len cap : Nat) (hl : len ≤ 9223372036854775807) (M : Option Addr) (mlen mcap : Nat) (fixed : Int) (op a b c : Nat) (n : Int) (hn0 : -2147483648 ≤ n) (hn1 : n ≤ 2147483647) (g : Nat) (E : Eff) (ha : a < 16) (q : Nat) (w : World) (hg : Row w g 30 (effCells E)) (hq : w.cell? ⟨q, 0, none⟩ = some (.func (.func 60) #[] #[])) (hz : (E.r a != 0) = true) :
    Calls Tryd.prog 80 #[.agg #[.slice A len cap, .slice M mlen mcap, .int .i64 fixed], .agg #[.int .u8 op, .int .u8 a, .int .u8 b, .int .u8 c, .int .i32 n], .pointer (some ⟨g, 0, none⟩), .pointer (some ⟨q, 0, none⟩)] w fun e w' => e = .returned (.tuple #[]) ∧ Row w' g 30 (effCells ({ E with pc := inn len n })) ∧ Ch (Is g) w w' := by
  have Ha := row_reg hg a ha
  have ia : (a : Int) < 16 := by omega
  have hq0 : q < w.heap.size := World.block_lt_of_cell? w _ hq
  have hk : ∀ (X Y : Obj) (w1 : World), Ch No ((w.alloc X).alloc Y) w1 → w1.cell? ⟨g, 16, none⟩ = some (.int .i64 E.pc) ∧ w1.frozen? ⟨g, 16, none⟩ = false := by
    intro X Y w1 h
    have hr : Row w1 g 30 (effCells E) := ((hg.alloc _).alloc _).keepNo h
    exact ⟨row_rest hr 0, hr.frozen 16⟩
  have HK := Lib.hid hk
  clear hk
  have hg0 : g < w.heap.size := hg.lt
  have hw : IntKind.i64.wrap n = n := by rw [i64_wrap, bv_in ⟨by omega, by omega⟩]
  have HG := Lib.hid hg
  clear hg
  go_enter Tryd.func80, Tryd.ntmps80
  go_wp2
  go_quiet (((go_at_call 60; refine Calls.quiet_of_same ((leaf_60 _ _).mono fun e w1 h => ⟨h.1, h.2.symm⟩))))
  go_wp2_with (go_at_call 25; refine (to_calls _ _ _ hl _ _ _ _).mono ?_; rintro e w1 ⟨rfl, hc⟩; have HC := Lib.hid hc; obtain ⟨k1, k2⟩ := HK.out _ _ _ hc.undrewN; clear hc)
  go_end0
  refine ⟨rfl, ?_, (by repeat (first | exact ((((Ch.refl No _).alloc _).alloc _).then_ HC.out.undrewN).mono (fun _ _ h => h.elim) | apply Ch.drewN | apply Ch.drew | (refine Ch.setCell ?_ (fun _ => is_self g) _)))⟩
  rw [← eff_set_pc]
  exact (by repeat (first | exact (((HG.out.alloc _).alloc _).keepNo HC.out.undrewN) | apply Row.drewN | apply Row.drew | apply Row.set_))
set_option maxHeartbeats 1000000 in
theorem op_jnz_no (A : Option Addr) (len cap : Nat) (hl : len ≤ 9223372036854775807) (M : Option Addr) (mlen mcap : Nat) (fixed : Int) (op a b c : Nat) (n : Int) (hn0 : -2147483648 ≤ n) (hn1 : n ≤ 2147483647) (g : Nat) (E : Eff) (ha : a < 16) (q : Nat) (w : World) (hg : Row w g 30 (effCells E)) (hq : w.cell? ⟨q, 0, none⟩ = some (.func (.func 60) #[] #[])) (hz : (E.r a != 0) = false) :
    Calls Tryd.prog 80 #[.agg #[.slice A len cap, .slice M mlen mcap, .int .i64 fixed], .agg #[.int .u8 op, .int .u8 a, .int .u8 b, .int .u8 c, .int .i32 n], .pointer (some ⟨g, 0, none⟩), .pointer (some ⟨q, 0, none⟩)] w fun e w' => e = .returned (.tuple #[]) ∧ Row w' g 30 (effCells (E)) ∧ Ch (Is g) w w' := by
  have Ha := row_reg hg a ha
  have ia : (a : Int) < 16 := by omega
  have hq0 : q < w.heap.size := World.block_lt_of_cell? w _ hq
  have hg0 : g < w.heap.size := hg.lt
  have hw : IntKind.i64.wrap n = n := by rw [i64_wrap, bv_in ⟨by omega, by omega⟩]
  have HG := Lib.hid hg
  clear hg
  go_enter Tryd.func80, Tryd.ntmps80
  go_wp2
  go_quiet (((go_at_call 60; refine Calls.quiet_of_same ((leaf_60 _ _).mono fun e w1 h => ⟨h.1, h.2.symm⟩))))
  go_wp2
  go_end0
  refine ⟨rfl, (by repeat (first | exact HG.out | apply Row.drewN | apply Row.drew | apply Row.set_ | apply Row.alloc)), (by repeat (first | exact Ch.refl _ _ | apply Ch.drewN | apply Ch.drew | apply Ch.alloc | (refine Ch.setCell ?_ (fun _ => is_self g) _)))⟩
end Go.Proofs.YtellmlffkgfeiaaDoor
