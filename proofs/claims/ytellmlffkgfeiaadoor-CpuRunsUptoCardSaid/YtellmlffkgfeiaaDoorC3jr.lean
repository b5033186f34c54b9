/- The closures of package cpu's table (jr): what each does to an effect. -/
import Derived.Test.YtellmlffkgfeiaaDoorC2
import Derived.Deep.RegionWith
import Derived.Deep.DrawnRows
set_option linter.unusedVariables false
set_option linter.unusedSimpArgs false
attribute [local go_sem ↓] Go.wp_at_zero Go.wp_at_succ
namespace Go.Proofs.YtellmlffkgfeiaaDoor
open Go.RowKit
set_option maxHeartbeats 2000000 in
theorem op_jr (A : Option Addr) (len cap : Nat) (hl : len ≤ 9223372036854775807) (M : Option Addr) (mlen mcap : Nat) (fixed : Int) (op a b c : Nat) (n : Int) (hn0 : -2147483648 ≤ n) (hn1 : n ≤ 2147483647) (g : Nat) (E : Eff) (ha : a < 16) (w : World) (hg : Row w g 30 (effCells E)) :
    Calls Tryd.prog 61 #[.agg #[.slice A len cap, .slice M mlen mcap, .int .i64 fixed], .agg #[.int .u8 op, .int .u8 a, .int .u8 b, .int .u8 c, .int .i32 n], .pointer (some ⟨g, 0, none⟩)] w fun e w' => e = .returned (.tuple #[]) ∧ Row w' g 30 (effCells ({ E with pc := inn len (E.r a) })) ∧ Ch (Is g) w w' := by
  have Ha := row_reg hg a ha
  have ia : (a : Int) < 16 := by omega
  have Hpc : w.cell? ⟨g, 16, none⟩ = some (.int .i64 E.pc) := row_rest hg 0
  have HFpc := hg.frozen 16
  have hk : ∀ (X Y : Obj) (w1 : World), Ch No ((w.alloc X).alloc Y) w1 → w1.cell? ⟨g, 16, none⟩ = some (.int .i64 E.pc) ∧ w1.frozen? ⟨g, 16, none⟩ = false ∧ w1.cell? ⟨g, a, none⟩ = some (.int .i64 (E.r a)) := by
    intro X Y w1 h
    have hr : Row w1 g 30 (effCells E) := ((hg.alloc _).alloc _).keepNo h
    exact ⟨row_rest hr 0, hr.frozen 16, row_reg hr a ha⟩
  have HK := Lib.hid hk
  clear hk
  have hg0 : g < w.heap.size := hg.lt
  have hw : IntKind.i64.wrap n = n := by rw [i64_wrap, bv_in ⟨by omega, by omega⟩]
  have HG := Lib.hid hg
  clear hg
  go_enter Tryd.func61, Tryd.ntmps61
  go_wp2
  go_region_with (go_at_call 25; refine (to_calls _ _ _ hl _ _ _ _).mono ?_; rintro e w1 ⟨rfl, hc⟩; have HC := Lib.hid hc; obtain ⟨k1, k2, k3⟩ := HK.out _ _ _ hc.undrew; clear hc)
  all_goals go_wp2
  all_goals go_end0
  all_goals refine ⟨rfl, ?_, (by repeat (first | exact ((((Ch.refl No _).alloc _).alloc _).then_ HC.out.undrew).mono (fun _ _ h => h.elim) | apply Ch.drewN | apply Ch.drew | (refine Ch.setCell ?_ (fun _ => is_self g) _)))⟩
  all_goals rw [← eff_set_pc]
  all_goals exact (by repeat (first | exact (((HG.out.alloc _).alloc _).keepNo HC.out.undrew) | apply Row.drewN | apply Row.drew | apply Row.set_))
end Go.Proofs.YtellmlffkgfeiaaDoor
