/- power and cut, as CpuReckons asks them. -/
import Derived.Test.YtellmlffkgfeiaaDoorR0
import Derived.Test.YtellmlffkgfeiaaDoorC10
set_option linter.unusedVariables false
set_option linter.unusedSimpArgs false
namespace Go.Proofs.YtellmlffkgfeiaaDoor
open Go.RowKit
theorem pw_succ (i : Nat) : wrap64 (pw i + pw i) = pw (i + 1) := by
  rw [add_is]
  unfold Fadd pw
  rw [toInt_bv, ← bv_add]
  congr 2
  rw [Int.pow_succ]
  omega
theorem power_calls (K : Nat) (hK : K ≤ 63) (w : World) : Calls Tryd.prog 20 #[.int .i64 (K : Int)] w fun e w' => e = .returned (.int .i64 (pw K)) ∧ w = w' := by
  have HP := Lib.hid pw_succ
  go_enter Tryd.func20, Tryd.ntmps20
  go_wp2
  go_loop [3, 4] (fun p i => ∃ k : Nat, k ≤ K ∧ i = .int .i64 k ∧ p = .int .i64 (pw k)) (fun _ i => K - (intOf i).toNat)
  case atStart => exact ⟨0, Nat.zero_le _, rfl, by rfl⟩
  case round =>
    obtain ⟨k, hk, rfl, rfl⟩ := hrel
    by_cases hlt : k < K
    · go_wp2
      go_round
      case rel => exact ⟨k + 1, by omega, by go_num, by rw [← HP.out]⟩
      case measure => simp [intOf]; omega
    · obtain rfl : k = K := by omega
      go_wp2
      go_ret
      exact ⟨rfl, rfl⟩
theorem cut_calls (d : Int) (hd : In64 d) (w : World) : Calls Tryd.prog 19 #[.int .i64 d, .int .i64 64] w fun e w' => e = .returned (.tuple #[.int .i64 (d / 64), .int .i64 (d % 64)]) ∧ w = w' := by
  have hb := rest_bound d 64 (by omega)
  have h0 := Int.tdiv_mul_add_tmod d 64
  have HU := Lib.hid (quo_up d 64 (by omega))
  have HS := Lib.hid (quo_same d 64 (by omega))
  have HT : Hid (d.tmod 64 = d - d.tdiv 64 * 64) := by show _ = _; omega
  rw [HT.out] at hb HU HS
  generalize hq : d.tdiv 64 = q at *
  have HQ := Lib.hid hq
  unfold In64 at hd
  obtain ⟨h1, h2⟩ := hd
  have hb1 : -64 < d - q * 64 := hb.1
  have hb2 : d - q * 64 < 64 := hb.2
  clear hb h0 HT
  have hw : wrap64 (d - wrap64 (q * 64)) = d - q * 64 := by unfold wrap64; omega
  by_cases hn : d - q * 64 < 0
  · go_enter Tryd.func19, Tryd.ntmps19
    go_wp2
    all_goals go_ret2
    have h := HU.out hn
    exact ⟨ret_i64i64 h.1.symm h.2.symm, rfl⟩
  · have hn' : 0 ≤ d - q * 64 := by omega
    go_enter Tryd.func19, Tryd.ntmps19
    go_wp2
    all_goals go_ret2
    have h := HS.out hn'
    exact ⟨ret_i64i64 h.1.symm h.2.symm, rfl⟩
end Go.Proofs.YtellmlffkgfeiaaDoor
