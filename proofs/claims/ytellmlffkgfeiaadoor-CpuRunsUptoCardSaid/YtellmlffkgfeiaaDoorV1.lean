/- The document's answer for a single instruction: its words on numbers. -/
import Derived.Test.YtellmlffkgfeiaaDoorR0
import Derived.Test.YtellmlffkgfeiaaDoorC5
set_option linter.unusedVariables false
set_option linter.unusedSimpArgs false
namespace Go.Proofs.YtellmlffkgfeiaaDoor
open Go.RowKit
def shlK (b : Int) (k : Nat) : Int := (bv b <<< k).toInt
def shrK (b : Int) (k : Nat) : Int := (bv b >>> k).toInt
def sarK (b : Int) (k : Nat) : Int := b / 2 ^ k
theorem shlK_zero {b : Int} (h : In64 b) : shlK b 0 = b := by unfold shlK; rw [BitVec.shiftLeft_zero, bv_in h]
theorem shrK_zero {b : Int} (h : In64 b) : shrK b 0 = b := by unfold shrK; rw [BitVec.ushiftRight_zero, bv_in h]
theorem sarK_zero (b : Int) : sarK b 0 = b := by unfold sarK; simp
theorem shlK_in (b : Int) (k : Nat) : In64 (shlK b k) := in64_toInt _
theorem shrK_in (b : Int) (k : Nat) : In64 (shrK b k) := in64_toInt _
theorem sarK_in {b : Int} (h : In64 b) (k : Nat) : In64 (sarK b k) := quot_in b _ h (pow_pos' k)
theorem shl_is (b c : Int) : Fshl b c = shlK b (sh c) := rfl
theorem shr_is' (b c : Int) : Fshr b c = shrK b (sh c) := rfl
theorem sar_is (b c : Int) : Fsar b c = sarK b (sh c) := by unfold Fsar sarK; rw [fdiv_pow]
theorem shlK_succ (b : Int) (k : Nat) : wrap64 (shlK b k + shlK b k) = shlK b (k + 1) := by
  rw [add_is]
  unfold Fadd shlK
  rw [toInt_bv, ← bv_shl, ← bv_add, ← bv_shl]
  have e : b * 2 ^ k + b * 2 ^ k = b * 2 ^ (k + 1) := by rw [Int.pow_succ, ← Int.mul_assoc]; omega
  rw [e]
theorem half_even (x : Int) : (x - x % 2).tdiv 2 = x / 2 := by
  have h : x - x % 2 = 2 * (x / 2) := by omega
  rw [h, Int.mul_tdiv_cancel_left _ (by omega)]
theorem sarK_succ (b : Int) (k : Nat) : sarK b k / 2 = sarK b (k + 1) := by
  unfold sarK
  rw [Int.ediv_ediv_of_nonneg (by have := pow_pos' k; omega), Int.pow_succ]
theorem shr_one {x : Int} (h : In64 x) : (bv x >>> 1).toInt = if x / 2 < 0 then x / 2 + 9223372036854775808 else x / 2 := by
  have h1 := bv_toNat x
  have h2 : ((bv x >>> 1).toNat : Int) = ((bv x).toNat : Int) / 2 := by
    rw [BitVec.toNat_ushiftRight, Nat.shiftRight_eq_div_pow]
    omega
  unfold In64 at h
  rw [BitVec.toInt_eq_toNat_cond]
  split <;> split <;> omega
theorem shrK_succ (b : Int) (k : Nat) : (if shrK b k / 2 < 0 then shrK b k / 2 + 9223372036854775808 else shrK b k / 2) = shrK b (k + 1) := by
  rw [← shr_one (shrK_in b k)]
  unfold shrK
  rw [toInt_bv, BitVec.shiftRight_add]
theorem ldh_is (n x : Int) (h0 : -2147483648 ≤ n) (h1 : n ≤ 2147483647) : For (n * 4294967296) (Fand x 4294967295) = n * 4294967296 + x % 4294967296 := by
  unfold For Fand
  rw [toInt_bv]
  have hA := bv_toNat (n * 4294967296)
  have hX := bv_toNat x
  have hm : (bv 4294967295).toNat = 2 ^ 32 - 1 := by rfl
  have e : ((bv (n * 4294967296) ||| bv x &&& bv 4294967295).toNat : Int) = (n * 4294967296 + x % 4294967296) % 18446744073709551616 := by
    rw [BitVec.toNat_or, BitVec.toNat_and, hm, Nat.and_two_pow_sub_one_eq_mod]
    obtain ⟨a, ha⟩ : ∃ a : Nat, (bv (n * 4294967296)).toNat = 2 ^ 32 * a := ⟨(bv (n * 4294967296)).toNat / 4294967296, by omega⟩
    rw [ha, ← Nat.two_pow_add_eq_or_of_lt (Nat.mod_lt _ (by omega))]
    omega
  rw [BitVec.toInt_eq_toNat_cond]
  split <;> omega

open Go.RowKit
theorem in_27 (A : Option Addr) (len cap : Nat) (hl : len ≤ 9223372036854775807) (n : Int) (w : World) : Calls Tryd.prog 27 #[.slice A len cap, .int .i64 n] w fun e w' => e = .returned (.int .i64 (inn len n)) ∧ w = w' := by
  go_enter Tryd.func27, Tryd.ntmps27
  go_wp2
  all_goals go_ret
  all_goals refine ⟨ret_i64 (by unfold inn; simp; omega), rfl⟩
theorem flag_84 (b : Bool) (w : World) : Calls Tryd.prog 84 #[.bool b] w fun e w' => e = .returned (.int .i64 (if b then 1 else 0)) ∧ w = w' := by
  cases b
  all_goals
    go_enter Tryd.func84, Tryd.ntmps84
    go_wp2
    go_ret
    exact ⟨rfl, rfl⟩
theorem left_87 (b : Int) (w : World) : Calls Tryd.prog 87 #[.int .i64 b] w fun e w' => e = .returned (.int .i64 (wrap64 (b + b))) ∧ w = w' := by
  go_enter Tryd.func87, Tryd.ntmps87
  go_wp2
  go_ret
  exact ⟨rfl, rfl⟩
theorem below_is (b c : Int) (hb : In64 b) (hc : In64 c) : (if decide (b < 0) = decide (c < 0) then decide (b < c) else decide (c < 0)) = decide ((bv b).toNat < (bv c).toNat) := by
  have h1 := bv_toNat b
  have h2 := bv_toNat c
  unfold In64 at hb hc
  by_cases h3 : b < 0 <;> by_cases h4 : c < 0
  · have e1 : ((bv b).toNat : Int) = b + 18446744073709551616 := by omega
    have e2 : ((bv c).toNat : Int) = c + 18446744073709551616 := by omega
    simp [h3, h4]
    omega
  · simp [h3, h4]
    omega
  · simp [h3, h4]
    omega
  · simp [h3, h4]
    omega
theorem below_85 (b c : Int) (hb : In64 b) (hc : In64 c) (w : World) : Calls Tryd.prog 85 #[.int .i64 b, .int .i64 c] w fun e w' => e = .returned (.bool (decide ((bv b).toNat < (bv c).toNat))) ∧ w = w' := by
  have HB := Lib.hid (below_is b c hb hc)
  clear hb hc
  by_cases h3 : b < 0 <;> by_cases h4 : c < 0
  all_goals
    go_enter Tryd.func85, Tryd.ntmps85
    go_wp2
    go_ret
    refine ⟨?_, rfl⟩
    rw [← HB.out]
    simp [h3, h4]
    try omega
theorem quot_mul (b c : Int) (hb : In64 b) (hc : c ≠ 0) (hcc : In64 c) : wrap64 (b - wrap64 (wrap64 (b.tdiv c) * c)) = b.tmod c := by
  have h0 := Int.tdiv_mul_add_tmod b c
  have h1 := rest_bound b c hc
  have e : bv (b - wrap64 (wrap64 (b.tdiv c) * c)) = bv (b.tmod c) := by
    rw [bv_sub, ← bv_toInt (wrap64 (b.tdiv c) * c), toInt_bv, bv_mul, ← bv_toInt (b.tdiv c), toInt_bv, ← bv_mul, ← bv_sub]
    congr 1
    omega
  rw [← bv_toInt, e, bv_toInt]
  unfold In64 at hb hcc
  exact wrap_in ⟨by omega, by omega⟩
theorem quot_mul' (b c : Int) (hb : In64 b) (hc : c ≠ 0) (hcc : In64 c) : wrap64 (b - wrap64 (b.tdiv c * c)) = b.tmod c := by
  have h0 := Int.tdiv_mul_add_tmod b c
  have h1 := rest_bound b c hc
  have e : bv (b - wrap64 (b.tdiv c * c)) = bv (b.tmod c) := by
    rw [bv_sub, ← bv_toInt (b.tdiv c * c), toInt_bv, ← bv_sub]
    congr 1
    omega
  rw [← bv_toInt, e, bv_toInt]
  unfold In64 at hb hcc
  exact wrap_in ⟨by omega, by omega⟩
set_option maxHeartbeats 1000000 in
theorem quot_68 (b c : Int) (hb : In64 b) (hcc : In64 c) (hc : c ≠ 0) (w : World) :
    Calls Tryd.prog 68 #[.int .i64 b, .int .i64 c] w fun e w' => e = .returned (.tuple #[.int .i64 (Fdiv b c), .int .i64 (Fmod b c)]) ∧ w = w' := by
  have b0 : (c == 0) = false := by simpa using hc
  have hq := quot_mul b c hb hc hcc
  have hq' := quot_mul' b c hb hc hcc
  have HB := Lib.hid (rest_bound b c hc)
  have HN := Lib.hid hc
  unfold In64 at hb hcc
  obtain ⟨h1, h2⟩ := hb
  obtain ⟨h3, h4⟩ := hcc
  have HU := Lib.hid (quo_up b c)
  have HD := Lib.hid (quo_down b c)
  have HS := Lib.hid (quo_same b c hc)
  clear hc
  by_cases hn : b.tmod c < 0
  · have hpos : 0 ≤ b % c := Int.emod_nonneg _ HN.out
    by_cases hp : 0 < c
    · have e1 : wrap64 (b.tdiv c - 1) = Fdiv b c := by unfold Fdiv; rw [(HU.out hp hn).1]
      have e2 : wrap64 (b.tmod c + c) = b % c := by
        rw [(HU.out hp hn).2]
        have := HB.out
        exact wrap_in ⟨by omega, by omega⟩
      unfold Fmod
      have hp' : ¬ b % c < 0 := by omega
      have HPP := Lib.hid hpos
      have HNN := Lib.hid hn
      have E1 := Lib.hid e1
      have E2 := Lib.hid e2
      clear e1 e2
      go_enter Tryd.func68, Tryd.ntmps68
      go_wp2
      go_loop [6, 7] (fun q t => (q = .int .i64 (b.tdiv c) ∧ t = .int .i64 (b.tmod c)) ∨ (q = .int .i64 (Fdiv b c) ∧ t = .int .i64 (b % c))) (fun _ t => (- intOf t).toNat)
      case atStart => exact .inl ⟨rfl, rfl⟩
      case round =>
        rcases hrel with ⟨rfl, rfl⟩ | ⟨rfl, rfl⟩
        · go_wp2
          go_round
          case rel => exact .inr ⟨by rw [← E1.out], by rw [← E2.out]⟩
          case measure => have h9 := HNN.out; have h8 := HPP.out; simp only [intOf, E2.out]; omega
        · go_wp2
          go_ret2
          exact ⟨rfl, rfl⟩
    · have hp2 : c < 0 := by have := HN.out; omega
      have e1 : wrap64 (wrap64 (b.tdiv c) + 1) = Fdiv b c := by unfold Fdiv; rw [(HD.out hp2 hn).1, wrap_add]
      have e2 : wrap64 (b.tmod c - c) = b % c := by
        rw [(HD.out hp2 hn).2]
        have := HB.out
        exact wrap_in ⟨by omega, by omega⟩
      unfold Fmod
      have hp' : ¬ b % c < 0 := by omega
      have HPP := Lib.hid hpos
      have HNN := Lib.hid hn
      have E1 := Lib.hid e1
      have E2 := Lib.hid e2
      clear e1 e2
      go_enter Tryd.func68, Tryd.ntmps68
      go_wp2
      go_loop [6, 7] (fun q t => (q = .int .i64 (wrap64 (b.tdiv c)) ∧ t = .int .i64 (b.tmod c)) ∨ (q = .int .i64 (Fdiv b c) ∧ t = .int .i64 (b % c))) (fun _ t => (- intOf t).toNat)
      case atStart => exact .inl ⟨rfl, rfl⟩
      case round =>
        rcases hrel with ⟨rfl, rfl⟩ | ⟨rfl, rfl⟩
        · go_wp2
          go_round
          case rel => exact .inr ⟨by rw [← E1.out], by rw [← E2.out]⟩
          case measure => have h9 := HNN.out; have h8 := HPP.out; simp only [intOf, E2.out]; omega
        · go_wp2
          go_ret2
          exact ⟨rfl, rfl⟩
  · have hn' : 0 ≤ b.tmod c := by omega
    have e1 : Fdiv b c = wrap64 (b.tdiv c) := by unfold Fdiv; rw [(HS.out hn').1]
    have e2 : Fmod b c = b.tmod c := by unfold Fmod; rw [(HS.out hn').2]
    rw [e1, e2]
    clear e1 e2
    go_enter Tryd.func68, Tryd.ntmps68
    go_wp2
    go_loop [6, 7] (fun q t => q = .int .i64 (wrap64 (b.tdiv c)) ∧ t = .int .i64 (b.tmod c)) (fun _ t => 0)
    case atStart => exact ⟨rfl, rfl⟩
    case round =>
      obtain ⟨rfl, rfl⟩ := hrel
      go_wp2
      go_ret2
      exact ⟨rfl, rfl⟩

theorem fmod_in (b c : Int) (hc : c ≠ 0) (h : In64 c) : In64 (Fmod b c) := by
  unfold Fmod
  have h0 := Int.emod_nonneg b hc
  have h1 := Int.emod_lt b hc
  unfold In64 at *
  omega
theorem right_any (x t : Int) (hx : In64 x) (ht : t = 0 ∨ t = 1) (w : World) : Calls Tryd.prog 88 #[.int .i64 x, .int .i64 t] w fun e w' => e = .returned (.int .i64 (if x / 2 < 0 ∧ t = 0 then x / 2 + 9223372036854775808 else x / 2)) ∧ w = w' := by
  have HQ := Lib.hid (quot_68 x 2 hx (by unfold In64; omega) (by omega))
  have he : (x - x % 2).tdiv 2 = x / 2 := half_even x
  unfold In64 at hx
  obtain ⟨h1, h2⟩ := hx
  have hw : wrap64 (x - x % 2) = x - x % 2 := by unfold wrap64; omega
  have b2 : -9223372036854775808 ≤ x / 2 := by omega
  have b3 : x / 2 ≤ 9223372036854775807 := by omega
  by_cases hn : x / 2 < 0
  · rcases ht with rfl | rfl
    · rw [if_pos ⟨hn, rfl⟩]
      go_enter Tryd.func88, Tryd.ntmps88
      go_wp2_with (go_at_call 68; refine (HQ.out _).mono ?_; rintro e w' ⟨rfl, rfl⟩; unfold Fmod)
      go_ret
      exact ⟨rfl, rfl⟩
    · rw [if_neg (by omega)]
      go_enter Tryd.func88, Tryd.ntmps88
      go_wp2_with (go_at_call 68; refine (HQ.out _).mono ?_; rintro e w' ⟨rfl, rfl⟩; unfold Fmod)
      go_ret
      exact ⟨rfl, rfl⟩
  · rw [if_neg (by omega)]
    go_enter Tryd.func88, Tryd.ntmps88
    go_wp2_with (go_at_call 68; refine (HQ.out _).mono ?_; rintro e w' ⟨rfl, rfl⟩; unfold Fmod)
    go_ret
    exact ⟨rfl, rfl⟩
theorem right_0 (x : Int) (hx : In64 x) (w : World) : Calls Tryd.prog 88 #[.int .i64 x, .int .i64 0] w fun e w' => e = .returned (.int .i64 (if x / 2 < 0 then x / 2 + 9223372036854775808 else x / 2)) ∧ w = w' :=
  (right_any x 0 hx (.inl rfl) w).mono fun _ _ h => ⟨h.1.trans (ret_i64 (by simp)), h.2⟩
theorem right_1 (x : Int) (hx : In64 x) (w : World) : Calls Tryd.prog 88 #[.int .i64 x, .int .i64 1] w fun e w' => e = .returned (.int .i64 (x / 2)) ∧ w = w' :=
  (right_any x 1 hx (.inr rfl) w).mono fun _ _ h => ⟨h.1.trans (ret_i64 (by simp)), h.2⟩
set_option maxHeartbeats 1000000 in
theorem shifted_15 (b c : Int) (hb : In64 b) (hc : In64 c) (w : World) : Calls Tryd.prog 83 #[.int .u8 15, .int .i64 b, .int .i64 c] w fun e w' => e = .returned (.int .i64 (Fshl b c)) ∧ w = w' := by
  have HQ := Lib.hid (quot_68 c 64 hc (by unfold In64; omega) (by omega))
  have hsh : Fmod c 64 = (sh c : Int) := (sh_emod c).symm
  have HZ := Lib.hid (shlK_zero hb)
  have HP := Lib.hid (shlK_succ b)
  rw [hsh] at HQ
  clear hsh hb hc
  have hlt := sh_lt c
  rw [shl_is]
  generalize sh c = K at *
  go_enter Tryd.func83, Tryd.ntmps83
  go_wp2_with (go_at_call 68; refine (HQ.out _).mono ?_; rintro e w' ⟨rfl, rfl⟩)
  go_loop [1, 9] (fun v i => ∃ k : Nat, k ≤ K ∧ i = .int .i64 k ∧ v = .int .i64 (shlK b k)) (fun _ i => K - (intOf i).toNat)
  case atStart => exact ⟨0, Nat.zero_le _, rfl, by rw [HZ.out]⟩
  case round =>
    obtain ⟨k, hk, rfl, rfl⟩ := hrel
    by_cases hlt : k < K
    · go_wp2_with (go_at_call 87; refine (left_87 _ _).mono ?_; rintro e w' ⟨rfl, rfl⟩; rw [HP.out])
      go_round
      case rel => exact ⟨k + 1, by omega, by go_num, rfl⟩
      case measure => simp [intOf]; omega
    · obtain rfl : k = K := by omega
      go_wp2
      go_ret
      exact ⟨rfl, rfl⟩
set_option maxHeartbeats 1000000 in
theorem shifted_16 (b c : Int) (hb : In64 b) (hc : In64 c) (w : World) : Calls Tryd.prog 83 #[.int .u8 16, .int .i64 b, .int .i64 c] w fun e w' => e = .returned (.int .i64 (Fshr b c)) ∧ w = w' := by
  have HQ := Lib.hid (quot_68 c 64 hc (by unfold In64; omega) (by omega))
  have hsh : Fmod c 64 = (sh c : Int) := (sh_emod c).symm
  have HZ := Lib.hid (shrK_zero hb)
  have HP := Lib.hid (shrK_succ b)
  rw [hsh] at HQ
  clear hsh hb hc
  have hlt := sh_lt c
  rw [shr_is']
  generalize sh c = K at *
  go_enter Tryd.func83, Tryd.ntmps83
  go_wp2_with (go_at_call 68; refine (HQ.out _).mono ?_; rintro e w' ⟨rfl, rfl⟩)
  go_loop [1, 9] (fun v i => ∃ k : Nat, k ≤ K ∧ i = .int .i64 k ∧ v = .int .i64 (shrK b k)) (fun _ i => K - (intOf i).toNat)
  case atStart => exact ⟨0, Nat.zero_le _, rfl, by rw [HZ.out]⟩
  case round =>
    obtain ⟨k, hk, rfl, rfl⟩ := hrel
    by_cases hlt : k < K
    · go_wp2_with (go_at_call 88; refine (right_0 _ (shrK_in b k) _).mono ?_; rintro e w' ⟨rfl, rfl⟩; rw [HP.out])
      go_round
      case rel => exact ⟨k + 1, by omega, by go_num, rfl⟩
      case measure => simp [intOf]; omega
    · obtain rfl : k = K := by omega
      go_wp2
      go_ret
      exact ⟨rfl, rfl⟩
set_option maxHeartbeats 1000000 in
theorem shifted_17 (b c : Int) (hb : In64 b) (hc : In64 c) (w : World) : Calls Tryd.prog 83 #[.int .u8 17, .int .i64 b, .int .i64 c] w fun e w' => e = .returned (.int .i64 (Fsar b c)) ∧ w = w' := by
  have HQ := Lib.hid (quot_68 c 64 hc (by unfold In64; omega) (by omega))
  have hsh : Fmod c 64 = (sh c : Int) := (sh_emod c).symm
  have HZ := Lib.hid (sarK_zero b)
  have HP := Lib.hid (sarK_succ b)
  have HI := Lib.hid (sarK_in hb)
  rw [hsh] at HQ
  clear hsh hb hc
  have hlt := sh_lt c
  rw [sar_is]
  generalize sh c = K at *
  go_enter Tryd.func83, Tryd.ntmps83
  go_wp2_with (go_at_call 68; refine (HQ.out _).mono ?_; rintro e w' ⟨rfl, rfl⟩)
  go_loop [1, 9] (fun v i => ∃ k : Nat, k ≤ K ∧ i = .int .i64 k ∧ v = .int .i64 (sarK b k)) (fun _ i => K - (intOf i).toNat)
  case atStart => exact ⟨0, Nat.zero_le _, rfl, by rw [HZ.out]⟩
  case round =>
    obtain ⟨k, hk, rfl, rfl⟩ := hrel
    by_cases hlt : k < K
    · go_wp2_with (go_at_call 88; refine (right_1 _ (HI.out k) _).mono ?_; rintro e w' ⟨rfl, rfl⟩; rw [HP.out])
      go_round
      case rel => exact ⟨k + 1, by omega, by go_num, rfl⟩
      case measure => simp [intOf]; omega
    · obtain rfl : k = K := by omega
      go_wp2
      go_ret
      exact ⟨rfl, rfl⟩
end Go.Proofs.YtellmlffkgfeiaaDoor
