/- Plain laws of sums, bits, shifts and comparisons on 64-bit numbers. No program in sight. -/
import Derived.Test.YtellmlffkgfeiaaDoorC0
set_option linter.unusedVariables false
set_option linter.unusedSimpArgs false
namespace Go.Proofs.YtellmlffkgfeiaaDoor
open Go.RowKit
theorem sub_add (b c : Int) (hb : In64 b) : Fsub (Fadd b c) c = b := by
  unfold Fsub Fadd
  rw [toInt_bv, BitVec.add_sub_cancel, bv_in hb]
theorem add_comm' (b c : Int) : Fadd c b = Fadd b c := by
  unfold Fadd
  rw [BitVec.add_comm]
theorem mul_dist (b c d : Int) : Fadd (Fmul b d) (Fmul c d) = Fmul (Fadd b c) d := by
  unfold Fmul Fadd
  simp only [toInt_bv]
  rw [BitVec.add_mul]
theorem nat_and_or : ∀ (x y : Nat), (x &&& y) + (x ||| y) = x + y ∧ (x ||| y) = (x &&& y) + (x ^^^ y) := by
  intro x
  induction x using Nat.strongRecOn with
  | _ x ih =>
    intro y
    by_cases hx : x = 0
    · subst hx; simp
    · obtain ⟨h1, h2⟩ := ih (x / 2) (by omega) (y / 2)
      have a1 := Nat.and_div_two (a := x) (b := y)
      have a2 := Nat.or_div_two (a := x) (b := y)
      have a3 := Nat.xor_div_two (a := x) (b := y)
      have m1 := Nat.and_mod_two_eq_one (a := x) (b := y)
      have m2 := Nat.or_mod_two_eq_one (a := x) (b := y)
      have m3 := Nat.xor_mod_two_eq_one (a := x) (b := y)
      omega
theorem bv_and_or (x y : BitVec 64) : (x &&& y) + (x ||| y) = x + y := by
  apply BitVec.eq_of_toNat_eq
  rw [BitVec.toNat_add, BitVec.toNat_add, BitVec.toNat_and, BitVec.toNat_or, (nat_and_or _ _).1]
theorem bv_or (x y : BitVec 64) : (x ||| y) = (x &&& y) + (x ^^^ y) := by
  apply BitVec.eq_of_toNat_eq
  rw [BitVec.toNat_add, BitVec.toNat_and, BitVec.toNat_or, BitVec.toNat_xor, ← (nat_and_or _ _).2, ← BitVec.toNat_or, Nat.mod_eq_of_lt (BitVec.isLt _)]
theorem and_or (b c : Int) : Fadd (Fand b c) (For b c) = Fadd b c := by
  unfold Fadd Fand For
  simp only [toInt_bv]
  rw [bv_and_or]
theorem or_and (b c : Int) : Fsub (For b c) (Fand b c) = Fxor b c := by
  unfold Fsub Fand For Fxor
  simp only [toInt_bv]
  rw [bv_or, BitVec.add_comm, BitVec.add_sub_cancel]
theorem xor_xor (b c : Int) (hb : In64 b) : Fxor (Fxor b c) c = b := by
  unfold Fxor
  simp only [toInt_bv]
  rw [BitVec.xor_assoc, BitVec.xor_self, BitVec.xor_zero, bv_in hb]
theorem bv_toNat (d : Int) : ((bv d).toNat : Int) = d % 18446744073709551616 := by
  unfold bv
  rw [BitVec.toNat_ofInt]
  omega
theorem sh_emod (d : Int) : (sh d : Int) = d % 64 := by
  unfold sh
  have := bv_toNat d
  omega
/-- a power of two, in 64 bits -/
def pw (k : Nat) : Int := (bv (2 ^ k)).toInt
theorem shl_mul (b d : Int) : Fmul b (pw (sh d)) = Fshl b d := by
  unfold Fmul Fshl pw
  rw [toInt_bv, ← bv_mul, bv_shl]
theorem sh_same (d : Int) : sh (d % 64) = sh d := by
  have h1 := sh_emod d
  have h2 := sh_emod (d % 64)
  omega
theorem shl_same (b d : Int) : Fshl b (d % 64) = Fshl b d := by unfold Fshl; rw [sh_same]
theorem sar_same (b d : Int) : Fsar b (d % 64) = Fsar b d := by unfold Fsar; rw [sh_same]
theorem pow_lt (k : Nat) (h : k < 63) : (2 : Int) ^ k ≤ 4611686018427387904 := by
  rw [pow_cast]
  have := Nat.pow_le_pow_right (n := 2) (by omega) (show k ≤ 62 by omega)
  omega
theorem pow_pos' (k : Nat) : (1 : Int) ≤ 2 ^ k := by
  rw [pow_cast]
  have := Nat.pow_pos (n := k) (show 0 < 2 by omega)
  omega
theorem pw_is (k : Nat) (h : k < 63) : pw k = 2 ^ k := by
  unfold pw
  have h1 := pow_lt k h
  have h2 := pow_pos' k
  exact bv_in ⟨by omega, by omega⟩
theorem quot_in (b n : Int) (hb : In64 b) (hn : 1 ≤ n) : In64 (b / n) := by
  unfold In64 at *
  rcases Int.lt_or_le b 0 with h | h
  · have h1 : b ≤ b / n := Int.le_ediv_of_mul_le (by omega) (by
      have := Int.mul_le_mul_of_nonpos_left (a := b) (show b ≤ 0 by omega) hn
      omega)
    have h2 : b / n < 0 := Int.ediv_neg_of_neg_of_pos h (by omega)
    omega
  · have h1 : 0 ≤ b / n := Int.ediv_nonneg h (by omega)
    have h2 : b / n ≤ b := Int.ediv_le_self n h
    omega
theorem fdiv_pow (b : Int) (k : Nat) : b.fdiv (2 ^ k) = b / 2 ^ k := Int.fdiv_eq_ediv_of_nonneg _ (by have := pow_pos' k; omega)
theorem sar_div (b d : Int) (hb : In64 b) (h : sh d < 63) : wrap64 (b / pw (sh d)) = Fsar b d := by
  unfold Fsar
  rw [pw_is _ h, fdiv_pow]
  exact wrap_in (quot_in b _ hb (pow_pos' _))
theorem sar_in (b d : Int) (hb : In64 b) : In64 (Fsar b d) := by
  unfold Fsar
  rw [fdiv_pow]
  exact quot_in b _ hb (pow_pos' _)
theorem shr_sar (b d : Int) (hb : In64 b) (h : 0 ≤ b) : Fshr b d = Fsar b d := by
  unfold Fshr Fsar
  rw [fdiv_pow, pow_cast]
  have h1 := bv_toNat b
  unfold In64 at hb
  have h2 : ((bv b >>> sh d).toNat : Int) = b / ((2 ^ sh d : Nat) : Int) := by
    rw [BitVec.toNat_ushiftRight, Nat.shiftRight_eq_div_pow, Int.natCast_ediv, h1]
    congr 1
    omega
  have h3 := quot_in b ((2 ^ sh d : Nat) : Int) hb (by have := pow_pos' (sh d); rw [pow_cast] at this; exact this)
  have h4 : 0 ≤ b / ((2 ^ sh d : Nat) : Int) := Int.ediv_nonneg h (Int.natCast_nonneg _)
  unfold In64 at h3
  rw [BitVec.toInt_eq_toNat_cond]
  rw [if_pos (by omega)]
  exact h2
theorem shr_pos (b d : Int) (h : 0 < d % 64) : 0 ≤ Fshr b d := by
  unfold Fshr
  have := sh_emod d
  rw [BitVec.toInt_ushiftRight_of_lt (by omega)]
  exact Int.natCast_nonneg _
theorem xor_top (x : BitVec 64) : x ^^^ bv (-9223372036854775808) = x + bv (-9223372036854775808) := by
  apply BitVec.eq_of_toNat_eq
  have hm : (bv (-9223372036854775808)).toNat = 2 ^ 63 := by rfl
  rw [BitVec.toNat_xor, BitVec.toNat_add, hm]
  obtain ⟨h1, h2⟩ := nat_and_or x.toNat (2 ^ 63)
  have h3 : (x.toNat &&& 2 ^ 63) % 2 ^ 63 = 0 := by rw [Nat.and_mod_two_pow]; simp
  have h5 : (x.toNat &&& 2 ^ 63) ≤ 2 ^ 63 := Nat.and_le_right
  have h4 : x.toNat ^^^ 2 ^ 63 < 2 ^ 64 := Nat.xor_lt_two_pow x.isLt (by omega)
  omega
theorem top_int (x : BitVec 64) : (x + bv (-9223372036854775808)).toInt = (x.toNat : Int) - 9223372036854775808 := by
  have hm : (bv (-9223372036854775808)).toNat = 2 ^ 63 := by rfl
  have hx := x.isLt
  rw [BitVec.toInt_eq_toNat_cond, BitVec.toNat_add, hm]
  split <;> omega
theorem sltu_slt (b c : Int) : Fslt (Fxor b (-9223372036854775808)) (Fxor c (-9223372036854775808)) = Fsltu b c := by
  unfold Fslt Fsltu Fxor
  rw [xor_top, xor_top, top_int, top_int]
  by_cases h : (bv b).toNat < (bv c).toNat
  · rw [if_pos h, if_pos (by omega)]
  · rw [if_neg h, if_neg (by omega)]
theorem f_in (b c : Int) : In64 (Fadd b c) ∧ In64 (Fmul b c) ∧ In64 (Fand b c) ∧ In64 (For b c) ∧ In64 (Fxor b c) := ⟨in64_toInt _, in64_toInt _, in64_toInt _, in64_toInt _, in64_toInt _⟩
end Go.Proofs.YtellmlffkgfeiaaDoor
