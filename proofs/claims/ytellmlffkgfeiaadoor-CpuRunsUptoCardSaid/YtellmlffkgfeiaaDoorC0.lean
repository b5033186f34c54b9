/- Plain words on 64-bit numbers: what the operations of the machine reckon. No program in sight. -/
import Derived.Laws.Entries
import Derived.RowKit
set_option linter.unusedVariables false
namespace Go.Proofs.YtellmlffkgfeiaaDoor
open Go.RowKit
/-- a number's 64 bits -/
def bv (x : Int) : BitVec 64 := BitVec.ofInt 64 x
/-- a number that an int64 holds -/
def In64 (x : Int) : Prop := -9223372036854775808 ≤ x ∧ x ≤ 9223372036854775807
theorem bv_toInt (x : Int) : (bv x).toInt = wrap64 x := by
  unfold bv wrap64
  rw [BitVec.toInt_ofInt]
  simp only [Int.bmod, Nat.reducePow]
  omega
theorem in64_toInt (x : BitVec 64) : In64 x.toInt := by
  have h1 := BitVec.toInt_lt (x := x)
  have h2 := BitVec.le_toInt (x := x)
  simp at h1 h2
  unfold In64
  omega
theorem wrap_in {x : Int} (h : In64 x) : wrap64 x = x := by unfold In64 at h; unfold wrap64; omega
theorem bv_in {x : Int} (h : In64 x) : (bv x).toInt = x := by rw [bv_toInt, wrap_in h]
theorem toInt_bv (x : BitVec 64) : bv x.toInt = x := by unfold bv; simp
theorem i64_wrap (x : Int) : IntKind.i64.wrap x = (bv x).toInt := by
  rw [bv_toInt]
  unfold IntKind.wrap wrap64
  simp [IntKind.signed, IntKind.bits]
  split <;> omega
theorem u64_wrap (x : Int) : IntKind.u64.wrap x = (bv x).toNat := by
  unfold IntKind.wrap bv
  simp [IntKind.signed, IntKind.bits, BitVec.toNat_ofInt]
  omega
theorem bv_nat (x : BitVec 64) : bv (x.toNat : Int) = x := by unfold bv; simp

def Fadd (b c : Int) : Int := (bv b + bv c).toInt
def Fsub (b c : Int) : Int := (bv b - bv c).toInt
def Fmul (b c : Int) : Int := (bv b * bv c).toInt
def Fand (b c : Int) : Int := (bv b &&& bv c).toInt
def For (b c : Int) : Int := (bv b ||| bv c).toInt
def Fxor (b c : Int) : Int := (bv b ^^^ bv c).toInt
/-- how far a shift goes -/
def sh (c : Int) : Nat := (bv c).toNat % 64
def Fshl (b c : Int) : Int := (bv b <<< sh c).toInt
def Fshr (b c : Int) : Int := (bv b >>> sh c).toInt
def Fsar (b c : Int) : Int := b.fdiv (2 ^ sh c)
def Fslt (b c : Int) : Int := if b < c then 1 else 0
def Fsltu (b c : Int) : Int := if (bv b).toNat < (bv c).toNat then 1 else 0
def Fseq (b c : Int) : Int := if b = c then 1 else 0
theorem bv_add (b c : Int) : bv (b + c) = bv b + bv c := by unfold bv; exact BitVec.ofInt_add ..
theorem bv_mul (b c : Int) : bv (b * c) = bv b * bv c := by unfold bv; exact BitVec.ofInt_mul ..
theorem bv_sub (b c : Int) : bv (b - c) = bv b - bv c := by
  apply BitVec.eq_of_toInt_eq
  rw [BitVec.toInt_sub]
  unfold bv
  simp [BitVec.toInt_ofInt]
theorem add_is (b c : Int) : wrap64 (b + c) = Fadd b c := by rw [← bv_toInt, bv_add]; rfl
theorem sub_is (b c : Int) : wrap64 (b - c) = Fsub b c := by rw [← bv_toInt, bv_sub]; rfl
theorem mul_is (b c : Int) : wrap64 (b * c) = Fmul b c := by rw [← bv_toInt, bv_mul]; rfl
theorem and_is (b c : Int) : bits BinOp.and IntKind.i64 b c = Fand b c := by
  unfold bits Fand
  simp only
  rw [i64_wrap]
  exact congrArg _ (bv_nat _)
theorem or_is (b c : Int) : bits BinOp.or IntKind.i64 b c = For b c := by
  unfold bits For
  simp only
  rw [i64_wrap]
  exact congrArg _ (bv_nat _)
theorem xor_is (b c : Int) : bits BinOp.xor IntKind.i64 b c = Fxor b c := by
  unfold bits Fxor
  simp only
  rw [i64_wrap]
  exact congrArg _ (bv_nat _)
theorem sh_is (c : Int) : (IntKind.u64.wrap c).tmod 64 = (sh c : Int) := by
  rw [u64_wrap]
  unfold sh
  simp [Int.tmod]
theorem sh_lt (c : Int) : sh c < 64 := Nat.mod_lt _ (by omega)
theorem pow_cast (n : Nat) : (2 : Int) ^ n = ((2 ^ n : Nat) : Int) := by simp
theorem bv_shl (b : Int) (n : Nat) : bv (b * 2 ^ n) = bv b <<< n := by
  rw [BitVec.shiftLeft_eq_mul_twoPow, bv_mul, pow_cast]
  congr 1
  unfold bv
  rw [BitVec.ofInt_natCast]
  apply BitVec.eq_of_toNat_eq
  rw [BitVec.toNat_ofNat, BitVec.toNat_twoPow]
theorem run_shl {P : Program} (b c : Int) : ∀ w, (Op.shift BinOp.shl IntKind.i64 b IntKind.u64 ((IntKind.u64.wrap c).tmod 64)).run P w = .ok (.int .i64 (Fshl b c)) w := by
  intro w
  rw [sh_is]
  unfold Op.shift
  rw [if_neg (by omega)]
  have e : min ((sh c : Int).toNat) IntKind.i64.bits = sh c := by have := sh_lt c; simp [IntKind.bits]; omega
  simp only [e]
  rw [i64_wrap, bv_shl]
  rfl
theorem run_sar {P : Program} (b c : Int) : ∀ w, (Op.shift BinOp.shr IntKind.i64 b IntKind.u64 ((IntKind.u64.wrap c).tmod 64)).run P w = .ok (.int .i64 (Fsar b c)) w := by
  intro w
  rw [sh_is]
  unfold Op.shift
  rw [if_neg (by omega)]
  have e : min ((sh c : Int).toNat) IntKind.i64.bits = sh c := by have := sh_lt c; simp [IntKind.bits]; omega
  simp only [e]
  rfl
theorem run_shr {P : Program} (b c : Int) : ∀ w, (Op.shift BinOp.shr IntKind.u64 (IntKind.u64.wrap b) IntKind.u64 ((IntKind.u64.wrap c).tmod 64)).run P w = .ok (.int .u64 ((bv b >>> sh c).toNat : Int)) w := by
  intro w
  rw [sh_is]
  unfold Op.shift
  rw [if_neg (by omega)]
  have e : min ((sh c : Int).toNat) IntKind.u64.bits = sh c := by have := sh_lt c; simp [IntKind.bits]; omega
  simp only [e]
  rw [u64_wrap]
  have e2 : Int.fdiv ((bv b).toNat : Int) (2 ^ sh c) = ((bv b >>> sh c).toNat : Int) := by
    rw [BitVec.toNat_ushiftRight, Nat.shiftRight_eq_div_pow, pow_cast, Int.fdiv_eq_ediv_of_nonneg _ (Int.natCast_nonneg _)]
    exact (Int.natCast_ediv _ _).symm
  rw [e2]
  rfl
theorem shr_is (b c : Int) : IntKind.i64.wrap ((bv b >>> sh c).toNat : Int) = Fshr b c := by rw [i64_wrap, bv_nat]; rfl
end Go.Proofs.YtellmlffkgfeiaaDoor
