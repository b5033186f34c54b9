/- CpuReckons, whatever the numbers. -/
import Derived.Test.YtellmlffkgfeiaaDoorR2a
import Derived.Test.YtellmlffkgfeiaaDoorR2b
import Derived.Test.YtellmlffkgfeiaaDoorR2c
set_option linter.unusedVariables false
set_option linter.unusedSimpArgs false
namespace Go.Proofs.YtellmlffkgfeiaaDoor
open Go.RowKit
theorem least_in : In64 (-9223372036854775808) := by unfold In64; omega
theorem reckons_calls (b c d : Int) (hb : In64 b) (hc : In64 c) (hd : In64 d) (w : World) (hg : Glob w) :
    Calls Tryd.prog 4 #[.int .i64 b, .int .i64 c, .int .i64 d] w fun e w' => e = .returned (.bool true) ∧ Ch No w w' := by
  have hk := sh_emod d
  have ik : In64 (d % 64) := by unfold In64; omega
  have iP : In64 (pw (sh d)) := in64_toInt _
  have iz : In64 (Fsar b d) := sar_in b d hb
  have HCUT : Hid (∀ W : World, Calls Tryd.prog 19 #[.int .i64 d, .int .i64 64] W fun e w' => e = .returned (.tuple #[.int .i64 (d / 64), .int .i64 (d % 64)]) ∧ W = w') := fun W => cut_calls d hd W
  have HPOW : Hid (∀ W : World, Calls Tryd.prog 20 #[.int .i64 (d % 64)] W fun e w' => e = .returned (.int .i64 (pw (sh d))) ∧ W = w') := fun W => by
    have := power_calls (sh d) (by have := sh_lt d; omega) W
    rwa [hk] at this
  have S_s : Hid (Sure 7 b c (Fadd b c)) := sure_of (by omega) hb hc (stepD_7 _ _)
  have S_b1 : Hid (Sure 8 (Fadd b c) c b) := sure_of (by omega) (in64_toInt _) hc (by rw [stepD_8, sub_add b c hb])
  have S_s2 : Hid (Sure 7 c b (Fadd b c)) := sure_of (by omega) hc hb (by rw [stepD_7, add_comm' b c])
  have S_m : Hid (Sure 9 (Fadd b c) d (Fmul (Fadd b c) d)) := sure_of (by omega) (in64_toInt _) hd (stepD_9 _ _)
  have S_p1 : Hid (Sure 9 b d (Fmul b d)) := sure_of (by omega) hb hd (stepD_9 _ _)
  have S_p2 : Hid (Sure 9 c d (Fmul c d)) := sure_of (by omega) hc hd (stepD_9 _ _)
  have S_m2 : Hid (Sure 7 (Fmul b d) (Fmul c d) (Fmul (Fadd b c) d)) := sure_of (by omega) (in64_toInt _) (in64_toInt _) (by rw [stepD_7, mul_dist b c d])
  have S_a : Hid (Sure 12 b c (Fand b c)) := sure_of (by omega) hb hc (stepD_12 _ _)
  have S_o : Hid (Sure 13 b c (For b c)) := sure_of (by omega) hb hc (stepD_13 _ _)
  have S_s3 : Hid (Sure 7 (Fand b c) (For b c) (Fadd b c)) := sure_of (by omega) (in64_toInt _) (in64_toInt _) (by rw [stepD_7, and_or b c])
  have S_x : Hid (Sure 14 b c (Fxor b c)) := sure_of (by omega) hb hc (stepD_14 _ _)
  have S_x2 : Hid (Sure 8 (For b c) (Fand b c) (Fxor b c)) := sure_of (by omega) (in64_toInt _) (in64_toInt _) (by rw [stepD_8, or_and b c])
  have S_x3 : Hid (Sure 14 b c (Fxor b c)) := sure_of (by omega) hb hc (stepD_14 _ _)
  have S_b2 : Hid (Sure 14 (Fxor b c) c b) := sure_of (by omega) (in64_toInt _) hc (by rw [stepD_14, xor_xor b c hb])
  have S_y : Hid (Sure 15 b d (Fshl b d)) := sure_of (by omega) hb hd (stepD_15 _ _)
  have S_y2 : Hid (Sure 9 b (pw (sh d)) (Fshl b d)) := sure_of (by omega) hb iP (by rw [stepD_9, shl_mul b d])
  have S_y3 : Hid (Sure 15 b d (Fshl b d)) := sure_of (by omega) hb hd (stepD_15 _ _)
  have S_y4 : Hid (Sure 15 b (d % 64) (Fshl b d)) := sure_of (by omega) hb ik (by rw [stepD_15, shl_same b d])
  have S_z : Hid (Sure 17 b d (Fsar b d)) := sure_of (by omega) hb hd (stepD_17 _ _)
  have S_z2 : Hid (Sure 17 b (d % 64) (Fsar b d)) := sure_of (by omega) hb ik (by rw [stepD_17, sar_same b d])
  have S_u : Hid (Sure 20 b c (Fsltu b c)) := sure_of (by omega) hb hc (stepD_20 _ _)
  have S_b3 : Hid (Sure 14 b (-9223372036854775808) (Fxor b (-9223372036854775808))) := sure_of (by omega) hb least_in (stepD_14 _ _)
  have S_c3 : Hid (Sure 14 c (-9223372036854775808) (Fxor c (-9223372036854775808))) := sure_of (by omega) hc least_in (stepD_14 _ _)
  have S_u2 : Hid (Sure 19 (Fxor b (-9223372036854775808)) (Fxor c (-9223372036854775808)) (Fsltu b c)) := sure_of (by omega) (in64_toInt _) (in64_toInt _) (by rw [stepD_19, sltu_slt b c])
  have S_t2 : Hid (Sure 16 b d (Fshr b d)) := sure_of (by omega) hb hd (stepD_16 _ _)
  have S_z5 : Hid (Sure 17 b d (Fsar b d)) := sure_of (by omega) hb hd (stepD_17 _ _)
  have hcmp : (b < c ∧ (b == c) = false) ∨ (b = c ∧ ¬ b < c ∧ (b == c) = true) ∨ (c < b ∧ ¬ b < c ∧ (b == c) = false) := by
    rcases Int.lt_trichotomy b c with h | h | h
    · exact .inl ⟨h, by simp; omega⟩
    · exact .inr (.inl ⟨h, by omega, by simp; omega⟩)
    · exact .inr (.inr ⟨h, by omega, by simp; omega⟩)
  rcases hcmp with ⟨bc, be⟩ | ⟨bq, bc, be⟩ | ⟨bg, bc, be⟩
  · have S_f1 : Hid (Sure 19 b c 1) := sure_of (by omega) hb hc (by rw [stepD_19]; unfold Fslt; rw [if_pos (by omega)])
    have S_f2 : Hid (Sure 19 c b 0) := sure_of (by omega) hc hb (by rw [stepD_19]; unfold Fslt; rw [if_neg (by have := be; simp at this; omega)])
    have S_f3 : Hid (Sure 21 b c 0) := sure_of (by omega) hb hc (by rw [stepD_21]; unfold Fseq; rw [if_neg (by have := be; simp at this; omega)])
    have S_f4 : Hid (Sure 21 b c 0) := sure_of (by omega) hb hc (by rw [stepD_21]; unfold Fseq; rw [if_neg (by have := be; simp at this; omega)])
    have S_f5 : Hid (Sure 19 b c 1) := sure_of (by omega) hb hc (by rw [stepD_19]; unfold Fslt; rw [if_pos (by omega)])
    by_cases k63 : d % 64 < 63
    · have S_z3 : Hid (Sure 17 b (d % 64) (Fsar b d)) := S_z2
      have S_z4 : Hid (Sure 10 b (pw (sh d)) (Fsar b d)) := sure_of (by omega) hb iP (by rw [stepD_10 _ _ (by rw [pw_is _ (by omega)]; have := pow_pos' (sh d); omega)]; unfold Fdiv; rw [sar_div b d hb (by omega)])
      by_cases bp : 0 ≤ b
      · have S_t1 : Hid (Sure 16 b d (Fsar b d)) := sure_of (by omega) hb hd (by rw [stepD_16, shr_sar b d hb bp])
        by_cases kp : 0 < d % 64
        · exact reckons_111lt b c d (Fadd b c) (Fmul (Fadd b c) d) (Fmul b d) (Fmul c d) (Fand b c) (For b c) (Fxor b c) (Fshl b d) (Fsar b d) (pw (sh d)) (d % 64) (d / 64) (Fshr b d) (Fsltu b c) (Fxor b (-9223372036854775808)) (Fxor c (-9223372036854775808)) S_s S_b1 S_s2 S_m S_p1 S_p2 S_m2 S_a S_o S_s3 S_x S_x2 S_x3 S_b2 S_y S_y2 S_y3 S_y4 S_z S_z2 S_z3 S_z4 S_t1 S_z5 S_t2 S_f1 S_f2 S_f3 S_f4 S_f5 S_u S_b3 S_c3 S_u2 HCUT HPOW k63 bp kp (shr_pos b d kp) bc be w hg
        · exact reckons_110lt b c d (Fadd b c) (Fmul (Fadd b c) d) (Fmul b d) (Fmul c d) (Fand b c) (For b c) (Fxor b c) (Fshl b d) (Fsar b d) (pw (sh d)) (d % 64) (d / 64) (Fshr b d) (Fsltu b c) (Fxor b (-9223372036854775808)) (Fxor c (-9223372036854775808)) S_s S_b1 S_s2 S_m S_p1 S_p2 S_m2 S_a S_o S_s3 S_x S_x2 S_x3 S_b2 S_y S_y2 S_y3 S_y4 S_z S_z2 S_z3 S_z4 S_t1 S_z5 S_f1 S_f2 S_f3 S_f4 S_f5 S_u S_b3 S_c3 S_u2 HCUT HPOW k63 bp (by omega) bc be w hg
      · by_cases kp : 0 < d % 64
        · exact reckons_101lt b c d (Fadd b c) (Fmul (Fadd b c) d) (Fmul b d) (Fmul c d) (Fand b c) (For b c) (Fxor b c) (Fshl b d) (Fsar b d) (pw (sh d)) (d % 64) (d / 64) (Fshr b d) (Fsltu b c) (Fxor b (-9223372036854775808)) (Fxor c (-9223372036854775808)) S_s S_b1 S_s2 S_m S_p1 S_p2 S_m2 S_a S_o S_s3 S_x S_x2 S_x3 S_b2 S_y S_y2 S_y3 S_y4 S_z S_z2 S_z3 S_z4 S_t2 S_f1 S_f2 S_f3 S_f4 S_f5 S_u S_b3 S_c3 S_u2 HCUT HPOW k63 (by omega) kp (shr_pos b d kp) bc be w hg
        · exact reckons_100lt b c d (Fadd b c) (Fmul (Fadd b c) d) (Fmul b d) (Fmul c d) (Fand b c) (For b c) (Fxor b c) (Fshl b d) (Fsar b d) (pw (sh d)) (d % 64) (d / 64) (Fshr b d) (Fsltu b c) (Fxor b (-9223372036854775808)) (Fxor c (-9223372036854775808)) S_s S_b1 S_s2 S_m S_p1 S_p2 S_m2 S_a S_o S_s3 S_x S_x2 S_x3 S_b2 S_y S_y2 S_y3 S_y4 S_z S_z2 S_z3 S_z4 S_f1 S_f2 S_f3 S_f4 S_f5 S_u S_b3 S_c3 S_u2 HCUT HPOW k63 (by omega) (by omega) bc be w hg
    · have kp : 0 < d % 64 := by omega
      by_cases bp : 0 ≤ b
      · have S_t1 : Hid (Sure 16 b d (Fsar b d)) := sure_of (by omega) hb hd (by rw [stepD_16, shr_sar b d hb bp])
        exact reckons_011lt b c d (Fadd b c) (Fmul (Fadd b c) d) (Fmul b d) (Fmul c d) (Fand b c) (For b c) (Fxor b c) (Fshl b d) (Fsar b d) (pw (sh d)) (d % 64) (d / 64) (Fshr b d) (Fsltu b c) (Fxor b (-9223372036854775808)) (Fxor c (-9223372036854775808)) S_s S_b1 S_s2 S_m S_p1 S_p2 S_m2 S_a S_o S_s3 S_x S_x2 S_x3 S_b2 S_y S_y2 S_y3 S_y4 S_z S_z2 S_t1 S_z5 S_t2 S_f1 S_f2 S_f3 S_f4 S_f5 S_u S_b3 S_c3 S_u2 HCUT HPOW (by omega) bp kp (shr_pos b d kp) bc be w hg
      · exact reckons_001lt b c d (Fadd b c) (Fmul (Fadd b c) d) (Fmul b d) (Fmul c d) (Fand b c) (For b c) (Fxor b c) (Fshl b d) (Fsar b d) (pw (sh d)) (d % 64) (d / 64) (Fshr b d) (Fsltu b c) (Fxor b (-9223372036854775808)) (Fxor c (-9223372036854775808)) S_s S_b1 S_s2 S_m S_p1 S_p2 S_m2 S_a S_o S_s3 S_x S_x2 S_x3 S_b2 S_y S_y2 S_y3 S_y4 S_z S_z2 S_t2 S_f1 S_f2 S_f3 S_f4 S_f5 S_u S_b3 S_c3 S_u2 HCUT HPOW (by omega) (by omega) kp (shr_pos b d kp) bc be w hg
  · have S_f1 : Hid (Sure 19 b c 0) := sure_of (by omega) hb hc (by rw [stepD_19]; unfold Fslt; rw [if_neg (by have := be; simp at this; omega)])
    have S_f2 : Hid (Sure 19 c b 0) := sure_of (by omega) hc hb (by rw [stepD_19]; unfold Fslt; rw [if_neg (by have := be; simp at this; omega)])
    have S_f3 : Hid (Sure 21 b c 1) := sure_of (by omega) hb hc (by rw [stepD_21]; unfold Fseq; rw [if_pos (by omega)])
    have S_f4 : Hid (Sure 21 b c 1) := sure_of (by omega) hb hc (by rw [stepD_21]; unfold Fseq; rw [if_pos (by omega)])
    have S_f5 : Hid (Sure 19 b c 0) := sure_of (by omega) hb hc (by rw [stepD_19]; unfold Fslt; rw [if_neg (by have := be; simp at this; omega)])
    by_cases k63 : d % 64 < 63
    · have S_z3 : Hid (Sure 17 b (d % 64) (Fsar b d)) := S_z2
      have S_z4 : Hid (Sure 10 b (pw (sh d)) (Fsar b d)) := sure_of (by omega) hb iP (by rw [stepD_10 _ _ (by rw [pw_is _ (by omega)]; have := pow_pos' (sh d); omega)]; unfold Fdiv; rw [sar_div b d hb (by omega)])
      by_cases bp : 0 ≤ b
      · have S_t1 : Hid (Sure 16 b d (Fsar b d)) := sure_of (by omega) hb hd (by rw [stepD_16, shr_sar b d hb bp])
        by_cases kp : 0 < d % 64
        · exact reckons_111eq b c d (Fadd b c) (Fmul (Fadd b c) d) (Fmul b d) (Fmul c d) (Fand b c) (For b c) (Fxor b c) (Fshl b d) (Fsar b d) (pw (sh d)) (d % 64) (d / 64) (Fshr b d) (Fsltu b c) (Fxor b (-9223372036854775808)) (Fxor c (-9223372036854775808)) S_s S_b1 S_s2 S_m S_p1 S_p2 S_m2 S_a S_o S_s3 S_x S_x2 S_x3 S_b2 S_y S_y2 S_y3 S_y4 S_z S_z2 S_z3 S_z4 S_t1 S_z5 S_t2 S_f1 S_f2 S_f3 S_f4 S_f5 S_u S_b3 S_c3 S_u2 HCUT HPOW k63 bp kp (shr_pos b d kp) bc be w hg
        · exact reckons_110eq b c d (Fadd b c) (Fmul (Fadd b c) d) (Fmul b d) (Fmul c d) (Fand b c) (For b c) (Fxor b c) (Fshl b d) (Fsar b d) (pw (sh d)) (d % 64) (d / 64) (Fshr b d) (Fsltu b c) (Fxor b (-9223372036854775808)) (Fxor c (-9223372036854775808)) S_s S_b1 S_s2 S_m S_p1 S_p2 S_m2 S_a S_o S_s3 S_x S_x2 S_x3 S_b2 S_y S_y2 S_y3 S_y4 S_z S_z2 S_z3 S_z4 S_t1 S_z5 S_f1 S_f2 S_f3 S_f4 S_f5 S_u S_b3 S_c3 S_u2 HCUT HPOW k63 bp (by omega) bc be w hg
      · by_cases kp : 0 < d % 64
        · exact reckons_101eq b c d (Fadd b c) (Fmul (Fadd b c) d) (Fmul b d) (Fmul c d) (Fand b c) (For b c) (Fxor b c) (Fshl b d) (Fsar b d) (pw (sh d)) (d % 64) (d / 64) (Fshr b d) (Fsltu b c) (Fxor b (-9223372036854775808)) (Fxor c (-9223372036854775808)) S_s S_b1 S_s2 S_m S_p1 S_p2 S_m2 S_a S_o S_s3 S_x S_x2 S_x3 S_b2 S_y S_y2 S_y3 S_y4 S_z S_z2 S_z3 S_z4 S_t2 S_f1 S_f2 S_f3 S_f4 S_f5 S_u S_b3 S_c3 S_u2 HCUT HPOW k63 (by omega) kp (shr_pos b d kp) bc be w hg
        · exact reckons_100eq b c d (Fadd b c) (Fmul (Fadd b c) d) (Fmul b d) (Fmul c d) (Fand b c) (For b c) (Fxor b c) (Fshl b d) (Fsar b d) (pw (sh d)) (d % 64) (d / 64) (Fshr b d) (Fsltu b c) (Fxor b (-9223372036854775808)) (Fxor c (-9223372036854775808)) S_s S_b1 S_s2 S_m S_p1 S_p2 S_m2 S_a S_o S_s3 S_x S_x2 S_x3 S_b2 S_y S_y2 S_y3 S_y4 S_z S_z2 S_z3 S_z4 S_f1 S_f2 S_f3 S_f4 S_f5 S_u S_b3 S_c3 S_u2 HCUT HPOW k63 (by omega) (by omega) bc be w hg
    · have kp : 0 < d % 64 := by omega
      by_cases bp : 0 ≤ b
      · have S_t1 : Hid (Sure 16 b d (Fsar b d)) := sure_of (by omega) hb hd (by rw [stepD_16, shr_sar b d hb bp])
        exact reckons_011eq b c d (Fadd b c) (Fmul (Fadd b c) d) (Fmul b d) (Fmul c d) (Fand b c) (For b c) (Fxor b c) (Fshl b d) (Fsar b d) (pw (sh d)) (d % 64) (d / 64) (Fshr b d) (Fsltu b c) (Fxor b (-9223372036854775808)) (Fxor c (-9223372036854775808)) S_s S_b1 S_s2 S_m S_p1 S_p2 S_m2 S_a S_o S_s3 S_x S_x2 S_x3 S_b2 S_y S_y2 S_y3 S_y4 S_z S_z2 S_t1 S_z5 S_t2 S_f1 S_f2 S_f3 S_f4 S_f5 S_u S_b3 S_c3 S_u2 HCUT HPOW (by omega) bp kp (shr_pos b d kp) bc be w hg
      · exact reckons_001eq b c d (Fadd b c) (Fmul (Fadd b c) d) (Fmul b d) (Fmul c d) (Fand b c) (For b c) (Fxor b c) (Fshl b d) (Fsar b d) (pw (sh d)) (d % 64) (d / 64) (Fshr b d) (Fsltu b c) (Fxor b (-9223372036854775808)) (Fxor c (-9223372036854775808)) S_s S_b1 S_s2 S_m S_p1 S_p2 S_m2 S_a S_o S_s3 S_x S_x2 S_x3 S_b2 S_y S_y2 S_y3 S_y4 S_z S_z2 S_t2 S_f1 S_f2 S_f3 S_f4 S_f5 S_u S_b3 S_c3 S_u2 HCUT HPOW (by omega) (by omega) kp (shr_pos b d kp) bc be w hg
  · have S_f1 : Hid (Sure 19 b c 0) := sure_of (by omega) hb hc (by rw [stepD_19]; unfold Fslt; rw [if_neg (by have := be; simp at this; omega)])
    have S_f2 : Hid (Sure 19 c b 1) := sure_of (by omega) hc hb (by rw [stepD_19]; unfold Fslt; rw [if_pos (by omega)])
    have S_f3 : Hid (Sure 21 b c 0) := sure_of (by omega) hb hc (by rw [stepD_21]; unfold Fseq; rw [if_neg (by have := be; simp at this; omega)])
    have S_f4 : Hid (Sure 21 b c 0) := sure_of (by omega) hb hc (by rw [stepD_21]; unfold Fseq; rw [if_neg (by have := be; simp at this; omega)])
    have S_f5 : Hid (Sure 19 b c 0) := sure_of (by omega) hb hc (by rw [stepD_19]; unfold Fslt; rw [if_neg (by have := be; simp at this; omega)])
    by_cases k63 : d % 64 < 63
    · have S_z3 : Hid (Sure 17 b (d % 64) (Fsar b d)) := S_z2
      have S_z4 : Hid (Sure 10 b (pw (sh d)) (Fsar b d)) := sure_of (by omega) hb iP (by rw [stepD_10 _ _ (by rw [pw_is _ (by omega)]; have := pow_pos' (sh d); omega)]; unfold Fdiv; rw [sar_div b d hb (by omega)])
      by_cases bp : 0 ≤ b
      · have S_t1 : Hid (Sure 16 b d (Fsar b d)) := sure_of (by omega) hb hd (by rw [stepD_16, shr_sar b d hb bp])
        by_cases kp : 0 < d % 64
        · exact reckons_111gt b c d (Fadd b c) (Fmul (Fadd b c) d) (Fmul b d) (Fmul c d) (Fand b c) (For b c) (Fxor b c) (Fshl b d) (Fsar b d) (pw (sh d)) (d % 64) (d / 64) (Fshr b d) (Fsltu b c) (Fxor b (-9223372036854775808)) (Fxor c (-9223372036854775808)) S_s S_b1 S_s2 S_m S_p1 S_p2 S_m2 S_a S_o S_s3 S_x S_x2 S_x3 S_b2 S_y S_y2 S_y3 S_y4 S_z S_z2 S_z3 S_z4 S_t1 S_z5 S_t2 S_f1 S_f2 S_f3 S_f4 S_f5 S_u S_b3 S_c3 S_u2 HCUT HPOW k63 bp kp (shr_pos b d kp) bc be w hg
        · exact reckons_110gt b c d (Fadd b c) (Fmul (Fadd b c) d) (Fmul b d) (Fmul c d) (Fand b c) (For b c) (Fxor b c) (Fshl b d) (Fsar b d) (pw (sh d)) (d % 64) (d / 64) (Fshr b d) (Fsltu b c) (Fxor b (-9223372036854775808)) (Fxor c (-9223372036854775808)) S_s S_b1 S_s2 S_m S_p1 S_p2 S_m2 S_a S_o S_s3 S_x S_x2 S_x3 S_b2 S_y S_y2 S_y3 S_y4 S_z S_z2 S_z3 S_z4 S_t1 S_z5 S_f1 S_f2 S_f3 S_f4 S_f5 S_u S_b3 S_c3 S_u2 HCUT HPOW k63 bp (by omega) bc be w hg
      · by_cases kp : 0 < d % 64
        · exact reckons_101gt b c d (Fadd b c) (Fmul (Fadd b c) d) (Fmul b d) (Fmul c d) (Fand b c) (For b c) (Fxor b c) (Fshl b d) (Fsar b d) (pw (sh d)) (d % 64) (d / 64) (Fshr b d) (Fsltu b c) (Fxor b (-9223372036854775808)) (Fxor c (-9223372036854775808)) S_s S_b1 S_s2 S_m S_p1 S_p2 S_m2 S_a S_o S_s3 S_x S_x2 S_x3 S_b2 S_y S_y2 S_y3 S_y4 S_z S_z2 S_z3 S_z4 S_t2 S_f1 S_f2 S_f3 S_f4 S_f5 S_u S_b3 S_c3 S_u2 HCUT HPOW k63 (by omega) kp (shr_pos b d kp) bc be w hg
        · exact reckons_100gt b c d (Fadd b c) (Fmul (Fadd b c) d) (Fmul b d) (Fmul c d) (Fand b c) (For b c) (Fxor b c) (Fshl b d) (Fsar b d) (pw (sh d)) (d % 64) (d / 64) (Fshr b d) (Fsltu b c) (Fxor b (-9223372036854775808)) (Fxor c (-9223372036854775808)) S_s S_b1 S_s2 S_m S_p1 S_p2 S_m2 S_a S_o S_s3 S_x S_x2 S_x3 S_b2 S_y S_y2 S_y3 S_y4 S_z S_z2 S_z3 S_z4 S_f1 S_f2 S_f3 S_f4 S_f5 S_u S_b3 S_c3 S_u2 HCUT HPOW k63 (by omega) (by omega) bc be w hg
    · have kp : 0 < d % 64 := by omega
      by_cases bp : 0 ≤ b
      · have S_t1 : Hid (Sure 16 b d (Fsar b d)) := sure_of (by omega) hb hd (by rw [stepD_16, shr_sar b d hb bp])
        exact reckons_011gt b c d (Fadd b c) (Fmul (Fadd b c) d) (Fmul b d) (Fmul c d) (Fand b c) (For b c) (Fxor b c) (Fshl b d) (Fsar b d) (pw (sh d)) (d % 64) (d / 64) (Fshr b d) (Fsltu b c) (Fxor b (-9223372036854775808)) (Fxor c (-9223372036854775808)) S_s S_b1 S_s2 S_m S_p1 S_p2 S_m2 S_a S_o S_s3 S_x S_x2 S_x3 S_b2 S_y S_y2 S_y3 S_y4 S_z S_z2 S_t1 S_z5 S_t2 S_f1 S_f2 S_f3 S_f4 S_f5 S_u S_b3 S_c3 S_u2 HCUT HPOW (by omega) bp kp (shr_pos b d kp) bc be w hg
      · exact reckons_001gt b c d (Fadd b c) (Fmul (Fadd b c) d) (Fmul b d) (Fmul c d) (Fand b c) (For b c) (Fxor b c) (Fshl b d) (Fsar b d) (pw (sh d)) (d % 64) (d / 64) (Fshr b d) (Fsltu b c) (Fxor b (-9223372036854775808)) (Fxor c (-9223372036854775808)) S_s S_b1 S_s2 S_m S_p1 S_p2 S_m2 S_a S_o S_s3 S_x S_x2 S_x3 S_b2 S_y S_y2 S_y3 S_y4 S_z S_z2 S_t2 S_f1 S_f2 S_f3 S_f4 S_f5 S_u S_b3 S_c3 S_u2 HCUT HPOW (by omega) (by omega) kp (shr_pos b d kp) bc be w hg
end Go.Proofs.YtellmlffkgfeiaaDoor
