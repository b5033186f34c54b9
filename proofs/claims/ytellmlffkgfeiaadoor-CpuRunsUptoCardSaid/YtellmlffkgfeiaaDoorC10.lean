/- does, sure, known at each operation; quotient and rest. -/
import Derived.Test.YtellmlffkgfeiaaDoorC9
set_option linter.unusedVariables false
set_option linter.unusedSimpArgs false
namespace Go.Proofs.YtellmlffkgfeiaaDoor
open Go.RowKit
theorem bv_wrap (x : Int) : bv (wrap64 x) = bv x := by rw [← bv_toInt, toInt_bv]
theorem euclid (b c : Int) (hb : In64 b) : Fadd (Fmul (Fdiv b c) c) (Fmod b c) = b := by
  unfold Fadd Fmul Fdiv Fmod
  rw [bv_wrap, toInt_bv, ← bv_mul, ← bv_add, Int.mul_comm, Int.mul_ediv_add_emod, bv_in hb]
theorem rest_pos (b c : Int) (hc : c ≠ 0) : 0 ≤ Fmod b c := Int.emod_nonneg _ hc
theorem rest_lt (b c : Int) (hc : c ≠ 0) : Fmod b c < c.natAbs := Int.emod_lt _ hc
theorem rest_in (b c : Int) (hc : c ≠ 0) (h : In64 c) : In64 (Fmod b c) := by
  have h1 := rest_pos b c hc
  have h2 := rest_lt b c hc
  unfold In64 at *
  omega
theorem div_in (b c : Int) : In64 (Fdiv b c) := by
  unfold Fdiv
  rw [← bv_toInt]
  exact in64_toInt _
theorem stepD_7 (b c : Int) : stepD 7 b c = (eff0 (dr b c) 1 0).reg 3 (Fadd b c) := by rfl
theorem stepD_8 (b c : Int) : stepD 8 b c = (eff0 (dr b c) 1 0).reg 3 (Fsub b c) := by rfl
theorem stepD_9 (b c : Int) : stepD 9 b c = (eff0 (dr b c) 1 0).reg 3 (Fmul b c) := by rfl
theorem stepD_12 (b c : Int) : stepD 12 b c = (eff0 (dr b c) 1 0).reg 3 (Fand b c) := by rfl
theorem stepD_13 (b c : Int) : stepD 13 b c = (eff0 (dr b c) 1 0).reg 3 (For b c) := by rfl
theorem stepD_14 (b c : Int) : stepD 14 b c = (eff0 (dr b c) 1 0).reg 3 (Fxor b c) := by rfl
theorem stepD_15 (b c : Int) : stepD 15 b c = (eff0 (dr b c) 1 0).reg 3 (Fshl b c) := by rfl
theorem stepD_16 (b c : Int) : stepD 16 b c = (eff0 (dr b c) 1 0).reg 3 (Fshr b c) := by rfl
theorem stepD_17 (b c : Int) : stepD 17 b c = (eff0 (dr b c) 1 0).reg 3 (Fsar b c) := by rfl
theorem stepD_19 (b c : Int) : stepD 19 b c = (eff0 (dr b c) 1 0).reg 3 (Fslt b c) := by rfl
theorem stepD_20 (b c : Int) : stepD 20 b c = (eff0 (dr b c) 1 0).reg 3 (Fsltu b c) := by rfl
theorem stepD_21 (b c : Int) : stepD 21 b c = (eff0 (dr b c) 1 0).reg 3 (Fseq b c) := by rfl
theorem stepD_10 (b c : Int) (hc : c ≠ 0) : stepD 10 b c = (eff0 (dr b c) 1 0).reg 3 (Fdiv b c) := by
  show (if c = 0 then _ else _) = _
  rw [if_neg hc]
  rfl
theorem stepD_100 (b : Int) : stepD 10 b 0 = eff0 (dr b 0) 1 3 := by rfl
theorem stepD_11 (b c : Int) (hc : c ≠ 0) : stepD 11 b c = (eff0 (dr b c) 1 0).reg 3 (Fmod b c) := by
  show (if c = 0 then _ else _) = _
  rw [if_neg hc]
  rfl
theorem stepD_110 (b : Int) : stepD 11 b 0 = eff0 (dr b 0) 1 3 := by rfl
theorem sure_val (op : Nat) (hop : op < 256) (b c v : Int) (hb : In64 b) (hc : In64 c) (hE : stepD op b c = (eff0 (dr b c) 1 0).reg 3 v) (w : World) (hg : Glob w) :
    Calls Tryd.prog 17 #[.int .u8 op, .int .i64 b, .int .i64 c] w fun e w' => e = .returned (.int .i64 v) ∧ Ch No w w' := by
  have HD := Lib.hid (does_val op hop b c v hb hc hE w hg)
  clear hE hg
  go_enter Tryd.func17, Tryd.ntmps17
  go_wp2_with (go_at_call 21; refine HD.out.mono ?_; rintro e w1 ⟨rfl, hc1⟩; have HC1 := Lib.hid hc1; clear hc1)
  go_ret
  exact ⟨rfl, HC1.out⟩
theorem in_small (n : Int) (h0 : -1000 ≤ n) (h1 : n ≤ 1000) : In64 n := by unfold In64; omega
theorem known_calls (w : World) (hg : Glob w) : Calls Tryd.prog 18 #[] w fun e w' => e = .returned (.bool true) ∧ Ch No w w' := by
  have H7 := Lib.hid (fun (W : World) (h : Glob W) => sure_val 7 (by omega) 7 5 12 (in_small _ (by omega) (by omega)) (in_small _ (by omega) (by omega)) (by rw [stepD_7]; rfl) W h)
  have H8 := Lib.hid (fun (W : World) (h : Glob W) => sure_val 8 (by omega) 7 5 2 (in_small _ (by omega) (by omega)) (in_small _ (by omega) (by omega)) (by rw [stepD_8]; rfl) W h)
  have H9 := Lib.hid (fun (W : World) (h : Glob W) => sure_val 9 (by omega) 7 5 35 (in_small _ (by omega) (by omega)) (in_small _ (by omega) (by omega)) (by rw [stepD_9]; rfl) W h)
  have HG := Lib.hid hg
  clear hg
  go_enter Tryd.func18, Tryd.ntmps18
  go_wp2_with (fail)
  refine (H7.out _ HG.out).mono ?_
  rintro e w1 ⟨rfl, hc1⟩
  have HG1 := Lib.hid (HG.out.keep hc1 (not_no _))
  have HC1 := Lib.hid hc1
  clear hc1
  go_wp2_with (fail)
  refine (H8.out _ HG1.out).mono ?_
  rintro e w2 ⟨rfl, hc2⟩
  have HG2 := Lib.hid (HG1.out.keep hc2 (not_no _))
  have HC2 := Lib.hid (HC1.out.then_ hc2)
  clear hc2
  go_wp2_with (fail)
  refine (H9.out _ HG2.out).mono ?_
  rintro e w3 ⟨rfl, hc3⟩
  have HC3 := Lib.hid (HC2.out.then_ hc3)
  clear hc3
  go_wp2_with (fail)
  go_ret
  exact ⟨rfl, HC3.out⟩
end Go.Proofs.YtellmlffkgfeiaaDoor
