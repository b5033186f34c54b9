/- The leaves of package cpu's table: what each reckons. -/
import Derived.Test.YtellmlffkgfeiaaDoorProg
import Derived.Test.YtellmlffkgfeiaaDoorC0
import Derived.WalkKit
set_option linter.unusedVariables false
set_option linter.unusedSimpArgs false
namespace Go.Proofs.YtellmlffkgfeiaaDoor
open Go.RowKit
theorem ret_i64 {a b : Int} (h : a = b) : Ending.returned (.int .i64 a) = .returned (.int .i64 b) := by rw [h]
theorem flag_54 (b : Bool) (w : World) : Calls Tryd.prog 54 #[.bool b] w fun e w' => e = .returned (.int .i64 (if b then 1 else 0)) ∧ w = w' := by
  cases b
  all_goals
    go_enter Tryd.func54, Tryd.ntmps54
    go_wp2
    go_ret
    exact ⟨rfl, rfl⟩
theorem leaf_38 (b c : Int) (w : World) : Calls Tryd.prog 38 #[.int .i64 b, .int .i64 c] w fun e w' => e = .returned (.int .i64 ((fun b _ => b) b c)) ∧ w = w' := by
  go_enter Tryd.func38, Tryd.ntmps38
  go_wp2
  go_ret
  exact ⟨ret_i64 (rfl), rfl⟩
theorem leaf_42 (b c : Int) (w : World) : Calls Tryd.prog 42 #[.int .i64 b, .int .i64 c] w fun e w' => e = .returned (.int .i64 (Fadd b c)) ∧ w = w' := by
  go_enter Tryd.func42, Tryd.ntmps42
  go_wp2
  go_ret
  exact ⟨ret_i64 (add_is b c), rfl⟩
theorem leaf_43 (b c : Int) (w : World) : Calls Tryd.prog 43 #[.int .i64 b, .int .i64 c] w fun e w' => e = .returned (.int .i64 (Fsub b c)) ∧ w = w' := by
  go_enter Tryd.func43, Tryd.ntmps43
  go_wp2
  go_ret
  exact ⟨ret_i64 (sub_is b c), rfl⟩
theorem leaf_44 (b c : Int) (w : World) : Calls Tryd.prog 44 #[.int .i64 b, .int .i64 c] w fun e w' => e = .returned (.int .i64 (Fmul b c)) ∧ w = w' := by
  go_enter Tryd.func44, Tryd.ntmps44
  go_wp2
  go_ret
  exact ⟨ret_i64 (mul_is b c), rfl⟩
theorem leaf_46 (b c : Int) (w : World) : Calls Tryd.prog 46 #[.int .i64 b, .int .i64 c] w fun e w' => e = .returned (.int .i64 (Fand b c)) ∧ w = w' := by
  go_enter Tryd.func46, Tryd.ntmps46
  go_wp2
  go_ret
  exact ⟨ret_i64 (and_is b c), rfl⟩
theorem leaf_47 (b c : Int) (w : World) : Calls Tryd.prog 47 #[.int .i64 b, .int .i64 c] w fun e w' => e = .returned (.int .i64 (For b c)) ∧ w = w' := by
  go_enter Tryd.func47, Tryd.ntmps47
  go_wp2
  go_ret
  exact ⟨ret_i64 (or_is b c), rfl⟩
theorem leaf_48 (b c : Int) (w : World) : Calls Tryd.prog 48 #[.int .i64 b, .int .i64 c] w fun e w' => e = .returned (.int .i64 (Fxor b c)) ∧ w = w' := by
  go_enter Tryd.func48, Tryd.ntmps48
  go_wp2
  go_ret
  exact ⟨ret_i64 (xor_is b c), rfl⟩
theorem leaf_49 (b c : Int) (w : World) : Calls Tryd.prog 49 #[.int .i64 b, .int .i64 c] w fun e w' => e = .returned (.int .i64 (Fshl b c)) ∧ w = w' := by
  have hs := run_shl (P := Tryd.prog) b c
  go_enter Tryd.func49, Tryd.ntmps49
  go_wp2
  go_ret
  exact ⟨ret_i64 (rfl), rfl⟩
theorem leaf_50 (b c : Int) (w : World) : Calls Tryd.prog 50 #[.int .i64 b, .int .i64 c] w fun e w' => e = .returned (.int .i64 (Fshr b c)) ∧ w = w' := by
  have hs := run_shr (P := Tryd.prog) b c
  go_enter Tryd.func50, Tryd.ntmps50
  go_wp2
  go_ret
  exact ⟨ret_i64 (by have := shr_is b c; rw [i64_wrap, bv_toInt] at this; simpa using this), rfl⟩
theorem leaf_51 (b c : Int) (w : World) : Calls Tryd.prog 51 #[.int .i64 b, .int .i64 c] w fun e w' => e = .returned (.int .i64 (Fsar b c)) ∧ w = w' := by
  have hs := run_sar (P := Tryd.prog) b c
  go_enter Tryd.func51, Tryd.ntmps51
  go_wp2
  go_ret
  exact ⟨ret_i64 (rfl), rfl⟩
theorem leaf_52 (b c : Int) (w : World) : Calls Tryd.prog 52 #[.int .i64 b, .int .i64 c] w fun e w' => e = .returned (.int .i64 (Fadd b c)) ∧ w = w' := by
  go_enter Tryd.func52, Tryd.ntmps52
  go_wp2
  go_ret
  exact ⟨ret_i64 (add_is b c), rfl⟩
theorem leaf_53 (b c : Int) (w : World) : Calls Tryd.prog 53 #[.int .i64 b, .int .i64 c] w fun e w' => e = .returned (.int .i64 (Fslt b c)) ∧ w = w' := by
  go_enter Tryd.func53, Tryd.ntmps53
  go_wp2_with (go_at_call 54; refine (flag_54 _ _).mono ?_; rintro e w1 ⟨rfl, rfl⟩)
  all_goals go_ret
  all_goals exact ⟨ret_i64 (by simp [Fslt]; omega), rfl⟩
theorem leaf_56 (b c : Int) (w : World) : Calls Tryd.prog 56 #[.int .i64 b, .int .i64 c] w fun e w' => e = .returned (.int .i64 (Fseq b c)) ∧ w = w' := by
  go_enter Tryd.func56, Tryd.ntmps56
  go_wp2_with (go_at_call 54; refine (flag_54 _ _).mono ?_; rintro e w1 ⟨rfl, rfl⟩)
  all_goals go_ret
  all_goals exact ⟨ret_i64 (by simp_all [Fseq]), rfl⟩
theorem leaf_55 (b c : Int) (w : World) : Calls Tryd.prog 55 #[.int .i64 b, .int .i64 c] w fun e w' => e = .returned (.int .i64 (Fsltu b c)) ∧ w = w' := by
  go_enter Tryd.func55, Tryd.ntmps55
  go_wp2_with (go_at_call 54; refine (flag_54 _ _).mono ?_; rintro e w1 ⟨rfl, rfl⟩)
  all_goals go_ret
  all_goals exact ⟨ret_i64 (by simp [Fsltu]; rw [u64_wrap, u64_wrap] at *; omega), rfl⟩
theorem leaf_58 (a : Int) (w : World) : Calls Tryd.prog 58 #[.int .i64 a] w fun e w' => e = .returned (.bool (true)) ∧ w = w' := by
  go_enter Tryd.func58, Tryd.ntmps58
  go_wp2
  go_ret
  exact ⟨rfl, rfl⟩
theorem leaf_59 (a : Int) (w : World) : Calls Tryd.prog 59 #[.int .i64 a] w fun e w' => e = .returned (.bool (a == 0)) ∧ w = w' := by
  go_enter Tryd.func59, Tryd.ntmps59
  go_wp2
  go_ret
  exact ⟨rfl, rfl⟩
theorem leaf_60 (a : Int) (w : World) : Calls Tryd.prog 60 #[.int .i64 a] w fun e w' => e = .returned (.bool (a != 0)) ∧ w = w' := by
  go_enter Tryd.func60, Tryd.ntmps60
  go_wp2
  go_ret
  exact ⟨rfl, rfl⟩
end Go.Proofs.YtellmlffkgfeiaaDoor
