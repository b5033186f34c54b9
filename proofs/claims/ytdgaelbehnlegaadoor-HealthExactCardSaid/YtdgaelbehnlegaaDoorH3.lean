/- health.Goes, Args, Valid: what each answers. -/
import Derived.Test.YtdgaelbehnlegaaDoorH2
set_option linter.unusedVariables false
set_option linter.unusedSimpArgs false
namespace Go.Proofs.YtdgaelbehnlegaaDoor
open Go.RowKit

theorem goes_bad (a p q : Int) (w : World) (h : a < 0 ∨ 5 < a) : Calls Tryd.prog 8 #[.agg (two a p).toArray, .int .i64 q] w fun e w' => e = .returned (.tuple #[.bool false, .bool false]) ∧ Ch No w w' := by
  have H := Lib.hid h
  clear h
  unfold two
  go_enter Tryd.func8, Tryd.ntmps8
  go_wp2_with (go_at_call 19; refine (isAction_no _ _ H.out).mono ?_; rintro e w' ⟨rfl, rfl⟩)
  go_ret2
  exact ⟨rfl, (by repeat (first | exact Ch.refl _ _ | assumption | apply Ch.alloc | apply Ch.drewN | apply Ch.drew))⟩

theorem goes_ok (a p q : Int) (w : World) (h0 : 0 ≤ a) (h5 : a ≤ 5) : Calls Tryd.prog 8 #[.agg (two a p).toArray, .int .i64 q] w fun e w' => e = .returned (.tuple #[.bool (!(a == 4 || a == 5) && !((a == 1 && p == q) || (a == 2 && p == q))), .bool (a == 4 || a == 5)]) ∧ Ch No w w' := by
  unfold two
  go_enter Tryd.func8, Tryd.ntmps8
  go_wp2_with (go_at_call 19; refine (isAction_yes _ _ h0 h5).mono ?_; rintro e w' ⟨rfl, rfl⟩)
  all_goals go_ret2
  all_goals refine ⟨?_, (by repeat (first | exact Ch.refl _ _ | assumption | apply Ch.alloc | apply Ch.drewN | apply Ch.drew))⟩
  all_goals simp_all

theorem args_calls (k p c : Int) (w : World) : Calls Tryd.prog 7 #[.int .i64 k, .int .i64 p, .int .i64 c] w fun e w' => e = .returned (.agg #[.int .i64 k, .int .i64 p, .int .i64 (if k = 7 then -1 else c)]) ∧ Ch No w w' := by
  by_cases h : k = 7
  · subst h
    go_enter Tryd.func7, Tryd.ntmps7
    go_wp2
    refine bodyPost_ret (v := .agg #[.int .i64 7, .int .i64 p, .int .i64 (-1)]) (by simp [results, Tryd.results7, go_sem]) rfl ⟨rfl, (by repeat (first | exact Ch.refl _ _ | assumption | apply Ch.alloc | apply Ch.drewN | apply Ch.drew))⟩
  · have b : (k == 7) = false := by simpa using h
    rw [if_neg h]
    clear h
    go_enter Tryd.func7, Tryd.ntmps7
    go_wp2
    refine bodyPost_ret (v := .agg #[.int .i64 k, .int .i64 p, .int .i64 c]) (by simp [results, Tryd.results7, go_sem]) rfl ⟨rfl, (by repeat (first | exact Ch.refl _ _ | assumption | apply Ch.alloc | apply Ch.drewN | apply Ch.drew))⟩
end Go.Proofs.YtdgaelbehnlegaaDoor
