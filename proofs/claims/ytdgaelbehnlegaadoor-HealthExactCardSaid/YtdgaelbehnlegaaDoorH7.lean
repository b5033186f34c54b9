/- The document's answers: Handler, Goes, Name, Args. -/
import Derived.Test.YtdgaelbehnlegaaDoorH5
import Derived.LoopTactic
set_option linter.unusedVariables false
set_option linter.unusedSimpArgs false
namespace Go.Proofs.YtdgaelbehnlegaaDoor
open Go.RowKit

theorem rhandler_calls (pc : List Value) (A : Option Addr) (n c : Nat) (h : Int) (T : Nat → Int) (w : World) (hn : n ≤ 1000) (hp : PartOf pc A n c h T) :
    Calls Tryd.prog 20 #[.agg pc.toArray] w fun e w' => e = .returned (.int .i64 (hnd h n)) ∧ Ch No w w' := by
  have p8 := hp.procs
  have p9 := hp.hand
  clear hp
  go_enter Tryd.func20, Tryd.ntmps20
  go_wp2
  all_goals go_ret
  all_goals refine ⟨?_, (by repeat (first | exact Ch.refl _ _ | assumption | apply Ch.alloc | apply Ch.drewN | apply Ch.drew | (refine Ch.setCell ?_ (fun hh => absurd hh (by simp)) _)))⟩
  all_goals (congr 2; unfold hnd; simp; omega)
theorem rgoes_bad (a p q : Int) (w : World) (h : a < 0 ∨ 5 < a) : Calls Tryd.prog 11 #[.agg (two a p).toArray, .int .i64 q] w fun e w' => e = .returned (.tuple #[.bool false, .bool false]) ∧ Ch No w w' := by
  have b0 : (a == 0) = false := by simp; omega
  have b1 : (a == 1) = false := by simp; omega
  have b2 : (a == 2) = false := by simp; omega
  have b3 : (a == 3) = false := by simp; omega
  have b4 : (a == 4) = false := by simp; omega
  have b5 : (a == 5) = false := by simp; omega
  clear h
  unfold two
  go_enter Tryd.func11, Tryd.ntmps11
  go_wp2
  all_goals go_ret2
  all_goals exact ⟨rfl, (by repeat (first | exact Ch.refl _ _ | assumption | apply Ch.alloc | apply Ch.drewN | apply Ch.drew))⟩
theorem rgoes_ok (a p q : Int) (w : World) (h0 : 0 ≤ a) (h5 : a ≤ 5) : Calls Tryd.prog 11 #[.agg (two a p).toArray, .int .i64 q] w fun e w' => e = .returned (.tuple #[.bool (!(a == 4 || a == 5) && !((a == 1 && p == q) || (a == 2 && p == q))), .bool (a == 4 || a == 5)]) ∧ Ch No w w' := by
  have h6 : a = 0 ∨ a = 1 ∨ a = 2 ∨ a = 3 ∨ a = 4 ∨ a = 5 := by omega
  clear h0 h5
  unfold two
  rcases h6 with rfl | rfl | rfl | rfl | rfl | rfl
  all_goals go_enter Tryd.func11, Tryd.ntmps11
  all_goals go_wp2
  all_goals go_ret2
  all_goals refine ⟨?_, (by repeat (first | exact Ch.refl _ _ | assumption | apply Ch.alloc | apply Ch.drewN | apply Ch.drew))⟩
  all_goals simp [bne]
theorem rname_yes (k : Int) (hk : k = 1 ∨ k = 2 ∨ k = 3 ∨ k = 4 ∨ k = 5 ∨ k = 6 ∨ k = 7) (w : World) : Calls Tryd.prog 13 #[.int .i64 k] w fun e w' => e = .returned (.tuple #[.string (nameOf k), .bool true]) ∧ w = w' := by
  rcases hk with rfl | rfl | rfl | rfl | rfl | rfl | rfl
  all_goals go_enter Tryd.func13, Tryd.ntmps13
  all_goals go_wp2
  all_goals go_ret2
  all_goals exact ⟨rfl, rfl⟩
theorem rname_no (k : Int) (hk : k < 1 ∨ 7 < k) (w : World) : Calls Tryd.prog 13 #[.int .i64 k] w fun e w' => e = .returned (.tuple #[.string ⟨#[]⟩, .bool false]) ∧ w = w' := by
  have b1 : (k == 1) = false := by simp; omega
  have b2 : (k == 2) = false := by simp; omega
  have b3 : (k == 3) = false := by simp; omega
  have b4 : (k == 4) = false := by simp; omega
  have b5 : (k == 5) = false := by simp; omega
  have b6 : (k == 6) = false := by simp; omega
  have b7 : (k == 7) = false := by simp; omega
  clear hk
  go_enter Tryd.func13, Tryd.ntmps13
  go_wp2
  all_goals go_ret2
  all_goals exact ⟨rfl, rfl⟩
theorem rargs_calls (k p c : Int) (w : World) : Calls Tryd.prog 16 #[.int .i64 k, .int .i64 p, .int .i64 c] w fun e w' => e = .returned (.agg #[.int .i64 k, .int .i64 p, .int .i64 (if k = 7 then -1 else c)]) ∧ Ch No w w' := by
  by_cases h : k = 7
  · subst h
    go_enter Tryd.func16, Tryd.ntmps16
    go_wp2
    refine bodyPost_ret (v := .agg #[.int .i64 7, .int .i64 p, .int .i64 (-1)]) (by simp [results, Tryd.results16, go_sem]) rfl ⟨rfl, (by repeat (first | exact Ch.refl _ _ | assumption | apply Ch.alloc | apply Ch.drewN | apply Ch.drew | (refine Ch.setCell ?_ (fun hh => absurd hh (by simp)) _)))⟩
  · have b : (k == 7) = false := by simpa using h
    rw [if_neg h]
    clear h
    go_enter Tryd.func16, Tryd.ntmps16
    go_wp2
    refine bodyPost_ret (v := .agg #[.int .i64 k, .int .i64 p, .int .i64 c]) (by simp [results, Tryd.results16, go_sem]) rfl ⟨rfl, (by repeat (first | exact Ch.refl _ _ | assumption | apply Ch.alloc | apply Ch.drewN | apply Ch.drew | (refine Ch.setCell ?_ (fun hh => absurd hh (by simp)) _)))⟩
end Go.Proofs.YtdgaelbehnlegaaDoor
