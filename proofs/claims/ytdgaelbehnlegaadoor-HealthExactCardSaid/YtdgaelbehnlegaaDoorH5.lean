/- HealthKeeps: the walk. -/
import Derived.Test.YtdgaelbehnlegaaDoorH4
set_option linter.unusedVariables false
set_option linter.unusedSimpArgs false
namespace Go.Proofs.YtdgaelbehnlegaaDoor
open Go.RowKit

/-- Judge, in one sentence -/
theorem judge_all (k p : Int) (busy : Bool) (pc : List Value) (A : Option Addr) (n c : Nat) (h : Int) (T : Nat → Int) (w : World) (hn : n ≤ 1000) (hp : PartOf pc A n c h T) (hg : Glob w) :
    Calls Tryd.prog 6 #[.agg pc.toArray, .int .i64 k, .int .i64 p, .bool busy] w fun e w' => e = .returned (.agg (two (judA k p n busy h (T k.toNat)) (judP k p n busy h (T k.toNat))).toArray) ∧ Ch No w w' := by
  by_cases hb : k < 1 ∨ 7 < k ∨ p < 1 ∨ n < p
  · rw [judA, judP, if_pos hb, if_pos hb]
    exact judge_bad k p busy pc A n c h T w hn hp hg hb
  · rw [judA, judP, if_neg hb, if_neg hb]
    by_cases he : p = hnd h n
    · rw [if_pos he, if_pos he]
      exact judge_hand k p busy pc A n c h T w hn hp hg (by omega) (by omega) (by omega) (by omega) he
    · rw [if_neg he, if_neg he]
      obtain ⟨j, rfl⟩ : ∃ j : Nat, k = (j : Int) := ⟨k.toNat, by omega⟩
      exact judge_ok j p busy pc A n c h T w hn hp hg (by omega) (by omega) (by omega) (by omega) he

/-- the laws of a verdict within the partition -/
structure Verd (A P k p h : Int) (n : Nat) (busy : Bool) (a : Int) : Prop where
  k1 : 1 ≤ k
  k7 : k ≤ 7
  p1 : 1 ≤ p
  pn : p ≤ n
  A0 : 0 ≤ A
  A5 : A ≤ 5
  three : A = 3 → 1 ≤ h ∧ h ≤ n ∧ busy = false ∧ P = h ∧ p ≠ h
  ends : A = 4 ∨ A = 5 → P = 0
  on : A = 0 ∨ A = 1 ∨ A = 2 → P = p
  code : A = 0 → k ≠ 4
  hand : 1 ≤ h → h ≤ n → p = h → A = 4
  plain : ¬ (1 ≤ h ∧ h ≤ n ∧ p = h) → 0 ≤ a → a ≤ 5 → a ≠ 3 → (a ≠ 0 ∨ k ≠ 4) → A = a
theorem verd_jud (k p h : Int) (n : Nat) (busy : Bool) (a : Int) (hb : ¬ (k < 1 ∨ 7 < k ∨ p < 1 ∨ (n : Int) < p)) : Verd (judA k p n busy h a) (judP k p n busy h a) k p h n busy a := by
  rw [judA, judP, if_neg hb, if_neg hb]
  by_cases he : p = hnd h n
  · rw [if_pos he, if_pos he]
    have : p = h ∧ 1 ≤ h ∧ h ≤ n := by
      unfold hnd at he
      split at he <;> omega
    refine ⟨by omega, by omega, by omega, by omega, by omega, by omega, by omega, fun _ => rfl, by omega, by omega, fun _ _ _ => rfl, fun hh => by omega⟩
  · rw [if_neg he, if_neg he]
    have hh : (hnd h n = 0 ∨ (hnd h n = h ∧ 1 ≤ h ∧ h ≤ n)) ∧ (1 ≤ h → h ≤ n → hnd h n = h) := by
      unfold hnd
      constructor
      · split <;> omega
      · intro h1 h2
        rw [if_neg (by omega)]
    generalize hnd h n = hd at *
    obtain ⟨h1, h2⟩ := hh
    have hhand : 1 ≤ h → h ≤ n → p ≠ h := fun x y => by have := h2 x y; omega
    unfold act
    by_cases c1 : a < 0 ∨ 5 < a
    · rw [if_pos c1]
      simp only [show ¬ (1 : Int) = 3 from by decide, show ¬ ((1 : Int) = 4 ∨ (1 : Int) = 5) from by decide, if_false]
      exact ⟨by omega, by omega, by omega, by omega, by omega, by omega, by omega, by omega, fun _ => rfl, by omega, fun x y z => absurd z (hhand x y), by omega⟩
    · rw [if_neg c1]
      by_cases c3 : a = 3
      · rw [if_pos c3]
        by_cases c0 : hd = 0
        · rw [if_pos c0]
          simp only [show ¬ (1 : Int) = 3 from by decide, show ¬ ((1 : Int) = 4 ∨ (1 : Int) = 5) from by decide, if_false]
          exact ⟨by omega, by omega, by omega, by omega, by omega, by omega, by omega, by omega, fun _ => rfl, by omega, fun x y z => absurd z (hhand x y), by omega⟩
        · rw [if_neg c0]
          by_cases cb : busy = false
          · rw [if_pos cb]
            simp only [if_true]
            exact ⟨by omega, by omega, by omega, by omega, by omega, by omega, fun _ => ⟨by omega, by omega, cb, by omega, by omega⟩, by omega, by omega, by omega, fun x y z => absurd z (hhand x y), by omega⟩
          · rw [if_neg cb]
            by_cases c4 : k = 4
            · rw [if_pos c4]
              simp only [show ¬ (1 : Int) = 3 from by decide, show ¬ ((1 : Int) = 4 ∨ (1 : Int) = 5) from by decide, if_false]
              exact ⟨by omega, by omega, by omega, by omega, by omega, by omega, by omega, by omega, fun _ => rfl, by omega, fun x y z => absurd z (hhand x y), by omega⟩
            · rw [if_neg c4]
              simp only [show ¬ (0 : Int) = 3 from by decide, show ¬ ((0 : Int) = 4 ∨ (0 : Int) = 5) from by decide, if_false]
              exact ⟨by omega, by omega, by omega, by omega, by omega, by omega, by omega, by omega, fun _ => rfl, fun _ => c4, fun x y z => absurd z (hhand x y), by omega⟩
      · rw [if_neg c3]
        by_cases c04 : a = 0 ∧ k = 4
        · rw [if_pos c04]
          simp only [show ¬ (1 : Int) = 3 from by decide, show ¬ ((1 : Int) = 4 ∨ (1 : Int) = 5) from by decide, if_false]
          exact ⟨by omega, by omega, by omega, by omega, by omega, by omega, by omega, by omega, fun _ => rfl, by omega, fun x y z => absurd z (hhand x y), by omega⟩
        · rw [if_neg c04, if_neg c3]
          by_cases c45 : a = 4 ∨ a = 5
          · rw [if_pos c45]
            exact ⟨by omega, by omega, by omega, by omega, by omega, by omega, by omega, fun _ => rfl, by omega, by omega, fun x y z => absurd z (hhand x y), fun _ _ _ _ _ => rfl⟩
          · rw [if_neg c45]
            exact ⟨by omega, by omega, by omega, by omega, by omega, by omega, by omega, fun x => absurd x c45, fun _ => rfl, by omega, fun x y z => absurd z (hhand x y), fun _ _ _ _ _ => rfl⟩
end Go.Proofs.YtdgaelbehnlegaaDoor
