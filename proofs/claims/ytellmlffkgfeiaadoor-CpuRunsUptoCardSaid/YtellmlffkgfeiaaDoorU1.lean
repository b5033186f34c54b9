/- slices.Clone at []int64; results of several parts. -/
import Derived.Test.YtellmlffkgfeiaaDoorHA
set_option linter.unusedVariables false
set_option linter.unusedSimpArgs false
namespace Go.Proofs.YtellmlffkgfeiaaDoor
open Go.RowKit
/-- a result that lies in a block, and two more -/
theorem results_row3 {P : Program} {fn : Func} {p a b : Tmp} {ty : TypeId} (h : fn.results = #[.cell p ty, .tmp a, .tmp b]) (tmps : Array Value) (w : World) (g : Nat) (t : TypeId) (L : List Value) (d : TypeDesc)
    (hp : tmps.getD p undef = .pointer (some ⟨g, 0, none⟩)) (hr : Row w g t L)
    (hu : P.underlying ty = some d) (hd : (match d with | .struct _ | .array _ _ => true | _ => false) = true) (hi : (P.info? ty).map (·.size) = some L.length) (x y : Value) (hx : tmps.getD a undef = x) (hy : tmps.getD b undef = y) :
    (results fn tmps).run P w = .ok (.tuple #[.agg L.toArray, x, y]) w := by
  subst hx
  subst hy
  have hp' : tmps[p]?.getD undef = .pointer (some ⟨g, 0, none⟩) := by simpa using hp
  have h1 := run_loadVar_row w g t ty L.toArray (0, 0) d hr hu hd (by simpa using hi)
  simp [results, h, hp', asAddr, h1]
set_option maxHeartbeats 2000000 in
theorem clone_calls (A : Option Addr) (xs : List Int) (cap : Nat) (hl : xs.length * 8 ≤ 140737488355328) (w : World) (hx : Cl w A (ints xs)) :
    Calls Tryd.prog 33 #[.slice A xs.length cap] w fun e w' => ∃ v', e = .returned v' ∧ w'.ownsRow w.heap.size 2 1 v' (ints xs).length (ints xs) ∧ Ch No w w' := by
  cases A with
  | none =>
    have h0 : xs = [] := by
      cases xs with
      | nil => rfl
      | cons x xs =>
        obtain ⟨ad, e, _⟩ := hx 0 (.int .i64 x) rfl
        cases e
    subst h0
    clear hx hl
    have q22 : ∀ (w : World) (a : Option Addr) (n c n' c' : Nat), (binOp .eql 23 (.slice a n c) (.slice none n' c')).run Tryd.prog w = .ok (.bool a.isNone) w := fun w a n c n' c' => Lib.run_eql_slice_nil w _ _ a n c n' c' Tryd.underlying23
    go_enter Tryd.func33, Tryd.ntmps33
    go_wp2
    go_ret
    exact ⟨_, rfl, owns_nil _ _ _ _, Ch.refl _ _⟩
  | some ad =>
    have HX := Lib.hid hx
    have HL := Lib.hid hl
    clear hx hl
    have q22 : ∀ (w : World) (a : Option Addr) (n c n' c' : Nat), (binOp .eql 23 (.slice a n c) (.slice none n' c')).run Tryd.prog w = .ok (.bool a.isNone) w := fun w a n c n' c' => Lib.run_eql_slice_nil w _ _ a n c n' c' Tryd.underlying23
    have HO : Hid ((w.alloc (.cells #[] 2)).ownsRow w.heap.size 2 1 (.slice (some ⟨w.heap.size, 0, none⟩) 0 0) ([] : List Value).length []) := World.ownsRow_made w #[] 0 (Nat.le_refl _) (Nat.zero_le _) rfl
    have HB : Hid (([] : List Value).length + (ints xs).length ≤ 140737488355328 ∧ (([] : List Value).length + (ints xs).length) * 8 ≤ 140737488355328) := by
      show _ ∧ _
      have := HL.out
      rw [ints_length]
      simp
      omega
    go_enter Tryd.func33, Tryd.ntmps33
    go_wp2_with (at_builtin; refine wpList_append_to rfl (.tmp 5) (.tmp 6) 23 rfl w.heap.size 2 (.int .i64 0) 8 Tryd.underlying23 info2 rfl _ [] rfl _ _ _ (ints xs) rfl HO.out (ints_length _) (HX.out.keepNo ((Ch.refl No w).alloc _)) (ints_one _) (by have := HB.out.2; rw [ints_length] at this; exact this) (by omega) (by simp) ?_; intro v1 w1 ho1 hg1 hat1; have HO1 := Lib.hid ho1; have HC1 : Hid (Ch No w w1) := grown_no (Nat.le_refl _) HO.out hg1 ((Ch.refl No w).alloc _); clear ho1 hg1 hat1)
    go_ret
    exact ⟨_, rfl, by simpa using HO1.out, HC1.out⟩
end Go.Proofs.YtellmlffkgfeiaaDoor
