/- slices.IndexFunc over pairs. -/
import Derived.Test.YtbcnkggecgblbaaProg
import Derived.Test.YtbcnkggecgblbaaK
import Derived.Test.YtbcnkggecgblbaaP
import Derived.LoopTactic
import Derived.Deep.DeepCutAuto
set_option linter.unusedVariables false
set_option linter.unusedSimpArgs false
namespace Go.Proofs.Ytbcnkggecgblbaa
open Go.RowKit
/-- pairs as cells -/
def prs (L : List (Int × Int)) : List Value := L.flatMap fun x => [.int .i64 x.1, .int .i64 x.2]
theorem prs_length (L : List (Int × Int)) : (prs L).length = L.length * 2 := by
  induction L with
  | nil => rfl
  | cons x L ih => simp only [prs, List.flatMap_cons, List.length_append, List.length_cons] at ih ⊢; rw [ih]; simp; omega
theorem prs_append (L M : List (Int × Int)) : prs (L ++ M) = prs L ++ prs M := by simp [prs]
/-- the closure that asks for a number -/
theorem isid_calls (x y id : Int) (c : Nat) (w : World) (hc : w.cell? ⟨c, 0, none⟩ = some (.int .i64 id)) :
    Calls Try.prog 35 #[.agg #[.int .i64 x, .int .i64 y], .pointer (some ⟨c, 0, none⟩)] w fun e w' => e = .returned (.bool (x == id)) ∧ Ch No w w' := by
  have hlt : c < w.heap.size := World.block_lt_of_cell? w _ hc
  go_enter Try.func35, Try.ntmps35
  go_wp2
  go_ret
  exact ⟨by simp, (Ch.refl _ _).alloc _⟩
/-- the closure that asks for a lower priority -/
theorem islow_calls (x y pri : Int) (c : Nat) (w : World) (hc : w.cell? ⟨c, 0, none⟩ = some (.int .i64 pri)) :
    Calls Try.prog 28 #[.agg #[.int .i64 x, .int .i64 y], .pointer (some ⟨c, 0, none⟩)] w fun e w' => e = .returned (.bool (decide (y < pri))) ∧ Ch No w w' := by
  have hlt : c < w.heap.size := World.block_lt_of_cell? w _ hc
  go_enter Try.func28, Try.ntmps28
  go_wp2
  go_ret
  exact ⟨by simp, (Ch.refl _ _).alloc _⟩
/-- where the first lies that is meant -/
def idx (D : Int × Int → Bool) (L : List (Int × Int)) : Int := match L.findIdx? D with | some i => (i : Int) | none => -1
theorem size62 : (Try.prog.info? 62).map (·.size) = some 2 := by kernel_rfl

theorem prs_get (L : List (Int × Int)) (j : Nat) (x : Int × Int) (h : L[j]? = some x) (q : Nat) (hq : q < 2) : (prs L)[j * 2 + q]? = [Value.int .i64 x.1, .int .i64 x.2][q]? := by
  induction L generalizing j with
  | nil => simp at h
  | cons y L ih =>
    have e : prs (y :: L) = [Value.int .i64 y.1, .int .i64 y.2] ++ prs L := rfl
    rw [e]
    cases j with
    | zero =>
      obtain rfl : y = x := by simpa using h
      rw [Nat.zero_mul, Nat.zero_add, List.getElem?_append_left (by simpa using hq)]
    | succ j =>
      rw [List.getElem?_append_right (by simp; omega)]
      have := ih j (by simpa using h)
      rw [← this]
      congr 1
      simp
      omega
theorem prs_range {w : World} {g o : Nat} {L : List (Int × Int)} (h : w.rangeAt g o (prs L)) (j : Nat) (x : Int × Int) (hx : L[j]? = some x) : w.rangeAt g (o + j * 2) [.int .i64 x.1, .int .i64 x.2] := fun q v hq => by
  have hlt : q < 2 := (List.getElem?_eq_some_iff.1 hq).1
  have := h (j * 2 + q) v (by rw [prs_get L j x hx q hlt]; exact hq)
  rwa [← Nat.add_assoc] at this
theorem range_keep {w w' : World} {g o : Nat} {cs : List Value} (h : w.rangeAt g o cs) (hc : Ch No w w') : w'.rangeAt g o cs := fun q v hq => hc.cell (not_no _) (h q v hq)

set_option maxHeartbeats 4000000 in
theorem indexfunc_28 (c : Nat) (D : Int × Int → Bool) (L : List (Int × Int)) (g o n cap : Nat) (w : World) (hn : n = L.length) (hb : L.length ≤ 1000000) (hr : w.rangeAt g o (prs L))
    (hf : ∀ w' x, Ch No w w' → Calls Try.prog 28 #[.agg #[.int .i64 x.1, .int .i64 x.2], .pointer (some ⟨c, 0, none⟩)] w' fun e w'' => e = .returned (.bool (D x)) ∧ Ch No w' w'') :
    Calls Try.prog 27 #[.slice (some ⟨g, o, none⟩) n cap, .func (.func 28) #[] #[.pointer (some ⟨c, 0, none⟩)]] w fun e w' => e = .returned (.int .i64 (idx D L)) ∧ Ch No w w' := by
  have HR := Lib.hid hr
  have HF := Lib.hid hf
  have HN := Lib.hid hn
  have hb2 : n ≤ 1000000 := by omega
  clear hr hf hn hb
  go_enter Try.func27, Try.ntmps27
  go_wp2_with (fail)
  go_loopw [8] (fun i wr => ∃ j : Nat, j ≤ n ∧ i = .int .i64 j ∧ Hid (Ch No w wr) ∧ Hid (∀ q x, q < j → L[q]? = some x → D x = false)) (fun i _ => n - (intOf i).toNat)
  case atStart => exact ⟨0, by omega, rfl, Ch.refl _ _, fun q x hq => absurd hq (by omega)⟩
  case round =>
    obtain ⟨j, hj, rfl, HC, HD⟩ := hrel
    by_cases hlt : j < n
    · have d0 : decide ((j : Int) < (n : Int)) = true := by simpa using hlt
      obtain ⟨x, hx⟩ : ∃ x, L[j]? = some x := ⟨L[j]'(by rw [← HN.out]; exact hlt), List.getElem?_eq_getElem _⟩
      have HX := Lib.hid hx
      have HRX := Lib.hid (prs_range (range_keep HR.out HC.out) j x hx)
      clear hx
      go_wp2_with ((with_reducible refine at_op (o := ⟨some 15, .load 62 (.tmp 14), _, _, _, _⟩) ?_); refine gd_load_mid rfl 62 (.tmp 14) rfl g (o + j * 2) rfl [.int .i64 x.1, .int .i64 x.2] _ HRX.out Try.underlying62 rfl size62 ?_)
      refine (HF.out wr x HC.out).mono ?_
      rintro e w2 ⟨rfl, hch⟩
      have HC2 := Lib.hid (HC.out.then_ hch)
      clear hch
      cases hD : D x
      · have HD' : Hid (∀ q y, q < j + 1 → L[q]? = some y → D y = false) := fun q y hq hy => by
          by_cases e : q = j
          · subst e
            obtain rfl : x = y := Option.some.inj (HX.out.symm.trans hy)
            exact hD
          · exact HD.out q y (by omega) hy
        go_wp2_with (fail)
        go_roundw
        · exact ⟨j + 1, by omega, by go_num, HC2, HD'⟩
        · simp [intOf]; omega
      · have e : idx D L = (j : Int) := by
          unfold idx
          rw [List.findIdx?_eq_some_iff_getElem.2 ⟨by rw [← HN.out]; exact hlt, by
            have := HX.out
            rw [List.getElem?_eq_some_iff] at this
            obtain ⟨_, h2⟩ := this
            rw [h2]; exact hD, fun q hq => by
            have h3 := HD.out q _ hq (List.getElem?_eq_getElem (by rw [← HN.out]; omega))
            rw [h3]; simp⟩]
        have HE := Lib.hid e
        clear e
        go_wp2_with (fail)
        go_ret
        exact ⟨by rw [HE.out]; rfl, HC2.out⟩
    · obtain rfl : j = n := by omega
      have d0 : decide ((j : Int) < (j : Int)) = false := by simp
      have e : idx D L = -1 := by
        unfold idx
        rw [List.findIdx?_eq_none_iff.2 (fun y hy => by
          obtain ⟨q, hq⟩ := List.getElem?_of_mem hy
          exact HD.out q y (by rw [HN.out]; exact (List.getElem?_eq_some_iff.1 hq).1) hq)]
      have HE := Lib.hid e
      clear e
      go_wp2_with (fail)
      go_ret
      exact ⟨by rw [HE.out]; rfl, HC.out⟩

set_option maxHeartbeats 4000000 in
theorem indexfunc_35 (c : Nat) (D : Int × Int → Bool) (L : List (Int × Int)) (g o n cap : Nat) (w : World) (hn : n = L.length) (hb : L.length ≤ 1000000) (hr : w.rangeAt g o (prs L))
    (hf : ∀ w' x, Ch No w w' → Calls Try.prog 35 #[.agg #[.int .i64 x.1, .int .i64 x.2], .pointer (some ⟨c, 0, none⟩)] w' fun e w'' => e = .returned (.bool (D x)) ∧ Ch No w' w'') :
    Calls Try.prog 27 #[.slice (some ⟨g, o, none⟩) n cap, .func (.func 35) #[] #[.pointer (some ⟨c, 0, none⟩)]] w fun e w' => e = .returned (.int .i64 (idx D L)) ∧ Ch No w w' := by
  have HR := Lib.hid hr
  have HF := Lib.hid hf
  have HN := Lib.hid hn
  have hb2 : n ≤ 1000000 := by omega
  clear hr hf hn hb
  go_enter Try.func27, Try.ntmps27
  go_wp2_with (fail)
  go_loopw [8] (fun i wr => ∃ j : Nat, j ≤ n ∧ i = .int .i64 j ∧ Hid (Ch No w wr) ∧ Hid (∀ q x, q < j → L[q]? = some x → D x = false)) (fun i _ => n - (intOf i).toNat)
  case atStart => exact ⟨0, by omega, rfl, Ch.refl _ _, fun q x hq => absurd hq (by omega)⟩
  case round =>
    obtain ⟨j, hj, rfl, HC, HD⟩ := hrel
    by_cases hlt : j < n
    · have d0 : decide ((j : Int) < (n : Int)) = true := by simpa using hlt
      obtain ⟨x, hx⟩ : ∃ x, L[j]? = some x := ⟨L[j]'(by rw [← HN.out]; exact hlt), List.getElem?_eq_getElem _⟩
      have HX := Lib.hid hx
      have HRX := Lib.hid (prs_range (range_keep HR.out HC.out) j x hx)
      clear hx
      go_wp2_with ((with_reducible refine at_op (o := ⟨some 15, .load 62 (.tmp 14), _, _, _, _⟩) ?_); refine gd_load_mid rfl 62 (.tmp 14) rfl g (o + j * 2) rfl [.int .i64 x.1, .int .i64 x.2] _ HRX.out Try.underlying62 rfl size62 ?_)
      refine (HF.out wr x HC.out).mono ?_
      rintro e w2 ⟨rfl, hch⟩
      have HC2 := Lib.hid (HC.out.then_ hch)
      clear hch
      cases hD : D x
      · have HD' : Hid (∀ q y, q < j + 1 → L[q]? = some y → D y = false) := fun q y hq hy => by
          by_cases e : q = j
          · subst e
            obtain rfl : x = y := Option.some.inj (HX.out.symm.trans hy)
            exact hD
          · exact HD.out q y (by omega) hy
        go_wp2_with (fail)
        go_roundw
        · exact ⟨j + 1, by omega, by go_num, HC2, HD'⟩
        · simp [intOf]; omega
      · have e : idx D L = (j : Int) := by
          unfold idx
          rw [List.findIdx?_eq_some_iff_getElem.2 ⟨by rw [← HN.out]; exact hlt, by
            have := HX.out
            rw [List.getElem?_eq_some_iff] at this
            obtain ⟨_, h2⟩ := this
            rw [h2]; exact hD, fun q hq => by
            have h3 := HD.out q _ hq (List.getElem?_eq_getElem (by rw [← HN.out]; omega))
            rw [h3]; simp⟩]
        have HE := Lib.hid e
        clear e
        go_wp2_with (fail)
        go_ret
        exact ⟨by rw [HE.out]; rfl, HC2.out⟩
    · obtain rfl : j = n := by omega
      have d0 : decide ((j : Int) < (j : Int)) = false := by simp
      have e : idx D L = -1 := by
        unfold idx
        rw [List.findIdx?_eq_none_iff.2 (fun y hy => by
          obtain ⟨q, hq⟩ := List.getElem?_of_mem hy
          exact HD.out q y (by rw [HN.out]; exact (List.getElem?_eq_some_iff.1 hq).1) hq)]
      have HE := Lib.hid e
      clear e
      go_wp2_with (fail)
      go_ret
      exact ⟨by rw [HE.out]; rfl, HC.out⟩
end Go.Proofs.Ytbcnkggecgblbaa
