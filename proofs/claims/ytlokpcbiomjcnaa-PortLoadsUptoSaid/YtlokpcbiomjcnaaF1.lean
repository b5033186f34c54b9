/- left: are the words and the marks as they were? they are written over then. -/
import Derived.Test.YtlokpcbiomjcnaaE20
set_option linter.unusedVariables false
set_option linter.unusedSimpArgs false
namespace Go.Proofs.Ytlokpcbiomjcnaa
open Go.RowKit
theorem rd_marks (xs : List Int) (k : Nat) (h1 : xs.length ≤ k) (h2 : k < xs.length + 70) : rd (xs ++ marks 70) k = -77 := by
  rw [show k = xs.length + (k - xs.length) by omega, rd_right]
  unfold rd marks
  rw [List.getD_eq_getElem?_getD, List.getElem?_replicate]
  rw [if_pos (by omega)]
  rfl
set_option maxHeartbeats 4000000 in
set_option maxRecDepth 100000 in
theorem left_calls {w : World} {g cap n m c : Nat} {B : Option Addr} {xs ys : List Int} {rest : List Value} (hn : n = xs.length) (hm : m = ys.length) (hl : xs.length ≤ 10000000) (hcap : n + 70 ≤ cap) (hcm : cap ≤ maxLen) (hlen : n = m)
    (hr : Row w g 2 (ints (xs ++ marks 70) ++ rest)) (hy : Cl w B (ints ys)) (hB : ∀ ad, B = some ad → ad.block ≠ g) :
    Calls Try.prog 11 #[.slice (some ⟨g, 0, none⟩) n cap, .slice B m c] w fun e w' => e = .returned (.bool (decide (xs = ys))) ∧ Ch (Is g) w w' ∧ ∃ L, Row w' g 2 L ∧ L.length = (ints (xs ++ marks 70) ++ rest).length := by
  have HR := Lib.hid hr
  have HN := Lib.hid hn
  have HSX : Hid (Sl w (.slice (some ⟨g, 0, none⟩) n cap) xs) := by
    refine ⟨_, cap, by rw [hn], ?_, by omega⟩
    have h1 := hr
    rw [ints_append, List.append_assoc] at h1
    exact row_cl h1
  have HSY : Hid (Sl w (.slice B m c) ys) := ⟨B, c, by rw [hm], hy, by omega⟩
  have HSAME := Lib.hid (same_calls HSX.out HSY.out)
  have hn6 : n ≤ 10000000 := by omega
  have hc63 : cap ≤ 9223372036854775807 := by unfold maxLen at hcm; omega
  subst hlen
  clear hr hy hn hm hB hl hcm
  generalize decide (xs = ys) = bb at *
  go_enter Try.func11, Try.ntmps11
  go_wp2_with (fail)
  refine HSAME.out.mono ?_
  rintro e w1 ⟨rfl, hc1⟩
  have HC1 := Lib.hid hc1
  have HR1 := Lib.hid (HR.out.keepNo hc1)
  clear hc1
  go_upto_region 6 with (fail)
  have hk70 : wrap64 ((n : Int) + 70) = (n : Int) + 70 := by unfold wrap64; omega
  have e70 : ((n : Int) + 70).toNat = n + 70 := by omega
  go_loopw [6, 7] (fun b i wr => ∃ k : Nat, n ≤ k ∧ k ≤ n + 70 ∧ i = .int .i64 k ∧ b = .bool bb ∧ wr = w1) (fun _ i _ => n + 70 - (intOf i).toNat)
  case atStart => exact ⟨n, Nat.le_refl _, by omega, rfl, rfl, rfl⟩
  case round =>
    obtain ⟨k, hk1, hk2, rfl, rfl, hwr⟩ := hrel
    have hwr' := hwr.symm
    subst hwr'
    by_cases hlt : k < n + 70
    · have c0 : w1.cell? ⟨g, k, none⟩ = some (.int .i64 (-77)) := by
        rw [row_rd HR1.out k (by rw [List.length_append, marks_length, ← HN.out]; exact hlt), rd_marks xs k (by rw [← HN.out]; exact hk1) (by rw [← HN.out]; exact hlt)]
      have e1 : decide ((k : Int) < (n : Int) + 70) = true := by simp; omega
      cases bb with
      | true =>
        go_wp2_with (fail)
        exact ⟨⟨k + 1, by omega, by omega, by go_num, rfl, trivial⟩, by simp [intOf]; omega⟩
      | false =>
        go_wp2_with (fail)
        exact ⟨⟨k + 1, by omega, by omega, by go_num, rfl, trivial⟩, by simp [intOf]; omega⟩
    · have e1 : decide ((k : Int) < (n : Int) + 70) = false := by simp; omega
      have HI : Hid (∃ L, Row w1 g 2 L ∧ L.length = (ints (xs ++ marks 70) ++ rest).length ∧ Ch (Is g) w w1) := ⟨_, HR1.out, rfl, HC1.out.mono (fun _ _ h => h.elim)⟩
      have HLL : Hid (n + 70 ≤ (ints (xs ++ marks 70) ++ rest).length) := by
        show _ ≤ _
        rw [List.length_append, ints_length, List.length_append, marks_length, ← HN.out]
        omega
      go_wp2_with (fail)
      go_loopw [8] (fun i wr => ∃ k : Nat, k ≤ n + 70 ∧ i = .int .i64 k ∧ Hid (∃ L, Row wr g 2 L ∧ L.length = (ints (xs ++ marks 70) ++ rest).length ∧ Ch (Is g) w wr)) (fun i _ => n + 70 - (intOf i).toNat)
      case atStart => exact ⟨0, Nat.zero_le _, rfl, HI⟩
      case round =>
        clear HI
        obtain ⟨j, hj, rfl, HI⟩ := hrel
        by_cases hjl : j < n + 70
        · have e2 : decide ((j : Int) < (n : Int) + 70) = true := by simp; omega
          obtain ⟨L, hL, hLl, hLc⟩ := HI.out
          have hjL : j < L.length := by have := HLL.out; omega
          have d0 : (wr.cell? ⟨g, j, none⟩).isSome = true := by
            rw [hL.cell, List.getElem?_eq_getElem hjL]
            rfl
          obtain ⟨u, hu⟩ := Option.isSome_iff_exists.1 d0
          have f0 : wr.frozen? ⟨g, j, none⟩ = false := hL.frozen _
          have HX : Hid (∃ L, Row (wr.setCell ⟨g, j, none⟩ (.int .i64 (-78))) g 2 L ∧ L.length = (ints (xs ++ marks 70) ++ rest).length ∧ Ch (Is g) w (wr.setCell ⟨g, j, none⟩ (.int .i64 (-78)))) := ⟨_, hL.set_ j _, by rw [List.length_set]; exact hLl, hLc.setCell (p := ⟨g, j, none⟩) (fun _ => rfl) _⟩
          clear hL hLl hLc hjL d0
          go_wp2_with (fail)
          exact ⟨⟨j + 1, by omega, by go_num, HX⟩, by simp [intOf]; omega⟩
        · have e2 : decide ((j : Int) < (n : Int) + 70) = false := by simp; omega
          go_wp2_with (fail)
          obtain ⟨L, hL, hLl, hLc⟩ := HI.out
          exact bodyPost_ret (v := .bool bb) (by kernel_rfl) rfl ⟨rfl, hLc, L, hL, hLl⟩
end Go.Proofs.Ytlokpcbiomjcnaa
