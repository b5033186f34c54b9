/- slices.Delete of one, slices.Insert of one, over pairs. -/
import Derived.Test.YtbcnkggecgblbaaA2
import Derived.Test.YtbcnkggecgblbaaQ
set_option linter.unusedVariables false
set_option linter.unusedSimpArgs false
namespace Go.Proofs.Ytbcnkggecgblbaa
open Go.RowKit
theorem prs_one (L : List (Int × Int)) : ∀ v ∈ prs L, v.oneCell' = true := by
  intro v hv
  simp [prs] at hv
  obtain ⟨a, b, _, rfl | rfl⟩ := hv <;> rfl
theorem info62 : ∃ ti, Try.prog.info? 62 = some ti ∧ ti.size = 2 := Option.map_eq_some_iff.1 size62
theorem prs_drop (L : List (Int × Int)) (k : Nat) : prs (L.drop k) = (prs L).drop (k * 2) := by
  induction k generalizing L with
  | zero => simp
  | succ k ih =>
    cases L with
    | nil => simp [prs]
    | cons x L =>
      rw [List.drop_succ_cons, ih, show (k + 1) * 2 = k * 2 + 2 by omega]
      rfl
theorem prs_take (L : List (Int × Int)) (k : Nat) : prs (L.take k) = (prs L).take (k * 2) := by
  induction k generalizing L with
  | zero => simp [prs]
  | succ k ih =>
    cases L with
    | nil => simp [prs]
    | cons x L =>
      rw [List.take_succ_cons, show (k + 1) * 2 = k * 2 + 2 by omega]
      show [_, _] ++ prs (L.take k) = _
      rw [ih]
      rfl
theorem putL_eq (vs L : List Value) (o : Nat) (h : o + vs.length ≤ L.length) : putL L o vs = L.take o ++ (vs ++ L.drop (o + vs.length)) := by
  apply List.ext_getElem?
  intro k
  rw [putL_get vs L o k h]
  have ht : (L.take o).length = o := by simp; omega
  by_cases h1 : k < o
  · rw [if_neg (by omega), List.getElem?_append_left (by omega), List.getElem?_take, if_pos h1]
  · rw [List.getElem?_append_right (by omega), ht]
    by_cases h2 : k < o + vs.length
    · rw [if_pos (by omega), List.getElem?_append_left (by omega)]
    · rw [if_neg (by omega), List.getElem?_append_right (by omega), List.getElem?_drop]
      congr 1
      omega
theorem del_list (L : List (Int × Int)) (rest : List Value) (m i : Nat) (zs : List Value) (hz : zs.length = 2) (hm : m + 1 = L.length) (hi : i ≤ m) :
    putL (putL (prs L ++ rest) (0 + i * 2) (prs (L.drop (i + 1)))) (m * 2) zs = prs (L.eraseIdx i) ++ (zs ++ rest) := by
  have hl : (prs L).length = (m + 1) * 2 := by rw [prs_length, ← hm]
  have hd : (prs (L.drop (i + 1))).length = (m - i) * 2 := by rw [prs_length, List.length_drop, ← hm]; omega
  have he : prs (L.eraseIdx i) = prs (L.take i) ++ prs (L.drop (i + 1)) := by rw [List.eraseIdx_eq_take_drop_succ, prs_append]
  have ht : (prs (L.take i)).length = i * 2 := by rw [prs_length, List.length_take, ← hm]; congr 1; omega
  have e1 : putL (prs L ++ rest) (0 + i * 2) (prs (L.drop (i + 1))) = prs (L.eraseIdx i) ++ ((prs L ++ rest).drop (m * 2)) := by
    rw [putL_eq _ _ _ (by rw [hd, List.length_append, hl]; omega), Nat.zero_add, hd, he, List.append_assoc, prs_take, List.take_append_of_le_length (by rw [hl]; omega)]
    congr 3
    omega
  have hel : (prs (L.eraseIdx i)).length = m * 2 := by rw [he, List.length_append, ht, hd]; omega
  rw [e1, putL_eq _ _ _ (by rw [List.length_append, hel, List.length_drop, List.length_append, hl, hz]; omega), hz, List.take_append_of_le_length (by rw [hel]; omega), List.take_of_length_le (by rw [hel]; omega)]
  congr 2
  rw [List.drop_append, List.drop_of_length_le (by rw [hel]; omega), hel, List.nil_append, List.drop_drop, List.drop_append, List.drop_of_length_le (by rw [hl]; omega), hl, List.nil_append]
  rw [show m * 2 + (m * 2 + 2 - m * 2) - (m + 1) * 2 = 0 by omega, List.drop_zero]
set_option maxHeartbeats 4000000 in
theorem delete_calls (L : List (Int × Int)) (rest : List Value) (g m cap i : Nat) (w : World) (hn : m + 1 = L.length) (hb : m + 1 ≤ 1000000) (hi : i ≤ m) (hcap : m + 1 ≤ cap) (hcm : cap ≤ maxLen) (hr : Row w g 62 (prs L ++ rest)) :
    Calls Try.prog 31 #[.slice (some ⟨g, 0, none⟩) (m + 1) cap, .int .i64 (i : Int), .int .i64 ((i + 1 : Nat) : Int)] w fun e w' => e = .returned (.slice (some ⟨g, 0, none⟩) m cap) ∧ Row w' g 62 (prs (L.eraseIdx i) ++ ([.int .i64 0, .int .i64 0] ++ rest)) ∧ Ch (Is g) w w' := by
  have HR := Lib.hid hr
  have HN := Lib.hid hn
  clear hr hn
  have hcap2 : cap ≤ 9223372036854775807 := by unfold maxLen at hcm; omega
  clear hcm
  have hne : ((i : Int) == ((i + 1 : Nat) : Int)) = false := by simp; omega
  go_enter Try.func31, Try.ntmps31
  go_upto_region 5 with (fail)
  have HH : Hid (0 ≤ (i : Int) ∧ (i : Int) ≤ (cap : Int) ∧ ((i + 1 : Nat) : Int) ≤ ((m + 1 : Nat) : Int)) := by show _ ∧ _ ∧ _; omega
  obtain ⟨of, hof⟩ : ∃ of : Nat, of = if cap = i + 1 then 0 else (i + 1) * 2 := ⟨_, rfl⟩
  have HOF := Lib.hid hof
  clear hof
  refine wp_region_quiet_tail 6 (by kernel_rfl) (by kernel_rfl) (fun w' => Ch No w w') ((Ch.refl _ _).drew) ?_
  simp only [List.take_succ_cons, List.take_zero, List.drop_succ_cons, List.drop_zero]
  refine wpQuiet_value (by rfl) (.slice (some ⟨g, 0, none⟩) (m + 1) cap) (fun _ => rfl) ?_
  simp only [Act.put, List.setIfInBounds_toArray, List.set_cons_zero, List.set_cons_succ]
  refine wpQuiet_value (by rfl) (.int .i64 (i : Int)) (fun _ => rfl) ?_
  simp only [Act.put, List.setIfInBounds_toArray, List.set_cons_zero, List.set_cons_succ]
  refine wpQuiet_value (by rfl) (.slice (some ⟨g, 0, none⟩) i cap) (fun w' => exec_cut 41 62 (.tmp 20) (.tmp 21) rfl Try.underlying41 2 (fun w => by kernel_rfl) g (m + 1) cap i rfl rfl (by omega) hcap2) ?_
  simp only [Act.put, List.setIfInBounds_toArray, List.set_cons_zero, List.set_cons_succ]
  refine wpQuiet_value (by rfl) (.slice (some ⟨g, 0, none⟩) (m + 1) cap) (fun _ => rfl) ?_
  simp only [Act.put, List.setIfInBounds_toArray, List.set_cons_zero, List.set_cons_succ]
  refine wpQuiet_value (by rfl) (.int .i64 ((i + 1 : Nat) : Int)) (fun _ => rfl) ?_
  simp only [Act.put, List.setIfInBounds_toArray, List.set_cons_zero, List.set_cons_succ]
  refine wpQuiet_value (by rfl) (.slice (some ⟨g, of, none⟩) (m - i) (cap - (i + 1))) (fun w' => by rw [HOF.out, show m - i = m + 1 - (i + 1) by omega]; exact exec_from 41 62 (.tmp 23) (.tmp 24) rfl Try.underlying41 2 (fun w => by kernel_rfl) g (m + 1) cap (i + 1) rfl rfl (by omega) hcap hcap2) ?_
  simp only [Act.put, List.setIfInBounds_toArray, List.set_cons_zero, List.set_cons_succ]
  refine wpQuiet_nil ?_
  intro w1 hw1
  have HW1 := Lib.hid hw1
  have HR1 := Lib.hid (HR.out.keepNo hw1)
  clear hw1
  have HNL : Hid ((prs (L.drop (i + 1))).length = (m - i) * 2) := by show _ = _; rw [prs_length, List.length_drop, ← HN.out]; omega
  obtain ⟨ti, hti, hts⟩ := info62
  refine pl_append_run w1 rfl (.tmp 22) (.tmp 25) 41 41 rfl _ _ rfl rfl _ _ (run_append_room_cells w1 41 41 62 ti Try.underlying41 hti g 0 i cap ⟨g, of, none⟩ (m - i) (cap - (i + 1)) (prs (L.drop (i + 1))) (by rw [hts]; exact HNL.out) ?hnews (prs_one _) (by omega) ?hc ?hf) ?_
  case hnews =>
    intro j u hj
    have hjl : j < (m - i) * 2 := by rw [← HNL.out]; exact (List.getElem?_eq_some_iff.1 hj).1
    have ho : of = (i + 1) * 2 := by rw [HOF.out, if_neg (by omega)]
    rw [add_lit, ho, HR1.out.cell, List.getElem?_append_left (by rw [prs_length, ← HN.out]; omega), ← hj, prs_drop, List.getElem?_drop]
  case hc =>
    intro j hj
    rw [HNL.out] at hj
    rw [hts, HR1.out.cell, List.getElem?_append_left (by rw [prs_length, ← HN.out]; omega)]
    simp [prs_length, ← HN.out]
    omega
  case hf =>
    intro j hj
    exact HR1.out.frozen _
  simp only [Act.put, List.setIfInBounds_toArray, List.set_cons_zero, List.set_cons_succ]
  rw [hts]
  have HR2 := Lib.hid (row_setCells (prs (L.drop (i + 1))) (0 + i * 2) w1 _ HR1.out)
  have HC2 : Hid (Ch (Is g) w (w1.setCells g (0 + i * 2) (prs (L.drop (i + 1))))) := (HW1.out.mono (fun _ _ h => h.elim)).trans (ch_setCells _ _ _) (fun _ _ h => h)
  generalize w1.setCells g (0 + i * 2) (prs (L.drop (i + 1))) = w2 at *
  clear HR1 HW1
  refine pl_value rfl (.slice (some ⟨g, 0, none⟩) (i + (m - i)) cap) rfl ?_
  simp only [Act.put, List.setIfInBounds_toArray, List.set_cons_zero, List.set_cons_succ]
  have hin : i + (m - i) = m := by omega
  have HZO : Hid (∀ u ∈ [Value.int .i64 0, .int .i64 0], u.oneCell' = true) := fun u hu => by
    simp at hu
    subst hu
    rfl
  have HCE : Hid (∀ j, j < [Value.int .i64 0, .int .i64 0].length → (w2.cell? ⟨g, m * 2 + j, none⟩).isSome = true) := fun j hj => by
    have hj' : j < 2 := hj
    have hl : (prs L).length = (m + 1) * 2 := by rw [prs_length, ← HN.out]
    have hnl := HNL.out
    rw [HR2.out.cell, putL_get _ _ _ _ (by rw [hnl, List.length_append, hl]; omega), if_neg (by rw [hnl]; omega), List.getElem?_append_left (by rw [hl]; omega)]
    simp [hl]
    omega
  have HFR : Hid (∀ j, j < [Value.int .i64 0, .int .i64 0].length → w2.frozen? ⟨g, m * 2 + j, none⟩ = false) := fun j hj => HR2.out.frozen _
  rw [hin]
  go_wp2_with ((with_reducible refine at_op (o := ⟨none, .call { callee := .builtin .clear, args := #[.tmp 31], argTypes := #[41] }, _, _, _, _⟩) ?_); refine pl_clear_run w2 rfl (.tmp 31) 41 rfl (.slice (some ⟨g, m * 2, none⟩) 1 (cap - m)) rfl _ _ (run_clear_one w2 41 62 _ (.agg #[.int .i64 0, .int .i64 0]) [.int .i64 0, .int .i64 0] Try.underlying41 (fun w => by kernel_rfl) rfl HZO.out g (m * 2) (cap - m) HCE.out HFR.out) ?_)
  refine bodyPost_ret (v := .slice (some ⟨g, 0, none⟩) m cap) (by kernel_rfl) rfl ⟨rfl, ?_, HC2.out.trans (ch_setCells _ _ _) (fun _ _ h => h)⟩
  have r3 := row_setCells [.int .i64 0, .int .i64 0] (m * 2) w2 _ HR2.out
  rw [del_list L rest m i [.int .i64 0, .int .i64 0] rfl HN.out hi] at r3
  exact r3
end Go.Proofs.Ytbcnkggecgblbaa
