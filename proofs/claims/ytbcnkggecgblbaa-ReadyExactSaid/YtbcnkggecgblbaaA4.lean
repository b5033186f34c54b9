/- slices.Insert of one, over pairs: room is left. -/
import Derived.Test.YtbcnkggecgblbaaA3
import Derived.Lib.Overlaps
import Derived.Laws.Externs
set_option linter.unusedVariables false
set_option linter.unusedSimpArgs false
namespace Go.Proofs.Ytbcnkggecgblbaa
open Go.RowKit
theorem row_shape {w : World} {g : Nat} {t : TypeId} {L : List Value} (h : Row w g t L) : w.shape? g = some (t, L.length) := by
  unfold World.shape?
  unfold Row at h
  rw [h]
  simp
theorem overlaps_no {w : World} {g vb : Nat} {t t' : TypeId} {L M : List Value} (hg : Row w g t L) (hv : Row w vb t' M) (hne : vb ≠ g) (hL : L.length ≠ 0) (o la ca lb cb : Nat) :
    (callFunc 33 #[.slice (some ⟨vb, 0, none⟩) la ca, .slice (some ⟨g, o, none⟩) lb cb]).run Try.prog w = .ok (.value (.bool false)) w := by
  rw [run_callFunc_extern Try.func33 (by kernel_rfl) (by kernel_rfl) (by kernel_rfl) (e := Extern.SlicesOverlaps.overlaps #[41, 41] #[4]) (by kernel_rfl),
    Lib.run_overlaps_apart w 41 4 62 Try.underlying41 2 (fun w => by kernel_rfl) ⟨vb, 0, none⟩ ⟨g, o, none⟩ la ca lb cb hne t' t M.length L.length (row_shape hv) (row_shape hg) hL (hv.frozen _) (hv.frozen _)]
  rfl
theorem copy_row (w : World) (ty : TypeId) (g o dLen dCap : Nat) (a : Addr) (sLen sCap m : Nat) (L cs : List Value) (hr : Row w g 62 L) (hm : m = Nat.min sLen dLen) (hn : cs.length = m * 2)
    (hsrc : ∀ j v, cs[j]? = some v → w.cell? (a.add j) = some v) (hfit : o + cs.length ≤ L.length) (h1 : ∀ v ∈ cs, v.oneCell' = true) :
    (Builtin.copy_ #[41, 41] ty #[.slice (some ⟨g, o, none⟩) dLen dCap, .slice (some a) sLen sCap]).run Try.prog w = .ok (.int .i64 (m : Int)) (w.setRow g (putL L o cs).toArray) := by
  rw [run_copy_two w 41 41 ty 62 g o dLen dCap a sLen sCap m L.toArray 62 cs Try.underlying41 size62 hr hm hn hsrc (by simpa using hfit) h1, putL_eq _ _ _ hfit]
  simp [goInt]
theorem ins_list (L : List (Int × Int)) (p q : Value) (R : List Value) (x : Int × Int) (i n : Nat) (hn : n = L.length) (hi : i < n) :
    putL (putL (prs L ++ (p :: q :: R)) ((i + 1) * 2) (prs (L.drop i))) (i * 2) [.int .i64 x.1, .int .i64 x.2] = prs (L.take i ++ x :: L.drop i) ++ R := by
  have hl : (prs L).length = n * 2 := by rw [prs_length, ← hn]
  have hd : (prs (L.drop i)).length = (n - i) * 2 := by rw [prs_length, List.length_drop, ← hn]
  have ht : (prs (L.take i)).length = i * 2 := by rw [prs_length, List.length_take, ← hn]; congr 1; omega
  have e0 : prs (L.take i ++ x :: L.drop i) = prs (L.take i) ++ ([.int .i64 x.1, .int .i64 x.2] ++ prs (L.drop i)) := by rw [prs_append]; rfl
  apply List.ext_getElem?
  intro k
  have hlen1 : (putL (prs L ++ (p :: q :: R)) ((i + 1) * 2) (prs (L.drop i))).length = n * 2 + (R.length + 2) := by
    rw [putL_eq _ _ _ (by rw [hd, List.length_append, hl]; simp; omega)]
    simp [hl, hd]
    omega
  rw [putL_get _ _ _ _ (by rw [hlen1]; simp; omega), putL_get _ _ _ _ (by rw [hd, List.length_append, hl]; simp; omega), e0, hd]
  by_cases h1 : k < i * 2
  · rw [if_neg (by simp; omega), if_neg (by omega), List.getElem?_append_left (by rw [hl]; omega), List.getElem?_append_left (by rw [List.length_append, ht]; omega), List.getElem?_append_left (by rw [ht]; omega), prs_take, List.getElem?_take, if_pos h1]
  · by_cases h2 : k < i * 2 + 2
    · rw [if_pos (by simp; omega), List.getElem?_append_left (by simp [ht]; omega), List.getElem?_append_right (by rw [ht]; omega), ht, List.getElem?_append_left (by simp; omega)]
    · rw [if_neg (by simp; omega)]
      by_cases h3 : k < (i + 1) * 2 + (n - i) * 2
      · rw [if_pos (by omega), List.getElem?_append_left (by simp [ht, hd]; omega), List.getElem?_append_right (by rw [ht]; omega), ht, List.getElem?_append_right (by simp; omega)]
        congr 1
        simp
        omega
      · rw [if_neg (by omega), List.getElem?_append_right (by rw [hl]; omega), List.getElem?_append_right (by simp [ht, hd]; omega)]
        simp only [hl, List.length_append, ht, hd, List.length_cons, List.length_nil]
        obtain ⟨z, rfl⟩ : ∃ z, k = n * 2 + 2 + z := ⟨k - (n * 2 + 2), by omega⟩
        rw [show n * 2 + 2 + z - n * 2 = z + 2 by omega, List.getElem?_cons_succ, List.getElem?_cons_succ]
        congr 1
        omega
theorem exec_from2 {P : Program} {a : Act} {o : Oper} {w : World} (t e : TypeId) (x y : Operand) (ho : o.op = .slice t x (some y) none none) (hu : P.underlying t = some (.slice e)) (s : Nat) (hs : ∀ w, (sizeOf e).run P w = .ok s w) (g L cap n of len : Nat) (hx : a.eval x = .slice (some ⟨g, 0, none⟩) L cap) (hy : a.eval y = .int .i64 (n : Int)) (hn : n ≤ L) (hlc : L ≤ cap) (h63 : cap ≤ 9223372036854775807) (hne : cap ≠ n) (hof : of = n * s) (hlen : len = L - n) :
    (execOp a.eval o).run P w = .ok (.value (.slice (some ⟨g, of, none⟩) len (cap - n))) w := by
  have e := exec_from (w := w) t e x y ho hu s hs g L cap n hx hy hn hlc h63
  rw [if_neg hne, ← hof, ← hlen] at e
  exact e
theorem exec_add {a : Act} {o : Oper} {w : World} (x y : Operand) (ho : o.op = .binOp .add 3 x y 3) (p q : Int) (hx : a.eval x = .int .i64 p) (hy : a.eval y = .int .i64 q) (h0 : 0 ≤ p) (h1 : 0 ≤ q) (hb : p + q ≤ 9223372036854775807) :
    (execOp a.eval o).run Try.prog w = .ok (.value (.int .i64 (p + q))) w := by
  unfold execOp
  simp only [ho, hx, hy]
  go_simp
  rw [IntKind.wrap_i64]
  omega
set_option maxHeartbeats 4000000 in
theorem insert_room (L : List (Int × Int)) (p q : Value) (R : List Value) (g vb n cap i : Nat) (w : World) (x : Int × Int) (hn : n = L.length) (hb : n + 1 ≤ 1000000) (hi : i < n) (hcap : n + 1 ≤ cap) (hcm : cap ≤ maxLen)
    (hr : Row w g 62 (prs L ++ (p :: q :: R))) (hv : Row w vb 62 [.int .i64 x.1, .int .i64 x.2]) (hne : vb ≠ g) :
    Calls Try.prog 29 #[.slice (some ⟨g, 0, none⟩) n cap, .int .i64 (i : Int), .slice (some ⟨vb, 0, none⟩) 1 1] w fun e w' => e = .returned (.slice (some ⟨g, 0, none⟩) (n + 1) cap) ∧ Row w' g 62 (prs (L.take i ++ x :: L.drop i) ++ R) ∧ Ch (Is g) w w' := by
  have hov := fun o lb cb => overlaps_no hr hv hne (by simp) o 1 1 lb cb
  have HR := Lib.hid hr
  have HV := Lib.hid hv
  have HN := Lib.hid hn
  have HNE := Lib.hid hne
  clear hr hv hn hne
  have hcap2 : cap ≤ 9223372036854775807 := by unfold maxLen at hcm; omega
  clear hcm
  have hgt : decide ((cap : Int) < (n : Int) + 1) = false := by simp; omega
  have hni : ((i : Int) == (n : Int)) = false := by simp; omega
  have hiI : (i : Int) ≤ (n : Int) := by omega
  have hci : (n : Int) + 1 ≤ (cap : Int) := by omega
  have hci2 : (i : Int) + 1 ≤ (n : Int) + 1 := by omega
  have hiw : (i : Int) + 1 ≤ 9223372036854775807 := by omega
  go_enter Try.func29, Try.ntmps29
  go_upto_region 15 with (simp only [hov])
  refine wp_region_quiet_tail 8 (by kernel_rfl) (by kernel_rfl) (fun w' => Ch No w w') ((Ch.refl _ _).drew) ?_
  simp only [List.take_succ_cons, List.take_zero, List.drop_succ_cons, List.drop_zero]
  refine wpQuiet_value (by rfl) (.slice (some ⟨g, 0, none⟩) (n + 1) cap) (fun _ => rfl) ?_
  simp only [Act.put, List.setIfInBounds_toArray, List.set_cons_zero, List.set_cons_succ]
  refine wpQuiet_value (by rfl) (.int .i64 (i : Int)) (fun _ => rfl) ?_
  simp only [Act.put, List.setIfInBounds_toArray, List.set_cons_zero, List.set_cons_succ]
  refine wpQuiet_value (by rfl) (.int .i64 1) (fun _ => rfl) ?_
  simp only [Act.put, List.setIfInBounds_toArray, List.set_cons_zero, List.set_cons_succ]
  refine wpQuiet_value (by rfl) (.int .i64 ((i + 1 : Nat) : Int)) (fun w' => exec_add (.tmp 70) (.tmp 71) rfl (i : Int) 1 rfl rfl (by omega) (by omega) hiw) ?_
  simp only [Act.put, List.setIfInBounds_toArray, List.set_cons_zero, List.set_cons_succ]
  refine wpQuiet_value (by rfl) (.slice (some ⟨g, (i + 1) * 2, none⟩) (n - i) (cap - (i + 1))) (fun w' => exec_from2 41 62 (.tmp 69) (.tmp 72) rfl Try.underlying41 2 (fun w => by kernel_rfl) g (n + 1) cap (i + 1) _ _ rfl rfl (by omega) hcap hcap2 (by omega) rfl (by omega)) ?_
  simp only [Act.put, List.setIfInBounds_toArray, List.set_cons_zero, List.set_cons_succ]
  refine wpQuiet_value (by rfl) (.slice (some ⟨g, 0, none⟩) (n + 1) cap) (fun _ => rfl) ?_
  simp only [Act.put, List.setIfInBounds_toArray, List.set_cons_zero, List.set_cons_succ]
  refine wpQuiet_value (by rfl) (.int .i64 (i : Int)) (fun _ => rfl) ?_
  simp only [Act.put, List.setIfInBounds_toArray, List.set_cons_zero, List.set_cons_succ]
  refine wpQuiet_value (by rfl) (.slice (some ⟨g, i * 2, none⟩) (n + 1 - i) (cap - i)) (fun w' => exec_from2 41 62 (.tmp 74) (.tmp 75) rfl Try.underlying41 2 (fun w => by kernel_rfl) g (n + 1) cap i _ _ rfl rfl (by omega) hcap hcap2 (by omega) rfl rfl) ?_
  simp only [Act.put, List.setIfInBounds_toArray, List.set_cons_zero, List.set_cons_succ]
  refine wpQuiet_nil ?_
  intro w1 hw1
  have HW1 := Lib.hid hw1
  have HR1 := Lib.hid (HR.out.keepNo hw1)
  have HV1 := Lib.hid (HV.out.keepNo hw1)
  clear hw1
  have HL : Hid ((prs L).length = n * 2) := by show _ = _; rw [prs_length, ← HN.out]
  have HD : Hid ((prs (L.drop i)).length = (n - i) * 2) := by show _ = _; rw [prs_length, List.length_drop, ← HN.out]
  have HSRC : Hid (∀ j u, (prs (L.drop i))[j]? = some u → w1.cell? ((⟨g, i * 2, none⟩ : Addr).add j) = some u) := fun j u hj => by
    have hjl : j < (n - i) * 2 := by rw [← HD.out]; exact (List.getElem?_eq_some_iff.1 hj).1
    rw [add_lit, HR1.out.cell, List.getElem?_append_left (by rw [HL.out]; omega), ← hj, prs_drop, List.getElem?_drop]
  have HM : Hid (n - i = Nat.min (n + 1 - i) (n - i)) := (Nat.min_eq_right (by omega)).symm
  have HFIT : Hid ((i + 1) * 2 + (prs (L.drop i)).length ≤ (prs L ++ p :: q :: R).length) := by show _ ≤ _; rw [HD.out, List.length_append, HL.out]; simp; omega
  refine pl_copy_run w1 rfl (.tmp 73) (.tmp 76) 41 41 rfl _ _ rfl rfl _ _ (copy_row w1 _ g ((i + 1) * 2) (n - i) (cap - (i + 1)) ⟨g, i * 2, none⟩ (n + 1 - i) (cap - i) (n - i) _ (prs (L.drop i)) HR1.out HM.out HD.out HSRC.out HFIT.out (prs_one _)) ?_
  simp only [Act.put, List.setIfInBounds_toArray, List.set_cons_zero, List.set_cons_succ]
  have HR2 := Lib.hid (HR1.out.setRow (putL (prs L ++ p :: q :: R) ((i + 1) * 2) (prs (L.drop i))))
  have HV2 := Lib.hid (HV1.out.keepIs (ch_setRow w1 g (putL (prs L ++ p :: q :: R) ((i + 1) * 2) (prs (L.drop i))).toArray) HNE.out)
  have HC2 : Hid (Ch (Is g) w _) := (HW1.out.mono (fun _ _ h => h.elim)).trans (ch_setRow w1 g (putL (prs L ++ p :: q :: R) ((i + 1) * 2) (prs (L.drop i))).toArray) (fun _ _ h => h)
  generalize w1.setRow g (putL (prs L ++ p :: q :: R) ((i + 1) * 2) (prs (L.drop i))).toArray = w2 at *
  have HSRC2 : Hid (∀ j u, [Value.int .i64 x.1, .int .i64 x.2][j]? = some u → w2.cell? ((⟨vb, 0, none⟩ : Addr).add j) = some u) := fun j u hj => by
    rw [add_lit, Nat.zero_add, HV2.out.cell]
    exact hj
  have HFIT2 : Hid (i * 2 + [Value.int .i64 x.1, .int .i64 x.2].length ≤ (putL (prs L ++ p :: q :: R) ((i + 1) * 2) (prs (L.drop i))).length) := by
    show _ ≤ _
    rw [putL_eq _ _ _ HFIT.out]
    simp [HL.out, HD.out]
    omega
  have HM2 : Hid (1 = Nat.min 1 (n + 1 - i)) := (Nat.min_eq_left (by omega)).symm
  have HO2 : Hid (∀ v ∈ [Value.int .i64 x.1, .int .i64 x.2], v.oneCell' = true) := fun v hv => by
    simp at hv
    rcases hv with rfl | rfl <;> rfl
  clear HSRC HR1 HV1 HW1
  go_wp2_with (first | ((with_reducible refine at_op (o := ⟨some 82, .call { callee := .builtin .copy, args := #[.tmp 80, .tmp 81], argTypes := #[41, 41] }, _, _, _, _⟩) ?_); refine pl_copy_run w2 rfl (.tmp 80) (.tmp 81) 41 41 rfl _ _ rfl rfl _ _ (copy_row w2 _ g (i * 2) (n + 1 - i) (cap - i) ⟨vb, 0, none⟩ 1 1 1 _ [.int .i64 x.1, .int .i64 x.2] HR2.out HM2.out rfl HSRC2.out HFIT2.out HO2.out) ?_))
  refine bodyPost_ret (v := .slice (some ⟨g, 0, none⟩) (n + 1) cap) (by kernel_rfl) rfl ⟨rfl, ?_, HC2.out.trans (ch_setRow w2 g _) (fun _ _ h => h)⟩
  have r3 := HR2.out.setRow (putL (putL (prs L ++ p :: q :: R) ((i + 1) * 2) (prs (L.drop i))) (i * 2) [.int .i64 x.1, .int .i64 x.2])
  rw [ins_list L p q R x i n HN.out hi] at r3 ⊢
  exact r3
end Go.Proofs.Ytbcnkggecgblbaa
