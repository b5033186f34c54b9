/- MemExact: step: Writable, Move, nothing. -/
import Derived.Test.YtbllpojljdhnoaaD4
import Derived.StillTail
import Derived.StillTailTactics
set_option linter.unusedVariables false
set_option linter.unusedSimpArgs false
namespace Go.Proofs.Ytbllpojljdhnoaa
open Go.RowKit
theorem Sl.mk {w : World} {A : Option Addr} {l c : Nat} {D : List Int} (h : Cl w A (ints D)) (hl : l = D.length) (hd : D.length ≤ 10000000) : Sl w (.slice A l c) D := by
  subst hl
  exact ⟨A, c, rfl, h, hd⟩
set_option maxRecDepth 100000 in
set_option maxHeartbeats 4000000 in
theorem step_writable {w : World} {g cap n : Nat} {X : List Int} {rest : List Value} {vx : Value} (f a nn x : Int) (A : Option Addr) (l c : Nat) (h : St w g cap X rest vx) (hn : n = X.length) (hn1 : -9223372036854775808 ≤ nn) (hn2 : nn ≤ 9223372036854775807) :
    Calls Try.prog 15 #[.slice (some ⟨g, 0, none⟩) n cap, vx, opv 5 f a nn x A l c] w (PStep w g cap n rest) := by
  have HE : Hid (∀ wr, Ch No w wr → PStep w g cap n rest (.returned (.tuple #[vx, .bool true])) wr) := fun wr hc => ⟨X, vx, rfl, h.keepNo hc, hn.symm, hc.is⟩
  have H1 : Hid (∀ q wr, Calls Try.prog 11 #[.int .i64 nn, .int .i64 f, .int .i64 a, .int .i64 q] wr fun e w' => e = .returned (.bool (may nn f a q)) ∧ wr = w') := fun q wr => writable nn f a q wr hn2 hn1
  have H2 : Hid (∀ q wr, Calls Try.prog 25 #[.int .i64 nn, .int .i64 f, .int .i64 a, .int .i64 q] wr fun e w' => e = .returned (.bool (may nn f a q)) ∧ wr = w') := fun q wr => rwritable nn f a q wr hn2 hn1
  clear h hn
  unfold opv
  go_enter Try.func15, Try.ntmps15
  go_upto_region 36 with (fail)
  go_quiet ((first | (go_at_call 11; refine Calls.quiet_of_same ((H1.out _ _).mono fun e w1 h => ⟨h.1, h.2.symm⟩)) | (go_at_call 25; refine Calls.quiet_of_same ((H2.out _ _).mono fun e w1 h => ⟨h.1, h.2.symm⟩))))
  go_wp2_with (fail)
  exact bodyPost_ret (v := .tuple #[vx, .bool true]) (by kernel_rfl) rfl (HE.out _ (((Ch.refl No w).alloc _).drewN _))
set_option maxRecDepth 100000 in
set_option maxHeartbeats 4000000 in
theorem step_none {w : World} {g cap n : Nat} {X : List Int} {rest : List Value} {vx : Value} (k f a nn x : Int) (A : Option Addr) (l c : Nat) (h : St w g cap X rest vx) (hn : n = X.length) (h1 : ¬ k = 1) (h2 : ¬ k = 2) (h3 : ¬ k = 3) (h4 : ¬ k = 4) (h5 : ¬ k = 5) (h6 : ¬ k = 6) :
    Calls Try.prog 15 #[.slice (some ⟨g, 0, none⟩) n cap, vx, opv k f a nn x A l c] w (PStep w g cap n rest) := by
  have HE : Hid (∀ wr, Ch No w wr → PStep w g cap n rest (.returned (.tuple #[vx, .bool true])) wr) := fun wr hc => ⟨X, vx, rfl, h.keepNo hc, hn.symm, hc.is⟩
  have d1 : (k == 1) = false := by simpa using h1
  have d2 : (k == 2) = false := by simpa using h2
  have d3 : (k == 3) = false := by simpa using h3
  have d4 : (k == 4) = false := by simpa using h4
  have d5 : (k == 5) = false := by simpa using h5
  have d6 : (k == 6) = false := by simpa using h6
  clear h hn h1 h2 h3 h4 h5 h6
  unfold opv
  go_enter Try.func15, Try.ntmps15
  go_wp2_with (fail)
  exact bodyPost_ret (v := .tuple #[vx, .bool true]) (by kernel_rfl) rfl (HE.out _ ((Ch.refl No w).alloc _))
theorem exec_addI {a : Act} {o : Oper} {w : World} (x y : Operand) (ho : o.op = .binOp .add 3 x y 3) (p r q : Int) (hx : a.eval x = .int .i64 p) (hy : a.eval y = .int .i64 r) (hq : q = p + r) (hb : 0 ≤ q ∧ q ≤ 9223372036854775807) :
    (execOp a.eval o).run Try.prog w = .ok (.value (.int .i64 q)) w := by
  unfold execOp
  simp only [ho, hx, hy]
  go_simp
  rw [IntKind.wrap_i64]
  omega
/-- s[k:h], as an operation of a region's head -/
theorem exec_piece {a : Act} {o : Oper} {w : World} (x y z : Operand) (ho : o.op = .slice 22 x (some y) (some z) none) (g L cap k h : Nat) (hx : a.eval x = .slice (some ⟨g, 0, none⟩) L cap) (hy : a.eval y = .int .i64 (k : Int)) (hz : a.eval z = .int .i64 (h : Int)) (hk : k ≤ h) (hh : h ≤ cap) (hkc : k < cap) (h63 : cap ≤ 9223372036854775807) (l c : Nat) (hl : l = h - k) (hc : c = cap - k) :
    (execOp a.eval o).run Try.prog w = .ok (.value (.slice (some ⟨g, k, none⟩) l c)) w := by
  have hs : ∀ w, (sizeOf 2).run Try.prog w = .ok 1 w := fun w => by kernel_rfl
  have hu := Try.underlying22
  have h1 : (h : Int) ≤ (cap : Int) := by omega
  have h2 : (k : Int) ≤ (h : Int) := by omega
  have h0 : (0 : Int) ≤ (k : Int) := by omega
  have h3 : ¬ cap = k := by omega
  subst hl hc
  unfold execOp
  simp only [ho]
  generalize a.eval = ρ at *
  simp only [Option.map_some, Option.map_none, hx, hy, hz]
  go_simp
  all_goals (split <;> simp_all)
theorem ints_eq_take (X : List Int) (k l : Nat) : ints ((X.drop k).take l) = ((ints X).drop k).take l := by simp [ints, List.map_drop, List.map_take]
set_option maxRecDepth 100000 in
set_option maxHeartbeats 4000000 in
theorem step_move {w : World} {g cap n : Nat} {X : List Int} {rest : List Value} {vx : Value} (f a nn x : Int) (A : Option Addr) (l c : Nat) (h : St w g cap X rest vx) (hn : n = X.length) (hl : l ≤ 10000000) (hn1 : -9223372036854775808 ≤ nn) (hn2 : nn ≤ 9223372036854775807) :
    Calls Try.prog 15 #[.slice (some ⟨g, 0, none⟩) n cap, vx, opv 6 f a nn x A l c] w (PStep w g cap n rest) := by
  have hc0 : Ch No w (bx w 6 f a nn x A l c) := (Ch.refl No w).alloc _
  have hsm : n ≤ 4096 := by have := h.small; omega
  obtain ⟨B, cx, hvx, _, _⟩ := h.x.sl
  by_cases hin : 0 ≤ nn ∧ nn + l ≤ n
  · obtain ⟨k, rfl⟩ := Int.eq_ofNat_of_zero_le hin.1
    have hle : k + l ≤ n := by omega
    have hkc : k + l ≤ cap := by have := h.le; omega
    have hk40 : k < cap := by have := h.len; omega
    have hcm : cap ≤ 9223372036854775807 := by have := h.cap; unfold maxLen at this; omega
    obtain ⟨P, hP⟩ : ∃ P, P = rdl X (k : Int) (l : Int) := ⟨_, rfl⟩
    have hP' : P = (X.drop k).take l := by
      rw [hP, rdl, if_pos (by unfold may; simp; omega)]
      rfl
    have hPl : P.length = l := by rw [hP']; simp; omega
    have HP := Lib.hid hP
    have HP' := Lib.hid hP'
    have HPL := Lib.hid hPl
    have hclp : ∀ wr, Ch No w wr → Sl wr (.slice (some ⟨g, k, none⟩) l (cap - k)) P := fun wr hc => by
      refine Sl.mk ?_ hPl.symm (by omega)
      have h1 := (h.keepNo hc).clm.drop k
      rw [add_lit, Nat.zero_add] at h1
      have h2 := h1.take l
      rw [← ints_eq_take, ← hP'] at h2
      exact h2
    have H23 : Hid (∀ wr, Ch No w wr → Calls Try.prog 23 #[vx, .int .i64 (k : Int), .int .i64 (l : Int)] wr fun e w' => ∃ v', e = .returned (.tuple #[v', .bool (may X.length 0 (k : Int) (l : Int))]) ∧ Ol wr.heap.size w' v' P ∧ Ch No wr w') := fun wr hc => by
      rw [hP]
      exact rread_calls (h.keepNo hc).x.sl _ _
    have H9 : Hid (∀ wr, Ch No w wr → Calls Try.prog 9 #[.slice (some ⟨g, 0, none⟩) n cap, .int .i64 f, .int .i64 a, .slice (some ⟨g, k, none⟩) l (cap - k)] wr fun e w' => e = .returned (.bool (may X.length f a l)) ∧ Row w' g 2 (ints (wri X f a P ++ marks 40) ++ rest) ∧ Ch (Is g) wr w') := fun wr hc => by
      have := mwrite_calls g n cap X (marks 40) rest _ P f a wr (by omega) h.le hn (h.keepNo hc).row (hclp wr hc)
      rw [hPl] at this
      exact this
    have H24 : Hid (∀ w1 wr u, Ch No w w1 → Ch (Is g) w1 wr → Ol w.heap.size wr u P → Calls Try.prog 24 #[vx, .int .i64 f, .int .i64 a, u] wr fun e w' => ∃ v', e = .returned (.tuple #[v', .bool (may X.length f a l)]) ∧ Ol wr.heap.size w' v' (wri X f a P) ∧ Ch No wr w') := fun w1 wr u hc hc1 ho => by
      have := rwrite_calls ((h.keepNo hc).x.keepD hc1 (fun k hk e => h.ne (by rw [hk]; exact congrArg some e))).sl ho.sl f a
      rw [hPl] at this
      exact this
    have HB := Lib.hid (fun w' hw => bxc (w' := w') h.row.lt 6 f a (k : Int) x A l c hw)
    have HE : Hid (∀ w1 wr w3 v', Ch No w w1 → Row wr g 2 (ints (wri X f a P ++ marks 40) ++ rest) → Ch (Is g) w1 wr → Ol wr.heap.size w3 v' (wri X f a P) → Ch No wr w3 → PStep w g cap n rest (.returned (.tuple #[v', .bool true])) w3) := fun w1 wr w3 v' hc1 hr hc ho hc3 =>
      ⟨_, v', rfl, ⟨hr.keepNo hc3, by rw [wri_length]; exact h.len, h.cap, by rw [wri_length]; exact h.small, ho.low (Nat.zero_le _), fun e => by have := ho.own g e; have := hr.lt; omega⟩, by rw [wri_length]; exact hn.symm, (hc1.is.trans hc (fun _ _ h => h)).then_ hc3⟩
    have HGS := Lib.hid h.row.lt
    have d1 : decide ((k : Int) < 0) = false := by simp
    have d2 : decide ((X.length : Int) < (k : Int)) = false := by simp; omega
    have d3 : decide ((X.length : Int) - (k : Int) < (l : Int)) = false := by simp; omega
    have hsm2 : X.length ≤ 4096 := h.small
    have hle2 : k + l ≤ X.length := by omega
    have HC := Lib.hid hn
    clear h hclp hP hP' hPl hn
    subst hvx
    clear hin
    unfold opv
    unfold bx at *
    go_enter Try.func15, Try.ntmps15
    go_wp2_with (fail)
    refine (H23.out _ ((Ch.refl No w).alloc _)).mono ?_
    rintro e w1 ⟨v', rfl, ho, hc⟩
    have HC1 : Hid (Ch No w w1) := ((Ch.refl No w).alloc _).then_ hc
    obtain ⟨b1, b2, b3, b4, b5⟩ := HB.out w1 hc.is
    have HO := Lib.hid ho
    have HCB := Lib.hid hc
    clear ho hc
    go_upto_region 42 with (fail)
    clear b1 b2 b3 b4 b5
    have HCE : Hid (∀ w', Ch No w1 w' → BxC w' w.heap.size 6 f a (k : Int) x A l c) := fun w' hw' => HB.out w' (HCB.out.then_ hw').is
    refine wp_region_quiet_tail 13 (by kernel_rfl) (by kernel_rfl) (fun w' => Ch No w1 w') ((Ch.refl _ _).drew) ?_
    simp only [List.take_succ_cons, List.take_zero, List.drop_succ_cons, List.drop_zero]
    refine wpQuiet_value (by rfl) ((.slice (some ⟨g, 0, none⟩) n cap)) (fun _ => rfl) ?_
    simp only [Act.put, List.setIfInBounds_toArray, List.set_cons_zero, List.set_cons_succ]
    refine wpQuiet_value (by rfl) (.pointer (some ⟨w.heap.size, 1, none⟩)) (fun _ => by kernel_rfl) ?_
    simp only [Act.put, List.setIfInBounds_toArray, List.set_cons_zero, List.set_cons_succ]
    refine wpQuiet_read (by rfl) (.int .i64 f) (fun w' hw' => exec_load_cell 3 (.tmp 244) rfl ⟨w.heap.size, 1, none⟩ rfl _ Try.underlying3 rfl _ (HCE.out w' hw').1) ?_
    simp only [Act.put, List.setIfInBounds_toArray, List.set_cons_zero, List.set_cons_succ]
    refine wpQuiet_value (by rfl) (.pointer (some ⟨w.heap.size, 2, none⟩)) (fun _ => by kernel_rfl) ?_
    simp only [Act.put, List.setIfInBounds_toArray, List.set_cons_zero, List.set_cons_succ]
    refine wpQuiet_read (by rfl) (.int .i64 a) (fun w' hw' => exec_load_cell 2 (.tmp 246) rfl ⟨w.heap.size, 2, none⟩ rfl _ Try.underlying2 rfl _ (HCE.out w' hw').2.1) ?_
    simp only [Act.put, List.setIfInBounds_toArray, List.set_cons_zero, List.set_cons_succ]
    refine wpQuiet_value (by rfl) ((.slice (some ⟨g, 0, none⟩) n cap)) (fun _ => rfl) ?_
    simp only [Act.put, List.setIfInBounds_toArray, List.set_cons_zero, List.set_cons_succ]
    refine wpQuiet_value (by rfl) (.pointer (some ⟨w.heap.size, 3, none⟩)) (fun _ => by kernel_rfl) ?_
    simp only [Act.put, List.setIfInBounds_toArray, List.set_cons_zero, List.set_cons_succ]
    refine wpQuiet_read (by rfl) (.int .i64 (k : Int)) (fun w' hw' => exec_load_cell 3 (.tmp 249) rfl ⟨w.heap.size, 3, none⟩ rfl _ Try.underlying3 rfl _ (HCE.out w' hw').2.2.1) ?_
    simp only [Act.put, List.setIfInBounds_toArray, List.set_cons_zero, List.set_cons_succ]
    refine wpQuiet_value (by rfl) (.pointer (some ⟨w.heap.size, 3, none⟩)) (fun _ => by kernel_rfl) ?_
    simp only [Act.put, List.setIfInBounds_toArray, List.set_cons_zero, List.set_cons_succ]
    refine wpQuiet_read (by rfl) (.int .i64 (k : Int)) (fun w' hw' => exec_load_cell 3 (.tmp 251) rfl ⟨w.heap.size, 3, none⟩ rfl _ Try.underlying3 rfl _ (HCE.out w' hw').2.2.1) ?_
    simp only [Act.put, List.setIfInBounds_toArray, List.set_cons_zero, List.set_cons_succ]
    refine wpQuiet_value (by rfl) (.int .i64 (l : Int)) (fun _ => rfl) ?_
    simp only [Act.put, List.setIfInBounds_toArray, List.set_cons_zero, List.set_cons_succ]
    refine wpQuiet_value (by rfl) (.int .i64 ((k + l : Nat) : Int)) (fun _ => exec_addI (.tmp 252) (.tmp 253) rfl (k : Int) (l : Int) _ rfl rfl (by omega) (by omega)) ?_
    simp only [Act.put, List.setIfInBounds_toArray, List.set_cons_zero, List.set_cons_succ]
    refine wpQuiet_value (by rfl) (.slice (some ⟨g, k, none⟩) l (cap - k)) (fun _ => exec_piece (.tmp 248) (.tmp 250) (.tmp 254) rfl g n cap k (k + l) rfl rfl rfl (by omega) hkc hk40 hcm _ _ (by omega) rfl) ?_
    simp only [Act.put, List.setIfInBounds_toArray, List.set_cons_zero, List.set_cons_succ]
    refine wpQuiet_nil ?_
    intro w2 hw2
    have HC2 := Lib.hid hw2
    clear hw2
    go_wp2_with (fail)
    refine (H9.out w2 (HC1.out.then_ HC2.out)).mono ?_
    rintro e w3 ⟨rfl, hr3, hc3⟩
    have HR3 := Lib.hid hr3
    have HC3 := Lib.hid hc3
    obtain ⟨b1, b2, b3, b4, b5⟩ := HB.out w3 ((HCB.out.then_ HC2.out).is.trans hc3 (fun _ _ h => h))
    have HO3 := Lib.hid (((HO.out.keepNo HC2.out).keepD hc3 (fun k hk e => by
      have h1 := HO.out.own k hk
      have h2 := HGS.out
      have h3 : k = g := e
      simp at h1
      omega)).low (c := w.heap.size) (by simp))
    clear hr3 hc3
    go_wp2_with (fail)
    refine (H24.out w2 w3 v' (HC1.out.then_ HC2.out) HC3.out HO3.out).mono ?_
    rintro e w4 ⟨v2, rfl, ho, hc⟩
    have HF := Lib.hid (HE.out w2 w3 w4 v2 (HC1.out.then_ HC2.out) HR3.out HC3.out ho hc)
    clear ho hc
    go_wp2_with (fail)
    exact bodyPost_ret (v := .tuple #[v2, .bool true]) (by kernel_rfl) rfl HF.out
  · have HE : Hid (∀ wr, Ch No w wr → PStep w g cap n rest (.returned (.tuple #[vx, .bool true])) wr) := fun wr hc => ⟨X, vx, rfl, h.keepNo hc, hn.symm, hc.is⟩
    have hsm2 : X.length ≤ 4096 := h.small
    by_cases h1 : nn < 0
    · have d1 := decide_lt_t h1
      clear h hn hin h1
      subst hvx
      unfold opv
      unfold bx at *
      go_enter Try.func15, Try.ntmps15
      go_wp2_with (fail)
      exact bodyPost_ret (v := .tuple #[.slice B X.length cx, .bool true]) (by kernel_rfl) rfl (HE.out _ ((Ch.refl No w).alloc _))
    · obtain ⟨k, rfl⟩ := Int.eq_ofNat_of_zero_le (show 0 ≤ nn by omega)
      by_cases h2 : X.length < k
      · have d1 : decide ((k : Int) < 0) = false := by simp
        have d2 : decide ((X.length : Int) < (k : Int)) = true := by simp; omega
        clear h hn hin h1
        subst hvx
        unfold opv
        unfold bx at *
        go_enter Try.func15, Try.ntmps15
        go_wp2_with (fail)
        exact bodyPost_ret (v := .tuple #[.slice B X.length cx, .bool true]) (by kernel_rfl) rfl (HE.out _ ((Ch.refl No w).alloc _))
      · have d1 : decide ((k : Int) < 0) = false := by simp
        have d2 : decide ((X.length : Int) < (k : Int)) = false := by simp; omega
        have d3 : decide ((X.length : Int) - (k : Int) < (l : Int)) = true := by simp; omega
        have h3 : (0 : Int) ≤ (X.length : Int) - (k : Int) := by omega
        clear h hn hin h1
        subst hvx
        unfold opv
        unfold bx at *
        go_enter Try.func15, Try.ntmps15
        go_wp2_with (fail)
        exact bodyPost_ret (v := .tuple #[.slice B X.length cx, .bool true]) (by kernel_rfl) rfl (HE.out _ ((Ch.refl No w).alloc _))
end Go.Proofs.Ytbllpojljdhnoaa