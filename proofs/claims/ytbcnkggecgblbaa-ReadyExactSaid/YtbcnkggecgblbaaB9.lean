/- the law's function 'step'. -/
import Derived.Test.YtbcnkggecgblbaaB8
set_option linter.unusedVariables false
set_option linter.unusedSimpArgs false
namespace Go.Proofs.Ytbcnkggecgblbaa
open Go.RowKit
/-- what lasts in 'step' -/
structure SB (base p : Nat) (N : Int) (v : Value) (L : List (Int × Int)) (u : Value) (X : List Tri) (T : Int) (b : Nat) (o : OpR) (w : World) : Prop where
  ln : Ln base p N v L w
  rf : Rf w u X
  h4 : Row w b 28 (rl N u T)
  h5 : Row w (b + 1) 33 o.cells
  h6 : Row w (b + 2) 28 (rl 0 (.slice none 0 0) 0)
theorem SB.no {base p : Nat} {N : Int} {v : Value} {L : List (Int × Int)} {u : Value} {X : List Tri} {T : Int} {b : Nat} {o : OpR} {w w' : World} (h : SB base p N v L u X T b o w) (hc : Ch No w w') : SB base p N v L u X T b o w' :=
  ⟨h.ln.keepNo hc, h.rf.keepNo hc, h.h4.keepNo hc, h.h5.keepNo hc, h.h6.keepNo hc⟩
theorem SB.next {base p : Nat} {N : Int} {v v' : Value} {L L' : List (Int × Int)} {u : Value} {X : List Tri} {T : Int} {b b' : Nat} {o : OpR} {w w' : World} (h : SB base p N v L u X T b o w) (hc : Chl b' w w') (hl : Ln base p N v' L' w') : SB base p N v' L' u X T b o w' :=
  ⟨hl, h.rf.keepl hc, hc.row _ _ _ h.h4 (by decide) (by decide), hc.row _ _ _ h.h5 (by decide) (by decide), hc.row _ _ _ h.h6 (by decide) (by decide)⟩
/-- what 'step' leaves -/
def Stp (base p : Nat) (N T : Int) (w : World) (e : Ending) (w' : World) : Prop :=
  ∃ (v' u' : Value) (L' : List (Int × Int)) (X' M' : List Tri) (T' : Int), e = .returned (.tuple #[.agg (rl N u' T').toArray, .bool true]) ∧ Ln base p N v' L' w' ∧ Rf w' u' X' ∧ Cor L' X' T' M' ∧ T ≤ T' ∧ T' ≤ T + 1 ∧ Chl base w w'
theorem Ln.keepR {base p g : Nat} {N : Int} {v : Value} {L : List (Int × Int)} {w w' : World} {R : List Value} (h : Ln base p N v L w) (hr : Row w g 28 R) (hc : Ch (Is g) w w') : Ln base p N v L w' :=
  h.keepD hc (row_ne h.row hr (by decide)) (fun k hk hd => by
    cases hd
    exact own_ne_row h.own hr (by decide) hk)
theorem chl_new {base g : Nat} {w0 w w' : World} (h : Chl base w0 w) (hc : Ch (Is g) w w') (hg : w0.heap.size ≤ g) (hb : base ≤ g) : Chl base w0 w' :=
  ⟨h.ch.trans hc (fun i _ hi => by cases hi; exact hb), fun g' t M hr h62 h45 => (h.row g' t M hr h62 h45).keepIs hc (by have := hr.lt; omega)⟩
set_option maxHeartbeats 8000000 in
set_option maxRecDepth 100000 in
theorem step_calls {base p : Nat} {N T : Int} {v u : Value} {L : List (Int × Int)} {X M : List Tri} {w : World} (h : Ln base p N v L w) (hx : Rf w u X) (hc : Cor L X T M) (hT : 0 ≤ T ∧ T ≤ 9223372036854775806) (o : OpR) :
    Calls Try.prog 7 #[.pointer (some ⟨p, 0, none⟩), .agg (rl N u T).toArray, .agg o.cells.toArray] w (Stp base p N T w) := by
  obtain ⟨kd, id, pri⟩ := o
  have hbw := h.hb
  have HC0 := Lib.hid hc
  have hu1 := hx.one
  have HU1 := Lib.hid (rl_one (N := N) (T := T) hu1)
  have HCH : Hid (Ch No w (((w.alloc (.cells (rl N u T).toArray 28)).alloc (.cells (OpR.cells ⟨kd, id, pri⟩).toArray 33)).alloc (.cells (rl 0 (.slice none 0 0) 0).toArray 28))) := (((Ch.refl _ _).alloc _).alloc _).alloc _
  have HS : Hid (SB base p N v L u X T w.heap.size ⟨kd, id, pri⟩ (((w.alloc (.cells (rl N u T).toArray 28)).alloc (.cells (OpR.cells ⟨kd, id, pri⟩).toArray 33)).alloc (.cells (rl 0 (.slice none 0 0) 0).toArray 28))) :=
    ⟨h.keepNo HCH.out, hx.keepNo HCH.out, ((Row.new w 28 (rl N u T)).alloc _).alloc _, (Row.new_at _ 33 _ (by simp)).alloc _, Row.new_at _ 28 _ (by simp)⟩
  clear h hx hc
  go_enter Try.func7, Try.ntmps7
  go_upto_region 1 with (fail)
  change Code.wp _ _ _ _ (((w.alloc (.cells (rl N u T).toArray 28)).alloc (.cells (OpR.cells ⟨kd, id, pri⟩).toArray 33)).alloc (.cells (rl 0 (.slice none 0 0) 0).toArray 28))
  generalize ((w.alloc (.cells (rl N u T).toArray 28)).alloc (.cells (OpR.cells ⟨kd, id, pri⟩).toArray 33)).alloc (.cells (rl 0 (.slice none 0 0) 0).toArray 28) = w1 at *
  have HC1 : Hid (Chl base w w1) := Chl.of_no HCH.out
  have c0 : w1.cell? ⟨w.heap.size + 1, 0, none⟩ = some (.int .i64 kd) := by rw [HS.out.h5.cell]; rfl
  have c1 : w1.cell? ⟨w.heap.size + 1, 1, none⟩ = some (.int .i64 id) := by rw [HS.out.h5.cell]; rfl
  have c2 : w1.cell? ⟨w.heap.size + 1, 2, none⟩ = some (.int .i64 pri) := by rw [HS.out.h5.cell]; rfl
  have hb5 : w.heap.size + 1 < w1.heap.size := HS.out.h5.lt
  have hp1 : p < w1.heap.size := HS.out.ln.row.lt
  clear HCH
  by_cases hk1 : kd = 1
  · subst hk1
    go_wp2_with (fail)
    by_cases hin : 1 ≤ id ∧ id ≤ N
    · refine (put_ok HS.out.ln id pri hin.1 hin.2).mono ?_
      rintro e w2 ⟨rfl, ⟨v2, hl2⟩, hc2⟩
      have HS2 := Lib.hid (HS.out.next hc2 hl2)
      have HC2 := Lib.hid (HC1.out.trans hc2)
      obtain ⟨M2, hcor⟩ := HC0.out.put' id pri
      have HCO := Lib.hid hcor
      have hwl : (wo id X).length + 1 ≤ 100000 := by
        have h1 := hcor.len'
        have h2 := hl2.small
        rw [List.length_append] at h1
        simp at h1
        omega
      clear hl2 hc2 hcor HS HC1 c0 c1 c2 hb5 hp1
      have d0 : w2.cell? ⟨w.heap.size + 1, 0, none⟩ = some (.int .i64 1) := by rw [HS2.out.h5.cell]; rfl
      have d1 : w2.cell? ⟨w.heap.size + 1, 1, none⟩ = some (.int .i64 id) := by rw [HS2.out.h5.cell]; rfl
      have d2 : w2.cell? ⟨w.heap.size + 1, 2, none⟩ = some (.int .i64 pri) := by rw [HS2.out.h5.cell]; rfl
      have hb5 : w.heap.size + 1 < w2.heap.size := HS2.out.h5.lt
      go_wp2_with (((with_reducible refine at_op (o := ⟨some 38, .load 28 (.tmp 4), _, _, _, _⟩) ?_); refine pl_load rfl 28 (.tmp 4) rfl (w.heap.size) rfl 28 (rl N u T) HS2.out.h4 _ Try.underlying28 rfl size28 ?_))
      refine (rput_ok HS2.out.rf N T id pri hin.1 hin.2 hT hwl).mono ?_
      rintro e w3 ⟨u3, rfl, hx3, hc3⟩
      have HX3 := Lib.hid hx3
      have HS3 := Lib.hid (HS2.out.no hc3)
      have HC3 := Lib.hid (HC2.out.then_ hc3)
      have H3 := Lib.hid (rl_one (N := N) (T := T + 1) hx3.one)
      clear hx3 hc3 HS2 HC2 d0 d1 d2 hb5
      have HR5 : Hid (Row (w3.alloc (.cells (rl 0 (.slice none 0 0) 0).toArray 28)) w3.heap.size 28 (rl 0 (.slice none 0 0) 0)) := Row.new w3 28 _
      have HA5 : Hid (Ch No w3 (w3.alloc (.cells (rl 0 (.slice none 0 0) 0).toArray 28))) := (Ch.refl _ _).alloc _
      go_upto_region 5 with (((with_reducible refine at_op (o := ⟨none, .store 28 (.tmp 9) (.tmp 44), _, _, _, _⟩) ?_); refine pl_store rfl 28 (.tmp 9) (.tmp 44) rfl (w3.heap.size) rfl 28 (rl 0 (.slice none 0 0) 0) (rl N u3 (T + 1)) rfl HR5.out size28 rfl H3.out ?_; intro w7 hr7 hc7; have HR7 := Lib.hid hr7; have HC7 := Lib.hid hc7; clear hr7 hc7))
      have HC57 : Hid (Ch No w3 w7) := ch_newg HA5.out HC7.out (Nat.le_refl _)
      have HS7 := Lib.hid (HS3.out.no HC57.out)
      have HX7 := Lib.hid (HX3.out.keepNo HC57.out)
      have HCL7 := Lib.hid (HC3.out.then_ HC57.out)
      go_wp2_with (first | ((with_reducible refine at_op (o := ⟨some 46, .load 28 (.tmp 9), _, _, _, _⟩) ?_); refine pl_load rfl 28 (.tmp 9) rfl (w3.heap.size) rfl 28 (rl N u3 (T + 1)) HR7.out _ Try.underlying28 rfl size28 ?_) | ((with_reducible refine at_op (o := ⟨none, .store 28 (.tmp 6) (.tmp 46), _, _, _, _⟩) ?_); refine pl_store rfl 28 (.tmp 6) (.tmp 46) rfl (w.heap.size + 2) rfl 28 (rl 0 (.slice none 0 0) 0) (rl N u3 (T + 1)) rfl HS7.out.h6 size28 rfl H3.out ?_; intro w8 hr8 hc8; have HR8 := Lib.hid hr8; have HC8 := Lib.hid hc8; clear hr8 hc8))
      exact bodyPost_ret (v := .tuple #[.agg (rl N u3 (T + 1)).toArray, .bool true]) (results_row2 rfl _ _ (w.heap.size + 2) 28 _ _ rfl HR8.out Try.underlying28 rfl size28 _ rfl) rfl ⟨v2, u3, _, _, _, (T + 1), rfl, HS7.out.ln.keepR HS7.out.h6 HC8.out, HX7.out.keepIs HS7.out.h6 HC8.out, HCO.out, by omega, by omega, chl_new HCL7.out HC8.out (by omega) (by omega)⟩
    · refine (put_bad HS.out.ln id pri (by omega)).mono ?_
      rintro e w2 ⟨rfl, hc2⟩
      have HS2 := Lib.hid (HS.out.no hc2)
      have HC2 := Lib.hid (HC1.out.then_ hc2)
      clear hc2 HS HC1 c0 c1 c2 hb5 hp1
      have d0 : w2.cell? ⟨w.heap.size + 1, 0, none⟩ = some (.int .i64 1) := by rw [HS2.out.h5.cell]; rfl
      have d1 : w2.cell? ⟨w.heap.size + 1, 1, none⟩ = some (.int .i64 id) := by rw [HS2.out.h5.cell]; rfl
      have d2 : w2.cell? ⟨w.heap.size + 1, 2, none⟩ = some (.int .i64 pri) := by rw [HS2.out.h5.cell]; rfl
      have hb5 : w.heap.size + 1 < w2.heap.size := HS2.out.h5.lt
      go_wp2_with (((with_reducible refine at_op (o := ⟨some 38, .load 28 (.tmp 4), _, _, _, _⟩) ?_); refine pl_load rfl 28 (.tmp 4) rfl (w.heap.size) rfl 28 (rl N u T) HS2.out.h4 _ Try.underlying28 rfl size28 ?_))
      refine (rput_bad HS2.out.rf N T id pri (by omega)).mono ?_
      rintro e w3 ⟨rfl, hc3⟩
      have HX3 := Lib.hid (HS2.out.rf.keepNo hc3)
      have HS3 := Lib.hid (HS2.out.no hc3)
      have HC3 := Lib.hid (HC2.out.then_ hc3)
      have H3 := HU1
      clear hc3 HS2 HC2 d0 d1 d2 hb5
      have HR5 : Hid (Row (w3.alloc (.cells (rl 0 (.slice none 0 0) 0).toArray 28)) w3.heap.size 28 (rl 0 (.slice none 0 0) 0)) := Row.new w3 28 _
      have HA5 : Hid (Ch No w3 (w3.alloc (.cells (rl 0 (.slice none 0 0) 0).toArray 28))) := (Ch.refl _ _).alloc _
      go_upto_region 5 with (((with_reducible refine at_op (o := ⟨none, .store 28 (.tmp 9) (.tmp 44), _, _, _, _⟩) ?_); refine pl_store rfl 28 (.tmp 9) (.tmp 44) rfl (w3.heap.size) rfl 28 (rl 0 (.slice none 0 0) 0) (rl N u T) rfl HR5.out size28 rfl H3.out ?_; intro w7 hr7 hc7; have HR7 := Lib.hid hr7; have HC7 := Lib.hid hc7; clear hr7 hc7))
      have HC57 : Hid (Ch No w3 w7) := ch_newg HA5.out HC7.out (Nat.le_refl _)
      have HS7 := Lib.hid (HS3.out.no HC57.out)
      have HX7 := Lib.hid (HX3.out.keepNo HC57.out)
      have HCL7 := Lib.hid (HC3.out.then_ HC57.out)
      go_wp2_with (first | ((with_reducible refine at_op (o := ⟨some 46, .load 28 (.tmp 9), _, _, _, _⟩) ?_); refine pl_load rfl 28 (.tmp 9) rfl (w3.heap.size) rfl 28 (rl N u T) HR7.out _ Try.underlying28 rfl size28 ?_) | ((with_reducible refine at_op (o := ⟨none, .store 28 (.tmp 6) (.tmp 46), _, _, _, _⟩) ?_); refine pl_store rfl 28 (.tmp 6) (.tmp 46) rfl (w.heap.size + 2) rfl 28 (rl 0 (.slice none 0 0) 0) (rl N u T) rfl HS7.out.h6 size28 rfl H3.out ?_; intro w8 hr8 hc8; have HR8 := Lib.hid hr8; have HC8 := Lib.hid hc8; clear hr8 hc8))
      exact bodyPost_ret (v := .tuple #[.agg (rl N u T).toArray, .bool true]) (results_row2 rfl _ _ (w.heap.size + 2) 28 _ _ rfl HR8.out Try.underlying28 rfl size28 _ rfl) rfl ⟨v, u, _, _, _, T, rfl, HS7.out.ln.keepR HS7.out.h6 HC8.out, HX7.out.keepIs HS7.out.h6 HC8.out, HC0.out, by omega, by omega, chl_new HCL7.out HC8.out (by omega) (by omega)⟩
  have hk11 : (kd == 1) = false := by simpa using hk1
  clear hk1
  by_cases hk2 : kd = 2
  · have hk22 : (kd == 2) = true := by simpa using hk2
    clear hk2
    go_upto_region 7 with (fail)
    refine wp_region_quiet_tail 5 (by kernel_rfl) (by kernel_rfl) (fun w' => Ch No w1 w') ((Ch.refl _ _).drew) ?_
    simp only [List.take_succ_cons, List.take_zero, List.drop_succ_cons, List.drop_zero]
    refine wpQuiet_value (by rfl) (.pointer (some ⟨p, 0, none⟩)) (fun _ => rfl) ?_
    simp only [Act.put, List.setIfInBounds_toArray, List.set_cons_zero, List.set_cons_succ]
    refine wpQuiet_value (by rfl) (.pointer (some ⟨p, 0, none⟩)) (fun _ => rfl) ?_
    simp only [Act.put, List.setIfInBounds_toArray, List.set_cons_zero, List.set_cons_succ]
    refine wpQuiet_value (by rfl) (.pointer (some ⟨p, 0, none⟩)) (fun _ => by kernel_rfl) ?_
    simp only [Act.put, List.setIfInBounds_toArray, List.set_cons_zero, List.set_cons_succ]
    refine wpQuiet_value (by rfl) (.pointer (some ⟨w.heap.size + 1, 1, none⟩)) (fun _ => by kernel_rfl) ?_
    simp only [Act.put, List.setIfInBounds_toArray, List.set_cons_zero, List.set_cons_succ]
    refine wpQuiet_read (by rfl) (.int .i64 id) (fun w' hw' => exec_load_cell 3 (.tmp 55) rfl ⟨w.heap.size + 1, 1, none⟩ rfl _ Try.underlying3 rfl _ (by rw [(HS.out.no hw').h5.cell]; rfl)) ?_
    simp only [Act.put, List.setIfInBounds_toArray, List.set_cons_zero, List.set_cons_succ]
    refine wpQuiet_nil ?_
    intro w2 hw2
    have HS2 := Lib.hid (HS.out.no hw2)
    have HC2 := Lib.hid (HC1.out.then_ hw2)
    clear hw2 HS HC1 c0 c1 c2 hb5 hp1
    go_wp2_with (fail)
    refine (remove_calls HS2.out.ln id).mono ?_
    rintro e w3 ⟨rfl, ⟨v3, hl3⟩, hc3⟩
    have HS3 := Lib.hid (HS2.out.next hc3 hl3)
    have HC3 := Lib.hid (HC2.out.trans hc3)
    have HCO := Lib.hid (HC0.out.rem' id)
    rw [HC0.out.has' id]
    clear hl3 hc3 HS2 HC2
    have d1 : w3.cell? ⟨w.heap.size + 1, 1, none⟩ = some (.int .i64 id) := by rw [HS3.out.h5.cell]; rfl
    have hb5 : w.heap.size + 1 < w3.heap.size := HS3.out.h5.lt
    go_wp2_with (((with_reducible refine at_op (o := ⟨some 59, .load 28 (.tmp 4), _, _, _, _⟩) ?_); refine pl_load rfl 28 (.tmp 4) rfl (w.heap.size) rfl 28 (rl N u T) HS3.out.h4 _ Try.underlying28 rfl size28 ?_))
    refine (rremove_calls HS3.out.rf N T id).mono ?_
    rintro e w4 ⟨u4, rfl, hx4, hc4⟩
    have HX4 := Lib.hid hx4
    have HS4 := Lib.hid (HS3.out.no hc4)
    have HC4 := Lib.hid (HC3.out.then_ hc4)
    have H4 := Lib.hid (rl_one (N := N) (T := T) hx4.one)
    clear hx4 hc4 HS3 HC3 d1 hb5
    generalize ((X.length : Int) != ((wo id X).length : Int)) = B at *
    have HR5 : Hid (Row (w4.alloc (.cells (rl 0 (.slice none 0 0) 0).toArray 28)) w4.heap.size 28 (rl 0 (.slice none 0 0) 0)) := Row.new w4 28 _
    have HA5 : Hid (Ch No w4 (w4.alloc (.cells (rl 0 (.slice none 0 0) 0).toArray 28))) := (Ch.refl _ _).alloc _
    go_upto_region 9 with (((with_reducible refine at_op (o := ⟨none, .store 28 (.tmp 12) (.tmp 63), _, _, _, _⟩) ?_); refine pl_store rfl 28 (.tmp 12) (.tmp 63) rfl (w4.heap.size) rfl 28 (rl 0 (.slice none 0 0) 0) (rl N u4 T) rfl HR5.out size28 rfl H4.out ?_; intro w7 hr7 hc7; have HR7 := Lib.hid hr7; have HC7 := Lib.hid hc7; clear hr7 hc7))
    have HC57 : Hid (Ch No w4 w7) := ch_newg HA5.out HC7.out (Nat.le_refl _)
    have HS7 := Lib.hid (HS4.out.no HC57.out)
    have HX7 := Lib.hid (HX4.out.keepNo HC57.out)
    have HCL7 := Lib.hid (HC4.out.then_ HC57.out)
    go_wp2_with (first | ((with_reducible refine at_op (o := ⟨some 65, .load 28 (.tmp 12), _, _, _, _⟩) ?_); refine pl_load rfl 28 (.tmp 12) rfl (w4.heap.size) rfl 28 (rl N u4 T) HR7.out _ Try.underlying28 rfl size28 ?_) | ((with_reducible refine at_op (o := ⟨none, .store 28 (.tmp 6) (.tmp 65), _, _, _, _⟩) ?_); refine pl_store rfl 28 (.tmp 6) (.tmp 65) rfl (w.heap.size + 2) rfl 28 (rl 0 (.slice none 0 0) 0) (rl N u4 T) rfl HS7.out.h6 size28 rfl H4.out ?_; intro w8 hr8 hc8; have HR8 := Lib.hid hr8; have HC8 := Lib.hid hc8; clear hr8 hc8))
    exact bodyPost_ret (v := .tuple #[.agg (rl N u4 T).toArray, .bool true]) (results_row2 rfl _ _ (w.heap.size + 2) 28 _ _ rfl HR8.out Try.underlying28 rfl size28 _ (by simp)) rfl ⟨v3, u4, _, _, _, T, rfl, HS7.out.ln.keepR HS7.out.h6 HC8.out, HX7.out.keepIs HS7.out.h6 HC8.out, HCO.out, by omega, by omega, chl_new HCL7.out HC8.out (by omega) (by omega)⟩
  have hk22 : (kd == 2) = false := by simpa using hk2
  clear hk2
  by_cases hk3 : kd = 3
  · have hk33 : (kd == 3) = true := by simpa using hk3
    clear hk3
    go_wp2_with (fail)
    refine (first_calls HS.out.ln).mono ?_
    rintro e w2 ⟨rfl, rfl⟩
    rw [HC0.out.fst']
    go_wp2_with (((with_reducible refine at_op (o := ⟨some 79, .load 28 (.tmp 4), _, _, _, _⟩) ?_); refine pl_load rfl 28 (.tmp 4) rfl (w.heap.size) rfl 28 (rl N u T) HS.out.h4 _ Try.underlying28 rfl size28 ?_))
    refine (rfirst_calls HS.out.rf HC0.out.ord N T).mono ?_
    rintro e w2 ⟨rfl, hc2⟩
    have HS2 := Lib.hid (HS.out.no hc2)
    have HC2 := Lib.hid (HC1.out.then_ hc2)
    clear hc2 HS HC1 c0 c1 c2 hb5 hp1
    generalize (hd3 M).1 = F1 at *
    generalize (hd3 M).2 = F2 at *
    go_wp2_with (first | ((with_reducible refine at_op (o := ⟨some 83, .load 28 (.tmp 4), _, _, _, _⟩) ?_); refine pl_load rfl 28 (.tmp 4) rfl (w.heap.size) rfl 28 (rl N u T) HS2.out.h4 _ Try.underlying28 rfl size28 ?_) | ((with_reducible refine at_op (o := ⟨none, .store 28 (.tmp 6) (.tmp 83), _, _, _, _⟩) ?_); refine pl_store rfl 28 (.tmp 6) (.tmp 83) rfl (w.heap.size + 2) rfl 28 (rl 0 (.slice none 0 0) 0) (rl N u T) rfl HS2.out.h6 size28 rfl HU1.out ?_; intro w8 hr8 hc8; have HR8 := Lib.hid hr8; have HC8 := Lib.hid hc8; clear hr8 hc8))
    exact bodyPost_ret (v := .tuple #[.agg (rl N u T).toArray, .bool true]) (results_row2 rfl _ _ (w.heap.size + 2) 28 _ _ rfl HR8.out Try.underlying28 rfl size28 _ (by simp)) rfl ⟨v, u, L, X, M, T, rfl, HS2.out.ln.keepR HS2.out.h6 HC8.out, HS2.out.rf.keepIs HS2.out.h6 HC8.out, HC0.out, by omega, by omega, chl_new HC2.out HC8.out (by omega) (by omega)⟩
  have hk33 : (kd == 3) = false := by simpa using hk3
  clear hk3
  by_cases hk4 : kd = 4
  · have hk44 : (kd == 4) = true := by simpa using hk4
    clear hk4
    go_wp2_with (fail)
    refine (take_calls HS.out.ln).mono ?_
    rintro e w2 ⟨rfl, ⟨v2, hl2⟩, hc2⟩
    have HS2 := Lib.hid (HS.out.next hc2 hl2)
    have HC2 := Lib.hid (HC1.out.trans hc2)
    clear hl2 hc2 HS HC1 c0 c1 c2 hb5 hp1
    rw [HC0.out.fst']
    go_wp2_with (((with_reducible refine at_op (o := ⟨some 100, .load 28 (.tmp 4), _, _, _, _⟩) ?_); refine pl_load rfl 28 (.tmp 4) rfl (w.heap.size) rfl 28 (rl N u T) HS2.out.h4 _ Try.underlying28 rfl size28 ?_))
    refine (rtake_calls HS2.out.rf HC0.out.ord N T).mono ?_
    rintro e w4 ⟨u4, X4, rfl, hx4, ho4, hc4⟩
    have HX4 := Lib.hid hx4
    have HS4 := Lib.hid (HS2.out.no hc4)
    have HC4 := Lib.hid (HC2.out.then_ hc4)
    have HCO := Lib.hid (HC0.out.take' ho4)
    have H4 := Lib.hid (rl_one (N := N) (T := T) hx4.one)
    clear hx4 ho4 hc4 HS2 HC2
    generalize (hd3 M).1 = F1 at *
    generalize (hd3 M).2 = F2 at *
    have HR5 : Hid (Row (w4.alloc (.cells (rl 0 (.slice none 0 0) 0).toArray 28)) w4.heap.size 28 (rl 0 (.slice none 0 0) 0)) := Row.new w4 28 _
    have HA5 : Hid (Ch No w4 (w4.alloc (.cells (rl 0 (.slice none 0 0) 0).toArray 28))) := (Ch.refl _ _).alloc _
    go_upto_region 17 with (((with_reducible refine at_op (o := ⟨none, .store 28 (.tmp 20) (.tmp 102), _, _, _, _⟩) ?_); refine pl_store rfl 28 (.tmp 20) (.tmp 102) rfl (w4.heap.size) rfl 28 (rl 0 (.slice none 0 0) 0) (rl N u4 T) rfl HR5.out size28 rfl H4.out ?_; intro w7 hr7 hc7; have HR7 := Lib.hid hr7; have HC7 := Lib.hid hc7; clear hr7 hc7))
    have HC57 : Hid (Ch No w4 w7) := ch_newg HA5.out HC7.out (Nat.le_refl _)
    have HS7 := Lib.hid (HS4.out.no HC57.out)
    have HX7 := Lib.hid (HX4.out.keepNo HC57.out)
    have HCL7 := Lib.hid (HC4.out.then_ HC57.out)
    go_wp2_with (first | ((with_reducible refine at_op (o := ⟨some 105, .load 28 (.tmp 20), _, _, _, _⟩) ?_); refine pl_load rfl 28 (.tmp 20) rfl (w4.heap.size) rfl 28 (rl N u4 T) HR7.out _ Try.underlying28 rfl size28 ?_) | ((with_reducible refine at_op (o := ⟨none, .store 28 (.tmp 6) (.tmp 105), _, _, _, _⟩) ?_); refine pl_store rfl 28 (.tmp 6) (.tmp 105) rfl (w.heap.size + 2) rfl 28 (rl 0 (.slice none 0 0) 0) (rl N u4 T) rfl HS7.out.h6 size28 rfl H4.out ?_; intro w8 hr8 hc8; have HR8 := Lib.hid hr8; have HC8 := Lib.hid hc8; clear hr8 hc8))
    exact bodyPost_ret (v := .tuple #[.agg (rl N u4 T).toArray, .bool true]) (results_row2 rfl _ _ (w.heap.size + 2) 28 _ _ rfl HR8.out Try.underlying28 rfl size28 _ (by simp)) rfl ⟨v2, u4, _, _, _, T, rfl, HS7.out.ln.keepR HS7.out.h6 HC8.out, HX7.out.keepIs HS7.out.h6 HC8.out, HCO.out, by omega, by omega, chl_new HCL7.out HC8.out (by omega) (by omega)⟩
  have hk44 : (kd == 4) = false := by simpa using hk4
  clear hk4
  by_cases hk5 : kd = 5
  · have hk55 : (kd == 5) = true := by simpa using hk5
    clear hk5
    go_upto_region 19 with (fail)
    refine wp_region_quiet_tail 4 (by kernel_rfl) (by kernel_rfl) (fun w' => Ch No w1 w') ((Ch.refl _ _).drew) ?_
    simp only [List.take_succ_cons, List.take_zero, List.drop_succ_cons, List.drop_zero]
    refine wpQuiet_read (by rfl) (.agg (rl N u T).toArray) (fun w' hw' => exec_load_agg 28 (.tmp 4) rfl w.heap.size rfl 28 _ (HS.out.no hw').h4 _ Try.underlying28 rfl size28) ?_
    simp only [Act.put, List.setIfInBounds_toArray, List.set_cons_zero, List.set_cons_succ]
    refine wpQuiet_value (by rfl) (.pointer (some ⟨p, 0, none⟩)) (fun _ => rfl) ?_
    simp only [Act.put, List.setIfInBounds_toArray, List.set_cons_zero, List.set_cons_succ]
    refine wpQuiet_read (by rfl) (.agg (rl N u T).toArray) (fun w' hw' => exec_load_agg 28 (.tmp 4) rfl w.heap.size rfl 28 _ (HS.out.no hw').h4 _ Try.underlying28 rfl size28) ?_
    simp only [Act.put, List.setIfInBounds_toArray, List.set_cons_zero, List.set_cons_succ]
    refine wpQuiet_call (by rfl) (.bool true) 8 #[.pointer (some ⟨p, 0, none⟩), .agg (rl N u T).toArray] (fun _ => by kernel_rfl) (fun w' hw' => (listed_calls (HS.out.no hw').ln (HS.out.no hw').rf HC0.out).mono fun e w'' h => ⟨h.1, hw'.then_ h.2⟩) ?_
    simp only [Act.put, List.setIfInBounds_toArray, List.set_cons_zero, List.set_cons_succ]
    refine wpQuiet_nil ?_
    intro w2 hw2
    have HS2 := Lib.hid (HS.out.no hw2)
    have HC2 := Lib.hid (HC1.out.then_ hw2)
    clear hw2 HS HC1 c0 c1 c2 hb5 hp1
    go_wp2_with (((with_reducible refine at_op (o := ⟨none, .store 28 (.tmp 6) (.tmp 116), _, _, _, _⟩) ?_); refine pl_store rfl 28 (.tmp 6) (.tmp 116) rfl (w.heap.size + 2) rfl 28 (rl 0 (.slice none 0 0) 0) (rl N u T) rfl HS2.out.h6 size28 rfl HU1.out ?_; intro w8 hr8 hc8; have HR8 := Lib.hid hr8; have HC8 := Lib.hid hc8; clear hr8 hc8))
    exact bodyPost_ret (v := .tuple #[.agg (rl N u T).toArray, .bool true]) (results_row2 rfl _ _ (w.heap.size + 2) 28 _ _ rfl HR8.out Try.underlying28 rfl size28 _ (by simp)) rfl ⟨v, u, L, X, M, T, rfl, HS2.out.ln.keepR HS2.out.h6 HC8.out, HS2.out.rf.keepIs HS2.out.h6 HC8.out, HC0.out, by omega, by omega, chl_new HC2.out HC8.out (by omega) (by omega)⟩
  have hk55 : (kd == 5) = false := by simpa using hk5
  clear hk5
  by_cases hk6 : kd = 6
  · have hk66 : (kd == 6) = true := by simpa using hk6
    clear hk6
    have hpr := HC0.out.prio' id
    have HPR := Lib.hid hpr
    clear hpr
    go_upto_region 21 with (fail)
    refine wp_region_quiet_tail 10 (by kernel_rfl) (by kernel_rfl) (fun w' => Ch No w1 w') ((Ch.refl _ _).drew) ?_
    simp only [List.take_succ_cons, List.take_zero, List.drop_succ_cons, List.drop_zero]
    refine wpQuiet_value (by rfl) (.pointer (some ⟨p, 0, none⟩)) (fun _ => rfl) ?_
    simp only [Act.put, List.setIfInBounds_toArray, List.set_cons_zero, List.set_cons_succ]
    refine wpQuiet_value (by rfl) (.pointer (some ⟨p, 0, none⟩)) (fun _ => rfl) ?_
    simp only [Act.put, List.setIfInBounds_toArray, List.set_cons_zero, List.set_cons_succ]
    refine wpQuiet_value (by rfl) (.pointer (some ⟨p, 0, none⟩)) (fun _ => by kernel_rfl) ?_
    simp only [Act.put, List.setIfInBounds_toArray, List.set_cons_zero, List.set_cons_succ]
    refine wpQuiet_value (by rfl) (.pointer (some ⟨w.heap.size + 1, 1, none⟩)) (fun _ => by kernel_rfl) ?_
    simp only [Act.put, List.setIfInBounds_toArray, List.set_cons_zero, List.set_cons_succ]
    refine wpQuiet_read (by rfl) (.int .i64 id) (fun w' hw' => exec_load_cell 3 (.tmp 126) rfl ⟨w.heap.size + 1, 1, none⟩ rfl _ Try.underlying3 rfl _ (by rw [(HS.out.no hw').h5.cell]; rfl)) ?_
    simp only [Act.put, List.setIfInBounds_toArray, List.set_cons_zero, List.set_cons_succ]
    refine wpQuiet_call (by rfl) (.tuple #[.int .i64 (rpr id X).1, .bool (rpr id X).2]) 17 #[.pointer (some ⟨p, 0, none⟩), .int .i64 id] (fun _ => by kernel_rfl) (fun w' hw' => (priority_calls (HS.out.no hw').ln id).mono fun e w'' h => ⟨by rw [h.1, HPR.out], hw'.then_ h.2⟩) ?_
    simp only [Act.put, List.setIfInBounds_toArray, List.set_cons_zero, List.set_cons_succ]
    refine wpQuiet_value (by rfl) (.tuple #[.int .i64 (rpr id X).1, .bool (rpr id X).2]) (fun _ => rfl) ?_
    simp only [Act.put, List.setIfInBounds_toArray, List.set_cons_zero, List.set_cons_succ]
    refine wpQuiet_value (by rfl) (.int .i64 (rpr id X).1) (fun _ => by kernel_rfl) ?_
    simp only [Act.put, List.setIfInBounds_toArray, List.set_cons_zero, List.set_cons_succ]
    refine wpQuiet_value (by rfl) (.bool (rpr id X).2) (fun _ => by kernel_rfl) ?_
    simp only [Act.put, List.setIfInBounds_toArray, List.set_cons_zero, List.set_cons_succ]
    refine wpQuiet_value (by rfl) (.int .i64 (rpr id X).1) (fun _ => by kernel_rfl) ?_
    simp only [Act.put, List.setIfInBounds_toArray, List.set_cons_zero, List.set_cons_succ]
    refine wpQuiet_nil ?_
    intro w2 hw2
    have HS2 := Lib.hid (HS.out.no hw2)
    have HC2 := Lib.hid (HC1.out.then_ hw2)
    clear hw2 HS HC1 c0 c1 c2 hb5 hp1
    have d1 : w2.cell? ⟨w.heap.size + 1, 1, none⟩ = some (.int .i64 id) := by rw [HS2.out.h5.cell]; rfl
    have hb5 : w.heap.size + 1 < w2.heap.size := HS2.out.h5.lt
    refine pl_value rfl (.bool (rpr id X).2) (by kernel_rfl) ?_
    simp only [Act.put, List.setIfInBounds_toArray, List.set_cons_zero, List.set_cons_succ]
    go_wp2_with (((with_reducible refine at_op (o := ⟨some 132, .load 28 (.tmp 4), _, _, _, _⟩) ?_); refine pl_load rfl 28 (.tmp 4) rfl (w.heap.size) rfl 28 (rl N u T) HS2.out.h4 _ Try.underlying28 rfl size28 ?_))
    refine (rprio_calls HS2.out.rf N T id).mono ?_
    rintro e w3 ⟨rfl, hc3⟩
    have HS3 := Lib.hid (HS2.out.no hc3)
    have HC3 := Lib.hid (HC2.out.then_ hc3)
    clear hc3 HS2 HC2 d1 hb5
    have HS2 := HS3
    have HC2 := HC3
    clear HS3 HC3 HPR
    generalize (rpr id X).1 = F1 at *
    generalize (rpr id X).2 = F2 at *
    go_wp2_with (first | ((with_reducible refine at_op (o := ⟨some 138, .load 28 (.tmp 4), _, _, _, _⟩) ?_); refine pl_load rfl 28 (.tmp 4) rfl (w.heap.size) rfl 28 (rl N u T) HS2.out.h4 _ Try.underlying28 rfl size28 ?_) | ((with_reducible refine at_op (o := ⟨none, .store 28 (.tmp 6) (.tmp 138), _, _, _, _⟩) ?_); refine pl_store rfl 28 (.tmp 6) (.tmp 138) rfl (w.heap.size + 2) rfl 28 (rl 0 (.slice none 0 0) 0) (rl N u T) rfl HS2.out.h6 size28 rfl HU1.out ?_; intro w8 hr8 hc8; have HR8 := Lib.hid hr8; have HC8 := Lib.hid hc8; clear hr8 hc8))
    exact bodyPost_ret (v := .tuple #[.agg (rl N u T).toArray, .bool true]) (results_row2 rfl _ _ (w.heap.size + 2) 28 _ _ rfl HR8.out Try.underlying28 rfl size28 _ (by simp)) rfl ⟨v, u, L, X, M, T, rfl, HS2.out.ln.keepR HS2.out.h6 HC8.out, HS2.out.rf.keepIs HS2.out.h6 HC8.out, HC0.out, by omega, by omega, chl_new HC2.out HC8.out (by omega) (by omega)⟩
  have hk66 : (kd == 6) = false := by simpa using hk6
  clear hk6
  have HS2 := HS
  have HC2 := HC1
  go_wp2_with (first | ((with_reducible refine at_op (o := ⟨some 147, .load 28 (.tmp 4), _, _, _, _⟩) ?_); refine pl_load rfl 28 (.tmp 4) rfl (w.heap.size) rfl 28 (rl N u T) HS2.out.h4 _ Try.underlying28 rfl size28 ?_) | ((with_reducible refine at_op (o := ⟨none, .store 28 (.tmp 6) (.tmp 147), _, _, _, _⟩) ?_); refine pl_store rfl 28 (.tmp 6) (.tmp 147) rfl (w.heap.size + 2) rfl 28 (rl 0 (.slice none 0 0) 0) (rl N u T) rfl HS2.out.h6 size28 rfl HU1.out ?_; intro w8 hr8 hc8; have HR8 := Lib.hid hr8; have HC8 := Lib.hid hc8; clear hr8 hc8))
  exact bodyPost_ret (v := .tuple #[.agg (rl N u T).toArray, .bool true]) (results_row2 rfl _ _ (w.heap.size + 2) 28 _ _ rfl HR8.out Try.underlying28 rfl size28 _ (rfl)) rfl ⟨v, u, L, X, M, T, rfl, HS2.out.ln.keepR HS2.out.h6 HC8.out, HS2.out.rf.keepIs HS2.out.h6 HC8.out, HC0.out, by omega, by omega, chl_new HC2.out HC8.out (by omega) (by omega)⟩
end Go.Proofs.Ytbcnkggecgblbaa
