/- the law's function 'ordered'. -/
import Derived.Test.YtbcnkggecgblbaaA9
set_option linter.unusedVariables false
set_option linter.unusedSimpArgs false
namespace Go.Proofs.Ytbcnkggecgblbaa
open Go.RowKit
/-- the greater priority first -/
def Srt (L : List (Int × Int)) : Prop := L.Pairwise (fun x y => y.2 ≤ x.2)
def prAt (L : List (Int × Int)) (i : Nat) : Int := ((L[i]?).map (·.2)).getD 0
theorem ids_length (L : List (Int × Int)) : (ids L).length = L.length := by simp [ids]
theorem rd_ids (L : List (Int × Int)) (i : Nat) (x : Int × Int) (h : L[i]? = some x) : rd (ids L) i = x.1 := by
  simp [rd, ids, h]
/-- ids that differ: the first that is meant is the one -/
theorem find_ids (L : List (Int × Int)) (hn : (L.map (·.1)).Nodup) (i : Nat) (hi : i < L.length) : L.findIdx? (fun x => x.1 == rd (ids L) i) = some i := by
  have hx := List.getElem?_eq_getElem hi
  rw [rd_ids L i _ hx, List.findIdx?_eq_some_iff_getElem]
  refine ⟨hi, by simp, fun q hq => ?_⟩
  intro he
  have h2 := (List.getElem_inj (i := q) (j := i) (h₀ := by simp; omega) (h₁ := by simpa using hi) hn).1 (by simpa using he)
  omega
theorem prio_at (L : List (Int × Int)) (hn : (L.map (·.1)).Nodup) (i : Nat) (hi : i < L.length) : prio (rd (ids L) i) L = (prAt L i, true) := by
  unfold prio
  rw [find_ids L hn i hi]
  rfl
theorem wher_ids (L : List (Int × Int)) (id : Int) : wher (ids L) id = plc id L := by
  unfold wher plc idx ids
  rw [List.findIdx?_map]
  rfl
theorem wher_at (L : List (Int × Int)) (hn : (L.map (·.1)).Nodup) (i : Nat) (hi : i < L.length) : wher (ids L) (rd (ids L) i) = (i : Int) := by
  rw [wher_ids]
  unfold plc idx
  rw [find_ids L hn i hi]
theorem srt_at (L : List (Int × Int)) (hs : Srt L) (i : Nat) (h0 : 0 < i) (hi : i < L.length) : prAt L i ≤ prAt L (i - 1) := by
  have h1 := List.getElem?_eq_getElem hi
  have h2 := List.getElem?_eq_getElem (l := L) (i := i - 1) (by omega)
  unfold prAt
  rw [h1, h2]
  exact List.pairwise_iff_getElem.1 hs (i - 1) i (by omega) hi (by omega)
theorem one3 : (Try.prog.info? 3).map (·.size) = some 1 := by kernel_rfl
/-- &s[i], as an operation of a region's head -/
theorem exec_at {a : Act} {o : Oper} {w : World} (t e : TypeId) (x y : Operand) (ho : o.op = .indexAddr t x y) (hu : Try.prog.underlying t = some (.slice e)) (hs : (Try.prog.info? e).map (·.size) = some 1) (ad : Addr) (n cap i : Nat) (hx : a.eval x = .slice (some ad) n cap) (hy : a.eval y = .int .i64 (i : Int)) (hi : i < n) :
    (execOp a.eval o).run Try.prog w = .ok (.value (.pointer (some (ad.add i)))) w := by
  have h1 : (i : Int) < (n : Int) := by omega
  have h2 : decide ((i : Int) < 0) = false := by simp
  obtain ⟨ti, hti, hts⟩ := Option.map_eq_some_iff.1 hs
  unfold execOp
  simp only [ho]
  generalize a.eval = ρ at *
  simp only [hx, hy]
  go_simp
  simp [sizeOf, typeInfo, hti, hts]
/-- x - 1 -/
theorem exec_sub {a : Act} {o : Oper} {w : World} (x : Operand) (ho : o.op = .binOp .sub 3 x (.const (.int .i64 1)) 3) (p q : Int) (hx : a.eval x = .int .i64 p) (hq : q = p - 1) (hb : 0 ≤ q ∧ q ≤ 9223372036854775807) :
    (execOp a.eval o).run Try.prog w = .ok (.value (.int .i64 q)) w := by
  have h1 : a.eval (.const (.int .i64 1)) = .int .i64 1 := rfl
  unfold execOp
  simp only [ho, hx, h1]
  go_simp
  rw [IntKind.wrap_i64]
  omega
set_option maxHeartbeats 4000000 in
theorem ordered_calls {base p : Nat} {N : Int} {v : Value} {L : List (Int × Int)} {w : World} (h : Ln base p N v L w) (hs : Srt L) :
    Calls Try.prog 16 #[.pointer (some ⟨p, 0, none⟩)] w fun e w' => e = .returned (.bool true) ∧ Ch No w w' := by
  have HL := Lib.hid h
  have hsm := h.small
  have HP : Hid (∀ i, i < (ids L).length → prio (rd (ids L) i) L = (prAt L i, true)) := fun i hi => prio_at L h.nd i (by rw [← ids_length]; exact hi)
  have HWH : Hid (∀ i, i < (ids L).length → wher (ids L) (rd (ids L) i) = (i : Int)) := fun i hi => wher_at L h.nd i (by rw [← ids_length]; exact hi)
  have HS : Hid (∀ i, 0 < i → i < (ids L).length → prAt L i ≤ prAt L (i - 1)) := fun i h0 hi => srt_at L hs i h0 (by rw [← ids_length]; exact hi)
  have hlen : Hid ((ids L).length = L.length) := ids_length L
  have hli := Lib.hid (list_calls h)
  have hp := h.row.lt
  clear h hs
  go_enter Try.func16, Try.ntmps16
  go_wp2_with (fail)
  refine hli.out.mono ?_
  rintro e w1 ⟨v1, rfl, hown, hc1⟩
  have hol : Ol w.heap.size w1 v1 (ids L) := ⟨hown, by rw [hlen.out]; omega⟩
  obtain ⟨A, cap, rfl, hcl, hl6⟩ := hol.sl
  have HL1 := Lib.hid (HL.out.keepNo hc1)
  have HC1 := Lib.hid hc1
  have HX := Lib.hid hcl
  have hp1 := HL1.out.row.lt
  clear hown hc1 hcl hol hli
  go_wp2_with (fail)
  go_loopw [4] (fun i wr => ∃ j : Nat, j ≤ (ids L).length ∧ i = .int .i64 j ∧ Hid (Ch No w1 wr)) (fun i _ => (ids L).length - (intOf i).toNat)
  case atStart => exact ⟨0, by omega, rfl, Ch.refl _ _⟩
  case round =>
    obtain ⟨j, hj, rfl, HC⟩ := hrel
    by_cases hlt : j < (ids L).length
    · obtain ⟨ad, ea, _⟩ := cl_rd (HX.out.keepNo HC.out) j hlt
      subst ea
      have HCA : Hid (∀ w', Ch No w1 w' → ∀ i, i < (ids L).length → w'.cell? (ad.add i) = some (.int .i64 (rd (ids L) i))) := fun w' hc i hi => by
        obtain ⟨ad', e, hcell⟩ := cl_rd (HX.out.keepNo hc) i hi
        cases e
        exact hcell
      have d0 : decide ((j : Int) < ((ids L).length : Int)) = true := by simpa using hlt
      have hji : (j : Int) < ((ids L).length : Int) := by omega
      have hjn : decide ((j : Int) < 0) = false := by simp
      go_upto_region 5 with (fail)
      refine wp_region_quiet_tail 12 (by kernel_rfl) (by kernel_rfl) (fun w' => Ch No w1 w') (HC.out.drew) ?_
      simp only [List.take_succ_cons, List.take_zero, List.drop_succ_cons, List.drop_zero]
      refine wpQuiet_value (by rfl) (.pointer (some ⟨p, 0, none⟩)) (fun _ => rfl) ?_
      simp only [Act.put, List.setIfInBounds_toArray, List.set_cons_zero, List.set_cons_succ]
      refine wpQuiet_value (by rfl) (.pointer (some ⟨p, 0, none⟩)) (fun _ => rfl) ?_
      simp only [Act.put, List.setIfInBounds_toArray, List.set_cons_zero, List.set_cons_succ]
      refine wpQuiet_value (by rfl) (.pointer (some ⟨p, 0, none⟩)) (fun _ => by kernel_rfl) ?_
      simp only [Act.put, List.setIfInBounds_toArray, List.set_cons_zero, List.set_cons_succ]
      refine wpQuiet_value (by rfl) (.slice (some ad) (ids L).length cap) (fun _ => rfl) ?_
      simp only [Act.put, List.setIfInBounds_toArray, List.set_cons_zero, List.set_cons_succ]
      refine wpQuiet_value (by rfl) (.int .i64 (j : Int)) (fun _ => rfl) ?_
      simp only [Act.put, List.setIfInBounds_toArray, List.set_cons_zero, List.set_cons_succ]
      refine wpQuiet_value (by rfl) (.pointer (some (ad.add j))) (fun w' => exec_at 37 3 (.tmp 21) (.tmp 22) rfl Try.underlying37 one3 ad (ids L).length cap j rfl rfl hlt) ?_
      simp only [Act.put, List.setIfInBounds_toArray, List.set_cons_zero, List.set_cons_succ]
      refine wpQuiet_read (by rfl) (.int .i64 (rd (ids L) j)) (fun w' hw' => exec_load_cell 3 (.tmp 23) rfl (ad.add j) rfl _ Try.underlying3 rfl _ (HCA.out w' hw' j hlt)) ?_
      simp only [Act.put, List.setIfInBounds_toArray, List.set_cons_zero, List.set_cons_succ]
      refine wpQuiet_call (by rfl) (.tuple #[.int .i64 (prAt L j), .bool true]) 17 #[.pointer (some ⟨p, 0, none⟩), .int .i64 (rd (ids L) j)] (fun _ => by kernel_rfl) (fun w' hw' => (priority_calls (HL1.out.keepNo hw') _).mono fun e w'' h => ⟨by rw [h.1, HP.out j hlt], hw'.then_ h.2⟩) ?_
      simp only [Act.put, List.setIfInBounds_toArray, List.set_cons_zero, List.set_cons_succ]
      refine wpQuiet_value (by rfl) (.tuple #[.int .i64 (prAt L j), .bool true]) (fun _ => rfl) ?_
      simp only [Act.put, List.setIfInBounds_toArray, List.set_cons_zero, List.set_cons_succ]
      refine wpQuiet_value (by rfl) (.int .i64 (prAt L j)) (fun _ => by kernel_rfl) ?_
      simp only [Act.put, List.setIfInBounds_toArray, List.set_cons_zero, List.set_cons_succ]
      refine wpQuiet_value (by rfl) (.bool true) (fun _ => by kernel_rfl) ?_
      simp only [Act.put, List.setIfInBounds_toArray, List.set_cons_zero, List.set_cons_succ]
      refine wpQuiet_value (by rfl) (.int .i64 (prAt L j)) (fun _ => by kernel_rfl) ?_
      simp only [Act.put, List.setIfInBounds_toArray, List.set_cons_zero, List.set_cons_succ]
      refine wpQuiet_nil ?_
      intro w5 hw5
      have HC5 := Lib.hid hw5
      clear hw5
      refine pl_value rfl (.bool true) (by kernel_rfl) ?_
      simp only [Act.put, List.setIfInBounds_toArray, List.set_cons_zero, List.set_cons_succ]
      have hcj := HCA.out w5 HC5.out j hlt
      have hwc := where_calls (rd (ids L) j) (w := w5) (v := .slice (some ad) (ids L).length cap) ⟨some ad, cap, rfl, HX.out.keepNo HC5.out, hl6⟩
      rw [HWH.out j hlt] at hwc
      have HWC := Lib.hid hwc
      clear hwc
      go_wp2_with (fail)
      refine HWC.out.mono ?_
      rintro e w6 ⟨rfl, rfl⟩
      by_cases h0 : 0 < j
      · obtain ⟨m, rfl⟩ : ∃ m, j = m + 1 := ⟨j - 1, by omega⟩
        have HPG : Hid (decide (prAt L m < prAt L (m + 1)) = false) := decide_eq_false (by have := HS.out (m + 1) h0 hlt; simp only [Nat.add_sub_cancel] at this; omega)
        have hpg := HPG.out
        have hmn : m < (ids L).length := by omega
        have d9 : decide ((0 : Int) < ((m + 1 : Nat) : Int)) = true := decide_eq_true (by omega)
        go_upto_region 9 with (fail)
        refine wp_region_quiet_tail 13 (by kernel_rfl) (by kernel_rfl) (fun w' => Ch No w1 w') (HC5.out.drew) ?_
        simp only [List.take_succ_cons, List.take_zero, List.drop_succ_cons, List.drop_zero]
        refine wpQuiet_value (by rfl) (.pointer (some ⟨p, 0, none⟩)) (fun _ => rfl) ?_
        simp only [Act.put, List.setIfInBounds_toArray, List.set_cons_zero, List.set_cons_succ]
        refine wpQuiet_value (by rfl) (.pointer (some ⟨p, 0, none⟩)) (fun _ => rfl) ?_
        simp only [Act.put, List.setIfInBounds_toArray, List.set_cons_zero, List.set_cons_succ]
        refine wpQuiet_value (by rfl) (.pointer (some ⟨p, 0, none⟩)) (fun _ => by kernel_rfl) ?_
        simp only [Act.put, List.setIfInBounds_toArray, List.set_cons_zero, List.set_cons_succ]
        refine wpQuiet_value (by rfl) (.slice (some ad) (ids L).length cap) (fun _ => rfl) ?_
        simp only [Act.put, List.setIfInBounds_toArray, List.set_cons_zero, List.set_cons_succ]
        refine wpQuiet_value (by rfl) (.int .i64 ((m + 1 : Nat) : Int)) (fun _ => rfl) ?_
        simp only [Act.put, List.setIfInBounds_toArray, List.set_cons_zero, List.set_cons_succ]
        refine wpQuiet_value (by rfl) (.int .i64 (m : Int)) (fun w' => exec_sub (.tmp 47) rfl ((m + 1 : Nat) : Int) (m : Int) rfl (by omega) (by omega)) ?_
        simp only [Act.put, List.setIfInBounds_toArray, List.set_cons_zero, List.set_cons_succ]
        refine wpQuiet_value (by rfl) (.pointer (some (ad.add m))) (fun w' => exec_at 37 3 (.tmp 46) (.tmp 48) rfl Try.underlying37 one3 ad (ids L).length cap m rfl rfl hmn) ?_
        simp only [Act.put, List.setIfInBounds_toArray, List.set_cons_zero, List.set_cons_succ]
        refine wpQuiet_read (by rfl) (.int .i64 (rd (ids L) m)) (fun w' hw' => exec_load_cell 3 (.tmp 49) rfl (ad.add m) rfl _ Try.underlying3 rfl _ (HCA.out w' hw' m hmn)) ?_
        simp only [Act.put, List.setIfInBounds_toArray, List.set_cons_zero, List.set_cons_succ]
        refine wpQuiet_call (by rfl) (.tuple #[.int .i64 (prAt L m), .bool true]) 17 #[.pointer (some ⟨p, 0, none⟩), .int .i64 (rd (ids L) m)] (fun _ => by kernel_rfl) (fun w' hw' => (priority_calls (HL1.out.keepNo hw') _).mono fun e w'' h => ⟨by rw [h.1, HP.out m hmn], hw'.then_ h.2⟩) ?_
        simp only [Act.put, List.setIfInBounds_toArray, List.set_cons_zero, List.set_cons_succ]
        refine wpQuiet_value (by rfl) (.tuple #[.int .i64 (prAt L m), .bool true]) (fun _ => rfl) ?_
        simp only [Act.put, List.setIfInBounds_toArray, List.set_cons_zero, List.set_cons_succ]
        refine wpQuiet_value (by rfl) (.int .i64 (prAt L m)) (fun _ => by kernel_rfl) ?_
        simp only [Act.put, List.setIfInBounds_toArray, List.set_cons_zero, List.set_cons_succ]
        refine wpQuiet_value (by rfl) (.bool true) (fun _ => by kernel_rfl) ?_
        simp only [Act.put, List.setIfInBounds_toArray, List.set_cons_zero, List.set_cons_succ]
        refine wpQuiet_value (by rfl) (.int .i64 (prAt L m)) (fun _ => by kernel_rfl) ?_
        simp only [Act.put, List.setIfInBounds_toArray, List.set_cons_zero, List.set_cons_succ]
        refine wpQuiet_nil ?_
        intro w7 hw7
        have HC7 := Lib.hid hw7
        clear hw7
        refine pl_value rfl (.bool true) (by kernel_rfl) ?_
        simp only [Act.put, List.setIfInBounds_toArray, List.set_cons_zero, List.set_cons_succ]
        go_wp2_with (fail)
        go_roundw
        · exact ⟨m + 1 + 1, by omega, by go_num, HC7⟩
        · simp [intOf]; omega
      · obtain rfl : j = 0 := by omega
        go_wp2_with (fail)
        go_roundw
        · exact ⟨0 + 1, by omega, by go_num, HC5⟩
        · simp [intOf]; omega
    · obtain rfl : j = (ids L).length := by omega
      have d0 : decide (((ids L).length : Int) < ((ids L).length : Int)) = false := by simp
      have HLC := Lib.hid (len_calls (HL1.out.keepNo HC.out))
      have hpr := (HL1.out.keepNo HC.out).row.lt
      have heq : ((L.length : Int) == ((ids L).length : Int)) = true := by rw [hlen.out]; simp
      go_wp2_with (fail)
      refine HLC.out.mono ?_
      rintro e w6 ⟨rfl, rfl⟩
      go_wp2_with (fail)
      go_ret
      exact ⟨by simp [hlen.out], HC1.out.then_ HC.out⟩
end Go.Proofs.Ytbcnkggecgblbaa
