/- The reference of package mem: Write, Store, New. -/
import Derived.Test.YtbllpojljdhnoaaD1
set_option linter.unusedVariables false
set_option linter.unusedSimpArgs false
namespace Go.Proofs.Ytbllpojljdhnoaa
open Go.RowKit
/-- what Write leaves -/
def wri (xs : List Int) (fixed addr : Int) (ys : List Int) : List Int := if may xs.length fixed addr ys.length then splice xs addr.toNat ys else xs
theorem splice_len {α : Type} (xs : List α) (a : Nat) (ys : List α) (h : a + ys.length ≤ xs.length) : (splice xs a ys).length = xs.length := by
  simp [splice]
  omega
theorem wri_length (xs : List Int) (fixed addr : Int) (ys : List Int) : (wri xs fixed addr ys).length = xs.length := by
  unfold wri
  split
  · rename_i h
    have := may_yes h
    exact splice_len _ _ _ (by omega)
  · rfl
theorem rd_splice_mid (xs : List Int) (a : Nat) (ys : List Int) (h : a + ys.length ≤ xs.length) (i : Nat) (h1 : a ≤ i) (h2 : i < a + ys.length) : rd (splice xs a ys) i = rd ys (i - a) := by
  unfold rd splice
  simp only [List.getD_eq_getElem?_getD]
  rw [List.getElem?_append_right (by simp; omega), List.getElem?_append_left (by simp; omega)]
  simp [Nat.min_eq_left (show a ≤ xs.length by omega)]
theorem rd_splice_lo (xs : List Int) (a : Nat) (ys : List Int) (h : a + ys.length ≤ xs.length) (i : Nat) (h1 : i < a) : rd (splice xs a ys) i = rd xs i := by
  unfold rd splice
  simp only [List.getD_eq_getElem?_getD]
  rw [List.getElem?_append_left (by simp; omega), List.getElem?_take_of_lt h1]
theorem rd_splice_hi (xs : List Int) (a : Nat) (ys : List Int) (h : a + ys.length ≤ xs.length) (i : Nat) (h1 : a + ys.length ≤ i) : rd (splice xs a ys) i = rd xs i := by
  unfold rd splice
  simp only [List.getD_eq_getElem?_getD]
  rw [List.getElem?_append_right (by simp; omega), List.getElem?_append_right (by simp; omega), List.getElem?_drop]
  congr 2
  simp [Nat.min_eq_left (show a ≤ xs.length by omega)]
  omega
theorem decide_lt_t {a b : Int} (h : a < b) : decide (a < b) = true := by simpa using h
theorem decide_lt_f {a b : Int} (h : ¬ a < b) : decide (a < b) = false := by simpa using h
theorem decide_le_t {a b : Int} (h : a ≤ b) : decide (a ≤ b) = true := by simpa using h
theorem decide_le_f {a b : Int} (h : ¬ a ≤ b) : decide (a ≤ b) = false := by simpa using h
set_option maxHeartbeats 8000000 in
theorem rwrite_calls {w : World} {v u : Value} {xs ys : List Int} (h : Sl w v xs) (hu : Sl w u ys) (fixed addr : Int) :
    Calls Try.prog 24 #[v, .int .i64 fixed, .int .i64 addr, u] w fun e w' => ∃ v', e = .returned (.tuple #[v', .bool (may xs.length fixed addr ys.length)]) ∧ Ol w.heap.size w' v' (wri xs fixed addr ys) ∧ Ch No w w' := by
  obtain ⟨A, cap, rfl, hcl, hl⟩ := h
  obtain ⟨B, d, rfl, hdl, hm⟩ := hu
  have H := Lib.hid (rwritable xs.length fixed addr ys.length w (by omega) (by omega))
  have HCL := Lib.hid hcl
  have HDL := Lib.hid hdl
  clear hcl hdl
  obtain ⟨L, hL⟩ : ∃ L, L = wri xs fixed addr ys := ⟨_, rfl⟩
  have HLL : Hid (L.length = xs.length) := by show _ = _; rw [hL, wri_length]
  rw [← hL]
  cases hma : may xs.length fixed addr ys.length
  · rw [hma] at H
    have HLX : Hid (L = xs) := by show _ = _; rw [hL, wri, hma]; rfl
    clear hL hma
    go_enter Try.func24, Try.ntmps24
    go_wp2_with (fail)
    refine H.out.mono ?_
    rintro e w' ⟨rfl, rfl⟩
    go_wp2_with (fail)
    go_loopw [11, 12] (fun o i wr => ∃ j : Nat, j ≤ xs.length ∧ i = .int .i64 j ∧ Hid (wr.ownsRow w.heap.size 2 1 o (ints (L.take j)).length (ints (L.take j))) ∧ Hid (Ch No w wr)) (fun _ i _ => xs.length - (intOf i).toNat)
    case atStart => exact ⟨0, Nat.zero_le _, rfl, by exact owns_nil _ _ _ _, Ch.refl _ _⟩
    case round =>
      obtain ⟨j, hj, rfl, HO, HC⟩ := hrel
      by_cases hlt : j < xs.length
      · have d0 := decide_lt_t (show (j : Int) < (xs.length : Int) by omega)
        obtain ⟨ad, ea, hca⟩ := cl_rd (HCL.out.keepNo HC.out) j hlt
        subst ea
        have hca2 : wr.cell? (ad.add j) = some (.int .i64 (rd L j)) := by rw [HLX.out]; exact hca
        have HTK : Hid (L.take (j + 1) = L.take j ++ [rd L j]) := by
          show _ = _
          have h1 := HLL.out
          rw [List.take_succ_eq_append_getElem (by omega), rd_at _ _ (by omega)]
        have HLT : Hid ((ints (L.take j)).length = j) := by show _ = _; have h1 := HLL.out; rw [ints_length, List.length_take]; omega
        have HBY : Hid (((ints (L.take j)).length + 1) * 8 ≤ 140737488355328) := by show _ ≤ _; rw [HLT.out]; omega
        have HBS : Hid (w.heap.size ≤ (wr.alloc (.cells (ints [rd L j]).toArray 2)).heap.size) := ((HC.out.alloc _).size)
        clear hca
        go_wp2_with ((with_reducible refine at_op (o := ⟨some 54, .call { callee := .builtin .append, args := #[.tmp 48, .tmp 53], argTypes := #[22, 22] }, _, _, _, _⟩) ?_); refine wpList_append_to rfl (.tmp 48) (.tmp 53) 22 rfl w.heap.size 2 (.int .i64 0) 8 Try.underlying22 info2 rfl u11 (ints (L.take j)) rfl _ _ _ (ints [rd L j]) rfl (HO.out.alloc _) (ints_length _) ((Row.new wr 2 (ints [rd L j])).cl0) (ints_one _) HBY.out (by omega) HBS.out ?_; intro v1 w2 ho2 hg2 hat2; rw [← ints_append, ← HTK.out] at ho2; have HO2 := Lib.hid ho2; have HC2 : Hid (Ch No w w2) := (grown_no (Nat.le_refl _) (HO.out.alloc _) hg2 (HC.out.alloc _)); clear ho2 hg2 hat2)
        go_roundw
        · exact ⟨j + 1, by omega, by go_num, HO2, HC2⟩
        · simp [intOf]; omega
      · obtain rfl : j = xs.length := by omega
        have d0 : decide ((xs.length : Int) < (xs.length : Int)) = false := by simp
        rw [List.take_of_length_le (by have := HLL.out; omega)] at HO
        go_wp2_with (fail)
        exact bodyPost_ret (v := .tuple #[u11, .bool false]) (by kernel_rfl) rfl ⟨u11, rfl, ⟨HO.out, by have := HLL.out; omega⟩, HC.out⟩
  · rw [hma] at H
    have hy := may_yes hma
    obtain ⟨an, rfl⟩ := Int.eq_ofNat_of_zero_le hy.2.2.2.1
    have hle : an + ys.length ≤ xs.length := by omega
    have HLX : Hid (L = splice xs an ys) := by show _ = _; rw [hL, wri, hma]; rfl
    clear hL hma hy
    go_enter Try.func24, Try.ntmps24
    go_wp2_with (fail)
    refine H.out.mono ?_
    rintro e w' ⟨rfl, rfl⟩
    go_wp2_with (fail)
    go_loopw [11, 12] (fun o i wr => ∃ j : Nat, j ≤ xs.length ∧ i = .int .i64 j ∧ Hid (wr.ownsRow w.heap.size 2 1 o (ints (L.take j)).length (ints (L.take j))) ∧ Hid (Ch No w wr)) (fun _ i _ => xs.length - (intOf i).toNat)
    case atStart => exact ⟨0, Nat.zero_le _, rfl, by exact owns_nil _ _ _ _, Ch.refl _ _⟩
    case round =>
      obtain ⟨j, hj, rfl, HO, HC⟩ := hrel
      by_cases hlt : j < xs.length
      · have d0 := decide_lt_t (show (j : Int) < (xs.length : Int) by omega)
        have HTK : Hid (L.take (j + 1) = L.take j ++ [rd L j]) := by
          show _ = _
          have h1 := HLL.out
          rw [List.take_succ_eq_append_getElem (by omega), rd_at _ _ (by omega)]
        have HLT : Hid ((ints (L.take j)).length = j) := by show _ = _; have h1 := HLL.out; rw [ints_length, List.length_take]; omega
        have HBY : Hid (((ints (L.take j)).length + 1) * 8 ≤ 140737488355328) := by show _ ≤ _; rw [HLT.out]; omega
        have HBS : Hid (w.heap.size ≤ (wr.alloc (.cells (ints [rd L j]).toArray 2)).heap.size) := ((HC.out.alloc _).size)
        by_cases hin : an ≤ j ∧ j < an + ys.length
        · obtain ⟨k, rfl⟩ : ∃ k, j = an + k := ⟨j - an, by omega⟩
          have hk : k < ys.length := by omega
          obtain ⟨ad, ea, hca⟩ := cl_rd (HDL.out.keepNo HC.out) k hk
          subst ea
          have hca2 : wr.cell? (ad.add k) = some (.int .i64 (rd L (an + k))) := by rw [HLX.out, rd_splice_mid _ _ _ hle _ (by omega) (by omega), Nat.add_sub_cancel_left]; exact hca
          have d1 := decide_le_t (show (0 : Int) ≤ (k : Int) by omega)
          have d2 := decide_lt_t (show (k : Int) < (ys.length : Int) by omega)
          have e1 : ((an + k : Nat) : Int) - (an : Int) = (k : Int) := by omega
          have b1 : (an : Int) + (k : Int) ≤ 9223372036854775807 := by omega
          clear hca
          go_wp2_with ((with_reducible refine at_op (o := ⟨some 47, .call { callee := .builtin .append, args := #[.tmp 41, .tmp 46], argTypes := #[22, 22] }, _, _, _, _⟩) ?_); refine wpList_append_to rfl (.tmp 41) (.tmp 46) 22 rfl w.heap.size 2 (.int .i64 0) 8 Try.underlying22 info2 rfl u11 (ints (L.take (an + k))) rfl _ _ _ (ints [rd L (an + k)]) rfl (HO.out.alloc _) (ints_length _) ((Row.new wr 2 (ints [rd L (an + k)])).cl0) (ints_one _) HBY.out (by omega) HBS.out ?_; intro v1 w2 ho2 hg2 hat2; rw [← ints_append, ← HTK.out] at ho2; have HO2 := Lib.hid ho2; have HC2 : Hid (Ch No w w2) := (grown_no (Nat.le_refl _) (HO.out.alloc _) hg2 (HC.out.alloc _)); clear ho2 hg2 hat2)
          go_roundw
          · exact ⟨an + k + 1, by omega, by go_num, HO2, HC2⟩
          · simp [intOf]; omega
        · obtain ⟨ad, ea, hca⟩ := cl_rd (HCL.out.keepNo HC.out) j hlt
          subst ea
          have hca2 : wr.cell? (ad.add j) = some (.int .i64 (rd L j)) := by
            rw [HLX.out]
            by_cases hlo : j < an
            · rw [rd_splice_lo _ _ _ hle _ hlo]; exact hca
            · rw [rd_splice_hi _ _ _ hle _ (by omega)]; exact hca
          clear hca
          go_wp2_with ((with_reducible refine at_op (o := ⟨some 54, .call { callee := .builtin .append, args := #[.tmp 48, .tmp 53], argTypes := #[22, 22] }, _, _, _, _⟩) ?_); refine wpList_append_to rfl (.tmp 48) (.tmp 53) 22 rfl w.heap.size 2 (.int .i64 0) 8 Try.underlying22 info2 rfl u11 (ints (L.take j)) rfl _ _ _ (ints [rd L j]) rfl (HO.out.alloc _) (ints_length _) ((Row.new wr 2 (ints [rd L j])).cl0) (ints_one _) HBY.out (by omega) HBS.out ?_; intro v1 w2 ho2 hg2 hat2; rw [← ints_append, ← HTK.out] at ho2; have HO2 := Lib.hid ho2; have HC2 : Hid (Ch No w w2) := (grown_no (Nat.le_refl _) (HO.out.alloc _) hg2 (HC.out.alloc _)); clear ho2 hg2 hat2)
          all_goals first | (exfalso; simp at *; omega) | skip
          all_goals go_roundw
          all_goals first | exact ⟨j + 1, by omega, by go_num, HO2, HC2⟩ | (simp [intOf]; omega)
      · obtain rfl : j = xs.length := by omega
        have d0 : decide ((xs.length : Int) < (xs.length : Int)) = false := by simp
        rw [List.take_of_length_le (by have := HLL.out; omega)] at HO
        go_wp2_with (fail)
        exact bodyPost_ret (v := .tuple #[u11, .bool true]) (by kernel_rfl) rfl ⟨u11, rfl, ⟨HO.out, by have := HLL.out; omega⟩, HC.out⟩
theorem Ol.low {b c : Nat} {w : World} {v : Value} {xs : List Int} (h : Ol b w v xs) (hbc : c ≤ b) : Ol c w v xs := by
  rcases owns_open h.1 with ⟨hv, hx⟩ | ⟨g, cap, rest, hv, hb, hr, hl, hm⟩
  · refine ⟨?_, h.2⟩
    rw [hv, hx]
    exact owns_nil _ _ _ _
  · refine ⟨?_, h.2⟩
    rw [hv, ← hl]
    exact owns_mk (by omega) hr (by omega)
theorem Sl.mk1 (w : World) (x : Int) : Sl (w.alloc (.cells #[.int .i64 x] 2)) (.slice (some ⟨w.heap.size, 0, none⟩) 1 1) [x] := ⟨_, 1, rfl, (Row.new w 2 (ints [x])).cl0, by simp⟩
theorem rstore_calls {w : World} {v : Value} {xs : List Int} (h : Sl w v xs) (fixed addr x : Int) :
    Calls Try.prog 22 #[v, .int .i64 fixed, .int .i64 addr, .int .i64 x] w fun e w' => ∃ v', e = .returned (.tuple #[v', .bool (may xs.length fixed addr 1)]) ∧ Ol w.heap.size w' v' (wri xs fixed addr [x]) ∧ Ch No w w' := by
  have HC := Lib.hid (rwrite_calls (h.keepNo ((Ch.refl No w).alloc (.cells #[.int .i64 x] 2))) (Sl.mk1 w x) fixed addr)
  go_enter Try.func22, Try.ntmps22
  go_wp2_with (fail)
  refine HC.out.mono ?_
  rintro e w' ⟨v', rfl, ho, hc⟩
  go_wp2_with (fail)
  exact bodyPost_ret (v := .tuple #[v', .bool (may xs.length fixed addr 1)]) (by kernel_rfl) rfl ⟨v', rfl, ho.low (by simp), ((Ch.refl No w).alloc _).then_ hc⟩
/-- may New make it? -/
def mayN (words : Int) (n : Nat) : Bool := decide (0 ≤ words) && decide (words ≤ 4096) && decide ((n : Int) ≤ words)
/-- what New makes -/
def newl (words : Int) (xs : List Int) : List Int := if mayN words xs.length then xs ++ List.replicate (words.toNat - xs.length) 0 else []
theorem mayN_yes {words : Int} {n : Nat} (h : mayN words n = true) : 0 ≤ words ∧ words ≤ 4096 ∧ (n : Int) ≤ words := by
  unfold mayN at h
  simp at h
  omega
theorem mayN_no {words : Int} {n : Nat} (h : mayN words n = false) : words < 0 ∨ 4096 < words ∨ words < n := by
  by_cases h1 : 0 ≤ words
  · by_cases h2 : words ≤ 4096
    · by_cases h3 : (n : Int) ≤ words
      · unfold mayN at h
        simp [h1, h2, h3] at h
      · omega
    · omega
  · omega
set_option maxHeartbeats 4000000 in
theorem rnew_calls {w : World} {v : Value} {xs : List Int} (h : Sl w v xs) (words : Int) :
    Calls Try.prog 13 #[.int .i64 words, v] w fun e w' => ∃ v', e = .returned (.tuple #[v', .bool (mayN words xs.length)]) ∧ Ol w.heap.size w' v' (newl words xs) ∧ Ch No w w' := by
  obtain ⟨A, cap, rfl, hcl, hl⟩ := h
  cases hma : mayN words xs.length
  · have hn := mayN_no hma
    have HN : Hid (newl words xs = []) := by show _ = _; rw [newl, hma]; rfl
    clear hma
    by_cases h1 : words < 0
    · clear hn
      go_enter Try.func13, Try.ntmps13
      go_wp2_with (fail)
      exact bodyPost_ret (v := .tuple #[.slice none 0 0, .bool false]) (by kernel_rfl) rfl ⟨.slice none 0 0, rfl, by rw [HN.out]; exact ⟨by exact owns_nil _ _ _ _, by simp⟩, Ch.refl _ _⟩
    · by_cases h2 : 4096 < words
      · clear hn
        go_enter Try.func13, Try.ntmps13
        go_wp2_with (fail)
        exact bodyPost_ret (v := .tuple #[.slice none 0 0, .bool false]) (by kernel_rfl) rfl ⟨.slice none 0 0, rfl, by rw [HN.out]; exact ⟨by exact owns_nil _ _ _ _, by simp⟩, Ch.refl _ _⟩
      · have h3 : words < (xs.length : Int) := by omega
        clear hn
        go_enter Try.func13, Try.ntmps13
        go_wp2_with (fail)
        exact bodyPost_ret (v := .tuple #[.slice none 0 0, .bool false]) (by kernel_rfl) rfl ⟨.slice none 0 0, rfl, by rw [HN.out]; exact ⟨by exact owns_nil _ _ _ _, by simp⟩, Ch.refl _ _⟩
  · have hn := mayN_yes hma
    obtain ⟨m, rfl⟩ := Int.eq_ofNat_of_zero_le hn.1
    have h2 : (m : Int) ≤ 4096 := hn.2.1
    have h3 : (xs.length : Int) ≤ (m : Int) := hn.2.2
    obtain ⟨L, hL⟩ : ∃ L, L = newl (m : Int) xs := ⟨_, rfl⟩
    have HLX : Hid (L = xs ++ List.replicate (m - xs.length) 0) := by show _ = _; rw [hL, newl, hma]; rfl
    have HLL : Hid (L.length = m) := by show _ = _; rw [HLX.out]; simp; omega
    rw [← hL]
    have HCL := Lib.hid hcl
    have s1 := decide_lt_f (show ¬ (m : Int) < 0 by omega)
    have s2 := decide_lt_f (show ¬ (4096 : Int) < (m : Int) by omega)
    have s3 : decide (m < xs.length) = false := by simp; omega
    clear hma hn hL hcl
    go_enter Try.func13, Try.ntmps13
    go_wp2_with (fail)
    go_loopw [6, 7] (fun o i wr => ∃ j : Nat, j ≤ m ∧ i = .int .i64 j ∧ Hid (wr.ownsRow w.heap.size 2 1 o (ints (L.take j)).length (ints (L.take j))) ∧ Hid (Ch No w wr)) (fun _ i _ => m - (intOf i).toNat)
    case atStart => exact ⟨0, Nat.zero_le _, rfl, by exact owns_nil _ _ _ _, Ch.refl _ _⟩
    case round =>
      obtain ⟨j, hj, rfl, HO, HC⟩ := hrel
      by_cases hlt : j < m
      · have d0 := decide_lt_t (show (j : Int) < (m : Int) by omega)
        have HTK : Hid (L.take (j + 1) = L.take j ++ [rd L j]) := by
          show _ = _
          have h1 := HLL.out
          rw [List.take_succ_eq_append_getElem (by omega), rd_at _ _ (by omega)]
        have HLT : Hid ((ints (L.take j)).length = j) := by show _ = _; have h1 := HLL.out; rw [ints_length, List.length_take]; omega
        have HBY : Hid (((ints (L.take j)).length + 1) * 8 ≤ 140737488355328) := by show _ ≤ _; rw [HLT.out]; omega
        have HBS : Hid (w.heap.size ≤ (wr.alloc (.cells (ints [rd L j]).toArray 2)).heap.size) := ((HC.out.alloc _).size)
        by_cases hin : j < xs.length
        · have d1 := decide_lt_t (show (j : Int) < (xs.length : Int) by omega)
          obtain ⟨ad, ea, hca⟩ := cl_rd (HCL.out.keepNo HC.out) j hin
          subst ea
          have hca2 : wr.cell? (ad.add j) = some (.int .i64 (rd L j)) := by
            rw [HLX.out, rd, List.getD_eq_getElem?_getD, List.getElem?_append_left hin]
            rw [rd, List.getD_eq_getElem?_getD] at hca
            exact hca
          clear hca
          go_wp2_with ((with_reducible refine at_op (o := ⟨some 35, .call { callee := .builtin .append, args := #[.tmp 29, .tmp 34], argTypes := #[22, 22] }, _, _, _, _⟩) ?_); refine wpList_append_to rfl (.tmp 29) (.tmp 34) 22 rfl w.heap.size 2 (.int .i64 0) 8 Try.underlying22 info2 rfl u6 (ints (L.take j)) rfl _ _ _ (ints [rd L j]) rfl (HO.out.alloc _) (ints_length _) ((Row.new wr 2 (ints [rd L j])).cl0) (ints_one _) HBY.out (by omega) HBS.out ?_; intro v1 w2 ho2 hg2 hat2; rw [← ints_append, ← HTK.out] at ho2; have HO2 := Lib.hid ho2; have HC2 : Hid (Ch No w w2) := (grown_no (Nat.le_refl _) (HO.out.alloc _) hg2 (HC.out.alloc _)); clear ho2 hg2 hat2)
          go_roundw
          · exact ⟨j + 1, by omega, by go_num, HO2, HC2⟩
          · simp [intOf]; omega
        · have d1 := decide_lt_f (show ¬ (j : Int) < (xs.length : Int) by omega)
          have hz : rd L j = 0 := by
            rw [HLX.out, rd, List.getD_eq_getElem?_getD, List.getElem?_append_right (by omega), List.getElem?_replicate]
            split <;> rfl
          rw [hz] at HBS HTK
          go_wp2_with ((with_reducible refine at_op (o := ⟨some 38, .call { callee := .builtin .append, args := #[.tmp 36, .tmp 37], argTypes := #[22, 22] }, _, _, _, _⟩) ?_); refine wpList_append_to rfl (.tmp 36) (.tmp 37) 22 rfl w.heap.size 2 (.int .i64 0) 8 Try.underlying22 info2 rfl u6 (ints (L.take j)) rfl _ _ _ (ints [0]) rfl (HO.out.alloc _) (ints_length _) ((Row.new wr 2 (ints [0])).cl0) (ints_one _) HBY.out (by omega) HBS.out ?_; intro v1 w2 ho2 hg2 hat2; rw [← ints_append, ← HTK.out] at ho2; have HO2 := Lib.hid ho2; have HC2 : Hid (Ch No w w2) := (grown_no (Nat.le_refl _) (HO.out.alloc _) hg2 (HC.out.alloc _)); clear ho2 hg2 hat2)
          go_roundw
          · exact ⟨j + 1, by omega, by go_num, HO2, HC2⟩
          · simp [intOf]; omega
      · obtain rfl : j = m := by omega
        have d0 : decide ((j : Int) < (j : Int)) = false := by simp
        rw [List.take_of_length_le (by have := HLL.out; omega)] at HO
        go_wp2_with (fail)
        exact bodyPost_ret (v := .tuple #[u6, .bool true]) (by kernel_rfl) rfl ⟨u6, rfl, ⟨HO.out, by have := HLL.out; omega⟩, HC.out⟩
end Go.Proofs.Ytbllpojljdhnoaa
