/- the law's small functions: same, where, kept, ordered. -/
import Derived.Test.YtbcnkggecgblbaaA8
import Derived.BigQuiet
set_option linter.unusedVariables false
set_option linter.unusedSimpArgs false
namespace Go.Proofs.Ytbcnkggecgblbaa
open Go.RowKit
theorem cl_drewN {w : World} {A : Option Addr} {vs : List Value} (h : Cl w A vs) (n : Nat) : Cl (w.drewN n) A vs := h
theorem same_len (A B : Option Addr) (c d n m : Nat) (w : World) (hn : n ≤ 9223372036854775807) (hm : m ≤ 9223372036854775807) (h : n ≠ m) :
    Calls Try.prog 25 #[.slice A n c, .slice B m d] w fun e w' => e = .returned (.bool false) ∧ Dr w w' := by
  have h1 : ((n : Int) != (m : Int)) = true := by rw [bne_iff_ne]; omega
  clear h
  go_enter Try.func25, Try.ntmps25
  go_wp2
  go_ret
  exact ⟨rfl, Dr.refl _⟩

theorem same_eq (A B : Option Addr) (c d : Nat) (xs ys : List Int) (w : World) (hn : xs.length ≤ 9223372036854775807) (hl : xs.length = ys.length) (hx : Cl w A (ints xs)) (hy : Cl w B (ints ys)) :
    Calls Try.prog 25 #[.slice A xs.length c, .slice B ys.length d] w fun e w' => e = .returned (.bool (decide (xs = ys))) ∧ Dr w w' := by
  have HX := Lib.hid hx
  have HY := Lib.hid hy
  have HL := Lib.hid hl
  have h1 : ((xs.length : Int) != (ys.length : Int)) = false := by rw [hl]; simp
  have hm : ys.length ≤ 9223372036854775807 := by omega
  have hle : xs.length ≤ ys.length := by omega
  clear hx hy hl
  go_enter Try.func25, Try.ntmps25
  go_wp2
  go_loopw [5] (fun i wr => ∃ k : Nat, k ≤ xs.length ∧ i = .int .i64 k ∧ Dr w wr ∧ Hid (xs.take k = ys.take k)) (fun i _ => xs.length - (intOf i).toNat)
  case atStart => exact ⟨0, Nat.zero_le _, rfl, Dr.refl _, by show _ = _; simp⟩
  case round =>
    obtain ⟨k, hk, rfl, hdr, hpre⟩ := hrel
    obtain ⟨q, rfl⟩ := hdr
    by_cases hlt : k < xs.length
    · obtain ⟨ad, ea, hca⟩ := cl_rd HX.out k hlt
      obtain ⟨bd, eb, hcb⟩ := cl_rd HY.out k (by omega)
      subst ea eb
      by_cases hne : rd xs k = rd ys k
      · have ht : (rd xs k != rd ys k) = false := by rw [hne]; simp
        have HNE := Lib.hid hne
        clear hne
        go_wp2
        go_quiet (fail)
        go_wp2
        refine ⟨⟨k + 1, by omega, by go_num, Dr.step w _, ?_⟩, by simp [intOf]; omega⟩
        show _ = _
        rw [List.take_succ_eq_append_getElem hlt, List.take_succ_eq_append_getElem (by omega), hpre.out]
        have h2 := HNE.out
        rw [rd_at _ _ hlt, rd_at _ _ (by omega)] at h2
        rw [h2]
      · have ht : (rd xs k != rd ys k) = true := by rw [bne_iff_ne]; exact hne
        have HNE := Lib.hid hne
        clear hne
        go_wp2
        go_quiet (fail)
        go_wp2
        go_ret
        refine ⟨?_, (Dr.step w _).more _⟩
        have : ¬ xs = ys := fun e => HNE.out (by rw [e])
        simp [this]
    · go_wp2
      go_ret
      refine ⟨?_, Dr.step w _⟩
      have h2 := hpre.out
      rw [List.take_of_length_le (by omega), List.take_of_length_le (by have := HL.out; omega)] at h2
      simp [h2]

/-- a list of numbers that lies somewhere -/
def Sl (w : World) (v : Value) (xs : List Int) : Prop := ∃ A cap, v = .slice A xs.length cap ∧ Cl w A (ints xs) ∧ xs.length ≤ 1000000
theorem Sl.keepNo {w w' : World} {v : Value} {xs : List Int} (h : Sl w v xs) (hc : Ch No w w') : Sl w' v xs := by
  obtain ⟨A, cap, hv, hcl, hl⟩ := h
  exact ⟨A, cap, hv, hcl.keepNo hc, hl⟩
/-- a list of numbers of one's own -/
def Ol (b : Nat) (w : World) (v : Value) (xs : List Int) : Prop := w.ownsRow b 3 1 v (ints xs).length (ints xs) ∧ xs.length ≤ 1000000
theorem Ol.sl {b : Nat} {w : World} {v : Value} {xs : List Int} (h : Ol b w v xs) : Sl w v xs := by
  rcases owns_open h.1 with ⟨hv, hx⟩ | ⟨g, cap, rest, hv, hb, hr, hl, hm⟩
  · have : xs = [] := by
      apply List.eq_nil_of_length_eq_zero
      rw [← ints_length, hx]
      rfl
    subst this
    exact ⟨none, 0, hv, by exact Cl.nil _ _, h.2⟩
  · rw [ints_length] at hv
    exact ⟨_, cap, hv, row_cl hr, h.2⟩
theorem Ol.keepl {b b' : Nat} {w w' : World} {v : Value} {xs : List Int} (h : Ol b w v xs) (hc : Chl b' w w') : Ol b w' v xs := by
  refine ⟨⟨h.1.1, ?_⟩, h.2⟩
  rcases h.1.2 with hn | ⟨g, cap, cur, hv, hb, hg, rest⟩
  · exact .inl hn
  · refine .inr ⟨g, cap, cur, hv, hb, ?_, rest⟩
    have hr : Row w g 3 cur.toList := by unfold Row; simpa using hg
    have := hc.row g 3 _ hr (by decide) (by decide)
    unfold Row at this
    simpa using this
theorem Ol.keepNo {b : Nat} {w w' : World} {v : Value} {xs : List Int} (h : Ol b w v xs) (hc : Ch No w w') : Ol b w' v xs := h.keepl (Chl.of_no (b := 0) hc)
theorem same_calls {w : World} {v u : Value} {xs ys : List Int} (hx : Sl w v xs) (hy : Sl w u ys) :
    Calls Try.prog 25 #[v, u] w fun e w' => e = .returned (.bool (decide (xs = ys))) ∧ Dr w w' := by
  obtain ⟨A, c, rfl, hA, hl⟩ := hx
  obtain ⟨B, d, rfl, hB, hm⟩ := hy
  by_cases h : xs.length = ys.length
  · exact same_eq A B c d xs ys w (by omega) h hA hB
  · refine (same_len A B c d _ _ w (by omega) (by omega) h).mono ?_
    rintro e w' ⟨rfl, hd⟩
    exact ⟨by rw [decide_eq_false (fun e => h (by rw [e]))], hd⟩
/-- where a number stands in a list -/
def wher (xs : List Int) (id : Int) : Int := match xs.findIdx? (· == id) with | some i => (i : Int) | none => -1
theorem where_calls {w : World} {v : Value} {xs : List Int} (id : Int) (hx : Sl w v xs) :
    Calls Try.prog 15 #[v, .int .i64 id] w fun e w' => e = .returned (.int .i64 (wher xs id)) ∧ w' = w := by
  obtain ⟨A, c, rfl, hA, hl⟩ := hx
  have HX := Lib.hid hA
  clear hA
  go_enter Try.func15, Try.ntmps15
  go_wp2
  go_loopw [5] (fun i wr => ∃ k : Nat, k ≤ xs.length ∧ i = .int .i64 k ∧ w = wr ∧ Hid (∀ q y, q < k → xs[q]? = some y → (y == id) = false)) (fun i _ => xs.length - (intOf i).toNat)
  case atStart => exact ⟨0, Nat.zero_le _, rfl, rfl, fun q y hq => absurd hq (by omega)⟩
  case round =>
    obtain ⟨k, hk, rfl, rfl, HD⟩ := hrel
    by_cases hlt : k < xs.length
    · obtain ⟨ad, ea, hca⟩ := cl_rd HX.out k hlt
      subst ea
      have hrd : xs[k]? = some (rd xs k) := by rw [rd_at xs k hlt]; exact List.getElem?_eq_getElem hlt
      have HRD := Lib.hid hrd
      clear hrd
      cases he : rd xs k == id
      · have HD' : Hid (∀ q y, q < k + 1 → xs[q]? = some y → (y == id) = false) := fun q y hq hy => by
          by_cases e : q = k
          · subst e
            obtain rfl : rd xs q = y := Option.some.inj (HRD.out.symm.trans hy)
            exact he
          · exact HD.out q y (by omega) hy
        go_wp2
        go_roundw
        · exact ⟨k + 1, by omega, by go_num, trivial, HD'⟩
        · simp [intOf]; omega
      · have e : wher xs id = (k : Int) := by
          unfold wher
          rw [List.findIdx?_eq_some_iff_getElem.2 ⟨hlt, by
            have := HRD.out
            rw [List.getElem?_eq_some_iff] at this
            obtain ⟨_, h2⟩ := this
            rw [h2]; exact he, fun q hq => by
            rw [HD.out q _ hq (List.getElem?_eq_getElem (by omega))]; simp⟩]
        have HE := Lib.hid e
        clear e
        go_wp2
        go_ret
        exact ⟨by rw [HE.out]; rfl, rfl⟩
    · have e : wher xs id = -1 := by
        unfold wher
        rw [List.findIdx?_eq_none_iff.2 (fun y hy => by
          obtain ⟨q, hq⟩ := List.getElem?_of_mem hy
          have := (List.getElem?_eq_some_iff.1 hq).1
          exact HD.out q y (by omega) hq)]
      have HE := Lib.hid e
      clear e
      go_wp2
      go_ret
      exact ⟨by rw [HE.out]; rfl, rfl⟩
/-- all but one number -/
def oth (id : Int) (xs : List Int) : List Int := xs.filter (· != id)
theorem oth_no (xs : List Int) (id : Int) (j : Nat) (h : j < xs.length) (hn : (rd xs j != id) = false) : oth id (xs.take (j + 1)) = oth id (xs.take j) := by
  rw [List.take_succ_eq_append_getElem h, ← rd_at xs j h]
  simp [oth, hn]
theorem oth_yes (xs : List Int) (id : Int) (j : Nat) (h : j < xs.length) (hn : (rd xs j != id) = true) : oth id (xs.take (j + 1)) = oth id (xs.take j) ++ [rd xs j] := by
  rw [List.take_succ_eq_append_getElem h, ← rd_at xs j h]
  simp [oth, hn]
theorem oth_le (xs : List Int) (id : Int) (j : Nat) : (ints (oth id (xs.take j))).length ≤ j := by
  rw [ints_length]
  refine Nat.le_trans (List.length_filter_le _ _) ?_
  rw [List.length_take]
  omega
set_option maxHeartbeats 4000000 in
theorem kept_calls {w : World} {v u : Value} {xs ys : List Int} (id : Int) (hx : Sl w v xs) (hy : Sl w u ys) :
    Calls Try.prog 18 #[v, u, .int .i64 id] w fun e w' => e = .returned (.bool (decide (oth id xs = oth id ys))) ∧ Ch No w w' := by
  obtain ⟨A, c, rfl, hA, hl⟩ := hx
  obtain ⟨B, d, rfl, hB, hm⟩ := hy
  have HSxs := Lib.hid hA
  have HSB := Lib.hid hB
  clear hA hB
  go_enter Try.func18, Try.ntmps18
  go_wp2_with (fail)
  go_loopw [7, 9] (fun o i wr => ∃ j : Nat, j ≤ xs.length ∧ i = .int .i64 j ∧ Hid (wr.ownsRow w.heap.size 3 1 o (ints (oth id (xs.take j))).length (ints (oth id (xs.take j)))) ∧ Hid (Ch No w wr)) (fun _ i _ => xs.length - (intOf i).toNat)
  case atStart => exact ⟨0, by omega, rfl, by exact owns_nil _ _ _ _, Ch.refl _ _⟩
  case round =>
    obtain ⟨j, hj, rfl, HO, HC⟩ := hrel
    by_cases hlt : j < xs.length
    · obtain ⟨ad, ea, hca⟩ := cl_rd ((HSxs.out).keepNo HC.out) j hlt
      subst ea
      have d0 : decide ((j : Int) < (xs.length : Int)) = true := by simpa using hlt
      cases hne : rd xs j != id
      · have HTK : Hid (oth id (xs.take (j + 1)) = oth id (xs.take j)) := oth_no xs id j hlt hne
        go_wp2_with (fail)
        go_roundw
        · exact ⟨j + 1, by omega, by go_num, by rw [HTK.out]; exact HO, HC⟩
        · simp [intOf]; omega
      · have HTK : Hid (oth id (xs.take (j + 1)) = oth id (xs.take j) ++ [rd xs j]) := oth_yes xs id j hlt hne
        have HLT : Hid ((ints (oth id (xs.take j))).length ≤ j) := oth_le xs id j
        have HBY : Hid (((ints (oth id (xs.take j))).length + 1) * 8 ≤ 140737488355328) := by show _ ≤ _; have := HLT.out; omega
        have HBS : Hid (w.heap.size ≤ (wr.alloc (.cells (ints [rd xs j]).toArray 3)).heap.size) := ((HC.out.alloc _).size)
        go_wp2_with ((with_reducible refine at_op (o := ⟨some 29, .call { callee := .builtin .append, args := #[.tmp 23, .tmp 28], argTypes := #[37, 37] }, _, _, _, _⟩) ?_); refine wpList_append_to rfl (.tmp 23) (.tmp 28) 37 rfl w.heap.size 3 (.int .i64 0) 8 Try.underlying37 info3 rfl u7 (ints (oth id (xs.take j))) rfl _ _ _ (ints [rd xs j]) rfl (HO.out.alloc _) (ints_length _) ((Row.new wr 3 (ints [rd xs j])).cl0) (ints_one _) HBY.out (by omega) HBS.out ?_; intro v1 w2 ho2 hg2 hat2; rw [← ints_append, ← HTK.out] at ho2; have HO2 := Lib.hid ho2; have HC2 : Hid (Ch No w w2) := (grown_no (Nat.le_refl _) (HO.out.alloc _) hg2 (HC.out.alloc _)); clear ho2 hg2 hat2)
        go_roundw
        · exact ⟨j + 1, by omega, by go_num, HO2, HC2⟩
        · simp [intOf]; omega
    · obtain rfl : j = xs.length := by omega
      have d0 : decide ((xs.length : Int) < (xs.length : Int)) = false := by simp
      rw [List.take_of_length_le (Nat.le_refl _)] at HO
      have HSys := Lib.hid (HSB.out.keepNo HC.out)
      have HO7 : Hid (Ol w.heap.size wr u7 (oth id xs)) := ⟨HO.out, Nat.le_trans (List.length_filter_le _ _) hl⟩
      have HC5 := HC
      generalize wr = w5 at *
      clear HO HC HSxs HSB
      go_wp2_with (fail)
      go_loopw [8, 10] (fun o i wr => ∃ j : Nat, j ≤ ys.length ∧ i = .int .i64 j ∧ Hid (wr.ownsRow w5.heap.size 3 1 o (ints (oth id (ys.take j))).length (ints (oth id (ys.take j)))) ∧ Hid (Ch No w5 wr)) (fun _ i _ => ys.length - (intOf i).toNat)
      case atStart => exact ⟨0, by omega, rfl, by exact owns_nil _ _ _ _, Ch.refl _ _⟩
      case round =>
        obtain ⟨j, hj, rfl, HO, HC⟩ := hrel
        by_cases hlt : j < ys.length
        · obtain ⟨ad, ea, hca⟩ := cl_rd ((HSys.out).keepNo HC.out) j hlt
          subst ea
          have d0 : decide ((j : Int) < (ys.length : Int)) = true := by simpa using hlt
          cases hne : rd ys j != id
          · have HTK : Hid (oth id (ys.take (j + 1)) = oth id (ys.take j)) := oth_no ys id j hlt hne
            go_wp2_with (fail)
            go_roundw
            · exact ⟨j + 1, by omega, by go_num, by rw [HTK.out]; exact HO, HC⟩
            · simp [intOf]; omega
          · have HTK : Hid (oth id (ys.take (j + 1)) = oth id (ys.take j) ++ [rd ys j]) := oth_yes ys id j hlt hne
            have HLT : Hid ((ints (oth id (ys.take j))).length ≤ j) := oth_le ys id j
            have HBY : Hid (((ints (oth id (ys.take j))).length + 1) * 8 ≤ 140737488355328) := by show _ ≤ _; have := HLT.out; omega
            have HBS : Hid (w5.heap.size ≤ (wr.alloc (.cells (ints [rd ys j]).toArray 3)).heap.size) := ((HC.out.alloc _).size)
            go_wp2_with ((with_reducible refine at_op (o := ⟨some 48, .call { callee := .builtin .append, args := #[.tmp 42, .tmp 47], argTypes := #[37, 37] }, _, _, _, _⟩) ?_); refine wpList_append_to rfl (.tmp 42) (.tmp 47) 37 rfl w5.heap.size 3 (.int .i64 0) 8 Try.underlying37 info3 rfl u8 (ints (oth id (ys.take j))) rfl _ _ _ (ints [rd ys j]) rfl (HO.out.alloc _) (ints_length _) ((Row.new wr 3 (ints [rd ys j])).cl0) (ints_one _) HBY.out (by omega) HBS.out ?_; intro v1 w2 ho2 hg2 hat2; rw [← ints_append, ← HTK.out] at ho2; have HO2 := Lib.hid ho2; have HC2 : Hid (Ch No w5 w2) := (grown_no (Nat.le_refl _) (HO.out.alloc _) hg2 (HC.out.alloc _)); clear ho2 hg2 hat2)
            go_roundw
            · exact ⟨j + 1, by omega, by go_num, HO2, HC2⟩
            · simp [intOf]; omega
        · obtain rfl : j = ys.length := by omega
          have d0 : decide ((ys.length : Int) < (ys.length : Int)) = false := by simp
          rw [List.take_of_length_le (Nat.le_refl _)] at HO
          have HO8 : Hid (Ol w5.heap.size wr u8 (oth id ys)) := ⟨HO.out, Nat.le_trans (List.length_filter_le _ _) hm⟩
          have HO7w := Lib.hid (HO7.out.keepNo HC.out)
          go_wp2_with (fail)
          refine (same_calls HO7w.out.sl HO8.out.sl).mono ?_
          rintro e w9 ⟨rfl, hd⟩
          have HC9 := Lib.hid ((HC5.out.then_ HC.out).then_ hd.ch)
          clear hd
          go_wp2_with (fail)
          go_ret
          exact ⟨rfl, HC9.out⟩
end Go.Proofs.Ytbcnkggecgblbaa
