/- marked, same and left: what the statements' own helpers answer. -/
import Derived.Test.YtbllpojljdhnoaaM1
import Derived.LoopTactic
set_option linter.unusedVariables false
set_option linter.unusedSimpArgs false
namespace Go.Proofs.Ytbllpojljdhnoaa
open Go.RowKit

/-- the marks -/
def marks (k : Nat) : List Int := (List.range k).map fun (i : Nat) => (-700 : Int) - (i : Int)
theorem marks_length (k : Nat) : (marks k).length = k := by simp [marks]
theorem marks_succ (k : Nat) : marks (k + 1) = marks k ++ [-700 - (k : Int)] := by simp [marks, List.range_succ]
theorem marks_at (k j : Nat) (h : j < k) : (marks k)[j]? = some (-700 - (j : Int)) := by simp [marks, h]

theorem cl_drewN {w : World} {A : Option Addr} {vs : List Value} (h : Cl w A vs) (n : Nat) : Cl (w.drewN n) A vs := h

theorem same_len (A B : Option Addr) (c d n m : Nat) (w : World) (hn : n ≤ 9223372036854775807) (hm : m ≤ 9223372036854775807) (h : n ≠ m) :
    Calls Try.prog 14 #[.slice A n c, .slice B m d] w fun e w' => e = .returned (.bool false) ∧ Dr w w' := by
  have h1 : ((n : Int) != (m : Int)) = true := by rw [bne_iff_ne]; omega
  clear h
  go_enter Try.func14, Try.ntmps14
  go_wp2
  go_ret
  exact ⟨rfl, Dr.refl _⟩

theorem same_eq (A B : Option Addr) (c d : Nat) (xs ys : List Int) (w : World) (hn : xs.length ≤ 9223372036854775807) (hl : xs.length = ys.length) (hx : Cl w A (ints xs)) (hy : Cl w B (ints ys)) :
    Calls Try.prog 14 #[.slice A xs.length c, .slice B ys.length d] w fun e w' => e = .returned (.bool (decide (xs = ys))) ∧ Dr w w' := by
  have HX := Lib.hid hx
  have HY := Lib.hid hy
  have HL := Lib.hid hl
  have h1 : ((xs.length : Int) != (ys.length : Int)) = false := by rw [hl]; simp
  have hm : ys.length ≤ 9223372036854775807 := by omega
  have hle : xs.length ≤ ys.length := by omega
  clear hx hy hl
  go_enter Try.func14, Try.ntmps14
  go_wp2
  go_loopw [5] (fun i wr => ∃ k : Nat, k ≤ xs.length ∧ i = .int .i64 k ∧ Dr w wr ∧ Hid (xs.take k = ys.take k)) (fun i _ => xs.length - (intOf i).toNat)
  case atStart => exact ⟨0, Nat.zero_le _, rfl, Dr.refl _, by show _ = _; simp⟩
  case round =>
    obtain ⟨k, hk, rfl, hdr, hpre⟩ := hrel
    obtain ⟨q, rfl⟩ := hdr
    by_cases hlt : k < xs.length
    · obtain ⟨ad, ea, hca⟩ := cl_rd HX.out k hlt
      obtain ⟨bd, eb, hcb⟩ := cl_rd HY.out k (by omega)
      subst ea eb
      by_cases hne : rd xs k = rd ys k
      · have ht : (rd xs k != rd ys k) = false := by rw [hne]; simp
        have HNE := Lib.hid hne
        clear hne
        go_wp2
        go_quiet (fail)
        go_wp2
        refine ⟨⟨k + 1, by omega, by go_num, Dr.step w _, ?_⟩, by simp [intOf]; omega⟩
        show _ = _
        rw [List.take_succ_eq_append_getElem hlt, List.take_succ_eq_append_getElem (by omega), hpre.out]
        have h2 := HNE.out
        rw [rd_at _ _ hlt, rd_at _ _ (by omega)] at h2
        rw [h2]
      · have ht : (rd xs k != rd ys k) = true := by rw [bne_iff_ne]; exact hne
        have HNE := Lib.hid hne
        clear hne
        go_wp2
        go_quiet (fail)
        go_wp2
        go_ret
        refine ⟨?_, (Dr.step w _).more _⟩
        have : ¬ xs = ys := fun e => HNE.out (by rw [e])
        simp [this]
    · go_wp2
      go_ret
      refine ⟨?_, Dr.step w _⟩
      have h2 := hpre.out
      rw [List.take_of_length_le (by omega), List.take_of_length_le (by have := HL.out; omega)] at h2
      simp [h2]

/-- what marked answers: new memory that begins with the words, 40 marks behind them -/
def IsMarked (w : World) (xs : List Int) (e : Ending) (w' : World) : Prop :=
  ∃ g cap rest, e = .returned (.slice (some ⟨g, 0, none⟩) xs.length cap) ∧ Row w' g 2 (ints (xs ++ marks 40) ++ rest) ∧ xs.length + 40 + rest.length = cap ∧ cap ≤ maxLen ∧ w.heap.size ≤ g ∧ Ch No w w'
theorem marked_any (A : Option Addr) (c : Nat) (xs : List Int) (w : World) (hn : xs.length ≤ 1000000000) (hx : Cl w A (ints xs)) :
    Calls Try.prog 8 #[.slice A xs.length c] w (IsMarked w xs) := by
  have HX := Lib.hid hx
  clear hx
  go_enter Try.func8, Try.ntmps8
  go_wp2_with (at_builtin; refine wpList_append_to rfl (.tmp 5) (.tmp 6) 22 rfl w.heap.size 2 (.int .i64 0) 8 Try.underlying22 info2 rfl (.slice none 0 0) [] rfl _ _ _ (ints xs) rfl (owns_nil _ _ _ _) (ints_length xs) HX.out (ints_one xs) (by simp; omega) (by omega) (Nat.le_refl _) ?_; intro v1 w1 ho1 hg1 hat1; rw [List.nil_append] at ho1; have HO1 := Lib.hid ho1; have HC1 : Hid (Ch No w w1) := (Ch.of_grownBy hg1).no (fun k _ hk => by simp [Value.ownBlock] at hk); clear ho1 hg1 hat1)
  go_loopw [3, 4] (fun v i wr => ∃ k : Nat, k ≤ 40 ∧ i = .int .i64 k ∧ Hid (wr.ownsRow w.heap.size 2 1 v (ints (xs ++ marks k)).length (ints (xs ++ marks k))) ∧ Hid (Ch No w wr)) (fun _ i _ => 40 - (intOf i).toNat)
  case atStart => exact ⟨0, by omega, rfl, by simpa [marks] using HO1, HC1⟩
  case round =>
    clear HO1 HC1
    obtain ⟨k, hk, rfl, HO, HC⟩ := hrel
    by_cases hlt : k < 40
    · have HL : Hid ((ints (xs ++ marks k)).length = xs.length + k) := by show _ = _; simp [ints_length, marks_length]
      go_wp2_with (at_builtin; refine wpList_append_to rfl (.tmp 12) (.tmp 15) 22 rfl w.heap.size 2 (.int .i64 0) 8 Try.underlying22 info2 rfl u3 (ints (xs ++ marks k)) rfl _ _ _ (ints [-700 - (k : Int)]) rfl (HO.out.alloc _) (ints_length _) ((Row.new wr 2 (ints [-700 - (k : Int)])).cl0) (ints_one _) (by rw [HL.out]; omega) (by omega) (by have := HC.out.size; simp; omega) ?_; intro v1 w1 ho1 hg1 hat1; have HO1 := Lib.hid ho1; have HG1 := Lib.hid hg1; clear ho1 hg1 hat1)
      refine ⟨⟨k + 1, by omega, by go_num, ?_, ?_⟩, by simp [intOf]; omega⟩
      · have := HO1.out
        rw [← ints_append, List.append_assoc, ← marks_succ] at this
        exact this
      · have h1 : Ch No w (wr.alloc (.cells #[.int .i64 (-700 - (k : Int))] 2)) := HC.out.alloc _
        refine h1.trans (Ch.of_grownBy HG1.out) (fun i hi he => ?_)
        rcases owns_open HO.out with ⟨hv, _⟩ | ⟨g, cap, rest, hv, hg, _⟩
        · rw [hv] at he
          simp [Value.ownBlock] at he
        · rw [hv] at he
          simp [Value.ownBlock] at he
          omega
    · obtain rfl : k = 40 := by omega
      rcases owns_open HO.out with ⟨hv, hnil⟩ | ⟨g, cap, rest, hv, hg, hr, hcl, hm⟩
      · have := congrArg List.length hnil
        simp [ints_length, marks_length] at this
      · simp only [ints_length, List.length_append, marks_length] at hv hcl
        subst hv
        have HR := Lib.hid hr
        clear hr HO
        go_wp2
        go_ret
        exact ⟨g, cap, rest, rfl, HR.out, hcl, hm, hg, HC.out⟩

theorem marked_n (A : Option Addr) (n c : Nat) (xs : List Int) (w : World) (hx : n = xs.length) (hn : n ≤ 1000000000) (hc : Cl w A (ints xs)) :
    Calls Try.prog 8 #[.slice A n c] w fun e w' => ∃ g cap rest, e = .returned (.slice (some ⟨g, 0, none⟩) n cap) ∧ Row w' g 2 (ints (xs ++ marks 40) ++ rest) ∧ n + 40 + rest.length = cap ∧ cap ≤ maxLen ∧ w.heap.size ≤ g ∧ Ch No w w' := by
  subst hx
  exact marked_any A c xs w hn hc

/-- left, where behind the words the marks lie -/
theorem left_any (g n cap c : Nat) (B : Option Addr) (xs ys : List Int) (rest : List Value) (w : World) (hn : xs.length ≤ 1000000000) (hcap : xs.length + 40 ≤ cap) (hcm : cap ≤ maxLen) (hl : xs.length = ys.length) (hnx : n = xs.length)
    (hr : Row w g 2 (ints (xs ++ marks 40) ++ rest)) (hy : Cl w B (ints ys)) :
    Calls Try.prog 12 #[.slice (some ⟨g, 0, none⟩) n cap, .slice B ys.length c] w fun e w' => e = .returned (.bool (decide (xs = ys))) ∧ Dr w w' := by
  subst hnx
  unfold maxLen at hcm
  have HR := Lib.hid hr
  have HY := Lib.hid hy
  have HL := Lib.hid hl
  have hym : ys.length ≤ 1000000000 := by omega
  have hyc : ys.length + 40 ≤ cap := by omega
  have HX : Hid (Cl w (some ⟨g, 0, none⟩) (ints xs)) := by
    have := hr.cl0.take xs.length
    rw [List.take_append_of_le_length (by simp [ints_length]), ints_take, List.take_append_of_le_length (by omega), List.take_of_length_le (by omega)] at this
    exact this
  clear hr hy hl
  go_enter Try.func12, Try.ntmps12
  go_wp2
  go_loop [6] (fun i => ∃ k : Nat, k ≤ 40 ∧ i = .int .i64 k) (fun i => 40 - (intOf i).toNat)
  case atStart => exact ⟨0, by omega, rfl⟩
  case round =>
    obtain ⟨k, hk, rfl⟩ := hrel
    by_cases hlt : k < 40
    · have hc : w.cell? ⟨g, ys.length + k, none⟩ = some (.int .i64 (-700 - (k : Int))) := by
        rw [HR.out.cell, List.getElem?_append_left (by simp [ints_length, marks_length]; have := HL.out; omega), ints, List.getElem?_map, ← HL.out, List.getElem?_append_right (by omega)]
        simp [marks_at 40 k hlt]
      have e1 : ((ys.length : Int) + (k : Int)).toNat = ys.length + k := by omega
      go_wp2
      exact ⟨⟨k + 1, by omega, by go_num⟩, by simp [intOf]; omega⟩
    · go_wp2_with (go_at_call 14; refine (same_eq _ _ _ _ xs ys _ (by omega) HL.out HX.out HY.out).mono ?_; rintro e w4 ⟨rfl, hd⟩; have HD := Lib.hid hd; clear hd)
      go_ret
      exact ⟨rfl, HD.out⟩

theorem left_n (g n m cap c : Nat) (B : Option Addr) (xs ys : List Int) (rest : List Value) (w : World) (hx : n = xs.length) (hm : m = ys.length) (hn : n ≤ 1000000000) (hcap : n + 40 ≤ cap) (hcm : cap ≤ maxLen) (hl : n = m)
    (hr : Row w g 2 (ints (xs ++ marks 40) ++ rest)) (hy : Cl w B (ints ys)) :
    Calls Try.prog 12 #[.slice (some ⟨g, 0, none⟩) n cap, .slice B m c] w fun e w' => e = .returned (.bool (decide (xs = ys))) ∧ Dr w w' := by
  subst hm
  exact left_any g n cap c B xs ys rest w (by omega) (by omega) hcm (by omega) hx hr hy
end Go.Proofs.Ytbllpojljdhnoaa
