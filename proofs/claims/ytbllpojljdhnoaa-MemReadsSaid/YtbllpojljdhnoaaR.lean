/- MemReads: the walk. -/
import Derived.Test.YtbllpojljdhnoaaM1
import Derived.LoopTactic
set_option linter.unusedVariables false
set_option linter.unusedSimpArgs false
namespace Go.Proofs.Ytbllpojljdhnoaa
open Go.RowKit

theorem reads_1 (words addr n : Int) (A : Option Addr) (len cap : Nat) (w : World) (hl : len ≤ 9223372036854775807) (h : words < 0 ∨ 4096 < words ∨ words < len) :
    Calls Try.prog 5 #[.int .i64 words, .slice A len cap, .int .i64 addr, .int .i64 n] w fun e w' => e = .returned (.bool true) ∧ Ch No w w' := by
  have H := Lib.hid h
  clear h
  go_enter Try.func5, Try.ntmps5
  go_wp2_with (first | (go_at_call 6; refine (new_no _ _ _ _ _ hl H.out).mono ?_; rintro e w1 ⟨rfl, rfl⟩) | (go_at_call 7; refine (works_calls _).mono ?_; rintro e w1 ⟨rfl, hc⟩; have HC := Lib.hid hc; clear hc))
  go_ret
  exact ⟨rfl, HC.out⟩

theorem reads_2 (m : Nat) (addr n : Int) (A : Option Addr) (cap : Nat) (xs : List Int) (w : World) (h1 : m ≤ 4096) (h2 : xs.length ≤ m) (hx : Cl w A (ints xs)) (h : may m 0 addr n = false) :
    Calls Try.prog 5 #[.int .i64 (m : Int), .slice A xs.length cap, .int .i64 addr, .int .i64 n] w fun e w' => e = .returned (.bool true) ∧ Ch No w w' := by
  have HX := Lib.hid hx
  have H := Lib.hid h
  clear hx h
  go_enter Try.func5, Try.ntmps5
  go_wp2_with (first | (go_at_call 6; refine (new_nat _ _ _ _ _ h1 h2 HX.out).mono ?_; rintro e w1 ⟨g, rfl, hg, hr1, hc1⟩; have HR1 := Lib.hid hr1; have HC1 := Lib.hid hc1; clear hr1 hc1 hg) | (go_at_call 18; refine (read_no _ _ _ _ _ _ (by omega) H.out).mono ?_; rintro e w2 ⟨rfl, rfl⟩) | (go_at_call 11; refine (writable _ _ _ _ _ (by omega) (by omega)).mono ?_; rintro e w' ⟨rfl, rfl⟩; rw [H.out]) | (go_at_call 7; refine (works_calls _).mono ?_; rintro e w3 ⟨rfl, hc⟩; have HC := Lib.hid hc; clear hc))
  refine wp_loop_once ?_
  go_wp2_with (go_at_call 7; refine (works_calls _).mono ?_; rintro e w3 ⟨rfl, hc⟩; have HC := Lib.hid hc; clear hc)
  go_ret
  exact ⟨rfl, HC1.out.then_ HC.out⟩

theorem getD_at (xs : List Int) (k : Nat) (h : k < xs.length) : xs.getD k 0 = xs[k] := by simp [h]

theorem reads_3 (m a n : Nat) (A : Option Addr) (cap : Nat) (xs : List Int) (w : World) (h1 : m ≤ 4096) (h2 : xs.length ≤ m) (hx : Cl w A (ints xs)) (h : a + n ≤ m) :
    Calls Try.prog 5 #[.int .i64 (m : Int), .slice A xs.length cap, .int .i64 (a : Int), .int .i64 (n : Int)] w fun e w' => e = .returned (.bool true) ∧ Ch No w w' := by
  have HX := Lib.hid hx
  have HW : Hid (may (m : Int) 0 (a : Int) (n : Int) = true) := by show _ = _; unfold may; simp; omega
  clear hx
  have hlen : (xs ++ List.replicate (m - xs.length) 0).length = m := by simp; omega
  generalize hys : xs ++ List.replicate (m - xs.length) 0 = ys at *
  have HYS := Lib.hid hys
  have HL := Lib.hid hlen
  clear hys hlen
  have hread : ∀ g w1, Row w1 g 2 (ints ys) → Calls Try.prog 18 #[.slice (some ⟨g, 0, none⟩) m m, .int .i64 (a : Int), .int .i64 (n : Int)] w1 fun e w' => ∃ g', e = .returned (.tuple #[.slice (some ⟨g', 0, none⟩) n n, .bool true]) ∧ w1.heap.size ≤ g' ∧ Row w' g' 2 (ints ((ys.drop a).take n)) ∧ Ch No w1 w' := by
    intro g w1 hr
    have := read_at (some ⟨g, 0, none⟩) ys.length (a : Int) (n : Int) ys w1 (by have := HL.out; omega) (Nat.le_refl _) (by rw [HL.out]; exact HW.out) hr.cl0 (by omega)
    rw [HL.out] at this
    simpa using this
  have HREAD := Lib.hid hread
  clear hread
  have hload : ∀ g w1 (k : Nat), Row w1 g 2 (ints ys) → k < n → Calls Try.prog 19 #[.slice (some ⟨g, 0, none⟩) m m, .int .i64 ((a : Int) + (k : Int))] w1 fun e w' => e = .returned (.tuple #[.int .i64 (((ys.drop a).take n).getD k 0), .bool true]) ∧ w1 = w' := by
    intro g w1 k hr hk
    have := load_yes (some ⟨g, 0, none⟩) ys.length ((a : Int) + (k : Int)) ys w1 (by have := HL.out; omega) (Nat.le_refl _) (by rw [HL.out]; unfold may; simp; omega) hr.cl0
    rw [HL.out] at this
    have e1 : ((a : Int) + (k : Int)).toNat = a + k := by omega
    rw [e1] at this
    have e2 : ys.getD (a + k) 0 = ((ys.drop a).take n).getD k 0 := by
      simp [List.getElem?_take, hk]
    rw [e2] at this
    exact this
  have HLOAD := Lib.hid hload
  clear hload
  go_enter Try.func5, Try.ntmps5
  go_wp2_with (first | (go_at_call 6; refine (new_nat _ _ _ _ _ h1 h2 HX.out).mono ?_; rintro e w1 ⟨g, rfl, hg, hr1, hc1⟩; rw [HYS.out] at hr1; have HR1 := Lib.hid hr1; have HC1 := Lib.hid hc1; clear hr1 hc1 hg) | (go_at_call 18; refine (HREAD.out _ _ HR1.out).mono ?_; rintro e w2 ⟨g2, rfl, hg2, hr2, hc2⟩; have HR2 := Lib.hid hr2; have HC2 := Lib.hid hc2; clear hr2 hc2 hg2) | (go_at_call 11; refine (writable _ _ _ _ _ (by omega) (by omega)).mono ?_; rintro e w' ⟨rfl, rfl⟩; rw [HW.out]))
  go_loop [13] (fun i => ∃ k : Nat, k ≤ n ∧ i = .int .i64 k) (fun i => n - (intOf i).toNat)
  case atStart => exact ⟨0, Nat.zero_le _, rfl⟩
  case round =>
    obtain ⟨k, hk, rfl⟩ := hrel
    by_cases hlt : k < n
    · have hcell : w2.cell? ⟨g2, k, none⟩ = some (.int .i64 (((ys.drop a).take n).getD k 0)) := by
        rw [HR2.out.cell]
        have hl : k < ((ys.drop a).take n).length := by have := HL.out; simp; omega
        rw [ints_get _ _ hl, getD_at _ _ hl]
      go_wp2_with (go_at_call 19; refine (HLOAD.out _ _ _ (HR1.out.keepNo HC2.out) hlt).mono ?_; rintro e w4 ⟨rfl, rfl⟩)
      exact ⟨⟨k + 1, by omega, by go_num⟩, by simp [intOf]; omega⟩
    · go_wp2_with (go_at_call 7; refine (works_calls _).mono ?_; rintro e w3 ⟨rfl, hc⟩; have HC := Lib.hid hc; clear hc)
      go_ret
      exact ⟨rfl, (HC1.out.then_ HC2.out).then_ HC.out⟩
end Go.Proofs.Ytbllpojljdhnoaa
