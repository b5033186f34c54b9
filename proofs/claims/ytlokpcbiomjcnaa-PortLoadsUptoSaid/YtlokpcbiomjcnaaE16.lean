/- works, walked. -/
import Derived.Test.YtlokpcbiomjcnaaE15
set_option linter.unusedVariables false
set_option linter.unusedSimpArgs false
namespace Go.Proofs.Ytlokpcbiomjcnaa
open Go.RowKit
def pw : Pt := ⟨0, 1, false, 1, 1, 0⟩
def qw : Pt := ⟨1, 1, false, 2, 2, 0⟩
theorem img_pw : imgPts [pw] = [qw] := by
  have a1 : andI 0 1 = 0 := by decide
  have a2 : andI 1 1 = 1 := by decide
  have a3 : andI 1 15 = 1 := by decide
  have a4 : andI 1 63 = 1 := by decide
  simp [imgPts, imgPt, pw, qw, a1, a2, a3, a4]
/-- one's own list lies somewhere -/
theorem sl_own {w : World} {b : Nat} {v : Value} {xs : List Int} (h : w.ownsRow b 2 1 v (ints xs).length (ints xs)) (hl : xs.length ≤ 9223372036854775807) : Sl w v xs := by
  rcases owns_open h with ⟨rfl, hx⟩ | ⟨g, cap, rest, rfl, hb, hr, _, hm⟩
  · have : xs = [] := by
      apply List.eq_nil_of_length_eq_zero
      rw [← ints_length, hx]
      rfl
    subst this
    exact ⟨none, 0, rfl, by exact Cl.nil _ _, hl⟩
  · rw [ints_length]
    exact ⟨_, cap, rfl, row_cl hr, hl⟩
/-- the port at hand, right behind New -/
theorem newi_at {w wr : World} {G M : Nat} {part : Int} {ps : List Pt} {k : Nat} {f : Int → Option Nat} (h : NewI w wr G M part ps k f) {j : Nat} {p : Pt} (hj : j < k) (hp : ps[j]? = some p) (he : p.part = part) (hk : j ≤ 100000) : ∃ E, At wr G M k ps.length f (j + 1) E p (.slice none 0 0) false 0 (.slice none 0 0) 0 ∧ w.heap.size ≤ E := by
  obtain ⟨E, h1, h2, h3⟩ := h.own j p hj hp he
  exact ⟨E, ⟨h.row, h.map, wf_of (by omega) (by omega), h1, h2⟩, h3⟩
set_option maxHeartbeats 4000000 in
set_option maxRecDepth 100000 in
theorem works_calls (w : World) : Calls Try.prog 16 #[] w fun e w' => e = .returned (.bool true) ∧ Ch No w w' := by
  have HP0 : Hid (Row (w.alloc (.cells #[.int .i64 0, .int .i64 1, .bool false, .int .i64 1, .int .i64 1, .int .i64 0] 46)) w.heap.size 46 [.int .i64 0, .int .i64 1, .bool false, .int .i64 1, .int .i64 1, .int .i64 0]) := Row.new w 46 _
  have HC0 : Hid (Ch No w (w.alloc (.cells #[.int .i64 0, .int .i64 1, .bool false, .int .i64 1, .int .i64 1, .int .i64 0] 46))) := (Ch.refl _ _).alloc _
  go_enter Try.func16, Try.ntmps16
  go_wp2_with (fail)
  refine (image_calls (ps := [pw]) (n := 1) rfl (by omega) (fun i p hp => ?_)).mono ?_
  · obtain rfl : i = 0 := by
      have := (List.getElem?_eq_some_iff.1 hp).1
      simp at this
      exact this
    simp at hp
    subst hp
    exact ⟨⟨w.heap.size, 0, none⟩, rfl, HP0.out.cl0⟩
  rintro e w1 ⟨x, rfl, him, hc1⟩
  rw [img_pw] at him
  obtain ⟨A1, k1, c1, A2, k2, c2, rfl⟩ := him.slices
  have HIM := Lib.hid him
  have HC1 := Lib.hid (HC0.out.then_ hc1)
  clear him hc1 HP0 HC0
  go_upto_region 2 with (fail)
  have HX2 : Hid (Row (w1.alloc (.cells #[.slice A1 k1 c1, .slice A2 k2 c2, .slice none 0 0] 27)) w1.heap.size 27 [.slice A1 k1 c1, .slice A2 k2 c2, .slice none 0 0]) := Row.new w1 27 _
  have HIM2 := Lib.hid (HIM.out.keepNo ((Ch.refl No w1).alloc (.cells #[.slice A1 k1 c1, .slice A2 k2 c2, .slice none 0 0] 27)))
  have HC2 := Lib.hid (HC1.out.alloc (.cells #[.slice A1 k1 c1, .slice A2 k2 c2, .slice none 0 0] 27))
  generalize w1.alloc (.cells #[.slice A1 k1 c1, .slice A2 k2 c2, .slice none 0 0] 27) = w2 at *
  generalize w1.heap.size = X at *
  go_wp2_with (first | ((with_reducible refine at_op (o := ⟨some 11, _, _, _, _, _⟩) ?_); refine pl_load (o := ⟨some 11, _, _, _, _, _⟩) rfl 27 _ rfl X rfl 27 [.slice A1 k1 c1, .slice A2 k2 c2, .slice none 0 0] HX2.out _ Try.underlying27 rfl size27 ?_))
  refine (new_calls HIM2.out (by decide) 1).mono ?_
  rintro e w3 ⟨G, M, f, rfl, hn⟩
  obtain ⟨E, hat, hE⟩ := newi_at hn (j := 0) (p := qw) (by decide) rfl rfl (by omega)
  have HAT := Lib.hid hat
  have HC3 := Lib.hid (HC2.out.then_ hn.ch)
  have HEN : Hid (w.heap.size ≤ E) := Nat.le_trans HC2.out.size hE
  clear hn hat hE HX2 HIM2 HIM HC1
  go_upto_region 5 with (fail)
  have HD : Hid (Row (w3.alloc (.cells #[.int .i64 4, .int .i64 5] 2)) w3.heap.size 2 (ints [4, 5])) := Row.new w3 2 (ints [4, 5])
  have HAT4 := Lib.hid (HAT.out.keepNo ((Ch.refl No w3).alloc (.cells #[.int .i64 4, .int .i64 5] 2)))
  have HC4 := Lib.hid (HC3.out.alloc (.cells #[.int .i64 4, .int .i64 5] 2))
  have HCALL : Hid (Calls Try.prog 18 #[.pointer (some ⟨G, 0, none⟩), .int .i64 1, .slice (some ⟨w3.heap.size, 0, none⟩) 2 2] (w3.alloc (.cells #[.int .i64 4, .int .i64 5] 2)) fun e w' => e = .returned (.tuple #[.bool true, .int .i64 0]) ∧ PushP (w3.alloc (.cells #[.int .i64 4, .int .i64 5] 2)) E qw (.slice none 0 0) false 0 (.slice none 0 0) 0 [4, 5] [] w') :=
    push_ok HAT4.out.hG HAT4.out.hM 1 HAT4.out.hi HAT4.out.hf HAT4.out.hE rfl ⟨some ⟨w3.heap.size, 0, none⟩, 2, rfl, HD.out.cl0, by decide⟩ (by decide) rfl (by decide) (Qv.nil _) (by decide)
  go_wp2_with (fail)
  refine HCALL.out.mono ?_
  rintro e w5 ⟨rfl, hp⟩
  obtain ⟨vq, m, hat5, hq5, hm5, hch5, -⟩ := HAT4.out.push (Qv.nil _) hp
  have HC5 : Hid (Ch No w w5) := HC4.out.trans hch5 (fun i hi he => by
    rcases he with he | he
    · have := HEN.out
      omega
    · simp [qblk] at he)
  obtain ⟨A3, k3, c3, rfl⟩ := own_slice hm5
  have HPOP := Lib.hid (pop_one hat5 rfl hq5 ⟨A3, k3, c3, rfl⟩)
  have HM5 := Lib.hid hm5
  have HAT5 := Lib.hid hat5
  clear hp hat5 hq5 hm5 hch5 HCALL HAT4 HD HC4
  go_wp2_with (fail)
  refine HPOP.out.mono ?_
  rintro e w6 ⟨rfl, vq6, hat6, -, hc6, -⟩
  have HM6 : Hid (w6.ownsRow _ 2 1 (.slice A3 k3 c3) (ints [4, 5]).length (ints [4, 5])) := owns_keepIs HM5.out hc6 (fun he => own_ne_row HM5.out HAT5.out.hE (by decide) he)
  have HC6 : Hid (Ch No w w6) := ch_newg HC5.out hc6 HEN.out
  have HD6 : Hid (Row (w6.alloc (.cells #[.int .i64 4, .int .i64 5] 2)) w6.heap.size 2 (ints [4, 5])) := Row.new w6 2 (ints [4, 5])
  have HC7 := Lib.hid (HC6.out.alloc (.cells #[.int .i64 4, .int .i64 5] 2))
  have HS1 : Hid (Sl (w6.alloc (.cells #[.int .i64 4, .int .i64 5] 2)) (.slice A3 k3 c3) [4, 5]) := sl_own (owns_keepNo HM6.out ((Ch.refl No w6).alloc _)) (by decide)
  have HS2 : Hid (Sl (w6.alloc (.cells #[.int .i64 4, .int .i64 5] 2)) (.slice (some ⟨w6.heap.size, 0, none⟩) 2 2) [4, 5]) := ⟨_, 2, rfl, HD6.out.cl0, by decide⟩
  have HSAME := Lib.hid (same_calls HS1.out HS2.out)
  rw [show decide (([4, 5] : List Int) = [4, 5]) = true from by decide] at HSAME
  clear hat6 hc6 HM6 HC6 HD6 HS1 HS2 HPOP HM5
  go_wp2_with (fail)
  refine HSAME.out.mono ?_
  rintro e w8 ⟨rfl, hc8⟩
  have HC8 := Lib.hid (HC7.out.then_ hc8)
  clear hc8
  go_wp2_with (fail)
  exact bodyPost_ret (v := .bool true) (by kernel_rfl) rfl ⟨rfl, HC8.out⟩
end Go.Proofs.Ytlokpcbiomjcnaa
