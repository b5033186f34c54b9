/- the reference's First. -/
import Derived.Test.YtbcnkggecgblbaaB3
set_option linter.unusedVariables false
set_option linter.unusedSimpArgs false
namespace Go.Proofs.Ytbcnkggecgblbaa
open Go.RowKit
/-- x goes ahead of y -/
def Beat (x y : Tri) : Prop := y.2.1 < x.2.1 ∨ (y.2.1 = x.2.1 ∧ x.2.2 < y.2.2)
/-- any two may be told apart -/
def Dis (X : List Tri) : Prop := ∀ (i k : Nat) (x y : Tri), i ≠ k → X[i]? = some x → X[k]? = some y → Beat x y ∨ Beat y x
theorem Beat.trans {x y z : Tri} (h : Beat x y) (k : Beat y z) : Beat x z := by
  unfold Beat at *
  omega
/-- the best of the first j -/
def Best (X : List Tri) (j : Nat) (b : Int) : Prop := (b = -1 ∧ j = 0) ∨ ∃ (m : Nat) (y : Tri), b = (m : Int) ∧ m < j ∧ X[m]? = some y ∧ ∀ (k : Nat) (z : Tri), k < j → k ≠ m → X[k]? = some z → Beat y z
theorem best_new {X : List Tri} {j m : Nat} {x y : Tri} (hx : X[j]? = some x) (hy : X[m]? = some y) (hb : ∀ (k : Nat) (z : Tri), k < j → k ≠ m → X[k]? = some z → Beat y z) (h : Beat x y) : Best X (j + 1) (j : Int) := by
  refine .inr ⟨j, x, rfl, by omega, hx, fun k z hk hkj hz => ?_⟩
  by_cases e : k = m
  · subst e
    rw [hy] at hz
    cases hz
    exact h
  · exact h.trans (hb k z (by omega) e hz)
theorem best_old {X : List Tri} {j m : Nat} {x y : Tri} (hx : X[j]? = some x) (hy : X[m]? = some y) (hm : m < j) (hb : ∀ (k : Nat) (z : Tri), k < j → k ≠ m → X[k]? = some z → Beat y z) (h : Beat y x) : Best X (j + 1) (m : Int) := by
  refine .inr ⟨m, y, rfl, by omega, hy, fun k z hk hkm hz => ?_⟩
  by_cases e : k = j
  · subst e
    rw [hx] at hz
    cases hz
    exact h
  · exact hb k z (by omega) hkm hz
theorem rfirst_nil (N T : Int) (w : World) :
    Calls Try.prog 21 #[.agg (rl N (.slice none 0 0) T).toArray] w fun e w' => e = .returned (.tuple #[.int .i64 0, .bool false]) ∧ Ch No w w' := by
  have HC : Hid (Ch No w (w.alloc (.cells (rl N (.slice none 0 0) T).toArray 28))) := (Ch.refl _ _).alloc _
  have HB0 : Hid (Row (w.alloc (.cells (rl N (.slice none 0 0) T).toArray 28)) w.heap.size 28 (rl N (.slice none 0 0) T)) := Row.new w 28 _
  go_enter Try.func21, Try.ntmps21
  go_upto_region 1 with (fail)
  change Code.wp _ _ _ _ (w.alloc (.cells (rl N (.slice none 0 0) T).toArray 28))
  generalize w.alloc (.cells (rl N (.slice none 0 0) T).toArray 28) = w1 at *
  have c1 : w1.cell? ⟨w.heap.size, 1, none⟩ = some (.slice none 0 0) := by rw [HB0.out.cell]; rfl
  have hb0 := HB0.out.lt
  go_wp2_with (fail)
  go_loopw [4, 5] (fun b i wr => b = .int .i64 (-1) ∧ i = .int .i64 0 ∧ w1 = wr) (fun _ _ _ => 0)
  case atStart => exact ⟨rfl, rfl, rfl⟩
  case round =>
    obtain ⟨rfl, rfl, rfl⟩ := hrel
    go_wp2_with (fail)
    exact bodyPost_ret (v := .tuple #[.int .i64 0, .bool false]) (by kernel_rfl) rfl ⟨rfl, HC.out⟩
set_option maxHeartbeats 8000000 in
theorem rfirst_some (N T : Int) (X : List Tri) (g n cap : Nat) (rest : List Value) (w : World) (hn : n = X.length) (h0 : 0 < n) (hsm : n ≤ 100000) (hr : Row w g 71 (tps X ++ rest)) (hcap : n ≤ cap) (hm : cap ≤ maxLen) (hd : Dis X) :
    Calls Try.prog 21 #[.agg (rl N (.slice (some ⟨g, 0, none⟩) n cap) T).toArray] w fun e w' => (∃ (m : Nat) (x : Tri), X[m]? = some x ∧ (∀ (k : Nat) (y : Tri), k ≠ m → X[k]? = some y → Beat x y) ∧ e = .returned (.tuple #[.int .i64 x.1, .bool true])) ∧ Ch No w w' := by
  have HC : Hid (Ch No w (w.alloc (.cells (rl N (.slice (some ⟨g, 0, none⟩) n cap) T).toArray 28))) := (Ch.refl _ _).alloc _
  have HB0 : Hid (Row (w.alloc (.cells (rl N (.slice (some ⟨g, 0, none⟩) n cap) T).toArray 28)) w.heap.size 28 (rl N (.slice (some ⟨g, 0, none⟩) n cap) T)) := Row.new w 28 _
  have HR := Lib.hid (hr.keepNo HC.out)
  have HN := Lib.hid hn
  have HD := Lib.hid hd
  have hg63 : cap ≤ 9223372036854775807 := by unfold maxLen at hm; omega
  clear hr hn hd hm
  go_enter Try.func21, Try.ntmps21
  go_upto_region 1 with (fail)
  change Code.wp _ _ _ _ (w.alloc (.cells (rl N (.slice (some ⟨g, 0, none⟩) n cap) T).toArray 28))
  generalize w.alloc (.cells (rl N (.slice (some ⟨g, 0, none⟩) n cap) T).toArray 28) = w1 at *
  have c1 : w1.cell? ⟨w.heap.size, 1, none⟩ = some (.slice (some ⟨g, 0, none⟩) n cap) := by rw [HB0.out.cell]; rfl
  have hb0 := HB0.out.lt
  have hgw := HR.out.lt
  go_wp2_with (fail)
  go_loopw [4, 5] (fun b i wr => ∃ (j : Nat) (bi : Int), j ≤ n ∧ i = .int .i64 j ∧ b = .int .i64 bi ∧ Dr w1 wr ∧ Hid (Best X j bi)) (fun _ i _ => n - (intOf i).toNat)
  case atStart => exact ⟨0, -1, Nat.zero_le _, rfl, rfl, Dr.refl _, .inl ⟨rfl, rfl⟩⟩
  case round =>
    obtain ⟨j, bi, hj, rfl, rfl, hdr, HBE⟩ := hrel
    obtain ⟨q, rfl⟩ := hdr
    by_cases hlt : j < n
    · have d0 : decide ((j : Int) < (n : Int)) = true := by simpa using hlt
      have hji : (j : Int) < (n : Int) := by omega
      have hj0 : decide ((j : Int) < 0) = false := by simp
      obtain ⟨x, hx⟩ : ∃ x, X[j]? = some x := ⟨X[j]'(by rw [← HN.out]; exact hlt), List.getElem?_eq_getElem _⟩
      obtain ⟨hx0, hx1, hx2⟩ := row_tri HR.out j x hx
      have HXJ := Lib.hid hx
      clear hx
      rcases HBE.out with ⟨rfl, rfl⟩ | ⟨m, y, rfl, hmj, hy, hb⟩
      · have HB1 : Hid (Best X (0 + 1) ((0 : Nat) : Int)) := .inr ⟨0, x, rfl, by omega, HXJ.out, fun k z hk hk0 => by omega⟩
        go_upto_region 5 with (fail)
        go_quiet (fail)
        go_wp2_with (fail)
        exact ⟨⟨0 + 1, ((0 : Nat) : Int), by omega, by go_num, rfl, Dr.step w1 _, HB1⟩, by simp [intOf]; omega⟩
      · obtain ⟨hy0, hy1, hy2⟩ := row_tri HR.out m y hy
        have hm0 : decide ((m : Int) < 0) = false := by simp
        have hmn : (m : Int) < (n : Int) := by omega
        have HY := Lib.hid hy
        have HBB := Lib.hid hb
        clear hy hb hx0 hy0
        cases g1 : decide (y.2.1 < x.2.1)
        · cases g2 : (x.2.1 == y.2.1)
          · have HB1 : Hid (Best X (j + 1) (m : Int)) := best_old HXJ.out HY.out hmj HBB.out (.inl (by
              have h1 := of_decide_eq_false g1
              have h2 : x.2.1 ≠ y.2.1 := by simpa using g2
              omega))
            go_upto_region 5 with (fail)
            go_quiet (fail)
            go_wp2_with (fail)
            exact ⟨⟨j + 1, (m : Int), by omega, by go_num, rfl, Dr.step w1 _, HB1⟩, by simp [intOf]; omega⟩
          · have HEQ : Hid (x.2.1 = y.2.1) := by show _ = _; simpa using g2
            cases g3 : decide (x.2.2 < y.2.2)
            · have HB1 : Hid (Best X (j + 1) (m : Int)) := best_old HXJ.out HY.out hmj HBB.out (by
                have h1 := of_decide_eq_false g3
                have h2 := HEQ.out
                rcases HD.out m j y x (by omega) HY.out HXJ.out with h | h
                · exact h
                · unfold Beat at h ⊢
                  omega)
              go_upto_region 5 with (fail)
              go_quiet (fail)
              go_wp2_with (fail)
              exact ⟨⟨j + 1, (m : Int), by omega, by go_num, rfl, Dr.step w1 _, HB1⟩, by simp [intOf]; omega⟩
            · have HB1 : Hid (Best X (j + 1) (j : Int)) := best_new HXJ.out HY.out HBB.out (.inr ⟨HEQ.out.symm, of_decide_eq_true g3⟩)
              go_upto_region 5 with (fail)
              go_quiet (fail)
              go_wp2_with (fail)
              exact ⟨⟨j + 1, (j : Int), by omega, by go_num, rfl, Dr.step w1 _, HB1⟩, by simp [intOf]; omega⟩
        · have HB1 : Hid (Best X (j + 1) (j : Int)) := best_new HXJ.out HY.out HBB.out (.inl (of_decide_eq_true g1))
          go_upto_region 5 with (fail)
          go_quiet (fail)
          go_wp2_with (fail)
          exact ⟨⟨j + 1, (j : Int), by omega, by go_num, rfl, Dr.step w1 _, HB1⟩, by simp [intOf]; omega⟩
    · obtain rfl : j = n := by omega
      have d0 : decide ((j : Int) < (j : Int)) = false := by simp
      rcases HBE.out with ⟨rfl, rfl⟩ | ⟨m, y, rfl, hmj, hy, hb⟩
      · omega
      · obtain ⟨hy0, hy1, hy2⟩ := row_tri HR.out m y hy
        have hm0 : decide ((m : Int) < 0) = false := by simp
        have hmn : (m : Int) < (j : Int) := by omega
        have HY := Lib.hid hy
        have HBB := Lib.hid hb
        clear hy hb
        go_wp2_with (fail)
        refine bodyPost_ret (v := .tuple #[.int .i64 y.1, .bool true]) (by kernel_rfl) rfl ⟨⟨m, y, HY.out, fun k z hk hz => HBB.out k z (by rw [HN.out]; exact (List.getElem?_eq_some_iff.1 hz).1) hk hz, rfl⟩, HC.out.then_ (Dr.step w1 q).ch⟩
end Go.Proofs.Ytbcnkggecgblbaa
