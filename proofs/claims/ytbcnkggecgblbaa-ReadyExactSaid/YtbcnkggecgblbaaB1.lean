/- the reference's line: triples as cells; without. -/
import Derived.Test.YtbcnkggecgblbaaA13
set_option linter.unusedVariables false
set_option linter.unusedSimpArgs false
namespace Go.Proofs.Ytbcnkggecgblbaa
open Go.RowKit
abbrev Tri := Int × Int × Int
def tri (x : Tri) : List Value := [.int .i64 x.1, .int .i64 x.2.1, .int .i64 x.2.2]
def tps (X : List Tri) : List Value := X.flatMap tri
theorem tps_length (X : List Tri) : (tps X).length = X.length * 3 := by
  induction X with
  | nil => rfl
  | cons x X ih => simp only [tps, List.flatMap_cons, List.length_append, List.length_cons] at ih ⊢; rw [ih]; simp [tri]; omega
theorem tps_append (X Y : List Tri) : tps (X ++ Y) = tps X ++ tps Y := by simp [tps]
theorem tps_get (X : List Tri) (j : Nat) (x : Tri) (h : X[j]? = some x) (q : Nat) (hq : q < 3) : (tps X)[j * 3 + q]? = (tri x)[q]? := by
  induction X generalizing j with
  | nil => simp at h
  | cons y X ih =>
    have e : tps (y :: X) = tri y ++ tps X := rfl
    rw [e]
    cases j with
    | zero =>
      obtain rfl : y = x := by simpa using h
      rw [Nat.zero_mul, Nat.zero_add, List.getElem?_append_left (by simpa [tri] using hq)]
    | succ j =>
      rw [List.getElem?_append_right (by simp [tri]; omega)]
      have := ih j (by simpa using h)
      rw [← this]
      congr 1
      simp [tri]
      omega
theorem tps_one (X : List Tri) : ∀ v ∈ tps X, v.oneCell' = true := by
  intro v hv
  simp only [tps, List.mem_flatMap, tri] at hv
  obtain ⟨x, _, hv⟩ := hv
  simp at hv
  rcases hv with rfl | rfl | rfl <;> rfl
theorem info71 : (Try.prog.info? 71).map (fun i => (i.zero, i.size, i.bytes)) = some (some (.agg #[.int .i64 0, .int .i64 0, .int .i64 0]), 3, 24) := by kernel_rfl
theorem size71 : (Try.prog.info? 71).map (·.size) = some 3 := by kernel_rfl
/-- the reference's list -/
def Rf (w : World) (v : Value) (X : List Tri) : Prop := (∃ b, w.ownsRow b 71 3 v X.length (tps X)) ∧ X.length ≤ 100000
theorem Rf.keepl {b' : Nat} {w w' : World} {v : Value} {X : List Tri} (h : Rf w v X) (hc : Chl b' w w') : Rf w' v X := by
  obtain ⟨⟨b, h⟩, hl⟩ := h
  refine ⟨⟨b, h.1, ?_⟩, hl⟩
  rcases h.2 with hn | ⟨g, cap, cur, hv, hb, hg, rest⟩
  · exact .inl hn
  · refine .inr ⟨g, cap, cur, hv, hb, ?_, rest⟩
    have hr : Row w g 71 cur.toList := by unfold Row; simpa using hg
    have := hc.row g 71 _ hr (by decide) (by decide)
    unfold Row at this
    simpa using this
theorem Rf.keepNo {w w' : World} {v : Value} {X : List Tri} (h : Rf w v X) (hc : Ch No w w') : Rf w' v X := h.keepl (Chl.of_no (b := 0) hc)
theorem Rf.cases {w : World} {v : Value} {X : List Tri} (h : Rf w v X) :
    (v = .slice none 0 0 ∧ X = []) ∨ ∃ g cap rest, v = .slice (some ⟨g, 0, none⟩) X.length cap ∧ Row w g 71 (tps X ++ rest) ∧ X.length ≤ cap ∧ cap ≤ maxLen := by
  obtain ⟨⟨b, h⟩, hl⟩ := h
  rcases owns_open_sz h with ⟨hv, h0⟩ | ⟨g, cap, rest, hv, hb, hr, hn, hm, hl⟩
  · exact .inl ⟨hv, List.eq_nil_of_length_eq_zero h0⟩
  · exact .inr ⟨g, cap, rest, hv, hr, hn, hm⟩
theorem Rf.nil (w : World) : Rf w (.slice none 0 0) [] := ⟨⟨0, by exact owns_nil w 0 71 3⟩, by simp⟩
/-- all but one number -/
def wo (id : Int) (X : List Tri) : List Tri := X.filter (fun x => x.1 != id)
theorem wo_no (X : List Tri) (id : Int) (j : Nat) (x : Tri) (h : X[j]? = some x) (hn : (x.1 != id) = false) : wo id (X.take (j + 1)) = wo id (X.take j) := by
  rw [List.take_add_one, h]
  simp [wo, hn]
theorem wo_yes (X : List Tri) (id : Int) (j : Nat) (x : Tri) (h : X[j]? = some x) (hn : (x.1 != id) = true) : wo id (X.take (j + 1)) = wo id (X.take j) ++ [x] := by
  rw [List.take_add_one, h]
  simp [wo, hn]
theorem wo_le (X : List Tri) (id : Int) (j : Nat) : (wo id (X.take j)).length ≤ j := by
  refine Nat.le_trans (List.length_filter_le _ _) ?_
  rw [List.length_take]
  omega
/-- the cells of one element -/
theorem row_tri {w : World} {g : Nat} {X : List Tri} {rest : List Value} (h : Row w g 71 (tps X ++ rest)) (j : Nat) (x : Tri) (hx : X[j]? = some x) :
    w.cell? ⟨g, j * 3, none⟩ = some (.int .i64 x.1) ∧ w.cell? ⟨g, j * 3 + 1, none⟩ = some (.int .i64 x.2.1) ∧ w.cell? ⟨g, j * 3 + 2, none⟩ = some (.int .i64 x.2.2) := by
  have hl : j < X.length := (List.getElem?_eq_some_iff.1 hx).1
  have hq : ∀ q, q < 3 → w.cell? ⟨g, j * 3 + q, none⟩ = (tri x)[q]? := fun q hq => by
    rw [h.cell, List.getElem?_append_left (by rw [tps_length]; omega), tps_get X j x hx q hq]
  exact ⟨hq 0 (by omega), hq 1 (by omega), hq 2 (by omega)⟩
theorem row_tri_range {w : World} {g : Nat} {X : List Tri} {rest : List Value} (h : Row w g 71 (tps X ++ rest)) (j : Nat) (x : Tri) (hx : X[j]? = some x) : w.rangeAt g (j * 3) (tri x) := fun q v hq => by
  have hl : j < X.length := (List.getElem?_eq_some_iff.1 hx).1
  have h3 : q < 3 := (List.getElem?_eq_some_iff.1 hq).1
  rw [h.cell, List.getElem?_append_left (by rw [tps_length]; omega), tps_get X j x hx q h3]
  exact hq
set_option maxHeartbeats 4000000 in
theorem without_calls {w : World} {v : Value} {X : List Tri} (h : Rf w v X) (id : Int) :
    Calls Try.prog 32 #[v, .int .i64 id] w fun e w' => ∃ v', e = .returned v' ∧ w'.ownsRow w.heap.size 71 3 v' (wo id X).length (tps (wo id X)) ∧ Ch No w w' := by
  have hsm := h.2
  rcases h.cases with ⟨rfl, rfl⟩ | ⟨g, cap, rest, rfl, hr, hn, hm⟩
  · clear h
    go_enter Try.func32, Try.ntmps32
    go_wp2_with (fail)
    go_loopw [5, 6] (fun o i wr => o = .slice none 0 0 ∧ i = .int .i64 0 ∧ Hid (Ch No w wr)) (fun _ _ _ => 0)
    case atStart => exact ⟨rfl, rfl, Ch.refl _ _⟩
    case round =>
      obtain ⟨rfl, rfl, HC⟩ := hrel
      go_wp2_with (fail)
      go_ret
      exact ⟨_, rfl, by exact owns_nil _ _ _ _, HC.out⟩
  · have HR : Hid (∀ w', Ch No w w' → Row w' g 71 (tps X ++ rest)) := fun w' hc => hr.keepNo hc
    obtain ⟨n, hnn⟩ : ∃ n, n = X.length := ⟨_, rfl⟩
    have HN := Lib.hid hnn
    rw [← hnn] at hsm hn
    rw [← hnn]
    clear h hr hnn
    have hg63 : cap ≤ 9223372036854775807 := by unfold maxLen at hm; omega
    clear hm
    go_enter Try.func32, Try.ntmps32
    go_wp2_with (fail)
    go_loopw [5, 6] (fun o i wr => ∃ j : Nat, j ≤ n ∧ i = .int .i64 j ∧ Hid (wr.ownsRow w.heap.size 71 3 o (wo id (X.take j)).length (tps (wo id (X.take j)))) ∧ Hid (Ch No w wr)) (fun _ i _ => n - (intOf i).toNat)
    case atStart => exact ⟨0, by omega, rfl, by exact owns_nil _ _ _ _, Ch.refl _ _⟩
    case round =>
      obtain ⟨j, hj, rfl, HO, HC⟩ := hrel
      by_cases hlt : j < n
      · have d0 : decide ((j : Int) < (n : Int)) = true := by simpa using hlt
        have hji : (j : Int) < (n : Int) := by omega
        obtain ⟨x, hx⟩ : ∃ x, X[j]? = some x := ⟨X[j]'(by rw [← HN.out]; exact hlt), List.getElem?_eq_getElem _⟩
        obtain ⟨hx0, _, _⟩ := row_tri (HR.out wr HC.out) j x hx
        have HRX := Lib.hid (row_tri_range (HR.out wr HC.out) j x hx)
        have hgw : g < wr.heap.size := (HR.out wr HC.out).lt
        cases hne : x.1 != id
        · have HTK : Hid (wo id (X.take (j + 1)) = wo id (X.take j)) := wo_no X id j x hx hne
          clear hx
          go_wp2_with (fail)
          go_roundw
          · exact ⟨j + 1, by omega, by go_num, by rw [HTK.out]; exact HO, HC⟩
          · simp [intOf]; omega
        · have HTK : Hid (tps (wo id (X.take (j + 1))) = tps (wo id (X.take j)) ++ tri x) := by
            show _ = _
            rw [wo_yes X id j x hx hne, tps_append]
            simp [tps]
          have HTL : Hid ((wo id (X.take (j + 1))).length = (wo id (X.take j)).length + 1) := by
            show _ = _
            rw [wo_yes X id j x hx hne]
            simp
          have HLE : Hid ((wo id (X.take j)).length ≤ j) := wo_le X id j
          have HB1 : Hid ((wo id (X.take j)).length + 1 ≤ 140737488355328) := by show _ ≤ _; have := HLE.out; omega
          have HB2 : Hid (((wo id (X.take j)).length + 1) * 24 ≤ 140737488355328) := by show _ ≤ _; have := HLE.out; omega
          have HBS : Hid (w.heap.size ≤ (wr.alloc (.cells (tri x).toArray 71)).heap.size) := ((HC.out.alloc _).size)
          have HT1 : Hid (∀ u ∈ tri x, u.oneCell' = true) := by
            show ∀ u ∈ tri x, _
            have := tps_one [x]
            simpa [tps] using this
          have hl3 : (tri x).length = 3 := rfl
          clear hx
          go_wp2_with (first | ((with_reducible refine at_op (o := ⟨some 24, .load 71 (.tmp 23), _, _, _, _⟩) ?_); refine gd_load_mid rfl 71 (.tmp 23) rfl g (j * 3) rfl (tri x) _ HRX.out Try.underlying71 rfl size71 ?_) | ((with_reducible refine at_op (o := ⟨some 26, .call { callee := .builtin .append, args := #[.tmp 20, .tmp 25], argTypes := #[26, 26] }, _, _, _, _⟩) ?_); refine wpList_append_sz rfl (.tmp 20) (.tmp 25) 26 rfl w.heap.size 71 (.agg #[.int .i64 0, .int .i64 0, .int .i64 0]) 3 24 Try.underlying26 info71 rfl (by omega) u5 (wo id (X.take j)).length (tps (wo id (X.take j))) rfl _ 1 1 (tri x) rfl (HO.out.alloc _) rfl ((Row.new wr 71 (tri x)).cl0) HT1.out HB1.out HB2.out HBS.out ?_; intro v1 w2 ho2 hg2 hat2; rw [← HTK.out, ← HTL.out] at ho2; have HO2 := Lib.hid ho2; have HC2 : Hid (Ch No w w2) := (grown_no (Nat.le_refl _) (HO.out.alloc _) hg2 (HC.out.alloc _)); clear ho2 hg2 hat2))
          go_roundw
          · exact ⟨j + 1, by omega, by go_num, HO2, HC2⟩
          · simp [intOf]; omega
      · obtain rfl : j = n := by omega
        have d0 : decide ((j : Int) < (j : Int)) = false := by simp
        have HTK : Hid (X.take j = X) := List.take_of_length_le (by have := HN.out; omega)
        go_wp2_with (fail)
        rw [HTK.out] at HO
        go_ret
        exact ⟨_, rfl, HO.out, HC.out⟩
end Go.Proofs.Ytbcnkggecgblbaa
