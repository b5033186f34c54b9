/- the line's methods: List, New, Put, Take. -/
import Derived.Test.YtbcnkggecgblbaaA6
set_option linter.unusedVariables false
set_option linter.unusedSimpArgs false
namespace Go.Proofs.Ytbcnkggecgblbaa
open Go.RowKit
theorem info3 : (Try.prog.info? 3).map (fun i => (i.zero, i.size, i.bytes)) = some (some (.int .i64 0), 1, 8) := by kernel_rfl
/-- the numbers in their order -/
def ids (L : List (Int × Int)) : List Int := L.map (·.1)
set_option maxHeartbeats 4000000 in
theorem list_calls {base p : Nat} {N : Int} {v : Value} {L : List (Int × Int)} {w : World} (h : Ln base p N v L w) :
    Calls Try.prog 10 #[.pointer (some ⟨p, 0, none⟩)] w fun e w' => ∃ v', e = .returned v' ∧ w'.ownsRow w.heap.size 3 1 v' (ints (ids L)).length (ints (ids L)) ∧ Ch No w w' := by
  have HL := Lib.hid h
  have hsm := h.small
  have hp := h.row.lt
  have hc0 : w.cell? ⟨p, 0, none⟩ = some v := by rw [h.row.cell]; rfl
  rcases h.cases with ⟨rfl, rfl⟩ | ⟨g, cap, rest, rfl, hb, hr, hn, hm, hl⟩
  · clear h
    go_enter Try.func10, Try.ntmps10
    go_wp2_with (fail)
    go_loopw [3, 12] (fun o i wr => o = .slice none 0 0 ∧ i = .int .i64 0 ∧ Hid (Ch No w wr)) (fun _ _ _ => 0)
    case atStart => exact ⟨rfl, rfl, Ch.refl _ _⟩
    case round =>
      obtain ⟨rfl, rfl, HC⟩ := hrel
      go_wp2_with (fail)
      go_ret
      exact ⟨_, rfl, owns_nil _ _ _ _, HC.out⟩
  · have HR : Hid (∀ w', Ch No w w' → Row w' g 62 (prs L ++ rest)) := fun w' hc => hr.keepNo hc
    have HLN : Hid ((ints (ids L)).length = L.length) := by show _ = _; rw [ints_length]; simp [ids]
    obtain ⟨n, hnn⟩ : ∃ n, n = L.length := ⟨_, rfl⟩
    have HN := Lib.hid hnn
    rw [← hnn] at hsm hn hl HLN HL hc0
    clear h hr hnn
    have hg63 : cap ≤ 9223372036854775807 := by unfold maxLen at hm; omega
    clear hm
    go_enter Try.func10, Try.ntmps10
    go_wp2_with (fail)
    go_loopw [3, 12] (fun o i wr => ∃ j : Nat, j ≤ n ∧ i = .int .i64 j ∧ Hid (wr.ownsRow w.heap.size 3 1 o (ints ((ids L).take j)).length (ints ((ids L).take j))) ∧ Hid (Ch No w wr)) (fun _ i _ => n - (intOf i).toNat)
    case atStart => exact ⟨0, by omega, rfl, by exact owns_nil _ _ _ _, Ch.refl _ _⟩
    case round =>
      obtain ⟨j, hj, rfl, HO, HC⟩ := hrel
      by_cases hlt : j < n
      · have d0 : decide ((j : Int) < (n : Int)) = true := by simpa using hlt
        have hji : (j : Int) < (n : Int) := by omega
        obtain ⟨x, hx⟩ : ∃ x, L[j]? = some x := ⟨L[j]'(by rw [← HN.out]; exact hlt), List.getElem?_eq_getElem _⟩
        have HTK : Hid ((ids L).take (j + 1) = (ids L).take j ++ [x.1]) := by
          show _ = _
          rw [List.take_add_one]
          simp [ids, hx]
        have HX := Lib.hid hx
        have HRX : Hid (wr.rangeAt g (j * 2) [.int .i64 x.1, .int .i64 x.2]) := by
          have := prs_range (row_range (HR.out wr HC.out) 0 (prs L) (fun j v hj => by rw [Nat.zero_add, List.getElem?_append_left (List.getElem?_eq_some_iff.1 hj).1]; exact hj)) j x hx
          rwa [Nat.zero_add] at this
        clear hx
        have hgw : g < wr.heap.size := (HR.out wr HC.out).lt
        go_upto_region 5 with ((with_reducible refine at_op (o := ⟨some 15, .load 62 (.tmp 14), _, _, _, _⟩) ?_); refine gd_load_mid rfl 62 (.tmp 14) rfl g (j * 2) rfl [.int .i64 x.1, .int .i64 x.2] _ HRX.out Try.underlying62 rfl size62 ?_)
        have HX1 : Hid (Row _ _ _ _) := Row.new wr 62 [.int .i64 x.1, .int .i64 x.2]
        have HO1 := Lib.hid (HO.out.alloc (.cells #[.int .i64 x.1, .int .i64 x.2] 62))
        have HC1 := Lib.hid (HC.out.alloc (.cells #[.int .i64 x.1, .int .i64 x.2] 62))
        change Code.wp _ _ _ _ (wr.alloc (.cells [.int .i64 x.1, .int .i64 x.2].toArray 62))
        change Hid (World.ownsRow (wr.alloc (.cells [.int .i64 x.1, .int .i64 x.2].toArray 62)) _ _ _ _ _ _) at HO1
        change Hid (Ch No w (wr.alloc (.cells [.int .i64 x.1, .int .i64 x.2].toArray 62))) at HC1
        generalize wr.alloc (.cells [.int .i64 x.1, .int .i64 x.2].toArray 62) = w1 at *
        generalize wr.heap.size = b at *
        have hcx : w1.cell? ⟨b, 0, none⟩ = some (.int .i64 x.1) := by rw [HX1.out.cell]; rfl
        have hbw := HX1.out.lt
        have HLT : Hid ((ints ((ids L).take j)).length = j) := by show _ = _; rw [ints_length, List.length_take]; simp [ids, ← HN.out]; omega
        have HBY : Hid (((ints ((ids L).take j)).length + 1) * 8 ≤ 140737488355328) := by show _ ≤ _; rw [HLT.out]; omega
        have HBS : Hid (w.heap.size ≤ (w1.alloc (.cells (ints [x.1]).toArray 3)).heap.size) := ((HC1.out.alloc _).size)
        clear HRX HO HC
        go_wp2_with ((with_reducible refine at_op (o := ⟨some 20, .call { callee := .builtin .append, args := #[.tmp 16, .tmp 19], argTypes := #[37, 37] }, _, _, _, _⟩) ?_); refine wpList_append_to rfl (.tmp 16) (.tmp 19) 37 rfl w.heap.size 3 (.int .i64 0) 8 Try.underlying37 info3 rfl u3 (ints ((ids L).take j)) rfl _ _ _ (ints [x.1]) rfl (HO1.out.alloc _) (ints_length _) ((Row.new w1 3 (ints [x.1])).cl0) (ints_one _) HBY.out (by omega) HBS.out ?_; intro v1 w2 ho2 hg2 hat2; rw [← ints_append, ← HTK.out] at ho2; have HO2 := Lib.hid ho2; have HC2 : Hid (Ch No w w2) := (grown_no (Nat.le_refl _) (HO1.out.alloc _) hg2 (HC1.out.alloc _)); clear ho2 hg2 hat2)
        go_roundw
        · exact ⟨j + 1, by omega, by go_num, HO2, HC2⟩
        · simp [intOf]; omega
      · obtain rfl : j = n := by omega
        have d0 : decide ((j : Int) < (j : Int)) = false := by simp
        have HTK : Hid ((ids L).take j = ids L) := List.take_of_length_le (by simp [ids, HN.out])
        go_wp2_with (fail)
        rw [HTK.out] at HO
        go_ret
        exact ⟨_, rfl, HO.out, HC.out⟩
end Go.Proofs.Ytbcnkggecgblbaa
