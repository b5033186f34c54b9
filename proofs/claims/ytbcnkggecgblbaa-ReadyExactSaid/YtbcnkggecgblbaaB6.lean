/- the reference's List. -/
import Derived.Test.YtbcnkggecgblbaaB5
set_option linter.unusedVariables false
set_option linter.unusedSimpArgs false
namespace Go.Proofs.Ytbcnkggecgblbaa
open Go.RowKit
def sliceLen : Value → Nat | .slice _ n _ => n | _ => 0
def ids3 (M : List Tri) : List Int := M.map (·.1)
theorem Ol.len {b : Nat} {w : World} {v : Value} {xs : List Int} (h : w.ownsRow b 3 1 v (ints xs).length (ints xs)) : sliceLen v = xs.length := by
  rcases owns_open h with ⟨rfl, hx⟩ | ⟨g, cap, rest, rfl, _⟩
  · have := congrArg List.length hx
    rw [ints_length] at this
    exact this.symm
  · simp [sliceLen, ints_length]
set_option maxHeartbeats 4000000 in
theorem rlist_calls {w : World} {v : Value} {X M : List Tri} (h : Rf w v X) (ho : Ord X M) (N T : Int) :
    Calls Try.prog 24 #[.agg (rl N v T).toArray] w fun e w' => ∃ v', e = .returned v' ∧ w'.ownsRow w.heap.size 3 1 v' (ints (ids3 M)).length (ints (ids3 M)) ∧ Ch No w w' := by
  have HSM : Hid (M.length ≤ 100000) := by show _ ≤ _; rw [ho.pm.length_eq]; exact h.2
  have HB0 : Hid (Row (w.alloc (.cells (rl N v T).toArray 28)) w.heap.size 28 (rl N v T)) := Row.new w 28 (rl N v T)
  have HC : Hid (Ch No w (w.alloc (.cells (rl N v T).toArray 28))) := (Ch.refl _ _).alloc _
  have HX := Lib.hid (h.keepNo HC.out)
  have HO := Lib.hid ho
  clear h ho
  go_enter Try.func24, Try.ntmps24
  go_upto_region 1 with (fail)
  change Code.wp _ _ _ _ (w.alloc (.cells (rl N v T).toArray 28))
  generalize w.alloc (.cells (rl N v T).toArray 28) = w1 at *
  go_wp2_with (fail)
  go_loopw [3] (fun o wr => ∃ (pre M' : List Tri) (v' : Value) (X' : List Tri), M = pre ++ M' ∧ Hid (wr.ownsRow w.heap.size 3 1 o (ints (ids3 pre)).length (ints (ids3 pre))) ∧ Hid (Rf wr v' X') ∧ Hid (Ord X' M') ∧ Hid (Row wr w.heap.size 28 (rl N v' T)) ∧ Hid (Ch No w wr)) (fun o _ => M.length - sliceLen o)
  case atStart => exact ⟨[], M, v, X, rfl, by exact owns_nil _ _ _ _, HX, HO, HB0, HC⟩
  case round =>
    clear HB0 HC HX HO
    obtain ⟨pre, M', v', X', hM, HW, HX, HO, HB, HC⟩ := hrel
    have HMM := Lib.hid hM
    have hlr := rlen HX.out
    have hcr : wr.cell? ⟨w.heap.size, 1, none⟩ = some v' := by rw [HB.out.cell]; rfl
    have hb0 := HB.out.lt
    have hleq : X'.length = M'.length := HO.out.pm.length_eq.symm
    have HSL : Hid (sliceLen u3 = pre.length) := by
      show _ = _
      rw [Ol.len HW.out]
      simp [ids3]
    clear hM
    cases M' with
    | nil =>
      have hd0 : decide ((0 : Int) < (X'.length : Int)) = false := by rw [hleq]; simp
      have hx0 : X'.length = 0 := hleq
      go_wp2_with (simp only [hlr])
      go_ret
      exact ⟨u3, rfl, by rw [HMM.out, List.append_nil]; exact HW.out, HC.out⟩
    | cons x M' =>
      have hd0 : 0 < X'.length := by rw [hleq]; simp
      clear hleq
      have H1 := Lib.hid (rl_one (N := N) (T := T) HX.out.one)
      have hpl : pre.length < M.length := by rw [HMM.out]; simp
      go_upto_region 3 with (simp only [hlr])
      go_wp2_with ((with_reducible refine at_op (o := ⟨some 12, .load 28 (.tmp 1), _, _, _, _⟩) ?_); refine pl_load rfl 28 (.tmp 1) rfl w.heap.size rfl 28 (rl N v' T) HB.out _ Try.underlying28 rfl size28 ?_)
      refine (rtake_calls HX.out HO.out N T).mono ?_
      rintro e w2 ⟨v2, X2, rfl, hx2, ho2, hc2⟩
      simp only [hd3]
      have HX2 := Lib.hid hx2
      have HO2 : Hid (Ord X2 M') := ho2
      have HB2 := Lib.hid (HB.out.keepNo hc2)
      have HC2 := Lib.hid (HC.out.then_ hc2)
      have HW2 := Lib.hid (owns_keepNo HW.out hc2)
      have H2 := Lib.hid (rl_one (N := N) (T := T) hx2.one)
      clear hx2 ho2 hc2 HX HO HB HC HW hcr hb0
      have hl3 : (rl N v2 T).length = 3 := rfl
      have HR3 : Hid (Row (w2.alloc (.cells (rl 0 (.slice none 0 0) 0).toArray 28)) w2.heap.size 28 (rl 0 (.slice none 0 0) 0)) := Row.new w2 28 _
      have HA3 : Hid (Ch No w2 (w2.alloc (.cells (rl 0 (.slice none 0 0) 0).toArray 28))) := (Ch.refl _ _).alloc _
      go_upto_region 4 with ((with_reducible refine at_op (o := ⟨none, .store 28 (.tmp 4) (.tmp 14), _, _, _, _⟩) ?_); refine pl_store rfl 28 (.tmp 4) (.tmp 14) rfl w2.heap.size rfl 28 (rl 0 (.slice none 0 0) 0) (rl N v2 T) rfl HR3.out size28 rfl H2.out ?_; intro w4 hr4 hc4; have HR4 := Lib.hid hr4; have HC4 := Lib.hid hc4; clear hr4 hc4)
      have HC24 : Hid (Ch No w2 w4) := ch_newg HA3.out HC4.out (Nat.le_refl _)
      have HX4 := Lib.hid (HX2.out.keepNo HC24.out)
      have HB4 := Lib.hid (HB2.out.keepNo HC24.out)
      have HC4w := Lib.hid (HC2.out.then_ HC24.out)
      have HW4 := Lib.hid (owns_keepNo HW2.out HC24.out)
      have HLT : Hid ((ints (ids3 pre)).length = pre.length) := by show _ = _; rw [ints_length]; simp [ids3]
      have HBY : Hid (((ints (ids3 pre)).length + 1) * 8 ≤ 140737488355328) := by show _ ≤ _; rw [HLT.out]; have := HSM.out; omega
      have HBS : Hid (w.heap.size ≤ (w4.alloc (.cells (ints [x.1]).toArray 3)).heap.size) := ((HC4w.out.alloc _).size)
      have HPX : Hid (ids3 pre ++ [x.1] = ids3 (pre ++ [x])) := by show _ = _; simp [ids3]
      have HBL : Hid (∀ w5, (w4.alloc (.cells (ints [x.1]).toArray 3)).grownBy w5 u3.ownBlock → Rf w5 v2 X2 ∧ Row w5 w.heap.size 28 (rl N v' T) ∧ Row w5 w2.heap.size 28 (rl N v2 T)) := by
        intro w5 hg
        have hc := Ch.of_grownBy hg
        refine ⟨(HX4.out.keepNo ((Ch.refl No w4).alloc _)).other (fun g L hr => hr.keep hc (own_ne_row (owns_keepNo HW4.out ((Ch.refl No w4).alloc _)) hr (by decide))), (HB4.out.alloc _).keep hc (own_ne_row HW4.out HB4.out (by decide)), (HR4.out.alloc _).keep hc (own_ne_row HW4.out HR4.out (by decide))⟩
      go_upto_region 5 with ((with_reducible refine at_op (o := ⟨some 20, .call { callee := .builtin .append, args := #[.tmp 17, .tmp 19], argTypes := #[37, 37] }, _, _, _, _⟩) ?_); refine wpList_append_to rfl (.tmp 17) (.tmp 19) 37 rfl w.heap.size 3 (.int .i64 0) 8 Try.underlying37 info3 rfl u3 (ints (ids3 pre)) rfl _ _ _ (ints [x.1]) rfl (HW4.out.alloc _) (ints_length _) ((Row.new w4 3 (ints [x.1])).cl0) (ints_one _) HBY.out (by omega) HBS.out ?_; intro v5 w5 ho5 hg5 hor5; rw [← ints_append, HPX.out] at ho5; have HO5 := Lib.hid ho5; obtain ⟨k0, k1, k2⟩ := HBL.out w5 hg5; have HX5 := Lib.hid k0; have HB5 := Lib.hid k1; have HR5 := Lib.hid k2; have HC5 : Hid (Ch No w w5) := (grown_no (Nat.le_refl _) (HW4.out.alloc _) hg5 (HC4w.out.alloc _)); clear ho5 hg5 hor5 k0 k1 k2)
      go_wp2_with (first | ((with_reducible refine at_op (o := ⟨some 21, .load 28 (.tmp 4), _, _, _, _⟩) ?_); refine pl_load rfl 28 (.tmp 4) rfl w2.heap.size rfl 28 (rl N v2 T) HR5.out _ Try.underlying28 rfl size28 ?_) | ((with_reducible refine at_op (o := ⟨none, .store 28 (.tmp 1) (.tmp 21), _, _, _, _⟩) ?_); refine pl_store rfl 28 (.tmp 1) (.tmp 21) rfl w.heap.size rfl 28 (rl N v' T) (rl N v2 T) rfl HB5.out size28 rfl H2.out ?_; intro w6 hr6 hc6; have HR6 := Lib.hid hr6; have HC6 := Lib.hid hc6; clear hr6 hc6))
      simp only [Act.put, List.setIfInBounds_toArray, List.set_cons_zero, List.set_cons_succ]
      go_wp2_with (fail)
      refine ⟨⟨pre ++ [x], M', v2, X2, by rw [HMM.out]; simp, owns_keepIs HO5.out HC6.out (own_ne_row HO5.out HB5.out (by decide)), HX5.out.keepIs HB5.out HC6.out, HO2, HR6, ch_newg HC5.out HC6.out (Nat.le_refl _)⟩, ?_⟩
      have h1 := HSL.out
      have h2 := Ol.len HO5.out
      rw [h1, h2]
      simp [ids3]
      omega
end Go.Proofs.Ytbcnkggecgblbaa
