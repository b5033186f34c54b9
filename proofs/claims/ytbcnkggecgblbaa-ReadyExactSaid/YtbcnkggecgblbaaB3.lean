/- the reference's Put. -/
import Derived.Test.YtbcnkggecgblbaaB2
set_option linter.unusedVariables false
set_option linter.unusedSimpArgs false
namespace Go.Proofs.Ytbcnkggecgblbaa
open Go.RowKit
theorem ch_cell (w : World) (g o : Nat) (u : Value) : Ch (Is g) w (w.setCell ⟨g, o, none⟩ u) := (Ch.refl (Is g) w).setCell (p := ⟨g, o, none⟩) (fun _ => is_self g) u
theorem own_one {w : World} {base : Nat} {e : TypeId} {size n : Nat} {v : Value} {xs : List Value} (h : w.ownsRow base e size v n xs) : v.oneCell' = true := by
  rcases owns_open_sz h with ⟨rfl, _⟩ | ⟨_, _, _, rfl, _⟩ <;> rfl
set_option maxHeartbeats 4000000 in
theorem rput_ok {w : World} {v : Value} {X : List Tri} (h : Rf w v X) (N T id pri : Int) (h1 : 1 ≤ id) (h2 : id ≤ N) (hT : 0 ≤ T ∧ T ≤ 9223372036854775806) (hwl : (wo id X).length + 1 ≤ 100000) :
    Calls Try.prog 19 #[.agg (rl N v T).toArray, .int .i64 id, .int .i64 pri] w fun e w' => ∃ v', e = .returned (.tuple #[.agg (rl N v' (T + 1)).toArray, .bool true]) ∧ Rf w' v' (wo id X ++ [(id, pri, T + 1)]) ∧ Ch No w w' := by
  have hv1 := h.one
  have HX := Lib.hid h
  have HB0 : Hid (Row ((w.alloc (.cells (rl N v T).toArray 28)).alloc (.cells (rl 0 (.slice none 0 0) 0).toArray 28)) w.heap.size 28 (rl N v T)) := (Row.new w 28 (rl N v T)).alloc _
  have HB1 : Hid (Row ((w.alloc (.cells (rl N v T).toArray 28)).alloc (.cells (rl 0 (.slice none 0 0) 0).toArray 28)) (w.heap.size + 1) 28 (rl 0 (.slice none 0 0) 0)) := Row.new_at _ 28 _ (by simp)
  have HC : Hid (Ch No w ((w.alloc (.cells (rl N v T).toArray 28)).alloc (.cells (rl 0 (.slice none 0 0) 0).toArray 28))) := ((Ch.refl _ _).alloc _).alloc _
  clear h
  have d0 : decide (id < 1) = false := decide_eq_false (by omega)
  have d1 : decide (N < id) = false := decide_eq_false (by omega)
  go_enter Try.func19, Try.ntmps19
  go_upto_region 1 with (fail)
  change Code.wp _ _ _ _ ((w.alloc (.cells (rl N v T).toArray 28)).alloc (.cells (rl 0 (.slice none 0 0) 0).toArray 28))
  generalize (w.alloc (.cells (rl N v T).toArray 28)).alloc (.cells (rl 0 (.slice none 0 0) 0).toArray 28) = w1 at *
  have c0 : w1.cell? ⟨w.heap.size, 0, none⟩ = some (.int .i64 N) := by rw [HB0.out.cell]; rfl
  have c1 : w1.cell? ⟨w.heap.size, 1, none⟩ = some v := by rw [HB0.out.cell]; rfl
  have hb0 := HB0.out.lt
  go_wp2_with (fail)
  refine (without_calls (HX.out.keepNo HC.out) id).mono ?_
  rintro e w2 ⟨v2, rfl, ho2, hc2⟩
  have HO2 := Lib.hid ho2
  have HB02 := Lib.hid (HB0.out.keepNo hc2)
  have HB12 := Lib.hid (HB1.out.keepNo hc2)
  have HC2 := Lib.hid (HC.out.then_ hc2)
  have HSZ : Hid (w.heap.size + 2 ≤ w1.heap.size) := by show _ ≤ _; have := HB1.out.lt; omega
  have hsz2 := hc2.size
  clear ho2 hc2 c0 c1 hb0
  have c2 : w2.cell? ⟨w.heap.size, 2, none⟩ = some (.int .i64 T) := by rw [HB02.out.cell]; rfl
  have hf2 : w2.frozen? ⟨w.heap.size, 2, none⟩ = false := HB02.out.frozen _
  have hb0 := HB02.out.lt
  go_upto_region 5 with (fail)
  have HB03 : Hid (Row (w2.setCell ⟨w.heap.size, 2, none⟩ (.int .i64 (T + 1))) w.heap.size 28 (rl N v (T + 1))) := HB02.out.set_ 2 _
  have HB13 := Lib.hid (HB12.out.setOther (p := ⟨w.heap.size, 2, none⟩) (by simp) (.int .i64 (T + 1)))
  have HO3 : Hid ((w2.setCell ⟨w.heap.size, 2, none⟩ (.int .i64 (T + 1))).ownsRow w1.heap.size 71 3 v2 (wo id X).length (tps (wo id X))) := owns_keepIs HO2.out (ch_cell w2 w.heap.size 2 (.int .i64 (T + 1))) (own_ne_row HO2.out HB02.out (by decide))
  have HC3 := Lib.hid (HC2.out.setCell (p := ⟨w.heap.size, 2, none⟩) (fun h => absurd h (by simp)) (.int .i64 (T + 1)))
  have HS3 : Hid (w1.heap.size ≤ w2.heap.size) := hsz2
  have HS3 : Hid (w1.heap.size ≤ (w2.setCell ⟨w.heap.size, 2, none⟩ (.int .i64 (T + 1))).heap.size) := by
    show _ ≤ _
    exact Nat.le_trans HS3.out (ch_cell w2 w.heap.size 2 (.int .i64 (T + 1))).size
  generalize w2.setCell ⟨w.heap.size, 2, none⟩ (.int .i64 (T + 1)) = w3 at *
  clear c2 hf2 hb0 HO2 HB02 HB12 HC2
  have c2 : w3.cell? ⟨w.heap.size, 2, none⟩ = some (.int .i64 (T + 1)) := by rw [HB03.out.cell]; rfl
  have hb0 := HB03.out.lt
  have HON : Hid (∀ u ∈ tri (id, pri, T + 1), u.oneCell' = true) := by
    show ∀ u ∈ tri (id, pri, T + 1), _
    have := tps_one [(id, pri, T + 1)]
    simpa [tps] using this
  have HBY : Hid ((wo id X).length + 1 ≤ 140737488355328) := by show _ ≤ _; omega
  have HBY2 : Hid (((wo id X).length + 1) * 24 ≤ 140737488355328) := by show _ ≤ _; omega
  have HBS : Hid (w1.heap.size ≤ (w3.alloc (.cells (tri (id, pri, T + 1)).toArray 71)).heap.size) := by
    show _ ≤ _
    have := HS3.out
    simp
    omega
  have HK : Hid (∀ w5, (w3.alloc (.cells (tri (id, pri, T + 1)).toArray 71)).grownBy w5 v2.ownBlock → Row w5 w.heap.size 28 (rl N v (T + 1)) ∧ Row w5 (w.heap.size + 1) 28 (rl 0 (.slice none 0 0) 0) ∧ Ch No w w5 ∧ (w5.cell? ⟨w.heap.size, 1, none⟩).isSome = true ∧ w5.frozen? ⟨w.heap.size, 1, none⟩ = false ∧ w.heap.size < w5.heap.size) := by
    intro w5 hg
    have hc := Ch.of_grownBy hg
    have r0 := (HB03.out.alloc (.cells (tri (id, pri, T + 1)).toArray 71)).keep hc (own_ne_row HO3.out HB03.out (by decide))
    have r1 := (HB13.out.alloc (.cells (tri (id, pri, T + 1)).toArray 71)).keep hc (own_ne_row HO3.out HB13.out (by decide))
    refine ⟨r0, r1, (HC3.out.alloc _).trans hc (fun i hi hd => ?_), by rw [r0.cell]; rfl, r0.frozen _, r0.lt⟩
    have h1 := own_base_ HO3.out i hd
    have h2 := HSZ.out
    omega
  have HT : Hid (tps (wo id X) ++ tri (id, pri, T + 1) = tps (wo id X ++ [(id, pri, T + 1)])) := by show _ = _; rw [tps_append]; simp [tps]
  have hl3 : (tri (id, pri, T + 1)).length = 3 := rfl
  go_upto_region 6 with (first | ((with_reducible refine at_op (o := ⟨some 33, .call { callee := .builtin .append, args := #[.tmp 26, .tmp 32], argTypes := #[26, 26] }, _, _, _, _⟩) ?_); refine wpList_append_sz rfl (.tmp 26) (.tmp 32) 26 rfl w1.heap.size 71 (.agg #[.int .i64 0, .int .i64 0, .int .i64 0]) 3 24 Try.underlying26 info71 rfl (by omega) v2 (wo id X).length (tps (wo id X)) rfl _ 1 1 (tri (id, pri, T + 1)) rfl (HO3.out.alloc _) rfl ((Row.new w3 71 (tri (id, pri, T + 1))).cl0) HON.out HBY.out HBY2.out HBS.out ?_; intro v5 w5 ho5 hg5 hor5; rw [HT.out] at ho5; have HO5 := Lib.hid ho5; obtain ⟨k0, k1, k2, k3, k4, k5⟩ := HK.out w5 hg5; have HB05 := Lib.hid k0; have HB15 := Lib.hid k1; have HC5 := Lib.hid k2; have hv5 := own_one ho5; clear ho5 hg5 hor5 k0 k1 k2) | ((with_reducible refine at_op (o := ⟨none, .store 26 (.tmp 34) (.tmp 33), _, _, _, _⟩) ?_); refine pl_store_cell rfl 26 (.tmp 34) (.tmp 33) rfl w.heap.size 1 v5 rfl rfl hv5 size26 k3 k4 ?_))
  have HB06 : Hid (Row (w5.setCell ⟨w.heap.size, 1, none⟩ v5) w.heap.size 28 (rl N v5 (T + 1))) := HB05.out.set_ 1 v5
  have HB16 := Lib.hid (HB15.out.setOther (p := ⟨w.heap.size, 1, none⟩) (by simp) v5)
  have HX5 : Hid (Rf w5 v5 (wo id X ++ [(id, pri, T + 1)])) := ⟨⟨_, by rw [List.length_append]; exact HO5.out⟩, by simpa using hwl⟩
  have HX6 := Lib.hid (HX5.out.setCell HB05.out 1 v5)
  have HC6 := Lib.hid (HC5.out.setCell (p := ⟨w.heap.size, 1, none⟩) (fun h => absurd h (by simp)) v5)
  generalize w5.setCell ⟨w.heap.size, 1, none⟩ v5 = w6 at *
  clear k3 k4 k5 c2 hb0
  have H1 := Lib.hid (rl_one (N := N) (T := T + 1) hv5)
  go_wp2_with (first | ((with_reducible refine at_op (o := ⟨some 35, .load 28 (.tmp 3), _, _, _, _⟩) ?_); refine pl_load rfl 28 (.tmp 3) rfl w.heap.size rfl 28 (rl N v5 (T + 1)) HB06.out _ Try.underlying28 rfl size28 ?_) | ((with_reducible refine at_op (o := ⟨none, .store 28 (.tmp 6) (.tmp 35), _, _, _, _⟩) ?_); refine pl_store rfl 28 (.tmp 6) (.tmp 35) rfl (w.heap.size + 1) rfl 28 (rl 0 (.slice none 0 0) 0) (rl N v5 (T + 1)) rfl HB16.out size28 rfl H1.out ?_; intro w7 hr7 hc7; have HR7 := Lib.hid hr7; have HC7 := Lib.hid hc7; clear hr7 hc7))
  exact bodyPost_ret (v := .tuple #[.agg (rl N v5 (T + 1)).toArray, .bool true]) (results_row2 rfl _ _ (w.heap.size + 1) 28 _ _ rfl HR7.out Try.underlying28 rfl size28 _ rfl) rfl ⟨v5, rfl, HX6.out.keepIs HB16.out HC7.out, ch_newg HC6.out HC7.out (by omega)⟩
end Go.Proofs.Ytbcnkggecgblbaa
