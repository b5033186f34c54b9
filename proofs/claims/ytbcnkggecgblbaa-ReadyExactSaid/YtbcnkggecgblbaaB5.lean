/- the reference's Take. -/
import Derived.Test.YtbcnkggecgblbaaB4
set_option linter.unusedVariables false
set_option linter.unusedSimpArgs false
namespace Go.Proofs.Ytbcnkggecgblbaa
open Go.RowKit
/-- M is X in its order -/
structure Ord (X M : List Tri) : Prop where
  pm : M.Perm X
  srt : M.Pairwise Beat
  nd : (X.map (·.1)).Nodup
theorem Beat.not {x y : Tri} (h : Beat x y) (k : Beat y x) : False := by
  unfold Beat at *
  omega
theorem Ord.dis {X M : List Tri} (h : Ord X M) : Dis X := by
  have h1 : M.Pairwise (fun x y => Beat x y ∨ Beat y x) := h.srt.imp (fun h => .inl h)
  have h2 : X.Pairwise (fun x y => Beat x y ∨ Beat y x) := (h.pm.pairwise_iff (fun {x y} h => h.symm)).1 h1
  intro i k x y hik hx hy
  obtain ⟨hi, rfl⟩ := List.getElem?_eq_some_iff.1 hx
  obtain ⟨hk, rfl⟩ := List.getElem?_eq_some_iff.1 hy
  rcases Nat.lt_or_ge i k with h | h
  · exact List.pairwise_iff_getElem.1 h2 i k hi hk h
  · exact (List.pairwise_iff_getElem.1 h2 k i hk hi (by omega)).symm
theorem Ord.head {X M : List Tri} (h : Ord X M) (m : Nat) (x : Tri) (hx : X[m]? = some x) (hb : ∀ (k : Nat) (y : Tri), k ≠ m → X[k]? = some y → Beat x y) : ∃ M', M = x :: M' := by
  have hxm : x ∈ M := h.pm.mem_iff.2 (List.mem_of_getElem? hx)
  match M, h, hxm with
  | y :: M', h, hxm =>
    obtain ⟨k, hk⟩ := List.getElem?_of_mem (h.pm.mem_iff.1 (List.mem_cons_self (a := y) (l := M')))
    by_cases e : k = m
    · subst e
      rw [hx] at hk
      cases hk
      exact ⟨M', rfl⟩
    · have h1 := hb k y e hk
      rcases List.mem_cons.1 hxm with rfl | hxm
      · exact (h1.not h1).elim
      · exact ((List.rel_of_pairwise_cons h.srt hxm).not h1).elim
theorem wo_ne (id : Int) : ∀ (M : List Tri), (∀ x ∈ M, x.1 ≠ id) → wo id M = M
  | [], _ => rfl
  | y :: M, h => by
    have h1 : (y.1 != id) = true := by simpa using h y (by simp)
    unfold wo
    rw [List.filter_cons, if_pos h1]
    exact congrArg _ (wo_ne id M (fun x hx => h x (by simp [hx])))
theorem Ord.tail {X M : List Tri} {x : Tri} (h : Ord X (x :: M)) : Ord (wo x.1 X) M := by
  have hn : ((x :: M).map (·.1)).Nodup := (h.pm.map _).nodup_iff.2 h.nd
  rw [List.map_cons, List.nodup_cons] at hn
  have hno : ∀ y ∈ M, y.1 ≠ x.1 := fun y hy he => hn.1 (List.mem_map.2 ⟨y, hy, he⟩)
  have h1 : (wo x.1 (x :: M)).Perm (wo x.1 X) := h.pm.filter _
  have h2 : wo x.1 (x :: M) = M := by
    have h3 := wo_ne x.1 M hno
    unfold wo at h3 ⊢
    rw [List.filter_cons]
    simpa using h3
  rw [h2] at h1
  exact ⟨h1, (List.pairwise_cons.1 h.srt).2, h.nd.sublist (List.Sublist.map _ List.filter_sublist)⟩
theorem rfirst_none (N T : Int) (g cap : Nat) (w : World) (hm : cap ≤ 9223372036854775807) :
    Calls Try.prog 21 #[.agg (rl N (.slice (some ⟨g, 0, none⟩) 0 cap) T).toArray] w fun e w' => e = .returned (.tuple #[.int .i64 0, .bool false]) ∧ Ch No w w' := by
  have HC : Hid (Ch No w (w.alloc (.cells (rl N (.slice (some ⟨g, 0, none⟩) 0 cap) T).toArray 28))) := (Ch.refl _ _).alloc _
  have HB0 : Hid (Row (w.alloc (.cells (rl N (.slice (some ⟨g, 0, none⟩) 0 cap) T).toArray 28)) w.heap.size 28 (rl N (.slice (some ⟨g, 0, none⟩) 0 cap) T)) := Row.new w 28 _
  go_enter Try.func21, Try.ntmps21
  go_upto_region 1 with (fail)
  change Code.wp _ _ _ _ (w.alloc (.cells (rl N (.slice (some ⟨g, 0, none⟩) 0 cap) T).toArray 28))
  generalize w.alloc (.cells (rl N (.slice (some ⟨g, 0, none⟩) 0 cap) T).toArray 28) = w1 at *
  have c1 : w1.cell? ⟨w.heap.size, 1, none⟩ = some (.slice (some ⟨g, 0, none⟩) 0 cap) := by rw [HB0.out.cell]; rfl
  have hb0 := HB0.out.lt
  go_wp2_with (fail)
  go_loopw [4, 5] (fun b i wr => b = .int .i64 (-1) ∧ i = .int .i64 0 ∧ w1 = wr) (fun _ _ _ => 0)
  case atStart => exact ⟨rfl, rfl, rfl⟩
  case round =>
    obtain ⟨rfl, rfl, rfl⟩ := hrel
    go_wp2_with (fail)
    exact bodyPost_ret (v := .tuple #[.int .i64 0, .bool false]) (by kernel_rfl) rfl ⟨rfl, HC.out⟩
/-- the head's number -/
def hd3 (M : List Tri) : Int × Bool := match M with | [] => (0, false) | x :: _ => (x.1, true)
theorem rfirst_calls {w : World} {v : Value} {X M : List Tri} (h : Rf w v X) (ho : Ord X M) (N T : Int) :
    Calls Try.prog 21 #[.agg (rl N v T).toArray] w fun e w' => e = .returned (.tuple #[.int .i64 (hd3 M).1, .bool (hd3 M).2]) ∧ Ch No w w' := by
  have hsm := h.2
  rcases h.cases with ⟨rfl, rfl⟩ | ⟨g, cap, rest, rfl, hr, hn, hm⟩
  · have : M = [] := ho.pm.eq_nil
    subst this
    exact rfirst_nil N T w
  · by_cases h0 : X.length = 0
    · have : X = [] := List.eq_nil_of_length_eq_zero h0
      subst this
      have : M = [] := ho.pm.eq_nil
      subst this
      refine (rfirst_none N T g cap w (by unfold maxLen at hm; omega)).mono ?_
      rintro e w' h
      exact h
    · refine (rfirst_some N T X g X.length cap rest w rfl (by omega) hsm hr hn hm ho.dis).mono ?_
      rintro e w' ⟨⟨m, x, hx, hb, rfl⟩, hc⟩
      obtain ⟨M', rfl⟩ := ho.head m x hx hb
      exact ⟨rfl, hc⟩
set_option maxHeartbeats 4000000 in
theorem rtake_calls {w : World} {v : Value} {X M : List Tri} (h : Rf w v X) (ho : Ord X M) (N T : Int) :
    Calls Try.prog 22 #[.agg (rl N v T).toArray] w fun e w' => ∃ v' X', e = .returned (.tuple #[.agg (rl N v' T).toArray, .int .i64 (hd3 M).1, .bool (hd3 M).2]) ∧ Rf w' v' X' ∧ Ord X' M.tail ∧ Ch No w w' := by
  have hv1 := h.one
  have HX := Lib.hid h
  have HB0 : Hid (Row ((w.alloc (.cells (rl N v T).toArray 28)).alloc (.cells (rl 0 (.slice none 0 0) 0).toArray 28)) w.heap.size 28 (rl N v T)) := (Row.new w 28 (rl N v T)).alloc _
  have HB1 : Hid (Row ((w.alloc (.cells (rl N v T).toArray 28)).alloc (.cells (rl 0 (.slice none 0 0) 0).toArray 28)) (w.heap.size + 1) 28 (rl 0 (.slice none 0 0) 0)) := Row.new_at _ 28 _ (by simp)
  have HC : Hid (Ch No w ((w.alloc (.cells (rl N v T).toArray 28)).alloc (.cells (rl 0 (.slice none 0 0) 0).toArray 28))) := ((Ch.refl _ _).alloc _).alloc _
  have HO := Lib.hid ho
  clear h ho
  go_enter Try.func22, Try.ntmps22
  go_upto_region 1 with (fail)
  change Code.wp _ _ _ _ ((w.alloc (.cells (rl N v T).toArray 28)).alloc (.cells (rl 0 (.slice none 0 0) 0).toArray 28))
  generalize (w.alloc (.cells (rl N v T).toArray 28)).alloc (.cells (rl 0 (.slice none 0 0) 0).toArray 28) = w1 at *
  have H1 := Lib.hid (rl_one (N := N) (T := T) hv1)
  go_wp2_with ((with_reducible refine at_op (o := ⟨some 8, .load 28 (.tmp 1), _, _, _, _⟩) ?_); refine pl_load rfl 28 (.tmp 1) rfl w.heap.size rfl 28 (rl N v T) HB0.out _ Try.underlying28 rfl size28 ?_)
  refine (rfirst_calls (HX.out.keepNo HC.out) HO.out N T).mono ?_
  rintro e w2 ⟨rfl, hc2⟩
  have HX2 := Lib.hid ((HX.out.keepNo HC.out).keepNo hc2)
  have HB02 := Lib.hid (HB0.out.keepNo hc2)
  have HB12 := Lib.hid (HB1.out.keepNo hc2)
  have HC2 := Lib.hid (HC.out.then_ hc2)
  clear hc2 HX HB0 HB1 HC
  cases M with
  | nil =>
    simp only [hd3]
    go_wp2_with (first | ((with_reducible refine at_op (o := ⟨some 19, .load 28 (.tmp 1), _, _, _, _⟩) ?_); refine pl_load rfl 28 (.tmp 1) rfl w.heap.size rfl 28 (rl N v T) HB02.out _ Try.underlying28 rfl size28 ?_) | ((with_reducible refine at_op (o := ⟨none, .store 28 (.tmp 2) (.tmp 19), _, _, _, _⟩) ?_); refine pl_store rfl 28 (.tmp 2) (.tmp 19) rfl (w.heap.size + 1) rfl 28 (rl 0 (.slice none 0 0) 0) (rl N v T) rfl HB12.out size28 rfl H1.out ?_; intro w7 hr7 hc7; have HR7 := Lib.hid hr7; have HC7 := Lib.hid hc7; clear hr7 hc7))
    exact bodyPost_ret (v := .tuple #[.agg (rl N v T).toArray, .int .i64 0, .bool false]) (results_row3 rfl _ _ (w.heap.size + 1) 28 _ _ rfl HR7.out Try.underlying28 rfl size28 _ _ rfl rfl) rfl ⟨v, X, rfl, HX2.out.keepIs HB12.out HC7.out, HO.out, ch_newg HC2.out HC7.out (by omega)⟩
  | cons x M =>
    simp only [hd3]
    go_wp2_with ((with_reducible refine at_op (o := ⟨some 14, .load 28 (.tmp 1), _, _, _, _⟩) ?_); refine pl_load rfl 28 (.tmp 1) rfl w.heap.size rfl 28 (rl N v T) HB02.out _ Try.underlying28 rfl size28 ?_)
    refine (rremove_calls HX2.out N T x.1).mono ?_
    rintro e w3 ⟨v3, rfl, hx3, hc3⟩
    have HX3 := Lib.hid hx3
    have HB03 := Lib.hid (HB02.out.keepNo hc3)
    have HB13 := Lib.hid (HB12.out.keepNo hc3)
    have HC3 := Lib.hid (HC2.out.then_ hc3)
    have H3 := Lib.hid (rl_one (N := N) (T := T) hx3.one)
    clear hx3 hc3 HX2 HB02 HB12 HC2
    go_upto_region 4 with (first | ((with_reducible refine at_op (o := ⟨none, .store 28 (.tmp 1) (.tmp 17), _, _, _, _⟩) ?_); refine pl_store rfl 28 (.tmp 1) (.tmp 17) rfl w.heap.size rfl 28 (rl N v T) (rl N v3 T) rfl HB03.out size28 rfl H3.out ?_; intro w6 hr6 hc6; have HR6 := Lib.hid hr6; have HC6 := Lib.hid hc6; clear hr6 hc6))
    simp only [Act.put]
    have HB16 : Hid (Row w6 (w.heap.size + 1) 28 (rl 0 (.slice none 0 0) 0)) := HB13.out.keepIs HC6.out (by simp)
    have HX6 := Lib.hid (HX3.out.keepIs HB03.out HC6.out)
    have HCC6 : Hid (Ch No w w6) := ch_newg HC3.out HC6.out (by omega)
    go_wp2_with (first | ((with_reducible refine at_op (o := ⟨some 19, .load 28 (.tmp 1), _, _, _, _⟩) ?_); refine pl_load rfl 28 (.tmp 1) rfl w.heap.size rfl 28 (rl N v3 T) HR6.out _ Try.underlying28 rfl size28 ?_) | ((with_reducible refine at_op (o := ⟨none, .store 28 (.tmp 2) (.tmp 19), _, _, _, _⟩) ?_); refine pl_store rfl 28 (.tmp 2) (.tmp 19) rfl (w.heap.size + 1) rfl 28 (rl 0 (.slice none 0 0) 0) (rl N v3 T) rfl HB16.out size28 rfl H3.out ?_; intro w7 hr7 hc7; have HR7 := Lib.hid hr7; have HC7 := Lib.hid hc7; clear hr7 hc7))
    exact bodyPost_ret (v := .tuple #[.agg (rl N v3 T).toArray, .int .i64 x.1, .bool true]) (results_row3 rfl _ _ (w.heap.size + 1) 28 _ _ rfl HR7.out Try.underlying28 rfl size28 _ _ rfl rfl) rfl ⟨v3, wo x.1 X, rfl, HX6.out.keepIs HB16.out HC7.out, HO.out.tail, ch_newg HCC6.out HC7.out (by omega)⟩
end Go.Proofs.Ytbcnkggecgblbaa
