/- MemExact: step: Read; any step. -/
import Derived.Test.YtbllpojljdhnoaaD5
import Derived.Test.YtbllpojljdhnoaaD6
set_option linter.unusedVariables false
set_option linter.unusedSimpArgs false
namespace Go.Proofs.Ytbllpojljdhnoaa
open Go.RowKit
/-- a list of one's own, its value said in one form -/
theorem Fl.form {b : Nat} {w : World} {v : Value} {xs : List Int} (h : Fl b w v xs) : ∃ A, v = .slice A xs.length xs.length ∧ (0 < xs.length → ∃ g, A = some ⟨g, 0, none⟩ ∧ b ≤ g ∧ Row w g 2 (ints xs)) := by
  obtain ⟨⟨rfl, rfl⟩ | ⟨g, hg, rfl, hr⟩, hl⟩ := h
  · exact ⟨none, rfl, fun hp => absurd hp (by simp)⟩
  · exact ⟨some ⟨g, 0, none⟩, rfl, fun _ => ⟨g, rfl, hg, hr⟩⟩
theorem Fl.set {b g : Nat} {w : World} {xs : List Int} {n : Nat} (h : Fl b w (.slice (some ⟨g, 0, none⟩) n n) xs) (j : Nat) (x : Int) : Fl b (w.setCell ⟨g, j, none⟩ (.int .i64 x)) (.slice (some ⟨g, 0, none⟩) n n) (xs.set j x) := by
  obtain ⟨⟨e, rfl⟩ | ⟨g', hg, e, hr⟩, hl⟩ := h
  · cases e
  · cases e
    refine ⟨.inr ⟨g, hg, by rw [List.length_set], ?_⟩, by rw [List.length_set]; exact hl⟩
    have := hr.set_ j (.int .i64 x)
    simpa [ints, List.map_set] using this
theorem Ch.setNew {w wr : World} {g j : Nat} {u : Value} (h : Ch No w wr) (hg : w.heap.size ≤ g) : Ch No w (wr.setCell ⟨g, j, none⟩ u) :=
  h.setCell (p := ⟨g, j, none⟩) (fun hi => by simp at hi; omega) u
set_option maxRecDepth 100000 in
set_option maxHeartbeats 4000000 in
theorem step_read {w : World} {g cap n : Nat} {X : List Int} {rest : List Value} {vx : Value} (f a nn x : Int) (A : Option Addr) (l c : Nat) (h : St w g cap X rest vx) (hn : n = X.length) :
    Calls Try.prog 15 #[.slice (some ⟨g, 0, none⟩) n cap, vx, opv 3 f a nn x A l c] w (PStep w g cap n rest) := by
  have hc0 : Ch No w (bx w 3 f a nn x A l c) := (Ch.refl No w).alloc _
  have H18 : Hid (∀ wr, Ch No w wr → Calls Try.prog 18 #[.slice (some ⟨g, 0, none⟩) n cap, .int .i64 a, .int .i64 nn] wr fun e w' => ∃ v', e = .returned (.tuple #[v', .bool (may X.length 0 a nn)]) ∧ Fl wr.heap.size w' v' (rdl X a nn) ∧ Ch No wr w') := fun wr hc => by
    subst hn
    exact mread_calls _ cap a nn X wr (by have := h.small; omega) h.le (h.keepNo hc).clm
  have H23 : Hid (∀ wr, Ch No w wr → Calls Try.prog 23 #[vx, .int .i64 a, .int .i64 nn] wr fun e w' => ∃ v', e = .returned (.tuple #[v', .bool (may X.length 0 a nn)]) ∧ Ol wr.heap.size w' v' (rdl X a nn) ∧ Ch No wr w') := fun wr hc => rread_calls (h.keepNo hc).x.sl _ _
  have HB := Lib.hid (fun w' hw => bxc (w' := w') h.row.lt 3 f a nn x A l c hw)
  have HE : Hid (∀ wr, Ch No w wr → PStep w g cap n rest (.returned (.tuple #[vx, .bool true])) wr) := fun wr hc => ⟨X, vx, rfl, h.keepNo hc, hn.symm, hc.is⟩
  have HC0 := Lib.hid hc0
  generalize hR : rdl X a nn = R at *
  generalize hM : may X.length 0 a nn = M at *
  clear h hn hc0 hR hM
  unfold opv
  unfold bx at *
  go_enter Try.func15, Try.ntmps15
  go_wp2_with (fail)
  refine (H18.out _ HC0.out).mono ?_
  rintro e w1 ⟨v1, rfl, ho, hc⟩
  have HO1 := Lib.hid ho
  have HC1 := Lib.hid (HC0.out.then_ hc)
  obtain ⟨b1, b2, b3, b4, b5⟩ := HB.out w1 hc.is
  have HCB := Lib.hid hc
  clear ho hc
  go_wp2_with (fail)
  refine (H23.out w1 HC1.out).mono ?_
  rintro e w2 ⟨v2, rfl, ho, hc⟩
  have HO2 := Lib.hid ho
  have HO1' := Lib.hid (HO1.out.keepNo hc)
  have HC2 := Lib.hid (HC1.out.then_ hc)
  clear ho hc b1 b2 b3 b4 b5 HO1
  go_wp2_with (fail)
  refine (same_self HO1'.out.ol.sl HO2.out.sl).mono ?_
  rintro e w3 ⟨rfl, hc⟩
  have HO2' := Lib.hid (HO2.out.keepNo hc)
  have HO1 := Lib.hid ((HO1'.out.keepNo hc).ol.low (c := w.heap.size) (by simp))
  have HF1 : Hid (Fl w.heap.size w3 v1 R) := by
    obtain ⟨h1, h2⟩ := HO1'.out.keepNo hc
    refine ⟨h1.imp_right fun ⟨g, hg, h3⟩ => ⟨g, by simp at hg; omega, h3⟩, h2⟩
  have HC3 := Lib.hid (HC2.out.then_ hc)
  clear hc HC2 HO1' HO2 HC1 HCB HB HC0 H18 H23 HO1
  obtain ⟨A1, rfl, hA⟩ := HF1.out.form
  obtain ⟨A2, c2, rfl, _, hl2⟩ := HO2'.out.sl
  have hcell : ∀ wr ys, Fl w.heap.size wr (.slice A1 R.length R.length) ys → ys.length = R.length → ∀ j, j < R.length → ∃ gA, A1 = some ⟨gA, 0, none⟩ ∧ w.heap.size ≤ gA ∧ (∃ u, wr.cell? ⟨gA, j, none⟩ = some u) ∧ wr.frozen? ⟨gA, j, none⟩ = false := by
    intro wr ys hf hy j hj
    obtain ⟨A', e, hA'⟩ := hf.form
    obtain ⟨gA, h1, h2, h3⟩ := hA' (by omega)
    simp only [Value.slice.injEq] at e
    obtain ⟨rfl, _, _⟩ := e
    exact ⟨gA, h1, h2, ⟨_, by rw [h3.cell, List.getElem?_eq_getElem (by rw [ints_length]; omega)]⟩, h3.frozen j⟩
  have HCELL := Lib.hid hcell
  have hrl : (R.length : Int) ≤ 10000000 := by omega
  clear hA hcell HO2'
  go_wp2_with (fail)
  go_loopw [20] (fun i wr => ∃ (j : Nat) (ys : List Int), j ≤ R.length ∧ i = .int .i64 j ∧ Hid (ys.length = R.length) ∧ Hid (Fl w.heap.size wr (.slice A1 R.length R.length) ys) ∧ Hid (Ch No w wr)) (fun i _ => R.length - (intOf i).toNat)
  case atStart => exact ⟨0, R, Nat.zero_le _, rfl, rfl, HF1, HC3⟩
  case round =>
    clear HF1 HC3
    obtain ⟨j, ys, hj, rfl, HY, HF, HC⟩ := hrel
    by_cases hlt : j < R.length
    · have d0 := decide_lt_t (show (j : Int) < (R.length : Int) by omega)
      obtain ⟨gA, ea, hgA, ⟨u, hu⟩, hf⟩ := HCELL.out wr ys HF.out HY.out j hlt
      subst ea
      have HGA := Lib.hid hgA
      clear hgA
      go_wp2_with (fail)
      exact ⟨⟨j + 1, ys.set j 77, by omega, by go_num, by show _ = _; rw [List.length_set]; exact HY.out, HF.out.set j 77, HC.out.setNew HGA.out⟩, by simp [intOf]; omega⟩
    · obtain rfl : j = R.length := by omega
      have d0 : decide ((R.length : Int) < (R.length : Int)) = false := by simp
      clear HCELL
      go_wp2_with (fail)
      have HOL : Hid (wr.ownsRow w.heap.size 2 1 (.slice A1 R.length R.length) (ints ys).length (ints ys)) := HF.out.ol.1
      go_loopw [21, 22] (fun o i wr => ∃ (j : Nat) (ys : List Int), j ≤ 64 ∧ i = .int .i64 j ∧ Hid (ys.length = R.length + j) ∧ Hid (wr.ownsRow w.heap.size 2 1 o (ints ys).length (ints ys)) ∧ Hid (Ch No w wr)) (fun _ i _ => 64 - (intOf i).toNat)
      case atStart => exact ⟨0, ys, by omega, rfl, HY, HOL, HC⟩
      case round =>
        clear HY HF HC HOL
        obtain ⟨j, ys, hj, rfl, HY, HO, HC⟩ := hrel
        by_cases hlt : j < 64
        · have d0 := decide_lt_t (show (j : Int) < (64 : Int) by omega)
          have HBY : Hid (((ints ys).length + 1) * 8 ≤ 140737488355328) := by show _ ≤ _; rw [ints_length, HY.out]; omega
          have HBS : Hid (w.heap.size ≤ (wr.alloc (.cells (ints [78]).toArray 2)).heap.size) := ((HC.out.alloc _).size)
          go_wp2_with ((with_reducible refine at_op (o := ⟨some 132, .call { callee := .builtin .append, args := #[.tmp 130, .tmp 131], argTypes := #[22, 22] }, _, _, _, _⟩) ?_); refine wpList_append_to rfl (.tmp 130) (.tmp 131) 22 rfl w.heap.size 2 (.int .i64 0) 8 Try.underlying22 info2 rfl u21 (ints ys) rfl _ _ _ (ints [78]) rfl (HO.out.alloc _) (ints_length _) ((Row.new wr 2 (ints [78])).cl0) (ints_one _) HBY.out (by omega) HBS.out ?_; intro v1 w2 ho2 hg2 hat2; rw [← ints_append] at ho2; have HO2 := Lib.hid ho2; have HC2 : Hid (Ch No w w2) := (grown_no (Nat.le_refl _) (HO.out.alloc _) hg2 (HC.out.alloc _)); clear ho2 hg2 hat2)
          refine ⟨⟨j + 1, ys ++ [78], by omega, by go_num, by show _ = _; rw [List.length_append, HY.out]; rfl, HO2, HC2⟩, by simp [intOf]; omega⟩
        · obtain rfl : j = 64 := by omega
          rcases owns_open HO.out with ⟨hv, hnil⟩ | ⟨gL, capL, restL, hv, hgL, hrL, hclL, hmL⟩
          · have h3 : ys.length = 0 := by rw [← ints_length, hnil]; rfl
            have h2 := HY.out
            omega
          · rw [ints_length, HY.out] at hv
            have HF := Lib.hid (HE.out wr HC.out)
            clear HO HC HY HE hgL hrL hclL hmL
            subst hv
            go_wp2_with (fail)
            exact bodyPost_ret (v := .tuple #[vx, .bool true]) (by kernel_rfl) rfl HF.out
theorem step_any {w : World} {g cap n : Nat} {X : List Int} {rest : List Value} {vx : Value} (k f a nn x : Int) (A : Option Addr) (D : List Int) (l c : Nat) (h : St w g cap X rest vx) (hn : n = X.length) (hl : l = D.length) (hd : D.length ≤ 10000000) (hk : ∀ w', Ch (Is g) w w' → Cl w' A (ints D)) (hn1 : -9223372036854775808 ≤ nn) (hn2 : nn ≤ 9223372036854775807) :
    Calls Try.prog 15 #[.slice (some ⟨g, 0, none⟩) n cap, vx, opv k f a nn x A l c] w (PStep w g cap n rest) := by
  by_cases h1 : k = 1
  · rw [h1]; exact step_load f a nn x A l c h hn
  by_cases h2 : k = 2
  · rw [h2]; exact step_store f a nn x A l c h hn
  by_cases h3 : k = 3
  · rw [h3]; exact step_read f a nn x A l c h hn
  by_cases h4 : k = 4
  · rw [h4]; exact step_write f a nn x A D l c h hn hl hd hk
  by_cases h5 : k = 5
  · rw [h5]; exact step_writable f a nn x A l c h hn hn1 hn2
  by_cases h6 : k = 6
  · rw [h6]; exact step_move f a nn x A l c h hn (by omega) hn1 hn2
  exact step_none k f a nn x A l c h hn h1 h2 h3 h4 h5 h6
end Go.Proofs.Ytbllpojljdhnoaa
