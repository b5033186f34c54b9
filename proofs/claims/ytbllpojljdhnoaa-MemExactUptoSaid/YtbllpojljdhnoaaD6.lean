/- MemExact: step: Write. -/
import Derived.Test.YtbllpojljdhnoaaD4
set_option linter.unusedVariables false
set_option linter.unusedSimpArgs false
namespace Go.Proofs.Ytbllpojljdhnoaa
open Go.RowKit
theorem Sl.mk' {w : World} {A : Option Addr} {l c : Nat} {D : List Int} (h : Cl w A (ints D)) (hl : l = D.length) (hd : D.length ≤ 10000000) : Sl w (.slice A l c) D := by
  subst hl
  exact ⟨A, c, rfl, h, hd⟩
/-- what holds while words of the new block g2 are written over -/
structure WI (w wr : World) (g g2 l : Nat) (X : List Int) (rest : List Value) (v : Value) : Prop where
  own : ∃ L, Row wr g2 2 L ∧ l ≤ L.length
  row : Row wr g 2 (ints (X ++ marks 40) ++ rest)
  ol : Ol 0 wr v X
  ch : Ch (Is g) w wr
theorem WI.set {w wr : World} {g g2 l : Nat} {X : List Int} {rest : List Value} {v : Value} (h : WI w wr g g2 l X rest v) (hg : w.heap.size < g2) (hgw : g < w.heap.size) (hv : ¬ v.ownBlock = some g2) (j : Nat) (u : Value) : WI w (wr.setCell ⟨g2, j, none⟩ u) g g2 l X rest v := by
  obtain ⟨L, hr, hl⟩ := h.own
  have hc : Ch (Is g2) wr (wr.setCell ⟨g2, j, none⟩ u) := Ch.setCell (D := Is g2) (p := ⟨g2, j, none⟩) (Ch.refl _ wr) (fun _ => rfl) u
  refine ⟨⟨L.set j u, hr.set_ j u, by simpa using hl⟩, h.row.keepIs hc (by omega), h.ol.keepD hc (fun k hk e => hv (by rw [hk]; exact congrArg some e)), ?_⟩
  exact h.ch.trans hc (fun i hi e => by have : i = g2 := e; omega)
theorem WI.cell {w wr : World} {g g2 l : Nat} {X : List Int} {rest : List Value} {v : Value} (h : WI w wr g g2 l X rest v) (j : Nat) (hj : j < l) : (∃ u, wr.cell? ⟨g2, j, none⟩ = some u) ∧ wr.frozen? ⟨g2, j, none⟩ = false := by
  obtain ⟨L, hr, hl⟩ := h.own
  refine ⟨⟨L[j], ?_⟩, hr.frozen j⟩
  rw [hr.cell, List.getElem?_eq_getElem (by omega)]
set_option maxRecDepth 100000 in
set_option maxHeartbeats 4000000 in
theorem step_write {w : World} {g cap n : Nat} {X : List Int} {rest : List Value} {vx : Value} (f a nn x : Int) (A : Option Addr) (D : List Int) (l c : Nat) (h : St w g cap X rest vx) (hn : n = X.length) (hl : l = D.length) (hd : D.length ≤ 10000000) (hk : ∀ w', Ch (Is g) w w' → Cl w' A (ints D)) :
    Calls Try.prog 15 #[.slice (some ⟨g, 0, none⟩) n cap, vx, opv 4 f a nn x A l c] w (PStep w g cap n rest) := by
  have hc0 : Ch No w (bx w 4 f a nn x A l c) := (Ch.refl No w).alloc _
  have H8 : Hid (∀ wr, Ch No w wr → Calls Try.prog 8 #[.slice A l c] wr fun e w' => ∃ g cap rest, e = .returned (.slice (some ⟨g, 0, none⟩) l cap) ∧ Row w' g 2 (ints (D ++ marks 40) ++ rest) ∧ l + 40 + rest.length = cap ∧ cap ≤ maxLen ∧ wr.heap.size ≤ g ∧ Ch No wr w') := fun wr hc => marked_n A l c D wr hl (by omega) (hk _ hc.is)
  have H9 : Hid (∀ g2 c2 wr r2, Ch No w wr → Row wr g2 2 (ints (D ++ marks 40) ++ r2) → Calls Try.prog 9 #[.slice (some ⟨g, 0, none⟩) n cap, .int .i64 f, .int .i64 a, .slice (some ⟨g2, 0, none⟩) l c2] wr fun e w' => e = .returned (.bool (may X.length f a D.length)) ∧ Row w' g 2 (ints (wri X f a D ++ marks 40) ++ rest) ∧ Ch (Is g) wr w') := fun g2 c2 wr r2 hc hr =>
    mwrite_calls g n cap X (marks 40) rest _ D f a wr (by have := h.small; omega) h.le hn (h.keepNo hc).row (Sl.mk' (marked_cl hr) hl hd)
  have H24 : Hid (∀ wr, Ch (Is g) w wr → Calls Try.prog 24 #[vx, .int .i64 f, .int .i64 a, .slice A l c] wr fun e w' => ∃ v', e = .returned (.tuple #[v', .bool (may X.length f a D.length)]) ∧ Ol wr.heap.size w' v' (wri X f a D) ∧ Ch No wr w') := fun wr hc => rwrite_calls (h.x.keepD hc (fun k hk e => h.ne (by rw [hk]; exact congrArg some e))).sl (Sl.mk' (hk _ hc) hl hd) f a
  have H12 : Hid (∀ g2 c2 r2 wr, Ch (Is g) w wr → Row wr g2 2 (ints (D ++ marks 40) ++ r2) → l + 40 ≤ c2 → c2 ≤ maxLen → Calls Try.prog 12 #[.slice (some ⟨g2, 0, none⟩) l c2, .slice A l c] wr fun e w' => e = .returned (.bool (decide (D = D))) ∧ Dr wr w') := fun g2 c2 r2 wr hc hr h40 hcm => left_n g2 l l c2 c A D D r2 wr hl hl (by omega) h40 hcm rfl hr (hk _ hc)
  have HB := Lib.hid (fun w' hw => bxc (w' := w') h.row.lt 4 f a nn x A l c hw)
  have HE : Hid (∀ wr v', Row wr g 2 (ints (wri X f a D ++ marks 40) ++ rest) → Ch (Is g) w wr → Ol 0 wr v' (wri X f a D) → ¬ v'.ownBlock = some g → PStep w g cap n rest (.returned (.tuple #[v', .bool true])) wr) := fun wr v' hr hc ho hne =>
    ⟨_, v', rfl, ⟨hr, by rw [wri_length]; exact h.len, h.cap, by rw [wri_length]; exact h.small, ho, hne⟩, by rw [wri_length]; exact hn.symm, hc⟩
  have HGS := Lib.hid h.row.lt
  have HC0 := Lib.hid hc0
  have HD := Lib.hid hd
  have HL := Lib.hid hl
  have hl9 : l ≤ 1000000000 := by omega
  clear h hn hc0 hl hd hk
  unfold opv
  unfold bx at *
  go_enter Try.func15, Try.ntmps15
  go_wp2_with (fail)
  refine (H8.out _ HC0.out).mono ?_
  rintro e w1 ⟨g2, c2, r2, rfl, hr, hl2, hcm, hg2, hc⟩
  have HR1 := Lib.hid hr
  have HCB := Lib.hid hc
  have HL2 := Lib.hid hl2
  have HCM := Lib.hid hcm
  have HG2 : Hid (w.heap.size < g2) := by show _ < _; simp at hg2; omega
  have h40 : l + 40 ≤ c2 := by omega
  obtain ⟨b1, b2, b3, b4, b5⟩ := HB.out w1 hc.is
  clear hr hc hl2 hcm hg2
  go_wp2_with (fail)
  refine (H9.out g2 c2 w1 r2 (HC0.out.then_ HCB.out) HR1.out).mono ?_
  rintro e w2 ⟨rfl, hr2, hc2⟩
  have HR2 := Lib.hid hr2
  have HC2 := Lib.hid hc2
  have HM2 : Hid (Row w2 g2 2 (ints (D ++ marks 40) ++ r2)) := HR1.out.keepIs hc2 (by have := HG2.out; have := HGS.out; omega)
  have HCW2 : Hid (Ch (Is g) w w2) := (HC0.out.then_ HCB.out).is.trans hc2 (fun _ _ h => h)
  obtain ⟨b1', b2', b3', b4', b5'⟩ := HB.out w2 (HCB.out.is.trans hc2 (fun _ _ h => h))
  clear hr2 hc2 b1 b2 b3 b4 b5
  go_wp2_with (fail)
  refine (H24.out w2 HCW2.out).mono ?_
  rintro e w3 ⟨v', rfl, ho, hc3⟩
  have HO := Lib.hid (ho.low (c := 0) (by omega))
  have HNE : Hid (¬ v'.ownBlock = some g) := fun e => by have := ho.own g e; have := HR2.out.lt; omega
  have HNE2 : Hid (¬ v'.ownBlock = some g2) := fun e => by have := ho.own g2 e; have := HM2.out.lt; omega
  have HR3 := Lib.hid (HR2.out.keepNo hc3)
  have HM3 := Lib.hid (HM2.out.keepNo hc3)
  have HCW3 := Lib.hid (HCW2.out.then_ hc3)
  obtain ⟨b1, b2, b3, b4, b5⟩ := HB.out w3 ((HCB.out.is.trans HC2.out (fun _ _ h => h)).then_ hc3)
  clear ho hc3 HR2 HM2 HR1 b1' b2' b3' b4' b5'
  go_wp2_with (fail)
  refine (H12.out g2 c2 r2 w3 HCW3.out HM3.out h40 HCM.out).mono ?_
  rintro e w4 ⟨rfl, hd4⟩
  have hc4 := hd4.ch
  have HO4 := Lib.hid (HO.out.keepNo hc4)
  have HR4 := Lib.hid (HR3.out.keepNo hc4)
  have HM4 := Lib.hid (HM3.out.keepNo hc4)
  have HCW4 := Lib.hid (HCW3.out.then_ hc4)
  clear hd4 hc4 HO HR3 HM3 HCW3 b1 b2 b3 b4 b5
  go_wp2_with (fail)
  have HI : Hid (WI w w4 g g2 l (wri X f a D) rest v') := ⟨⟨_, HM4.out, by have := HL.out; simp [ints_length]; omega⟩, HR4.out, HO4.out, HCW4.out⟩
  clear HO4 HR4 HM4 HCW4 HCW2 HC2 HCB HL2 HCM HC0 HB H8 H9 H24 H12
  go_loopw [28] (fun i wr => ∃ j : Nat, j ≤ l ∧ i = .int .i64 j ∧ Hid (WI w wr g g2 l (wri X f a D) rest v')) (fun i _ => l - (intOf i).toNat)
  case atStart => exact ⟨0, Nat.zero_le _, rfl, HI⟩
  case round =>
    clear HI
    obtain ⟨j, hj, rfl, HI⟩ := hrel
    by_cases hlt : j < l
    · have d0 := decide_lt_t (show (j : Int) < (l : Int) by omega)
      obtain ⟨⟨u, hu⟩, hf⟩ := HI.out.cell j hlt
      have hlm : (l : Int) ≤ 1000000000 := by omega
      go_wp2_with (fail)
      refine ⟨⟨j + 1, by omega, by go_num, HI.out.set HG2.out HGS.out HNE2.out j _⟩, by simp [intOf]; omega⟩
    · obtain rfl : j = l := by omega
      have d0 : decide ((j : Int) < (j : Int)) = false := by simp
      have HF := Lib.hid (HE.out wr v' HI.out.row HI.out.ch HI.out.ol HNE.out)
      clear HI
      go_wp2_with (fail)
      exact bodyPost_ret (v := .tuple #[v', .bool true]) (by kernel_rfl) rfl HF.out
end Go.Proofs.Ytbllpojljdhnoaa
