/- MemExact: the walk. -/
import Derived.Test.YtbllpojljdhnoaaD16
set_option linter.unusedVariables false
set_option linter.unusedSimpArgs false
namespace Go.Proofs.Ytbllpojljdhnoaa
open Go.RowKit
/-- what holds at each call of the script -/
structure MS (w wr : World) (g cap n : Nat) (rest : List Value) (vx : Value) (X : List Int) : Prop where
  st : St wr g cap X rest vx
  len : X.length = n
  ch : Ch No w wr
  hg : w.heap.size ≤ g
theorem left_self {w : World} {g cap n : Nat} {X : List Int} {rest : List Value} {vx : Value} (h : St w g cap X rest vx) (hn : n = X.length) :
    Calls Try.prog 12 #[.slice (some ⟨g, 0, none⟩) n cap, vx] w fun e w' => e = .returned (.bool true) ∧ Ch No w w' := by
  obtain ⟨B, c, rfl, hcl, hl⟩ := h.x.sl
  refine (left_n g n X.length cap c B X X rest w hn rfl (by have := h.small; omega) (by have := h.len; omega) h.cap hn h.row hcl).mono ?_
  rintro e w' ⟨rfl, hd⟩
  exact ⟨by simp, hd.ch⟩
set_option maxHeartbeats 8000000 in
set_option maxRecDepth 100000 in
theorem exact_calls {w : World} {v : Value} {X0 : List Int} (hX : Sl w v X0) (words : Int) {S : Option Addr} {os : List OpR} {sc : Nat} (hs : Ops w S os) (hsm : os.length ≤ 9223372036854775807) (hd : ∀ o ∈ os, o.data.length ≤ 10000000) :
    Calls Try.prog 4 #[.int .i64 words, v, .slice S os.length sc] w fun e w' => e = .returned (.bool true) ∧ Ch No w w' := by
  obtain ⟨A, ca, rfl, hA, hxl⟩ := hX
  have HA := Lib.hid hA
  have HUT := Lib.hid (fun (w' : World) (h : Ch No w w') => untold_calls (w := w') (v := .slice A X0.length ca) (X0 := X0) ⟨A, ca, rfl, hA.keepNo h, hxl⟩ words (sc := sc) (hs.keep h) hsm hd)
  have HPL := Lib.hid (fun (w' : World) (h : Ch No w w') => placed_calls (w := w') (v := .slice A X0.length ca) (X := X0) ⟨A, ca, rfl, hA.keepNo h, hxl⟩ words)
  have HS := Lib.hid hs
  have HD := Lib.hid hd
  have hn4 := newl_len words X0
  obtain ⟨N0, hN0⟩ : ∃ N, N = newl words X0 := ⟨_, rfl⟩
  obtain ⟨B0, hB0⟩ : ∃ B, B = mayN words X0.length := ⟨_, rfl⟩
  obtain ⟨n, hn⟩ : ∃ n, n = N0.length := ⟨_, rfl⟩
  obtain ⟨m, hm⟩ : ∃ m, m = X0.length := ⟨_, rfl⟩
  rw [← hm] at hxl
  rw [← hN0, ← hn] at hn4
  have HN0 := Lib.hid hN0
  have HB0 := Lib.hid hB0
  have HN := Lib.hid hn
  have HM : Hid (X0.length = m) := hm.symm
  rw [← hm] at HUT HPL ⊢
  clear hA hs hd hN0 hB0 hn hm
  go_enter Try.func4, Try.ntmps4
  go_wp2_with (fail)
  refine (marked_n A m ca X0 w HM.out.symm (by omega) HA.out).mono ?_
  rintro e w1 ⟨g0, cap0, rest0, rfl, hr1, hl1, hm1, hg1, hc1⟩
  have HR1 := Lib.hid hr1
  have HL1 := Lib.hid hl1
  have HM1 := Lib.hid hm1
  have HG1 := Lib.hid hg1
  have HC1 := Lib.hid hc1
  have HS1 : Hid (Sl w1 (.slice (some ⟨g0, 0, none⟩) m cap0) X0) := Sl.mk (marked_cl hr1) HM.out.symm (by rw [HM.out]; exact hxl)
  clear hr1 hl1 hm1 hg1 hc1
  go_wp2_with (fail)
  refine (mnew_calls HS1.out words).mono ?_
  rintro e w2 ⟨va, rfl, hfa, hc2⟩
  rw [← HB0.out]
  rw [← HN0.out] at hfa
  have HA2 := Lib.hid hfa
  have HC2 := Lib.hid (HC1.out.then_ hc2)
  have HR2 := Lib.hid (HR1.out.keepNo hc2)
  have HAG : Hid (∀ k, va.ownBlock = some k → g0 < k) := fun k hk => by
    have := HA2.out.ol.own k hk
    have := HR1.out.lt
    omega
  clear hfa hc2 HS1
  go_wp2_with (fail)
  refine (rnew_calls (w := w2) (v := .slice A m ca) (xs := X0) (Sl.mk (HA.out.keepNo HC2.out) HM.out.symm (by rw [HM.out]; exact hxl)) words).mono ?_
  rintro e w3 ⟨vx, rfl, hox, hc3⟩
  rw [← HB0.out]
  rw [← HN0.out] at hox
  have HO3 := Lib.hid hox
  have HA3 := Lib.hid (HA2.out.keepNo hc3)
  have HC3 := Lib.hid (HC2.out.then_ hc3)
  have HR3 := Lib.hid (HR2.out.keepNo hc3)
  have HXG : Hid (∀ k, vx.ownBlock = some k → g0 < k) := fun k hk => by
    have := HO3.out.own k hk
    have := HR2.out.lt
    omega
  have HLO : Hid (w.heap.size ≤ w1.heap.size ∧ w.heap.size ≤ w2.heap.size) := ⟨HC1.out.size, HC2.out.size⟩
  clear hox hc3 HA2 HC2 HR2 HR1 HC1
  go_wp2_with (fail)
  refine (same_self HA3.out.ol.sl HO3.out.sl).mono ?_
  rintro e w4 ⟨rfl, hc4⟩
  have HO4 := Lib.hid (HO3.out.keepNo hc4)
  have HA4 := Lib.hid (HA3.out.keepNo hc4)
  have HC4 := Lib.hid (HC3.out.then_ hc4)
  have HR4 := Lib.hid (HR3.out.keepNo hc4)
  clear hc4 HO3 HA3 HC3 HR3
  go_wp2_with (fail)
  refine (left_n g0 m m cap0 ca A X0 X0 rest0 w4 HM.out.symm HM.out.symm (by omega) (by have := HL1.out; omega) HM1.out rfl HR4.out (HA.out.keepNo HC4.out)).mono ?_
  rintro e w5 ⟨rfl, hd5⟩
  have hc5 := hd5.ch
  have HO5 := Lib.hid (HO4.out.keepNo hc5)
  have HA5 := Lib.hid (HA4.out.keepNo hc5)
  have HC5 := Lib.hid (HC4.out.then_ hc5)
  have HR5 : Hid (∃ L, Row w5 g0 2 L ∧ m ≤ L.length) := ⟨_, HR4.out.keepNo hc5, by simp [ints_length, HM.out]; omega⟩
  clear hd5 hc5 HO4 HA4 HC4 HR4
  go_wp2_with (fail)
  go_loopw [12] (fun i wr => ∃ j : Nat, j ≤ m ∧ i = .int .i64 j ∧ Hid (Ol w2.heap.size wr vx N0) ∧ Hid (Fl w1.heap.size wr va N0) ∧ Hid (Ch No w wr) ∧ Hid (∃ L, Row wr g0 2 L ∧ m ≤ L.length)) (fun i _ => m - (intOf i).toNat)
  case atStart => exact ⟨0, Nat.zero_le _, rfl, HO5, HA5, HC5, HR5⟩
  case round =>
    clear HO5 HA5 HC5 HR5
    obtain ⟨j, hj, rfl, HO5, HA5, HC5, HR5⟩ := hrel
    by_cases hlt : j < m
    · have d0 := decide_lt_t (show (j : Int) < (m : Int) by omega)
      obtain ⟨L, hL, hLl⟩ := HR5.out
      obtain ⟨u, r0⟩ : ∃ u, wr.cell? ⟨g0, j, none⟩ = some u := ⟨_, by rw [hL.cell]; exact List.getElem?_eq_getElem (by omega)⟩
      have r1 := hL.frozen j
      have hc : Ch (Is g0) wr (wr.setCell ⟨g0, j, none⟩ (.int .i64 80)) := Ch.setCell (D := Is g0) (p := ⟨g0, j, none⟩) (Ch.refl _ wr) (fun _ => rfl) _
      have K1 := Lib.hid (HO5.out.keepD hc (fun k hk e => by have e' : k = g0 := e; have := HXG.out k hk; omega))
      have K2 := Lib.hid (HA5.out.keepD hc (fun k hk e => by have e' : k = g0 := e; have := HAG.out k hk; omega))
      have K3 := Lib.hid (HC5.out.setNew (j := j) (u := .int .i64 80) HG1.out)
      have K4 : Hid (∃ L, Row (wr.setCell ⟨g0, j, none⟩ (.int .i64 80)) g0 2 L ∧ m ≤ L.length) := ⟨_, hL.set_ j _, by rw [List.length_set]; exact hLl⟩
      have hmi : (m : Int) ≤ 10000000 := by omega
      clear hL hLl hc
      go_wp2_with (fail)
      exact ⟨⟨j + 1, by omega, by go_num, K1, K2, K3, K4⟩, by simp [intOf]; omega⟩
    · obtain rfl : j = m := by omega
      have d0 : decide ((j : Int) < (j : Int)) = false := by simp
      obtain ⟨Aa, ea, _⟩ := HA5.out.form
      rw [← HN.out] at ea
      subst ea
      have HXL : Hid (∀ k, vx.ownBlock = some k → k < wr.heap.size) := fun k hk => HO5.out.lt hk
      go_wp2_with (fail)
      refine (marked_n Aa n n N0 wr HN.out (by omega) (by
        obtain ⟨A', c', e', h, _⟩ := HA5.out.ol.sl
        simp only [Value.slice.injEq] at e'
        rw [e'.1]
        exact h)).mono ?_
      rintro e w6 ⟨g, cap, rest, rfl, hr6, hl6, hm6, hg6, hc6⟩
      have HA6 := Lib.hid (HA5.out.keepNo hc6)
      have HMS : Hid (MS w w6 g cap n rest vx N0) := ⟨⟨hr6, by rw [← HN.out]; exact hl6, hm6, by rw [← HN.out]; exact hn4, (HO5.out.keepNo hc6).low (Nat.zero_le _), fun e => by have := HXL.out g e; omega⟩, HN.out.symm, HC5.out.then_ hc6, by have := HC5.out.size; omega⟩
      clear hr6 hl6 hm6 hg6 hc6 HO5 HA5 HC5 HR5 HXL HXG HAG HLO HG1 HM1 HL1
      go_wp2_with (fail)
      refine (same_self HA6.out.ol.sl HMS.out.st.x.sl).mono ?_
      rintro e w7 ⟨rfl, hc7⟩
      have HM7 : Hid (MS w w7 g cap n rest vx N0) := ⟨HMS.out.st.keepNo hc7, HMS.out.len, HMS.out.ch.then_ hc7, HMS.out.hg⟩
      clear hc7 HMS HA6
      go_wp2_with (fail)
      go_loopw [10, 14, 15] (fun vx b i wr => ∃ (k : Nat) (X : List Int), k ≤ os.length ∧ i = .int .i64 k ∧ b = .bool true ∧ Hid (MS w wr g cap n rest vx X)) (fun _ _ i _ => os.length - (intOf i).toNat)
      case atStart => exact ⟨0, N0, Nat.zero_le _, rfl, rfl, HM7⟩
      case round =>
        clear HM7
        obtain ⟨k, X, hk, rfl, rfl, HMS⟩ := hrel
        by_cases hlk : k < os.length
        · have d1 := decide_lt_t (show (k : Int) < (os.length : Int) by omega)
          obtain ⟨hok, ad, ead, hcell⟩ := (HS.out.keep HMS.out.ch) k _ (List.getElem?_eq_getElem hlk)
          subst ead
          have HDL := Lib.hid (HD.out _ (List.getElem_mem hlk))
          have HOK := Lib.hid (HS.out k _ (List.getElem?_eq_getElem hlk)).1
          generalize ho : os[k] = o at *
          have c0 := hcell.first rfl
          have c1 := hcell.next 0 rfl
          have c2 := hcell.next 1 rfl
          have c3 := hcell.next 2 rfl
          have c4 := hcell.next 3 rfl
          have c5 := hcell.next 4 rfl
          simp only [Nat.reduceAdd] at c1 c2 c3 c4 c5
          clear hcell hok ho
          obtain ⟨kind, ofx, addr, on, value, dA, ds, dcap⟩ := o
          simp only [] at c0 c1 c2 c3 c4 c5
          have HK : Hid (∀ w', Ch (Is g) wr w' → Cl w' dA (ints ds)) := fun w' hc => HOK.out.data.keepNo (ch_new2 HMS.out.ch hc HMS.out.hg)
          go_wp2_with (fail)
          refine (step_any kind ofx addr on value dA ds ds.length dcap HMS.out.st HMS.out.len.symm rfl HDL.out HK.out HOK.out.n.1 HOK.out.n.2).mono ?_
          rintro e w10 ⟨X2, vx2, rfl, hst, hlen, hc⟩
          have HM10 : Hid (MS w w10 g cap n rest vx2 X2) := ⟨hst, hlen, ch_new2 HMS.out.ch hc HMS.out.hg, HMS.out.hg⟩
          clear hst hlen hc c0 c1 c2 c3 c4 c5 HMS
          go_wp2_with (fail)
          refine (left_self HM10.out.st HM10.out.len.symm).mono ?_
          rintro e w11 ⟨rfl, hc11⟩
          have HM11 : Hid (MS w w11 g cap n rest vx2 X2) := ⟨HM10.out.st.keepNo hc11, HM10.out.len, HM10.out.ch.then_ hc11, HM10.out.hg⟩
          clear hc11 HM10
          go_wp2_with (fail)
          exact ⟨⟨k + 1, X2, by omega, by go_num, rfl, HM11⟩, by simp [intOf]; omega⟩
        · have d1 := decide_lt_f (show ¬ (k : Int) < (os.length : Int) by omega)
          go_wp2_with (fail)
          refine (HUT.out wr HMS.out.ch).mono ?_
          rintro e w10 ⟨rfl, hc10⟩
          have HC10 := Lib.hid (HMS.out.ch.then_ hc10)
          clear hc10
          go_wp2_with (fail)
          refine (HPL.out w10 HC10.out).mono ?_
          rintro e w11 ⟨rfl, hc11⟩
          have HC11 := Lib.hid (HC10.out.then_ hc11)
          clear hc11
          go_wp2_with (fail)
          go_ret
          exact ⟨rfl, HC11.out⟩
end Go.Proofs.Ytbllpojljdhnoaa
