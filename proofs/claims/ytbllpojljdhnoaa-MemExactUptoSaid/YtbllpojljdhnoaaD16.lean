/- MemExact: untold. -/
import Derived.Test.YtbllpojljdhnoaaD15
import Derived.Deep.DeepCutAuto
set_option linter.unusedVariables false
set_option linter.unusedSimpArgs false
namespace Go.Proofs.Ytbllpojljdhnoaa
open Go.RowKit
theorem newl_len (words : Int) (xs : List Int) : (newl words xs).length ≤ 4096 := by
  unfold newl
  split
  · rename_i h
    have := mayN_yes h
    simp
    omega
  · simp
theorem rdl_len (xs : List Int) (a n : Int) : (rdl xs a n).length ≤ xs.length := by
  unfold rdl
  split
  · simp
    omega
  · simp
theorem Ol.keepNT {b c : Nat} {w w' : World} {v : Value} {xs : List Int} (h : Ol b w v xs) (hc : Ch (NT c w) w w') : Ol b w' v xs := h.keepD hc (fun k hk => by
  obtain ⟨L, hL⟩ := h.own_row hk
  exact nt_no hL (by decide) (by decide))
theorem Fl.keepNT {b c : Nat} {w w' : World} {v : Value} {xs : List Int} (h : Fl b w v xs) (hc : Ch (NT c w) w w') : Fl b w' v xs := h.keepD hc (fun k hk => by
  obtain ⟨L, hL⟩ := h.ol.own_row hk
  exact nt_no hL (by decide) (by decide))
theorem St.keepNT {c : Nat} {w w' : World} {g cap : Nat} {X : List Int} {rest : List Value} {vx : Value} (h : St w g cap X rest vx) (hc : Ch (NT c w) w w') : St w' g cap X rest vx :=
  ⟨h.row.keep hc (nt_no h.row (by decide) (by decide)), h.len, h.cap, h.small, h.x.keepNT hc, h.ne⟩
theorem ch_nt {w wr w' : World} (h : Ch No w wr) (k : Ch (NT w.heap.size wr) wr w') : Ch No w w' := h.trans k (fun i hi ⟨hb, _⟩ => by omega)
/-- what holds at each call of the second script -/
structure US (w wr : World) (g cap p n : Nat) (rest : List Value) (vx : Value) (X : List Int) (its : List It) (vL vW : Value) : Prop where
  st : St wr g cap X rest vx
  len : X.length = n
  sh : Sh w.heap.size wr p g its vL vW
  short : its.length ≤ 400
  ch : Ch No w wr
  hg : w.heap.size ≤ g
theorem US.keepNo {w wr w' : World} {g cap p n : Nat} {rest : List Value} {vx : Value} {X : List Int} {its : List It} {vL vW : Value} (h : US w wr g cap p n rest vx X its vL vW) (hc : Ch No wr w') : US w w' g cap p n rest vx X its vL vW := ⟨h.st.keepNo hc, h.len, h.sh.keepNo hc, h.short, h.ch.then_ hc, h.hg⟩
theorem US.fresh {w wr : World} {g cap p n : Nat} {rest : List Value} {vx : Value} {X : List Int} {its : List It} {vL vW : Value} (h : US w wr g cap p n rest vx X its vL vW) {k : Nat} (hk : wr.heap.size ≤ k) : k ≠ g ∧ ∀ (i : Nat) a, its[i]? = some a → ¬ a.l.ownBlock = some k ∧ ¬ a.u.ownBlock = some k := by
  refine ⟨by have := h.st.row.lt; omega, fun i a hi => ⟨fun e => ?_, fun e => ?_⟩⟩
  · obtain ⟨L, hL⟩ := h.sh.two i a k hi (.inl e)
    have := hL.lt
    omega
  · obtain ⟨L, hL⟩ := h.sh.two i a k hi (.inr e)
    have := hL.lt
    omega
/-- one list more on the shelf: one that is new -/
theorem US.keep {w wr wn : World} {g cap p n : Nat} {rest : List Value} {vx l v : Value} {X xs : List Int} {its : List It} {vL vW : Value} (h : US w wr g cap p n rest vx X its vL vW) (hc : Ch No wr wn) (hl : Fl wr.heap.size wn l xs) (hx : xs.length ≤ 4096) (hv : Sl wn v xs) :
    Calls Try.prog 26 #[.pointer (some ⟨p, 0, none⟩), l, v] wn fun e w' => ∃ its' vL' vW', e = .returned (.tuple #[]) ∧ US w w' g cap p n rest vx X its' vL' vW' ∧ Ch (NT w.heap.size wn) wn w' := by
  have hn := h.keepNo hc
  refine (keep_calls hn.sh h.short hl hx h.ch.size (fun k hk => h.fresh (hl.ol.own k hk)) hv hn.st.row.lt hn.ch.size).mono ?_
  rintro e w' ⟨its', vL', vW', rfl, hs, hl', hc', _⟩
  exact ⟨its', vL', vW', rfl, ⟨hn.st.keepNT hc', h.len, hs, hl', ch_nt hn.ch hc', h.hg⟩, hc'⟩
theorem US.read {w wr : World} {g cap p n : Nat} {rest : List Value} {vx : Value} {X : List Int} {its : List It} {vL vW : Value} (h : US w wr g cap p n rest vx X its vL vW) (a k : Int) :
    Calls Try.prog 18 #[.slice (some ⟨g, 0, none⟩) n cap, .int .i64 a, .int .i64 k] wr fun e w' => ∃ v', e = .returned (.tuple #[v', .bool (may X.length 0 a k)]) ∧ Fl wr.heap.size w' v' (rdl X a k) ∧ Ch No wr w' := by
  have := mread_calls (some ⟨g, 0, none⟩) cap a k X wr (by have := h.st.small; omega) h.st.le h.st.clm
  rw [h.len] at this ⊢
  exact this
set_option maxHeartbeats 8000000 in
set_option maxRecDepth 100000 in
theorem untold_calls {w : World} {v : Value} {X0 : List Int} (hX : Sl w v X0) (words : Int) {S : Option Addr} {os : List OpR} {sc : Nat} (hs : Ops w S os) (hsm : os.length ≤ 9223372036854775807) (hd : ∀ o ∈ os, o.data.length ≤ 10000000) :
    Calls Try.prog 16 #[.int .i64 words, v, .slice S os.length sc] w fun e w' => e = .returned (.bool true) ∧ Ch No w w' := by
  have HX := Lib.hid hX
  have HS := Lib.hid hs
  have HD := Lib.hid hd
  have hn4 := newl_len words X0
  obtain ⟨N0, hN0⟩ : ∃ N, N = newl words X0 := ⟨_, rfl⟩
  obtain ⟨B0, hB0⟩ : ∃ B, B = mayN words X0.length := ⟨_, rfl⟩
  obtain ⟨n, hn⟩ : ∃ n, n = N0.length := ⟨_, rfl⟩
  rw [← hN0, ← hn] at hn4
  have HN0 := Lib.hid hN0
  have HB0 := Lib.hid hB0
  have HN := Lib.hid hn
  clear hX hs hd hN0 hB0 hn
  go_enter Try.func16, Try.ntmps16
  go_wp2_with (fail)
  refine (rnew_calls HX.out words).mono ?_
  rintro e w1 ⟨vx, rfl, hox, hc1⟩
  rw [← HB0.out]
  rw [← HN0.out] at hox
  have HO1 := Lib.hid hox
  have HC1 := Lib.hid hc1
  clear hox hc1
  go_wp2_with (fail)
  refine (mnew_calls (HX.out.keepNo HC1.out) words).mono ?_
  rintro e w2 ⟨va, rfl, hfa, hc2⟩
  rw [← HB0.out]
  rw [← HN0.out] at hfa
  have HA2 := Lib.hid hfa
  have HC2 := Lib.hid (HC1.out.then_ hc2)
  have HZ12 := Lib.hid hc2.size
  have HO2 := Lib.hid (HO1.out.keepNo hc2)
  clear hfa hc2
  go_wp2_with (fail)
  refine (mnew_calls (HX.out.keepNo HC2.out) words).mono ?_
  rintro e w3 ⟨vb, rfl, hfb, hc3⟩
  rw [← HB0.out]
  rw [← HN0.out] at hfb
  have HB3 := Lib.hid hfb
  have HA3 := Lib.hid (HA2.out.keepNo hc3)
  have HC3 := Lib.hid (HC2.out.then_ hc3)
  have HO3 := Lib.hid (HO2.out.keepNo hc3)
  have HAL : Hid (∀ k, va.ownBlock = some k → w1.heap.size ≤ k ∧ k < w2.heap.size) := fun k hk => ⟨HA2.out.ol.own k hk, HA2.out.ol.lt hk⟩
  have HBL : Hid (∀ k, vb.ownBlock = some k → w2.heap.size ≤ k ∧ k < w3.heap.size) := fun k hk => ⟨HB3.out.ol.own k hk, HB3.out.ol.lt hk⟩
  have HXL : Hid (∀ k, vx.ownBlock = some k → k < w1.heap.size) := fun k hk => HO1.out.lt hk
  have HZ3 : Hid (w.heap.size ≤ w1.heap.size ∧ w1.heap.size ≤ w2.heap.size ∧ w2.heap.size ≤ w3.heap.size) := ⟨HC1.out.size, HZ12.out, hc3.size⟩
  clear hfb hc3 HO1 HO2 HA2 HX
  obtain ⟨Aa, ea, _⟩ := HA3.out.form
  rw [← HN.out] at ea
  subst ea
  go_wp2_with (fail)
  refine (marked_n Aa n n N0 w3 HN.out (by omega) (by
    obtain ⟨A', c', e', h, _⟩ := HA3.out.ol.sl
    simp only [Value.slice.injEq] at e'
    rw [e'.1]
    exact h)).mono ?_
  rintro e w4 ⟨g, cap, rest, rfl, hr4, hl4, hm4, hg4, hc4⟩
  have HR4 := Lib.hid hr4
  have HL4 := Lib.hid hl4
  have HM4 := Lib.hid hm4
  have HG4 := Lib.hid hg4
  have HA4 := Lib.hid (HA3.out.keepNo hc4)
  have HB4 := Lib.hid (HB3.out.keepNo hc4)
  have HO4 := Lib.hid (HO3.out.keepNo hc4)
  have HC4 := Lib.hid (HC3.out.then_ hc4)
  clear hr4 hl4 hm4 hg4 hc4 HA3 HB3 HO3
  go_upto_region 8 with (fail)
  have hc5 : Ch No w4 (w4.alloc (.cells #[.slice none 0 0, .slice none 0 0] 46)) := (Ch.refl No w4).alloc _
  have HST5 : Hid (St (w4.alloc (.cells #[.slice none 0 0, .slice none 0 0] 46)) g cap N0 rest vx) := ⟨HR4.out.keepNo hc5, by rw [← HN.out]; exact HL4.out, HM4.out, by rw [← HN.out]; exact hn4, (HO4.out.low (Nat.zero_le _)).keepNo hc5, fun e => by
    have h1 := HXL.out g e
    have h2 := HZ3.out
    have h3 := HG4.out
    omega⟩
  have HSH5 : Hid (Sh w.heap.size (w4.alloc (.cells #[.slice none 0 0, .slice none 0 0] 46)) w4.heap.size g [] (.slice none 0 0) (.slice none 0 0)) := ⟨Row.new w4 46 [.slice none 0 0, .slice none 0 0], HC4.out.size, owns_nil _ _ _ _, owns_nil _ _ _ _, fun k h => by simp [Value.ownBlock] at h, fun i a h => by simp at h, fun i a h => by simp at h, fun i j a c k h => by simp at h⟩
  have HA5 := Lib.hid (HA4.out.keepNo hc5)
  have HB5 := Lib.hid (HB4.out.keepNo hc5)
  have HC5 := Lib.hid (HC4.out.then_ hc5)
  have HZ5 : Hid (w3.heap.size ≤ (w4.alloc (.cells #[.slice none 0 0, .slice none 0 0] 46)).heap.size ∧ g < (w4.alloc (.cells #[.slice none 0 0, .slice none 0 0] 46)).heap.size) := by
    have h1 := HR4.out.lt
    have h2 := HG4.out
    show _ ∧ _
    simp
    omega
  obtain ⟨p, hp⟩ : ∃ p, p = w4.heap.size := ⟨_, rfl⟩
  rw [← hp] at HSH5 ⊢
  clear HA4 HB4 HC4 HO4 HR4 HL4 HM4 hc5 hp
  generalize w4.alloc (.cells #[.slice none 0 0, .slice none 0 0] 46) = w5 at *
  go_wp2_with (fail)
  refine (keep_calls (b1 := w1.heap.size) (xs := N0) HSH5.out (by simp) HA5.out (by rw [← HN.out]; exact hn4) HZ3.out.1 (fun k hk => ⟨by have := HAL.out k hk; have := HZ3.out; have := HG4.out; omega, fun i a h => by simp at h⟩) HST5.out.x.sl HZ5.out.2 HC5.out.size).mono ?_
  rintro e w6 ⟨its1, vL1, vW1, rfl, hs6, hl6, hc6, hi6⟩
  have HS6 := Lib.hid hs6
  have HL6 := Lib.hid hl6
  have HST6 := Lib.hid (HST5.out.keepNT hc6)
  have HB6 := Lib.hid (HB5.out.keepNT hc6)
  have HC6 := Lib.hid (ch_nt HC5.out hc6)
  have HG6 : Hid (w.heap.size ≤ g) := by have h1 := HZ3.out; have h2 := HG4.out; show _ ≤ _; omega
  have HNEW : Hid (∀ k, vb.ownBlock = some k → k ≠ g ∧ ∀ (i : Nat) a, its1[i]? = some a → ¬ a.l.ownBlock = some k ∧ ¬ a.u.ownBlock = some k) := fun k hk => by
    have h1 := HBL.out k hk
    have h2 := HZ3.out
    have h3 := HG4.out
    have h5 := HZ5.out
    have hno : ∀ (i : Nat) a, its1[i]? = some a → ¬ (a.l.ownBlock = some k ∨ a.u.ownBlock = some k) := fun i a hi e => by
      rcases hi6 i a k hi e with h | h | ⟨i', a', h, _⟩
      · have := HAL.out k h
        omega
      · omega
      · simp at h
    exact ⟨by omega, fun i a hi => ⟨fun e => hno i a hi (.inl e), fun e => hno i a hi (.inr e)⟩⟩
  clear hs6 hl6 hc6 hi6 HSH5 HST5 HB5 HC5 HA5 HAL HBL HXL HZ5
  go_wp2_with (fail)
  refine (keep_calls (b1 := w2.heap.size) (xs := N0) HS6.out HL6.out HB6.out (by rw [← HN.out]; exact hn4) (by have := HZ3.out; omega) HNEW.out HST6.out.x.sl HST6.out.row.lt HC6.out.size).mono ?_
  rintro e w7 ⟨its2, vL2, vW2, rfl, hs7, hl7, hc7, _⟩
  have HU : Hid (US w w7 g cap p n rest vx N0 its2 vL2 vW2) := ⟨HST6.out.keepNT hc7, HN.out.symm, hs7, hl7, ch_nt HC6.out hc7, HG6.out⟩
  clear hs7 hl7 hc7 HNEW HS6 HL6 HB6 HST6 HC6 HG6 HG4 HZ3 HZ12
  go_wp2_with (fail)
  go_loopw [7, 15] (fun vx i wr => ∃ (j : Nat) (X : List Int) (its : List It) (vL vW : Value), j ≤ os.length ∧ i = .int .i64 j ∧ Hid (US w wr g cap p n rest vx X its vL vW)) (fun _ i _ => os.length - (intOf i).toNat)
  case atStart => exact ⟨0, N0, its2, vL2, vW2, Nat.zero_le _, rfl, HU⟩
  case round =>
    clear HU
    obtain ⟨j, X, its, vL, vW, hj, rfl, HU⟩ := hrel
    by_cases hlt : j < os.length
    · have d0 := decide_lt_t (show (j : Int) < (os.length : Int) by omega)
      obtain ⟨hok, ad, ead, hcell⟩ := (HS.out.keep HU.out.ch) j _ (List.getElem?_eq_getElem hlt)
      subst ead
      have HDL := Lib.hid (HD.out _ (List.getElem_mem hlt))
      have HOK := Lib.hid (HS.out j _ (List.getElem?_eq_getElem hlt)).1
      generalize ho : os[j] = o at *
      have c0 := hcell.first rfl
      have c1 := hcell.next 0 rfl
      have c2 := hcell.next 1 rfl
      have c3 := hcell.next 2 rfl
      have c4 := hcell.next 3 rfl
      have c5 := hcell.next 4 rfl
      simp only [Nat.reduceAdd] at c1 c2 c3 c4 c5
      clear hcell hok ho
      obtain ⟨kind, ofx, addr, on, value, dA, ds, dcap⟩ := o
      simp only [] at c0 c1 c2 c3 c4 c5
      go_upto_region 14 with (fail)
      have hcb : Ch No wr (wr.alloc (.cells #[.int .i64 kind, .int .i64 ofx, .int .i64 addr, .int .i64 on, .int .i64 value, .slice dA ds.length dcap] 29)) := (Ch.refl No wr).alloc _
      have HBO : Hid (Row (wr.alloc (.cells #[.int .i64 kind, .int .i64 ofx, .int .i64 addr, .int .i64 on, .int .i64 value, .slice dA ds.length dcap] 29)) wr.heap.size 29 [.int .i64 kind, .int .i64 ofx, .int .i64 addr, .int .i64 on, .int .i64 value, .slice dA ds.length dcap]) := Row.new wr 29 _
      have HU8 := Lib.hid (HU.out.keepNo hcb)
      obtain ⟨bo, hbo⟩ : ∃ bo, bo = wr.heap.size := ⟨_, rfl⟩
      have HOG : Hid (g < bo) := by show _ < _; rw [hbo]; exact HU.out.st.row.lt
      rw [← hbo] at HBO ⊢
      clear hcb hbo HU c0 c1 c2 c3 c4 c5
      generalize wr.alloc (.cells #[.int .i64 kind, .int .i64 ofx, .int .i64 addr, .int .i64 on, .int .i64 value, .slice dA ds.length dcap] 29) = w8 at *
      have HSD : Hid (∀ w', Ch No w w' → Sl w' (.slice dA ds.length dcap) ds) := fun w' hc => Sl.mk (HOK.out.data.keepNo hc) rfl HDL.out
      have s2 : w8.cell? ⟨bo, 2, none⟩ = some (.int .i64 addr) := HBO.out.cell 2
      have s5 : w8.cell? ⟨bo, 5, none⟩ = some (.slice dA ds.length dcap) := HBO.out.cell 5
      go_cut [80] from 70 to 79 (fun v wx => v = .bool false ∧ Hid (Ch No w8 wx))
      case first =>
        by_cases h4 : j < 4
        · have d1 := decide_lt_t (show (j : Int) < 4 by omega)
          clear h4
          go_wp2_with (fail)
          refine (placedM_calls HU8.out.st.x.sl (HSD.out w8 HU8.out.ch) HU8.out.st.small addr).mono ?_
          rintro e w9 ⟨rfl, hc⟩
          have HC9 := Lib.hid hc
          clear hc
          go_wp2_with (fail)
          go_meet
          case rel => exact ⟨rfl, HC9⟩
        · have d1 := decide_lt_f (show ¬ (j : Int) < 4 by omega)
          clear h4
          go_wp2_with (fail)
          go_meet
          case rel => exact ⟨rfl, Ch.refl _ _⟩
      case rest =>
        obtain ⟨hv, hw⟩ := hcut
        subst hv
        have HU9 := Lib.hid (HU8.out.keepNo hw.out)
        have HB9 := Lib.hid (HBO.out.keepNo hw.out)
        clear HU8 HBO hw s2 s5
        by_cases hk3 : kind = 3
        · have t0 : (kind != 3) = false := by rw [hk3]; rfl
          have e0 : wc.cell? ⟨bo, 0, none⟩ = some (.int .i64 kind) := HB9.out.cell 0
          have e2 : wc.cell? ⟨bo, 2, none⟩ = some (.int .i64 addr) := HB9.out.cell 2
          have e3 : wc.cell? ⟨bo, 3, none⟩ = some (.int .i64 on) := HB9.out.cell 3
          clear hk3
          go_wp2_with (fail)
          refine (rread_calls HU9.out.st.x.sl addr on).mono ?_
          rintro e w10 ⟨vw, rfl, how, hc⟩
          have HR : Hid ((rdl X addr on).length ≤ 4096) := by show _ ≤ _; have h1 := rdl_len X addr on; have h2 := HU9.out.st.small; omega
          have HU10 := Lib.hid (HU9.out.keepNo hc)
          have HB10 := Lib.hid (HB9.out.keepNo hc)
          have HW10 := Lib.hid (how.low (Nat.zero_le _))
          clear how hc e0 e2 e3 HU9 HB9
          go_wp2_with (fail)
          go_loopw [21] (fun k wr => ∃ (c : Nat) (its : List It) (vL vW : Value), c ≤ 2 ∧ k = .int .i64 c ∧ Hid (US w wr g cap p n rest u7 X its vL vW) ∧ Hid (Ol 0 wr vw (rdl X addr on)) ∧ Hid (Row wr bo 29 [.int .i64 kind, .int .i64 ofx, .int .i64 addr, .int .i64 on, .int .i64 value, .slice dA ds.length dcap])) (fun k _ => 2 - (intOf k).toNat)
          case atStart => exact ⟨0, its, vL, vW, by omega, rfl, HU10, HW10, HB10⟩
          case round =>
            clear HU10 HW10 HB10
            obtain ⟨c, its3, vL3, vW3, hc, rfl, HU, HW, HB⟩ := hrel
            by_cases hlc : c < 2
            · have d1 := decide_lt_t (show (c : Int) < 2 by omega)
              have e2 : wr.cell? ⟨bo, 2, none⟩ = some (.int .i64 addr) := HB.out.cell 2
              have e3 : wr.cell? ⟨bo, 3, none⟩ = some (.int .i64 on) := HB.out.cell 3
              go_wp2_with (fail)
              refine (HU.out.read addr on).mono ?_
              rintro e wa ⟨vl, rfl, hf, hca⟩
              have HF := Lib.hid hf
              have HCA := Lib.hid hca
              clear hf hca e2 e3
              go_wp2_with (fail)
              refine (HU.out.keep HCA.out HF.out HR.out (HW.out.keepNo HCA.out).sl).mono ?_
              rintro e wb ⟨its4, vL4, vW4, rfl, hu, hnt⟩
              have HU4 := Lib.hid hu
              have HW4 := Lib.hid ((HW.out.keepNo HCA.out).keepNT hnt)
              have HB4 := Lib.hid ((HB.out.keepNo HCA.out).keep hnt (nt_no (HB.out.keepNo HCA.out) (by decide) (by decide)))
              clear hu hnt HU HW HB HF HCA
              go_wp2_with (fail)
              refine (HU4.out.read 0 (n : Int)).mono ?_
              rintro e wd ⟨v5, rfl, hf, hca⟩
              rw [show rdl X 0 (n : Int) = X by have := rdl_all X; rw [HU4.out.len] at this; exact this] at hf
              have HF := Lib.hid hf
              have HCA := Lib.hid hca
              clear hf hca
              go_wp2_with (fail)
              refine (HU4.out.keep HCA.out HF.out HU4.out.st.small (HU4.out.keepNo HCA.out).st.x.sl).mono ?_
              rintro e we ⟨its5, vL5, vW5, rfl, hu, hnt⟩
              have HU5 := Lib.hid hu
              have HW5 := Lib.hid ((HW4.out.keepNo HCA.out).keepNT hnt)
              have HB5 := Lib.hid ((HB4.out.keepNo HCA.out).keep hnt (nt_no (HB4.out.keepNo HCA.out) (by decide) (by decide)))
              clear hu hnt HU4 HW4 HB4 HF HCA
              go_wp2_with (fail)
              exact ⟨⟨c + 1, its5, vL5, vW5, by omega, by go_num, HU5, HW5, HB5⟩, by simp [intOf]; omega⟩
            · have d1 := decide_lt_f (show ¬ (c : Int) < 2 by omega)
              go_wp2_with (fail)
              exact ⟨⟨j + 1, X, its3, vL3, vW3, by omega, by go_num, HU⟩, by simp [intOf]; omega⟩
        · have t0 : (kind != 3) = true := by simpa using hk3
          have e0 : wc.cell? ⟨bo, 0, none⟩ = some (.int .i64 kind) := HB9.out.cell 0
          have e1 : wc.cell? ⟨bo, 1, none⟩ = some (.int .i64 ofx) := HB9.out.cell 1
          have e2 : wc.cell? ⟨bo, 2, none⟩ = some (.int .i64 addr) := HB9.out.cell 2
          have e3 : wc.cell? ⟨bo, 3, none⟩ = some (.int .i64 on) := HB9.out.cell 3
          have e4 : wc.cell? ⟨bo, 4, none⟩ = some (.int .i64 value) := HB9.out.cell 4
          have e5 : wc.cell? ⟨bo, 5, none⟩ = some (.slice dA ds.length dcap) := HB9.out.cell 5
          have HK : Hid (∀ w', Ch (Is g) wc w' → Cl w' dA (ints ds)) := fun w' hc => HOK.out.data.keepNo (ch_new2 HU9.out.ch hc HU9.out.hg)
          clear hk3
          go_wp2_with (fail)
          refine (step_any kind ofx addr on value dA ds ds.length dcap HU9.out.st HU9.out.len.symm rfl HDL.out HK.out HOK.out.n.1 HOK.out.n.2).mono ?_
          rintro e w10 ⟨X2, vx2, rfl, hst, hlen, hc⟩
          have HU10 : Hid (US w w10 g cap p n rest vx2 X2 its vL vW) := ⟨hst, hlen, HU9.out.sh.keepIs hc HU9.out.st.row, HU9.out.short, ch_new2 HU9.out.ch hc HU9.out.hg, HU9.out.hg⟩
          clear hst hlen hc e0 e1 e2 e3 e4 e5 HU9 HB9
          go_wp2_with (fail)
          exact ⟨⟨j + 1, X2, its, vL, vW, by omega, by go_num, HU10⟩, by simp [intOf]; omega⟩
    · have d0 := decide_lt_f (show ¬ (j : Int) < (os.length : Int) by omega)
      go_wp2_with (fail)
      refine (stands_calls HU.out.sh HU.out.short).mono ?_
      rintro e w9 ⟨rfl, hc⟩
      have HC9 : Hid (Ch No w w9) := HU.out.ch.trans hc (fun i hi e => by have e' : w.heap.size ≤ i := e; omega)
      clear hc
      go_wp2_with (fail)
      go_ret
      exact ⟨rfl, HC9.out⟩
end Go.Proofs.Ytbllpojljdhnoaa
