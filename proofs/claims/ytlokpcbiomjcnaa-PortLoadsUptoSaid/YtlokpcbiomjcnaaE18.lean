/- PortLastCounts, walked. -/
import Derived.Test.YtlokpcbiomjcnaaE17
set_option linter.unusedVariables false
set_option linter.unusedSimpArgs false
namespace Go.Proofs.Ytlokpcbiomjcnaa
open Go.RowKit
theorem and_u8 {s : Int} (h0 : 0 ≤ s) (h1 : s ≤ 255) : bits .and .u8 s 15 = s % 16 ∧ andI s 15 = s % 16 := by
  have a := bits_mask .u8 8 (by decide) wraps_u8 4 (by decide) s h0 (by omega)
  have b := bits_mask .i64 8 (by decide) (fun n h2 h3 => by rw [IntKind.wrap_i64]; omega) 4 (by decide) s h0 (by omega)
  exact ⟨a, b⟩
set_option maxHeartbeats 4000000 in
set_option maxRecDepth 100000 in
theorem lastcounts_walk {w : World} (size refresh t u now : Int) (hs0 : 0 ≤ size) (hs1 : size ≤ 255) {v1 v2 : Value} {xs1 xs2 : List Int} (h1 : Sl w v1 xs1) (h2 : Sl w v2 xs2) :
    Calls Try.prog 4 #[.int .u8 size, .int .i64 refresh, v1, v2, .int .i64 t, .int .i64 u, .int .i64 now] w fun e w' => e = .returned (.bool true) ∧ Ch No w w' := by
  obtain ⟨A1, c1, rfl, hA1, hl1⟩ := h1
  obtain ⟨A2, c2, rfl, hA2, hl2⟩ := h2
  have H1 := Lib.hid hA1
  have H2 := Lib.hid hA2
  have hw : wrap64 size = size := by unfold wrap64; omega
  obtain ⟨n1, hn1⟩ : ∃ n, xs1.length = n := ⟨_, rfl⟩
  obtain ⟨n2, hn2⟩ : ∃ n, xs2.length = n := ⟨_, rfl⟩
  rw [hn1] at hl1 ⊢
  rw [hn2] at hl2 ⊢
  have HN1 := Lib.hid hn1
  have HN2 := Lib.hid hn2
  have HS : Hid (0 ≤ size ∧ size ≤ 255) := ⟨hs0, hs1⟩
  clear hA1 hA2 hn1 hn2
  have HP0 : Hid (Row (w.alloc (.cells #[.int .i64 0, .int .i64 0, .bool false, .int .i64 size, .int .i64 0, .int .i64 refresh] 46)) w.heap.size 46 [.int .i64 0, .int .i64 0, .bool false, .int .i64 size, .int .i64 0, .int .i64 refresh]) := Row.new w 46 _
  have HC0 : Hid (Ch No w (w.alloc (.cells #[.int .i64 0, .int .i64 0, .bool false, .int .i64 size, .int .i64 0, .int .i64 refresh] 46))) := (Ch.refl _ _).alloc _
  obtain ⟨q, hq⟩ : ∃ q, q = imgPt ⟨0, 0, false, size, 0, refresh⟩ := ⟨_, rfl⟩
  have HQ : Hid (q.part = 1 ∧ q.kind = 0 ∧ q.out = false ∧ q.size = 1 + bits .and .u8 size 15 ∧ q.refresh = bits .and .i64 refresh 1099511627775) := by
    have a1 : andI 0 1 = 0 := by decide
    obtain ⟨e1, e2⟩ := and_u8 hs0 hs1
    have e : q = ⟨1, 0, false, 1 + bits .and .u8 size 15, 0, bits .and .i64 refresh 1099511627775⟩ := by
      rw [hq, e1, ← e2]
      simp [imgPt, a1]
      rfl
    show _ ∧ _ ∧ _ ∧ _ ∧ _
    rw [e]
    exact ⟨rfl, rfl, rfl, rfl, rfl⟩
  have HQQ : Hid (imgPts [⟨0, 0, false, size, 0, refresh⟩] = [q]) := by
    show _ = _
    rw [hq]
    rfl
  clear hq
  go_enter Try.func4, Try.ntmps4
  go_wp2_with (fail)
  refine (image_calls (ps := [⟨0, 0, false, size, 0, refresh⟩]) (n := 1) rfl (by omega) (fun i p hp => ?_)).mono ?_
  · obtain rfl : i = 0 := by
      have := (List.getElem?_eq_some_iff.1 hp).1
      simp at this
      exact this
    simp at hp
    subst hp
    exact ⟨⟨w.heap.size, 0, none⟩, rfl, HP0.out.cl0⟩
  rintro e w1 ⟨x, rfl, him, hc1⟩
  rw [HQQ.out] at him
  obtain ⟨B1, k1, d1, B2, k2, d2, rfl⟩ := him.slices
  have HIM := Lib.hid him
  have HC1 := Lib.hid (HC0.out.then_ hc1)
  clear him hc1 HP0 HC0
  go_upto_region 2 with (fail)
  have HX2 : Hid (Row (w1.alloc (.cells #[.slice B1 k1 d1, .slice B2 k2 d2, .slice none 0 0] 27)) w1.heap.size 27 [.slice B1 k1 d1, .slice B2 k2 d2, .slice none 0 0]) := Row.new w1 27 _
  have HIM2 := Lib.hid (HIM.out.keepNo ((Ch.refl No w1).alloc (.cells #[.slice B1 k1 d1, .slice B2 k2 d2, .slice none 0 0] 27)))
  have HC2 := Lib.hid (HC1.out.alloc (.cells #[.slice B1 k1 d1, .slice B2 k2 d2, .slice none 0 0] 27))
  generalize w1.alloc (.cells #[.slice B1 k1 d1, .slice B2 k2 d2, .slice none 0 0] 27) = w2 at *
  generalize w1.heap.size = X at *
  go_wp2_with (first | ((with_reducible refine at_op (o := ⟨some 33, _, _, _, _, _⟩) ?_); refine pl_load (o := ⟨some 33, _, _, _, _, _⟩) rfl 27 _ rfl X rfl 27 [.slice B1 k1 d1, .slice B2 k2 d2, .slice none 0 0] HX2.out _ Try.underlying27 rfl size27 ?_))
  refine (new_calls HIM2.out (by simp) 1).mono ?_
  rintro e w3 ⟨G, M, f, rfl, hn⟩
  obtain ⟨E, hat, hE⟩ := newi_at hn (j := 0) (p := q) (by simp) rfl HQ.out.1 (by omega)
  have HSP : Hid (Sp w3 G M 1 1 f 1 E q (.slice none 0 0) 0 ⟨false, 0, []⟩) := ⟨w3.heap.size, _, hat, owns_nil _ _ _ _, Int.le_refl _, Nat.zero_le _⟩
  have HC3 := Lib.hid (HC2.out.then_ hn.ch)
  have HEN : Hid (w.heap.size ≤ E) := Nat.le_trans HC2.out.size hE
  have HPQ : Hid (q.kind = 0 ∧ q.out = false) := ⟨HQ.out.2.1, HQ.out.2.2.1⟩
  clear hn hat hE HX2 HIM2 HIM HC1
  go_wp2_with (fail)
  refine (last_one HSP.out HPQ.out 5).mono ?_
  rintro e w4 ⟨v4, rfl, ho4, hc4⟩
  have hL : lastR q ⟨false, 0, []⟩ 5 = ([], 0, false, 0) := by
    have : mayB 5 = true := by decide
    simp [lastR, this]
  rw [hL] at ho4 ⊢
  have h0 : v4 = .slice none 0 0 ∨ ∃ A c, v4 = .slice A 0 c := by
    rcases owns_open ho4 with ⟨rfl, _⟩ | ⟨g, cap, rest, rfl, _⟩
    · exact .inl rfl
    · exact .inr ⟨_, _, rfl⟩
  obtain ⟨A4, k4, rfl⟩ : ∃ A c, v4 = .slice A 0 c := by
    rcases h0 with rfl | h0
    · exact ⟨_, _, rfl⟩
    · exact h0
  have HC4 := Lib.hid (HC3.out.then_ hc4)
  have HSP4 := Lib.hid (HSP.out.keepNo hc4)
  clear ho4 hc4 hL h0 HSP
  have HSZ : Hid (q.size ≤ 10000000) := by
    have hh := HQ.out.2.2.2.1
    have h3 := (and_u8 HS.out.1 HS.out.2).1
    show _ ≤ _
    rw [hh, h3]
    have := HS.out
    omega
  go_wp2_with (fail)
  refine (set_one HSP4.out HPQ.out HSZ.out (v := .slice A1 n1 c1) (xs := xs1) ⟨A1, c1, by rw [HN1.out], H1.out.keepNo HC4.out, by rw [HN1.out]; exact hl1⟩ t).mono ?_
  rintro e w5 ⟨rfl, hsp5, hc5⟩
  have HSP5 := Lib.hid hsp5
  have HC5 := Lib.hid (ch_newg HC4.out hc5 HEN.out)
  have HE1 : Hid (setE q xs1 t = 0 ∨ setE q xs1 t = 2) := by
    show setE q xs1 t = 0 ∨ setE q xs1 t = 2
    unfold setE
    split
    · exact .inl rfl
    · exact .inr rfl
  generalize setE q xs1 t = err1 at *
  generalize setS q ⟨false, 0, []⟩ xs1 t = s5 at *
  clear hsp5 hc5 HSP4
  go_wp2_with (fail)
  refine (set_one HSP5.out HPQ.out HSZ.out (v := .slice A2 n2 c2) (xs := xs2) ⟨A2, c2, by rw [HN2.out], H2.out.keepNo HC5.out, by rw [HN2.out]; exact hl2⟩ u).mono ?_
  rintro e w6 ⟨rfl, hsp6, hc6⟩
  have HSP6 := Lib.hid hsp6
  have HC6 := Lib.hid (ch_newg HC5.out hc6 HEN.out)
  obtain ⟨err2, he2⟩ : ∃ e, setE q xs2 u = e := ⟨_, rfl⟩
  obtain ⟨s6, hs6⟩ : ∃ s, setS q s5 xs2 u = s := ⟨_, rfl⟩
  rw [hs6] at HSP6
  rw [he2]
  have HE2 := Lib.hid he2
  have HS6 := Lib.hid hs6
  clear hsp6 hc6 HSP5 he2 hs6
  go_wp2_with (fail)
  refine (last_one HSP6.out HPQ.out now).mono ?_
  rintro e w7 ⟨v7, rfl, ho7, hc7⟩
  obtain ⟨A7, k7, c7, rfl⟩ := own_slice ho7
  have HO7 := Lib.hid ho7
  have HC7 := Lib.hid (HC6.out.then_ hc7)
  obtain ⟨age, hage⟩ : ∃ a, (lastR q s6 now).2.1 = a := ⟨_, rfl⟩
  obtain ⟨fr, hfr⟩ : ∃ a, (lastR q s6 now).2.2.1 = a := ⟨_, rfl⟩
  obtain ⟨g7, hg7⟩ : ∃ a, (lastR q s6 now).2.2.2 = a := ⟨_, rfl⟩
  rw [hage, hfr, hg7]
  have HAGE := Lib.hid hage
  have HFR := Lib.hid hfr
  have HG7 := Lib.hid hg7
  clear ho7 hc7 hage hfr hg7
  go_upto_region 11 with (fail)
  have hb15 : wrap64 (bits .and .u8 size 15) = bits .and .u8 size 15 := by
    rw [(and_u8 hs0 hs1).1]
    unfold wrap64
    omega
  have hb16 : wrap64 (1 + bits .and .u8 size 15) = 1 + bits .and .u8 size 15 := by
    rw [(and_u8 hs0 hs1).1]
    unfold wrap64
    omega
  have de : decide (0 ≤ err1) = true := by
    have := HE1.out
    simp
    omega
  have HQS : Hid (q.size = 1 + bits .and .u8 size 15) := HQ.out.2.2.2.1
  have HQR : Hid (q.refresh = bits .and .i64 refresh 1099511627775) := HQ.out.2.2.2.2
  clear HSP6 HC2 HC3 HC4 HC5 HC6 HQ HQQ HS
  by_cases hc : (n2 : Int) = q.size ∧ mayB u = true
  · have e2 : err2 = 0 := by
      rw [← HE2.out]
      unfold setE
      rw [HN2.out, if_pos hc]
    have es : s6 = ⟨true, u, xs2⟩ := by
      rw [← HS6.out]
      unfold setS
      rw [HN2.out, if_pos hc]
    subst e2
    have hu : 0 ≤ u ∧ u < 1099511627776 := by
      have := hc.2
      simpa [mayB] using this
    have hlen : ((n2 : Int) == 1 + bits .and .u8 size 15) = true := by
      rw [← HQS.out]
      simp [hc.1]
    have du0 : decide (0 ≤ u) = true := by simp [hu.1]
    have du1 : decide (u < 1099511627776) = true := by simp [hu.2]
    have HU := Lib.hid hu
    clear hu hs0 hs1 HE2 HS6
    by_cases hnu : now < u
    · have dn : decide (now < u) = true := by simp [hnu]
      clear hc es HAGE HFR HG7 hnu
      go_wp2_with (fail)
      refine (works_calls _).mono ?_
      rintro e w8 ⟨rfl, hc8⟩
      have HC8 := Lib.hid (HC7.out.then_ hc8)
      clear hc8
      go_wp2_with (fail)
      exact bodyPost_ret (v := .bool true) (by kernel_rfl) rfl ⟨rfl, HC8.out⟩
    · have dn : decide (now < u) = false := by simp; omega
      by_cases hnm : now < 1099511627776
      · have dm : decide (1099511627776 ≤ now) = false := by simp; omega
        have hlr : lastR q s6 now = (xs2, now - u, decide (now - u ≤ q.refresh), 0) := by
          have hm : mayB now = true := by
            have := HU.out
            simp [mayB]
            omega
          rw [es]
          unfold lastR
          rw [if_neg (by simp [hm]; omega), if_pos rfl]
        have hag : now - u = age := by
          rw [← HAGE.out, hlr]
        have hf7 : decide (now - u ≤ bits .and .i64 refresh 1099511627775) = fr := by
          rw [← HFR.out, hlr, ← HQR.out]
        have hg : g7 = 0 := by
          rw [← HG7.out, hlr]
        rw [hlr] at HO7
        have HSAME := Lib.hid (same_calls (sl_own HO7.out (by rw [HN2.out]; exact hl2)) (show Sl w7 (.slice A2 n2 c2) xs2 from ⟨A2, c2, by rw [HN2.out], H2.out.keepNo HC7.out, by rw [HN2.out]; exact hl2⟩))
        rw [show decide (xs2 = xs2) = true from by simp] at HSAME
        have hwa : wrap64 (now - u) = age := by
          rw [← hag]
          have := HU.out
          unfold wrap64
          omega
        rw [hag] at hf7
        subst hg
        clear hc es hlr hag HAGE HFR HG7 hnu hnm
        go_wp2_with (fail)
        refine HSAME.out.mono ?_
        rintro e w8 ⟨rfl, hc8⟩
        have HC8 := Lib.hid (HC7.out.then_ hc8)
        clear hc8 HC7
        go_wp2_with (fail)
        refine (works_calls _).mono ?_
        rintro e w9 ⟨rfl, hc9⟩
        have HC9 := Lib.hid (HC8.out.then_ hc9)
        clear hc9
        go_wp2_with (fail)
        exact bodyPost_ret (v := .bool true) (by kernel_rfl) rfl ⟨rfl, HC9.out⟩
      · have dm : decide (1099511627776 ≤ now) = true := by simp; omega
        clear hc es HAGE HFR HG7 hnu hnm
        go_wp2_with (fail)
        refine (works_calls _).mono ?_
        rintro e w8 ⟨rfl, hc8⟩
        have HC8 := Lib.hid (HC7.out.then_ hc8)
        clear hc8
        go_wp2_with (fail)
        exact bodyPost_ret (v := .bool true) (by kernel_rfl) rfl ⟨rfl, HC8.out⟩
  · have e2 : err2 = 2 := by
      rw [← HE2.out]
      unfold setE
      rw [HN2.out, if_neg hc]
    subst e2
    by_cases hl : (n2 : Int) = q.size
    · have hlen : ((n2 : Int) == 1 + bits .and .u8 size 15) = true := by
        rw [← HQS.out]
        simp [hl]
      have hmu : ¬ mayB u = true := fun h => hc ⟨hl, h⟩
      by_cases hu0 : 0 ≤ u
      · have du0 : decide (0 ≤ u) = true := by simp [hu0]
        have du1 : decide (u < 1099511627776) = false := by
          simp [mayB] at hmu
          have := hmu hu0
          simp
          omega
        clear hc hl hmu hs0 hs1 hu0 HE2 HS6 HAGE HFR HG7
        go_wp2_with (fail)
        refine (works_calls _).mono ?_
        rintro e w8 ⟨rfl, hc8⟩
        have HC8 := Lib.hid (HC7.out.then_ hc8)
        clear hc8
        go_wp2_with (fail)
        exact bodyPost_ret (v := .bool true) (by kernel_rfl) rfl ⟨rfl, HC8.out⟩
      · have du0 : decide (0 ≤ u) = false := by simp; omega
        clear hc hl hmu hs0 hs1 hu0 HE2 HS6 HAGE HFR HG7
        go_wp2_with (fail)
        refine (works_calls _).mono ?_
        rintro e w8 ⟨rfl, hc8⟩
        have HC8 := Lib.hid (HC7.out.then_ hc8)
        clear hc8
        go_wp2_with (fail)
        exact bodyPost_ret (v := .bool true) (by kernel_rfl) rfl ⟨rfl, HC8.out⟩
    · have hlen : ((n2 : Int) == 1 + bits .and .u8 size 15) = false := by
        rw [← HQS.out]
        simp [hl]
      clear hc hl hs0 hs1 HE2 HS6 HAGE HFR HG7
      go_wp2_with (fail)
      refine (works_calls _).mono ?_
      rintro e w8 ⟨rfl, hc8⟩
      have HC8 := Lib.hid (HC7.out.then_ hc8)
      clear hc8
      go_wp2_with (fail)
      exact bodyPost_ret (v := .bool true) (by kernel_rfl) rfl ⟨rfl, HC8.out⟩
end Go.Proofs.Ytlokpcbiomjcnaa
