/- spoilt, walked. -/
import Derived.Test.YtlokpcbiomjcnaaH1
set_option linter.unusedVariables false
set_option linter.unusedSimpArgs false
namespace Go.Proofs.Ytlokpcbiomjcnaa
open Go.RowKit
def Mid (lo hi k : Nat) : Prop := lo ≤ k ∧ k < hi
theorem info31b : (Try.prog.info? 31).map (fun i => (i.zero, i.size, i.bytes)) = some (some (.slice none 0 0), 1, 24) := by kernel_rfl
theorem lt_t {a b : Nat} (h : a < b) : decide ((a : Int) < (b : Int)) = true := by simp; omega
theorem lt_f {a b : Nat} (h : ¬ a < b) : decide ((a : Int) < (b : Int)) = false := by simp; omega
theorem Ch.mid {lo hi : Nat} {w w1 w2 : World} (h : Ch (Mid lo hi) w w1) (k : Ch No w1 w2) : Ch (Mid lo hi) w w2 := h.trans k (fun _ _ h => (not_no _ h).elim)
theorem SO.cells {w0 w : World} {gO n : Nat} {c : Nat → Rp} {ss : Nat → Ps} (h : SO w0 w gO n c ss) {k : Nat} (hk : k < n) (i : Nat) (hi : i < 5) : w.cell? ⟨gO, k * 5 + i, none⟩ = (scell (c k) (ss k))[i]? := by
  rw [h.row.cell, flat_get _ _ (fun _ => rfl) _ (by omega)]
  rw [show (k * 5 + i) / 5 = k by omega, show (k * 5 + i) % 5 = i by omega]
theorem Qv.cl2 {w : World} {A : Option Addr} {n c : Nat} {ms : List Value} (h : Qv w (.slice A n c) ms) : n = ms.length ∧ Cl w A ms := by
  obtain ⟨A', c', e, hc⟩ := h.cl
  simp only [Value.slice.injEq] at e
  obtain ⟨rfl, rfl, rfl⟩ := e
  exact ⟨rfl, hc⟩
theorem own_cell1 {w : World} {base n c : Nat} {e : TypeId} {A : Option Addr} {xs : List Value} (h : w.ownsRow base e 1 (.slice A n c) n xs) {j : Nat} {u : Value} (hj : xs[j]? = some u) : ∃ g, A = some ⟨g, 0, none⟩ ∧ base ≤ g ∧ w.cell? ⟨g, j, none⟩ = some u := by
  have hlt := (List.getElem?_eq_some_iff.1 hj).1
  have hl := h.1
  rcases owns_open_sz h with ⟨hv, h0⟩ | ⟨g, cap, rest, hv, hb, hr, hnc, hcm, _⟩
  · omega
  · simp only [Value.slice.injEq] at hv
    obtain ⟨rfl, _, _⟩ := hv
    refine ⟨g, rfl, hb, ?_⟩
    rw [hr.cell, List.getElem?_append_left hlt]
    exact hj
theorem own_cell1g {w : World} {base n c g : Nat} {e : TypeId} {xs : List Value} (h : w.ownsRow base e 1 (.slice (some ⟨g, 0, none⟩) n c) n xs) {j : Nat} {u : Value} (hj : xs[j]? = some u) : base ≤ g ∧ w.cell? ⟨g, j, none⟩ = some u := by
  obtain ⟨g', e', h1, h2⟩ := own_cell1 h hj
  cases e'
  exact ⟨h1, h2⟩
theorem Wn.at2 {w : World} {b : Nat} {vs : List Value} {len : Nat → Nat} {i k j n c : Nat} {A : Option Addr} (h : Wn w b vs len i k) (hv : vs[j]? = some (.slice A n c)) {q : Nat} (hq : q < n) : ∃ g y, A = some ⟨g, 0, none⟩ ∧ b ≤ g ∧ w.cell? ⟨g, q, none⟩ = some (.int .i64 y) ∧ w.frozen? ⟨g, q, none⟩ = false ∧ (j < i ∨ (j = i ∧ q < k) → y = -1000 - (j : Int)) := by
  obtain ⟨A', c', h1, _, h2⟩ := h.at_ (List.getElem?_eq_some_iff.1 hv).1
  rw [hv] at h1
  simp only [Option.some.injEq, Value.slice.injEq] at h1
  obtain ⟨rfl, rfl, rfl⟩ := h1
  exact h2 q hq
theorem own_len {w : World} {g n m c : Nat} {L : List Value} (h : w.ownsRow m 32 1 (.slice (some ⟨g, 0, none⟩) n c) n L) {w' : World} {k hi : Nat} (hc : Ch (Is k) w w') (hk : k < hi) (hm : hi ≤ m) : w'.ownsRow m 32 1 (.slice (some ⟨g, 0, none⟩) n c) n L := owns_keepIs h hc (fun e => by
  have := own_base_ h g rfl
  simp [Value.ownBlock] at e
  omega)
set_option maxHeartbeats 8000000 in
set_option maxRecDepth 100000 in
theorem spoilt_calls {w0 w1 w : World} {gO n : Nat} {c : Nat → Rp} {ss : Nat → Ps} (h : SO w0 w1 gO n c ss) (hc : Ch No w1 w) (hn : n ≤ 1000) (hq : ∀ j, j < n → (ss j).q.length ≤ 10000000) :
    Calls Try.prog 33 #[.slice (some ⟨gO, 0, none⟩) n n] w fun e w' => e = .returned (.bool true) ∧ Ch (Mid w0.heap.size w1.heap.size) w w' := by
  have HS := Lib.hid (h.keepNo hc)
  have HLOW : Hid (∀ (j k : Nat) u, (allV c n)[j]? = some u → u.ownBlock = some k → k < w1.heap.size) := fun j k u hu hk => (h.all n).lt hu hk
  have HB : Hid (w1.heap.size ≤ w.heap.size) := hc.size
  have HM : Hid (∀ j, j < n → (c j).ms.length ≤ 10000000) := fun j hj => by
    have h1 := (h.sep j).len
    have h2 := hq j hj
    simp only [List.length_cons] at h1
    omega
  have HLEN : Hid (∀ k, k ≤ n → (allV c k).length ≤ k * 10000001) := fun k hk => allV_len c k (fun j hj => HM.out j (by omega))
  have HBL0 : Hid (w0.heap.size ≤ w.heap.size) := Nat.le_trans h.ch.size hc.size
  clear h hc hq
  go_enter Try.func33, Try.ntmps33
  go_wp2_with (fail)
  go_loopw [3, 4] (fun u i wr => ∃ k : Nat, k ≤ n ∧ i = .int .i64 k ∧ Hid (wr.ownsRow w.heap.size 32 1 u (allV c k).length (allV c k)) ∧ Hid (Ch No w wr)) (fun _ i _ => n - (intOf i).toNat)
  case atStart => exact ⟨0, Nat.zero_le _, rfl, owns_nil _ _ _ _, Ch.refl _ _⟩
  case round =>
    obtain ⟨k, hk, rfl, HO, HC⟩ := hrel
    by_cases hlt : k < n
    · have e1 := lt_t hlt
      have HW := Lib.hid (HS.out.keepNo HC.out)
      obtain ⟨Ad, cd, hvd⟩ := own_slice_len ((HW.out.sep k).own 0 _ _ rfl rfl).1
      obtain ⟨Aq, cq, hvq, hcl⟩ := (HW.out.q k).cl
      have x3 := HW.out.cells hlt 3 (by decide)
      have x0 := HW.out.cells hlt 0 (by decide)
      simp only [scell, List.getElem?_cons_succ, List.getElem?_cons_zero, Nat.add_zero] at x3 x0
      rw [hvq] at x0
      have HCL := Lib.hid hcl
      generalize hms : (c k).ms = ms at *
      rw [hvd] at x3
      have hvd2 := hvd
      obtain ⟨nd, hnd⟩ : ∃ nd, (ints (ss k).data).length = nd := ⟨_, rfl⟩
      rw [hnd] at x3 hvd2
      have HVD := Lib.hid hvd2
      have HML : Hid (ms.length ≤ 10000000) := by have := HM.out k hlt; rw [hms] at this; exact this
      have HL1 : Hid ((allV c k).length ≤ k * 10000001) := HLEN.out k hk
      have HW1 : Hid (w.heap.size ≤ wr.heap.size) := HC.out.size
      have HBZ : Hid (0 < 24) := by show _ < _; omega
      have HOne : Hid (∀ u ∈ ([.slice Ad nd cd] : List Value), u.oneCell' = true) := by
        intro u hu
        simp at hu
        subst hu
        rfl
      have HOm : Hid (∀ u ∈ ms, u.oneCell' = true) := by
        intro u hu
        obtain ⟨a, ha⟩ := List.mem_iff_getElem?.1 hu
        have hsep := HW.out.sep k
        rw [hms] at hsep
        obtain ⟨xs, hx⟩ : ∃ xs, ((ss k).data :: (ss k).q)[a + 1]? = some xs := ⟨_, List.getElem?_eq_getElem (by rw [← hsep.len]; have := (List.getElem?_eq_some_iff.1 ha).1; simp; omega)⟩
        obtain ⟨A, c', rfl⟩ := own_slice_len (hsep.own (a + 1) u xs (by simpa using ha) hx).1
        rfl
      have HB1 : Hid (((allV c k).length + 1) * 24 ≤ 140737488355328) := by
        have := HL1.out
        show _ ≤ _
        omega
      have HVQ := Lib.hid hvq
      have HMS := Lib.hid hms
      clear hcl hvd hvq hvd2 hnd hms
      have HA1 : Hid (Ch No wr (wr.alloc (.cells #[.slice Ad nd cd] 32))) := (Ch.refl _ _).alloc _
      have HA2 : Hid (w.heap.size ≤ (wr.alloc (.cells #[.slice Ad nd cd] 32)).heap.size) := Nat.le_trans HW1.out HA1.out.size
      have HA3 : Hid ((wr.alloc (.cells #[.slice Ad nd cd] 32)).ownsRow w.heap.size 32 1 u3 (allV c k).length (allV c k)) := owns_keepNo HO.out HA1.out
      have HA4 : Hid (Cl (wr.alloc (.cells #[.slice Ad nd cd] 32)) (some ⟨wr.heap.size, 0, none⟩) [.slice Ad nd cd]) := (Row.new wr 32 [.slice Ad nd cd]).cl0
      have HCS := Lib.hid (allV_succ c k)
      go_upto_region 6 with (at_builtin; refine wpList_append_to rfl (.tmp 19) (.tmp 26) 31 rfl w.heap.size 32 (.slice none 0 0) 24 Try.underlying31 info31b rfl u3 (allV c k) rfl (some ⟨wr.heap.size, 0, none⟩) 1 1 [.slice Ad nd cd] rfl HA3.out rfl HA4.out HOne.out HB1.out HBZ.out HA2.out ?_; intro v5 w5 ho5 hg5 hat5; have HO5 := Lib.hid ho5; have HG5 := Lib.hid hg5; clear ho5 hg5 hat5)
      have HC5 : Hid (Ch No w w5) := grown_no (Nat.le_refl _) HA3.out HG5.out (HC.out.then_ HA1.out)
      have HX5 := HS.out.keepNo HC5.out
      have x0 := HX5.cells hlt 0 (by decide)
      simp only [scell, List.getElem?_cons_succ, List.getElem?_cons_zero, Nat.add_zero] at x0
      rw [HVQ.out] at x0
      have hq5 := HX5.q k
      rw [HVQ.out, HMS.out] at hq5
      have HCL5 := Lib.hid hq5.cl2.2
      have HML5 : Hid (ms.length = ms.length) := rfl
      have HB5 : Hid (((allV c k ++ [Value.slice Ad nd cd]).length + ms.length) * 24 ≤ 140737488355328) := by
        have := HL1.out
        have := HML.out
        show _ ≤ _
        simp only [List.length_append, List.length_cons, List.length_nil]
        omega
      have HBS5 : Hid (w.heap.size ≤ w5.heap.size) := HC5.out.size
      clear hq5 HX5 x3
      obtain ⟨ml, hml⟩ : ∃ ml, ms.length = ml := ⟨_, rfl⟩
      obtain ⟨L5, hL5⟩ : ∃ L5, L5 = allV c k ++ [Value.slice Ad nd cd] := ⟨_, rfl⟩
      rw [hml] at x0 HB5
      rw [← hL5] at HO5 HB5
      have HMLE := Lib.hid hml
      have HL5E := Lib.hid hL5
      clear hml hL5 HML5
      go_upto_region 4 with (at_builtin; refine wpList_append_to rfl (.tmp 28) (.tmp 33) 31 rfl w.heap.size 32 (.slice none 0 0) 24 Try.underlying31 info31b rfl v5 L5 rfl Aq ml cq ms rfl HO5.out HMLE.out HCL5.out HOm.out HB5.out HBZ.out HBS5.out ?_; intro v6 w6 ho6 hg6 hat6; have HO6 := Lib.hid ho6; have HG6 := Lib.hid hg6; clear ho6 hg6 hat6)
      have HC6 : Hid (Ch No w w6) := grown_no (Nat.le_refl _) HO5.out HG6.out HC5.out
      have HO7 : Hid (w6.ownsRow w.heap.size 32 1 v6 (allV c (k + 1)).length (allV c (k + 1))) := by
        have := HO6.out
        rw [HL5E.out, List.append_assoc, List.singleton_append] at this
        rw [HCS.out, HVD.out, HMS.out]
        exact this
      clear HO6 HG6 HO5 HC5 HB5 HCL5 x0
      go_wp2_with (fail)
      exact ⟨⟨k + 1, by omega, by go_num, HO7, HC6⟩, by simp [intOf]; omega⟩
    · have e1 := lt_f hlt
      obtain rfl : k = n := by omega
      have HSEP := Lib.hid ((HS.out.keepNo HC.out).all k)
      have HLL := HLEN.out k (Nat.le_refl _)
      obtain ⟨A, cA, rfl⟩ := own_slice_len HO.out
      generalize allV c k = L at *
      generalize hm : L.length = m at *
      have HM := Lib.hid hm
      clear hm
      obtain ⟨len, hlen⟩ : ∃ len : Nat → Nat, len = fun j => ((allX ss k)[j]?.getD []).length := ⟨_, rfl⟩
      have HW0 : Hid (Wn wr w0.heap.size L len 0 0) := by
        rw [hlen]
        exact Wn.start HSEP.out
      have HC0 : Hid (Ch (Mid w0.heap.size w1.heap.size) w wr) := HC.out.mono (fun _ _ h => (not_no _ h).elim)
      have HBB : Hid (m ≤ 10000001000) := by show _ ≤ _; omega
      clear hlen HLEN HS HC hlt HSEP HLL hk e1
      clear hn
      go_wp2_with (fail)
      go_loopw [6, 7] (fun i q wx => ∃ j : Nat, j ≤ m ∧ i = .int .i64 j ∧ Hid (wx.ownsRow w.heap.size 32 1 (Value.slice A m cA) m L) ∧ Hid (Wn wx w0.heap.size L len j 0) ∧ Hid (Ch (Mid w0.heap.size w1.heap.size) w wx)) (fun i _ _ => m - (intOf i).toNat)
      case atStart => exact ⟨0, Nat.zero_le _, rfl, HO, HW0, HC0⟩
      case round =>
        clear HO HW0 HC0
        obtain ⟨j, hj, rfl, HO, HWN, HC⟩ := hrel
        by_cases hlt : j < m
        · have e1 := lt_t hlt
          obtain ⟨Aj, cj, hLj, hlen, -⟩ := HWN.out.at_ (j := j) (by have := HM.out; omega)
          obtain ⟨lj, hlj⟩ : ∃ l, len j = l := ⟨_, rfl⟩
          rw [hlj] at hLj hlen
          obtain ⟨gA, rfl, -, r0⟩ := own_cell1 HO.out hLj
          have HLJ := Lib.hid hLj
          have HLE := Lib.hid hlj
          clear hLj hlj
          go_wp2_with (fail)
          clear r0
          go_loopw [7] (fun q wy => ∃ p : Nat, p ≤ lj ∧ q = .int .i64 p ∧ Hid (wy.ownsRow w.heap.size 32 1 (Value.slice (some ⟨gA, 0, none⟩) m cA) m L) ∧ Hid (Wn wy w0.heap.size L len j p) ∧ Hid (Ch (Mid w0.heap.size w1.heap.size) w wy)) (fun q _ => lj - (intOf q).toNat)
          case atStart => exact ⟨0, Nat.zero_le _, rfl, HO, HWN, HC⟩
          case round =>
            clear HO HWN HC
            obtain ⟨p, hp, rfl, HO, HWN, HC⟩ := hrel
            obtain ⟨-, r0⟩ := own_cell1g HO.out HLJ.out
            by_cases hlp : p < lj
            · have e2 := lt_t hlp
              obtain ⟨g, y, rfl, hbg, r1, r2, -⟩ := HWN.out.at2 HLJ.out hlp
              obtain ⟨hwn2, hc2⟩ := HWN.out.set (by rw [HLE.out]; exact HLJ.out) (by rw [HLE.out]; exact hlp)
              have hgl := HLOW.out j g _ HLJ.out rfl
              have HWN2 := Lib.hid hwn2
              have HO2 := Lib.hid (own_len HO.out hc2 hgl HB.out)
              have HC2 : Hid (Ch (Mid w0.heap.size w1.heap.size) w (wr.setCell ⟨g, p, none⟩ (.int .i64 (-1000 - (j : Int))))) := HC.out.trans hc2 (fun i _ h => by cases h; exact ⟨hbg, hgl⟩)
              have hjm : (j : Int) ≤ 10000001000 := by have := HBB.out; omega
              clear hwn2 hc2 hgl hbg
              go_upto_region 13 with (fail)
              generalize wr.setCell ⟨g, p, none⟩ (.int .i64 (-1000 - (j : Int))) = w2 at *
              clear r0 r1 r2
              go_wp2_with (fail)
              exact ⟨⟨p + 1, by omega, by go_num, HO2, HWN2, HC2⟩, by simp [intOf]; omega⟩
            · have e2 := lt_f hlp
              obtain rfl : p = lj := by omega
              have HWN2 := Lib.hid (HWN.out.next (by rw [HLE.out]; exact Nat.le_refl _))
              have hjm := HBB.out
              go_wp2_with (fail)
              exact ⟨⟨j + 1, by omega, by go_num, HO, HWN2, HC⟩, by simp [intOf]; omega⟩
        · have e1 := lt_f hlt
          obtain rfl : j = m := by omega
          clear hlt hj
          go_wp2_with (fail)
          go_loopw [5, 8, 9, 10] (fun tot i _ _ wx => ∃ q t : Nat, q ≤ j ∧ i = .int .i64 q ∧ tot = .int .i64 t ∧ 70 * q ≤ t ∧ t ≤ 10000070 * q ∧ Hid (wx.ownsRow w.heap.size 32 1 (Value.slice A j cA) j L) ∧ Hid (Wn wx w0.heap.size L len j 0) ∧ Hid (Ch (Mid w0.heap.size w1.heap.size) w wx)) (fun _ i _ _ _ => j - (intOf i).toNat)
          case atStart => exact ⟨0, 0, Nat.zero_le _, rfl, rfl, by omega, by omega, HO, HWN, HC⟩
          case round =>
            revert wr
            intro wo hrel
            obtain ⟨q, t, hq, rfl, rfl, ht1, ht2, HO, HWN, HC⟩ := hrel
            by_cases hlt : q < j
            · have e1 := lt_t hlt
              obtain ⟨Aq, cq, hLq, hlen, -⟩ := HWN.out.at_ (j := q) (by have := HM.out; omega)
              obtain ⟨lq, hlq⟩ : ∃ l, len q = l := ⟨_, rfl⟩
              rw [hlq] at hLq hlen
              obtain ⟨gA, rfl, hgA, r0⟩ := own_cell1 HO.out hLq
              obtain ⟨xss, hsep, hx2, hx3⟩ := HWN.out
              obtain ⟨xs, hxs⟩ : ∃ xs, xss[q]? = some xs := ⟨_, List.getElem?_eq_getElem (by rw [← hsep.len]; exact (List.getElem?_eq_some_iff.1 hLq).1)⟩
              have hxl := hx2 q xs hxs
              rw [hlq] at hxl
              have hlg := Lg.start hsep hLq hxs
              rw [hxl] at hlg
              have HLG : Hid (Lg wo wo w0.heap.size L xss q (.slice Aq lq cq) (lq + 0)) := hlg
              have HX2 := Lib.hid hx2
              have HX3 := Lib.hid hx3
              have HLQ := Lib.hid hLq
              have HGA := Lib.hid hgA
              have HLOWO : Hid (∀ (j k : Nat) u, L[j]? = some u → u.ownBlock = some k → k < wo.heap.size) := fun j k u h1 h2 => Nat.lt_of_lt_of_le (Nat.lt_of_lt_of_le (HLOW.out j k u h1 h2) HB.out) HC.out.size
              have HD0 : Hid (∀ D : Nat → Prop, (∀ k, (∃ u, L[q]? = some u ∧ u.ownBlock = some k) → D k) → Ch D wo wo) := fun D _ => Ch.refl _ _
              have HBL : Hid (w0.heap.size ≤ wo.heap.size) := Nat.le_trans HBL0.out HC.out.size
              clear hlg hx2 hx3 hxl hxs hsep hlq hLq hgA
              go_wp2_with (fail)
              clear r0
              go_loopw [9, 10] (fun v kk wy => ∃ p : Nat, p ≤ 70 ∧ kk = .int .i64 p ∧ Hid (Lg wo wy w0.heap.size L xss q v (lq + p)) ∧ Hid (∀ D : Nat → Prop, (∀ k, (∃ u, L[q]? = some u ∧ u.ownBlock = some k) → D k) → Ch D wo wy)) (fun _ kk _ => 70 - (intOf kk).toNat)
              case atStart => exact ⟨0, Nat.zero_le _, rfl, HLG, HD0⟩
              case round =>
                clear HLG HD0
                obtain ⟨p, hp, rfl, HLG, HD⟩ := hrel
                by_cases hlp : p < 70
                · have e2 : decide ((p : Int) < 70) = true := by simp; omega
                  obtain ⟨ys, hys⟩ := HLG.out.own
                  have HA : Hid (Ch No wr (wr.alloc (.cells #[.int .i64 (5000 + (q : Int))] 2))) := (Ch.refl _ _).alloc _
                  have HLGA := Lib.hid (HLG.out.keepNo HA.out)
                  have HYS := Lib.hid (owns_keepNo hys HA.out)
                  have HAC : Hid (Cl (wr.alloc (.cells #[.int .i64 (5000 + (q : Int))] 2)) (some ⟨wr.heap.size, 0, none⟩) [.int .i64 (5000 + (q : Int))]) := (Row.new wr 2 [.int .i64 (5000 + (q : Int))]).cl0
                  have HAO : Hid (∀ u ∈ ([.int .i64 (5000 + (q : Int))] : List Value), u.oneCell' = true) := by
                    intro u hu
                    simp at hu
                    subst hu
                    rfl
                  have HA1 : Hid (lq + p + 1 ≤ 140737488355328) := by show _ ≤ _; omega
                  have HA2 : Hid ((lq + p + 1) * 8 ≤ 140737488355328) := by show _ ≤ _; omega
                  have HA3 : Hid (w0.heap.size ≤ (wr.alloc (.cells #[.int .i64 (5000 + (q : Int))] 2)).heap.size) := Nat.le_trans (Nat.le_trans HBL.out HLG.out.ch) HA.out.size
                  have HDA : Hid (∀ D : Nat → Prop, (∀ k, (∃ u, L[q]? = some u ∧ u.ownBlock = some k) → D k) → Ch D wo (wr.alloc (.cells #[.int .i64 (5000 + (q : Int))] 2))) := fun D hD => (HD.out D hD).trans HA.out (fun _ _ h => (not_no _ h).elim)
                  have hqm : (q : Int) ≤ 10000001000 := by have := HBB.out; omega
                  clear hys
                  go_upto_region 21 with (at_builtin; refine wpList_append_keep rfl (.tmp 72) (.tmp 75) 32 rfl w0.heap.size 2 (.int .i64 0) 8 Try.underlying32 info2 rfl u9 (lq + p) ys rfl ⟨wr.heap.size, 0, none⟩ [.int .i64 (5000 + (q : Int))] 1 rfl HYS.out HAC.out HAO.out HA1.out HA2.out HA3.out ?_; intro v9 w9 ho9 hg9 hat9 hrow9; have HO9 := Lib.hid ho9; have HG9 := Lib.hid hg9; have HAT9 := Lib.hid hat9; have HROW9 := Lib.hid hrow9; clear ho9 hg9 hat9 hrow9)
                  obtain ⟨hlg9, hd9⟩ := HLGA.out.snoc HLOWO.out HO9.out HG9.out HAT9.out HROW9.out
                  have HLG9 := Lib.hid hlg9
                  have HD9 : Hid (∀ D : Nat → Prop, (∀ k, (∃ u, L[q]? = some u ∧ u.ownBlock = some k) → D k) → Ch D wo w9) := fun D hD => hd9 D hD wo (HDA.out D hD) (Nat.le_refl _)
                  clear hlg9 hd9
                  go_wp2_with (fail)
                  exact ⟨⟨p + 1, by omega, by go_num, HLG9, HD9⟩, by simp [intOf]; omega⟩
                · have e2 : decide ((p : Int) < 70) = false := by simp; omega
                  obtain rfl : p = 70 := by omega
                  obtain ⟨ys, hys⟩ := HLG.out.own
                  obtain ⟨A9, c9, rfl⟩ := own_slice_len hys
                  have HWN9 : Hid (Wn wr w0.heap.size L len j 0) := ⟨xss, HLG.out.sep, HX2.out, HX3.out⟩
                  have HC9 : Hid (Ch (Mid w0.heap.size w1.heap.size) w wr) := HC.out.trans (HD.out (Mid w0.heap.size w1.heap.size) (fun k hk => by
                    obtain ⟨u, hu1, hu2⟩ := hk
                    refine ⟨?_, HLOW.out q k u hu1 hu2⟩
                    obtain ⟨xs, hx⟩ : ∃ xs, xss[q]? = some xs := ⟨_, List.getElem?_eq_getElem (by rw [← HLG.out.sep.len]; exact (List.getElem?_eq_some_iff.1 hu1).1)⟩
                    exact own_base_ (HLG.out.sep.own q u xs hu1 hx).1 k hu2)) (fun _ _ h => h)
                  have HO9 : Hid (wr.ownsRow w.heap.size 32 1 (Value.slice (some ⟨gA, 0, none⟩) j cA) j L) := owns_keep HO.out (HD.out (fun k => ¬ k = gA) (fun k hk => by
                    obtain ⟨u, hu1, hu2⟩ := hk
                    have := HLOW.out q k u hu1 hu2
                    have := HB.out
                    have := HGA.out
                    omega)) (fun k hk h => h (by simp [Value.ownBlock] at hk; exact hk.symm))
                  have hqm := HBB.out
                  clear hys
                  go_wp2_with (fail)
                  exact ⟨⟨q + 1, t + (lq + 70), by omega, by go_num, by go_num, by omega, by omega, HO9, HWN9, HC9⟩, by simp [intOf]; omega⟩
            · have e1 := lt_f hlt
              obtain rfl : q = j := by omega
              have HT : Hid ((70 * q : Nat) ≤ t ∧ t ≤ 10000070 * q) := ⟨ht1, ht2⟩
              clear hlt hq ht1 ht2
              revert wo
              intro wr HC HO HWN
              go_wp2_with (fail)
              go_loopw [11, 12] (fun i _ wx => ∃ a : Nat, a ≤ q ∧ i = .int .i64 a ∧ Hid (wx.ownsRow w.heap.size 32 1 (Value.slice A q cA) q L) ∧ Hid (Wn wx w0.heap.size L len q 0) ∧ Hid (Ch (Mid w0.heap.size w1.heap.size) w wx)) (fun i _ _ => q - (intOf i).toNat)
              case atStart => exact ⟨0, Nat.zero_le _, rfl, HO, HWN, HC⟩
              case round =>
                clear HO HWN HC
                revert wr
                intro wo hrel
                obtain ⟨a, ha, rfl, HO, HWN, HC⟩ := hrel
                by_cases hla : a < q
                · have e1 := lt_t hla
                  obtain ⟨Aj, cj, hLj, hlen, -⟩ := HWN.out.at_ (j := a) (by have := HM.out; omega)
                  obtain ⟨lj, hlj⟩ : ∃ l, len a = l := ⟨_, rfl⟩
                  rw [hlj] at hLj hlen
                  obtain ⟨gA, rfl, -, r0⟩ := own_cell1 HO.out hLj
                  have HLJ := Lib.hid hLj
                  clear hLj hlj
                  go_wp2_with (fail)
                  clear r0
                  go_loopw [12] (fun b wy => ∃ p : Nat, p ≤ lj ∧ b = .int .i64 p ∧ Hid (wy.ownsRow w.heap.size 32 1 (Value.slice (some ⟨gA, 0, none⟩) q cA) q L) ∧ Hid (Wn wy w0.heap.size L len q 0) ∧ Hid (Ch (Mid w0.heap.size w1.heap.size) w wy)) (fun b _ => lj - (intOf b).toNat)
                  case atStart => exact ⟨0, Nat.zero_le _, rfl, HO, HWN, HC⟩
                  case round =>
                    clear HO HWN HC
                    obtain ⟨p, hp, rfl, HO, HWN, HC⟩ := hrel
                    obtain ⟨-, r0⟩ := own_cell1g HO.out HLJ.out
                    by_cases hlp : p < lj
                    · have e2 := lt_t hlp
                      obtain ⟨g, y, rfl, hbg, r1, r2, hy⟩ := HWN.out.at2 HLJ.out hlp
                      have hy2 := hy (.inl hla)
                      subst hy2
                      have hjm : (a : Int) ≤ 10000001000 := by have := HBB.out; omega
                      have e3 : ((-1000 - (a : Int)) != (-1000 - (a : Int))) = false := by simp
                      clear hbg r2 hy
                      go_wp2_with (fail)
                      exact ⟨⟨p + 1, by omega, by go_num, HO, HWN, HC⟩, by simp [intOf]; omega⟩
                    · have e2 := lt_f hlp
                      obtain rfl : p = lj := by omega
                      have hjm := HBB.out
                      go_wp2_with (fail)
                      exact ⟨⟨a + 1, by omega, by go_num, HO, HWN, HC⟩, by simp [intOf]; omega⟩
                · have e1 := lt_f hla
                  obtain rfl : a = q := by omega
                  obtain ⟨ht1, ht2⟩ := HT.out
                  have hjm := HBB.out
                  have e4 : decide ((70 * (a : Int)) ≤ (t : Int)) = true := by simp; omega
                  have hwm : wrap64 (70 * (a : Int)) = 70 * (a : Int) := by unfold wrap64; omega
                  go_wp2
                  go_ret
                  exact ⟨by simp [hwm, e4], HC.out⟩
end Go.Proofs.Ytlokpcbiomjcnaa
