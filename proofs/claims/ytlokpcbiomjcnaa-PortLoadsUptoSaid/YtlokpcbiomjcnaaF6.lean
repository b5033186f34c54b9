/- State, walked. -/
import Derived.Test.YtlokpcbiomjcnaaF5
set_option linter.unusedVariables false
set_option linter.unusedSimpArgs false
namespace Go.Proofs.Ytlokpcbiomjcnaa
open Go.RowKit
/-- a port as it stands: its end's block, its queue, its sample's words, its messages -/
structure PnS where
  E : Nat
  vq : Value
  vd : Value
  ms : List Value
  s : Ps
/-- the ports of a partition, as they stand: what reading them asks -/
structure Pn (w : World) (G M : Nat) (f : Int → Option Nat) (part : Int) (ps : List Pt) (st : Nat → PnS) : Prop where
  hG : Row w G 92 [.map (some M), .int .i64 ps.length]
  hM : PM w M ps.length f
  ends : ∀ (j : Nat) p, ps[j]? = some p → p.part = part → f (j + 1) = some (st j).E ∧ Row w (st j).E 95 (ecells p (st j).vq (st j).s.has (st j).s.tick (st j).vd (st j).s.lost) ∧ Qv w (st j).vq (st j).ms ∧ (st j).ms.length = (st j).s.q.length ∧
    (∀ (i : Nat) m xs, (st j).ms[i]? = some m → (st j).s.q[i]? = some xs → Sl w m xs ∧ xs.length ≤ 10000000) ∧ Sl w (st j).vd (st j).s.data ∧ (st j).s.data.length ≤ 10000000 ∧ (st j).s.q.length ≤ 10000000
  none_ : ∀ i : Int, (∀ (j : Nat) p, ps[j]? = some p → p.part = part → i ≠ j + 1) → f i = none
theorem Pn.keepNo {w w' : World} {G M : Nat} {f : Int → Option Nat} {part : Int} {ps : List Pt} {st : Nat → PnS} (h : Pn w G M f part ps st) (hc : Ch No w w') : Pn w' G M f part ps st := by
  refine ⟨h.hG.keepNo hc, h.hM.keepNo hc, fun j p hp he => ?_, h.none_⟩
  obtain ⟨h1, h2, h3, h4, h5, h6, h7⟩ := h.ends j p hp he
  exact ⟨h1, h2.keepNo hc, h3.keepNo hc, h4, fun i m xs hm hx => ⟨(h5 i m xs hm hx).1.keepNo hc, (h5 i m xs hm hx).2⟩, h6.keepNo hc, h7⟩
/-- nothing of what is told lies in what turns -/
theorem SO.keepR {w0 w w' : World} {gO n r : Nat} {c : Nat → Rp} {ss : Nat → Ps} (h : SO w0 w gO n c ss) (hc : Ch (Is r) w w') (hd : ∀ k t L, Row w k t L → ¬ Is r k) (hr : w0.heap.size ≤ r) : SO w0 w' gO n c ss where
  row := h.row.keep hc (hd _ _ _ h.row)
  q := fun j => (h.q j).keep hc (fun k hk => by
    obtain ⟨L, hL⟩ := (h.q j).row hk
    exact hd _ _ _ hL)
  qb := h.qb
  sep := fun j => (h.sep j).keep hc (fun g L hg => hd _ _ _ hg)
  dq := h.dq
  ds := h.ds
  ch := ch_newg h.ch hc hr
  b := h.b
/-- what State tells of a place -/
def sv (part : Int) (ps : List Pt) (st : Nat → PnS) (j : Nat) : Ps := match ps[j]? with
  | some p => if p.part = part then (st j).s else ps0
  | none => ps0
theorem Qv.cl {w : World} {v : Value} {ms : List Value} (h : Qv w v ms) : ∃ A c, v = .slice A ms.length c ∧ Cl w A ms := by
  obtain ⟨A, c, rfl, h1, h2, h3⟩ := h
  refine ⟨A, c, rfl, fun j m hj => ?_⟩
  rcases h3 with h0 | ⟨g, off, L, rfl, hr, hf, hm⟩
  · have := (List.getElem?_eq_some_iff.1 hj).1
    omega
  · refine ⟨_, rfl, ?_⟩
    rw [add_lit, hr.cell]
    exact hm j m hj
theorem info36 : (Try.prog.info? 36).map (fun i => (i.zero, i.size, i.bytes)) = some (some (.agg #[.slice none 0 0, .bool false, .int .i64 0, .slice none 0 0, .int .i64 0]), 5, 72) := by kernel_rfl
theorem make_36 (n : Nat) (hn : n ≤ 1000) (W : World) : (Instr.makeSlice 23 (.int .i64 (n : Int)) (.int .i64 (n : Int))).run Try.prog W = .ok (.slice (some ⟨W.heap.size, 0, none⟩) n n) (W.alloc (.cells ((List.range n).flatMap fun _ => scell rp0 ps0).toArray 36)) := by
  obtain ⟨i0, hi, hzz⟩ := Option.map_eq_some_iff.1 info36
  simp only [Prod.mk.injEq] at hzz
  obtain ⟨hz0, hz1, hz2⟩ := hzz
  have h := run_make (P := Try.prog) W 23 36 i0 _ Try.underlying23 hi hz0 .i64 .i64 (n : Int) (n : Int) (by omega) (Int.le_refl _) (by rw [hz2]; omega) (by omega)
  rw [h, hz1]
  have e := made_flat (scell rp0 ps0) rfl n
  have e2 : madeCells (Value.agg #[.slice none 0 0, .bool false, .int .i64 0, .slice none 0 0, .int .i64 0]).cells ((n : Int).toNat * 5) = ((List.range n).flatMap fun _ => scell rp0 ps0).toArray := by
    apply Array.toList_inj.1
    rw [← e]
    rfl
  rw [e2]
  simp
set_option maxHeartbeats 4000000 in
set_option maxRecDepth 100000 in
theorem state_calls {w : World} {G M : Nat} {f : Int → Option Nat} {part : Int} {ps : List Pt} {st : Nat → PnS} (h : Pn w G M f part ps st) (hl : ps.length ≤ 1000) :
    Calls Try.prog 25 #[.pointer (some ⟨G, 0, none⟩)] w fun e w' => ∃ gO c ss, e = .returned (.slice (some ⟨gO, 0, none⟩) ps.length ps.length) ∧ SO w w' gO ps.length c ss ∧ ∀ j, j < ps.length → ss j = sv part ps st j := by
  have HH := Lib.hid h
  obtain ⟨n, hn⟩ : ∃ n, ps.length = n := ⟨_, rfl⟩
  have HN := Lib.hid hn
  have c0 : w.cell? ⟨G, 0, none⟩ = some (.map (some M)) := by rw [h.hG.cell]; rfl
  have c1 : w.cell? ⟨G, 1, none⟩ = some (.int .i64 n) := by rw [h.hG.cell, hn]; rfl
  have hG := h.hG.lt
  have hmk := make_36 n (by omega)
  rw [hn] at hl ⊢
  clear h hn
  go_enter Try.func25, Try.ntmps25
  go_upto_region 2 with (fail)
  have HW1 : Hid (Row (w.alloc (.cells ((List.range n).flatMap fun _ => scell rp0 ps0).toArray 36)) w.heap.size 36 ((List.range n).flatMap fun _ => scell rp0 ps0)) := Row.new w 36 _
  have HC1 : Hid (Ch No w (w.alloc (.cells ((List.range n).flatMap fun _ => scell rp0 ps0).toArray 36))) := (Ch.refl _ _).alloc _
  generalize w.alloc (.cells ((List.range n).flatMap fun _ => scell rp0 ps0).toArray 36) = w1 at *
  obtain ⟨gO, hgO⟩ : ∃ g, g = w.heap.size := ⟨_, rfl⟩
  rw [← hgO] at HW1 ⊢
  have HGO := Lib.hid hgO
  clear hgO c0 c1 hmk hG
  have c0 : w1.cell? ⟨G, 0, none⟩ = some (.map (some M)) := by rw [(HH.out.keepNo HC1.out).hG.cell]; rfl
  have HPM := Lib.hid (HH.out.keepNo HC1.out).hM
  go_wp2_with (first | (at_range; refine pl_range rfl _ rfl rfl HPM.out ?_; intro w2 cnt2 hpr2 hc2))
  have HSO2 : Hid (SO w w2 gO n (fun _ => rp0) (fun _ => ps0)) := (SO.start HW1.out HC1.out (by rw [HGO.out]; exact Nat.le_refl _)).keepNo hc2
  obtain ⟨r, hr⟩ : ∃ r, r = w1.heap.size := ⟨_, rfl⟩
  rw [← hr] at hpr2 ⊢
  have HRN : Hid (w.heap.size ≤ r) := by
    have := HC1.out.size
    show _ ≤ _
    omega
  rw [HN.out] at hpr2
  have HPR2 := Lib.hid hpr2
  have HSV : Hid (∀ j, j < n → ps0 = if (f ((j : Int) + 1)).isSome = true then ps0 else sv part ps st j) := by
    intro j hj
    cases hp : ps[j]? with
    | none =>
      rw [List.getElem?_eq_none_iff] at hp
      have := HN.out
      omega
    | some p =>
      by_cases he : p.part = part
      · rw [(HH.out.ends j p hp he).1]
        rfl
      · have h0 : f ((j : Int) + 1) = none := HH.out.none_ _ (fun j' p' h1 h2 h3 => by
          obtain rfl : j = j' := by omega
          rw [hp] at h1
          cases h1
          exact he h2)
        rw [h0]
        simp [sv, hp, he]
  clear hpr2 hc2 c0 hr HPM HW1 HC1
  go_frame
  go_loopw [4] (fun _ wr => ∃ (left : Int → Bool) (cnt : Nat) (c : Nat → Rp) (ss : Nat → Ps), Hid (PR wr M r n f left cnt) ∧ Hid (SO w wr gO n c ss) ∧ Hid (∀ j, j < n → ss j = if left ((j : Int) + 1) = true then ps0 else sv part ps st j)) (fun _ wr => wr.rangeLeft M r)
  case atStart => exact ⟨_, _, _, _, HPR2, HSO2, HSV⟩
  case round =>
    clear HPR2 HSO2 HSV
    obtain ⟨left, cnt, c, ss, HPR, HSO, HSS⟩ := hrel
    go_wp2_with (first | (at_next; refine pl_next rfl _ rfl rfl HPR.out ?_ ?_))
    · intro hdone
      go_wp2_with (fail)
      refine bodyPost_ret (v := .slice (some ⟨gO, 0, none⟩) n n) (by kernel_rfl) rfl ⟨gO, c, ss, rfl, HSO.out, fun j hj => ?_⟩
      have h := HSS.out j hj
      rw [hdone] at h
      simpa using h
    · intro x E w3 cnt3 hwx hfx hlx hpr3 hlt3 hc3 hen
      obtain ⟨j, p, hp, he, rfl⟩ : ∃ (j : Nat) (p : Pt), ps[j]? = some p ∧ p.part = part ∧ x = j + 1 := by
        apply Classical.byContradiction
        intro hno
        have h0 := HH.out.none_ x (fun j p h1 h2 h3 => hno ⟨j, p, h1, h2, h3⟩)
        rw [hfx] at h0
        cases h0
      have hjn : j < n := by
        have := (List.getElem?_eq_some_iff.1 hp).1
        have := HN.out
        omega
      have HC3 : Hid (Ch No w w3) := ch_newg HSO.out.ch hc3 HRN.out
      have HSO3 : Hid (SO w w3 gO n c ss) := HSO.out.keepR hc3 (fun k t L hk hd => by
        have e : k = r := hd
        exact pr_row HPR.out hk e) HRN.out
      have HPR3 := Lib.hid hpr3
      have hlt4 : w3.rangeLeft M r < wr.rangeLeft M r := by rw [hpr3.left_eq, HPR.out.left_eq]; exact hlt3
      have HLT := Lib.hid hlt4
      obtain ⟨hfE, hE, hqv, hml, hms, hsl, hdl, hql⟩ := (HH.out.keepNo HC3.out).ends j p hp he
      have hsv : sv part ps st j = (st j).s := by simp [sv, hp, he]
      obtain ⟨S, hS⟩ : ∃ S, S = st j := ⟨_, rfl⟩
      rw [← hS] at hfE hE hqv hml hms hsl hdl hql hsv
      obtain ⟨E', vq, vd, ms, ⟨q, has, tick, data, lost⟩⟩ := S
      simp only [] at hfE hE hqv hml hms hsl hdl hql hsv
      rw [hfx] at hfE
      cases hfE
      obtain ⟨Aq, cq, rfl, hclq⟩ := hqv.cl
      obtain ⟨Ad, cd, rfl, hcld, -⟩ := hsl
      have HCP := Lib.hid (copied_calls (w := w3) (Aq := Aq) (Ad := Ad) (ql := ms.length) (cq := cq) (dl := data.length) (cd := cd) (has := has) (tick := tick) (lost := lost) hml.symm rfl hml hclq hms hcld (by omega) hdl)
      have HMID : Hid (w3.rangeAt E 6 [.slice Aq ms.length cq, .bool has, .int .i64 tick, .slice Ad data.length cd, .int .i64 lost]) := row_range hE 6 _ (fun i v hi => by
        match i, hi with
        | 0, hi => simpa [ecells] using hi
        | 1, hi => simpa [ecells] using hi
        | 2, hi => simpa [ecells] using hi
        | 3, hi => simpa [ecells] using hi
        | 4, hi => simpa [ecells] using hi)
      have HSVJ := Lib.hid hsv
      have HMLQ := Lib.hid hml
      obtain ⟨ql, hqll⟩ : ∃ l, ms.length = l := ⟨_, rfl⟩
      obtain ⟨dl, hdll⟩ : ∃ l, data.length = l := ⟨_, rfl⟩
      rw [hqll, hdll] at HCP HMID
      have hj5 : j * 5 ≤ 5000 := by omega
      have hw1 : wrap64 ((j : Int) + 1 - 1) = (j : Int) := by unfold wrap64; omega
      clear hpr3 hlt3 hc3 hS hE hqv hml hms hdl hql hsv hclq hcld hqll hdll hp he hfx hlt4
      go_wp2_with (first | ((with_reducible refine at_op (o := ⟨some 27, _, _, _, _, _⟩) ?_); refine wpList_load_mid (op := ⟨some 27, _, _, _, _, _⟩) rfl 36 _ rfl E 6 rfl [.slice Aq ql cq, .bool has, .int .i64 tick, .slice Ad dl cd, .int .i64 lost] _ HMID.out Try.underlying36 rfl size36 ?_))
      refine HCP.out.mono ?_
      rintro e w4 ⟨vq', vd', ms', rfl, hcpy⟩
      obtain ⟨A8, k8, q8, rfl⟩ := qv_slice hcpy.q
      obtain ⟨A9, k9, q9, rfl⟩ : ∃ A k c, vd' = .slice A k c := own_slice (hcpy.sep.own 0 _ _ rfl rfl).1
      have HCPY := Lib.hid hcpy
      have HSO4 := Lib.hid (HSO3.out.keepNo hcpy.ch)
      have HPR4 := Lib.hid (HPR3.out.keepNo hcpy.ch)
      have HFT : Hid (j * 5 + [Value.slice A8 k8 q8, .bool has, .int .i64 tick, .slice A9 k9 q9, .int .i64 lost].length ≤ ((List.range n).flatMap fun i => scell (c i) (ss i)).length) := by
        rw [flat_len _ n (fun a => scell_len _ _)]
        show j * 5 + 5 ≤ n * 5
        omega
      have H1C : Hid (∀ u ∈ [Value.slice A8 k8 q8, .bool has, .int .i64 tick, .slice A9 k9 q9, .int .i64 lost], u.oneCell' = true) := by
        intro u hu
        simp at hu
        rcases hu with rfl | rfl | rfl | rfl | rfl <;> rfl
      have HJN := Lib.hid hjn
      clear hcpy
      go_wp2_with (first | ((with_reducible refine at_op (o := ⟨none, .store 36 (.tmp 29) (.tmp 28), _, _, _, _⟩) ?_); refine pl_store_mid (o := ⟨none, .store 36 (.tmp 29) (.tmp 28), _, _, _, _⟩) rfl 36 (.tmp 29) (.tmp 28) rfl gO (j * 5) rfl 36 ((List.range n).flatMap fun i => scell (c i) (ss i)) [.slice A8 k8 q8, .bool has, .int .i64 tick, .slice A9 k9 q9, .int .i64 lost] rfl HSO4.out.row HFT.out size36 H1C.out ?_; intro w5 hr5 hc5; have HR5 := Lib.hid hr5; have HC5 := Lib.hid hc5; clear hr5 hc5))
      have hfl := HR5.out
      rw [flat_put _ n (fun a => scell_len _ _) j HJN.out _ rfl] at hfl
      have HSO5 : Hid (SO w w5 gO n (fun i => if i = j then ⟨.slice A8 k8 q8, .slice A9 k9 q9, ms'⟩ else c i) (fun i => if i = j then ⟨q, has, tick, data, lost⟩ else ss i)) := HSO3.out.fill HCPY.out HC5.out hfl
      have HPR5 : Hid (PR w5 M r n f (fun i => left i && !i == ((j : Int) + 1)) cnt3) := HPR4.out.keep HC5.out (fun e => pm_row HPR4.out.pm HSO4.out.row (show gO = M from (show M = gO from e).symm)) (fun e => pr_row HPR4.out HSO4.out.row (show gO = r from (show r = gO from e).symm))
      refine ⟨⟨_, _, _, _, _, _, _, _, _, _, _, _, _, _, _, _, ⟨_, cnt3, _, _, HPR5, HSO5, fun i hi => ?_⟩, rfl⟩, ?_⟩
      · have h := HSS.out i hi
        by_cases e : i = j
        · subst e
          rw [if_pos rfl]
          simp
          exact HSVJ.out.symm
        · rw [if_neg e, h]
          have : (((i : Int) + 1) == ((j : Int) + 1)) = false := by simp; omega
          simp [this]
      · rw [HPR5.out.left_eq, ← HPR3.out.left_eq]
        exact HLT.out
end Go.Proofs.Ytlokpcbiomjcnaa
