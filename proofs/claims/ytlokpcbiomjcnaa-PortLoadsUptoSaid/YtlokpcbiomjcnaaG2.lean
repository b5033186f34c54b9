/- port.Load, walked. -/
import Derived.Test.YtlokpcbiomjcnaaG1
set_option linter.unusedVariables false
set_option linter.unusedSimpArgs false
namespace Go.Proofs.Ytlokpcbiomjcnaa
open Go.RowKit
/-- may all ports of the partition stand so? -/
def Ok (part : Int) (qs : List Pt) (ls : List Ps) : Prop := ls.length = qs.length ∧ ∀ (j : Nat) p s, qs[j]? = some p → ls[j]? = some s → p.part = part → fitsS p.kind p.size p.depth s = true
def Sm (ls : List Ps) : Prop := ∀ s ∈ ls, s.q.length ≤ 10000000 ∧ s.data.length ≤ 10000000 ∧ ∀ m ∈ s.q, m.length ≤ 10000000
/-- what Load answers -/
def LoadP (w w' : World) (part : Int) (qs : List Pt) (ls : List Ps) (e : Ending) : Prop :=
  (¬ Ok part qs ls ∧ e = .returned (.tuple #[.pointer none, .int .i64 20]) ∧ Ch No w w') ∨
  (Ok part qs ls ∧ ∃ G M f E c ss, e = .returned (.tuple #[.pointer (some ⟨G, 0, none⟩), .int .i64 0]) ∧ Po w.heap.size w' G M f part qs E c ss ∧ (∀ (j : Nat) p s, qs[j]? = some p → p.part = part → ls[j]? = some s → ss j = usedS p.kind s) ∧ Ch No w w')
theorem own_slice_len {w : World} {base : Nat} {e : TypeId} {size n : Nat} {v : Value} {xs : List Value} (h : w.ownsRow base e size v n xs) : ∃ A c, v = .slice A n c := by
  rcases owns_open_sz h with ⟨rfl, h0⟩ | ⟨g, cap, rest, rfl, _⟩
  · subst h0
    exact ⟨_, _, rfl⟩
  · exact ⟨_, _, rfl⟩
theorem Im.ports {b : Nat} {w : World} {x : Value} {qs : List Pt} (h : Im b w x qs) : ∃ A1 k1 c1 A2 c2, x = .agg #[.slice A1 k1 c1, .slice A2 qs.length c2, .slice none 0 0] := by
  obtain ⟨vp, v, cs, rfl, h1, h2, h3⟩ := h
  obtain ⟨A1, k1, c1, rfl⟩ := own_slice h2
  obtain ⟨A2, c2, rfl⟩ := own_slice_len h1
  exact ⟨_, _, _, _, _, rfl⟩
/-- an image, as a value, wherever its ports lie -/
def ImW (w : World) (x : Value) (qs : List Pt) : Prop := ∃ A1 k1 c1 A2 c2, x = .agg #[.slice A1 k1 c1, .slice A2 qs.length c2, .slice none 0 0] ∧ ∀ (k : Nat) p, qs[k]? = some p → ∃ g, A2 = some ⟨g, 0, none⟩ ∧ w.rangeAt g (k * 6) p.cells
theorem ImW.keepNo {w w' : World} {x : Value} {qs : List Pt} (h : ImW w x qs) (hc : Ch No w w') : ImW w' x qs := by
  obtain ⟨A1, k1, c1, A2, c2, e, h1⟩ := h
  refine ⟨A1, k1, c1, A2, c2, e, fun k p hp => ?_⟩
  obtain ⟨g, e1, h2⟩ := h1 k p hp
  exact ⟨g, e1, fun j v hj => hc.cell (not_no _) (h2 j v hj)⟩
theorem ImW.ports {w : World} {x : Value} {qs : List Pt} (h : ImW w x qs) : ∃ A1 k1 c1 A2 c2, x = .agg #[.slice A1 k1 c1, .slice A2 qs.length c2, .slice none 0 0] := by
  obtain ⟨A1, k1, c1, A2, c2, e, h1⟩ := h
  exact ⟨A1, k1, c1, A2, c2, e⟩
theorem Im.w {b : Nat} {w : World} {x : Value} {qs : List Pt} (h : Im b w x qs) : ImW w x qs := by
  obtain ⟨vp, v, cs, rfl, h1, h2, h3⟩ := h
  obtain ⟨A1, k1, c1, rfl⟩ := own_slice h2
  rcases owns_open_sz h1 with ⟨rfl, h0⟩ | ⟨g, cap, rest, rfl, _, hr, _⟩
  · exact ⟨A1, k1, c1, none, 0, by rw [h0], fun k p hk => by
      have := (List.getElem?_eq_some_iff.1 hk).1
      omega⟩
  · exact ⟨A1, k1, c1, some ⟨g, 0, none⟩, cap, rfl, fun k p hk => ⟨g, rfl, pcells_range hr hk⟩⟩
theorem new_callsW {w : World} {x : Value} {qs : List Pt} (h : ImW w x qs) (hq : qs.length ≤ 1000) (part : Int) :
    Calls Try.prog 13 #[x, .int .i64 part] w fun e w' => ∃ G M f, e = .returned (.pointer (some ⟨G, 0, none⟩)) ∧ NewI w w' G M part qs qs.length f := by
  obtain ⟨A1, k1, c1, A2, c2, rfl, h1⟩ := h
  exact new_walk rfl hq h1 part
theorem Po.low {b b' : Nat} {w : World} {G M : Nat} {f : Int → Option Nat} {part : Int} {qs : List Pt} {E : Nat → Nat} {c : Nat → Rp} {ss : Nat → Ps} (h : Po b w G M f part qs E c ss) (hb : b' ≤ b) : Po b' w G M f part qs E c ss where
  hG := h.hG
  hM := h.hM
  gb := Nat.le_trans hb h.gb
  mb := Nat.le_trans hb h.mb
  ends := fun j p hp he => by
    obtain ⟨h1, h2, h3⟩ := h.ends j p hp he
    exact ⟨h1, h2, Nat.le_trans hb h3⟩
  none_ := h.none_
  inj := h.inj
  mm := ⟨h.mm.q, fun j k hk => Nat.le_trans hb (h.mm.qb j k hk), fun j => (h.mm.sep j).low hb, h.mm.dq, h.mm.ds⟩
  ql := h.ql
/-- the ports that New makes -/
theorem NewI.po {w wr : World} {G M : Nat} {part : Int} {ps : List Pt} {f : Int → Option Nat} (h : NewI w wr G M part ps ps.length f) : Po w.heap.size wr G M f part ps (fun j => (f (j + 1)).getD 0) (fun _ => rp0) (fun _ => ps0) where
  hG := h.row
  hM := h.map
  gb := h.g
  mb := h.m
  ends := fun j p hp he => by
    obtain ⟨E, h1, h2, h3⟩ := h.own j p (List.getElem?_eq_some_iff.1 hp).1 hp he
    rw [h1]
    exact ⟨rfl, h2, h3⟩
  none_ := fun i hi => h.none i (fun j p _ hp he => hi j p hp he)
  inj := h.inj
  mm := Mm.start _ _
  ql := fun j => by simp [ps0]
theorem Po.keepR {D : Nat → Prop} {b : Nat} {w w' : World} {G M : Nat} {f : Int → Option Nat} {part : Int} {qs : List Pt} {E : Nat → Nat} {c : Nat → Rp} {ss : Nat → Ps} (h : Po b w G M f part qs E c ss) (hc : Ch D w w') (hr : ∀ k t L, Row w k t L → ¬ D k) (hM : PM w' M qs.length f) : Po b w' G M f part qs E c ss where
  hG := h.hG.keep hc (hr _ _ _ h.hG)
  hM := hM
  gb := h.gb
  mb := h.mb
  ends := fun j p hp he => by
    obtain ⟨h1, h2, h3⟩ := h.ends j p hp he
    exact ⟨h1, h2.keep hc (hr _ _ _ h2), h3⟩
  none_ := h.none_
  inj := h.inj
  mm := h.mm.keep hc (fun k L hk => hr k _ L hk) (fun k L hk => hr k _ L hk)
  ql := h.ql
theorem add_block (a : Addr) (i : Nat) : (a.add i).block = a.block := by unfold Addr.add; split <;> rfl
theorem cell_lt {w : World} {a : Addr} {v : Value} (h : w.cell? a = some v) : a.block < w.heap.size := by
  unfold World.cell? at h
  cases hb : w.heap[a.block]? with
  | none => simp [hb] at h
  | some o => exact (Array.getElem?_eq_some_iff.1 hb).1
theorem wp_store_midr {P : Program} {o : Oper} {a : Act} {w : World} {K : Act → World → Prop} {Q : Exit → Act → World → Prop} (ty : TypeId) (x y : Operand) (ho : o.op = .store ty x y)
    (g off : Nat) (hx : a.eval x = .pointer (some ⟨g, off, none⟩)) (t : TypeId) (L vs : List Value) (hy : a.eval y = .agg vs.toArray) (hr : Row w g t L) (hfit : off + vs.length ≤ L.length) (hi : (P.info? ty).map (·.size) = some vs.length) (h1 : ∀ v ∈ vs, v.oneCell' = true)
    (h : ∀ w', Row w' g t (putL L off vs) → Ch (Is g) w w' → K (a.put o.dst undef) w') : o.wp P a w K Q := by
  refine wp_store_mid ty x y ho g off vs.toArray hx hy (fun j hj => ?_) (by simpa using hi) (all_oneCell_toArray h1) ?_
  · have hj' : j < vs.length := by simpa using hj
    refine ⟨?_, hr.frozen _⟩
    rw [hr.cell, List.getElem?_eq_getElem (by omega)]
    rfl
  · have e : vs.toArray.toList = vs := by simp
    rw [e]
    exact h _ (row_setCells vs off w L hr) (ch_setCells vs off w)
theorem size46' : (Try.prog.info? 46).map (·.size) = some 6 := by kernel_rfl
set_option maxHeartbeats 4000000 in
set_option maxRecDepth 100000 in
theorem pload_calls {w : World} {x v : Value} {qs : List Pt} {ls : List Ps} (h : ImW w x qs) (hf : Fine qs) (part : Int) (hv : Stl w v ls) (hm : Sm ls) :
    Calls Try.prog 30 #[x, .int .i64 part, v] w fun e w' => LoadP w w' part qs ls e := by
  obtain ⟨A, cap, rfl, hl, -⟩ := id hv
  obtain ⟨A1, k1, c1, A2, c2, rfl⟩ := h.ports
  have HIM := Lib.hid h
  have HF := Lib.hid hf
  have HV := Lib.hid hv
  have HM := Lib.hid hm
  obtain ⟨n, hn⟩ : ∃ n, qs.length = n := ⟨_, rfl⟩
  obtain ⟨m, hml⟩ : ∃ m, ls.length = m := ⟨_, rfl⟩
  have HN := Lib.hid hn
  have HL := Lib.hid hml
  have hn64 : n ≤ 64 := by rw [← hn]; exact hf.1
  rw [hml] at HV hl ⊢
  rw [hn] at HIM ⊢
  have HW1 : Hid (Row (w.alloc (.cells #[.slice A1 k1 c1, .slice A2 n c2, .slice none 0 0] 27)) w.heap.size 27 [.slice A1 k1 c1, .slice A2 n c2, .slice none 0 0]) := Row.new w 27 _
  have HC1 : Hid (Ch No w (w.alloc (.cells #[.slice A1 k1 c1, .slice A2 n c2, .slice none 0 0] 27))) := (Ch.refl _ _).alloc _
  clear h hf hv hm hn hml
  by_cases hmn : m = n
  case neg =>
    have e1 : ((m : Int) != (n : Int)) = true := by simp; omega
    have HNO : Hid (¬ Ok part qs ls) := fun hok => hmn (by rw [← HN.out, ← HL.out]; exact hok.1)
    go_enter Try.func30, Try.ntmps30
    go_wp2_with (fail)
    exact bodyPost_ret (v := .tuple #[.pointer none, .int .i64 20]) (by kernel_rfl) rfl (.inl ⟨HNO.out, rfl, HC1.out⟩)
  subst hmn
  have e1 : ((m : Int) != (m : Int)) = false := by simp
  have HNEW := Lib.hid (fun (w' : World) (hc : Ch No w w') => new_callsW (HIM.out.keepNo hc) (Nat.le_trans HF.out.1 (by decide)) part)
  go_enter Try.func30, Try.ntmps30
  go_upto_region 3 with (fail)
  generalize w.alloc (.cells #[.slice A1 k1 c1, .slice A2 m c2, .slice none 0 0] 27) = w1 at *
  generalize w.heap.size = X at *
  go_wp2_with (first | ((with_reducible refine at_op (o := ⟨some 17, _, _, _, _, _⟩) ?_); refine pl_load (o := ⟨some 17, _, _, _, _, _⟩) rfl 27 _ rfl X rfl 27 [.slice A1 k1 c1, .slice A2 m c2, .slice none 0 0] HW1.out _ Try.underlying27 rfl size27 ?_))
  refine (HNEW.out _ HC1.out).mono ?_
  rintro e w2 ⟨G, M, f, rfl, hnew⟩
  obtain ⟨E, hE⟩ : ∃ E : Nat → Nat, E = fun j : Nat => (f (j + 1)).getD 0 := ⟨_, rfl⟩
  have HPO2 : Hid (Po w.heap.size w2 G M f part qs E (fun _ => rp0) (fun _ => ps0)) := by
    rw [hE]
    exact hnew.po.low HC1.out.size
  have HC2 := Lib.hid (HC1.out.then_ hnew.ch)
  clear hnew hE HNEW HW1 HC1 HIM
  have c0 : w2.cell? ⟨G, 0, none⟩ = some (.map (some M)) := by rw [HPO2.out.hG.cell]; rfl
  have HPM := Lib.hid HPO2.out.hM
  go_wp2_with (first | (at_range; refine pl_range rfl _ rfl rfl HPM.out ?_; intro w3 cnt3 hpr3 hc3))
  have HPO3 : Hid (Po w.heap.size w3 G M f part qs E (fun _ => rp0) (fun _ => ps0)) := HPO2.out.keepNo hc3
  obtain ⟨r, hr⟩ : ∃ r, r = w2.heap.size := ⟨_, rfl⟩
  rw [← hr] at hpr3 ⊢
  have HRN : Hid (w.heap.size ≤ r) := by
    have := HC2.out.size
    show _ ≤ _
    omega
  have HC3 := Lib.hid (HC2.out.then_ hc3)
  rw [HN.out] at hpr3
  have HPR3 := Lib.hid hpr3
  have HV3 : Hid (∀ (j : Nat) p s, qs[j]? = some p → p.part = part → ls[j]? = some s → ((f ((j : Int) + 1)).isSome = true → (fun _ => ps0 : Nat → Ps) j = ps0) ∧ ((f ((j : Int) + 1)).isSome = false → fitsS p.kind p.size p.depth s = true ∧ (fun _ => ps0 : Nat → Ps) j = usedS p.kind s)) := by
    intro j p s hp he hs
    refine ⟨fun _ => rfl, fun h0 => ?_⟩
    rw [(HPO3.out.ends j p hp he).1] at h0
    cases h0
  clear hpr3 hc3 c0 hr HPM HPO2 HC2
  go_frame
  go_loopw [9, 10] (fun _ _ wr => ∃ (left : Int → Bool) (cnt : Nat) (c : Nat → Rp) (ss : Nat → Ps), Hid (PR wr M r m f left cnt) ∧ Hid (Po w.heap.size wr G M f part qs E c ss) ∧ Hid (∀ (j : Nat) p s, qs[j]? = some p → p.part = part → ls[j]? = some s → (left ((j : Int) + 1) = true → ss j = ps0) ∧ (left ((j : Int) + 1) = false → fitsS p.kind p.size p.depth s = true ∧ ss j = usedS p.kind s)) ∧ Hid (Ch No w wr)) (fun _ _ wr => wr.rangeLeft M r)
  case atStart => exact ⟨_, _, _, _, HPR3, HPO3, HV3, HC3⟩
  case round =>
    clear HPR3 HPO3 HV3 HC3
    obtain ⟨left, cnt, c, ss, HPR, HPO, HVS, HC⟩ := hrel
    go_wp2_with (first | (at_next; refine pl_next rfl _ rfl rfl HPR.out ?_ ?_))
    · intro hdone
      go_wp2_with (fail)
      refine bodyPost_ret (v := .tuple #[.pointer (some ⟨G, 0, none⟩), .int .i64 0]) (by kernel_rfl) rfl (.inr ⟨⟨HL.out.trans HN.out.symm, fun j p s hp hs he => ?_⟩, G, M, f, E, c, ss, rfl, HPO.out, fun j p s hp he hs => ?_, HC.out⟩)
      · exact ((HVS.out j p s hp he hs).2 (hdone _)).1
      · exact ((HVS.out j p s hp he hs).2 (hdone _)).2
    · intro x E0 w4 cnt4 hwx hfx hlx hpr4 hlt4 hc4 hen
      obtain ⟨j, p, hp, he, rfl⟩ : ∃ (j : Nat) (p : Pt), qs[j]? = some p ∧ p.part = part ∧ x = j + 1 := by
        apply Classical.byContradiction
        intro hno
        have h0 := HPO.out.none_ x (fun j p h1 h2 h3 => hno ⟨j, p, h1, h2, h3⟩)
        rw [hfx] at h0
        cases h0
      have hjn : j < m := by
        have := (List.getElem?_eq_some_iff.1 hp).1
        have := HN.out
        omega
      have HC4 : Hid (Ch No w w4) := ch_newg HC.out hc4 HRN.out
      have hrow4 : ∀ k t L, Row wr k t L → ¬ Is r k := fun k t L hk hd => by
        have e : k = r := hd
        exact pr_row HPR.out hk e
      have HPO4 : Hid (Po w.heap.size w4 G M f part qs E c ss) := HPO.out.keepR hc4 hrow4 (by have := hpr4.pm; rw [HN.out]; exact this)
      have HPR4 := Lib.hid hpr4
      have hlt5 : w4.rangeLeft M r < wr.rangeLeft M r := by rw [hpr4.left_eq, HPR.out.left_eq]; exact hlt4
      have HLT := Lib.hid hlt5
      obtain ⟨hfE, hER, hEb⟩ := HPO4.out.ends j p hp he
      obtain ⟨s, hs⟩ : ∃ s, ls[j]? = some s := ⟨_, List.getElem?_eq_getElem (by have := HL.out; omega)⟩
      have hss := (HVS.out j p s hp he hs).1 hlx
      rw [hss] at hER
      rw [hfx] at hfE
      cases hfE
      obtain ⟨hsq, hsd, hsm⟩ := HM.out s (List.mem_of_getElem? hs)
      obtain ⟨ad, Aq, ms, cq, Ad, cd, rfl, hx, hml, hq, hqs, hd, hl1, hl2⟩ := (HV.out.keepNo HC4.out).at_ hs
      have hadb : ad.block < w4.heap.size := by
        have h1 := hx.first rfl
        have h2 := cell_lt h1
        rwa [add_block] at h2
      have hadw : ad.block < w.heap.size := by
        have h1 := ((HV.out).at_ hs)
        obtain ⟨ad', _, _, _, _, _, e, hx', _⟩ := h1
        cases e
        have h2 := cell_lt (hx'.first rfl)
        rwa [add_block] at h2
      obtain ⟨q, has, tick, data, lost⟩ := s
      simp only [] at hx hml hqs hd hl1 hl2 hsq hsd hsm
      have hk := HF.out.2 p (List.mem_of_getElem? hp)
      have HCP := Lib.hid (fun (w' : World) (hc : Ch No w4 w') => copied_calls (w := w') (Aq := Aq) (Ad := Ad) (ql := q.length) (cq := cq) (dl := data.length) (cd := cd) (has := has) (tick := tick) (lost := lost) rfl rfl hml (hq.keepNo hc) (fun i m xs h1 h2 => ⟨(hqs i m xs h1 h2).keepNo hc, hsm xs (List.mem_of_getElem? h2)⟩) (hd.keepNo hc) hsq hsd)
      have HFT := Lib.hid (fun (w' : World) (hc : Ch No w4 w') => fits_calls (w := w') p.part p.kind p.size p.depth p.refresh p.out (Aq := Aq) (Ad := Ad) (ql := q.length) (cq := cq) (dl := data.length) (cd := cd) (has := has) (tick := tick) (lost := lost) (ms := ms) (q := q) (data := data) rfl rfl hl1 hl2 hml (hq.keepNo hc) (fun i m xs h1 h2 => (hqs i m xs h1 h2).keepNo hc))
      have HMID : Hid (∀ w', Ch No w4 w' → w'.rangeAt (E j) 0 p.cells) := fun w' hc => row_range (hER.keepNo hc) 0 _ (fun i v hi => by
        rw [Nat.zero_add]
        match i, hi with
        | 0, hi => simpa [ecells, Pt.cells] using hi
        | 1, hi => simpa [ecells, Pt.cells] using hi
        | 2, hi => simpa [ecells, Pt.cells] using hi
        | 3, hi => simpa [ecells, Pt.cells] using hi
        | 4, hi => simpa [ecells, Pt.cells] using hi
        | 5, hi => simpa [ecells, Pt.cells] using hi)
      have HCL : Hid (Cl w4 (some (ad.add (j * 5))) [.slice Aq q.length cq, .bool has, .int .i64 tick, .slice Ad data.length cd, .int .i64 lost]) := hx
      have HER := Lib.hid hER
      have HK := Lib.hid hk
      have HP := Lib.hid hp
      have HE := Lib.hid he
      have HS := Lib.hid hs
      have HADW := Lib.hid hadw
      have HEB := Lib.hid hEb
      have HADB := Lib.hid hadb
      obtain ⟨ql, hqll⟩ : ∃ l, q.length = l := ⟨_, rfl⟩
      obtain ⟨dl, hdll⟩ : ∃ l, data.length = l := ⟨_, rfl⟩
      have HQL := Lib.hid hqll
      have HSQ := Lib.hid hsq
      rw [hqll, hdll] at HCP HFT HCL
      have hw1 : wrap64 ((j : Int) + 1 - 1) = (j : Int) := by unfold wrap64; omega
      clear hpr4 hlt4 hc4 hx hml hq hqs hd hl1 hl2 hsq hsd hsm hER hEb hp he hfx hlt5 hs hss hk hadb hadw hrow4 hqll hdll hlx
      go_upto_region 7 with (fail)
      refine wp_region_quiet_tail 10 (by kernel_rfl) (by kernel_rfl) (fun w' => Ch No w4 w') ((Ch.refl _ _).drew) ?_
      simp only [List.take_succ_cons, List.take_zero, List.drop_succ_cons, List.drop_zero]
      refine wpQuiet_value (by rfl) (.pointer (some ⟨E j, 0, none⟩)) (fun _ => by kernel_rfl) ?_
      simp only [Act.put, List.setIfInBounds_toArray, List.set_cons_zero, List.set_cons_succ]
      refine wpQuiet_value (by rfl) (.pointer (some ⟨E j, 0, none⟩)) (fun _ => by kernel_rfl) ?_
      simp only [Act.put, List.setIfInBounds_toArray, List.set_cons_zero, List.set_cons_succ]
      refine wpQuiet_value (by rfl) (.pointer (some ⟨E j, 0, none⟩)) (fun _ => by kernel_rfl) ?_
      simp only [Act.put, List.setIfInBounds_toArray, List.set_cons_zero, List.set_cons_succ]
      refine wpQuiet_read (by rfl) (PT p.part p.kind p.size p.depth p.refresh p.out) (fun w' hw' => exec_load_mid 46 (.tmp 32) rfl (E j) 0 rfl p.cells _ (HMID.out w' hw') Try.underlying46 rfl size46') ?_
      simp only [Act.put, List.setIfInBounds_toArray, List.set_cons_zero, List.set_cons_succ]
      refine wpQuiet_value (by rfl) (.slice (some ad) m cap) (fun _ => by kernel_rfl) ?_
      simp only [Act.put, List.setIfInBounds_toArray, List.set_cons_zero, List.set_cons_succ]
      refine wpQuiet_value (by rfl) (.int .i64 ((j : Int) + 1)) (fun _ => by kernel_rfl) ?_
      simp only [Act.put, List.setIfInBounds_toArray, List.set_cons_zero, List.set_cons_succ]
      refine wpQuiet_value (by rfl) (.int .i64 (j : Int)) (fun _ => exec_sub1 (.tmp 35) rfl ((j : Int) + 1) (j : Int) rfl (by omega) (by omega)) ?_
      simp only [Act.put, List.setIfInBounds_toArray, List.set_cons_zero, List.set_cons_succ]
      refine wpQuiet_value (by rfl) (.pointer (some (ad.add (j * 5)))) (fun _ => exec_ats 23 36 5 (.tmp 34) (.tmp 36) rfl Try.underlying23 size36 ad m cap j rfl rfl hjn) ?_
      simp only [Act.put, List.setIfInBounds_toArray, List.set_cons_zero, List.set_cons_succ]
      refine wpQuiet_read (by rfl) (.agg #[.slice Aq ql cq, .bool has, .int .i64 tick, .slice Ad dl cd, .int .i64 lost]) (fun w' hw' => exec_load_cl 36 (.tmp 37) rfl (ad.add (j * 5)) rfl [.slice Aq ql cq, .bool has, .int .i64 tick, .slice Ad dl cd, .int .i64 lost] _ (HCL.out.keepNo hw') Try.underlying36 rfl size36) ?_
      simp only [Act.put, List.setIfInBounds_toArray, List.set_cons_zero, List.set_cons_succ]
      refine wpQuiet_call (by rfl) (.bool (fitsS p.kind p.size p.depth ⟨q, has, tick, data, lost⟩)) 51 #[PT p.part p.kind p.size p.depth p.refresh p.out, .agg #[.slice Aq ql cq, .bool has, .int .i64 tick, .slice Ad dl cd, .int .i64 lost]] (fun _ => by kernel_rfl) (fun w' hw' => (HFT.out w' hw').mono fun e w'' h => ⟨h.1, hw'.then_ h.2⟩) ?_
      simp only [Act.put, List.setIfInBounds_toArray, List.set_cons_zero, List.set_cons_succ]
      refine wpQuiet_nil ?_
      intro w5 hc5
      have HC5 := Lib.hid hc5
      clear hc5
      obtain ⟨fb, hfb⟩ : ∃ b, fitsS p.kind p.size p.depth ⟨q, has, tick, data, lost⟩ = b := ⟨_, rfl⟩
      have HFB := Lib.hid hfb
      rw [hfb]
      clear hfb
      cases fb
      · go_wp2_with (fail)
        exact bodyPost_ret (v := .tuple #[.pointer none, .int .i64 20]) (by kernel_rfl) rfl (.inl ⟨fun hok => (by
          have h := hok.2 j p _ HP.out HS.out HE.out
          rw [HFB.out] at h
          cases h), rfl, HC4.out.then_ HC5.out⟩)
      · go_upto_region 9 with (fail)
        refine wp_region_held (S := fun w' : World => w'.rangeAt (E j) 0 p.cells ∧ Cl w' (some (ad.add (j * 5))) [.slice Aq ql cq, .bool has, .int .i64 tick, .slice Ad dl cd, .int .i64 lost]) (by kernel_rfl) ?_
        change wpAnyH _ _ _ _ _ _ _ _ w5.drew
        have HC6 : Hid (Ch No w4 w5.drew) := HC5.out.drew
        generalize w5.drew = w6 at *
        have HS0 : Hid (w6.rangeAt (E j) 0 p.cells ∧ Cl w6 (some (ad.add (j * 5))) [.slice Aq ql cq, .bool has, .int .i64 tick, .slice Ad dl cd, .int .i64 lost]) := ⟨HMID.out _ HC6.out, HCL.out.keepNo HC6.out⟩
        refine wpAnyH_take (i := 0) (oi := ⟨some 41, _, _, _, _, _⟩) (v := .pointer (some ⟨E j, 0, none⟩)) rfl (by kernel_rfl) (by kernel_rfl) (by kernel_rfl) (fun _ _ _ h => h) (Or.inl ⟨by rfl, fun _ _ => by kernel_rfl⟩) HS0.out ?_
        simp only [Act.put, List.setIfInBounds_toArray, List.set_cons_zero, List.set_cons_succ]
        refine wpAnyH_take (i := 1) (oi := ⟨some 42, _, _, _, _, _⟩) (v := .pointer (some ⟨E j, 0, none⟩)) rfl (by kernel_rfl) (by kernel_rfl) (by kernel_rfl) (fun _ _ _ h => h) (Or.inl ⟨by rfl, fun _ _ => by kernel_rfl⟩) HS0.out ?_
        simp only [Act.put, List.setIfInBounds_toArray, List.set_cons_zero, List.set_cons_succ]
        refine wpAnyH_take (i := 2) (oi := ⟨some 43, _, _, _, _, _⟩) (v := .pointer (some ⟨E j, 0, none⟩)) rfl (by kernel_rfl) (by kernel_rfl) (by kernel_rfl) (fun _ _ _ h => h) (Or.inl ⟨by rfl, fun _ _ => by kernel_rfl⟩) HS0.out ?_
        simp only [Act.put, List.setIfInBounds_toArray, List.set_cons_zero, List.set_cons_succ]
        refine wpAnyH_take (i := 3) (oi := ⟨some 44, _, _, _, _, _⟩) (v := .pointer (some ⟨E j, 0, none⟩)) rfl (by kernel_rfl) (by kernel_rfl) (by kernel_rfl) (fun _ _ _ h => h) (Or.inl ⟨by rfl, fun _ _ => by kernel_rfl⟩) HS0.out ?_
        simp only [Act.put, List.setIfInBounds_toArray, List.set_cons_zero, List.set_cons_succ]
        refine wpAnyH_take (i := 4) (oi := ⟨some 45, _, _, _, _, _⟩) (v := PT p.part p.kind p.size p.depth p.refresh p.out) rfl (by kernel_rfl) (by kernel_rfl) (by kernel_rfl) (fun _ _ _ h => h) (Or.inl ⟨by rfl, fun w' hw' => exec_load_mid 46 (.tmp 44) rfl (E j) 0 rfl p.cells _ hw'.1 Try.underlying46 rfl size46'⟩) HS0.out ?_
        simp only [Act.put, List.setIfInBounds_toArray, List.set_cons_zero, List.set_cons_succ]
        refine wpAnyH_take (i := 5) (oi := ⟨some 46, _, _, _, _, _⟩) (v := .slice (some ad) m cap) rfl (by kernel_rfl) (by kernel_rfl) (by kernel_rfl) (fun _ _ _ h => h) (Or.inl ⟨by rfl, fun _ _ => by kernel_rfl⟩) HS0.out ?_
        simp only [Act.put, List.setIfInBounds_toArray, List.set_cons_zero, List.set_cons_succ]
        refine wpAnyH_take (i := 6) (oi := ⟨some 47, _, _, _, _, _⟩) (v := .int .i64 ((j : Int) + 1)) rfl (by kernel_rfl) (by kernel_rfl) (by kernel_rfl) (fun _ _ _ h => h) (Or.inl ⟨by rfl, fun _ _ => by kernel_rfl⟩) HS0.out ?_
        simp only [Act.put, List.setIfInBounds_toArray, List.set_cons_zero, List.set_cons_succ]
        refine wpAnyH_take (i := 7) (oi := ⟨some 48, _, _, _, _, _⟩) (v := .int .i64 (j : Int)) rfl (by kernel_rfl) (by kernel_rfl) (by kernel_rfl) (fun _ _ _ h => h) (Or.inl ⟨by rfl, fun _ _ => exec_sub1 (.tmp 47) rfl ((j : Int) + 1) (j : Int) rfl (by omega) (by omega)⟩) HS0.out ?_
        simp only [Act.put, List.setIfInBounds_toArray, List.set_cons_zero, List.set_cons_succ]
        refine wpAnyH_take (i := 8) (oi := ⟨some 49, _, _, _, _, _⟩) (v := .pointer (some (ad.add (j * 5)))) rfl (by kernel_rfl) (by kernel_rfl) (by kernel_rfl) (fun _ _ _ h => h) (Or.inl ⟨by rfl, fun _ _ => exec_ats 23 36 5 (.tmp 46) (.tmp 48) rfl Try.underlying23 size36 ad m cap j rfl rfl hjn⟩) HS0.out ?_
        simp only [Act.put, List.setIfInBounds_toArray, List.set_cons_zero, List.set_cons_succ]
        refine wpAnyH_take (i := 9) (oi := ⟨some 50, _, _, _, _, _⟩) (v := .agg #[.slice Aq ql cq, .bool has, .int .i64 tick, .slice Ad dl cd, .int .i64 lost]) rfl (by kernel_rfl) (by kernel_rfl) (by kernel_rfl) (fun _ _ _ h => h) (Or.inl ⟨by rfl, fun w' hw' => exec_load_cl 36 (.tmp 49) rfl (ad.add (j * 5)) rfl [.slice Aq ql cq, .bool has, .int .i64 tick, .slice Ad dl cd, .int .i64 lost] _ hw'.2 Try.underlying36 rfl size36⟩) HS0.out ?_
        simp only [Act.put, List.setIfInBounds_toArray, List.set_cons_zero, List.set_cons_succ]
        refine wpAnyH_norm 5 #[true, true, true, true, true, true, true, true, true, true, false, false, false, false, false] (by kernel_rfl) (by kernel_rfl) ?_
        refine wpAnyH_one (i := 10) (o := ⟨some 51, _, _, _, _, _⟩) (by kernel_rfl) rfl (by rfl) ?_
        refine wp_call 45 #[.agg #[.slice Aq ql cq, .bool has, .int .i64 tick, .slice Ad dl cd, .int .i64 lost]] (by kernel_rfl) ((HCP.out _ HC6.out).mono ?_)
        rintro e w7 ⟨vq', vd', ms', rfl, hcpy⟩
        obtain ⟨A8, k8, q8, rfl⟩ := qv_slice hcpy.q
        obtain ⟨A9, k9, q9, rfl⟩ : ∃ A k c, vd' = .slice A k c := own_slice (hcpy.sep.own 0 _ _ rfl rfl).1
        have HCPY := Lib.hid hcpy
        have HC7 := Lib.hid (HC6.out.then_ hcpy.ch)
        clear hcpy
        refine ⟨_, rfl, ⟨HMID.out _ HC7.out, HCL.out.keepNo HC7.out⟩, ?_⟩
        simp only [Act.put, List.setIfInBounds_toArray, List.set_cons_zero, List.set_cons_succ]
        refine wpAnyH_norm 4 #[true, true, true, true, true, true, true, true, true, true, true, false, false, false, false] (by kernel_rfl) (by kernel_rfl) ?_
        refine wpAnyH_one (i := 11) (o := ⟨some 52, _, _, _, _, _⟩) (by kernel_rfl) rfl (by rfl) ?_
        refine wp_call 52 #[PT p.part p.kind p.size p.depth p.refresh p.out, .agg #[.slice A8 k8 q8, .bool has, .int .i64 tick, .slice A9 k9 q9, .int .i64 lost]] (by kernel_rfl) ((used_calls p.part p.kind p.size p.depth p.refresh p.out HK.out.2.2.2.1).mono ?_)
        rintro e w8 ⟨rfl, hc8⟩
        have HC8 := Lib.hid (HC7.out.then_ hc8)
        have HCPU := Lib.hid ((HCPY.out.used p.kind).then_ hc8)
        clear hc8
        refine ⟨_, rfl, ⟨HMID.out _ HC8.out, HCL.out.keepNo HC8.out⟩, ?_⟩
        simp only [Act.put, List.setIfInBounds_toArray, List.set_cons_zero, List.set_cons_succ]
        refine wpAnyH_take (i := 12) (oi := ⟨some 53, _, _, _, _, _⟩) (v := .pointer (some ⟨E j, 0, none⟩)) rfl (by kernel_rfl) (by kernel_rfl) (by kernel_rfl) (fun _ _ _ h => h) (Or.inl ⟨by rfl, fun _ _ => by kernel_rfl⟩) ⟨HMID.out _ HC8.out, HCL.out.keepNo HC8.out⟩ ?_
        simp only [Act.put, List.setIfInBounds_toArray, List.set_cons_zero, List.set_cons_succ]
        refine wpAnyH_take (i := 13) (oi := ⟨some 54, _, _, _, _, _⟩) (v := .pointer (some ⟨E j, 6, none⟩)) rfl (by kernel_rfl) (by kernel_rfl) (by kernel_rfl) (fun _ _ _ h => h) (Or.inl ⟨by rfl, fun _ _ => by kernel_rfl⟩) ⟨HMID.out _ HC8.out, HCL.out.keepNo HC8.out⟩ ?_
        simp only [Act.put, List.setIfInBounds_toArray, List.set_cons_zero, List.set_cons_succ]
        refine wpAnyH_norm 1 #[true, true, true, true, true, true, true, true, true, true, true, true, true, true, false] (by kernel_rfl) (by kernel_rfl) ?_
        refine wpAnyH_one (i := 14) (o := ⟨none, _, _, _, _, _⟩) (by kernel_rfl) rfl (by rfl) ?_
        have HE8 := Lib.hid (HER.out.keepNo HC8.out)
        obtain ⟨uc, huc⟩ : ∃ u, u = usedC p.kind (.slice A8 k8 q8) has tick (.slice A9 k9 q9) lost := ⟨_, rfl⟩
        rw [← huc]
        have HUC := Lib.hid huc
        have HU1 : Hid (∀ u ∈ uc, u.oneCell' = true) := by
          intro u hu
          rw [HUC.out] at hu
          simp only [usedC, List.mem_cons, List.not_mem_nil, or_false] at hu
          rcases hu with rfl | rfl | rfl | rfl | rfl <;> first | rfl | (split <;> rfl)
        have HUL : Hid (uc.length = 5) := by
          show _ = _
          rw [HUC.out]
          rfl
        clear huc
        refine wp_store_midr 36 (.tmp 54) (.tmp 52) rfl (E j) 6 rfl 95 (ecells p (c j).vq ps0.has ps0.tick (c j).vd ps0.lost) uc rfl HE8.out (by rw [HUL.out]; exact Nat.le_refl 11) (by rw [HUL.out]; exact size36) HU1.out ?_
        intro w9 hr9 hc9
        have HC9 : Hid (Ch No w w9) := ch_newg (HC4.out.then_ HC8.out) hc9 HEB.out
        have HPO8 := Lib.hid ((HPO4.out.keepNo HC6.out))
        rw [HUC.out] at hr9
        have HPO9 : Hid (Po w.heap.size w9 G M f part qs E (fun i => if i = j then ⟨if p.kind = 0 then .slice none 0 0 else .slice A8 k8 q8, if p.kind = 1 ∨ has = false then .slice none 0 0 else .slice A9 k9 q9, if p.kind = 0 then [] else ms'⟩ else c i) (fun i => if i = j then usedS p.kind ⟨q, has, tick, data, lost⟩ else ss i)) :=
          HPO8.out.fill HP.out HE.out ((HC4.out.then_ HC6.out).size) HCPU.out hc9 hr9 (by
            show (if p.kind = 0 then [] else q).length ≤ 10000000
            split
            · simp
            · exact HSQ.out)
        have HPR9 : Hid (PR w9 M r m f (fun i => left i && !i == ((j : Int) + 1)) cnt4) := (HPR4.out.keepNo HC8.out).keep hc9 (fun e => pm_row (HPR4.out.keepNo HC8.out).pm HE8.out (show E j = M from (show M = E j from e).symm)) (fun e => pr_row (HPR4.out.keepNo HC8.out) HE8.out (show E j = r from (show r = E j from e).symm))
        have HS9 : Hid (w9.rangeAt (E j) 0 p.cells ∧ Cl w9 (some (ad.add (j * 5))) [.slice Aq ql cq, .bool has, .int .i64 tick, .slice Ad dl cd, .int .i64 lost]) := ⟨row_range hr9 0 _ (fun i v hi => by
            rw [Nat.zero_add]
            match i, hi with
            | 0, hi => simpa [ecells, Pt.cells, putL, usedC] using hi
            | 1, hi => simpa [ecells, Pt.cells, putL, usedC] using hi
            | 2, hi => simpa [ecells, Pt.cells, putL, usedC] using hi
            | 3, hi => simpa [ecells, Pt.cells, putL, usedC] using hi
            | 4, hi => simpa [ecells, Pt.cells, putL, usedC] using hi
            | 5, hi => simpa [ecells, Pt.cells, putL, usedC] using hi), (HCL.out.keepNo HC8.out).keep hc9 (fun ad' e hd => by
            cases e
            have e1 : (ad.add (j * 5)).block = E j := hd
            rw [add_block] at e1
            have := HADW.out
            have := HEB.out
            omega)⟩
        have HVS9 : Hid (∀ (i : Nat) p' s', qs[i]? = some p' → p'.part = part → ls[i]? = some s' → ((fun i : Int => left i && !i == ((j : Int) + 1)) ((i : Int) + 1) = true → (fun i => if i = j then usedS p.kind ⟨q, has, tick, data, lost⟩ else ss i) i = ps0) ∧ ((fun i : Int => left i && !i == ((j : Int) + 1)) ((i : Int) + 1) = false → fitsS p'.kind p'.size p'.depth s' = true ∧ (fun i => if i = j then usedS p.kind ⟨q, has, tick, data, lost⟩ else ss i) i = usedS p'.kind s')) := by
          intro i p' s' h1 h2 h3
          by_cases e : i = j
          · subst e
            obtain rfl : p = p' := Option.some.inj (HP.out.symm.trans h1)
            have e2 := Option.some.inj (HS.out.symm.trans h3)
            subst e2
            refine ⟨fun h => by simp at h, fun _ => ⟨HFB.out, by simp⟩⟩
          · have e2 : ¬ ((i : Int) + 1 = (j : Int) + 1) := by omega
            have h := HVS.out i p' s' h1 h2 h3
            simpa [e, e2] using h
        clear hr9 hc9
        refine And.intro HS9.out ?_
        simp only [Act.put, List.setIfInBounds_toArray, List.set_cons_zero, List.set_cons_succ]
        refine wpAnyH_done (by kernel_rfl) ?_ _
        have HM9 : Hid (w9.rangeLeft M r < wr.rangeLeft M r) := by
          have h := HLT.out
          show _ < _
          rw [HPR9.out.left_eq, ← HPR4.out.left_eq]
          exact h
        go_wp2_with (fail)
        exact ⟨⟨_, cnt4, _, _, HPR9, HPO9, HVS9, HC9⟩, HM9.out⟩
end Go.Proofs.Ytlokpcbiomjcnaa
