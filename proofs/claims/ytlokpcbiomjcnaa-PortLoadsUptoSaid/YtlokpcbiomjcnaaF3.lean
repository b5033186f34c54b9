/- copied: a port's standing that shares nothing. -/
import Derived.Test.YtlokpcbiomjcnaaF2
set_option linter.unusedVariables false
set_option linter.unusedSimpArgs false
namespace Go.Proofs.Ytlokpcbiomjcnaa
open Go.RowKit
/-- lists of numbers, each in memory of its own -/
structure Sep (w : World) (b : Nat) (vs : List Value) (xss : List (List Int)) : Prop where
  len : vs.length = xss.length
  own : ∀ (i : Nat) v xs, vs[i]? = some v → xss[i]? = some xs → w.ownsRow b 2 1 v (ints xs).length (ints xs) ∧ xs.length ≤ 10000000
  dis : ∀ (i j : Nat) v u k, i ≠ j → vs[i]? = some v → vs[j]? = some u → v.ownBlock = some k → ¬ u.ownBlock = some k
theorem Sep.nil (w : World) (b : Nat) : Sep w b [] [] := ⟨rfl, fun i v xs h => by simp at h, fun i j v u k _ h => by simp at h⟩
theorem Sep.keep {D : Nat → Prop} {w w' : World} {b : Nat} {vs : List Value} {xss : List (List Int)} (h : Sep w b vs xss) (hc : Ch D w w') (hd : Far w D 2) : Sep w' b vs xss where
  len := h.len
  own := fun i v xs h1 h2 => ⟨owns_keep (h.own i v xs h1 h2).1 hc (fun k hk => by
    obtain ⟨L, hL⟩ := own_row (h.own i v xs h1 h2).1 hk
    exact hd k L hL), (h.own i v xs h1 h2).2⟩
  dis := h.dis
theorem Sep.keepNo {w w' : World} {b : Nat} {vs : List Value} {xss : List (List Int)} (h : Sep w b vs xss) (hc : Ch No w w') : Sep w' b vs xss := h.keep hc (fun _ _ _ => not_no _)
theorem Sep.low {w : World} {b b' : Nat} {vs : List Value} {xss : List (List Int)} (h : Sep w b vs xss) (hb : b' ≤ b) : Sep w b' vs xss := ⟨h.len, fun i v xs h1 h2 => ⟨own_low (h.own i v xs h1 h2).1 hb, (h.own i v xs h1 h2).2⟩, h.dis⟩
/-- one more, in new memory -/
theorem Sep.snoc {w w' : World} {b : Nat} {vs : List Value} {xss : List (List Int)} {m : Value} {xs : List Int} (h : Sep w b vs xss) (hc : Ch No w w') (hm : w'.ownsRow w.heap.size 2 1 m (ints xs).length (ints xs)) (hb : b ≤ w.heap.size) (hl : xs.length ≤ 10000000) : Sep w' b (vs ++ [m]) (xss ++ [xs]) := by
  have hlt : ∀ (i : Nat) v k, vs[i]? = some v → v.ownBlock = some k → k < w.heap.size := fun i v k hv hk => by
    have hi : i < xss.length := by
      rw [← h.len]
      exact (List.getElem?_eq_some_iff.1 hv).1
    obtain ⟨L, hL⟩ := own_row (h.own i v _ hv (List.getElem?_eq_getElem hi)).1 hk
    exact hL.lt
  have hge : ∀ k, m.ownBlock = some k → w.heap.size ≤ k := fun k hk => own_base_ hm k hk
  have at_ : ∀ (i : Nat) v, (vs ++ [m])[i]? = some v → vs[i]? = some v ∨ (i = vs.length ∧ v = m) := fun i v hv => by
    by_cases hi : i < vs.length
    · rw [List.getElem?_append_left hi] at hv
      exact .inl hv
    · have hi2 : i < (vs ++ [m]).length := (List.getElem?_eq_some_iff.1 hv).1
      simp at hi2
      obtain rfl : i = vs.length := by omega
      rw [List.getElem?_append_right (Nat.le_refl _)] at hv
      simp at hv
      exact .inr ⟨rfl, hv.symm⟩
  refine ⟨by simp [h.len], fun i v xs' h1 h2 => ?_, fun i j v u k hij h1 h2 hk => ?_⟩
  · rcases at_ i v h1 with h1 | ⟨rfl, rfl⟩
    · have hi : i < xss.length := by
        rw [← h.len]
        exact (List.getElem?_eq_some_iff.1 h1).1
      rw [List.getElem?_append_left hi] at h2
      exact (h.keepNo hc).own i v xs' h1 h2
    · rw [h.len, List.getElem?_append_right (Nat.le_refl _)] at h2
      simp at h2
      subst h2
      exact ⟨own_low hm hb, hl⟩
  · rcases at_ i v h1 with g1 | ⟨rfl, rfl⟩
    · rcases at_ j u h2 with g2 | ⟨rfl, rfl⟩
      · exact h.dis i j v u k hij g1 g2 hk
      · intro he
        have := hlt i v k g1 hk
        have := hge k he
        omega
    · rcases at_ j u h2 with g2 | ⟨rfl, _⟩
      · intro he
        have := hlt j u k g2 he
        have := hge k hk
        omega
      · exact absurd rfl hij
/-- what copied answers -/
structure Cpy (w w' : World) (vq' vd' : Value) (ms' : List Value) (s : Ps) : Prop where
  q : Qv w' vq' ms'
  qb : ∀ k, qblk vq' = some k → w.heap.size ≤ k
  sep : Sep w' w.heap.size (vd' :: ms') (s.data :: s.q)
  ch : Ch No w w'
theorem size36 : (Try.prog.info? 36).map (·.size) = some 5 := by kernel_rfl
/-- what lasts in copied's loop -/
structure Cpi (w wr : World) (B R O : Nat) (A5 : List Value) (data : List Int) (qs : List (List Int)) (vq vd : Value) (ms' : List Value) : Prop where
  box : Row wr B 36 A5
  res : Row wr R 36 [.slice none 0 0, .bool false, .int .i64 0, .slice none 0 0, .int .i64 0]
  q : Qv wr vq ms'
  qb : ∀ k, qblk vq = some k → w.heap.size ≤ k
  sep : Sep wr w.heap.size (vd :: ms') (data :: qs)
  ch : Ch No w wr
theorem Cpi.step {w wr w6 w7 w9 : World} {B R O : Nat} {A5 : List Value} {data : List Int} {q : List (List Int)} {k : Nat} {vq vd m v9 : Value} {ms' : List Value} {xs : List Int} {has : Bool} {tick lost : Int} {b : Nat} (h : Cpi w wr B R O A5 data (q.take k) vq vd ms') (hO : Row wr O 36 [vq, .bool has, .int .i64 tick, vd, .int .i64 lost]) (hON : w.heap.size ≤ O ∧ B ≠ O ∧ R ≠ O) (hc6 : Ch No wr w6) (hb : wr.heap.size ≤ b) (hm : w6.ownsRow b 2 1 m (ints xs).length (ints xs)) (hxl : xs.length ≤ 10000000) (hc7 : Ch No w6 w7) (hqa : Qa w7 w9 vq v9 ms' m) (hO9 : Row w9 O 36 [vq, .bool has, .int .i64 tick, vd, .int .i64 lost]) (hxs : q[k]? = some xs) :
    Cpi w (w9.setCell ⟨O, 0, none⟩ v9) B R O A5 data (q.take (k + 1)) v9 vd (ms' ++ [m]) ∧ Row (w9.setCell ⟨O, 0, none⟩ v9) O 36 [v9, .bool has, .int .i64 tick, vd, .int .i64 lost] := by
  have hs : Ch (Is O) w9 (w9.setCell ⟨O, 0, none⟩ v9) := Ch.setCell (D := Is O) (p := ⟨O, 0, none⟩) (Ch.refl _ _) (fun _ => rfl) _
  have hq7 := (h.q.keepNo hc6).keepNo hc7
  have hc67 := hc6.then_ hc7
  have hfar : Far w7 (fun k => qblk vq = some k) 2 := fun g L hg he => hq7.ne_row hg (by decide) he
  have hk := (List.getElem?_eq_some_iff.1 hxs).1
  have hkx := (List.getElem?_eq_some_iff.1 hxs).2
  have htk : q.take (k + 1) = q.take k ++ [xs] := by
    rw [List.take_succ_eq_append_getElem hk, hkx]
  have hO7 := (hO.keepNo hc67)
  have hsep := ((h.sep.snoc hc6 (own_low hm hb) h.ch.size hxl).keepNo hc7).keep hqa.ch hfar
  refine ⟨⟨((h.box.keepNo hc67).keep hqa.ch (hq7.ne_row (h.box.keepNo hc67) (by decide))).keepIs hs hON.2.1, ((h.res.keepNo hc67).keep hqa.ch (hq7.ne_row (h.res.keepNo hc67) (by decide))).keepIs hs hON.2.2, hqa.q.keep hs (fun i hi he => hqa.q.ne_row hO9 (by decide) (he ▸ hi)), fun i hi => ?_, ?_, ?_⟩, ?_⟩
  · rcases hqa.blk i hi with h1 | h1
    · exact h.qb i h1
    · exact Nat.le_trans h.ch.size (Nat.le_trans hc67.size h1)
  · rw [htk]
    exact hsep.keep hs (fun g L hg he => by
      have e : g = O := he
      subst e
      exact absurd (hg.eq_ hO9).1 (by decide))
  · refine ch_newg ((h.ch.then_ hc67).trans hqa.ch (fun i hi he => ?_)) hs hON.1
    have := h.qb i he
    omega
  · have h1 := hO9.set_ 0 v9
    exact h1
set_option maxHeartbeats 4000000 in
set_option maxRecDepth 100000 in
theorem copied_calls {w : World} {Aq Ad : Option Addr} {ql cq dl cd : Nat} {has : Bool} {tick lost : Int} {ms : List Value} {q : List (List Int)} {data : List Int} (hql : q.length = ql) (hdl : data.length = dl) (hml : ms.length = q.length) (hq : Cl w Aq ms) (hqs : ∀ (i : Nat) m xs, ms[i]? = some m → q[i]? = some xs → Sl w m xs ∧ xs.length ≤ 10000000) (hd : Cl w Ad (ints data)) (hq6 : ql ≤ 10000000) (hd6 : dl ≤ 10000000) :
    Calls Try.prog 45 #[.agg #[.slice Aq ql cq, .bool has, .int .i64 tick, .slice Ad dl cd, .int .i64 lost]] w fun e w' => ∃ vq' vd' ms', e = .returned (.agg #[vq', .bool has, .int .i64 tick, vd', .int .i64 lost]) ∧ Cpy w w' vq' vd' ms' ⟨q, has, tick, data, lost⟩ := by
  have HQ := Lib.hid hq
  have HQS := Lib.hid hqs
  have HML := Lib.hid hml
  have HQL := Lib.hid hql
  have HDL := Lib.hid hdl
  have HCD := Lib.hid (fun (w' : World) (h : Ch No w w') => clone_36 Ad data cd (by omega) w' (hd.keepNo h))
  rw [hdl] at HCD
  clear hq hqs hml hql hd hdl
  go_enter Try.func45, Try.ntmps45
  go_upto_region 1 with (fail)
  have HB : Hid (Row ((w.alloc (.cells #[.slice Aq ql cq, .bool has, .int .i64 tick, .slice Ad dl cd, .int .i64 lost] 36)).alloc (.cells #[.slice none 0 0, .bool false, .int .i64 0, .slice none 0 0, .int .i64 0] 36)) w.heap.size 36 [.slice Aq ql cq, .bool has, .int .i64 tick, .slice Ad dl cd, .int .i64 lost]) := (Row.new w 36 [.slice Aq ql cq, .bool has, .int .i64 tick, .slice Ad dl cd, .int .i64 lost]).alloc _
  have HZ : Hid (Row ((w.alloc (.cells #[.slice Aq ql cq, .bool has, .int .i64 tick, .slice Ad dl cd, .int .i64 lost] 36)).alloc (.cells #[.slice none 0 0, .bool false, .int .i64 0, .slice none 0 0, .int .i64 0] 36)) (w.heap.size + 1) 36 [.slice none 0 0, .bool false, .int .i64 0, .slice none 0 0, .int .i64 0]) := Row.new_at (w.alloc (.cells #[.slice Aq ql cq, .bool has, .int .i64 tick, .slice Ad dl cd, .int .i64 lost] 36)) 36 [.slice none 0 0, .bool false, .int .i64 0, .slice none 0 0, .int .i64 0] (by simp)
  have HC : Hid (Ch No w ((w.alloc (.cells #[.slice Aq ql cq, .bool has, .int .i64 tick, .slice Ad dl cd, .int .i64 lost] 36)).alloc (.cells #[.slice none 0 0, .bool false, .int .i64 0, .slice none 0 0, .int .i64 0] 36))) := ((Ch.refl _ _).alloc _).alloc _
  have HS1 : Hid (((w.alloc (.cells #[.slice Aq ql cq, .bool has, .int .i64 tick, .slice Ad dl cd, .int .i64 lost] 36)).alloc (.cells #[.slice none 0 0, .bool false, .int .i64 0, .slice none 0 0, .int .i64 0] 36)).heap.size = w.heap.size + 1 + 1) := by
    show _ = _
    simp
  generalize ((w.alloc (.cells #[.slice Aq ql cq, .bool has, .int .i64 tick, .slice Ad dl cd, .int .i64 lost] 36)).alloc (.cells #[.slice none 0 0, .bool false, .int .i64 0, .slice none 0 0, .int .i64 0] 36)) = w1 at *
  obtain ⟨R, hR⟩ : ∃ R, R = w.heap.size + 1 := ⟨_, rfl⟩
  rw [← hR] at HZ HS1 ⊢
  have HRR := Lib.hid hR
  obtain ⟨B, hB⟩ : ∃ B, B = w.heap.size := ⟨_, rfl⟩
  rw [← hB] at HB ⊢
  have HBB := Lib.hid hB
  clear hR hB
  have c4 : w1.cell? ⟨B, 4, none⟩ = some (.int .i64 lost) := by rw [HB.out.cell]; rfl
  have c3 : w1.cell? ⟨B, 3, none⟩ = some (.slice Ad dl cd) := by rw [HB.out.cell]; rfl
  have c0 : w1.cell? ⟨B, 0, none⟩ = some (.slice Aq ql cq) := by rw [HB.out.cell]; rfl
  have HMID : Hid (w1.rangeAt B 1 [.bool has, .int .i64 tick, .slice Ad dl cd]) := row_range HB.out 1 _ (fun j v hj => by
    match j, hj with
    | 0, hj => simpa using hj
    | 1, hj => simpa using hj
    | 2, hj => simpa using hj)
  go_upto_region 2 with (first | ((with_reducible refine at_op (o := ⟨some 9, _, _, _, _, _⟩) ?_); refine wpList_load_mid (op := ⟨some 9, _, _, _, _, _⟩) rfl 34 _ rfl B 1 rfl [.bool has, .int .i64 tick, .slice Ad dl cd] _ HMID.out Try.underlying34 rfl size34 ?_))
  have HO2 : Hid (Row (w1.alloc (.cells #[.slice none 0 0, .bool has, .int .i64 tick, .slice Ad dl cd, .int .i64 lost] 36)) w1.heap.size 36 [.slice none 0 0, .bool has, .int .i64 tick, .slice Ad dl cd, .int .i64 lost]) := Row.new w1 36 [.slice none 0 0, .bool has, .int .i64 tick, .slice Ad dl cd, .int .i64 lost]
  have HB2 := Lib.hid (HB.out.alloc (.cells #[.slice none 0 0, .bool has, .int .i64 tick, .slice Ad dl cd, .int .i64 lost] 36))
  have HZ2 := Lib.hid (HZ.out.alloc (.cells #[.slice none 0 0, .bool has, .int .i64 tick, .slice Ad dl cd, .int .i64 lost] 36))
  have HC2 := Lib.hid (HC.out.alloc (.cells #[.slice none 0 0, .bool has, .int .i64 tick, .slice Ad dl cd, .int .i64 lost] 36))
  generalize w1.alloc (.cells #[.slice none 0 0, .bool has, .int .i64 tick, .slice Ad dl cd, .int .i64 lost] 36) = w2 at *
  obtain ⟨O, hO⟩ : ∃ O, O = w1.heap.size := ⟨_, rfl⟩
  rw [← hO] at HO2 ⊢
  have HON : Hid (w.heap.size ≤ O ∧ B ≠ O ∧ R ≠ O) := by
    have h1 := HS1.out
    have h2 := HRR.out
    have h3 := HBB.out
    refine ⟨by omega, by omega, by omega⟩
  clear c0 c3 c4 hO HMID HB HZ HC
  have c3 : w2.cell? ⟨B, 3, none⟩ = some (.slice Ad dl cd) := by rw [HB2.out.cell]; rfl
  go_wp2_with (fail)
  refine (HCD.out _ HC2.out).mono ?_
  rintro e w3 ⟨vd, rfl, hod, hc3⟩
  obtain ⟨A3, k3, q3, rfl⟩ := own_slice hod
  have HOD : Hid (w3.ownsRow w.heap.size 2 1 (.slice A3 k3 q3) (ints data).length (ints data)) := own_low hod HC2.out.size
  have HO3 := Lib.hid (HO2.out.keepNo hc3)
  have HB3 := Lib.hid (HB2.out.keepNo hc3)
  have HZ3 := Lib.hid (HZ2.out.keepNo hc3)
  have HC3 := Lib.hid (HC2.out.then_ hc3)
  clear hod hc3 c3 HO2 HB2 HZ2 HC2
  have d3 : w3.cell? ⟨O, 3, none⟩ = some (.slice Ad dl cd) := by rw [HO3.out.cell]; rfl
  have f3 : w3.frozen? ⟨O, 3, none⟩ = false := HO3.out.frozen _
  go_upto_region 3 with (fail)
  have HCS : Hid (Ch (Is O) w3 (w3.setCell ⟨O, 3, none⟩ (.slice A3 k3 q3))) := Ch.setCell (D := Is O) (p := ⟨O, 3, none⟩) (Ch.refl _ _) (fun _ => rfl) _
  have HO4 : Hid (Row (w3.setCell ⟨O, 3, none⟩ (.slice A3 k3 q3)) O 36 [.slice none 0 0, .bool has, .int .i64 tick, .slice A3 k3 q3, .int .i64 lost]) := by
    have h := HO3.out.set_ 3 (.slice A3 k3 q3)
    exact h
  have HI4 : Hid (Cpi w (w3.setCell ⟨O, 3, none⟩ (.slice A3 k3 q3)) B R O [.slice Aq ql cq, .bool has, .int .i64 tick, .slice Ad dl cd, .int .i64 lost] data [] (.slice none 0 0) (.slice A3 k3 q3) []) := by
    refine ⟨HB3.out.keepIs HCS.out HON.out.2.1, HZ3.out.keepIs HCS.out HON.out.2.2, Qv.nil _, fun k hk => by simp [qblk] at hk, ?_, ch_newg HC3.out HCS.out HON.out.1⟩
    have h1 := owns_keepIs HOD.out HCS.out (own_ne_row HOD.out HO3.out (by decide))
    refine ⟨rfl, fun i v xs hv hx => ?_, fun i j v u k hij hv hu => ?_⟩
    · have hi : i = 0 := by
        have := (List.getElem?_eq_some_iff.1 hv).1
        simp at this
        exact this
      subst hi
      simp at hv hx
      subst hv hx
      exact ⟨h1, by rw [HDL.out]; exact hd6⟩
    · have hi := (List.getElem?_eq_some_iff.1 hv).1
      have hj := (List.getElem?_eq_some_iff.1 hu).1
      simp at hi hj
      omega
  generalize w3.setCell ⟨O, 3, none⟩ (.slice A3 k3 q3) = w4 at *
  clear d3 f3 HOD HO3 HB3 HZ3 HC3 HCS
  have c0 : w4.cell? ⟨B, 0, none⟩ = some (.slice Aq ql cq) := by rw [HI4.out.box.cell]; rfl
  go_wp2_with (fail)
  go_loopw [20] (fun i wr => ∃ (k : Nat) (vq : Value) (ms' : List Value), k ≤ ql ∧ i = .int .i64 k ∧ Hid (Cpi w wr B R O [.slice Aq ql cq, .bool has, .int .i64 tick, .slice Ad dl cd, .int .i64 lost] data (q.take k) vq (.slice A3 k3 q3) ms') ∧ Hid (Row wr O 36 [vq, .bool has, .int .i64 tick, .slice A3 k3 q3, .int .i64 lost])) (fun i _ => ql - (intOf i).toNat)
  case atStart => exact ⟨0, _, _, Nat.zero_le _, rfl, HI4, HO4⟩
  case round =>
    clear c0 HI4 HO4
    obtain ⟨k, vq, ms', hk, rfl, HI, HO⟩ := hrel
    by_cases hlt : k < ql
    · have e1 : decide ((k : Int) < (ql : Int)) = true := by simp; omega
      obtain ⟨xs, hxs⟩ : ∃ xs, q[k]? = some xs := ⟨_, List.getElem?_eq_getElem (by have := HQL.out; omega)⟩
      obtain ⟨m, hm⟩ : ∃ m, ms[k]? = some m := ⟨_, List.getElem?_eq_getElem (by have := HQL.out; have := HML.out; omega)⟩
      obtain ⟨ga, rfl, hca⟩ := HQ.out k m hm
      obtain ⟨hsm, hxl⟩ := HQS.out k m xs hm hxs
      obtain ⟨Am, cm, rfl, hAm, _⟩ := id hsm
      have hca' : wr.cell? (ga.add k) = some (.slice Am xs.length cm) := HI.out.ch.cell (not_no _) hca
      have HCL := Lib.hid (fun (w' : World) (h : Ch No wr w') => clone_36 Am xs cm hxl w' (hAm.keepNo (HI.out.ch.then_ h)))
      obtain ⟨xl, hxll⟩ : ∃ l, xs.length = l := ⟨_, rfl⟩
      have HXL := Lib.hid hxll
      rw [hxll] at hca' HCL
      have HXS := Lib.hid hxs
      have HX6 := Lib.hid hxl
      obtain ⟨A6, k6, q6, rfl⟩ := qv_slice HI.out.q
      have HML6 : Hid (ms'.length < 10000000) := by
        have h1 := HI.out.sep.len
        simp at h1
        have h2 := HQL.out
        show ms'.length < 10000000
        omega
      clear hca hsm hAm hxs hm hxl hxll
      go_upto_region 6 with (fail)
      refine wp_region_held (S := fun _ => True) (by kernel_rfl) ?_
      change wpAnyH _ _ _ _ _ _ _ _ wr.drew
      obtain ⟨w5, hw5⟩ : ∃ w5, w5 = wr.drew := ⟨_, rfl⟩
      rw [← hw5]
      have HC5 : Hid (Ch No wr w5) := by
        rw [hw5]
        exact (Ch.refl _ _).drew
      clear hw5 hca'
      refine wpAnyH_take (i := 0) (oi := ⟨some 24, _, _, _, _, _⟩) (v := .pointer (some ⟨O, 0, none⟩)) rfl (by kernel_rfl) (by kernel_rfl) (by kernel_rfl) (fun _ _ _ h => h) (Or.inl ⟨by rfl, fun _ _ => by kernel_rfl⟩) trivial ?_
      simp only [Act.put, List.setIfInBounds_toArray, List.set_cons_zero, List.set_cons_succ]
      refine wpAnyH_take (i := 2) (oi := ⟨some 26, _, _, _, _, _⟩) (v := .slice Am xl cm) rfl (by kernel_rfl) (by kernel_rfl) (by kernel_rfl) (fun _ _ _ h => h) (Or.inl ⟨by rfl, fun _ _ => by kernel_rfl⟩) trivial ?_
      simp only [Act.put, List.setIfInBounds_toArray, List.set_cons_zero, List.set_cons_succ]
      refine wpAnyH_norm 6 #[true, false, true, false, false, false, false, false] (by kernel_rfl) (by kernel_rfl) ?_
      refine wpAnyH_two (i := 1) (j := 3) (oi := ⟨some 25, _, _, _, _, _⟩) (oj := ⟨some 27, _, _, _, _, _⟩) (by kernel_rfl) rfl rfl (by rfl) (by rfl) ?_ ?_
      · refine wp_value (.slice A6 k6 q6) (exec_load_cell 31 (.tmp 24) rfl ⟨O, 0, none⟩ rfl _ Try.underlying31 rfl _ ((HO.out.keepNo HC5.out).cell 0)) ?_
        refine And.intro trivial ?_
        simp only [Act.put, List.setIfInBounds_toArray, List.set_cons_zero, List.set_cons_succ]
        refine wpAnyH_norm 5 #[true, true, true, false, false, false, false, false] (by kernel_rfl) (by kernel_rfl) ?_
        refine wpAnyH_one (i := 3) (o := ⟨some 27, _, _, _, _, _⟩) (by kernel_rfl) rfl (by rfl) ?_
        refine wp_call 36 #[.slice Am xl cm] (by kernel_rfl) ((HCL.out _ HC5.out).mono ?_)
        rintro e w6 ⟨v6, rfl, ho, hc6⟩
        have HO6 := Lib.hid ho
        have HC6 := Lib.hid hc6
        have HC56 := Lib.hid (HC5.out.then_ hc6)
        obtain ⟨A8, k8, q8, rfl⟩ := own_slice ho
        clear ho hc6
        refine ⟨_, rfl, trivial, ?_⟩
        simp only [Act.put, List.setIfInBounds_toArray, List.set_cons_zero, List.set_cons_succ]
        refine wpAnyH_norm 4 #[true, true, true, true, false, false, false, false] (by kernel_rfl) (by kernel_rfl) ?_
        refine wpAnyH_one (i := 4) (o := ⟨some 28, _, _, _, _, _⟩) (by kernel_rfl) rfl (by rfl) ?_
        obtain ⟨w7, hw7⟩ : ∃ w7, w7 = w6.alloc (.cells #[.slice A8 k8 q8] 32) := ⟨_, rfl⟩
        have HR7 : Hid (Row w7 w6.heap.size 32 [.slice A8 k8 q8]) := by
          rw [hw7]
          exact Row.new w6 32 _
        have HC7 : Hid (Ch No w6 w7) := by
          rw [hw7]
          exact (Ch.refl _ _).alloc _
        have HC57 := Lib.hid (HC56.out.then_ HC7.out)
        refine wp_value_to (w' := w7) (.slice (some ⟨w6.heap.size, 0, none⟩) 1 1) (by rw [hw7]; kernel_rfl) ?_
        clear hw7
        refine And.intro trivial ?_
        simp only [Act.put, List.setIfInBounds_toArray, List.set_cons_zero, List.set_cons_succ]
        refine wpAnyH_norm 3 #[true, true, true, true, true, false, false, false] (by kernel_rfl) (by kernel_rfl) ?_
        refine wpAnyH_one (i := 5) (o := ⟨some 29, _, _, _, _, _⟩) (by kernel_rfl) rfl (by rfl) ?_
        obtain ⟨v9, w9, hrun, hqa⟩ := qappend (HI.out.q.keepNo HC57.out) 31 HR7.out rfl HML6.out
        have HQA := Lib.hid hqa
        have HRUN := Lib.hid hrun
        obtain ⟨A9, k9, q9, rfl⟩ := qv_slice hqa.q
        have HO9 := Lib.hid ((HO.out.keepNo HC57.out).keep hqa.ch ((HI.out.q.keepNo HC57.out).ne_row (HO.out.keepNo HC57.out) (by decide)))
        clear hrun hqa
        refine Lib.wp_append_run w7 (.tmp 25) (.tmp 28) 31 31 rfl _ _ rfl rfl _ w9 HRUN.out ?_
        refine And.intro trivial ?_
        simp only [Act.put, List.setIfInBounds_toArray, List.set_cons_zero, List.set_cons_succ]
        refine wpAnyH_take (i := 6) (oi := ⟨some 30, _, _, _, _, _⟩) (v := .pointer (some ⟨O, 0, none⟩)) rfl (by kernel_rfl) (by kernel_rfl) (by kernel_rfl) (fun _ _ _ h => h) (Or.inl ⟨by rfl, fun _ _ => by kernel_rfl⟩) trivial ?_
        simp only [Act.put, List.setIfInBounds_toArray, List.set_cons_zero, List.set_cons_succ]
        refine wpAnyH_one (i := 7) (o := ⟨none, _, _, _, _, _⟩) (by kernel_rfl) rfl (by rfl) ?_
        refine wp_store_cell 31 (.tmp 30) (.tmp 29) rfl O 0 (.slice A9 k9 q9) rfl rfl rfl size31 (by rw [HO9.out.cell]; rfl) (HO9.out.frozen _) ?_
        refine And.intro trivial ?_
        simp only [Act.put, List.setIfInBounds_toArray, List.set_cons_zero, List.set_cons_succ]
        have HNEW := Lib.hid (HI.out.step HO.out HON.out HC56.out (HC5.out.size) HO6.out HX6.out HC7.out HQA.out HO9.out HXS.out)
        refine wpAnyH_done (by kernel_rfl) ?_ _
        go_wp2_with (fail)
        exact ⟨⟨k + 1, _, _, by omega, by go_num, HNEW.out.1, HNEW.out.2⟩, by simp [intOf]; omega⟩
      · refine wp_call 36 #[.slice Am xl cm] (by kernel_rfl) ((HCL.out _ HC5.out).mono ?_)
        rintro e w6 ⟨v6, rfl, ho, hc6⟩
        have HO6 := Lib.hid ho
        have HC6 := Lib.hid hc6
        have HC56 := Lib.hid (HC5.out.then_ hc6)
        obtain ⟨A8, k8, q8, rfl⟩ := own_slice ho
        clear ho hc6
        refine ⟨_, rfl, trivial, ?_⟩
        simp only [Act.put, List.setIfInBounds_toArray, List.set_cons_zero, List.set_cons_succ]
        refine wpAnyH_norm 5 #[true, false, true, true, false, false, false, false] (by kernel_rfl) (by kernel_rfl) ?_
        refine wpAnyH_two (i := 1) (j := 4) (oi := ⟨some 25, _, _, _, _, _⟩) (oj := ⟨some 28, _, _, _, _, _⟩) (by kernel_rfl) rfl rfl (by rfl) (by rfl) ?_ ?_
        · refine wp_value (.slice A6 k6 q6) (exec_load_cell 31 (.tmp 24) rfl ⟨O, 0, none⟩ rfl _ Try.underlying31 rfl _ ((HO.out.keepNo HC56.out).cell 0)) ?_
          refine And.intro trivial ?_
          simp only [Act.put, List.setIfInBounds_toArray, List.set_cons_zero, List.set_cons_succ]
          refine wpAnyH_norm 4 #[true, true, true, true, false, false, false, false] (by kernel_rfl) (by kernel_rfl) ?_
          refine wpAnyH_one (i := 4) (o := ⟨some 28, _, _, _, _, _⟩) (by kernel_rfl) rfl (by rfl) ?_
          obtain ⟨w7, hw7⟩ : ∃ w7, w7 = w6.alloc (.cells #[.slice A8 k8 q8] 32) := ⟨_, rfl⟩
          have HR7 : Hid (Row w7 w6.heap.size 32 [.slice A8 k8 q8]) := by
            rw [hw7]
            exact Row.new w6 32 _
          have HC7 : Hid (Ch No w6 w7) := by
            rw [hw7]
            exact (Ch.refl _ _).alloc _
          have HC57 := Lib.hid (HC56.out.then_ HC7.out)
          refine wp_value_to (w' := w7) (.slice (some ⟨w6.heap.size, 0, none⟩) 1 1) (by rw [hw7]; kernel_rfl) ?_
          clear hw7
          refine And.intro trivial ?_
          simp only [Act.put, List.setIfInBounds_toArray, List.set_cons_zero, List.set_cons_succ]
          refine wpAnyH_norm 3 #[true, true, true, true, true, false, false, false] (by kernel_rfl) (by kernel_rfl) ?_
          refine wpAnyH_one (i := 5) (o := ⟨some 29, _, _, _, _, _⟩) (by kernel_rfl) rfl (by rfl) ?_
          obtain ⟨v9, w9, hrun, hqa⟩ := qappend (HI.out.q.keepNo HC57.out) 31 HR7.out rfl HML6.out
          have HQA := Lib.hid hqa
          have HRUN := Lib.hid hrun
          obtain ⟨A9, k9, q9, rfl⟩ := qv_slice hqa.q
          have HO9 := Lib.hid ((HO.out.keepNo HC57.out).keep hqa.ch ((HI.out.q.keepNo HC57.out).ne_row (HO.out.keepNo HC57.out) (by decide)))
          clear hrun hqa
          refine Lib.wp_append_run w7 (.tmp 25) (.tmp 28) 31 31 rfl _ _ rfl rfl _ w9 HRUN.out ?_
          refine And.intro trivial ?_
          simp only [Act.put, List.setIfInBounds_toArray, List.set_cons_zero, List.set_cons_succ]
          refine wpAnyH_take (i := 6) (oi := ⟨some 30, _, _, _, _, _⟩) (v := .pointer (some ⟨O, 0, none⟩)) rfl (by kernel_rfl) (by kernel_rfl) (by kernel_rfl) (fun _ _ _ h => h) (Or.inl ⟨by rfl, fun _ _ => by kernel_rfl⟩) trivial ?_
          simp only [Act.put, List.setIfInBounds_toArray, List.set_cons_zero, List.set_cons_succ]
          refine wpAnyH_one (i := 7) (o := ⟨none, _, _, _, _, _⟩) (by kernel_rfl) rfl (by rfl) ?_
          refine wp_store_cell 31 (.tmp 30) (.tmp 29) rfl O 0 (.slice A9 k9 q9) rfl rfl rfl size31 (by rw [HO9.out.cell]; rfl) (HO9.out.frozen _) ?_
          refine And.intro trivial ?_
          simp only [Act.put, List.setIfInBounds_toArray, List.set_cons_zero, List.set_cons_succ]
          have HNEW := Lib.hid (HI.out.step HO.out HON.out HC56.out (HC5.out.size) HO6.out HX6.out HC7.out HQA.out HO9.out HXS.out)
          refine wpAnyH_done (by kernel_rfl) ?_ _
          go_wp2_with (fail)
          exact ⟨⟨k + 1, _, _, by omega, by go_num, HNEW.out.1, HNEW.out.2⟩, by simp [intOf]; omega⟩
        · obtain ⟨w7, hw7⟩ : ∃ w7, w7 = w6.alloc (.cells #[.slice A8 k8 q8] 32) := ⟨_, rfl⟩
          have HR7 : Hid (Row w7 w6.heap.size 32 [.slice A8 k8 q8]) := by
            rw [hw7]
            exact Row.new w6 32 _
          have HC7 : Hid (Ch No w6 w7) := by
            rw [hw7]
            exact (Ch.refl _ _).alloc _
          have HC57 := Lib.hid (HC56.out.then_ HC7.out)
          refine wp_value_to (w' := w7) (.slice (some ⟨w6.heap.size, 0, none⟩) 1 1) (by rw [hw7]; kernel_rfl) ?_
          clear hw7
          refine And.intro trivial ?_
          simp only [Act.put, List.setIfInBounds_toArray, List.set_cons_zero, List.set_cons_succ]
          refine wpAnyH_norm 4 #[true, false, true, true, true, false, false, false] (by kernel_rfl) (by kernel_rfl) ?_
          refine wpAnyH_one (i := 1) (o := ⟨some 25, _, _, _, _, _⟩) (by kernel_rfl) rfl (by rfl) ?_
          refine wp_value (.slice A6 k6 q6) (exec_load_cell 31 (.tmp 24) rfl ⟨O, 0, none⟩ rfl _ Try.underlying31 rfl _ ((HO.out.keepNo HC57.out).cell 0)) ?_
          refine And.intro trivial ?_
          simp only [Act.put, List.setIfInBounds_toArray, List.set_cons_zero, List.set_cons_succ]
          refine wpAnyH_norm 3 #[true, true, true, true, true, false, false, false] (by kernel_rfl) (by kernel_rfl) ?_
          refine wpAnyH_one (i := 5) (o := ⟨some 29, _, _, _, _, _⟩) (by kernel_rfl) rfl (by rfl) ?_
          obtain ⟨v9, w9, hrun, hqa⟩ := qappend (HI.out.q.keepNo HC57.out) 31 HR7.out rfl HML6.out
          have HQA := Lib.hid hqa
          have HRUN := Lib.hid hrun
          obtain ⟨A9, k9, q9, rfl⟩ := qv_slice hqa.q
          have HO9 := Lib.hid ((HO.out.keepNo HC57.out).keep hqa.ch ((HI.out.q.keepNo HC57.out).ne_row (HO.out.keepNo HC57.out) (by decide)))
          clear hrun hqa
          refine Lib.wp_append_run w7 (.tmp 25) (.tmp 28) 31 31 rfl _ _ rfl rfl _ w9 HRUN.out ?_
          refine And.intro trivial ?_
          simp only [Act.put, List.setIfInBounds_toArray, List.set_cons_zero, List.set_cons_succ]
          refine wpAnyH_take (i := 6) (oi := ⟨some 30, _, _, _, _, _⟩) (v := .pointer (some ⟨O, 0, none⟩)) rfl (by kernel_rfl) (by kernel_rfl) (by kernel_rfl) (fun _ _ _ h => h) (Or.inl ⟨by rfl, fun _ _ => by kernel_rfl⟩) trivial ?_
          simp only [Act.put, List.setIfInBounds_toArray, List.set_cons_zero, List.set_cons_succ]
          refine wpAnyH_one (i := 7) (o := ⟨none, _, _, _, _, _⟩) (by kernel_rfl) rfl (by rfl) ?_
          refine wp_store_cell 31 (.tmp 30) (.tmp 29) rfl O 0 (.slice A9 k9 q9) rfl rfl rfl size31 (by rw [HO9.out.cell]; rfl) (HO9.out.frozen _) ?_
          refine And.intro trivial ?_
          simp only [Act.put, List.setIfInBounds_toArray, List.set_cons_zero, List.set_cons_succ]
          have HNEW := Lib.hid (HI.out.step HO.out HON.out HC56.out (HC5.out.size) HO6.out HX6.out HC7.out HQA.out HO9.out HXS.out)
          refine wpAnyH_done (by kernel_rfl) ?_ _
          go_wp2_with (fail)
          exact ⟨⟨k + 1, _, _, by omega, by go_num, HNEW.out.1, HNEW.out.2⟩, by simp [intOf]; omega⟩
    · have e1 : decide ((k : Int) < (ql : Int)) = false := by simp; omega
      obtain rfl : k = ql := by omega
      obtain ⟨A6, k6, q6, rfl⟩ := qv_slice HI.out.q
      have HH : Hid (∀ u ∈ ([.slice A6 k6 q6, .bool has, .int .i64 tick, .slice A3 k3 q3, .int .i64 lost] : List Value), u.oneCell' = true) := by
        intro u hu
        simp at hu
        rcases hu with rfl | rfl | rfl | rfl | rfl <;> rfl
      go_wp2_with (first | ((with_reducible refine at_op (o := ⟨some 32, _, _, _, _, _⟩) ?_); refine pl_load (o := ⟨some 32, _, _, _, _, _⟩) rfl 36 _ rfl O rfl 36 [.slice A6 k6 q6, .bool has, .int .i64 tick, .slice A3 k3 q3, .int .i64 lost] HO.out _ Try.underlying36 rfl size36 ?_) | ((with_reducible refine at_op (o := ⟨none, .store 36 (.tmp 2) (.tmp 32), _, _, _, _⟩) ?_); refine wpList_store_agg (o := ⟨none, .store 36 (.tmp 2) (.tmp 32), _, _, _, _⟩) rfl 36 (.tmp 2) (.tmp 32) rfl R rfl 36 [.slice none 0 0, .bool false, .int .i64 0, .slice none 0 0, .int .i64 0] [.slice A6 k6 q6, .bool has, .int .i64 tick, .slice A3 k3 q3, .int .i64 lost] rfl HI.out.res size36 rfl HH.out ?_; intro w9 hr9 hc9; have HR9 := Lib.hid hr9; have HC9 := Lib.hid hc9; clear hr9 hc9))
      have hq1 : q.take k = q := List.take_of_length_le (by have := HQL.out; omega)
      refine bodyPost_ret (v := .agg #[.slice A6 k6 q6, .bool has, .int .i64 tick, .slice A3 k3 q3, .int .i64 lost]) (results_row rfl _ _ R 36 [.slice A6 k6 q6, .bool has, .int .i64 tick, .slice A3 k3 q3, .int .i64 lost] _ rfl HR9.out Try.underlying36 rfl size36) rfl ⟨_, _, ms', rfl, ?_⟩
      have hI := HI.out
      rw [hq1] at hI
      exact ⟨hI.q.keep HC9.out (fun k hk he => hI.q.ne_row hI.res (by decide) (he ▸ hk)), hI.qb, hI.sep.keep HC9.out (fun g L hg he => by
        have e : g = R := he
        subst e
        exact absurd (hg.eq_ hI.res).1 (by decide)), ch_newg hI.ch HC9.out (by have := HRR.out; omega)⟩
end Go.Proofs.Ytlokpcbiomjcnaa
