/- told, walked. -/
import Derived.Test.YtlokpcbiomjcnaaH2
set_option linter.unusedVariables false
set_option linter.unusedSimpArgs false
namespace Go.Proofs.Ytlokpcbiomjcnaa
open Go.RowKit
/-- what is told, as a list of standings, behind writes elsewhere -/
theorem SO.stl {D : Nat → Prop} {w0 w w' : World} {gO n : Nat} {c : Nat → Rp} {ss : Nat → Ps} (h : SO w0 w gO n c ss) (hc : Ch D w w') (hD : ∀ k, w0.heap.size ≤ k → ¬ D k) (hn : n ≤ 1000) (hq : ∀ j, j < n → (ss j).q.length ≤ 10000000) : Stl w' (.slice (some ⟨gO, 0, none⟩) n n) ((List.range n).map ss) := by
  refine ⟨some ⟨gO, 0, none⟩, n, by simp, by simp; omega, fun i s hs => ?_⟩
  have hi : i < n := by
    have := (List.getElem?_eq_some_iff.1 hs).1
    simpa using this
  have hs' : s = ss i := by
    rw [List.getElem?_map, List.getElem?_range hi] at hs
    exact (Option.some.inj hs).symm
  subst hs'
  have hrow := h.row.keep hc (hD _ h.b)
  have hqv := (h.q i).keep hc (fun k hk => hD k (h.qb i k hk))
  obtain ⟨Aq, cq, hvq, hcl⟩ := hqv.cl
  have hsep := h.sep i
  have hown : ∀ (a : Nat) v xs, ((c i).vd :: (c i).ms)[a]? = some v → ((ss i).data :: (ss i).q)[a]? = some xs → Sl w' v xs := fun a v xs h1 h2 => by
    have ho := hsep.own a v xs h1 h2
    exact sl_own (owns_keep ho.1 hc (fun k hk => hD k (own_base_ ho.1 k hk))) (Nat.le_trans ho.2 (by decide))
  have hml : (c i).ms.length = (ss i).q.length := by
    have := hsep.len
    simpa using this
  obtain ⟨Ad, cd, hvd, hcd, hl⟩ := hown 0 _ _ rfl rfl
  refine ⟨⟨gO, 0, none⟩, scell (c i) (ss i), rfl, fun j u hj => ?_, Aq, (c i).ms, cq, Ad, cd, ?_, hml, hcl, fun a m xs h1 h2 => hown (a + 1) m xs (by simpa using h1) (by simpa using h2), hcd, by have := hq i hi; omega, hl⟩
  · have hj5 : j < 5 := (List.getElem?_eq_some_iff.1 hj).1
    refine ⟨_, rfl, ?_⟩
    rw [add_lit, add_lit, hrow.cell, flat_get _ _ (fun _ => rfl) _ (by omega)]
    rw [show (0 + i * 5 + j) / 5 = i by omega, show (0 + i * 5 + j) % 5 = j by omega]
    exact hj
  · rw [scell, hvq, hvd, hml]
/-- is this how the ports stand? -/
def Tells (part : Int) (qs : List Pt) (ss : Nat → Ps) (ls : List Ps) : Prop := ls.length = qs.length ∧ ∀ (j : Nat) p, qs[j]? = some p → ls[j]? = some (if p.part = part then ss j else ps0)
theorem Tells.eq {part : Int} {qs : List Pt} {ss : Nat → Ps} {ls : List Ps} (h : Tells part qs ss ls) {st : Nat → PnS} (hst : ∀ j, (st j).s = ss j) {ss' : Nat → Ps} (hs : ∀ j, j < qs.length → ss' j = sv part qs st j) : (List.range qs.length).map ss' = ls := by
  apply List.ext_getElem?
  intro j
  by_cases hj : j < qs.length
  · have hp : qs[j]? = some qs[j] := List.getElem?_eq_getElem hj
    rw [h.2 j _ hp, List.getElem?_map, List.getElem?_range hj]
    simp only [Option.map_some, hs j hj, sv, hp, hst]
  · rw [List.getElem?_eq_none (by simp; omega), List.getElem?_eq_none (by have := h.1; omega)]
theorem tells_sv {part : Int} {qs : List Pt} {st : Nat → PnS} (hq : ∀ j, (st j).s.q.length ≤ 10000000) (j : Nat) : (sv part qs st j).q.length ≤ 10000000 := by
  unfold sv
  split
  · split
    · exact hq j
    · simp [ps0]
  · simp [ps0]
set_option maxHeartbeats 8000000 in
set_option maxRecDepth 100000 in
theorem told_calls {b : Nat} {w : World} {G M : Nat} {f : Int → Option Nat} {part : Int} {qs : List Pt} {E : Nat → Nat} {c : Nat → Rp} {ss : Nat → Ps} (h : Po b w G M f part qs E c ss) (hl : qs.length ≤ 1000) {v : Value} {ls : List Ps} (hv : Stl w v ls) (ht : Tells part qs ss ls) :
    Calls Try.prog 12 #[.pointer (some ⟨G, 0, none⟩), v] w fun e w' => e = .returned (.bool true) ∧ Ch No w w' := by
  have HST := Lib.hid (fun (w' : World) (hc : Ch No w w') => state_calls (h.keepNo hc).pn hl)
  have HV := Lib.hid hv
  have HEQ := Lib.hid (fun (ss' : Nat → Ps) (hs : ∀ j, j < qs.length → ss' j = sv part qs (fun j => ⟨E j, (c j).vq, (c j).vd, (c j).ms, ss j⟩) j) => ht.eq (st := fun j => ⟨E j, (c j).vq, (c j).vd, (c j).ms, ss j⟩) (fun _ => rfl) hs)
  have HQ : Hid (∀ j, (sv part qs (fun j => ⟨E j, (c j).vq, (c j).vd, (c j).ms, ss j⟩) j).q.length ≤ 10000000) := tells_sv h.ql
  obtain ⟨A, cap, rfl, -, -⟩ := id hv
  obtain ⟨m, hm⟩ : ∃ m, ls.length = m := ⟨_, rfl⟩
  rw [hm] at HV ⊢
  obtain ⟨n, hn⟩ : ∃ n, qs.length = n := ⟨_, rfl⟩
  rw [hn] at HST HEQ hl
  have HLN := Lib.hid hl
  clear h hv ht hm hn hl
  go_enter Try.func12, Try.ntmps12
  go_wp2_with (fail)
  refine (HST.out _ (Ch.refl _ _)).mono ?_
  rintro e w1 ⟨g1, c1, s1, rfl, hso1, hs1⟩
  have HS1 := Lib.hid hso1
  have HE1 := Lib.hid (HEQ.out s1 hs1)
  have HQ1 : Hid (∀ j, j < n → (s1 j).q.length ≤ 10000000) := fun j hj => by rw [hs1 j hj]; exact HQ.out j
  have HC1 : Hid (Ch No w w1) := hso1.ch
  clear hso1 hs1
  go_wp2_with (fail)
  refine (HST.out _ HC1.out).mono ?_
  rintro e w2 ⟨g2, c2, s2, rfl, hso2, hs2⟩
  have HS2 := Lib.hid hso2
  have HE2 := Lib.hid (HEQ.out s2 hs2)
  have HQ2 : Hid (∀ j, j < n → (s2 j).q.length ≤ 10000000) := fun j hj => by rw [hs2 j hj]; exact HQ.out j
  have HC2 : Hid (Ch No w1 w2) := hso2.ch
  clear hso2 hs2
  go_wp2_with (fail)
  have ha2 : Stl w2 (.slice (some ⟨g1, 0, none⟩) n n) ls := by
    rw [← HE1.out]
    exact HS1.out.stl HC2.out (fun _ _ => not_no _) HLN.out HQ1.out
  refine (samestate_self ha2 ((HV.out.keepNo HC1.out).keepNo HC2.out)).mono ?_
  rintro e w3 ⟨rfl, hc3⟩
  have HC3 : Hid (Ch No w1 w3) := HC2.out.then_ hc3
  have HC23 := Lib.hid hc3
  clear hc3 ha2
  go_wp2_with (fail)
  refine (spoilt_calls HS1.out HC3.out HLN.out HQ1.out).mono ?_
  rintro e w4 ⟨rfl, hc4⟩
  have HC4 : Hid (Ch No w w4) := (HC1.out.then_ HC3.out).trans hc4 (fun i hi hd => by
    have := hd.1
    omega)
  have hb4 : Stl w4 (.slice (some ⟨g2, 0, none⟩) n n) ls := by
    rw [← HE2.out]
    refine (HS2.out.keepNo HC23.out).stl hc4 (fun k hk hd => ?_) HLN.out HQ2.out
    have := hd.2
    omega
  have HB4 := Lib.hid hb4
  clear hc4 hb4
  go_wp2_with (fail)
  refine (samestate_self HB4.out (HV.out.keepNo HC4.out)).mono ?_
  rintro e w5 ⟨rfl, hc5⟩
  have HC5 := Lib.hid (HC4.out.then_ hc5)
  clear hc5
  go_wp2_with (fail)
  refine (HST.out _ HC5.out).mono ?_
  rintro e w6 ⟨g6, c6, s6, rfl, hso6, hs6⟩
  have ha6 : Stl w6 (.slice (some ⟨g6, 0, none⟩) n n) ls := by
    rw [← HEQ.out s6 hs6]
    exact hso6.stl (Ch.refl No w6) (fun _ _ => not_no _) HLN.out (fun j hj => by rw [hs6 j hj]; exact HQ.out j)
  have HC6 : Hid (Ch No w w6) := HC5.out.then_ hso6.ch
  have HA6 := Lib.hid ha6
  clear hso6 hs6 ha6
  go_wp2_with (fail)
  refine (samestate_self HA6.out (HV.out.keepNo HC6.out)).mono ?_
  rintro e w7 ⟨rfl, hc7⟩
  have HC7 := Lib.hid (HC6.out.then_ hc7)
  clear hc7
  go_wp2
  go_ret
  exact ⟨rfl, HC7.out⟩
end Go.Proofs.Ytlokpcbiomjcnaa
