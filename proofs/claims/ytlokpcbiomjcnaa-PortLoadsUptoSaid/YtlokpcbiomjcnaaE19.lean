/- PortInOrder: how the ports of a partition, and what the statement keeps of them, stand; what a call changes. -/
import Derived.Test.YtlokpcbiomjcnaaE18
set_option linter.unusedVariables false
set_option linter.unusedSimpArgs false
namespace Go.Proofs.Ytlokpcbiomjcnaa
open Go.RowKit
/-- a message in memory of its own -/
def Mg (w : World) (m : Value) (xs : List Int) : Prop := ∃ g cap rest, m = .slice (some ⟨g, 0, none⟩) xs.length cap ∧ Row w g 2 (ints xs ++ rest) ∧ xs.length ≤ 10000000
def Mss (w : World) (ms : List Value) (q : List (List Int)) : Prop := ms.length = q.length ∧ ∀ (i : Nat) m xs, ms[i]? = some m → q[i]? = some xs → Mg w m xs
theorem Mg.of_owns {w : World} {b : Nat} {m : Value} {xs : List Int} (h : w.ownsRow b 2 1 m (ints xs).length (ints xs)) (hx : 0 < xs.length) (hl : xs.length ≤ 10000000) : Mg w m xs := by
  rcases owns_open h with ⟨_, h0⟩ | ⟨g, cap, rest, rfl, _, hr, _, _⟩
  · have : xs.length = 0 := by rw [← ints_length, h0]; rfl
    omega
  · rw [ints_length]
    exact ⟨g, cap, rest, rfl, hr, hl⟩
/-- what writes to no block of numbers keeps them -/
def Far (w : World) (D : Nat → Prop) (t : TypeId) : Prop := ∀ g L, Row w g t L → ¬ D g
theorem Mss.keep {D : Nat → Prop} {w w' : World} {ms : List Value} {q : List (List Int)} (h : Mss w ms q) (hc : Ch D w w') (hd : Far w D 2) : Mss w' ms q :=
  ⟨h.1, fun i m xs hm hx => by
    obtain ⟨g, cap, rest, e, hr, hl⟩ := h.2 i m xs hm hx
    exact ⟨g, cap, rest, e, hr.keep hc (hd g _ hr), hl⟩⟩
theorem Mss.nil (w : World) : Mss w [] [] := ⟨rfl, fun i m xs hm => by simp at hm⟩
theorem Mss.snoc {w : World} {ms : List Value} {q : List (List Int)} {m : Value} {xs : List Int} (h : Mss w ms q) (hm : Mg w m xs) : Mss w (ms ++ [m]) (q ++ [xs]) := by
  refine ⟨by simp [h.1], fun i m' xs' h1 h2 => ?_⟩
  have hl := h.1
  by_cases hi : i < ms.length
  · rw [List.getElem?_append_left hi] at h1
    rw [List.getElem?_append_left (by omega)] at h2
    exact h.2 i m' xs' h1 h2
  · have hi2 : i < (ms ++ [m]).length := (List.getElem?_eq_some_iff.1 h1).1
    simp at hi2
    obtain rfl : i = ms.length := by omega
    rw [List.getElem?_append_right (Nat.le_refl _)] at h1
    rw [List.getElem?_append_right (by omega)] at h2
    simp at h1
    rw [hl] at h2
    simp at h2
    subst h1 h2
    exact hm
theorem Mss.tail {w : World} {ms : List Value} {q : List (List Int)} {m : Value} {xs : List Int} (h : Mss w (m :: ms) (xs :: q)) : Mss w ms q ∧ Mg w m xs :=
  ⟨⟨by have := h.1; simpa using this, fun i m' xs' h1 h2 => h.2 (i + 1) m' xs' (by simpa using h1) (by simpa using h2)⟩, h.2 0 m xs rfl rfl⟩
/-- how one port stands, and what the statement keeps of it -/
structure PoS where
  E : Nat
  vq : Value
  has : Bool
  tick : Int
  vd : Value
  lost : Int
  ms : List Value
  q : List (List Int)
  vw : Value
  mw : List Value
  r : List (List Int)
  los : Int
structure Pi (w0 w : World) (X G M gW gL : Nat) (vp vx : Value) (f : Int → Option Nat) (part : Int) (ps : List Pt) (st : Nat → PoS) : Prop where
  box : Row w X 27 [vp, vx, .slice none 0 0]
  prt : w.ownsRow w0.heap.size 46 6 vx ps.length (pcells ps)
  hG : Row w G 92 [.map (some M), .int .i64 ps.length]
  hM : PM w M ps.length f
  ends : ∀ (j : Nat) p, ps[j]? = some p → p.part = part → f (j + 1) = some (st j).E ∧ Row w (st j).E 95 (ecells p (st j).vq (st j).has (st j).tick (st j).vd (st j).lost) ∧ w0.heap.size ≤ (st j).E ∧ (p.kind = 1 → (st j).has = false) ∧ (∃ A k c, (st j).vd = .slice A k c)
  none_ : ∀ i : Int, (∀ (j : Nat) p, ps[j]? = some p → p.part = part → i ≠ j + 1) → f i = none
  inj : ∀ (i j : Int) E, f i = some E → f j = some E → i = j
  qv : ∀ j, Qv w (st j).vq (st j).ms
  qw : ∀ j, Qv w (st j).vw (st j).mw
  mq : ∀ j, Mss w (st j).ms (st j).q
  mw : ∀ j, Mss w (st j).mw (st j).r
  qb : ∀ j k, qblk (st j).vq = some k → w0.heap.size ≤ k
  wb : ∀ j k, qblk (st j).vw = some k → w0.heap.size ≤ k
  dqq : ∀ i j k, qblk (st i).vq = some k → qblk (st j).vq = some k → i = j
  dww : ∀ i j k, qblk (st i).vw = some k → qblk (st j).vw = some k → i = j
  dqw : ∀ i j k, qblk (st i).vq = some k → ¬ qblk (st j).vw = some k
  rW : Row w gW 31 ((List.range ps.length).map fun j => (st j).vw)
  rL : Row w gL 3 ((List.range ps.length).map fun j => .int .i64 (st j).los)
  bW : w0.heap.size ≤ gW
  bL : w0.heap.size ≤ gL
  ch : Ch No w0 w
section
variable {w0 w : World} {X G M gW gL : Nat} {vp vx : Value} {f : Int → Option Nat} {part : Int} {ps : List Pt} {st : Nat → PoS}
theorem Pi.keepNo {w' : World} (h : Pi w0 w X G M gW gL vp vx f part ps st) (hc : Ch No w w') : Pi w0 w' X G M gW gL vp vx f part ps st where
  box := h.box.keepNo hc
  prt := owns_keepNo h.prt hc
  hG := h.hG.keepNo hc
  hM := h.hM.keepNo hc
  ends := fun j p hp he => by
    obtain ⟨h1, h2, h3⟩ := h.ends j p hp he
    exact ⟨h1, h2.keepNo hc, h3⟩
  none_ := h.none_
  inj := h.inj
  qv := fun j => (h.qv j).keepNo hc
  qw := fun j => (h.qw j).keepNo hc
  mq := fun j => (h.mq j).keep hc (fun _ _ _ => not_no _)
  mw := fun j => (h.mw j).keep hc (fun _ _ _ => not_no _)
  qb := h.qb
  wb := h.wb
  dqq := h.dqq
  dww := h.dww
  dqw := h.dqw
  rW := h.rW.keepNo hc
  rL := h.rL.keepNo hc
  bW := h.bW
  bL := h.bL
  ch := h.ch.then_ hc
/-- the port at hand -/
theorem Pi.at_ (h : Pi w0 w X G M gW gL vp vx f part ps st) {j : Nat} {p : Pt} (hp : ps[j]? = some p) (he : p.part = part) (hl : ps.length ≤ 1000) : At w G M ps.length ps.length f (j + 1) (st j).E p (st j).vq (st j).has (st j).tick (st j).vd (st j).lost := by
  obtain ⟨h1, h2, _⟩ := h.ends j p hp he
  have hj := (List.getElem?_eq_some_iff.1 hp).1
  exact ⟨h.hG, h.hM, wf_of (by omega) (by omega), h1, h2⟩
/-- a port's state, written anew -/
def updS (st : Nat → PoS) (j : Nat) (s : PoS) : Nat → PoS := fun i => if i = j then s else st i
theorem updS_self (st : Nat → PoS) (j : Nat) (s : PoS) : updS st j s j = s := by simp [updS]
theorem updS_other (st : Nat → PoS) {j i : Nat} (s : PoS) (h : i ≠ j) : updS st j s i = st i := by simp [updS, h]
theorem dq_far {w : World} {E : Nat} {vq : Value} {L : List Value} {ms : List Value} (hE : Row w E 95 L) (hq : Qv w vq ms) {t : TypeId} (h1 : t ≠ 95) (h2 : t ≠ 32) : Far w (Dq E vq) t := fun g L' hr hd => by
  rcases hd with rfl | hd
  · exact h1 (hr.eq_ hE).1
  · exact hq.ne_row hr h2 hd
/-- a call on one port -/
theorem Pi.port {w' : World} (h : Pi w0 w X G M gW gL vp vx f part ps st) {j : Nat} {p : Pt} (hp : ps[j]? = some p) (he : p.part = part) {vq' : Value} {has' : Bool} {tick' : Int} {vd' : Value} {lost' : Int} {ms' : List Value} {q' : List (List Int)}
    (hat : At w' G M ps.length ps.length f (j + 1) (st j).E p vq' has' tick' vd' lost') (hq : Qv w' vq' ms') (hm : Mss w' ms' q') (hc : Ch (Dq (st j).E (st j).vq) w w') (hb : ∀ k, qblk vq' = some k → qblk (st j).vq = some k ∨ w.heap.size ≤ k) (hh : p.kind = 1 → has' = false) (hv : ∃ A k c, vd' = .slice A k c) :
    Pi w0 w' X G M gW gL vp vx f part ps (updS st j { st j with vq := vq', has := has', tick := tick', vd := vd', lost := lost', ms := ms', q := q' }) := by
  obtain ⟨hfE, hE, hEb, _, _⟩ := h.ends j p hp he
  have hqj := h.qv j
  have far := fun (t : TypeId) (h1 : t ≠ 95) (h2 : t ≠ 32) => dq_far hE hqj (t := t) h1 h2
  have hlt : ∀ i k, qblk (st i).vq = some k → k < w.heap.size := fun i k hk => by
    obtain ⟨L, hL⟩ := (h.qv i).row hk
    exact hL.lt
  have hltw : ∀ i k, qblk (st i).vw = some k → k < w.heap.size := fun i k hk => by
    obtain ⟨L, hL⟩ := (h.qw i).row hk
    exact hL.lt
  refine ⟨h.box.keep hc (far 27 (by decide) (by decide) _ _ h.box), owns_keep h.prt hc (fun k hk => ?_), hat.hG, hat.hM, fun i p' hp' he' => ?_, h.none_, h.inj, fun i => ?_, fun i => ?_, fun i => ?_, fun i => ?_, fun i k hk => ?_, fun i k hk => ?_, fun a c k ha hc' => ?_, fun a c k ha hc' => ?_, fun a c k ha hc' => ?_, ?_, ?_, h.bW, h.bL, ?_⟩
  · obtain ⟨L, hL⟩ := own_row h.prt hk
    exact far 46 (by decide) (by decide) _ _ hL
  · by_cases e : i = j
    · subst e
      rw [updS_self]
      rw [hp] at hp'
      cases hp'
      exact ⟨hfE, hat.hE, hEb, hh, hv⟩
    · rw [updS_other _ _ e]
      obtain ⟨g1, g2, g3⟩ := h.ends i p' hp' he'
      refine ⟨g1, g2.keep hc (fun hd => ?_), g3⟩
      rcases hd with hd | hd
      · rw [hd] at g1
        have := h.inj _ _ _ g1 hfE
        omega
      · exact hqj.ne_row g2 (by decide) hd
  · by_cases e : i = j
    · subst e
      rw [updS_self]
      exact hq
    · rw [updS_other _ _ e]
      refine (h.qv i).keep hc (fun k hk hd => ?_)
      rcases hd with rfl | hd
      · exact (h.qv i).ne_row hE (by decide) hk
      · exact e (h.dqq i j k hk hd)
  · have e1 : (updS st j { st j with vq := vq', has := has', tick := tick', vd := vd', lost := lost', ms := ms', q := q' } i).vw = (st i).vw ∧ (updS st j { st j with vq := vq', has := has', tick := tick', vd := vd', lost := lost', ms := ms', q := q' } i).mw = (st i).mw := by
      by_cases e : i = j
      · subst e
        rw [updS_self]
        exact ⟨rfl, rfl⟩
      · rw [updS_other _ _ e]
        exact ⟨rfl, rfl⟩
    rw [e1.1, e1.2]
    refine (h.qw i).keep hc (fun k hk hd => ?_)
    rcases hd with rfl | hd
    · exact (h.qw i).ne_row hE (by decide) hk
    · exact h.dqw j i k hd hk
  · by_cases e : i = j
    · subst e
      rw [updS_self]
      exact hm
    · rw [updS_other _ _ e]
      exact (h.mq i).keep hc (far 2 (by decide) (by decide))
  · have e1 : (updS st j { st j with vq := vq', has := has', tick := tick', vd := vd', lost := lost', ms := ms', q := q' } i).mw = (st i).mw ∧ (updS st j { st j with vq := vq', has := has', tick := tick', vd := vd', lost := lost', ms := ms', q := q' } i).r = (st i).r := by
      by_cases e : i = j
      · subst e
        rw [updS_self]
        exact ⟨rfl, rfl⟩
      · rw [updS_other _ _ e]
        exact ⟨rfl, rfl⟩
    rw [e1.1, e1.2]
    exact (h.mw i).keep hc (far 2 (by decide) (by decide))
  · by_cases e : i = j
    · subst e
      rw [updS_self] at hk
      rcases hb k hk with h1 | h1
      · exact h.qb i k h1
      · exact Nat.le_trans h.ch.size h1
    · rw [updS_other _ _ e] at hk
      exact h.qb i k hk
  · have e1 : (updS st j { st j with vq := vq', has := has', tick := tick', vd := vd', lost := lost', ms := ms', q := q' } i).vw = (st i).vw := by
      by_cases e : i = j
      · subst e
        rw [updS_self]
      · rw [updS_other _ _ e]
    rw [e1] at hk
    exact h.wb i k hk
  · by_cases e1 : a = j
    · by_cases e2 : c = j
      · rw [e1, e2]
      · subst e1
        rw [updS_self] at ha
        rw [updS_other _ _ e2] at hc'
        rcases hb k ha with h1 | h1
        · exact h.dqq _ _ k h1 hc'
        · have := hlt _ _ hc'
          omega
    · rw [updS_other _ _ e1] at ha
      by_cases e2 : c = j
      · subst e2
        rw [updS_self] at hc'
        rcases hb k hc' with h1 | h1
        · exact h.dqq _ _ k ha h1
        · have := hlt _ _ ha
          omega
      · rw [updS_other _ _ e2] at hc'
        exact h.dqq _ _ k ha hc'
  · have e1 : ∀ i, (updS st j { st j with vq := vq', has := has', tick := tick', vd := vd', lost := lost', ms := ms', q := q' } i).vw = (st i).vw := fun i => by
      by_cases e : i = j
      · subst e
        rw [updS_self]
      · rw [updS_other _ _ e]
    rw [e1] at ha hc'
    exact h.dww _ _ k ha hc'
  · have e1 : ∀ i, (updS st j { st j with vq := vq', has := has', tick := tick', vd := vd', lost := lost', ms := ms', q := q' } i).vw = (st i).vw := fun i => by
      by_cases e : i = j
      · subst e
        rw [updS_self]
      · rw [updS_other _ _ e]
    rw [e1] at hc'
    by_cases e2 : a = j
    · subst e2
      rw [updS_self] at ha
      rcases hb k ha with h1 | h1
      · exact h.dqw _ _ k h1 hc'
      · have := hltw _ _ hc'
        omega
    · rw [updS_other _ _ e2] at ha
      exact h.dqw _ _ k ha hc'
  · have e1 : ((List.range ps.length).map fun i => (updS st j { st j with vq := vq', has := has', tick := tick', vd := vd', lost := lost', ms := ms', q := q' } i).vw) = (List.range ps.length).map fun i => (st i).vw := by
      apply List.map_congr_left
      intro i _
      by_cases e : i = j
      · subst e
        rw [updS_self]
      · rw [updS_other _ _ e]
    rw [e1]
    exact h.rW.keep hc (far 31 (by decide) (by decide) _ _ h.rW)
  · have e1 : ((List.range ps.length).map fun i => Value.int .i64 (updS st j { st j with vq := vq', has := has', tick := tick', vd := vd', lost := lost', ms := ms', q := q' } i).los) = (List.range ps.length).map fun i => Value.int .i64 (st i).los := by
      apply List.map_congr_left
      intro i _
      by_cases e : i = j
      · subst e
        rw [updS_self]
      · rw [updS_other _ _ e]
    rw [e1]
    exact h.rL.keep hc (far 3 (by decide) (by decide) _ _ h.rL)
  · refine h.ch.trans hc (fun k hk hd => ?_)
    rcases hd with rfl | hd
    · omega
    · have := h.qb j k hd
      omega
/-- what the statement keeps of a port, written anew -/
theorem Pi.wait {w' : World} (h : Pi w0 w X G M gW gL vp vx f part ps st) {j : Nat} {vw' : Value} {mw' : List Value} {r' : List (List Int)}
    (hr : Row w' gW 31 ((List.range ps.length).map fun i => if i = j then vw' else (st i).vw)) (hq : Qv w' vw' mw') (hm : Mss w' mw' r') (hc : Ch (fun k => k = gW ∨ qblk (st j).vw = some k) w w') (hb : ∀ k, qblk vw' = some k → qblk (st j).vw = some k ∨ w.heap.size ≤ k) :
    Pi w0 w' X G M gW gL vp vx f part ps (updS st j { st j with vw := vw', mw := mw', r := r' }) := by
  obtain ⟨s, hs⟩ : ∃ s, s = { st j with vw := vw', mw := mw', r := r' } := ⟨_, rfl⟩
  rw [← hs]
  have eE : ∀ i, (updS st j s i).E = (st i).E := fun i => by
    by_cases e : i = j
    · subst e
      rw [updS_self, hs]
    · rw [updS_other _ _ e]
  have evq : ∀ i, (updS st j s i).vq = (st i).vq ∧ (updS st j s i).has = (st i).has ∧ (updS st j s i).tick = (st i).tick ∧ (updS st j s i).vd = (st i).vd ∧ (updS st j s i).lost = (st i).lost ∧ (updS st j s i).ms = (st i).ms ∧ (updS st j s i).q = (st i).q ∧ (updS st j s i).los = (st i).los := fun i => by
    by_cases e : i = j
    · subst e
      rw [updS_self, hs]
      exact ⟨rfl, rfl, rfl, rfl, rfl, rfl, rfl, rfl⟩
    · rw [updS_other _ _ e]
      exact ⟨rfl, rfl, rfl, rfl, rfl, rfl, rfl, rfl⟩
  have evw : ∀ i, (updS st j s i).vw = if i = j then vw' else (st i).vw := fun i => by
    by_cases e : i = j
    · subst e
      rw [updS_self, hs, if_pos rfl]
    · rw [updS_other _ _ e, if_neg e]
  have hqj := h.qw j
  have far : ∀ t : TypeId, t ≠ 31 → t ≠ 32 → Far w (fun k => k = gW ∨ qblk (st j).vw = some k) t := fun t h1 h2 g L hg hd => by
    rcases hd with rfl | hd
    · exact h1 (hg.eq_ h.rW).1
    · exact hqj.ne_row hg h2 hd
  have hlt : ∀ i k, qblk (st i).vq = some k → k < w.heap.size := fun i k hk => by
    obtain ⟨L, hL⟩ := (h.qv i).row hk
    exact hL.lt
  have hltw : ∀ i k, qblk (st i).vw = some k → k < w.heap.size := fun i k hk => by
    obtain ⟨L, hL⟩ := (h.qw i).row hk
    exact hL.lt
  refine ⟨h.box.keep hc (far 27 (by decide) (by decide) _ _ h.box), owns_keep h.prt hc (fun k hk => ?_), h.hG.keep hc (far 92 (by decide) (by decide) _ _ h.hG), h.hM.keep hc (fun hd => ?_), fun i p' hp' he' => ?_, h.none_, h.inj, fun i => ?_, fun i => ?_, fun i => ?_, fun i => ?_, fun i k hk => ?_, fun i k hk => ?_, fun a c k ha hc' => ?_, fun a c k ha hc' => ?_, fun a c k ha hc' => ?_, ?_, ?_, h.bW, h.bL, ?_⟩
  · obtain ⟨L, hL⟩ := own_row h.prt hk
    exact far 46 (by decide) (by decide) _ _ hL
  · rcases hd with hd | hd
    · exact pm_row h.hM h.rW hd.symm
    · exact hqj.ne_map h.hM hd
  · obtain ⟨a1, a2, a3, a4, a5, a6, a7, a8⟩ := evq i
    rw [eE, a1, a2, a3, a4, a5]
    obtain ⟨g1, g2, g3⟩ := h.ends i p' hp' he'
    exact ⟨g1, g2.keep hc (far 95 (by decide) (by decide) _ _ g2), g3⟩
  · obtain ⟨a1, a2, a3, a4, a5, a6, a7, a8⟩ := evq i
    rw [a1, a6]
    refine (h.qv i).keep hc (fun k hk hd => ?_)
    rcases hd with rfl | hd
    · exact (h.qv i).ne_row h.rW (by decide) hk
    · exact h.dqw i j k hk hd
  · by_cases e : i = j
    · subst e
      rw [updS_self, hs]
      exact hq
    · rw [updS_other _ _ e]
      refine (h.qw i).keep hc (fun k hk hd => ?_)
      rcases hd with rfl | hd
      · exact (h.qw i).ne_row h.rW (by decide) hk
      · exact e (h.dww i j k hk hd)
  · obtain ⟨a1, a2, a3, a4, a5, a6, a7, a8⟩ := evq i
    rw [a6, a7]
    exact (h.mq i).keep hc (far 2 (by decide) (by decide))
  · by_cases e : i = j
    · subst e
      rw [updS_self, hs]
      exact hm
    · rw [updS_other _ _ e]
      exact (h.mw i).keep hc (far 2 (by decide) (by decide))
  · rw [(evq i).1] at hk
    exact h.qb i k hk
  · rw [evw] at hk
    by_cases e : i = j
    · rw [if_pos e] at hk
      rcases hb k hk with h1 | h1
      · exact h.wb j k h1
      · exact Nat.le_trans h.ch.size h1
    · rw [if_neg e] at hk
      exact h.wb i k hk
  · rw [(evq a).1] at ha
    rw [(evq c).1] at hc'
    exact h.dqq a c k ha hc'
  · rw [evw] at ha hc'
    by_cases e1 : a = j
    · by_cases e2 : c = j
      · rw [e1, e2]
      · rw [if_pos e1] at ha
        rw [if_neg e2] at hc'
        rcases hb k ha with h1 | h1
        · rw [e1]
          exact h.dww _ _ k h1 hc'
        · have := hltw _ _ hc'
          omega
    · rw [if_neg e1] at ha
      by_cases e2 : c = j
      · rw [if_pos e2] at hc'
        rcases hb k hc' with h1 | h1
        · rw [e2]
          exact h.dww _ _ k ha h1
        · have := hltw _ _ ha
          omega
      · rw [if_neg e2] at hc'
        exact h.dww _ _ k ha hc'
  · rw [(evq a).1] at ha
    rw [evw] at hc'
    by_cases e2 : c = j
    · rw [if_pos e2] at hc'
      rcases hb k hc' with h1 | h1
      · exact h.dqw _ _ k ha h1
      · have := hlt _ _ ha
        omega
    · rw [if_neg e2] at hc'
      exact h.dqw _ _ k ha hc'
  · have e1 : ((List.range ps.length).map fun i => (updS st j s i).vw) = (List.range ps.length).map fun i => if i = j then vw' else (st i).vw := List.map_congr_left (fun i _ => evw i)
    rw [e1]
    exact hr
  · have e1 : ((List.range ps.length).map fun i => Value.int .i64 (updS st j s i).los) = (List.range ps.length).map fun i => Value.int .i64 (st i).los := List.map_congr_left (fun i _ => by rw [(evq i).2.2.2.2.2.2.2])
    rw [e1]
    exact h.rL.keep hc (far 3 (by decide) (by decide) _ _ h.rL)
  · refine h.ch.trans hc (fun k hk hd => ?_)
    have := h.bW
    rcases hd with rfl | hd
    · omega
    · have := h.wb j k hd
      omega
/-- how many it has lost, as the statement keeps it -/
theorem Pi.lose {w' : World} (h : Pi w0 w X G M gW gL vp vx f part ps st) {j : Nat} {l' : Int} (hr : Row w' gL 3 ((List.range ps.length).map fun i => .int .i64 (if i = j then l' else (st i).los))) (hc : Ch (Is gL) w w') :
    Pi w0 w' X G M gW gL vp vx f part ps (updS st j { st j with los := l' }) := by
  obtain ⟨s, hs⟩ : ∃ s, s = { st j with los := l' } := ⟨_, rfl⟩
  rw [← hs]
  have ev : ∀ i, (updS st j s i).E = (st i).E ∧ (updS st j s i).vq = (st i).vq ∧ (updS st j s i).has = (st i).has ∧ (updS st j s i).tick = (st i).tick ∧ (updS st j s i).vd = (st i).vd ∧ (updS st j s i).lost = (st i).lost ∧ (updS st j s i).ms = (st i).ms ∧ (updS st j s i).q = (st i).q ∧ (updS st j s i).vw = (st i).vw ∧ (updS st j s i).mw = (st i).mw ∧ (updS st j s i).r = (st i).r := fun i => by
    by_cases e : i = j
    · subst e
      rw [updS_self, hs]
      exact ⟨rfl, rfl, rfl, rfl, rfl, rfl, rfl, rfl, rfl, rfl, rfl⟩
    · rw [updS_other _ _ e]
      exact ⟨rfl, rfl, rfl, rfl, rfl, rfl, rfl, rfl, rfl, rfl, rfl⟩
  have far : ∀ t : TypeId, t ≠ 3 → Far w (Is gL) t := fun t h1 g L hg hd => by
    have e : g = gL := hd
    subst e
    exact h1 (hg.eq_ h.rL).1
  refine ⟨h.box.keep hc (far 27 (by decide) _ _ h.box), owns_keep h.prt hc (fun k hk => ?_), h.hG.keep hc (far 92 (by decide) _ _ h.hG), h.hM.keep hc (fun hd => pm_row h.hM h.rL (show gL = M from (show M = gL from hd).symm)), fun i p' hp' he' => ?_, h.none_, h.inj, fun i => ?_, fun i => ?_, fun i => ?_, fun i => ?_, fun i k hk => ?_, fun i k hk => ?_, fun a c k ha hc' => ?_, fun a c k ha hc' => ?_, fun a c k ha hc' => ?_, ?_, ?_, h.bW, h.bL, ?_⟩
  · obtain ⟨L, hL⟩ := own_row h.prt hk
    exact far 46 (by decide) _ _ hL
  · obtain ⟨a0, a1, a2, a3, a4, a5, a6, a7, a8, a9, a10⟩ := ev i
    rw [a0, a1, a2, a3, a4, a5]
    obtain ⟨g1, g2, g3⟩ := h.ends i p' hp' he'
    exact ⟨g1, g2.keep hc (far 95 (by decide) _ _ g2), g3⟩
  · obtain ⟨a0, a1, a2, a3, a4, a5, a6, a7, a8, a9, a10⟩ := ev i
    rw [a1, a6]
    exact (h.qv i).keep hc (fun k hk hd => by
      have e : k = gL := hd
      subst e
      exact (h.qv i).ne_row h.rL (by decide) hk)
  · obtain ⟨a0, a1, a2, a3, a4, a5, a6, a7, a8, a9, a10⟩ := ev i
    rw [a8, a9]
    exact (h.qw i).keep hc (fun k hk hd => by
      have e : k = gL := hd
      subst e
      exact (h.qw i).ne_row h.rL (by decide) hk)
  · obtain ⟨a0, a1, a2, a3, a4, a5, a6, a7, a8, a9, a10⟩ := ev i
    rw [a6, a7]
    exact (h.mq i).keep hc (far 2 (by decide))
  · obtain ⟨a0, a1, a2, a3, a4, a5, a6, a7, a8, a9, a10⟩ := ev i
    rw [a9, a10]
    exact (h.mw i).keep hc (far 2 (by decide))
  · rw [(ev i).2.1] at hk
    exact h.qb i k hk
  · rw [(ev i).2.2.2.2.2.2.2.2.1] at hk
    exact h.wb i k hk
  · rw [(ev a).2.1] at ha
    rw [(ev c).2.1] at hc'
    exact h.dqq a c k ha hc'
  · rw [(ev a).2.2.2.2.2.2.2.2.1] at ha
    rw [(ev c).2.2.2.2.2.2.2.2.1] at hc'
    exact h.dww a c k ha hc'
  · rw [(ev a).2.1] at ha
    rw [(ev c).2.2.2.2.2.2.2.2.1] at hc'
    exact h.dqw a c k ha hc'
  · have e1 : ((List.range ps.length).map fun i => (updS st j s i).vw) = (List.range ps.length).map fun i => (st i).vw := List.map_congr_left (fun i _ => (ev i).2.2.2.2.2.2.2.2.1)
    rw [e1]
    exact h.rW.keep hc (far 31 (by decide) _ _ h.rW)
  · have e1 : ((List.range ps.length).map fun i => Value.int .i64 (updS st j s i).los) = (List.range ps.length).map fun i => .int .i64 (if i = j then l' else (st i).los) := List.map_congr_left (fun i _ => by
      by_cases e : i = j
      · subst e
        rw [updS_self, hs, if_pos rfl]
      · rw [updS_other _ _ e, if_neg e])
    rw [e1]
    exact hr
  · exact ch_newg h.ch hc h.bL
end
end Go.Proofs.Ytlokpcbiomjcnaa
