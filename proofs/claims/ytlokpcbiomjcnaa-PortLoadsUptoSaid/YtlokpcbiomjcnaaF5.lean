/- State: how all ports stand, told in new memory: what lasts in it. -/
import Derived.Test.YtlokpcbiomjcnaaF4
set_option linter.unusedVariables false
set_option linter.unusedSimpArgs false
namespace Go.Proofs.Ytlokpcbiomjcnaa
open Go.RowKit
theorem flat_get (f : Nat → List Value) (n : Nat) (hf : ∀ a, (f a).length = 5) (i : Nat) (hi : i < n * 5) : ((List.range n).flatMap f)[i]? = (f (i / 5))[i % 5]? := by
  have h1 : i / 5 < n := by omega
  have h2 : (List.range n)[i / 5]? = some (i / 5) := List.getElem?_range h1
  have h3 : i % 5 < (f (i / 5)).length := by rw [hf]; omega
  have h := flat_at f 5 hf (List.range n) (i / 5) (i / 5) h2 (i % 5) _ (List.getElem?_eq_getElem h3)
  rw [show i / 5 * 5 + i % 5 = i by omega] at h
  rw [h, List.getElem?_eq_getElem h3]
theorem flat_len (f : Nat → List Value) (n : Nat) (hf : ∀ a, (f a).length = 5) : ((List.range n).flatMap f).length = n * 5 := by
  rw [flat_length f 5 hf, List.length_range]
theorem flat_put (f : Nat → List Value) (n : Nat) (hf : ∀ a, (f a).length = 5) (j : Nat) (hj : j < n) (v : List Value) (hv : v.length = 5) : putL ((List.range n).flatMap f) (j * 5) v = (List.range n).flatMap fun i => if i = j then v else f i := by
  have hg : ∀ a, (if a = j then v else f a).length = 5 := fun a => by
    by_cases e : a = j
    · rw [if_pos e, hv]
    · rw [if_neg e, hf]
  have hl := flat_len f n hf
  apply List.ext_getElem?
  intro i
  rw [putL_get v _ (j * 5) i (by rw [hv, hl]; omega), hv]
  by_cases hi : i < n * 5
  · rw [flat_get _ n hg i hi, flat_get _ n hf i hi]
    by_cases hc : j * 5 ≤ i ∧ i < j * 5 + 5
    · rw [if_pos hc, if_pos (by omega)]
      congr 1
      omega
    · rw [if_neg hc, if_neg (by omega)]
  · rw [if_neg (by omega), List.getElem?_eq_none (by rw [hl]; omega), List.getElem?_eq_none (by rw [flat_len _ n hg]; omega)]
theorem made_flat (z : List Value) (hz : z.length = 5) (n : Nat) : (madeCells z.toArray (n * 5)).toList = (List.range n).flatMap fun _ => z := by
  apply List.ext_getElem?
  intro i
  by_cases hi : i < n * 5
  · rw [flat_get _ n (fun _ => hz) i hi]
    have h5 : i % 5 < z.length := by rw [hz]; omega
    simp [madeCells, hi, hz]
    rw [List.getElem?_eq_getElem h5]
    simp [h5]
  · rw [List.getElem?_eq_none (by simp [size_madeCells]; omega), List.getElem?_eq_none (by rw [flat_len _ n (fun _ => hz)]; omega)]
/-- one element of what State tells -/
structure Rp where
  vq : Value
  vd : Value
  ms : List Value
def rp0 : Rp := ⟨.slice none 0 0, .slice none 0 0, []⟩
def ps0 : Ps := ⟨[], false, 0, [], 0⟩
def scell (c : Rp) (s : Ps) : List Value := [c.vq, .bool s.has, .int .i64 s.tick, c.vd, .int .i64 s.lost]
theorem scell_len (c : Rp) (s : Ps) : (scell c s).length = 5 := rfl
/-- standings in new memory, no two lists of which share memory -/
structure SO (w0 w : World) (gO n : Nat) (c : Nat → Rp) (ss : Nat → Ps) : Prop where
  row : Row w gO 36 ((List.range n).flatMap fun j => scell (c j) (ss j))
  q : ∀ j, Qv w (c j).vq (c j).ms
  qb : ∀ j k, qblk (c j).vq = some k → w0.heap.size ≤ k
  sep : ∀ j, Sep w w0.heap.size ((c j).vd :: (c j).ms) ((ss j).data :: (ss j).q)
  dq : ∀ i j k, qblk (c i).vq = some k → qblk (c j).vq = some k → i = j
  ds : ∀ (i j a b : Nat) v u k, i ≠ j → ((c i).vd :: (c i).ms)[a]? = some v → ((c j).vd :: (c j).ms)[b]? = some u → v.ownBlock = some k → ¬ u.ownBlock = some k
  ch : Ch No w0 w
  b : w0.heap.size ≤ gO
theorem SO.keepNo {w0 w w' : World} {gO n : Nat} {c : Nat → Rp} {ss : Nat → Ps} (h : SO w0 w gO n c ss) (hc : Ch No w w') : SO w0 w' gO n c ss :=
  ⟨h.row.keepNo hc, fun j => (h.q j).keepNo hc, h.qb, fun j => (h.sep j).keepNo hc, h.dq, h.ds, h.ch.then_ hc, h.b⟩
theorem Sep.zero (w : World) (b : Nat) : Sep w b [.slice none 0 0] [[]] := by
  refine ⟨rfl, fun i v xs hv hx => ?_, fun i j v u k hij hv hu => ?_⟩
  · have hi : i = 0 := by
      have := (List.getElem?_eq_some_iff.1 hv).1
      simp at this
      exact this
    subst hi
    simp at hv hx
    subst hv hx
    exact ⟨owns_nil _ _ _ _, by simp⟩
  · have hi := (List.getElem?_eq_some_iff.1 hv).1
    have hj := (List.getElem?_eq_some_iff.1 hu).1
    simp at hi hj
    omega
theorem SO.start {w0 w : World} {gO n : Nat} (hr : Row w gO 36 ((List.range n).flatMap fun _ => scell rp0 ps0)) (hc : Ch No w0 w) (hb : w0.heap.size ≤ gO) : SO w0 w gO n (fun _ => rp0) (fun _ => ps0) := by
  refine ⟨hr, fun j => Qv.nil w, fun j k hk => by simp [rp0, qblk] at hk, fun j => Sep.zero w _, fun i j k hk => by simp [rp0, qblk] at hk, fun i j a b v u k hij hv hu hk => ?_, hc, hb⟩
  have ha := (List.getElem?_eq_some_iff.1 hv).1
  simp [rp0] at ha
  subst ha
  simp [rp0] at hv
  subst hv
  simp [Value.ownBlock] at hk
/-- one more is told -/
theorem SO.fill {w0 w w1 w2 : World} {gO n : Nat} {c : Nat → Rp} {ss : Nat → Ps} (h : SO w0 w gO n c ss) {j : Nat} {vq vd : Value} {ms : List Value} {s : Ps} (hcp : Cpy w w1 vq vd ms s) (hc2 : Ch (Is gO) w1 w2)
    (hr : Row w2 gO 36 ((List.range n).flatMap fun i => if i = j then scell ⟨vq, vd, ms⟩ s else scell (c i) (ss i))) :
    SO w0 w2 gO n (fun i => if i = j then ⟨vq, vd, ms⟩ else c i) (fun i => if i = j then s else ss i) := by
  have h1 := h.keepNo hcp.ch
  have hltq : ∀ i k, qblk (c i).vq = some k → k < w.heap.size := fun i k hk => by
    obtain ⟨L, hL⟩ := (h.q i).row hk
    exact hL.lt
  have hlts : ∀ (i a : Nat) v k, ((c i).vd :: (c i).ms)[a]? = some v → v.ownBlock = some k → k < w.heap.size := fun i a v k hv hk => by
    have ha : a < ((ss i).data :: (ss i).q).length := by
      rw [← (h.sep i).len]
      exact (List.getElem?_eq_some_iff.1 hv).1
    obtain ⟨L, hL⟩ := own_row ((h.sep i).own a v _ hv (List.getElem?_eq_getElem ha)).1 hk
    exact hL.lt
  have hnew : ∀ (a : Nat) v k, (vd :: ms)[a]? = some v → v.ownBlock = some k → w.heap.size ≤ k := fun a v k hv hk => by
    have ha : a < (s.data :: s.q).length := by
      rw [← hcp.sep.len]
      exact (List.getElem?_eq_some_iff.1 hv).1
    exact own_base_ (hcp.sep.own a v _ hv (List.getElem?_eq_getElem ha)).1 k hk
  have farO : ∀ t : TypeId, t ≠ 36 → Far w1 (Is gO) t := fun t ht g L hg he => by
    have e : g = gO := he
    subst e
    exact ht (hg.eq_ h1.row).1
  have keepQ : ∀ v ms', Qv w1 v ms' → Qv w2 v ms' := fun v ms' hq => hq.keep hc2 (fun k hk he => hq.ne_row h1.row (by decide) (he ▸ hk))
  refine ⟨?_, fun i => ?_, fun i k hk => ?_, fun i => ?_, fun a b k ha hb => ?_, fun a b x y v u k hab hv hu hk => ?_, ch_newg h1.ch hc2 h.b, h.b⟩
  · have e : ((List.range n).flatMap fun i => scell (if i = j then (⟨vq, vd, ms⟩ : Rp) else c i) (if i = j then s else ss i)) = (List.range n).flatMap fun i => if i = j then scell ⟨vq, vd, ms⟩ s else scell (c i) (ss i) := by
      congr 1
      funext i
      by_cases e : i = j
      · rw [if_pos e, if_pos e, if_pos e]
      · rw [if_neg e, if_neg e, if_neg e]
    rw [e]
    exact hr
  · by_cases e : i = j
    · simp only [if_pos e]
      exact keepQ _ _ hcp.q
    · simp only [if_neg e]
      exact keepQ _ _ (h1.q i)
  · by_cases e : i = j
    · simp only [if_pos e] at hk
      exact Nat.le_trans h.ch.size (hcp.qb k hk)
    · simp only [if_neg e] at hk
      exact h.qb i k hk
  · by_cases e : i = j
    · simp only [if_pos e]
      exact (hcp.sep.low h.ch.size).keep hc2 (farO 2 (by decide))
    · simp only [if_neg e]
      exact (h1.sep i).keep hc2 (farO 2 (by decide))
  · by_cases ea : a = j
    · by_cases eb : b = j
      · rw [ea, eb]
      · simp only [if_pos ea] at ha
        simp only [if_neg eb] at hb
        have g1 := hcp.qb k ha
        have g2 := hltq b k hb
        omega
    · simp only [if_neg ea] at ha
      by_cases eb : b = j
      · simp only [if_pos eb] at hb
        have g1 := hcp.qb k hb
        have g2 := hltq a k ha
        omega
      · simp only [if_neg eb] at hb
        exact h.dq a b k ha hb
  · by_cases ea : a = j
    · by_cases eb : b = j
      · exact absurd (ea.trans eb.symm) hab
      · simp only [if_pos ea] at hv
        simp only [if_neg eb] at hu
        intro he
        have g1 := hnew x v k hv hk
        have g2 := hlts b y u k hu he
        omega
    · simp only [if_neg ea] at hv
      by_cases eb : b = j
      · simp only [if_pos eb] at hu
        intro he
        have g1 := hnew y u k hu he
        have g2 := hlts a x v k hv hk
        omega
      · simp only [if_neg eb] at hu
        exact h.ds a b x y v u k hab hv hu hk
end Go.Proofs.Ytlokpcbiomjcnaa
