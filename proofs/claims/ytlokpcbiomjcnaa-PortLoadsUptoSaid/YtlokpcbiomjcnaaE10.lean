/- A partition's ports, made of an image: New. -/
import Derived.Test.YtlokpcbiomjcnaaE9
set_option linter.unusedVariables false
set_option linter.unusedSimpArgs false
namespace Go.Proofs.Ytlokpcbiomjcnaa
open Go.RowKit
theorem flat_at {α : Type} (f : α → List Value) (n : Nat) (hn : ∀ a, (f a).length = n) : ∀ (xs : List α) (k : Nat) (a : α), xs[k]? = some a → ∀ (j : Nat) v, (f a)[j]? = some v → (xs.flatMap f)[k * n + j]? = some v
  | [], k, a, h, _, _, _ => by simp at h
  | x :: xs, 0, a, h, j, v, hj => by
    simp at h
    subst h
    have hl : j < (f x).length := (List.getElem?_eq_some_iff.1 hj).1
    rw [List.flatMap_cons, Nat.zero_mul, Nat.zero_add, List.getElem?_append_left hl]
    exact hj
  | x :: xs, k + 1, a, h, j, v, hj => by
    have ih := flat_at f n hn xs k a (by simpa using h) j v hj
    have e : (k + 1) * n + j = (f x).length + (k * n + j) := by rw [hn, Nat.add_mul]; omega
    rw [List.flatMap_cons, e, List.getElem?_append_right (by omega)]
    simpa using ih
theorem flat_length {α : Type} (f : α → List Value) (n : Nat) (hn : ∀ a, (f a).length = n) : ∀ (xs : List α), (xs.flatMap f).length = xs.length * n
  | [] => by simp
  | x :: xs => by
    rw [List.flatMap_cons, List.length_append, flat_length f n hn xs, hn, List.length_cons, Nat.add_mul]
    omega
def pcells (ps : List Pt) : List Value := ps.flatMap Pt.cells
theorem pt_len (p : Pt) : p.cells.length = 6 := rfl
theorem pcells_len (ps : List Pt) : (pcells ps).length = ps.length * 6 := flat_length _ 6 pt_len ps
theorem pcells_range {w : World} {g : Nat} {ps : List Pt} {rest : List Value} (h : Row w g 46 (pcells ps ++ rest)) {k : Nat} {p : Pt} (hk : ps[k]? = some p) : w.rangeAt g (k * 6) p.cells :=
  row_range h _ _ (fun j v hj => by
    have h1 := flat_at Pt.cells 6 pt_len ps k p hk j v hj
    have h2 : (pcells ps)[k * 6 + j]? = some v := h1
    rw [List.getElem?_append_left (List.getElem?_eq_some_iff.1 h2).1]
    exact h2)
theorem size46 : (Try.prog.info? 46).map (·.size) = some 6 := by kernel_rfl
/-- a fresh end -/
def fresh (p : Pt) : List Value := ecells p (.slice none 0 0) false 0 (.slice none 0 0) 0
/-- what has been made of the first k ports -/
structure NewI (w wr : World) (G M : Nat) (part : Int) (ps : List Pt) (k : Nat) (f : Int → Option Nat) : Prop where
  row : Row wr G 92 [.map (some M), .int .i64 ps.length]
  map : PM wr M k f
  own : ∀ (j : Nat) p, j < k → ps[j]? = some p → p.part = part → ∃ E, f (j + 1) = some E ∧ Row wr E 95 (fresh p) ∧ w.heap.size ≤ E
  none : ∀ i : Int, (∀ (j : Nat) p, j < k → ps[j]? = some p → p.part = part → i ≠ j + 1) → f i = none
  inj : ∀ (i j : Int) E, f i = some E → f j = some E → i = j
  ch : Ch No w wr
  g : w.heap.size ≤ G
  m : w.heap.size ≤ M
theorem NewI.keepNo {w wr w' : World} {G M : Nat} {part : Int} {ps : List Pt} {k : Nat} {f : Int → Option Nat} (h : NewI w wr G M part ps k f) (hc : Ch No wr w') : NewI w w' G M part ps k f where
  row := h.row.keepNo hc
  map := h.map.keepNo hc
  own := fun j p hj hp he => by
    obtain ⟨E, h1, h2, h3⟩ := h.own j p hj hp he
    exact ⟨E, h1, h2.keepNo hc, h3⟩
  none := h.none
  inj := h.inj
  ch := h.ch.then_ hc
  g := h.g
  m := h.m
/-- a port of another partition -/
theorem NewI.skip {w wr : World} {G M : Nat} {part : Int} {ps : List Pt} {k : Nat} {f : Int → Option Nat} (h : NewI w wr G M part ps k f) {p : Pt} (hp : ps[k]? = some p) (hne : ¬ p.part = part) : NewI w wr G M part ps (k + 1) f where
  row := h.row
  map := by
    obtain ⟨D, h1, h2⟩ := h.map
    exact ⟨D, h1.mono (Nat.le_succ k), h2⟩
  own := fun j q hj hq he => by
    by_cases e : j = k
    · subst e
      rw [hp] at hq
      cases hq
      exact absurd he hne
    · exact h.own j q (by omega) hq he
  none := fun i hi => h.none i (fun j q hj hq he => hi j q (by omega) hq he)
  inj := h.inj
  ch := h.ch
  g := h.g
  m := h.m
/-- a map's block is none of cells -/
theorem pm_row {w : World} {M n : Nat} {f : Int → Option Nat} (h : PM w M n f) {E : Nat} {t : TypeId} {L : List Value} (hr : Row w E t L) : ¬ E = M := fun e => by
  obtain ⟨D, ⟨es, clock, hb, _⟩, _⟩ := h
  subst e
  unfold Row at hr
  rw [hr] at hb
  cases hb
/-- a port of one's own: its end is laid down, and the map leads to it -/
theorem NewI.put {w wr w1 : World} {G M : Nat} {part : Int} {ps : List Pt} {k : Nat} {f : Int → Option Nat} (h : NewI w wr G M part ps k f) {p : Pt} (hp : ps[k]? = some p) (hpt : p.part = part) {E : Nat} (hE : Row wr E 95 (fresh p)) (hEn : w.heap.size ≤ E) (hEf : ∀ i, ¬ f i = some E)
    (hm : PM w1 M (k + 1) (upd f (k + 1) E)) (hc : Ch (Is M) wr w1) : NewI w w1 G M part ps (k + 1) (upd f (k + 1) E) where
  row := h.row.keepIs hc (pm_row h.map h.row)
  map := hm
  own := fun j q hj hq he => by
    by_cases e : j = k
    · subst e
      rw [hp] at hq
      cases hq
      exact ⟨E, by simp [upd], hE.keepIs hc (pm_row h.map hE), hEn⟩
    · obtain ⟨E', h1, h2, h3⟩ := h.own j q (by omega) hq he
      refine ⟨E', ?_, h2.keepIs hc (pm_row h.map h2), h3⟩
      unfold upd
      rw [if_neg (by omega)]
      exact h1
  none := fun i hi => by
    unfold upd
    rw [if_neg (fun e => hi k p (by omega) hp hpt e)]
    exact h.none i (fun j q hj hq he => hi j q (by omega) hq he)
  inj := fun i j E' hi hj => by
    unfold upd at hi hj
    by_cases e1 : i = k + 1
    · by_cases e2 : j = k + 1
      · rw [e1, e2]
      · rw [if_pos e1] at hi
        rw [if_neg e2] at hj
        cases hi
        exact absurd hj (hEf j)
    · rw [if_neg e1] at hi
      by_cases e2 : j = k + 1
      · rw [if_pos e2] at hj
        cases hj
        exact absurd hi (hEf i)
      · rw [if_neg e2] at hj
        exact h.inj i j E' hi hj
  ch := h.ch.trans hc (fun i hi he => by
    have := h.m
    have e : i = M := he
    omega)
  g := h.g
  m := h.m
theorem wp_mapput {o : Oper} {a : Act} {w : World} {K : Act → World → Prop} {Q : Exit → Act → World → Prop} (m x v : Operand) (ho : o.op = .mapUpdate 90 m x v)
    {M n : Nat} {f : Int → Option Nat} (hm : a.eval m = .map (some M)) (i : Int) (b : Nat) (hx : a.eval x = .int .i64 i) (hv : a.eval v = .pointer (some ⟨b, 0, none⟩)) (h : PM w M n f) (hi : (Lit.int .i64 i).wf = true) (hn : n < maxLen)
    (hK : ∀ w', PM w' M (n + 1) (upd f i b) → Ch (Is M) w w' → K (a.put o.dst undef) w') : o.wp Try.prog a w K Q := by
  obtain ⟨w', hrun, r1, r2⟩ := h.store i b hi hn
  unfold Oper.wp
  simp [execOp, ho, hm, hx, hv, hrun, Result.andThen]
  exact hK w' r1 r2
end Go.Proofs.Ytlokpcbiomjcnaa
