/- MemExact: Shelf.stands. -/
import Derived.Test.YtbllpojljdhnoaaD10
import Derived.ArgAppend
set_option linter.unusedVariables false
set_option linter.unusedSimpArgs false
namespace Go.Proofs.Ytbllpojljdhnoaa
open Go.RowKit
def Ge (b k : Nat) : Prop := b ≤ k
theorem Sg.at_ {b : Nat} {w : World} {p g : Nat} {its : List It} {AL AW : Option Addr} {n m cL cW : Nat} (h : Sg b w p g (its.map (·.l)) (its.map (·.u)) its (.slice AL n cL) (.slice AW m cW)) (i : Nat) (a : It) (hi : its[i]? = some a) :
    ∃ gL gW, AL = some ⟨gL, 0, none⟩ ∧ AW = some ⟨gW, 0, none⟩ ∧ w.cell? ⟨gL, i, none⟩ = some a.l ∧ w.cell? ⟨gW, i, none⟩ = some a.u ∧ (∃ L, Row w gL 22 L) ∧ ∃ L, Row w gW 22 L := by
  obtain ⟨gL, c1, e1, h1⟩ := own_at h.rl i a.l (by simp [hi])
  obtain ⟨gW, c2, e2, h2⟩ := own_at h.rw_ i a.u (by simp [hi])
  simp only [Value.slice.injEq] at e1 e2
  refine ⟨gL, gW, e1.1, e2.1, h1, h2, ?_, ?_⟩
  · exact own_row22 h.rl (k := gL) (by rw [e1.1]; rfl)
  · exact own_row22 h.rw_ (k := gW) (by rw [e2.1]; rfl)
theorem Sg.item {b : Nat} {w : World} {p g : Nat} {ls us : List Value} {its : List It} {vL vW : Value} (h : Sg b w p g ls us its vL vW) (i : Nat) (a : It) (hi : its[i]? = some a) :
    ∃ Al Au cu, a.l = .slice Al a.xs.length a.xs.length ∧ a.u = .slice Au a.xs.length cu ∧ (0 < a.xs.length → ∃ gl gu, Al = some ⟨gl, 0, none⟩ ∧ Au = some ⟨gu, 0, none⟩ ∧ gl ≠ gu ∧ b ≤ gl ∧ b ≤ gu ∧ Row w gl 2 (ints a.xs) ∧ ∃ rest, Row w gu 2 (ints a.xs ++ rest)) := by
  obtain ⟨h1, h2, _⟩ := h.it i a hi
  obtain ⟨Al, e1, f1⟩ := h1.form
  rcases owns_open h2.1 with ⟨hv, hx⟩ | ⟨gu, cu, rest, hv, hb, hr, hl, hm⟩
  · have h0 : a.xs.length = 0 := by rw [← ints_length, hx]; rfl
    exact ⟨Al, none, 0, e1, by rw [hv, h0], fun hp => by omega⟩
  · rw [ints_length] at hv
    refine ⟨Al, _, cu, e1, hv, fun hp => ?_⟩
    obtain ⟨gl, e3, hgl, hrl⟩ := f1 hp
    refine ⟨gl, gu, e3, rfl, fun e => ?_, hgl, hb, hrl, rest, hr⟩
    exact (h.dis i i a a gl hi hi).1 (by rw [e1, e3]; rfl) (by rw [hv, e]; rfl)
/-- a number written into both lists of an item -/
theorem Sh.set2 {b : Nat} {w : World} {p g : Nat} {its : List It} {vL vW : Value} (h : Sh b w p g its vL vW) (i j : Nat) (a : It) (hi : its[i]? = some a) {gl gu c c' : Nat} (hl : a.l = .slice (some ⟨gl, 0, none⟩) a.xs.length c) (hu : a.u = .slice (some ⟨gu, 0, none⟩) a.xs.length c') (hj : j < a.xs.length) (x : Int) :
    Sh b ((w.setCell ⟨gl, j, none⟩ (.int .i64 x)).setCell ⟨gu, j, none⟩ (.int .i64 x)) p g (its.set i ⟨a.l, a.u, a.xs.set j x⟩) vL vW ∧ Ch (Ge b) w ((w.setCell ⟨gl, j, none⟩ (.int .i64 x)).setCell ⟨gu, j, none⟩ (.int .i64 x)) := by
  obtain ⟨h1, h2, h3⟩ := h.it i a hi
  have hgl : b ≤ gl := h1.ol.own gl (by rw [hl]; rfl)
  have hgu : b ≤ gu := h2.own gu (by rw [hu]; rfl)
  have hne : gl ≠ gu := fun e => (h.dis i i a a gl hi hi).1 (by rw [hl]; rfl) (by rw [hu, e]; rfl)
  have c1 : Ch (Is gl) w (w.setCell ⟨gl, j, none⟩ (.int .i64 x)) := Ch.setCell (D := Is gl) (p := ⟨gl, j, none⟩) (Ch.refl _ w) (fun _ => rfl) _
  have c2 : Ch (Is gu) (w.setCell ⟨gl, j, none⟩ (.int .i64 x)) ((w.setCell ⟨gl, j, none⟩ (.int .i64 x)).setCell ⟨gu, j, none⟩ (.int .i64 x)) := Ch.setCell (D := Is gu) (p := ⟨gu, j, none⟩) (Ch.refl _ _) (fun _ => rfl) _
  have cc : Ch (fun k => k = gl ∨ k = gu) w ((w.setCell ⟨gl, j, none⟩ (.int .i64 x)).setCell ⟨gu, j, none⟩ (.int .i64 x)) := (c1.mono (fun k _ e => .inl e)).trans c2 (fun k _ e => .inr e)
  obtain ⟨L1, hL1⟩ := h1.ol.own_row (k := gl) (by rw [hl]; rfl)
  obtain ⟨L2, hL2⟩ := h2.own_row (k := gu) (by rw [hu]; rfl)
  have hty : ∀ k t L, Row w k t L → t ≠ 2 → ¬ (k = gl ∨ k = gu) := by
    intro k t L hr ht hk
    rcases hk with rfl | rfl
    · exact ht (hr.eq_ hL1).1
    · exact ht (hr.eq_ hL2).1
  have hlen : i < its.length := by
    rcases Nat.lt_or_ge i its.length with h | h
    · exact h
    · rw [List.getElem?_eq_none h] at hi
      cases hi
  have hget : its[i] = a := by rw [List.getElem?_eq_getElem hlen] at hi; exact Option.some.inj hi
  have m1 : (its.set i ⟨a.l, a.u, a.xs.set j x⟩).map (·.l) = its.map (·.l) := by
    rw [List.map_set]
    apply List.ext_getElem?
    intro q
    rw [List.getElem?_set]
    split
    · rename_i e
      subst e
      simp [hget, hlen]
    · rfl
  have m2 : (its.set i ⟨a.l, a.u, a.xs.set j x⟩).map (·.u) = its.map (·.u) := by
    rw [List.map_set]
    apply List.ext_getElem?
    intro q
    rw [List.getElem?_set]
    split
    · rename_i e
      subst e
      simp [hget, hlen]
    · rfl
  have hcase : ∀ (q : Nat) (z : It), (its.set i ⟨a.l, a.u, a.xs.set j x⟩)[q]? = some z → (q = i ∧ z = ⟨a.l, a.u, a.xs.set j x⟩) ∨ (q ≠ i ∧ its[q]? = some z) := by
    intro q z hz
    rw [List.getElem?_set] at hz
    split at hz
    · rename_i e
      subst e
      exact .inl ⟨rfl, (Option.some.inj hz).symm⟩
    · rename_i e
      exact .inr ⟨fun e' => e e'.symm, hz⟩
  have hown : ∀ (q : Nat) (z : It), (its.set i ⟨a.l, a.u, a.xs.set j x⟩)[q]? = some z → ∃ y, its[q]? = some y ∧ z.l = y.l ∧ z.u = y.u := by
    intro q z hz
    rcases hcase q z hz with ⟨rfl, rfl⟩ | ⟨_, hq⟩
    · exact ⟨a, hi, rfl, rfl⟩
    · exact ⟨z, hq, rfl, rfl⟩
  refine ⟨?_, cc.mono (fun k _ e => by rcases e with rfl | rfl <;> assumption)⟩
  unfold Sh
  rw [m1, m2]
  refine ⟨h.row.keep cc (hty _ _ _ h.row (by decide)), h.base, owns_keep h.rl cc (fun k hk => by obtain ⟨L, hL⟩ := own_row22 h.rl hk; exact hty _ _ _ hL (by decide)), owns_keep h.rw_ cc (fun k hk => by obtain ⟨L, hL⟩ := own_row22 h.rw_ hk; exact hty _ _ _ hL (by decide)), h.sep, fun q z hz => ?_, fun q z hz => ?_, fun q r z y k hz hy => ?_⟩
  · rcases hcase q z hz with ⟨rfl, rfl⟩ | ⟨hq, hz'⟩
    · refine ⟨?_, ?_, by rw [List.length_set]; exact h3⟩
      · have f1 : Fl b w (.slice (some ⟨gl, 0, none⟩) a.xs.length c) a.xs := by rw [← hl]; exact h1
        have hcc : c = a.xs.length := by
          rcases f1.1 with ⟨e, _⟩ | ⟨_, _, e, _⟩
          · cases e
          · cases e; rfl
        subst hcc
        have := (f1.set j x).keepD c2 (fun k hk e => by
          have e1 : gl = k := by simpa [Value.ownBlock] using hk
          exact hne (e1.trans e))
        show Fl b _ a.l _
        rw [hl]
        exact this
      · have o1 := h2.keepD c1 (fun k hk e => by
          rw [hu] at hk
          have e1 : gu = k := by simpa [Value.ownBlock] using hk
          exact hne (e.symm.trans e1.symm))
        show Ol b _ a.u _
        rcases owns_open o1.1 with ⟨hv, hx⟩ | ⟨g', cap, rest, hv, hb, hr, hl', hm⟩
        · rw [hu] at hv
          cases hv
        · have e1 : g' = gu := by
            rw [hu] at hv
            simp at hv
            exact hv.1.symm
          subst e1
          rw [hv]
          have hr' := hr.set_ j (.int .i64 x)
          rw [List.set_append_left _ _ (by rw [ints_length]; exact hj)] at hr'
          have e2 : (ints a.xs).set j (.int .i64 x) = ints (a.xs.set j x) := by simp [ints, List.map_set]
          rw [e2] at hr'
          refine ⟨?_, by rw [List.length_set]; exact h2.2⟩
          have := owns_mk hb hr' (by rw [ints_length, List.length_set, ← ints_length]; omega)
          rw [ints_length, List.length_set] at this
          rw [ints_length]
          have e3 : (ints a.xs).length + rest.length = cap := hl'
          rw [ints_length] at e3
          rw [e3] at this
          rw [ints_length, List.length_set]
          exact this
    · obtain ⟨k1, k2, k3⟩ := h.it q z hz'
      have hk : ∀ k, (z.l.ownBlock = some k ∨ z.u.ownBlock = some k) → ¬ (k = gl ∨ k = gu) := by
        intro k hk e
        have d1 := h.dis q i z a
        have d2 := h.dis i q a z
        have ol : a.l.ownBlock = some gl := by rw [hl]; rfl
        have ou : a.u.ownBlock = some gu := by rw [hu]; rfl
        rcases e with rfl | rfl <;> rcases hk with hk | hk
        · exact ((d1 k hz' hi).2 hq).1 hk ol
        · exact (d2 k hi hz').1 ol hk
        · exact (d1 k hz' hi).1 hk ou
        · exact ((d1 k hz' hi).2 hq).2 hk ou
      exact ⟨k1.keepD cc (fun k h => hk k (.inl h)), k2.keepD cc (fun k h => hk k (.inr h)), k3⟩
  · obtain ⟨y, hy, e1, e2⟩ := hown q z hz
    rw [e1, e2]
    exact h.ne q y hy
  · obtain ⟨z', hz', e1, e2⟩ := hown q z hz
    obtain ⟨y', hy', e3, e4⟩ := hown r y hy
    rw [e1, e2, e3, e4]
    exact h.dis q r z' y' k hz' hy'
end Go.Proofs.Ytbllpojljdhnoaa
