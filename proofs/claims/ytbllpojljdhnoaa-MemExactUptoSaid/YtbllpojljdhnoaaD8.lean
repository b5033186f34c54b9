/- MemExact: the shelf: lists handed out, and what each should hold. -/
import Derived.Test.YtbllpojljdhnoaaD7
set_option linter.unusedVariables false
set_option linter.unusedSimpArgs false
namespace Go.Proofs.Ytbllpojljdhnoaa
open Go.RowKit
theorem info22 : (Try.prog.info? 22).map (fun i => (i.zero, i.size, i.bytes)) = some (some (.slice none 0 0), 1, 24) := by kernel_rfl
structure It where
  l : Value
  u : Value
  xs : List Int
/-- what of the shelf lies where lists of lists lie -/
def NT (b : Nat) (w : World) (k : Nat) : Prop := b ≤ k ∧ ∃ t L, Row w k t L ∧ (t = 22 ∨ t = 46)
theorem Ch.nt {b : Nat} {a m c : World} (h : Ch (NT b a) a m) (k : Ch (NT b m) m c) : Ch (NT b a) a c := h.trans k (fun i hi hn => by
  by_cases hd : NT b a i
  · exact hd
  · obtain ⟨hb, t, L, hr, ht⟩ := hn
    exact ⟨hb, t, L, (h.block i hi hd).symm.trans hr, ht⟩)
theorem nt_no {b : Nat} {w : World} {k : Nat} {t : TypeId} {L : List Value} (hr : Row w k t L) (h1 : t ≠ 22) (h2 : t ≠ 46) : ¬ NT b w k := fun ⟨_, t', L', hr', ht⟩ => by
  have h := (hr.eq_ hr').1
  rcases ht with rfl | rfl
  · exact h1 h
  · exact h2 h
theorem Ch.low {b c : Nat} {w w' : World} (h : Ch (NT b w) w w') (hb : c ≤ b) : Ch (NT c w) w w' := h.mono (fun k _ ⟨hk, r⟩ => ⟨Nat.le_trans hb hk, r⟩)
def Dis (its : List It) : Prop := ∀ (i j : Nat) (a c : It) (k : Nat), its[i]? = some a → its[j]? = some c → (a.l.ownBlock = some k → ¬ c.u.ownBlock = some k) ∧ (i ≠ j → (a.l.ownBlock = some k → ¬ c.l.ownBlock = some k) ∧ (a.u.ownBlock = some k → ¬ c.u.ownBlock = some k))
structure Sg (b : Nat) (w : World) (p g : Nat) (ls us : List Value) (its : List It) (vL vW : Value) : Prop where
  row : Row w p 46 [vL, vW]
  base : b ≤ p
  rl : w.ownsRow b 22 1 vL ls.length ls
  rw_ : w.ownsRow b 22 1 vW us.length us
  sep : ∀ k, vL.ownBlock = some k → ¬ vW.ownBlock = some k
  it : ∀ (i : Nat) a, its[i]? = some a → Fl b w a.l a.xs ∧ Ol b w a.u a.xs ∧ a.xs.length ≤ 4096
  ne : ∀ (i : Nat) a, its[i]? = some a → ¬ a.l.ownBlock = some g ∧ ¬ a.u.ownBlock = some g
  dis : Dis its
def Sh (b : Nat) (w : World) (p g : Nat) (its : List It) (vL vW : Value) : Prop := Sg b w p g (its.map (·.l)) (its.map (·.u)) its vL vW
/-- the block of a list of numbers, of lists -/
theorem Ol.own_row {b : Nat} {w : World} {v : Value} {xs : List Int} (h : Ol b w v xs) {k : Nat} (hk : v.ownBlock = some k) : ∃ L, Row w k 2 L := by
  rcases owns_open h.1 with ⟨hv, hx⟩ | ⟨g, cap, rest, hv, hb, hr, hl, hm⟩
  · rw [hv] at hk
    simp [Value.ownBlock] at hk
  · rw [hv] at hk
    simp [Value.ownBlock] at hk
    subst hk
    exact ⟨_, hr⟩
theorem own_row22 {b n : Nat} {w : World} {v : Value} {vs : List Value} (h : w.ownsRow b 22 1 v n vs) {k : Nat} (hk : v.ownBlock = some k) : ∃ L, Row w k 22 L := by
  have hn : n = vs.length := by have := h.1; simp at this; exact this.symm
  subst hn
  rcases owns_open h with ⟨hv, hx⟩ | ⟨g, cap, rest, hv, hb, hr, hl, hm⟩
  · rw [hv] at hk
    simp [Value.ownBlock] at hk
  · rw [hv] at hk
    simp [Value.ownBlock] at hk
    subst hk
    exact ⟨_, hr⟩
theorem lt_of_row {w : World} {k : Nat} {t : TypeId} {L : List Value} (h : Row w k t L) : k < w.heap.size := h.lt
/-- what keeps the shelf: what hits no block of it -/
theorem Sg.keepA {D : Nat → Prop} {b : Nat} {w w' : World} {p g : Nat} {ls us : List Value} {its : List It} {vL vW : Value} (h : Sg b w p g ls us its vL vW) (hc : Ch D w w') (hp : ¬ D p) (hL : ∀ k, vL.ownBlock = some k → ¬ D k) (hW : ∀ k, vW.ownBlock = some k → ¬ D k) (h2 : ∀ (i : Nat) a k, its[i]? = some a → (a.l.ownBlock = some k ∨ a.u.ownBlock = some k) → ¬ D k) : Sg b w' p g ls us its vL vW where
  row := h.row.keep hc hp
  base := h.base
  rl := owns_keep h.rl hc hL
  rw_ := owns_keep h.rw_ hc hW
  sep := h.sep
  it := fun i a hi => ⟨(h.it i a hi).1.keepD hc (fun k hk => h2 i a k hi (.inl hk)), (h.it i a hi).2.1.keepD hc (fun k hk => h2 i a k hi (.inr hk)), (h.it i a hi).2.2⟩
  ne := h.ne
  dis := h.dis
theorem Sg.keepD {D : Nat → Prop} {b : Nat} {w w' : World} {p g : Nat} {ls us : List Value} {its : List It} {vL vW : Value} (h : Sg b w p g ls us its vL vW) (hc : Ch D w w') (hD : ∀ k t L, Row w k t L → (t = 22 ∨ t = 46) → ¬ D k) (h2 : ∀ (i : Nat) a k, its[i]? = some a → (a.l.ownBlock = some k ∨ a.u.ownBlock = some k) → ¬ D k) : Sg b w' p g ls us its vL vW :=
  h.keepA hc (hD _ _ _ h.row (.inr rfl)) (fun k hk => by obtain ⟨L, hL⟩ := own_row22 h.rl hk; exact hD _ _ _ hL (.inl rfl)) (fun k hk => by obtain ⟨L, hL⟩ := own_row22 h.rw_ hk; exact hD _ _ _ hL (.inl rfl)) h2
theorem Sg.keepNo {b : Nat} {w w' : World} {p g : Nat} {ls us : List Value} {its : List It} {vL vW : Value} (h : Sg b w p g ls us its vL vW) (hc : Ch No w w') : Sg b w' p g ls us its vL vW := h.keepD hc (fun _ _ _ _ _ => not_no _) (fun _ _ _ _ _ => not_no _)
theorem Sg.keepIs {b : Nat} {w w' : World} {p g : Nat} {ls us : List Value} {its : List It} {vL vW : Value} (h : Sg b w p g ls us its vL vW) (hc : Ch (Is g) w w') {L : List Value} (hg : Row w g 2 L) : Sg b w' p g ls us its vL vW :=
  h.keepD hc (fun k t L' hr ht e => by
    have e' : k = g := e
    subst e'
    have h := (hg.eq_ hr).1
    rcases ht with rfl | rfl <;> cases h) (fun i a k hi hk e => by
    have e' : k = g := e
    subst e'
    rcases hk with hk | hk
    · exact (h.ne i a hi).1 hk
    · exact (h.ne i a hi).2 hk)
/-- the items' blocks are of numbers -/
theorem Sg.two {b : Nat} {w : World} {p g : Nat} {ls us : List Value} {its : List It} {vL vW : Value} (h : Sg b w p g ls us its vL vW) (i : Nat) (a : It) (k : Nat) (hi : its[i]? = some a) (hk : a.l.ownBlock = some k ∨ a.u.ownBlock = some k) : ∃ L, Row w k 2 L := by
  rcases hk with hk | hk
  · exact (h.it i a hi).1.ol.own_row hk
  · exact (h.it i a hi).2.1.own_row hk
theorem Sg.push {b : Nat} {w : World} {p g : Nat} {ls us : List Value} {its : List It} {vL vW : Value} (h : Sg b w p g ls us its vL vW) {l u : Value} {xs : List Int} (hl : Fl b w l xs) (hu : Ol b w u xs) (hx : xs.length ≤ 4096)
    (h1 : ∀ k, l.ownBlock = some k → k ≠ g ∧ (∀ (i : Nat) a, its[i]? = some a → ¬ a.l.ownBlock = some k ∧ ¬ a.u.ownBlock = some k)) (h2 : ∀ k, u.ownBlock = some k → k ≠ g ∧ ¬ l.ownBlock = some k ∧ (∀ (i : Nat) a, its[i]? = some a → ¬ a.l.ownBlock = some k ∧ ¬ a.u.ownBlock = some k)) :
    Sg b w p g ls us (its ++ [⟨l, u, xs⟩]) vL vW where
  row := h.row
  base := h.base
  rl := h.rl
  rw_ := h.rw_
  sep := h.sep
  it := fun i a hi => by
    rw [List.getElem?_append] at hi
    split at hi
    · exact h.it i a hi
    · have : a = ⟨l, u, xs⟩ := by
        have h3 := List.mem_of_getElem? hi
        simpa using h3
      subst this
      exact ⟨hl, hu, hx⟩
  ne := fun i a hi => by
    rw [List.getElem?_append] at hi
    split at hi
    · exact h.ne i a hi
    · have : a = ⟨l, u, xs⟩ := by
        have h3 := List.mem_of_getElem? hi
        simpa using h3
      subst this
      exact ⟨fun e => (h1 g e).1 rfl, fun e => (h2 g e).1 rfl⟩
  dis := fun i j a c k hi hj => by
    rw [List.getElem?_append] at hi hj
    have hlast : ∀ {q : Nat} {z : It}, ([⟨l, u, xs⟩] : List It)[q]? = some z → z = ⟨l, u, xs⟩ ∧ q = 0 := by
      intro q z hz
      cases q with
      | zero => simp at hz; exact ⟨hz.symm, rfl⟩
      | succ q => simp at hz
    by_cases hi1 : i < its.length
    · rw [if_pos hi1] at hi
      by_cases hj1 : j < its.length
      · rw [if_pos hj1] at hj
        exact h.dis i j a c k hi hj
      · rw [if_neg hj1] at hj
        obtain ⟨rfl, _⟩ := hlast hj
        refine ⟨fun e1 e2 => ((h2 k e2).2.2 i a hi).1 e1, fun _ => ⟨fun e1 e2 => ((h1 k e2).2 i a hi).1 e1, fun e1 e2 => ((h2 k e2).2.2 i a hi).2 e1⟩⟩
    · rw [if_neg hi1] at hi
      obtain ⟨rfl, hiq⟩ := hlast hi
      by_cases hj1 : j < its.length
      · rw [if_pos hj1] at hj
        refine ⟨fun e1 e2 => ((h1 k e1).2 j c hj).2 e2, fun _ => ⟨fun e1 e2 => ((h1 k e1).2 j c hj).1 e2, fun e1 e2 => ((h2 k e1).2.2 j c hj).2 e2⟩⟩
      · rw [if_neg hj1] at hj
        obtain ⟨rfl, hjq⟩ := hlast hj
        refine ⟨fun e1 e2 => (h2 k e2).2.1 e1, fun hne => absurd (by omega) hne⟩
/-- one value more in the first column -/
theorem Sg.pushL {b : Nat} {w w2 : World} {p g : Nat} {ls us : List Value} {its : List It} {vL vW v2 l : Value} (h : Sg b w p g ls us its vL vW) (ho : w2.ownsRow b 22 1 v2 (ls ++ [l]).length (ls ++ [l])) (hg : (w.alloc (.cells #[l] 22)).grownBy w2 vL.ownBlock) (hat : v2.ownBlock = vL.ownBlock ∨ v2.ownBlock = some (w.alloc (.cells #[l] 22)).heap.size) :
    Sg b (w2.setCell ⟨p, 0, none⟩ v2) p g (ls ++ [l]) us its v2 vW ∧ Ch (NT b w) w (w2.setCell ⟨p, 0, none⟩ v2) := by
  have hc1 : Ch No w (w.alloc (.cells #[l] 22)) := (Ch.refl No w).alloc _
  have h1 := h.keepNo hc1
  have hc2 := Ch.of_grownBy hg
  have hlv : ∀ k, vL.ownBlock = some k → ∃ L, Row (w.alloc (.cells #[l] 22)) k 22 L := fun k hk => own_row22 h1.rl hk
  have hp : ¬ vL.ownBlock = some p := fun e => by
    obtain ⟨L, hL⟩ := hlv p e
    have := (hL.eq_ h1.row).1
    cases this
  have hv2 : ¬ v2.ownBlock = some p := by
    rcases hat with e | e
    · rw [e]; exact hp
    · rw [e]
      intro e2
      have h3 := h1.row.lt
      simp at e2 h3
      omega
  have hit : ∀ (i : Nat) a k, its[i]? = some a → (a.l.ownBlock = some k ∨ a.u.ownBlock = some k) → ¬ vL.ownBlock = some k := fun i a k hi hk e => by
    obtain ⟨L, hL⟩ := hlv k e
    obtain ⟨L', hL'⟩ := h1.two i a k hi hk
    have := (hL.eq_ hL').1
    cases this
  have hsep : ∀ k, v2.ownBlock = some k → ¬ vW.ownBlock = some k := fun k hk hk2 => by
    rcases hat with e | e
    · rw [e] at hk; exact h.sep k hk hk2
    · rw [e] at hk
      obtain ⟨L, hL⟩ := own_row22 h1.rw_ hk2
      have h3 := hL.lt
      simp at hk h3
      omega
  have row2 : Row w2 p 46 [vL, vW] := h1.row.keep hc2 hp
  have rw2 : w2.ownsRow b 22 1 vW us.length us := owns_keep h1.rw_ hc2 (fun k hk e => h.sep k e hk)
  have it2 : ∀ (i : Nat) a, its[i]? = some a → Fl b w2 a.l a.xs ∧ Ol b w2 a.u a.xs ∧ a.xs.length ≤ 4096 := fun i a hi => ⟨(h1.it i a hi).1.keepD hc2 (fun k hk => hit i a k hi (.inl hk)), (h1.it i a hi).2.1.keepD hc2 (fun k hk => hit i a k hi (.inr hk)), (h1.it i a hi).2.2⟩
  have hc3 : Ch (Is p) w2 (w2.setCell ⟨p, 0, none⟩ v2) := Ch.setCell (D := Is p) (p := ⟨p, 0, none⟩) (Ch.refl _ w2) (fun _ => rfl) v2
  have hpo : ∀ {v : Value} {n : Nat} {vs : List Value}, w2.ownsRow b 22 1 v n vs → ∀ k, v.ownBlock = some k → ¬ Is p k := fun hv k hk e => by
    have e' : k = p := e
    subst e'
    obtain ⟨L, hL⟩ := own_row22 hv hk
    have := (hL.eq_ row2).1
    cases this
  refine ⟨⟨row2.set_ 0 v2, h.base, owns_keep ho hc3 (hpo ho), owns_keep rw2 hc3 (hpo rw2), hsep, fun i a hi => ?_, h.ne, h.dis⟩, ?_⟩
  · have hq : ∀ k, (∃ L, Row w2 k 2 L) → ¬ Is p k := fun k hk e => by
      have e' : k = p := e
      subst e'
      obtain ⟨L, hL⟩ := hk
      have := (hL.eq_ row2).1
      cases this
    exact ⟨(it2 i a hi).1.keepD hc3 (fun k hk => hq k ((it2 i a hi).1.ol.own_row hk)), (it2 i a hi).2.1.keepD hc3 (fun k hk => hq k ((it2 i a hi).2.1.own_row hk)), (it2 i a hi).2.2⟩
  · have c1 : Ch (NT b w) w (w.alloc (.cells #[l] 22)) := hc1.mono (fun _ _ h => (not_no _ h).elim)
    have c2 : Ch (NT b w) w w2 := c1.trans hc2 (fun i hi e => by
      obtain ⟨L, hL⟩ := own_row22 h.rl e
      exact ⟨own_base_ h.rl i e, 22, L, hL, .inl rfl⟩)
    exact c2.trans hc3 (fun i hi e => by
      have e' : i = p := e
      subst e'
      exact ⟨h.base, 46, _, h.row, .inr rfl⟩)
/-- one value more in the second column -/
theorem Sg.pushW {b : Nat} {w w2 : World} {p g : Nat} {ls us : List Value} {its : List It} {vL vW v2 l : Value} (h : Sg b w p g ls us its vL vW) (ho : w2.ownsRow b 22 1 v2 (us ++ [l]).length (us ++ [l])) (hg : (w.alloc (.cells #[l] 22)).grownBy w2 vW.ownBlock) (hat : v2.ownBlock = vW.ownBlock ∨ v2.ownBlock = some (w.alloc (.cells #[l] 22)).heap.size) :
    Sg b (w2.setCell ⟨p, 1, none⟩ v2) p g ls (us ++ [l]) its vL v2 ∧ Ch (NT b w) w (w2.setCell ⟨p, 1, none⟩ v2) := by
  have hc1 : Ch No w (w.alloc (.cells #[l] 22)) := (Ch.refl No w).alloc _
  have h1 := h.keepNo hc1
  have hc2 := Ch.of_grownBy hg
  have hlv : ∀ k, vW.ownBlock = some k → ∃ L, Row (w.alloc (.cells #[l] 22)) k 22 L := fun k hk => own_row22 h1.rw_ hk
  have hp : ¬ vW.ownBlock = some p := fun e => by
    obtain ⟨L, hL⟩ := hlv p e
    have := (hL.eq_ h1.row).1
    cases this
  have hv2 : ¬ v2.ownBlock = some p := by
    rcases hat with e | e
    · rw [e]; exact hp
    · rw [e]
      intro e2
      have h3 := h1.row.lt
      simp at e2 h3
      omega
  have hit : ∀ (i : Nat) a k, its[i]? = some a → (a.l.ownBlock = some k ∨ a.u.ownBlock = some k) → ¬ vW.ownBlock = some k := fun i a k hi hk e => by
    obtain ⟨L, hL⟩ := hlv k e
    obtain ⟨L', hL'⟩ := h1.two i a k hi hk
    have := (hL.eq_ hL').1
    cases this
  have hsep : ∀ k, vL.ownBlock = some k → ¬ v2.ownBlock = some k := fun k hk2 hk => by
    rcases hat with e | e
    · rw [e] at hk; exact h.sep k hk2 hk
    · rw [e] at hk
      obtain ⟨L, hL⟩ := own_row22 h1.rl hk2
      have h3 := hL.lt
      simp at hk h3
      omega
  have row2 : Row w2 p 46 [vL, vW] := h1.row.keep hc2 hp
  have rw2 : w2.ownsRow b 22 1 vL ls.length ls := owns_keep h1.rl hc2 (fun k hk e => h.sep k hk e)
  have it2 : ∀ (i : Nat) a, its[i]? = some a → Fl b w2 a.l a.xs ∧ Ol b w2 a.u a.xs ∧ a.xs.length ≤ 4096 := fun i a hi => ⟨(h1.it i a hi).1.keepD hc2 (fun k hk => hit i a k hi (.inl hk)), (h1.it i a hi).2.1.keepD hc2 (fun k hk => hit i a k hi (.inr hk)), (h1.it i a hi).2.2⟩
  have hc3 : Ch (Is p) w2 (w2.setCell ⟨p, 1, none⟩ v2) := Ch.setCell (D := Is p) (p := ⟨p, 1, none⟩) (Ch.refl _ w2) (fun _ => rfl) v2
  have hpo : ∀ {v : Value} {n : Nat} {vs : List Value}, w2.ownsRow b 22 1 v n vs → ∀ k, v.ownBlock = some k → ¬ Is p k := fun hv k hk e => by
    have e' : k = p := e
    subst e'
    obtain ⟨L, hL⟩ := own_row22 hv hk
    have := (hL.eq_ row2).1
    cases this
  refine ⟨⟨row2.set_ 1 v2, h.base, owns_keep rw2 hc3 (hpo rw2), owns_keep ho hc3 (hpo ho), hsep, fun i a hi => ?_, h.ne, h.dis⟩, ?_⟩
  · have hq : ∀ k, (∃ L, Row w2 k 2 L) → ¬ Is p k := fun k hk e => by
      have e' : k = p := e
      subst e'
      obtain ⟨L, hL⟩ := hk
      have := (hL.eq_ row2).1
      cases this
    exact ⟨(it2 i a hi).1.keepD hc3 (fun k hk => hq k ((it2 i a hi).1.ol.own_row hk)), (it2 i a hi).2.1.keepD hc3 (fun k hk => hq k ((it2 i a hi).2.1.own_row hk)), (it2 i a hi).2.2⟩
  · have c1 : Ch (NT b w) w (w.alloc (.cells #[l] 22)) := hc1.mono (fun _ _ h => (not_no _ h).elim)
    have c2 : Ch (NT b w) w w2 := c1.trans hc2 (fun i hi e => by
      obtain ⟨L, hL⟩ := own_row22 h.rw_ e
      exact ⟨own_base_ h.rw_ i e, 22, L, hL, .inl rfl⟩)
    exact c2.trans hc3 (fun i hi e => by
      have e' : i = p := e
      subst e'
      exact ⟨h.base, 46, _, h.row, .inr rfl⟩)
end Go.Proofs.Ytbllpojljdhnoaa
