/- Ranging over a map of pointers: which keys are still to come. -/
import Derived.Test.YtlokpcbiomjcnaaF3
import Derived.Maps.RangeWalk
set_option linter.unusedVariables false
set_option linter.unusedSimpArgs false
namespace Go.Proofs.Ytlokpcbiomjcnaa
open Go.RowKit Go.Maps
/-- a range over a map, under way: block r iterates over block M; 'left': which keys are still to come -/
def PR (w : World) (M r n : Nat) (f : Int → Option Nat) (left : Int → Bool) (cnt : Nat) : Prop := ∃ (D : DataW Unit) (lf : Lit → Bool), w.ranges Try.prog 3 ptrElem M r n D lf cnt ∧ (∀ i : Int, lf (.int .i64 i) = left i) ∧
  ∀ i : Int, has D (.int .i64 i) = (f i).isSome ∧ D.atKey (.int .i64 i) (.lit (.bool false)) = (match f i with | none => .lit (.bool false) | some b => .lit (.int .i64 (b : Int)))
theorem PR.pm {w : World} {M r n cnt : Nat} {f : Int → Option Nat} {left : Int → Bool} (h : PR w M r n f left cnt) : PM w M n f := by
  obtain ⟨D, lf, h, _, hf⟩ := h
  exact ⟨D, h.owns, hf⟩
theorem PR.keep {D : Nat → Prop} {w w' : World} {M r n cnt : Nat} {f : Int → Option Nat} {left : Int → Bool} (h : PR w M r n f left cnt) (hc : Ch D w w') (hM : ¬ D M) (hr : ¬ D r) : PR w' M r n f left cnt := by
  obtain ⟨d, lf, ⟨es, clock, since, seen, c0, hb, F, hs, hD, hrr, rest⟩, hl, hf⟩ := h
  have h1 : M < w.heap.size := (Array.getElem?_eq_some_iff.1 hb).1
  have h2 : r < w.heap.size := (Array.getElem?_eq_some_iff.1 hrr).1
  exact ⟨d, lf, ⟨es, clock, since, seen, c0, (hc.block M h1 hM).trans hb, F, hs, hD, (hc.block r h2 hr).trans hrr, rest⟩, hl, hf⟩
theorem PR.keepNo {w w' : World} {M r n cnt : Nat} {f : Int → Option Nat} {left : Int → Bool} (h : PR w M r n f left cnt) (hc : Ch No w w') : PR w' M r n f left cnt := h.keep hc (not_no _) (not_no _)
theorem PR.lt {w : World} {M r n cnt : Nat} {f : Int → Option Nat} {left : Int → Bool} (h : PR w M r n f left cnt) : r < w.heap.size := by
  obtain ⟨d, lf, ⟨es, clock, since, seen, c0, hb, F, hs, hD, hrr, rest⟩, hl, hf⟩ := h
  exact (Array.getElem?_eq_some_iff.1 hrr).1
/-- an iterator's block is none of cells -/
theorem pr_row {w : World} {M r n cnt : Nat} {f : Int → Option Nat} {left : Int → Bool} (h : PR w M r n f left cnt) {E : Nat} {t : TypeId} {L : List Value} (hr : Row w E t L) : ¬ E = r := fun e => by
  obtain ⟨d, lf, ⟨es, clock, since, seen, c0, hb, F, hs, hD, hrr, rest⟩, hl, hf⟩ := h
  subst e
  unfold Row at hr
  rw [hr] at hrr
  cases hrr
theorem PR.left_eq {w : World} {M r n cnt : Nat} {f : Int → Option Nat} {left : Int → Bool} (h : PR w M r n f left cnt) : w.rangeLeft M r = cnt := by
  obtain ⟨d, lf, h, _⟩ := h
  exact h.left_eq
theorem pl_range {w : World} {ops : Array Oper} {rest : List Oper} {o : Oper} {a : Act} {Q : Exit → Act → World → Prop} (hg : o.guard = none) (m : Operand) (hop : o.op = Op.range 90 m) {M n : Nat} {f : Int → Option Nat} (hm : a.eval m = .map (some M)) (h : PM w M n f)
    (hK : ∀ w' cnt, PR w' M w.heap.size n f (fun i => (f i).isSome) cnt → Ch No w w' → wpList Try.prog ops Q rest (a.put o.dst (.pointer (some ⟨w.heap.size, 0, none⟩))) w') : wpList Try.prog ops Q (o :: rest) a w := by
  obtain ⟨D, hown, hf⟩ := h
  refine wpList_range_own w hg m 90 hop 3 93 keyed3 Try.underlying90 ptrElem M n D hm hown (fun w' hr hgr hsz => ?_)
  exact hK w' _ ⟨D, _, hr, fun i => (hf i).1, hf⟩ ((Ch.of_grownBy hgr).mono (fun k _ hk => by cases hk))
set_option maxRecDepth 100000 in
theorem pl_next {w : World} {ops : Array Oper} {rest : List Oper} {o : Oper} {a : Act} {Q : Exit → Act → World → Prop} (hg : o.guard = none) (it : Operand) (hop : o.op = Op.next it false) {M r n cnt : Nat} {f : Int → Option Nat} {left : Int → Bool}
    (hit : a.eval it = .pointer (some ⟨r, 0, none⟩)) (h : PR w M r n f left cnt)
    (hDone : (∀ i, left i = false) → wpList Try.prog ops Q rest (a.put o.dst (.tuple #[.bool false])) w)
    (hMore : ∀ (x : Int) (E : Nat) (w' : World) (cnt' : Nat), (Lit.int .i64 x).wf = true → f x = some E → left x = true → PR w' M r n f (fun i => left i && !(i == x)) cnt' → cnt' < cnt → Ch (Is r) w w' → (Instr.entry (.pointer (some ⟨r, 0, none⟩))).run Try.prog w' = .ok (.tuple #[.int .i64 x, .pointer (some ⟨E, 0, none⟩)]) w' →
      wpList Try.prog ops Q rest (a.put o.dst (.tuple #[.bool true, .int .i64 x, .pointer (some ⟨E, 0, none⟩)])) w') : wpList Try.prog ops Q (o :: rest) a w := by
  obtain ⟨D, lf, hr, hl, hf⟩ := h
  refine wpList_next_ranges w hg it hop 3 keyed3 ptrElem (fun x : Int => Value.int .i64 x) (fun v : Value => v) (fun key kl hk => ?_) (fun v y _ => ⟨v, rfl⟩) M r n D lf cnt hit hr (fun h0 hall => hDone (fun i => by rw [← hl]; exact hall _)) ?_
  · obtain ⟨x, rfl, _⟩ := keyOf_int_inv Try.underlying3 hk
    exact ⟨x, rfl⟩
  · intro x v kl y w' cnt' hk hlk hv hat hrg hlt hgr hsz hen
    obtain ⟨x', ex, rfl, hwx⟩ := keyOf_int_inv Try.underlying3 hk
    simp at ex
    subst ex
    cases hfx : f x with
    | none =>
      have h1 := (hf x).1
      rw [hfx] at h1
      have h2 := atKey_of_not_has h1 (.lit (.bool false))
      have h3 := atKey_of_not_has h1 (.lit (.bool true))
      rw [hat] at h2 h3
      rw [h2] at h3
      cases h3
    | some E =>
      have h1 := (hf x).2
      rw [hfx, hat] at h1
      obtain ⟨yd, yp⟩ := y
      simp only [] at h1
      subst h1
      have hvv : v = ptrOf (some E) := ptrElem_inv (o := some E) hv
      subst hvv
      refine hMore x E w' cnt' hwx hfx (by rw [← hl]; exact hlk) ⟨D, _, hrg, fun i => ?_, hf⟩ hlt ((Ch.of_grownBy hgr).mono (fun k _ hk => by cases hk; rfl)) hen
      simp only [hl]
      congr 1
      by_cases e : i = x
      · subst e
        simp [WideAt.sameKey_self (keyLit i)]
      · have : (Lit.int IntKind.i64 i).sameKey (.int .i64 x) = false := sameKey_ne (fun h => e (by simpa using h))
        simp [this, e]
end Go.Proofs.Ytlokpcbiomjcnaa
