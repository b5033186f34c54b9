/- Maps of pointers, keyed by whole numbers: what a key leads to; look-up, store. -/
import Derived.Test.YtlokpcbiomjcnaaP
import Derived.Test.YtlokpcbiomjcnaaQ
import Derived.Test.YtlokpcbiomjcnaaProg
import Derived.Maps.OwnSet
set_option linter.unusedVariables false
set_option linter.unusedSimpArgs false
namespace Go.Proofs.Ytlokpcbiomjcnaa
open Go.RowKit Go.Maps

/-- the pointer to a block, or none -/
def ptrOf : Option Nat → Value
  | none => .pointer none
  | some b => .pointer (some ⟨b, 0, none⟩)
def ptrElem : Value → Option (DataW Unit × List MemPlace)
  | .pointer none => some (.lit (.bool false), [])
  | .pointer (some ⟨b, 0, none⟩) => some (.lit (.int .i64 b), [])
  | _ => none
theorem ptrElem_some (b : Nat) : ptrElem (.pointer (some ⟨b, 0, none⟩)) = some (.lit (.int .i64 b), []) := rfl
theorem ptrElem_none : ptrElem (.pointer none) = some (.lit (.bool false), []) := rfl
theorem ptrElem_inv {v : Value} {ps : List MemPlace} : ∀ {o : Option Nat}, ptrElem v = some ((match o with | none => .lit (.bool false) | some b => .lit (.int .i64 (b : Int))), ps) → v = ptrOf o := by
  intro o h
  unfold ptrElem at h
  split at h
  · cases o with
    | none => rfl
    | some b => simp at h
  · cases o with
    | none => simp at h
    | some b =>
      simp at h
      obtain ⟨h, _⟩ := h
      simp [ptrOf, h]
  · cases h
theorem wf_of {i : Int} (h1 : -9223372036854775808 ≤ i) (h2 : i ≤ 9223372036854775807) : (Lit.int .i64 i).wf = true := by
  simp [Lit.wf, IntKind.min, IntKind.max, IntKind.signed, IntKind.bits, h1, h2]
theorem keyLit (i : Int) : WideAt.IsKeyLit (.int .i64 i) := by
  first | trivial | simp [WideAt.IsKeyLit]
theorem key3 {i : Int} (h : (Lit.int .i64 i).wf = true) : keyOf Try.prog 3 (.int .i64 i) = some (.int .i64 i) := keyOf_int_mk Try.underlying3 h
theorem keyed3 : Keyed Try.prog 3 := int_keyed Try.underlying3
theorem zero93 (w : World) : (zeroValue 93).run Try.prog w = .ok (.pointer none) w := by kernel_rfl
/-- block M is a map: key i leads to the block f i -/
def PM (w : World) (M n : Nat) (f : Int → Option Nat) : Prop := ∃ D : DataW Unit, w.ownsMap Try.prog 3 ptrElem M n D ∧
  ∀ i : Int, has D (.int .i64 i) = (f i).isSome ∧ D.atKey (.int .i64 i) (.lit (.bool false)) = (match f i with | none => .lit (.bool false) | some b => .lit (.int .i64 (b : Int)))
theorem PM.made (w : World) : PM (w.alloc (.map #[] 0)) w.heap.size 0 (fun _ => none) := ⟨.map [], World.ownsMap_made w _ _ _, fun i => ⟨rfl, rfl⟩⟩
theorem PM.lt {w : World} {M n : Nat} {f : Int → Option Nat} (h : PM w M n f) : M < w.heap.size := by
  obtain ⟨D, h, _⟩ := h
  exact h.lt
theorem PM.keep {D : Nat → Prop} {w w' : World} {M n : Nat} {f : Int → Option Nat} (h : PM w M n f) (hc : Ch D w w') (hd : ¬ D M) : PM w' M n f := by
  have hlt := h.lt
  obtain ⟨D, ⟨es, clock, hb, r⟩, h⟩ := h
  exact ⟨D, ⟨es, clock, (hc.block M hlt hd).trans hb, r⟩, h⟩
theorem PM.keepNo {w w' : World} {M n : Nat} {f : Int → Option Nat} (h : PM w M n f) (hc : Ch No w w') : PM w' M n f := h.keep hc (not_no _)
theorem PM.look {w : World} {M n : Nat} {f : Int → Option Nat} (h : PM w M n f) (i : Int) (hi : (Lit.int .i64 i).wf = true) : (Instr.lookup 90 (.map (some M)) (.int .i64 i) true).run Try.prog w = .ok (.tuple #[ptrOf (f i), .bool (f i).isSome]) w := by
  obtain ⟨D, h, hf⟩ := h
  obtain ⟨v, ps, hr, hv⟩ := h.look_ok keyed3 Try.underlying90 (zero93 w) ptrElem_none (key3 hi)
  rw [(hf i).2] at hv
  rw [hr, (hf i).1, ptrElem_inv hv]
theorem PM.look1 {w : World} {M n : Nat} {f : Int → Option Nat} (h : PM w M n f) (i : Int) (hi : (Lit.int .i64 i).wf = true) : (Instr.lookup 90 (.map (some M)) (.int .i64 i) false).run Try.prog w = .ok (ptrOf (f i)) w := by
  obtain ⟨D, h, hf⟩ := h
  obtain ⟨v, ps, hr, hv⟩ := h.lookup keyed3 Try.underlying90 (zero93 w) ptrElem_none (key3 hi)
  rw [(hf i).2] at hv
  rw [hr, ptrElem_inv hv]
/-- f, but i leads to b -/
def upd (f : Int → Option Nat) (i : Int) (b : Nat) : Int → Option Nat := fun j => if j = i then some b else f j
theorem PM.store {w : World} {M n : Nat} {f : Int → Option Nat} (h : PM w M n f) (i : Int) (b : Nat) (hi : (Lit.int .i64 i).wf = true) (hn : n < maxLen) : ∃ w', (Instr.mapUpdate 90 (.map (some M)) (.int .i64 i) (.pointer (some ⟨b, 0, none⟩))).run Try.prog w = .ok () w' ∧ PM w' M (n + 1) (upd f i b) ∧ Ch (Is M) w w' := by
  obtain ⟨D, h, hf⟩ := h
  have hm := h.isMap
  obtain ⟨w', hr, h', hg⟩ := h.update keyed3 Try.underlying90 hn (key3 hi) (ptrElem_some b)
  refine ⟨w', hr, ⟨_, h', fun j => ?_⟩, (Ch.of_grownBy hg).mono (fun k _ hk => by cases hk; rfl)⟩
  unfold upd
  by_cases hj : j = i
  · subst hj
    rw [if_pos rfl]
    exact ⟨has_put_same hm (keyLit j) _, atKey_put_same hm (keyLit j) _ _⟩
  · rw [if_neg hj]
    have hne : (Lit.int .i64 j) ≠ .int .i64 i := fun e => hj (by simpa using e)
    exact ⟨(has_put_other hne _).trans (hf j).1, (atKey_put_other hne _ _).trans (hf j).2⟩
theorem pl_mapput {w : World} {ops : Array Oper} {rest : List Oper} {o : Oper} {a : Act} {Q : Exit → Act → World → Prop} (hgd : o.guard = none) (m x v : Operand) (ho : o.op = .mapUpdate 90 m x v)
    {M n : Nat} {f : Int → Option Nat} (hm : a.eval m = .map (some M)) (i : Int) (b : Nat) (hx : a.eval x = .int .i64 i) (hv : a.eval v = .pointer (some ⟨b, 0, none⟩)) (h : PM w M n f) (hi : (Lit.int .i64 i).wf = true) (hn : n < maxLen)
    (hK : ∀ w', PM w' M (n + 1) (upd f i b) → Ch (Is M) w w' → wpList Try.prog ops Q rest (a.put o.dst undef) w') : wpList Try.prog ops Q (o :: rest) a w := by
  refine wpList_plain hgd fun K' hK' => ?_
  obtain ⟨w', hrun, r1, r2⟩ := h.store i b hi hn
  unfold Oper.wp
  simp [execOp, ho, hm, hx, hv, hrun, Result.andThen]
  exact hK' _ _ (hK w' r1 r2)
end Go.Proofs.Ytlokpcbiomjcnaa
