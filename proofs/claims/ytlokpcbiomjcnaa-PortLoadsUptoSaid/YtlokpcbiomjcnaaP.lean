/- Arms for the walk over great frames, loads and stores of whole structs, regions that draw, orders by hand: for every seat. -/
import Derived.Test.YtlokpcbiomjcnaaK
import Derived.Deep.MidRow
import Derived.Deep.Onto
import Derived.Deep.CutBlock
import Derived.Deep.DeepCutAuto
import Derived.OrdersHeld
import Derived.Deep.RegionHeld3
set_option linter.unusedVariables false
set_option linter.unusedSimpArgs false
namespace Go.Proofs.Ytlokpcbiomjcnaa
open Go.RowKit
/-- the operation that stands next: fails at once under with_reducible -/
theorem at_op {P : Program} {ops : Array Oper} {rest : List Oper} {o : Oper} {a : Act} {Q : Exit → Act → World → Prop} {w : World} (h : wpList P ops Q (o :: rest) a w) : wpList P ops Q (o :: rest) a w := h
theorem pl_load {P : Program} {ops : Array Oper} {rest : List Oper} {o : Oper} {a : Act} {Q : Exit → Act → World → Prop} {w : World} (hgd : o.guard = none) (ty : TypeId) (x : Operand) (ho : o.op = .load ty x)
    (g : Nat) (hx : a.eval x = .pointer (some ⟨g, 0, none⟩)) (t : TypeId) (L : List Value) (hr : Row w g t L) (d : TypeDesc)
    (hu : P.underlying ty = some d) (hd : (match d with | .struct _ | .array _ _ => true | _ => false) = true) (hi : (P.info? ty).map (·.size) = some L.length)
    (h : wpList P ops Q rest (a.put o.dst (.agg L.toArray)) w) : wpList P ops Q (o :: rest) a w :=
  wpList_plain hgd fun _ hK => wp_load_row ty x ho g hx t L.toArray (0, 0) d hr hu hd (by simpa using hi) (hK _ _ h)
theorem pl_store {P : Program} {ops : Array Oper} {rest : List Oper} {o : Oper} {a : Act} {Q : Exit → Act → World → Prop} {w : World} (hgd : o.guard = none) (ty : TypeId) (x y : Operand) (ho : o.op = .store ty x y)
    (g : Nat) (hx : a.eval x = .pointer (some ⟨g, 0, none⟩)) (t : TypeId) (L L' : List Value) (hy : a.eval y = .agg L'.toArray) (hr : Row w g t L) (hi : (P.info? ty).map (·.size) = some L'.length) (hl : L'.length = L.length) (h1 : ∀ v ∈ L', v.oneCell' = true)
    (h : ∀ w', Row w' g t L' → Ch (Is g) w w' → wpList P ops Q rest (a.put o.dst undef) w') : wpList P ops Q (o :: rest) a w :=
  wpList_plain hgd fun _ hK => by
    refine wp_store_row ty x y ho g L'.toArray hx hy t L.toArray hr (by simpa using hi) (by simp [hl]) (by simpa using h1) ?_
    exact hK _ _ (h _ (hr.setRow _) (ch_setRow w g _))
theorem pl_value {P : Program} {ops : Array Oper} {rest : List Oper} {o : Oper} {a : Act} {Q : Exit → Act → World → Prop} {w : World} (hgd : o.guard = none) (v : Value)
    (hv : (execOp a.eval o).run P w = .ok (.value v) w) (h : wpList P ops Q rest (a.put o.dst v) w) : wpList P ops Q (o :: rest) a w :=
  wpList_plain hgd fun K hK => by
    unfold Oper.wp
    rw [hv]
    exact hK _ _ h
/-- a whole struct or array in the midst of a block is read, at a guarded operation too -/
theorem gd_load_mid {P : Program} {ops : Array Oper} {rest : List Oper} {o : Oper} {a : Act} {w : World} {Q : Exit → Act → World → Prop} (hw : Region.wanted o (yielded ops a.tmps) = true) (ty : TypeId) (x : Operand) (ho : o.op = .load ty x)
    (b off : Nat) (hx : a.eval x = .pointer (some ⟨b, off, none⟩)) (cs : List Value) (d : TypeDesc) (hc : w.rangeAt b off cs)
    (hu : P.underlying ty = some d) (hd : d.isRow = true) (hi : (P.info? ty).map (·.size) = some cs.length)
    (h : wpList P ops Q rest (a.put o.dst (.agg cs.toArray)) w) : wpList P ops Q (o :: rest) a w :=
  wpList_want hw fun _ hK => wp_load_mid ty x ho b off hx cs d hc hu hd hi (hK _ _ h)
theorem owns_keep {D : Nat → Prop} {w w' : World} {base : Nat} {e : TypeId} {size n : Nat} {v : Value} {xs : List Value} (h : w.ownsRow base e size v n xs) (hc : Ch D w w') (hd : ∀ k, v.ownBlock = some k → ¬ D k) : w'.ownsRow base e size v n xs := by
  refine ⟨h.1, h.2.imp id ?_⟩
  rintro ⟨g, cap, cur, hv, hb, hg, hr⟩
  refine ⟨g, cap, cur, hv, hb, (hc.block g (Array.getElem?_eq_some_iff.1 hg).1 (hd g (by rw [hv]; rfl))).trans hg, hr⟩
theorem owns_keepNo {w w' : World} {base : Nat} {e : TypeId} {size n : Nat} {v : Value} {xs : List Value} (h : w.ownsRow base e size v n xs) (hc : Ch No w w') : w'.ownsRow base e size v n xs := owns_keep h hc (fun _ _ => not_no _)
theorem owns_keepIs {w w' : World} {base g : Nat} {e : TypeId} {size n : Nat} {v : Value} {xs : List Value} (h : w.ownsRow base e size v n xs) (hc : Ch (Is g) w w') (hne : ¬ v.ownBlock = some g) : w'.ownsRow base e size v n xs := owns_keep h hc (fun k hk he => hne (by rw [hk]; exact congrArg some he))
theorem ch_newg {w w' : World} {g : Nat} {w0 : World} (hc : Ch No w0 w) (h : Ch (Is g) w w') (hg : w0.heap.size ≤ g) : Ch No w0 w' := hc.trans h (fun i hi he => by cases he; omega)

open Go.RowKit
def putL : List Value → Nat → List Value → List Value
  | L, _, [] => L
  | L, o, v :: r => putL (L.set o v) (o + 1) r
theorem row_setCells {g : Nat} {t : TypeId} : ∀ (vs : List Value) (o : Nat) (w : World) (L : List Value), Row w g t L → Row (w.setCells g o vs) g t (putL L o vs)
  | [], _, _, _, h => h
  | v :: r, o, w, L, h => row_setCells r (o + 1) _ _ (h.set_ o v)
theorem ch_setCells {g : Nat} : ∀ (vs : List Value) (o : Nat) (w : World), Ch (Is g) w (w.setCells g o vs)
  | [], _, w => Ch.refl _ w
  | v :: r, o, w => ((Ch.refl (Is g) w).setCell (p := ⟨g, o, none⟩) (fun _ => is_self g) v).trans (ch_setCells r (o + 1) _) (fun _ _ h => h)
theorem putL_get : ∀ (vs : List Value) (L : List Value) (o i : Nat), o + vs.length ≤ L.length → (putL L o vs)[i]? = if o ≤ i ∧ i < o + vs.length then vs[i - o]? else L[i]?
  | [], L, o, i, _ => by
    rw [if_neg (by simp only [List.length_nil]; omega)]
    rfl
  | v :: r, L, o, i, h => by
    simp only [List.length_cons] at h
    show (putL (L.set o v) (o + 1) r)[i]? = _
    rw [putL_get r (L.set o v) (o + 1) i (by rw [List.length_set]; omega)]
    simp only [List.length_cons]
    by_cases h1 : i = o
    · subst h1
      rw [if_neg (by omega), if_pos (by omega), List.getElem?_set_self (by omega)]
      simp
    · by_cases h2 : o + 1 ≤ i ∧ i < o + 1 + r.length
      · rw [if_pos h2, if_pos (by omega), show i - o = (i - (o + 1)) + 1 by omega]
        simp
      · rw [if_neg h2, if_neg (by omega), List.getElem?_set_ne (by omega)]
theorem row_range {w : World} {g : Nat} {t : TypeId} {L : List Value} (h : Row w g t L) (o : Nat) (vs : List Value) (hv : ∀ j v, vs[j]? = some v → L[o + j]? = some v) : w.rangeAt g o vs := fun j v hj => by rw [h.cell]; exact hv j v hj
/-- several cells of a block that is known whole are written -/
theorem pl_store_mid {P : Program} {ops : Array Oper} {rest : List Oper} {o : Oper} {a : Act} {Q : Exit → Act → World → Prop} {w : World} (hgd : o.guard = none) (ty : TypeId) (x y : Operand) (ho : o.op = .store ty x y)
    (g off : Nat) (hx : a.eval x = .pointer (some ⟨g, off, none⟩)) (t : TypeId) (L vs : List Value) (hy : a.eval y = .agg vs.toArray) (hr : Row w g t L) (hfit : off + vs.length ≤ L.length) (hi : (P.info? ty).map (·.size) = some vs.length) (h1 : ∀ v ∈ vs, v.oneCell' = true)
    (h : ∀ w', Row w' g t (putL L off vs) → Ch (Is g) w w' → wpList P ops Q rest (a.put o.dst undef) w') : wpList P ops Q (o :: rest) a w := by
  refine wpList_store_mid hgd ty x y ho g off vs.toArray hx hy (fun j hj => ?_) (by simpa using hi) (all_oneCell_toArray h1) ?_
  · have hj' : j < vs.length := by simpa using hj
    refine ⟨?_, hr.frozen _⟩
    rw [hr.cell, List.getElem?_eq_getElem (by omega)]
    rfl
  · have e : vs.toArray.toList = vs := by simp
    rw [e]
    exact h _ (row_setCells vs off w L hr) (ch_setCells vs off w)
theorem ch_new2 {D : Nat → Prop} {w w1 w2 : World} {g : Nat} (a : Ch D w w1) (b : Ch (Is g) w1 w2) (hg : w.heap.size ≤ g) : Ch D w w2 := a.trans b (fun i hi he => by cases he; omega)
theorem exec_cut {P : Program} {a : Act} {o : Oper} {w : World} (t e : TypeId) (x y : Operand) (ho : o.op = .slice t x none (some y) none) (hu : P.underlying t = some (.slice e)) (s : Nat) (hs : ∀ w, (sizeOf e).run P w = .ok s w) (g L cap n : Nat) (hx : a.eval x = .slice (some ⟨g, 0, none⟩) L cap) (hy : a.eval y = .int .i64 (n : Int)) (hn : n ≤ cap) (h63 : cap ≤ 9223372036854775807) :
    (execOp a.eval o).run P w = .ok (.value (.slice (some ⟨g, 0, none⟩) n cap)) w := by
  have hnn : (n : Int) ≤ (cap : Int) := by omega
  have h0 : (0 : Int) ≤ (n : Int) := by omega
  unfold execOp
  simp only [ho]
  generalize a.eval = ρ at *
  simp only [Option.map_some, Option.map_none, hx, hy]
  go_simp
theorem row_cl {w : World} {g : Nat} {t : TypeId} {L rest : List Value} (h : Row w g t (L ++ rest)) : Cl w (some ⟨g, 0, none⟩) L := by
  have := h.cl0.take L.length
  rwa [List.take_append_of_le_length (Nat.le_refl _), List.take_length] at this
/-- two operations may come next -/
theorem wpAnyH_two {P : Program} {md : Region.Mode} {ops : Array Oper} {Q : Exit → Act → World → Prop} {S : World → Prop} {i j fuel : Nat} {oi oj : Oper} {listed : Array Bool} {a : Act} {w : World} (hr : Region.ready md ops listed = [i, j]) (hi : ops[i]? = some oi) (hj : ops[j]? = some oj) (hwi : Region.wanted oi (yielded ops a.tmps) = true) (hwj : Region.wanted oj (yielded ops a.tmps) = true)
    (h1 : oi.wp P a w (fun a' w' => S w' ∧ wpAnyH P md ops Q S fuel (listed.setIfInBounds i true) a' w') Q) (h2 : oj.wp P a w (fun a' w' => S w' ∧ wpAnyH P md ops Q S fuel (listed.setIfInBounds j true) a' w') Q) : wpAnyH P md ops Q S (fuel + 1) listed a w :=
  wpAnyH_all hr (by simp) fun k hk => by
    simp only [List.mem_cons, List.not_mem_nil, or_false] at hk
    unfold wpOp
    rcases hk with rfl | rfl
    · simp only [hi]
      rw [if_pos hwi]
      exact .inl h1
    · simp only [hj]
      rw [if_pos hwj]
      exact .inl h2
/-- the one operation that may come up -/
theorem wpAnyH_one {P : Program} {md : Region.Mode} {ops : Array Oper} {Q : Exit → Act → World → Prop} {S : World → Prop} {i fuel : Nat} {o : Oper} {listed : Array Bool} {a : Act} {w : World} (hr : Region.ready md ops listed = [i]) (hi : ops[i]? = some o) (hw : Region.wanted o (yielded ops a.tmps) = true)
    (h : o.wp P a w (fun a' w' => S w' ∧ wpAnyH P md ops Q S fuel (listed.setIfInBounds i true) a' w') Q) : wpAnyH P md ops Q S (fuel + 1) listed a w :=
  wpAnyH_all hr (by simp) fun j hj => by
    obtain rfl : j = i := by simpa using hj
    unfold wpOp
    simp only [hi]
    rw [if_pos hw]
    exact .inl h
theorem wp_value {P : Program} {o : Oper} {a : Act} {w : World} {K : Act → World → Prop} {Q : Exit → Act → World → Prop} (v : Value) (hv : (execOp a.eval o).run P w = .ok (.value v) w) (h : K (a.put o.dst v) w) : o.wp P a w K Q := by
  unfold Oper.wp
  rw [hv]
  exact h
theorem wp_call {P : Program} {o : Oper} {a : Act} {w : World} {K : Act → World → Prop} {Q : Exit → Act → World → Prop} (f : FuncId) (args : Array Value) (hv : (execOp a.eval o).run P w = .ok (.enter f args) w)
    (h : Calls P f args w fun e w' => ∃ v, e = .returned v ∧ K (a.put o.dst v) w') : o.wp P a w K Q := by
  unfold Oper.wp
  rw [hv]
  refine h.mono fun e w' ⟨v, he, hk⟩ => ?_
  subst he
  exact hk
/-- a whole block is read, in a region's head -/
theorem exec_load_agg {P : Program} {a : Act} {o : Oper} {w : World} (ty : TypeId) (x : Operand) (ho : o.op = .load ty x) (g : Nat) (hx : a.eval x = .pointer (some ⟨g, 0, none⟩)) (t : TypeId) (L : List Value) (hr : Row w g t L) (d : TypeDesc)
    (hu : P.underlying ty = some d) (hd : (match d with | .struct _ | .array _ _ => true | _ => false) = true) (hi : (P.info? ty).map (·.size) = some L.length) : (execOp a.eval o).run P w = .ok (.value (.agg L.toArray)) w := by
  unfold execOp
  simp only [ho, hx, Instr.loadAt, Instr.sureAddr, Sem.run_bind, Sem.run_pure, Result.andThen_ok, run_loadVar_row w g t ty L.toArray (0, 0) d hr hu hd (by simpa using hi)]
/-- a cell is read, in a region's head -/
theorem exec_load_cell {P : Program} {a : Act} {o : Oper} {w : World} (ty : TypeId) (x : Operand) (ho : o.op = .load ty x) (p : Addr) (hx : a.eval x = .pointer (some p)) (d : TypeDesc) (hu : P.underlying ty = some d)
    (hd : (match d with | .struct _ | .array _ _ => true | _ => false) = false) (v : Value) (hc : w.cell? p = some v) : (execOp a.eval o).run P w = .ok (.value v) w := by
  have hagg : (isAgg ty).run P w = .ok false w := by
    unfold isAgg
    rw [Sem.run_bind, run_underlying hu w]
    cases d <;> simp_all
  unfold execOp
  simp [ho, hx, Instr.loadAt, Instr.sureAddr, loadVar, Sem.run_bind, Sem.run_pure, hagg, run_load, hc]
theorem exec_load_mid {P : Program} {a : Act} {o : Oper} {w : World} (ty : TypeId) (x : Operand) (ho : o.op = .load ty x) (b off : Nat) (hx : a.eval x = .pointer (some ⟨b, off, none⟩)) (cs : List Value) (d : TypeDesc) (hc : w.rangeAt b off cs)
    (hu : P.underlying ty = some d) (hd : d.isRow = true) (hi : (P.info? ty).map (·.size) = some cs.length) : (execOp a.eval o).run P w = .ok (.value (.agg cs.toArray)) w := by
  unfold execOp
  simp only [ho, hx, Sem.run_bind, Sem.run_pure, Result.andThen_ok, run_loadAt_mid w b off ty cs d hc hu hd hi]
theorem grown_no {w w1 : World} {base : Nat} {e : TypeId} {size n : Nat} {v : Value} {xs : List Value} {w0 : World} (hb : w0.heap.size ≤ base) (h : w.ownsRow base e size v n xs) (hg : w.grownBy w1 v.ownBlock) (hc : Ch No w0 w) : Ch No w0 w1 := by
  refine hc.trans (Ch.of_grownBy hg) (fun i hi he => ?_)
  rcases owns_open_sz h with ⟨hv, _⟩ | ⟨g, cap, rest, hv, hg, _⟩
  · rw [hv] at he
    simp [Value.ownBlock] at he
  · rw [hv] at he
    simp [Value.ownBlock] at he
    omega
end Go.Proofs.Ytlokpcbiomjcnaa
