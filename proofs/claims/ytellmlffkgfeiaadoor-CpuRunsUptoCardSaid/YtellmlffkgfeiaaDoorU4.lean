/- Two lists of words compared; effects compared. -/
import Derived.Test.YtellmlffkgfeiaaDoorU2
set_option linter.unusedVariables false
set_option linter.unusedSimpArgs false
namespace Go.Proofs.YtellmlffkgfeiaaDoor
open Go.RowKit
theorem cl_drewN {w : World} {A : Option Addr} {vs : List Value} (h : Cl w A vs) (n : Nat) : Cl (w.drewN n) A vs := h

theorem same_len (A B : Option Addr) (c d n m : Nat) (w : World) (hn : n ≤ 9223372036854775807) (hm : m ≤ 9223372036854775807) (h : n ≠ m) :
    Calls Tryd.prog 14 #[.slice A n c, .slice B m d] w fun e w' => e = .returned (.bool false) ∧ Dr w w' := by
  have h1 : ((n : Int) != (m : Int)) = true := by rw [bne_iff_ne]; omega
  clear h
  go_enter Tryd.func14, Tryd.ntmps14
  go_wp2
  go_ret
  exact ⟨rfl, Dr.refl _⟩

theorem same_eq (A B : Option Addr) (c d : Nat) (xs ys : List Int) (w : World) (hn : xs.length ≤ 9223372036854775807) (hl : xs.length = ys.length) (hx : Cl w A (ints xs)) (hy : Cl w B (ints ys)) :
    Calls Tryd.prog 14 #[.slice A xs.length c, .slice B ys.length d] w fun e w' => e = .returned (.bool (decide (xs = ys))) ∧ Dr w w' := by
  have HX := Lib.hid hx
  have HY := Lib.hid hy
  have HL := Lib.hid hl
  have h1 : ((xs.length : Int) != (ys.length : Int)) = false := by rw [hl]; simp
  have hm : ys.length ≤ 9223372036854775807 := by omega
  have hle : xs.length ≤ ys.length := by omega
  clear hx hy hl
  go_enter Tryd.func14, Tryd.ntmps14
  go_wp2
  go_loopw [5] (fun i wr => ∃ k : Nat, k ≤ xs.length ∧ i = .int .i64 k ∧ Dr w wr ∧ Hid (xs.take k = ys.take k)) (fun i _ => xs.length - (intOf i).toNat)
  case atStart => exact ⟨0, Nat.zero_le _, rfl, Dr.refl _, by show _ = _; simp⟩
  case round =>
    obtain ⟨k, hk, rfl, hdr, hpre⟩ := hrel
    obtain ⟨q, rfl⟩ := hdr
    by_cases hlt : k < xs.length
    · obtain ⟨ad, ea, hca⟩ := cl_rd HX.out k hlt
      obtain ⟨bd, eb, hcb⟩ := cl_rd HY.out k (by omega)
      subst ea eb
      by_cases hne : rd xs k = rd ys k
      · have ht : (rd xs k != rd ys k) = false := by rw [hne]; simp
        have HNE := Lib.hid hne
        clear hne
        go_wp2
        go_quiet (fail)
        go_wp2
        refine ⟨⟨k + 1, by omega, by go_num, Dr.step w _, ?_⟩, by simp [intOf]; omega⟩
        show _ = _
        rw [List.take_succ_eq_append_getElem hlt, List.take_succ_eq_append_getElem (by omega), hpre.out]
        have h2 := HNE.out
        rw [rd_at _ _ hlt, rd_at _ _ (by omega)] at h2
        rw [h2]
      · have ht : (rd xs k != rd ys k) = true := by rw [bne_iff_ne]; exact hne
        have HNE := Lib.hid hne
        clear hne
        go_wp2
        go_quiet (fail)
        go_wp2
        go_ret
        refine ⟨?_, (Dr.step w _).more _⟩
        have : ¬ xs = ys := fun e => HNE.out (by rw [e])
        simp [this]
    · go_wp2
      go_ret
      refine ⟨?_, Dr.step w _⟩
      have h2 := hpre.out
      rw [List.take_of_length_le (by omega), List.take_of_length_le (by have := HL.out; omega)] at h2
      simp [h2]


/-- the same words -/
theorem same_words (A B : Option Addr) (c d : Nat) (xs : List Int) (n m : Nat) (hnx : n = xs.length) (hmx : m = xs.length) (w : World) (hn : xs.length ≤ 9223372036854775807) (hx : Cl w A (ints xs)) (hy : Cl w B (ints xs)) :
    Calls Tryd.prog 14 #[.slice A n c, .slice B m d] w fun e w' => e = .returned (.bool true) ∧ Ch No w w' := by
  subst hnx
  subst hmx
  exact (same_eq A B c d xs xs w hn rfl hx hy).mono fun e w' h => ⟨by rw [h.1]; simp, h.2.ch⟩
/-- the operation that stands next: fails at once under with_reducible -/
theorem at_op {P : Program} {ops : Array Oper} {rest : List Oper} {o : Oper} {a : Act} {Q : Exit → Act → World → Prop} {w : World} (h : wpList P ops Q (o :: rest) a w) : wpList P ops Q (o :: rest) a w := h
/-! the same laws at operations without a guard: cheap where the frame is great -/
theorem pl_load {P : Program} {ops : Array Oper} {rest : List Oper} {o : Oper} {a : Act} {Q : Exit → Act → World → Prop} {w : World} (hgd : o.guard = none) (ty : TypeId) (x : Operand) (ho : o.op = .load ty x)
    (g : Nat) (hx : a.eval x = .pointer (some ⟨g, 0, none⟩)) (t : TypeId) (L : List Value) (hr : Row w g t L) (d : TypeDesc)
    (hu : P.underlying ty = some d) (hd : (match d with | .struct _ | .array _ _ => true | _ => false) = true) (hi : (P.info? ty).map (·.size) = some L.length)
    (h : wpList P ops Q rest (a.put o.dst (.agg L.toArray)) w) : wpList P ops Q (o :: rest) a w :=
  wpList_plain hgd fun _ hK => wp_load_row ty x ho g hx t L.toArray (0, 0) d hr hu hd (by simpa using hi) (hK _ _ h)
theorem pl_store {P : Program} {ops : Array Oper} {rest : List Oper} {o : Oper} {a : Act} {Q : Exit → Act → World → Prop} {w : World} (hgd : o.guard = none) (ty : TypeId) (x y : Operand) (ho : o.op = .store ty x y)
    (g : Nat) (hx : a.eval x = .pointer (some ⟨g, 0, none⟩)) (t : TypeId) (L L' : List Value) (hy : a.eval y = .agg L'.toArray) (hr : Row w g t L) (hi : (P.info? ty).map (·.size) = some L'.length) (hl : L'.length = L.length) (h1 : ∀ v ∈ L', v.oneCell' = true)
    (h : ∀ w', Row w' g t L' → Ch (Is g) w w' → wpList P ops Q rest (a.put o.dst undef) w') : wpList P ops Q (o :: rest) a w :=
  wpList_plain hgd fun _ hK => by
    refine wp_store_row ty x y ho g L'.toArray hx hy t L.toArray hr (by simpa using hi) (by simp [hl]) (by simpa using h1) ?_
    exact hK _ _ (h _ (hr.setRow _) (ch_setRow w g _))
theorem pl_build2 {ops : Array Oper} {rest : List Oper} {o : Oper} {a : Act} {Q : Exit → Act → World → Prop} {w : World} (hgd : o.guard = none) (x y : Operand) (ho : o.op = .build 30 #[(0, x), (1, y)]) (r : Nat → Int) (pc : Int)
    (hx : a.eval x = .agg (regCells r).toArray) (hy : a.eval y = .int .i64 pc) (h : wpList Tryd.prog ops Q rest (a.put o.dst (.agg (effCells (eff0 r pc 0)).toArray)) w) : wpList Tryd.prog ops Q (o :: rest) a w := by
  refine wpList_plain hgd fun _ hK => ?_
  obtain ⟨dst, op, ty, pos, after, guard⟩ := o
  simp only at ho
  subst ho
  have e : (execOp a.eval { dst, op := .build 30 #[(0, x), (1, y)], type := ty, pos, after, guard }).run Tryd.prog w = .ok (.value (.agg (effCells (eff0 r pc 0)).toArray)) w := by
    refine exec_build ?_
    simp only [List.map_toArray, List.map_cons, List.map_nil, hx, hy]
    exact build_2 r pc w
  unfold Oper.wp
  rw [e]
  exact hK _ _ h
theorem pl_value {P : Program} {ops : Array Oper} {rest : List Oper} {o : Oper} {a : Act} {Q : Exit → Act → World → Prop} {w : World} (hgd : o.guard = none) (v : Value)
    (hv : (execOp a.eval o).run P w = .ok (.value v) w) (h : wpList P ops Q rest (a.put o.dst v) w) : wpList P ops Q (o :: rest) a w :=
  wpList_plain hgd fun K hK => by
    unfold Oper.wp
    rw [hv]
    exact hK _ _ h
theorem exec_neq_eff {a : Act} {o : Oper} (w : World) (x y : Operand) (ho : o.op = .binOp .neq 30 x y 30) (E : Eff) (hx : a.eval x = .agg (effCells E).toArray) (hy : a.eval y = .agg (effCells E).toArray) : (execOp a.eval o).run Tryd.prog w = .ok (.value (.bool false)) w := by
  have h := eq_eff E w
  unfold execOp
  simp only [ho, hx, hy]
  have h2 : Sem.run Tryd.prog (Op.equal 30 (.agg (effCells E).toArray) (.agg (effCells E).toArray)) w = .ok true w := h
  simp [eqGuard, binOp, Sem.run_bind, h2]
theorem exec_eq_regs {a : Act} {o : Oper} (w : World) (x y : Operand) (ho : o.op = .binOp .eql 24 x y 24) (r : Nat → Int) (hx : a.eval x = .agg (regCells r).toArray) (hy : a.eval y = .agg (regCells r).toArray) : (execOp a.eval o).run Tryd.prog w = .ok (.value (.bool true)) w := by
  have h : (Op.equalIn 10000 24 (.agg (regCells r).toArray) (.agg (regCells r).toArray)).run Tryd.prog w = .ok true w := (eq_regs r r w).trans (by simp)
  unfold execOp
  simp only [ho, hx, hy]
  have h2 : Sem.run Tryd.prog (Op.equal 24 (.agg (regCells r).toArray) (.agg (regCells r).toArray)) w = .ok true w := h
  simp [eqGuard, binOp, Sem.run_bind, h2]
/-- a whole struct or array in the midst of a block is read, at a guarded operation too -/
theorem gd_load_mid {P : Program} {ops : Array Oper} {rest : List Oper} {o : Oper} {a : Act} {w : World} {Q : Exit → Act → World → Prop} (hw : Region.wanted o (yielded ops a.tmps) = true) (ty : TypeId) (x : Operand) (ho : o.op = .load ty x)
    (b off : Nat) (hx : a.eval x = .pointer (some ⟨b, off, none⟩)) (cs : List Value) (d : TypeDesc) (hc : w.rangeAt b off cs)
    (hu : P.underlying ty = some d) (hd : d.isRow = true) (hi : (P.info? ty).map (·.size) = some cs.length)
    (h : wpList P ops Q rest (a.put o.dst (.agg cs.toArray)) w) : wpList P ops Q (o :: rest) a w :=
  wpList_want hw fun _ hK => wp_load_mid ty x ho b off hx cs d hc hu hd hi (hK _ _ h)
theorem owns_self {w : World} {base n c : Nat} {A : Option Addr} {xs : List Int} (h : w.ownsRow base 2 1 (.slice A n c) (ints xs).length (ints xs)) : Cl w A (ints xs) := by
  obtain ⟨A', c', hv, _, hcl⟩ := owns_cl h
  cases hv
  exact hcl
end Go.Proofs.YtellmlffkgfeiaaDoor
