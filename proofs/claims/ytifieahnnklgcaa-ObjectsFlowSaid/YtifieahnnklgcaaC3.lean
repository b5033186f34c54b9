/- the set's Put and Get. -/
import Derived.Test.YtifieahnnklgcaaC2
set_option linter.unusedVariables false
set_option linter.unusedSimpArgs false
namespace Go.Proofs.Ytifieahnnklgcaa
open Go.RowKit
theorem own_slice {w : World} {base : Nat} {e : TypeId} {n : Nat} {v : Value} {xs : List Value} (h : w.ownsRow base e 1 v n xs) : ∃ A c, v = .slice A n c ∧ Cl w A xs := by
  rcases owns_open_sz h with ⟨rfl, rfl⟩ | ⟨g, cap, rest, rfl, hb, hr, _⟩
  · have : xs = [] := List.eq_nil_of_length_eq_zero (by simpa using h.1)
    subst this
    exact ⟨none, 0, rfl, Cl.nil _ _⟩
  · exact ⟨_, cap, rfl, row_cl hr⟩
theorem size59 : (Try.prog.info? 59).map (·.size) = some 1 := by kernel_rfl
/-- one cell is written, at an operation of a plain region -/
theorem pl_store_cell {ops : Array Oper} {rest : List Oper} {o : Oper} {a : Act} {Q : Exit → Act → World → Prop} {w : World} (hgd : o.guard = none) (ty : TypeId) (x y : Operand) (ho : o.op = .store ty x y)
    (g off : Nat) (v : Value) (hx : a.eval x = .pointer (some ⟨g, off, none⟩)) (hy : a.eval y = v) (h1 : v.oneCell' = true) (hi : (Try.prog.info? ty).map (·.size) = some 1)
    (hc : (w.cell? ⟨g, off, none⟩).isSome = true) (hf : w.frozen? ⟨g, off, none⟩ = false)
    (h : wpList Try.prog ops Q rest (a.put o.dst undef) (w.setCell ⟨g, off, none⟩ v)) : wpList Try.prog ops Q (o :: rest) a w :=
  wpList_plain hgd fun _ hK => by
    have hcs : v.cells = #[v] := by cases v <;> first | rfl | cases h1
    have hst := run_storeCells_cells (P := Try.prog) g off [v] 0 w (fun j hj => by
      obtain rfl : j = 0 := by simpa using hj
      simpa using hc) (fun j hj => by
      obtain rfl : j = 0 := by simpa using hj
      simpa using hf) (fun u hu => by
      obtain rfl : u = v := by simpa using hu
      exact h1)
    simp only [Nat.add_zero] at hst
    obtain ⟨i, hq, hs⟩ := Option.map_eq_some_iff.1 hi
    have hsv : (storeVar ty ⟨g, off, none⟩ v).run Try.prog w = .ok () (w.setCells g off [v]) := by
      simp [storeVar, sizeOf, typeInfo, hq, hcs, hs, hst]
    unfold Oper.wp execOp
    simp only [ho, hx, hy, Instr.storeAt, Instr.sureAddr, Sem.run_bind, Sem.run_pure, Result.andThen_ok, hsv]
    exact hK _ _ h
/-- the set behind a change of the buffer's list -/
theorem Bs.setL {base : Nat} {s : SetR} {w : World} (h : Bs base s w) (vl' : Value) (sv' : List Value) (ms' : List (List Int)) (ho : w.ownsRow base 24 1 vl' sv'.length sv') (hm : ∀ (i : Nat) (v : Value), sv'[i]? = some v → ∃ xs, ms'[i]? = some xs ∧ Ml w v xs) (hl : sv'.length = ms'.length) (hs : ms'.length ≤ 1000) :
    Bs base { s with vl := vl', sv := sv', ms := ms' } (w.setCell ⟨s.gb, 0, none⟩ vl') := by
  have hc : Ch (Is s.gb) w (w.setCell ⟨s.gb, 0, none⟩ vl') := (Ch.refl _ w).setCell (p := ⟨s.gb, 0, none⟩) (fun _ => is_self _) _
  refine ⟨h.row.keepIs hc (row_ne h.row h.buf (by decide)), h.sem.keepIs hc (row_ne h.sem h.buf (by decide)), h.buf.set_ 0 _, owns_keepIs ho hc (own_ne_row ho h.buf (by decide)), fun i v hv => ?_, hl, h.bP, h.bs, h.bb, Nat.le_trans h.hb hc.size, hs⟩
  obtain ⟨xs, h1, h2⟩ := hm i v hv
  exact ⟨xs, h1, h2.other (fun g L hr => hr.keepIs hc (row_ne hr h.buf (by decide)))⟩
/-- where the list's own block came from -/
def From (w : World) (vl vl' : Value) : Prop := ∀ k, vl'.ownBlock = some k → vl.ownBlock = some k ∨ w.heap.size ≤ k
theorem put35_no {base : Nat} {s : SetR} {w : World} (h : Bs base s w) (v : Value) (hd : s.dep ≤ (s.ms.length : Int)) :
    Calls Try.prog 35 #[.pointer (some ⟨s.gb, 0, none⟩), v] w fun e w' => e = .returned (.bool false) ∧ Ch No w w' := by
  obtain ⟨A, c, hv, _⟩ := own_slice h.own
  have hp := h.buf.lt
  have c0 : w.cell? ⟨s.gb, 0, none⟩ = some (.slice A s.sv.length c) := by rw [h.buf.cell, ← hv]; rfl
  have c1 : w.cell? ⟨s.gb, 1, none⟩ = some (.int .i64 s.dep) := by rw [h.buf.cell]; rfl
  have d0 : decide (s.dep ≤ (s.sv.length : Int)) = true := decide_eq_true (by rw [h.len]; exact hd)
  clear h hv
  go_enter Try.func35, Try.ntmps35
  go_upto_region 1 with (fail)
  go_quiet (fail)
  go_wp2_with (fail)
  go_ret
  exact ⟨rfl, (Ch.refl _ _).drewN _⟩
set_option maxHeartbeats 4000000 in
theorem put35_yes {base : Nat} {s : SetR} {w : World} (h : Bs base s w) (v : Value) (xs : List Int) (hm : Ml w v xs) (hd : (s.ms.length : Int) < s.dep) (hs : s.ms.length + 1 ≤ 1000) :
    Calls Try.prog 35 #[.pointer (some ⟨s.gb, 0, none⟩), v] w fun e w' => e = .returned (.bool true) ∧ (∃ vl', Bs base { s with vl := vl', sv := s.sv ++ [v], ms := s.ms ++ [xs] } w' ∧ From w s.vl vl') ∧ Ch (Ds s) w w' := by
  obtain ⟨A2, c2, rfl, _⟩ := hm.sl
  obtain ⟨A, c, hv, _⟩ := own_slice h.own
  have hp := h.buf.lt
  have c0 : w.cell? ⟨s.gb, 0, none⟩ = some (.slice A s.sv.length c) := by rw [h.buf.cell, ← hv]; rfl
  have c1 : w.cell? ⟨s.gb, 1, none⟩ = some (.int .i64 s.dep) := by rw [h.buf.cell]; rfl
  have d0 : decide (s.dep ≤ (s.sv.length : Int)) = false := decide_eq_false (by rw [h.len]; omega)
  have HOW : Hid (w.ownsRow base 24 1 (.slice A s.sv.length c) s.sv.length s.sv) := by rw [← hv]; exact h.own
  have HV := Lib.hid hv
  have HB := Lib.hid h
  have HM := Lib.hid hm
  have HL1 : Hid (∀ u ∈ [Value.slice A2 xs.length c2], u.oneCell' = true) := fun u hu => by
    obtain rfl : u = Value.slice A2 xs.length c2 := by simpa using hu
    exact hm.one
  have hlen := h.len
  have HBY : Hid ((s.sv.length + 1) * 24 ≤ 140737488355328) := by show _ ≤ _; omega
  clear h hv hm hlen
  go_enter Try.func35, Try.ntmps35
  go_upto_region 1 with (fail)
  go_quiet (fail)
  go_upto_region 3 with (fail)
  have HB3 := Lib.hid (HB.out.keepNo ((Ch.refl No w).drewN nq))
  have HC3 : Hid (Ch No w (w.drewN nq)) := (Ch.refl No w).drewN nq
  have HW3 : Hid ((w.drewN nq).ownsRow base 24 1 (.slice A s.sv.length c) s.sv.length s.sv) := HOW.out
  have HM3 := Lib.hid (HM.out.keepNo HC3.out)
  have c3 : (w.drewN nq).cell? ⟨s.gb, 0, none⟩ = some (.slice A s.sv.length c) := c0
  have hp3 : s.gb < (w.drewN nq).heap.size := hp
  have hsz : (w.drewN nq).heap.size = w.heap.size := rfl
  have HSZ := Lib.hid hsz
  generalize w.drewN nq = w3 at *
  clear c0 c1 d0 hp HB HOW HM hsz
  have HBS : Hid (base ≤ (w3.alloc (.cells [Value.slice A2 xs.length c2].toArray 24)).heap.size) := Nat.le_trans HB3.out.hb ((Ch.refl No w3).alloc (.cells [Value.slice A2 xs.length c2].toArray 24)).size
  have HK : Hid (∀ (v5 : Value) (w5 : World), w5.ownsRow base 24 1 v5 (s.sv ++ [Value.slice A2 xs.length c2]).length (s.sv ++ [Value.slice A2 xs.length c2]) → (w3.alloc (.cells [Value.slice A2 xs.length c2].toArray 24)).grownBy w5 (Value.slice A s.sv.length c).ownBlock → (v5.ownBlock = (Value.slice A s.sv.length c).ownBlock ∨ v5.ownBlock = some (w3.alloc (.cells [Value.slice A2 xs.length c2].toArray 24)).heap.size) →
      ((w5.cell? ⟨s.gb, 0, none⟩).isSome = true ∧ w5.frozen? ⟨s.gb, 0, none⟩ = false ∧ s.gb < w5.heap.size) ∧ Bs base { s with vl := v5, sv := s.sv ++ [Value.slice A2 xs.length c2], ms := s.ms ++ [xs] } (w5.setCell ⟨s.gb, 0, none⟩ v5) ∧ From w s.vl v5 ∧ Ch (Ds s) w (w5.setCell ⟨s.gb, 0, none⟩ v5)) := by
    intro v5 w5 ho hg hor
    have hca : Ch No w3 (w3.alloc (.cells [Value.slice A2 xs.length c2].toArray 24)) := (Ch.refl _ _).alloc _
    have hba := HB3.out.keepNo hca
    have hcg := Ch.of_grownBy hg
    rw [← HV.out] at hcg hor
    have hD : Ch (Ds s) (w3.alloc (.cells [Value.slice A2 xs.length c2].toArray 24)) w5 := hcg.mono (fun k _ hk => .inr (.inr (.inr hk)))
    have hrow := hba.buf.keep hcg (fun hk => own_ne_row hba.own hba.buf (by decide) hk)
    have hb5 : Bs base s w5 → True := fun _ => trivial
    have hall : ∀ {g : Nat} {t : TypeId} {L : List Value}, Row (w3.alloc (.cells [Value.slice A2 xs.length c2].toArray 24)) g t L → t ≠ 24 → Row w5 g t L := fun hr ht => hr.keep hcg (fun hk => own_ne_row hba.own hr ht hk)
    have hb5 : Bs base { s with vl := v5, sv := s.sv ++ [Value.slice A2 xs.length c2], ms := s.ms ++ [xs] } (w5.setCell ⟨s.gb, 0, none⟩ v5) := by
      have hmid : Ch (Is s.gb) w5 (w5.setCell ⟨s.gb, 0, none⟩ v5) := (Ch.refl _ _).setCell (p := ⟨s.gb, 0, none⟩) (fun _ => is_self _) _
      refine ⟨(hall hba.row (by decide)).keepIs hmid (row_ne hba.row hba.buf (by decide)), (hall hba.sem (by decide)).keepIs hmid (row_ne hba.sem hba.buf (by decide)), hrow.set_ 0 _, owns_keepIs ho hmid (own_ne_row ho hrow (by decide)), fun i u hu => ?_, by simp [hba.len], hba.bP, hba.bs, hba.bb, Nat.le_trans (Nat.le_trans hba.hb hcg.size) hmid.size, by simpa using hs⟩
      by_cases hi : i < s.sv.length
      · rw [List.getElem?_append_left hi] at hu
        obtain ⟨ys, h1, h2⟩ := hba.msg i u hu
        exact ⟨ys, by rw [List.getElem?_append_left (by rw [← hba.len]; exact hi)]; exact h1, h2.other (fun g L hr => (hall hr (by decide)).keepIs hmid (row_ne hr hba.buf (by decide)))⟩
      · rw [List.getElem?_append_right (by omega)] at hu
        obtain ⟨hi0, rfl⟩ := List.getElem?_eq_some_iff.1 hu
        have hi0' : i - s.sv.length = 0 := by simpa using hi0
        refine ⟨xs, by rw [List.getElem?_append_right (by rw [← hba.len]; omega), ← hba.len, hi0']; rfl, ?_⟩
        have h2 := (HM3.out.keepNo hca).other (fun g L hr => (hall hr (by decide)).keepIs hmid (row_ne hr hba.buf (by decide)))
        simpa [hi0'] using h2
    refine ⟨⟨by rw [hrow.cell]; rfl, hrow.frozen _, hrow.lt⟩, hb5, fun k hk => ?_, ?_⟩
    · rcases hor with h | h
      · left
        rw [← h]
        exact hk
      · right
        rw [h] at hk
        cases hk
        have := hca.size
        have := HSZ.out
        omega
    · exact (((HC3.out.then_ hca).mono (fun _ _ h => h.elim)).trans hD (fun _ _ h => h)).setCell (p := ⟨s.gb, 0, none⟩) (fun _ => .inr (.inr (.inl rfl))) _
  go_wp2_with (first | ((with_reducible refine at_op (o := ⟨some 22, .call { callee := .builtin .append, args := #[.tmp 19, .tmp 21], argTypes := #[59, 59] }, _, _, _, _⟩) ?_); refine wpList_append_to rfl (.tmp 19) (.tmp 21) 59 rfl base 24 (.slice none 0 0) 24 Try.underlying59 info24 rfl (.slice A s.sv.length c) s.sv rfl _ _ _ [Value.slice A2 xs.length c2] rfl (HW3.out.alloc _) rfl ((Row.new w3 24 [Value.slice A2 xs.length c2]).cl0) HL1.out HBY.out (by omega) HBS.out ?_; intro v5 w5 ho5 hg5 hor5; have HO5 := Lib.hid ho5; obtain ⟨⟨k3, k4, k5⟩, k6⟩ := HK.out v5 w5 ho5 hg5 hor5; have HF5 := Lib.hid k6; have hv5 := own_one ho5; clear ho5 hg5 hor5 k6) | ((with_reducible refine at_op (o := ⟨none, .store 59 (.tmp 24) (.tmp 22), _, _, _, _⟩) ?_); refine pl_store_cell rfl 59 (.tmp 24) (.tmp 22) rfl s.gb 0 v5 rfl rfl hv5 size59 k3 k4 ?_))
  exact bodyPost_ret (v := .bool true) (by kernel_rfl) rfl ⟨rfl, ⟨v5, HF5.out.1, HF5.out.2.1⟩, HF5.out.2.2⟩
end Go.Proofs.Ytifieahnnklgcaa
