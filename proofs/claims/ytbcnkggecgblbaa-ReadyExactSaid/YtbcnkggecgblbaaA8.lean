/- the line's methods: New, Put, Take. -/
import Derived.Test.YtbcnkggecgblbaaA7
set_option linter.unusedVariables false
set_option linter.unusedSimpArgs false
namespace Go.Proofs.Ytbcnkggecgblbaa
open Go.RowKit
theorem new_ok (n : Int) (w : World) (h0 : 0 ≤ n) (h1 : n ≤ 65535) :
    Calls Try.prog 5 #[.int .i64 n] w fun e w' => e = .returned (.tuple #[.pointer (some ⟨w.heap.size, 0, none⟩), .bool true]) ∧ Ln w.heap.size w.heap.size n (.slice none 0 0) [] w' ∧ Ch No w w' := by
  have d0 : decide (n < 0) = false := decide_eq_false (by omega)
  have d1 : decide (65535 < n) = false := decide_eq_false (by omega)
  go_enter Try.func5, Try.ntmps5
  go_wp2_with (fail)
  have hc : Ch No w (w.alloc (.cells #[.slice none 0 0, .int .i64 n] 45)) := (Ch.refl _ _).alloc _
  refine bodyPost_ret (v := .tuple #[.pointer (some ⟨w.heap.size, 0, none⟩), .bool true]) (by kernel_rfl) rfl ⟨rfl, ⟨Row.new w 45 [.slice none 0 0, .int .i64 n], owns_nil _ _ _ _, Nat.le_refl _, hc.size, List.Pairwise.nil, fun x hx => absurd hx (by simp), h0, h1⟩, hc⟩
theorem new_bad (n : Int) (w : World) (h : n < 0 ∨ 65535 < n) :
    Calls Try.prog 5 #[.int .i64 n] w fun e w' => e = .returned (.tuple #[.pointer none, .bool false]) ∧ w' = w := by
  by_cases h0 : n < 0
  · have d0 : decide (n < 0) = true := decide_eq_true h0
    go_enter Try.func5, Try.ntmps5
    go_wp2_with (fail)
    exact bodyPost_ret (v := .tuple #[.pointer none, .bool false]) (by kernel_rfl) rfl ⟨rfl, rfl⟩
  · have d0 : decide (n < 0) = false := decide_eq_false h0
    have d1 : decide (65535 < n) = true := decide_eq_true (by omega)
    go_enter Try.func5, Try.ntmps5
    go_wp2_with (fail)
    exact bodyPost_ret (v := .tuple #[.pointer none, .bool false]) (by kernel_rfl) rfl ⟨rfl, rfl⟩
theorem take_calls {base p : Nat} {N : Int} {v : Value} {L : List (Int × Int)} {w : World} (h : Ln base p N v L w) :
    Calls Try.prog 14 #[.pointer (some ⟨p, 0, none⟩)] w fun e w' => e = .returned (.tuple #[.int .i64 (fst L).1, .bool (fst L).2]) ∧ (∃ v', Ln base p N v' L.tail w') ∧ Chl base w w' := by
  have HL := Lib.hid h
  have hfi := Lib.hid (first_calls h)
  have hrm := Lib.hid (remove_calls h (fst L).1)
  have hp := h.row.lt
  clear h
  cases L with
  | nil =>
    go_enter Try.func14, Try.ntmps14
    go_wp2_with (fail)
    refine hfi.out.mono ?_
    rintro e w2 ⟨rfl, rfl⟩
    simp only [fst]
    go_wp2_with (fail)
    exact bodyPost_ret (v := .tuple #[.int .i64 0, .bool false]) (by kernel_rfl) rfl ⟨rfl, ⟨v, HL.out⟩, Chl.refl _ _⟩
  | cons x L =>
    have e : rem (fst (x :: L)).1 (x :: L) = L := by simp [rem, fst, List.findIdx?_cons]
    rw [e] at hrm
    go_enter Try.func14, Try.ntmps14
    go_wp2_with (fail)
    refine hfi.out.mono ?_
    rintro e w2 ⟨rfl, rfl⟩
    simp only [fst]
    go_wp2_with (fail)
    refine hrm.out.mono ?_
    rintro e w3 ⟨rfl, hv, hch⟩
    have HV := Lib.hid hv
    have HC := Lib.hid hch
    clear hv hch
    go_wp2_with (fail)
    exact bodyPost_ret (v := .tuple #[.int .i64 x.1, .bool true]) (by kernel_rfl) rfl ⟨rfl, HV.out, HC.out⟩
/-- where a priority's line ends -/
def spot (pri : Int) (L : List (Int × Int)) : Nat := (L.findIdx? (fun x => decide (x.2 < pri))).getD L.length
/-- what Put leaves -/
def put (id pri : Int) (L : List (Int × Int)) : List (Int × Int) := (rem id L).take (spot pri (rem id L)) ++ (id, pri) :: (rem id L).drop (spot pri (rem id L))
theorem put_bad {base p : Nat} {N : Int} {v : Value} {L : List (Int × Int)} {w : World} (h : Ln base p N v L w) (id pri : Int) (hid : id < 1 ∨ N < id) :
    Calls Try.prog 11 #[.pointer (some ⟨p, 0, none⟩), .int .i64 id, .int .i64 pri] w fun e w' => e = .returned (.bool false) ∧ Ch No w w' := by
  have hp := h.row.lt
  have hc1 : w.cell? ⟨p, 1, none⟩ = some (.int .i64 N) := by rw [h.row.cell]; rfl
  clear h
  have HC : Hid (Ch No w (w.alloc (.cells #[.int .i64 pri] 3))) := (Ch.refl _ _).alloc _
  by_cases h0 : id < 1
  · have d0 : decide (id < 1) = true := decide_eq_true h0
    go_enter Try.func11, Try.ntmps11
    go_wp2_with (fail)
    go_ret
    exact ⟨rfl, HC.out⟩
  · have d0 : decide (id < 1) = false := decide_eq_false h0
    have d1 : decide (N < id) = true := decide_eq_true (by omega)
    go_enter Try.func11, Try.ntmps11
    go_wp2_with (fail)
    go_ret
    exact ⟨rfl, HC.out⟩
theorem rem_nil (id : Int) : rem id [] = [] := rfl
theorem rem_cons (id : Int) (x : Int × Int) (L : List (Int × Int)) : rem id (x :: L) = if x.1 = id then L else x :: rem id L := by
  unfold rem
  rw [List.findIdx?_cons]
  by_cases h : x.1 = id
  · simp [h]
  · have hb : (x.1 == id) = false := by simpa using h
    rw [hb, if_neg h]
    cases hf : L.findIdx? (fun x => x.1 == id) with
    | none => simp
    | some i => simp
theorem rem_not (id : Int) : ∀ (L : List (Int × Int)), (L.map (·.1)).Nodup → ∀ x ∈ rem id L, x.1 ≠ id
  | [], _ => by simp [rem_nil]
  | y :: L, h => by
    rw [List.map_cons, List.nodup_cons] at h
    rw [rem_cons]
    by_cases e : y.1 = id
    · rw [if_pos e]
      intro x hx hxe
      exact h.1 (List.mem_map.2 ⟨x, hx, by rw [hxe, e]⟩)
    · rw [if_neg e]
      intro x hx
      rcases List.mem_cons.1 hx with rfl | hx
      · exact e
      · exact rem_not id L h.2 x hx
theorem put_perm (id pri : Int) (M : List (Int × Int)) (sp : Nat) : (M.take sp ++ (id, pri) :: M.drop sp).Perm ((id, pri) :: M) := by
  have h := List.perm_middle (a := (id, pri)) (l₁ := M.take sp) (l₂ := M.drop sp)
  rwa [List.take_append_drop] at h
/-- one cell is written, at an operation of a drawn region -/
theorem wp_store_cell {o : Oper} {a : Act} {w : World} {K : Act → World → Prop} {Q : Exit → Act → World → Prop} (ty : TypeId) (x y : Operand) (ho : o.op = .store ty x y)
    (g off : Nat) (v : Value) (hx : a.eval x = .pointer (some ⟨g, off, none⟩)) (hy : a.eval y = v) (h1 : v.oneCell' = true) (hi : (Try.prog.info? ty).map (·.size) = some 1)
    (hc : (w.cell? ⟨g, off, none⟩).isSome = true) (hf : w.frozen? ⟨g, off, none⟩ = false)
    (h : K (a.put o.dst undef) (w.setCells g off [v])) : o.wp Try.prog a w K Q := by
  have hcs : v.cells = #[v] := by cases v <;> first | rfl | cases h1
  have hst := run_storeCells_cells (P := Try.prog) g off [v] 0 w (fun j hj => by
    obtain rfl : j = 0 := by simpa using hj
    simpa using hc) (fun j hj => by
    obtain rfl : j = 0 := by simpa using hj
    simpa using hf) (fun u hu => by
    obtain rfl : u = v := by simpa using hu
    exact h1)
  simp only [Nat.add_zero] at hst
  obtain ⟨i, hq, hs⟩ := Option.map_eq_some_iff.1 hi
  have hsv : (storeVar ty ⟨g, off, none⟩ v).run Try.prog w = .ok () (w.setCells g off [v]) := by
    simp [storeVar, sizeOf, typeInfo, hq, hcs, hs, hst]
  unfold Oper.wp execOp
  simp only [ho, hx, hy, Instr.storeAt, Instr.sureAddr, Sem.run_bind, Sem.run_pure, Result.andThen_ok, hsv]
  exact h
theorem size41 : (Try.prog.info? 41).map (·.size) = some 1 := by kernel_rfl
/-- the list of what has come up, said short -/
theorem wpAnyH_norm {P : Program} {md : Region.Mode} {ops : Array Oper} {Q : Exit → Act → World → Prop} {S : World → Prop} {fuel : Nat} {listed : Array Bool} {a : Act} {w : World} (fuel' : Nat) (listed' : Array Bool) (hl : listed = listed') (hf : fuel = fuel')
    (h : wpAnyH P md ops Q S fuel' listed' a w) : wpAnyH P md ops Q S fuel listed a w := by
  subst hl hf
  exact h
theorem wp_value_to {o : Oper} {a : Act} {w w' : World} {K : Act → World → Prop} {Q : Exit → Act → World → Prop} (v : Value) (hv : (execOp a.eval o).run Try.prog w = .ok (.value v) w') (h : K (a.put o.dst v) w') : o.wp Try.prog a w K Q := by
  unfold Oper.wp
  rw [hv]
  exact h
set_option maxHeartbeats 400000 in
theorem put_ok {base p : Nat} {N : Int} {v : Value} {L : List (Int × Int)} {w : World} (h : Ln base p N v L w) (id pri : Int) (h1 : 1 ≤ id) (h2 : id ≤ N) :
    Calls Try.prog 11 #[.pointer (some ⟨p, 0, none⟩), .int .i64 id, .int .i64 pri] w fun e w' => e = .returned (.bool true) ∧ (∃ v', Ln base p N v' (put id pri L) w') ∧ Chl base w w' := by
  have hmf : ∀ (fn : Fn) (first cap : Array Value) (w : World), (Instr.makeFunc fn first cap).run Try.prog w = .ok (.func fn first cap) w := fun _ _ _ _ => rfl
  have HL := Lib.hid h
  have hp := h.row.lt
  have hc1 : w.cell? ⟨p, 1, none⟩ = some (.int .i64 N) := by rw [h.row.cell]; rfl
  clear h
  obtain ⟨PU, hpu⟩ : ∃ PU, PU = put id pri L := ⟨_, rfl⟩
  rw [← hpu]
  unfold put at hpu
  have HP := Lib.hid hpu
  clear hpu
  have d0 : decide (id < 1) = false := decide_eq_false (by omega)
  have d1 : decide (N < id) = false := decide_eq_false (by omega)
  have HC : Hid (Ch No w (w.alloc (.cells [.int .i64 pri].toArray 3))) := (Ch.refl _ _).alloc _
  have HB : Hid (Row _ w.heap.size 3 [.int .i64 pri]) := Row.new w 3 [.int .i64 pri]
  go_enter Try.func11, Try.ntmps11
  go_wp2_with (fail)
  change Calls _ _ _ (w.alloc (.cells [.int .i64 pri].toArray 3)) _
  generalize w.alloc (.cells [.int .i64 pri].toArray 3) = w1 at *
  have HL1 := Lib.hid (HL.out.keepNo HC.out)
  refine (remove_calls HL1.out id).mono ?_
  rintro e w2 ⟨rfl, ⟨v2, hl2⟩, hch2⟩
  have HB2 := Lib.hid (hch2.row _ _ _ HB.out (by decide) (by decide))
  have HL2 := Lib.hid hl2
  have HC2 := Lib.hid ((Chl.of_no HC.out).trans hch2)
  clear hl2 hch2 hc1
  clear HB HL1
  have hp2 := HL2.out.row.lt
  have hc2 : w2.cell? ⟨p, 0, none⟩ = some v2 := by rw [HL2.out.row.cell]; rfl
  have hb2 : w2.cell? ⟨w.heap.size, 0, none⟩ = some (.int .i64 pri) := by rw [HB2.out.cell]; rfl
  go_wp2_with (fail)
  refine (index_28 HL2.out w.heap.size pri hb2).mono ?_
  rintro e w3 ⟨rfl, hch3⟩
  have HL3 := Lib.hid (HL2.out.keepNo hch3)
  have HB3 := Lib.hid (HB2.out.keepNo hch3)
  have HC3 := Lib.hid (HC2.out.trans (Chl.of_no hch3))
  clear hch3
  clear hc2 hb2 HL2 HB2 HC2
  have hp3 := HL3.out.row.lt
  have hc3 : w3.cell? ⟨p, 0, none⟩ = some v2 := by rw [HL3.out.row.cell]; rfl
  have hb3 : w3.cell? ⟨w.heap.size, 0, none⟩ = some (.int .i64 pri) := by rw [HB3.out.cell]; rfl
  have hlen : ∀ ty w, (Builtin.len_ #[41] ty #[v2]).run Try.prog w = .ok (.int .i64 ((rem id L).length : Int)) w := fun ty w => by
    rcases HL3.out.cases with ⟨rfl, e⟩ | ⟨g, cap, rest, rfl, _⟩
    · rw [e]; rfl
    · rfl
  have HLEN := Lib.hid hlen
  clear hlen
  obtain ⟨sp, hsp⟩ : ∃ sp : Nat, sp = spot pri (rem id L) := ⟨_, rfl⟩
  rw [← hsp] at HP
  have HSP := Lib.hid hsp
  clear hsp
  obtain ⟨lo, hlo⟩ : ∃ lo : Int, lo = low pri (rem id L) := ⟨_, rfl⟩
  rw [← hlo]
  have HLO := Lib.hid hlo
  clear hlo
  go_upto_if 31 with (fail)

  go_cut [7] from 32 to 37 (fun v wx => v = .int .i64 (sp : Int) ∧ w3 = wx)
  case first =>
    have hsp := HSP.out
    have hlo := HLO.out
    have hlen := HLEN.out
    unfold spot at hsp
    unfold low idx at hlo
    cases hf : (rem id L).findIdx? (fun x => decide (x.2 < pri)) with
    | none =>
      rw [hf] at hsp hlo
      dsimp only at hlo
      replace hsp : sp = (rem id L).length := hsp
      subst hlo
      subst hsp
      clear hf
      go_wp2_with (simp only [hlen])
      go_meet
      case rel => exact ⟨rfl, rfl⟩
    | some i =>
      rw [hf] at hsp hlo
      dsimp only at hlo
      replace hsp : sp = i := hsp
      subst hlo
      subst hsp
      clear hf hlen
      have d4 : decide ((sp : Int) < 0) = false := by simp
      go_wp2_with (fail)
      go_meet
      case rel => exact ⟨rfl, rfl⟩
  case rest =>
  obtain ⟨hv, hw⟩ := hcut
  subst hv hw
  go_upto_region 7 with (fail)
  have HEND : Hid (∀ v5 w6, Row w6 p 45 [v5, .int .i64 N] → w6.ownsRow base 62 2 v5 ((rem id L).length + 1) (prs ((rem id L).take sp ++ (id, pri) :: (rem id L).drop sp)) → ∀ w4, Ch No w3 w4 → Ch (fun k => k = p ∨ Own v2 k) w4 w6 → (∃ v', Ln base p N v' PU w6) ∧ Chl base w w6) := by
    intro v5 w6 hp6 ho6 w4 hc4 hc6
    have hpm := put_perm id pri (rem id L) sp
    have hl4 := HL3.out.keepNo hc4
    rw [HP.out]
    refine ⟨⟨v5, hp6, ?_, HL3.out.pb, Nat.le_trans hl4.hb hc6.size, ?_, ?_, HL3.out.hN⟩, (HC3.out.then_ hc4).trans (Chl.of_two hl4 hc6)⟩
    · have e : ((rem id L).take sp ++ (id, pri) :: (rem id L).drop sp).length = (rem id L).length + 1 := by rw [hpm.length_eq]; rfl
      rw [e]
      exact ho6
    · rw [(hpm.map (·.1)).nodup_iff, List.map_cons, List.nodup_cons]
      refine ⟨fun h => ?_, HL3.out.nd⟩
      obtain ⟨y, hy, he⟩ := List.mem_map.1 h
      exact rem_not id L HL.out.nd y hy he
    · intro x hx
      rcases List.mem_cons.1 (hpm.mem_iff.1 hx) with rfl | hx
      · exact ⟨h1, h2⟩
      · exact HL3.out.rg x hx
  obtain ⟨w4, hw4⟩ : ∃ w4, w4 = w3.drew.alloc (.cells #[.int .i64 id, .int .i64 pri] 62) := ⟨_, rfl⟩
  have HC4 : Hid (Ch No w3 w4) := by rw [hw4]; exact ((Ch.refl No w3).drew).alloc _
  have HN4 : Hid (Row w4 w3.heap.size 62 [.int .i64 id, .int .i64 pri]) := by rw [hw4]; exact Row.new w3.drew 62 [.int .i64 id, .int .i64 pri]
  have HW4 := Lib.hid hw4
  clear hw4
  have HL4 := Lib.hid (HL3.out.keepNo HC4.out)
  have HB4 := Lib.hid (HB3.out.keepNo HC4.out)
  have hcp : w.heap.size ≠ p := fun e => by
    have h1 := HB3.out
    rw [e] at h1
    exact absurd (h1.eq_ HL3.out.row).1 (by decide)
  have HCP := Lib.hid hcp
  have HSPL : Hid (sp ≤ (rem id L).length) := by
    show _ ≤ _
    rw [HSP.out]
    unfold spot
    cases hf : (rem id L).findIdx? (fun x => decide (x.2 < pri)) with
    | none => exact Nat.le_refl _
    | some i =>
      obtain ⟨_, _, _, hi⟩ := find_some hf
      exact Nat.le_of_lt hi
  have hins := insert_calls (rem id L) base w3.heap.size (rem id L).length sp v2 w4 (id, pri) rfl (by have := HL4.out.small; omega) HSPL.out HL4.out.hb HL4.out.own HN4.out (fun e => by
    have := HL3.out.own
    have h2 := this.lt _ e
    omega)
  have HIN := Lib.hid hins
  clear hins hcp hc3 hb3
  have HPC3 : Hid (w3.drew.cell? ⟨p, 0, none⟩ = some v2) := by show World.cell? _ _ = _; rw [(HL3.out.row.drew).cell]; rfl
  have HPC4 : Hid (w4.cell? ⟨p, 0, none⟩ = some v2) := by show World.cell? _ _ = _; rw [HL4.out.row.cell]; rfl
  have HS4 : Hid (w4.cell? ⟨w.heap.size, 0, none⟩ = some (.int .i64 pri)) := by show World.cell? _ _ = _; rw [HB4.out.cell]; rfl
  have HB0 : Hid (w3.drew.cell? ⟨w.heap.size, 0, none⟩ = some (.int .i64 pri)) := by show World.cell? _ _ = _; rw [(HB3.out.drew).cell]; rfl
  have HS0 : Hid ((fun w' : World => w'.cell? ⟨w.heap.size, 0, none⟩ = some (.int .i64 pri)) w3.drew) := HB0.out
  refine wp_region_held (S := fun w' => w'.cell? ⟨w.heap.size, 0, none⟩ = some (.int .i64 pri)) (by kernel_rfl) ?_
  refine wpAnyH_take (i := 0) (oi := ⟨some 38, _, _, _, _, _⟩) (v := .pointer (some ⟨p, 0, none⟩)) rfl (by kernel_rfl) (by kernel_rfl) (by kernel_rfl) (fun _ _ _ h => h) (Or.inl ⟨by rfl, fun _ _ => rfl⟩) HS0.out ?_
  simp only [Act.put, List.setIfInBounds_toArray, List.set_cons_zero, List.set_cons_succ]
  refine wpAnyH_take (i := 1) (oi := ⟨some 39, _, _, _, _, _⟩) (v := .pointer (some ⟨p, 0, none⟩)) rfl (by kernel_rfl) (by kernel_rfl) (by kernel_rfl) (fun _ _ _ h => h) (Or.inl ⟨by rfl, fun _ _ => rfl⟩) HS0.out ?_
  simp only [Act.put, List.setIfInBounds_toArray, List.set_cons_zero, List.set_cons_succ]
  refine wpAnyH_take (i := 2) (oi := ⟨some 40, _, _, _, _, _⟩) (v := .pointer (some ⟨p, 0, none⟩)) rfl (by kernel_rfl) (by kernel_rfl) (by kernel_rfl) (fun _ _ _ h => h) (Or.inl ⟨by rfl, fun _ _ => rfl⟩) HS0.out ?_
  simp only [Act.put, List.setIfInBounds_toArray, List.set_cons_zero, List.set_cons_succ]
  refine wpAnyH_take (i := 3) (oi := ⟨some 41, _, _, _, _, _⟩) (v := .pointer (some ⟨p, 0, none⟩)) rfl (by kernel_rfl) (by kernel_rfl) (by kernel_rfl) (fun _ _ _ h => h) (Or.inl ⟨by rfl, fun _ _ => by kernel_rfl⟩) HS0.out ?_
  simp only [Act.put, List.setIfInBounds_toArray, List.set_cons_zero, List.set_cons_succ]
  refine wpAnyH_take (i := 4) (oi := ⟨some 42, _, _, _, _, _⟩) (v := .pointer (some ⟨p, 0, none⟩)) rfl (by kernel_rfl) (by kernel_rfl) (by kernel_rfl) (fun _ _ _ h => h) (Or.inl ⟨by rfl, fun _ _ => by kernel_rfl⟩) HS0.out ?_
  simp only [Act.put, List.setIfInBounds_toArray, List.set_cons_zero, List.set_cons_succ]
  refine wpAnyH_take (i := 6) (oi := ⟨some 44, _, _, _, _, _⟩) (v := .int .i64 (sp : Int)) rfl (by kernel_rfl) (by kernel_rfl) (by kernel_rfl) (fun _ _ _ h => h) (Or.inl ⟨by rfl, fun _ _ => rfl⟩) HS0.out ?_
  simp only [Act.put, List.setIfInBounds_toArray, List.set_cons_zero, List.set_cons_succ]
  refine wpAnyH_take (i := 7) (oi := ⟨some 45, _, _, _, _, _⟩) (v := .int .i64 id) rfl (by kernel_rfl) (by kernel_rfl) (by kernel_rfl) (fun _ _ _ h => h) (Or.inl ⟨by rfl, fun _ _ => rfl⟩) HS0.out ?_
  simp only [Act.put, List.setIfInBounds_toArray, List.set_cons_zero, List.set_cons_succ]
  refine wpAnyH_take (i := 8) (oi := ⟨some 46, _, _, _, _, _⟩) (v := .int .i64 pri) rfl (by kernel_rfl) (by kernel_rfl) (by kernel_rfl) (fun _ _ _ h => h) (Or.inl ⟨by rfl, fun w' hs => exec_load_cell 3 (.tmp 5) rfl ⟨w.heap.size, 0, none⟩ rfl _ Try.underlying3 rfl _ hs⟩) HS0.out ?_
  simp only [Act.put, List.setIfInBounds_toArray, List.set_cons_zero, List.set_cons_succ]
  refine wpAnyH_take (i := 9) (oi := ⟨some 47, _, _, _, _, _⟩) (v := .agg #[.int .i64 id, .int .i64 pri]) rfl (by kernel_rfl) (by kernel_rfl) (by kernel_rfl) (fun _ _ _ h => h) (Or.inl ⟨by rfl, fun _ _ => by kernel_rfl⟩) HS0.out ?_
  simp only [Act.put, List.setIfInBounds_toArray, List.set_cons_zero, List.set_cons_succ]
  refine wpAnyH_norm 7 #[true, true, true, true, true, false, true, true, true, true, false, false, false, false, false, false] (by kernel_rfl) (by kernel_rfl) ?_
  refine wpAnyH_two (i := 5) (j := 10) (oi := ⟨some 43, _, _, _, _, _⟩) (oj := ⟨some 48, _, _, _, _, _⟩) (by kernel_rfl) rfl rfl (by rfl) (by rfl) ?_ ?_
  · refine wp_value v2 (exec_load_cell 41 (.tmp 42) rfl ⟨p, 0, none⟩ rfl _ Try.underlying41 rfl v2 HPC3.out) ?_
    refine And.intro HS0.out ?_
    simp only [Act.put, List.setIfInBounds_toArray, List.set_cons_zero, List.set_cons_succ]
    refine wpAnyH_one (i := 10) (o := ⟨some 48, _, _, _, _, _⟩) (by kernel_rfl) rfl (by rfl) ?_
    refine wp_value_to (w' := w4) (.slice (some ⟨w3.heap.size, 0, none⟩) 1 1) (by rw [HW4.out]; kernel_rfl) ?_
    refine And.intro HS4.out ?_
    simp only [Act.put, List.setIfInBounds_toArray, List.set_cons_zero, List.set_cons_succ]
    refine wpAnyH_norm 5 #[true, true, true, true, true, true, true, true, true, true, true, false, false, false, false, false] (by kernel_rfl) (by kernel_rfl) ?_
    refine wpAnyH_one (i := 11) (o := ⟨some 49, _, _, _, _, _⟩) (by kernel_rfl) rfl (by rfl) ?_
    refine wp_call 29 #[v2, .int .i64 (sp : Int), .slice (some ⟨w3.heap.size, 0, none⟩) 1 1] (by kernel_rfl) (HIN.out.mono ?_)
    rintro e w5 ⟨v5, rfl, hown, hch, hor⟩
    have HP5 : Hid (Row w5 p 45 [v2, .int .i64 N]) := HL4.out.row.keep hch HL4.out.no
    have HC5 : Hid (Ch (fun k => k = p ∨ Own v2 k) w4 w5) := hch.mono (fun _ _ h => .inr h)
    have HB5 : Hid (Row w5 w.heap.size 3 [.int .i64 pri]) := HB4.out.keep hch (fun hk => own_ne_row HL4.out.own HB4.out (by decide) hk)
    have HO5 := Lib.hid hown
    clear hown hch
    have HS5 : Hid (w5.cell? ⟨w.heap.size, 0, none⟩ = some (.int .i64 pri)) := by show World.cell? _ _ = _; rw [HB5.out.cell]; rfl
    refine ⟨_, rfl, HS5.out, ?_⟩
    simp only [Act.put, List.setIfInBounds_toArray, List.set_cons_zero, List.set_cons_succ]
    refine wpAnyH_one (i := 12) (o := ⟨some 50, _, _, _, _, _⟩) (by kernel_rfl) rfl (by rfl) ?_
    refine wp_value (.pointer (some ⟨p, 0, none⟩)) (by kernel_rfl) ?_
    refine And.intro HS5.out ?_
    simp only [Act.put, List.setIfInBounds_toArray, List.set_cons_zero, List.set_cons_succ]
    refine wpAnyH_one (i := 13) (o := ⟨some 51, _, _, _, _, _⟩) (by kernel_rfl) rfl (by rfl) ?_
    refine wp_value (.pointer (some ⟨p, 0, none⟩)) (by kernel_rfl) ?_
    refine And.intro HS5.out ?_
    simp only [Act.put, List.setIfInBounds_toArray, List.set_cons_zero, List.set_cons_succ]
    refine wpAnyH_one (i := 14) (o := ⟨some 52, _, _, _, _, _⟩) (by kernel_rfl) rfl (by rfl) ?_
    refine wp_value (.pointer (some ⟨p, 0, none⟩)) (by kernel_rfl) ?_
    refine And.intro HS5.out ?_
    simp only [Act.put, List.setIfInBounds_toArray, List.set_cons_zero, List.set_cons_succ]
    refine wpAnyH_norm 1 #[true, true, true, true, true, true, true, true, true, true, true, true, true, true, true, false] (by kernel_rfl) (by kernel_rfl) ?_
    refine wpAnyH_one (i := 15) (o := ⟨none, _, _, _, _, _⟩) (by kernel_rfl) rfl (by rfl) ?_
    have HV5 : Hid (v5.oneCell' = true) := by
      show _ = _
      rcases owns_open_sz HO5.out with ⟨rfl, _⟩ | ⟨_, _, _, rfl, _⟩ <;> rfl
    have HC50 : Hid ((w5.cell? ⟨p, 0, none⟩).isSome = true) := by show _ = _; rw [HP5.out.cell]; rfl
    have HF50 : Hid (w5.frozen? ⟨p, 0, none⟩ = false) := HP5.out.frozen _
    refine wp_store_cell 41 (.tmp 52) (.tmp 49) rfl p 0 v5 ?hx9 ?hy9 HV5.out size41 HC50.out HF50.out ?h9
    case hx9 => kernel_rfl
    case hy9 => kernel_rfl
    case h9 =>
      have HP6 : Hid (Row (w5.setCells p 0 [v5]) p 45 [v5, .int .i64 N]) := row_setCells [v5] 0 w5 _ HP5.out
      have HC6 : Hid (Ch (fun k => k = p ∨ Own v2 k) w4 (w5.setCells p 0 [v5])) := HC5.out.trans (ch_setCells [v5] 0 w5) (fun _ _ hk => .inl hk)
      have HO6 : Hid ((w5.setCells p 0 [v5]).ownsRow base 62 2 v5 ((rem id L).length + 1) (prs ((rem id L).take sp ++ (id, pri) :: (rem id L).drop sp))) := owns_keepIs HO5.out (ch_setCells [v5] 0 w5) (own_ne_row HO5.out HP5.out (by decide))
      have HB6 : Hid (Row (w5.setCells p 0 [v5]) w.heap.size 3 [.int .i64 pri]) := HB5.out.keepIs (ch_setCells [v5] 0 w5) HCP.out
      generalize w5.setCells p 0 [v5] = w6 at *
      refine And.intro (by rw [HB6.out.cell]; rfl) ?_
      simp only [Act.put, List.setIfInBounds_toArray, List.set_cons_zero, List.set_cons_succ]
      refine wpAnyH_done (by kernel_rfl) ?_ _
      go_wp2_with (fail)
      exact bodyPost_ret (v := .bool true) (by kernel_rfl) rfl ⟨rfl, HEND.out v5 w6 HP6.out HO6.out w4 HC4.out HC6.out⟩
  · refine wp_value_to (w' := w4) (.slice (some ⟨w3.heap.size, 0, none⟩) 1 1) (by rw [HW4.out]; kernel_rfl) ?_
    refine And.intro HS4.out ?_
    simp only [Act.put, List.setIfInBounds_toArray, List.set_cons_zero, List.set_cons_succ]
    refine wpAnyH_one (i := 5) (o := ⟨some 43, _, _, _, _, _⟩) (by kernel_rfl) rfl (by rfl) ?_
    refine wp_value v2 (exec_load_cell 41 (.tmp 42) rfl ⟨p, 0, none⟩ rfl _ Try.underlying41 rfl v2 HPC4.out) ?_
    refine And.intro HS4.out ?_
    simp only [Act.put, List.setIfInBounds_toArray, List.set_cons_zero, List.set_cons_succ]
    refine wpAnyH_norm 5 #[true, true, true, true, true, true, true, true, true, true, true, false, false, false, false, false] (by kernel_rfl) (by kernel_rfl) ?_
    refine wpAnyH_one (i := 11) (o := ⟨some 49, _, _, _, _, _⟩) (by kernel_rfl) rfl (by rfl) ?_
    refine wp_call 29 #[v2, .int .i64 (sp : Int), .slice (some ⟨w3.heap.size, 0, none⟩) 1 1] (by kernel_rfl) (HIN.out.mono ?_)
    rintro e w5 ⟨v5, rfl, hown, hch, hor⟩
    have HP5 : Hid (Row w5 p 45 [v2, .int .i64 N]) := HL4.out.row.keep hch HL4.out.no
    have HC5 : Hid (Ch (fun k => k = p ∨ Own v2 k) w4 w5) := hch.mono (fun _ _ h => .inr h)
    have HB5 : Hid (Row w5 w.heap.size 3 [.int .i64 pri]) := HB4.out.keep hch (fun hk => own_ne_row HL4.out.own HB4.out (by decide) hk)
    have HO5 := Lib.hid hown
    clear hown hch
    have HS5 : Hid (w5.cell? ⟨w.heap.size, 0, none⟩ = some (.int .i64 pri)) := by show World.cell? _ _ = _; rw [HB5.out.cell]; rfl
    refine ⟨_, rfl, HS5.out, ?_⟩
    simp only [Act.put, List.setIfInBounds_toArray, List.set_cons_zero, List.set_cons_succ]
    refine wpAnyH_one (i := 12) (o := ⟨some 50, _, _, _, _, _⟩) (by kernel_rfl) rfl (by rfl) ?_
    refine wp_value (.pointer (some ⟨p, 0, none⟩)) (by kernel_rfl) ?_
    refine And.intro HS5.out ?_
    simp only [Act.put, List.setIfInBounds_toArray, List.set_cons_zero, List.set_cons_succ]
    refine wpAnyH_one (i := 13) (o := ⟨some 51, _, _, _, _, _⟩) (by kernel_rfl) rfl (by rfl) ?_
    refine wp_value (.pointer (some ⟨p, 0, none⟩)) (by kernel_rfl) ?_
    refine And.intro HS5.out ?_
    simp only [Act.put, List.setIfInBounds_toArray, List.set_cons_zero, List.set_cons_succ]
    refine wpAnyH_one (i := 14) (o := ⟨some 52, _, _, _, _, _⟩) (by kernel_rfl) rfl (by rfl) ?_
    refine wp_value (.pointer (some ⟨p, 0, none⟩)) (by kernel_rfl) ?_
    refine And.intro HS5.out ?_
    simp only [Act.put, List.setIfInBounds_toArray, List.set_cons_zero, List.set_cons_succ]
    refine wpAnyH_norm 1 #[true, true, true, true, true, true, true, true, true, true, true, true, true, true, true, false] (by kernel_rfl) (by kernel_rfl) ?_
    refine wpAnyH_one (i := 15) (o := ⟨none, _, _, _, _, _⟩) (by kernel_rfl) rfl (by rfl) ?_
    have HV5 : Hid (v5.oneCell' = true) := by
      show _ = _
      rcases owns_open_sz HO5.out with ⟨rfl, _⟩ | ⟨_, _, _, rfl, _⟩ <;> rfl
    have HC50 : Hid ((w5.cell? ⟨p, 0, none⟩).isSome = true) := by show _ = _; rw [HP5.out.cell]; rfl
    have HF50 : Hid (w5.frozen? ⟨p, 0, none⟩ = false) := HP5.out.frozen _
    refine wp_store_cell 41 (.tmp 52) (.tmp 49) rfl p 0 v5 ?hx9 ?hy9 HV5.out size41 HC50.out HF50.out ?h9
    case hx9 => kernel_rfl
    case hy9 => kernel_rfl
    case h9 =>
      have HP6 : Hid (Row (w5.setCells p 0 [v5]) p 45 [v5, .int .i64 N]) := row_setCells [v5] 0 w5 _ HP5.out
      have HC6 : Hid (Ch (fun k => k = p ∨ Own v2 k) w4 (w5.setCells p 0 [v5])) := HC5.out.trans (ch_setCells [v5] 0 w5) (fun _ _ hk => .inl hk)
      have HO6 : Hid ((w5.setCells p 0 [v5]).ownsRow base 62 2 v5 ((rem id L).length + 1) (prs ((rem id L).take sp ++ (id, pri) :: (rem id L).drop sp))) := owns_keepIs HO5.out (ch_setCells [v5] 0 w5) (own_ne_row HO5.out HP5.out (by decide))
      have HB6 : Hid (Row (w5.setCells p 0 [v5]) w.heap.size 3 [.int .i64 pri]) := HB5.out.keepIs (ch_setCells [v5] 0 w5) HCP.out
      generalize w5.setCells p 0 [v5] = w6 at *
      refine And.intro (by rw [HB6.out.cell]; rfl) ?_
      simp only [Act.put, List.setIfInBounds_toArray, List.set_cons_zero, List.set_cons_succ]
      refine wpAnyH_done (by kernel_rfl) ?_ _
      go_wp2_with (fail)
      exact bodyPost_ret (v := .bool true) (by kernel_rfl) rfl ⟨rfl, HEND.out v5 w6 HP6.out HO6.out w4 HC4.out HC6.out⟩
end Go.Proofs.Ytbcnkggecgblbaa
