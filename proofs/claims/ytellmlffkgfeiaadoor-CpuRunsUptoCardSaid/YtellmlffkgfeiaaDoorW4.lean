/- CpuSteps: the walk. -/
import Derived.Test.YtellmlffkgfeiaaDoorW3
set_option linter.unusedVariables false
set_option linter.unusedSimpArgs false
namespace Go.Proofs.YtellmlffkgfeiaaDoor
open Go.RowKit
theorem exec_cut {P : Program} {a : Act} {o : Oper} {w : World} (t e : TypeId) (x y : Operand) (ho : o.op = .slice t x none (some y) none) (hu : P.underlying t = some (.slice e)) (s : Nat) (hs : ∀ w, (sizeOf e).run P w = .ok s w) (g L cap n : Nat) (hx : a.eval x = .slice (some ⟨g, 0, none⟩) L cap) (hy : a.eval y = .int .i64 (n : Int)) (hn : n ≤ cap) (h63 : cap ≤ 9223372036854775807) :
    (execOp a.eval o).run P w = .ok (.value (.slice (some ⟨g, 0, none⟩) n cap)) w := by
  have hnn : (n : Int) ≤ (cap : Int) := by omega
  have h0 : (0 : Int) ≤ (n : Int) := by omega
  unfold execOp
  simp only [ho]
  generalize a.eval = ρ at *
  simp only [Option.map_some, Option.map_none, hx, hy]
  go_simp
theorem cl_none {w : World} {cs : List Ins} (h : Cl w none (codeCells cs)) : cs = [] := by
  cases cs with
  | nil => rfl
  | cons x cs =>
    obtain ⟨ad, e, _⟩ := h 0 (.int .u8 x.op) rfl
    cases e
theorem row_cl {w : World} {g : Nat} {t : TypeId} {L rest : List Value} (h : Row w g t (L ++ rest)) : Cl w (some ⟨g, 0, none⟩) L := by
  have := h.cl0.take L.length
  rwa [List.take_append_of_le_length (Nat.le_refl _), List.take_length] at this
/-- two operations may come next -/
theorem wpAnyH_two {P : Program} {md : Region.Mode} {ops : Array Oper} {Q : Exit → Act → World → Prop} {S : World → Prop} {i j fuel : Nat} {oi oj : Oper} {listed : Array Bool} {a : Act} {w : World} (hr : Region.ready md ops listed = [i, j]) (hi : ops[i]? = some oi) (hj : ops[j]? = some oj) (hwi : Region.wanted oi (yielded ops a.tmps) = true) (hwj : Region.wanted oj (yielded ops a.tmps) = true)
    (h1 : oi.wp P a w (fun a' w' => S w' ∧ wpAnyH P md ops Q S fuel (listed.setIfInBounds i true) a' w') Q) (h2 : oj.wp P a w (fun a' w' => S w' ∧ wpAnyH P md ops Q S fuel (listed.setIfInBounds j true) a' w') Q) : wpAnyH P md ops Q S (fuel + 1) listed a w :=
  wpAnyH_all hr (by simp) fun k hk => by
    simp only [List.mem_cons, List.not_mem_nil, or_false] at hk
    unfold wpOp
    rcases hk with rfl | rfl
    · simp only [hi]
      rw [if_pos hwi]
      exact .inl h1
    · simp only [hj]
      rw [if_pos hwj]
      exact .inl h2
theorem wp_alloc30 {o : Oper} {a : Act} {w : World} {K : Act → World → Prop} {Q : Exit → Act → World → Prop} (ho : o.op = .alloc 30) (h : K (a.put o.dst (.pointer (some ⟨w.heap.size, 0, none⟩))) (w.alloc (.cells (effCells zeroEff).toArray 30))) : o.wp Tryd.prog a w K Q := by
  obtain ⟨dst, op, ty, pos, after, guard⟩ := o
  simp only at ho
  subst ho
  have e : (execOp a.eval { dst, op := .alloc 30, type := ty, pos, after, guard }).run Tryd.prog w = .ok (.value (.pointer (some ⟨w.heap.size, 0, none⟩))) (w.alloc (.cells (effCells zeroEff).toArray 30)) := by kernel_rfl
  unfold Oper.wp
  rw [e]
  exact h
theorem wp_store30 {o : Oper} {a : Act} {w : World} {K : Act → World → Prop} {Q : Exit → Act → World → Prop} (x y : Operand) (ho : o.op = .store 30 x y) (g : Nat) (E : Eff) (hx : a.eval x = .pointer (some ⟨g, 0, none⟩)) (hy : a.eval y = .agg (effCells E).toArray) (E0 : Eff) (hr : Row w g 30 (effCells E0))
    (h : ∀ w', Row w' g 30 (effCells E) → Ch (Is g) w w' → K (a.put o.dst undef) w') : o.wp Tryd.prog a w K Q := by
  refine wp_store_row 30 x y ho g (effCells E).toArray hx hy 30 (effCells E0).toArray hr (by simpa using sizeE E) (by simp [effCells_length]) (by simpa using eff_one E) ?_
  exact h _ (hr.setRow _) (ch_setRow w g _)
set_option maxRecDepth 100000 in
set_option maxHeartbeats 8000000 in
theorem steps_calls (A : Option Addr) (cs : List Ins) (cap : Nat) (hl : cs.length ≤ 1048576) (hcs : ∀ x ∈ cs, x.ok) (M : Option Addr) (xs : List Int) (mcap : Nat) (hm : xs.length ≤ 1048576) (hmc : xs.length ≤ mcap) (hxs : ∀ x ∈ xs, In64 x) (fixed : Int) (r : Nat → Int) (hin : ∀ i, i < 16 → In64 (r i)) (pc : Int)
    (w : World) (hcode : Cl w A (codeCells cs)) (hM : Cl w M (ints xs)) (hg : Glob w) :
    Calls Tryd.prog 3 #[.agg (machCells (.slice A cs.length cap) (.slice M xs.length mcap) fixed r pc).toArray] w fun e w' => e = .returned (.bool true) ∧ Ch No w w' := by
  have HG := Lib.hid hg
  have HCODE := Lib.hid hcode
  have HMM := Lib.hid hM
  have HCS := Lib.hid hcs
  have HIN := Lib.hid hin
  have HXS := Lib.hid hxs
  have HA : Hid (A = none → cs = []) := fun e => by subst e; exact cl_none hcode
  have HR1 := Lib.hid (Row.new w 26 (machCells (.slice A cs.length cap) (.slice M xs.length mcap) fixed r pc))
  clear hcode hM hg hin hcs hxs
  have m0 : (machCells (.slice A cs.length cap) (.slice M xs.length mcap) fixed r pc)[0]? = some (.slice A cs.length cap) := rfl
  go_enter Tryd.func3, Tryd.ntmps3
  go_wp2_with (fail)
  refine (instrs_10 A cap cs _ hl (HCODE.out.keepNo ((Ch.refl No w).alloc _)) HA.out).mono ?_
  rintro e w2 ⟨gc, c1, R1, rfl, hr2, hc1, hmx1, hgc, hc2⟩
  clear m0
  have HC2 : Hid (Ch No w w2) := ((Ch.refl No w).alloc _).then_ hc2
  have HRM2 := Lib.hid (HR1.out.keepNo hc2)
  have HGC2 := Lib.hid hr2
  have hlt2 : w.heap.size < w2.heap.size := HRM2.out.lt
  have HGCW : Hid (w.heap.size < gc) := by show _ < _; simp at hgc; omega
  clear hr2 hc2 hgc
  have g1 : w2.cell? ⟨w.heap.size, 1, none⟩ = some (.slice M xs.length mcap) := HRM2.out.cell 1
  go_wp2_with (fail)
  refine (words_11 M mcap xs _ hm (HMM.out.keepNo HC2.out)).mono ?_
  rintro e w3 ⟨gm, c2, R2, rfl, hr3, hc2, hmx2, hgm, hc3⟩
  have HC3 : Hid (Ch No w w3) := HC2.out.then_ hc3
  have HRM3 := Lib.hid (HRM2.out.keepNo hc3)
  have HGC3 : Hid (Row w3 gc 45 (codeCells cs ++ (codeCells (mi 64) ++ R1))) := by
    have h := HGC2.out.keepNo hc3
    rw [codeCells_append, List.append_assoc] at h
    exact h
  have HGM3 : Hid (Row w3 gm 2 (ints xs ++ (ints (mw 64) ++ R2))) := by
    have h := hr3
    rw [ints_append, List.append_assoc] at h
    exact h
  have HGMW : Hid (w.heap.size < gm) := by show _ < _; omega
  have HLE0 : Hid (cs.length + 64 ≤ c1 ∧ xs.length + 64 ≤ c2) := ⟨hc1, hc2⟩
  clear hr3 hc3 hgm g1 HGC2 HRM2 HC2 hlt2 hc1 hc2
  unfold maxLen at hmx1 hmx2
  have HLE : Hid (cs.length ≤ c1 ∧ c1 ≤ 9223372036854775807 ∧ xs.length ≤ c2 ∧ c2 ≤ 9223372036854775807) := ⟨by have := HLE0.out; omega, by omega, by have := HLE0.out; omega, by omega⟩
  clear hmx1 hmx2
  have HSTEP : Hid (∀ W, Ch No w3 W → Calls Tryd.prog 12 #[.slice (some ⟨gc, 0, none⟩) cs.length c1, .slice (some ⟨gm, 0, none⟩) xs.length c2, .int .i64 fixed, .agg (regCells r).toArray, .int .i64 pc] W fun e w' => e = .returned (.agg (effCells (stepF cs xs fixed r pc)).toArray) ∧ Ch No W w') := fun W hW => step_calls (some ⟨gc, 0, none⟩) cs c1 (by omega) HCS.out (some ⟨gm, 0, none⟩) xs c2 (by omega) HLE.out.2.2.1 fixed r HIN.out pc W ((row_cl HGC3.out).keepNo hW) ((row_cl HGM3.out).keepNo hW) (HG.out.keep (HC3.out.then_ hW) (not_no _))
  have HRST : Hid (∀ W, Ch No w W → Calls Tryd.prog 13 #[.slice A cs.length cap, .slice M xs.length mcap, .int .i64 fixed, .agg (regCells r).toArray, .int .i64 pc] W fun e w' => e = .returned (.agg (effCells (stepF cs xs fixed r pc)).toArray) ∧ Ch No W w') := fun W hW => rstep_calls A cs cap (by omega) HCS.out M xs mcap (by omega) fixed r HIN.out pc W (HCODE.out.keepNo hW) (HMM.out.keepNo hW)
  generalize stepF cs xs fixed r pc = E at *
  go_upto_region 3 with (fail)
  go_cut [5] from 13 to 29 (fun v5 wx => ∃ b5 : Nat, v5 = .pointer (some ⟨b5, 0, none⟩) ∧ Hid (Row wx b5 30 (effCells (E))) ∧ Hid (w3.heap.size ≤ b5) ∧ Hid (Ch No w3 wx))
  case first =>
    refine wp_region_held (S := fun w' => Ch No w3 w') (by kernel_rfl) ?_
    have HS : Hid (Ch No w3 w3.drew) := (Ch.refl No w3).drew
    refine wpAnyH_take (i := 0) (oi := ⟨some 13, _, _, _, _, _⟩) (v := .slice (some ⟨gc, 0, none⟩) (cs.length + 64) c1) rfl (by kernel_rfl) (by kernel_rfl) (by kernel_rfl) (fun _ _ _ h => h) (Or.inl ⟨by rfl, fun _ _ => rfl⟩) HS.out ?_
    simp only [Act.put, List.setIfInBounds_toArray, List.set_cons_zero, List.set_cons_succ]
    refine wpAnyH_take (i := 1) (oi := ⟨some 14, _, _, _, _, _⟩) (v := .pointer (some ⟨w.heap.size, 0, none⟩)) rfl (by kernel_rfl) (by kernel_rfl) (by kernel_rfl) (fun _ _ _ h => h) (Or.inl ⟨by rfl, fun _ _ => by kernel_rfl⟩) HS.out ?_
    simp only [Act.put, List.setIfInBounds_toArray, List.set_cons_zero, List.set_cons_succ]
    refine wpAnyH_take (i := 2) (oi := ⟨some 15, _, _, _, _, _⟩) (v := .slice A cs.length cap) rfl (by kernel_rfl) (by kernel_rfl) (by kernel_rfl) (fun _ _ _ h => h) (Or.inl ⟨by rfl, fun w' hw' => exec_load_cell 22 (.tmp 14) rfl ⟨w.heap.size, 0, none⟩ rfl _ Tryd.underlying22 rfl _ ((HRM3.out.keepNo hw').cell 0)⟩) HS.out ?_
    simp only [Act.put, List.setIfInBounds_toArray, List.set_cons_zero, List.set_cons_succ]
    refine wpAnyH_take (i := 3) (oi := ⟨some 16, _, _, _, _, _⟩) (v := .int .i64 (cs.length : Int)) rfl (by kernel_rfl) (by kernel_rfl) (by kernel_rfl) (fun _ _ _ h => h) (Or.inl ⟨by rfl, fun _ _ => by kernel_rfl⟩) HS.out ?_
    simp only [Act.put, List.setIfInBounds_toArray, List.set_cons_zero, List.set_cons_succ]
    refine wpAnyH_take (i := 4) (oi := ⟨some 17, _, _, _, _, _⟩) (v := .slice (some ⟨gc, 0, none⟩) cs.length c1) rfl (by kernel_rfl) (by kernel_rfl) (by kernel_rfl) (fun _ _ _ h => h) (Or.inl ⟨by rfl, fun w' _ => exec_cut 22 45 (.tmp 13) (.tmp 16) rfl Tryd.underlying22 5 (fun _ => by kernel_rfl) gc _ c1 cs.length rfl rfl HLE.out.1 HLE.out.2.1⟩) HS.out ?_
    simp only [Act.put, List.setIfInBounds_toArray, List.set_cons_zero, List.set_cons_succ]
    refine wpAnyH_take (i := 5) (oi := ⟨some 18, _, _, _, _, _⟩) (v := .slice (some ⟨gm, 0, none⟩) (xs.length + 64) c2) rfl (by kernel_rfl) (by kernel_rfl) (by kernel_rfl) (fun _ _ _ h => h) (Or.inl ⟨by rfl, fun _ _ => rfl⟩) HS.out ?_
    simp only [Act.put, List.setIfInBounds_toArray, List.set_cons_zero, List.set_cons_succ]
    refine wpAnyH_take (i := 6) (oi := ⟨some 19, _, _, _, _, _⟩) (v := .pointer (some ⟨w.heap.size, 1, none⟩)) rfl (by kernel_rfl) (by kernel_rfl) (by kernel_rfl) (fun _ _ _ h => h) (Or.inl ⟨by rfl, fun _ _ => by kernel_rfl⟩) HS.out ?_
    simp only [Act.put, List.setIfInBounds_toArray, List.set_cons_zero, List.set_cons_succ]
    refine wpAnyH_take (i := 7) (oi := ⟨some 20, _, _, _, _, _⟩) (v := .slice M xs.length mcap) rfl (by kernel_rfl) (by kernel_rfl) (by kernel_rfl) (fun _ _ _ h => h) (Or.inl ⟨by rfl, fun w' hw' => exec_load_cell 23 (.tmp 19) rfl ⟨w.heap.size, 1, none⟩ rfl _ Tryd.underlying23 rfl _ ((HRM3.out.keepNo hw').cell 1)⟩) HS.out ?_
    simp only [Act.put, List.setIfInBounds_toArray, List.set_cons_zero, List.set_cons_succ]
    refine wpAnyH_take (i := 8) (oi := ⟨some 21, _, _, _, _, _⟩) (v := .int .i64 (xs.length : Int)) rfl (by kernel_rfl) (by kernel_rfl) (by kernel_rfl) (fun _ _ _ h => h) (Or.inl ⟨by rfl, fun _ _ => by kernel_rfl⟩) HS.out ?_
    simp only [Act.put, List.setIfInBounds_toArray, List.set_cons_zero, List.set_cons_succ]
    refine wpAnyH_take (i := 9) (oi := ⟨some 22, _, _, _, _, _⟩) (v := .slice (some ⟨gm, 0, none⟩) xs.length c2) rfl (by kernel_rfl) (by kernel_rfl) (by kernel_rfl) (fun _ _ _ h => h) (Or.inl ⟨by rfl, fun w' _ => exec_cut 23 2 (.tmp 18) (.tmp 21) rfl Tryd.underlying23 1 (fun _ => by kernel_rfl) gm _ c2 xs.length rfl rfl HLE.out.2.2.1 HLE.out.2.2.2⟩) HS.out ?_
    simp only [Act.put, List.setIfInBounds_toArray, List.set_cons_zero, List.set_cons_succ]
    refine wpAnyH_take (i := 10) (oi := ⟨some 23, _, _, _, _, _⟩) (v := .pointer (some ⟨w.heap.size, 2, none⟩)) rfl (by kernel_rfl) (by kernel_rfl) (by kernel_rfl) (fun _ _ _ h => h) (Or.inl ⟨by rfl, fun _ _ => by kernel_rfl⟩) HS.out ?_
    simp only [Act.put, List.setIfInBounds_toArray, List.set_cons_zero, List.set_cons_succ]
    refine wpAnyH_take (i := 11) (oi := ⟨some 24, _, _, _, _, _⟩) (v := .int .i64 fixed) rfl (by kernel_rfl) (by kernel_rfl) (by kernel_rfl) (fun _ _ _ h => h) (Or.inl ⟨by rfl, fun w' hw' => exec_load_cell 3 (.tmp 23) rfl ⟨w.heap.size, 2, none⟩ rfl _ Tryd.underlying3 rfl _ ((HRM3.out.keepNo hw').cell 2)⟩) HS.out ?_
    simp only [Act.put, List.setIfInBounds_toArray, List.set_cons_zero, List.set_cons_succ]
    refine wpAnyH_take (i := 12) (oi := ⟨some 25, _, _, _, _, _⟩) (v := .pointer (some ⟨w.heap.size, 3, none⟩)) rfl (by kernel_rfl) (by kernel_rfl) (by kernel_rfl) (fun _ _ _ h => h) (Or.inl ⟨by rfl, fun _ _ => by kernel_rfl⟩) HS.out ?_
    simp only [Act.put, List.setIfInBounds_toArray, List.set_cons_zero, List.set_cons_succ]
    refine wpAnyH_take (i := 13) (oi := ⟨some 26, _, _, _, _, _⟩) (v := .agg (regCells r).toArray) rfl (by kernel_rfl) (by kernel_rfl) (by kernel_rfl) (fun _ _ _ h => h) (Or.inl ⟨by rfl, fun w' hw' => exec_load_mid 24 (.tmp 25) rfl w.heap.size 3 rfl (regCells r) _ (mach_range (HRM3.out.keepNo hw')) Tryd.underlying24 rfl (sizeR _)⟩) HS.out ?_
    simp only [Act.put, List.setIfInBounds_toArray, List.set_cons_zero, List.set_cons_succ]
    refine wpAnyH_take (i := 14) (oi := ⟨some 27, _, _, _, _, _⟩) (v := .pointer (some ⟨w.heap.size, 19, none⟩)) rfl (by kernel_rfl) (by kernel_rfl) (by kernel_rfl) (fun _ _ _ h => h) (Or.inl ⟨by rfl, fun _ _ => by kernel_rfl⟩) HS.out ?_
    simp only [Act.put, List.setIfInBounds_toArray, List.set_cons_zero, List.set_cons_succ]
    refine wpAnyH_take (i := 15) (oi := ⟨some 28, _, _, _, _, _⟩) (v := .int .i64 pc) rfl (by kernel_rfl) (by kernel_rfl) (by kernel_rfl) (fun _ _ _ h => h) (Or.inl ⟨by rfl, fun w' hw' => exec_load_cell 3 (.tmp 27) rfl ⟨w.heap.size, 19, none⟩ rfl _ Tryd.underlying3 rfl _ (((HRM3.out.keepNo hw').cell 19).trans (mach_pc _ _ _ _ _))⟩) HS.out ?_
    simp only [Act.put, List.setIfInBounds_toArray, List.set_cons_zero, List.set_cons_succ]
    refine wpAnyH_two (i := 16) (j := 17) (oi := ⟨some 29, _, _, _, _, _⟩) (oj := ⟨some 5, _, _, _, _, _⟩) (by kernel_rfl) rfl rfl (by rfl) (by rfl) (wp_call 12 #[.slice (some ⟨gc, 0, none⟩) cs.length c1, .slice (some ⟨gm, 0, none⟩) xs.length c2, .int .i64 fixed, .agg (regCells r).toArray, .int .i64 pc] (by kernel_rfl) ((HSTEP.out _ (HS.out)).mono ?_)) (wp_alloc30 rfl ?_)
    · rintro e wn ⟨rfl, hcn⟩
      refine ⟨_, rfl, HS.out.then_ hcn, ?_⟩
      have HSn : Hid (Ch No w3 wn) := HS.out.then_ hcn
      clear hcn
      simp only [Act.put, List.setIfInBounds_toArray, List.set_cons_zero, List.set_cons_succ]
      refine wpAnyH_one (i := 17) (o := ⟨some 5, _, _, _, _, _⟩) (by kernel_rfl) rfl (by rfl) (wp_alloc30 rfl ?_)
      refine ⟨HSn.out.alloc _, ?_⟩
      simp only [Act.put, List.setIfInBounds_toArray, List.set_cons_zero, List.set_cons_succ]
      refine wpAnyH_one (i := 18) (o := ⟨none, _, _, _, _, _⟩) (by kernel_rfl) rfl (by rfl) (wp_store30 (.tmp 5) (.tmp 29) rfl wn.heap.size (E) rfl rfl zeroEff (Row.new wn 30 (effCells zeroEff)) ?_)
      intro w6 hr6 hc6
      have HR6 := Lib.hid hr6
      have HW6 : Hid (Ch No w3 w6) := ch_newg (HSn.out.alloc _) hc6 HSn.out.size
      clear hr6 hc6
      refine ⟨HW6.out, ?_⟩
      simp only [Act.put, List.setIfInBounds_toArray, List.set_cons_zero, List.set_cons_succ]
      refine wpAnyH_done (by kernel_rfl) ?_ _
      go_wp2_with (fail)
      go_meet
      case rel => exact ⟨wn.heap.size, rfl, HR6, HSn.out.size, HW6⟩
    · refine ⟨HS.out.alloc _, ?_⟩
      have HSa : Hid (Ch No w3 (World.alloc w3.drew (.cells (effCells zeroEff).toArray 30))) := HS.out.alloc _
      simp only [Act.put, List.setIfInBounds_toArray, List.set_cons_zero, List.set_cons_succ]
      refine wpAnyH_one (i := 16) (o := ⟨some 29, _, _, _, _, _⟩) (by kernel_rfl) rfl (by rfl) (wp_call 12 #[.slice (some ⟨gc, 0, none⟩) cs.length c1, .slice (some ⟨gm, 0, none⟩) xs.length c2, .int .i64 fixed, .agg (regCells r).toArray, .int .i64 pc] (by kernel_rfl) ((HSTEP.out _ (HSa.out)).mono ?_))
      rintro e wn ⟨rfl, hcn⟩
      refine ⟨_, rfl, HSa.out.then_ hcn, ?_⟩
      have HSn : Hid (Ch No w3 wn) := HSa.out.then_ hcn
      have HZn : Hid (Row wn w3.heap.size 30 (effCells zeroEff)) := (Row.new w3.drew 30 (effCells zeroEff)).keepNo hcn
      clear hcn
      simp only [Act.put, List.setIfInBounds_toArray, List.set_cons_zero, List.set_cons_succ]
      refine wpAnyH_one (i := 18) (o := ⟨none, _, _, _, _, _⟩) (by kernel_rfl) rfl (by rfl) (wp_store30 (.tmp 5) (.tmp 29) rfl w3.heap.size (E) rfl rfl zeroEff HZn.out ?_)
      intro w6 hr6 hc6
      have HR6 := Lib.hid hr6
      have HW6 : Hid (Ch No w3 w6) := ch_newg HSn.out hc6 (Nat.le_refl _)
      clear hr6 hc6
      refine ⟨HW6.out, ?_⟩
      simp only [Act.put, List.setIfInBounds_toArray, List.set_cons_zero, List.set_cons_succ]
      refine wpAnyH_done (by kernel_rfl) ?_ _
      go_wp2_with (fail)
      go_meet
      case rel => exact ⟨w3.heap.size, rfl, HR6, Nat.le_refl _, HW6⟩
  case rest =>
  obtain ⟨b5, hv5, HE6, HB5, HW6⟩ := hcut
  subst hv5
  generalize wc = w6 at *
  have HRM6 := Lib.hid (HRM3.out.keepNo HW6.out)
  have HGC6 := Lib.hid (HGC3.out.keepNo HW6.out)
  have HGM6 := Lib.hid (HGM3.out.keepNo HW6.out)
  have HC6 : Hid (Ch No w w6) := HC3.out.then_ HW6.out
  clear HRM3 HGC3 HGM3 HC3 HW6 HSTEP
  go_upto_region 4 with (fail)
  refine wp_region_held (S := fun w' => Ch No w6 w') (by kernel_rfl) ?_
  have HS : Hid (Ch No w6 w6.drew) := (Ch.refl No w6).drew
  refine wpAnyH_take (i := 0) (oi := ⟨some 30, _, _, _, _, _⟩) (v := .agg (effCells E).toArray) rfl (by kernel_rfl) (by kernel_rfl) (by kernel_rfl) (fun _ _ _ h => h) (Or.inl ⟨by rfl, fun w' hw' => exec_load_agg 30 (.tmp 5) rfl b5 rfl 30 _ (HE6.out.keepNo hw') _ Tryd.underlying30 rfl (sizeE _)⟩) HS.out ?_
  simp only [Act.put, List.setIfInBounds_toArray, List.set_cons_zero, List.set_cons_succ]
  refine wpAnyH_take (i := 1) (oi := ⟨some 31, _, _, _, _, _⟩) (v := .pointer (some ⟨w.heap.size, 0, none⟩)) rfl (by kernel_rfl) (by kernel_rfl) (by kernel_rfl) (fun _ _ _ h => h) (Or.inl ⟨by rfl, fun _ _ => by kernel_rfl⟩) HS.out ?_
  simp only [Act.put, List.setIfInBounds_toArray, List.set_cons_zero, List.set_cons_succ]
  refine wpAnyH_take (i := 2) (oi := ⟨some 32, _, _, _, _, _⟩) (v := .slice A cs.length cap) rfl (by kernel_rfl) (by kernel_rfl) (by kernel_rfl) (fun _ _ _ h => h) (Or.inl ⟨by rfl, fun w' hw' => exec_load_cell 22 (.tmp 31) rfl ⟨w.heap.size, 0, none⟩ rfl _ Tryd.underlying22 rfl _ ((HRM6.out.keepNo hw').cell 0)⟩) HS.out ?_
  simp only [Act.put, List.setIfInBounds_toArray, List.set_cons_zero, List.set_cons_succ]
  refine wpAnyH_take (i := 3) (oi := ⟨some 33, _, _, _, _, _⟩) (v := .pointer (some ⟨w.heap.size, 1, none⟩)) rfl (by kernel_rfl) (by kernel_rfl) (by kernel_rfl) (fun _ _ _ h => h) (Or.inl ⟨by rfl, fun _ _ => by kernel_rfl⟩) HS.out ?_
  simp only [Act.put, List.setIfInBounds_toArray, List.set_cons_zero, List.set_cons_succ]
  refine wpAnyH_take (i := 4) (oi := ⟨some 34, _, _, _, _, _⟩) (v := .slice M xs.length mcap) rfl (by kernel_rfl) (by kernel_rfl) (by kernel_rfl) (fun _ _ _ h => h) (Or.inl ⟨by rfl, fun w' hw' => exec_load_cell 23 (.tmp 33) rfl ⟨w.heap.size, 1, none⟩ rfl _ Tryd.underlying23 rfl _ ((HRM6.out.keepNo hw').cell 1)⟩) HS.out ?_
  simp only [Act.put, List.setIfInBounds_toArray, List.set_cons_zero, List.set_cons_succ]
  refine wpAnyH_take (i := 5) (oi := ⟨some 35, _, _, _, _, _⟩) (v := .pointer (some ⟨w.heap.size, 2, none⟩)) rfl (by kernel_rfl) (by kernel_rfl) (by kernel_rfl) (fun _ _ _ h => h) (Or.inl ⟨by rfl, fun _ _ => by kernel_rfl⟩) HS.out ?_
  simp only [Act.put, List.setIfInBounds_toArray, List.set_cons_zero, List.set_cons_succ]
  refine wpAnyH_take (i := 6) (oi := ⟨some 36, _, _, _, _, _⟩) (v := .int .i64 fixed) rfl (by kernel_rfl) (by kernel_rfl) (by kernel_rfl) (fun _ _ _ h => h) (Or.inl ⟨by rfl, fun w' hw' => exec_load_cell 3 (.tmp 35) rfl ⟨w.heap.size, 2, none⟩ rfl _ Tryd.underlying3 rfl _ ((HRM6.out.keepNo hw').cell 2)⟩) HS.out ?_
  simp only [Act.put, List.setIfInBounds_toArray, List.set_cons_zero, List.set_cons_succ]
  refine wpAnyH_take (i := 7) (oi := ⟨some 37, _, _, _, _, _⟩) (v := .pointer (some ⟨w.heap.size, 3, none⟩)) rfl (by kernel_rfl) (by kernel_rfl) (by kernel_rfl) (fun _ _ _ h => h) (Or.inl ⟨by rfl, fun _ _ => by kernel_rfl⟩) HS.out ?_
  simp only [Act.put, List.setIfInBounds_toArray, List.set_cons_zero, List.set_cons_succ]
  refine wpAnyH_take (i := 8) (oi := ⟨some 38, _, _, _, _, _⟩) (v := .agg (regCells r).toArray) rfl (by kernel_rfl) (by kernel_rfl) (by kernel_rfl) (fun _ _ _ h => h) (Or.inl ⟨by rfl, fun w' hw' => exec_load_mid 24 (.tmp 37) rfl w.heap.size 3 rfl (regCells r) _ (mach_range (HRM6.out.keepNo hw')) Tryd.underlying24 rfl (sizeR _)⟩) HS.out ?_
  simp only [Act.put, List.setIfInBounds_toArray, List.set_cons_zero, List.set_cons_succ]
  refine wpAnyH_take (i := 9) (oi := ⟨some 39, _, _, _, _, _⟩) (v := .pointer (some ⟨w.heap.size, 19, none⟩)) rfl (by kernel_rfl) (by kernel_rfl) (by kernel_rfl) (fun _ _ _ h => h) (Or.inl ⟨by rfl, fun _ _ => by kernel_rfl⟩) HS.out ?_
  simp only [Act.put, List.setIfInBounds_toArray, List.set_cons_zero, List.set_cons_succ]
  refine wpAnyH_take (i := 10) (oi := ⟨some 40, _, _, _, _, _⟩) (v := .int .i64 pc) rfl (by kernel_rfl) (by kernel_rfl) (by kernel_rfl) (fun _ _ _ h => h) (Or.inl ⟨by rfl, fun w' hw' => exec_load_cell 3 (.tmp 39) rfl ⟨w.heap.size, 19, none⟩ rfl _ Tryd.underlying3 rfl _ (((HRM6.out.keepNo hw').cell 19).trans (mach_pc _ _ _ _ _))⟩) HS.out ?_
  simp only [Act.put, List.setIfInBounds_toArray, List.set_cons_zero, List.set_cons_succ]
  refine wpAnyH_one (i := 11) (o := ⟨some 41, _, _, _, _, _⟩) (by kernel_rfl) rfl (by rfl) (wp_call 13 #[.slice A cs.length cap, .slice M xs.length mcap, .int .i64 fixed, .agg (regCells r).toArray, .int .i64 pc] (by kernel_rfl) ((HRST.out _ (HC6.out.then_ HS.out)).mono ?_))
  rintro e wn ⟨rfl, hcn⟩
  refine ⟨_, rfl, HS.out.then_ hcn, ?_⟩
  replace HS : Hid (Ch No w6 wn) := HS.out.then_ hcn
  clear hcn
  generalize wn = wa at *
  simp only [Act.put, List.setIfInBounds_toArray, List.set_cons_zero, List.set_cons_succ]
  refine wpAnyH_take (i := 12) (oi := ⟨some 42, _, _, _, _, _⟩) (v := .bool false) rfl (by kernel_rfl) (by kernel_rfl) (by kernel_rfl) (fun _ _ _ h => h) (Or.inl ⟨by rfl, fun w' _ => exec_neq_eff w' (.tmp 30) (.tmp 41) rfl E rfl rfl⟩) HS.out ?_
  simp only [Act.put, List.setIfInBounds_toArray, List.set_cons_zero, List.set_cons_succ]
  refine wpAnyH_take (i := 13) (oi := ⟨some 43, _, _, _, _, _⟩) (v := .bool false) rfl (by kernel_rfl) (by kernel_rfl) (by kernel_rfl) (fun _ _ _ h => h) (Or.inl ⟨by rfl, fun _ _ => rfl⟩) HS.out ?_
  simp only [Act.put, List.setIfInBounds_toArray, List.set_cons_zero, List.set_cons_succ]
  refine wpAnyH_take (i := 14) (oi := ⟨some 44, _, _, _, _, _⟩) (v := .slice (some ⟨gm, 0, none⟩) (xs.length + 64) c2) rfl (by kernel_rfl) (by kernel_rfl) (by kernel_rfl) (fun _ _ _ h => h) (Or.inl ⟨by rfl, fun _ _ => rfl⟩) HS.out ?_
  simp only [Act.put, List.setIfInBounds_toArray, List.set_cons_zero, List.set_cons_succ]
  refine wpAnyH_take (i := 15) (oi := ⟨some 45, _, _, _, _, _⟩) (v := .pointer (some ⟨w.heap.size, 1, none⟩)) rfl (by kernel_rfl) (by kernel_rfl) (by kernel_rfl) (fun _ _ _ h => h) (Or.inl ⟨by rfl, fun _ _ => by kernel_rfl⟩) HS.out ?_
  simp only [Act.put, List.setIfInBounds_toArray, List.set_cons_zero, List.set_cons_succ]
  refine wpAnyH_take (i := 16) (oi := ⟨some 46, _, _, _, _, _⟩) (v := .slice M xs.length mcap) rfl (by kernel_rfl) (by kernel_rfl) (by kernel_rfl) (fun _ _ _ h => h) (Or.inl ⟨by rfl, fun w' hw' => exec_load_cell 23 (.tmp 45) rfl ⟨w.heap.size, 1, none⟩ rfl _ Tryd.underlying23 rfl _ ((HRM6.out.keepNo hw').cell 1)⟩) HS.out ?_
  simp only [Act.put, List.setIfInBounds_toArray, List.set_cons_zero, List.set_cons_succ]
  refine wpAnyH_one (i := 17) (o := ⟨some 47, _, _, _, _, _⟩) (by kernel_rfl) rfl (by rfl) (wp_call 11 #[.slice M xs.length mcap] (by kernel_rfl) ((words_11 M mcap xs _ hm (HMM.out.keepNo (HC6.out.then_ HS.out))).mono ?_))
  rintro e wn ⟨gx, cx, RX, rfl, hrx, hcx, _, _, hcn⟩
  have HX := Lib.hid hrx
  clear hrx
  refine ⟨_, rfl, HS.out.then_ hcn, ?_⟩
  replace HS : Hid (Ch No w6 wn) := HS.out.then_ hcn
  clear hcn
  generalize wn = wb at *
  simp only [Act.put, List.setIfInBounds_toArray, List.set_cons_zero, List.set_cons_succ]
  have HSW : Hid (Calls Tryd.prog 14 #[.slice (some ⟨gm, 0, none⟩) (xs.length + 64) c2, .slice (some ⟨gx, 0, none⟩) (xs.length + 64) cx] wb fun e w'' => e = .returned (.bool true) ∧ Ch No wb w'') := same_words _ _ _ _ (xs ++ mw 64) _ _ (by simp [mw]) (by simp [mw]) wb (by simp [mw]; omega) (by
    have h := HGM6.out.keepNo HS.out
    rw [← List.append_assoc, ← ints_append] at h
    exact row_cl h) (row_cl HX.out)
  refine wpAnyH_one (i := 18) (o := ⟨some 48, _, _, _, _, _⟩) (by kernel_rfl) rfl (by rfl) (wp_call 14 #[.slice (some ⟨gm, 0, none⟩) (xs.length + 64) c2, .slice (some ⟨gx, 0, none⟩) (xs.length + 64) cx] (by kernel_rfl) ((HSW.out).mono ?_))
  rintro e wn ⟨rfl, hcn⟩
  refine ⟨_, rfl, HS.out.then_ hcn, ?_⟩
  replace HS : Hid (Ch No w6 wn) := HS.out.then_ hcn
  clear hcn
  generalize wn = wc at *
  simp only [Act.put, List.setIfInBounds_toArray, List.set_cons_zero, List.set_cons_succ]
  refine wpAnyH_take (i := 19) (oi := ⟨some 49, _, _, _, _, _⟩) (v := .bool false) rfl (by kernel_rfl) (by kernel_rfl) (by kernel_rfl) (fun _ _ _ h => h) (Or.inl ⟨by rfl, fun _ _ => by kernel_rfl⟩) HS.out ?_
  simp only [Act.put, List.setIfInBounds_toArray, List.set_cons_zero, List.set_cons_succ]
  refine wpAnyH_take (i := 20) (oi := ⟨some 50, _, _, _, _, _⟩) (v := .bool false) rfl (by kernel_rfl) (by kernel_rfl) (by kernel_rfl) (fun _ _ _ h => h) (Or.inl ⟨by rfl, fun _ _ => by kernel_rfl⟩) HS.out ?_
  simp only [Act.put, List.setIfInBounds_toArray, List.set_cons_zero, List.set_cons_succ]
  refine wpAnyH_take (i := 21) (oi := ⟨some 51, _, _, _, _, _⟩) (v := .bool false) rfl (by kernel_rfl) (by kernel_rfl) (by kernel_rfl) (fun _ _ _ h => h) (Or.inl ⟨by rfl, fun _ _ => rfl⟩) HS.out ?_
  simp only [Act.put, List.setIfInBounds_toArray, List.set_cons_zero, List.set_cons_succ]
  refine wpAnyH_take (i := 22) (oi := ⟨some 52, _, _, _, _, _⟩) (v := .slice (some ⟨gc, 0, none⟩) (cs.length + 64) c1) rfl (by kernel_rfl) (by kernel_rfl) (by kernel_rfl) (fun _ _ _ h => h) (Or.inl ⟨by rfl, fun _ _ => rfl⟩) HS.out ?_
  simp only [Act.put, List.setIfInBounds_toArray, List.set_cons_zero, List.set_cons_succ]
  refine wpAnyH_take (i := 23) (oi := ⟨some 53, _, _, _, _, _⟩) (v := .pointer (some ⟨w.heap.size, 0, none⟩)) rfl (by kernel_rfl) (by kernel_rfl) (by kernel_rfl) (fun _ _ _ h => h) (Or.inl ⟨by rfl, fun _ _ => by kernel_rfl⟩) HS.out ?_
  simp only [Act.put, List.setIfInBounds_toArray, List.set_cons_zero, List.set_cons_succ]
  refine wpAnyH_take (i := 24) (oi := ⟨some 54, _, _, _, _, _⟩) (v := .slice A cs.length cap) rfl (by kernel_rfl) (by kernel_rfl) (by kernel_rfl) (fun _ _ _ h => h) (Or.inl ⟨by rfl, fun w' hw' => exec_load_cell 22 (.tmp 53) rfl ⟨w.heap.size, 0, none⟩ rfl _ Tryd.underlying22 rfl _ ((HRM6.out.keepNo hw').cell 0)⟩) HS.out ?_
  simp only [Act.put, List.setIfInBounds_toArray, List.set_cons_zero, List.set_cons_succ]
  refine wpAnyH_one (i := 25) (o := ⟨some 55, _, _, _, _, _⟩) (by kernel_rfl) rfl (by rfl) (wp_call 10 #[.slice A cs.length cap] (by kernel_rfl) ((instrs_10 A cap cs _ hl (HCODE.out.keepNo (HC6.out.then_ HS.out)) HA.out).mono ?_))
  rintro e wn ⟨gy, cy, RY, rfl, hry, hcy, _, _, hcn⟩
  have HY := Lib.hid hry
  clear hry
  refine ⟨_, rfl, HS.out.then_ hcn, ?_⟩
  replace HS : Hid (Ch No w6 wn) := HS.out.then_ hcn
  clear hcn
  generalize wn = we at *
  simp only [Act.put, List.setIfInBounds_toArray, List.set_cons_zero, List.set_cons_succ]
  have HSC : Hid (Calls Tryd.prog 15 #[.slice (some ⟨gc, 0, none⟩) (cs.length + 64) c1, .slice (some ⟨gy, 0, none⟩) (cs.length + 64) cy] we fun e w'' => e = .returned (.bool true) ∧ Ch No we w'') := same_code _ _ _ _ (cs ++ mi 64) _ _ (by simp [mi]) (by simp [mi]) we (by simp [mi]; omega) (by
    have h := HGC6.out.keepNo HS.out
    rw [← List.append_assoc, ← codeCells_append] at h
    exact row_cl h) (row_cl HY.out)
  refine wpAnyH_one (i := 26) (o := ⟨some 56, _, _, _, _, _⟩) (by kernel_rfl) rfl (by rfl) (wp_call 15 #[.slice (some ⟨gc, 0, none⟩) (cs.length + 64) c1, .slice (some ⟨gy, 0, none⟩) (cs.length + 64) cy] (by kernel_rfl) ((HSC.out).mono ?_))
  rintro e wn ⟨rfl, hcn⟩
  refine ⟨_, rfl, HS.out.then_ hcn, ?_⟩
  replace HS : Hid (Ch No w6 wn) := HS.out.then_ hcn
  clear hcn
  generalize wn = wf at *
  simp only [Act.put, List.setIfInBounds_toArray, List.set_cons_zero, List.set_cons_succ]
  refine wpAnyH_take (i := 27) (oi := ⟨some 57, _, _, _, _, _⟩) (v := .bool false) rfl (by kernel_rfl) (by kernel_rfl) (by kernel_rfl) (fun _ _ _ h => h) (Or.inl ⟨by rfl, fun _ _ => by kernel_rfl⟩) HS.out ?_
  simp only [Act.put, List.setIfInBounds_toArray, List.set_cons_zero, List.set_cons_succ]
  refine wpAnyH_take (i := 28) (oi := ⟨some 58, _, _, _, _, _⟩) (v := .bool false) rfl (by kernel_rfl) (by kernel_rfl) (by kernel_rfl) (fun _ _ _ h => h) (Or.inl ⟨by rfl, fun _ _ => by kernel_rfl⟩) HS.out ?_
  simp only [Act.put, List.setIfInBounds_toArray, List.set_cons_zero, List.set_cons_succ]
  refine wpAnyH_done (by kernel_rfl) ?_ _
  have HRM7 := Lib.hid (HRM6.out.keepNo HS.out)
  have HGC7 := Lib.hid (HGC6.out.keepNo HS.out)
  have HGM7 := Lib.hid (HGM6.out.keepNo HS.out)
  have HC7 : Hid (Ch No w wf) := HC6.out.then_ HS.out
  clear HS HRM6 HGC6 HGM6 HC6 HE6 HSC HSW HX HY HRST
  generalize wf = w7 at *
  go_upto_region 6 with (fail)
  refine wp_region_quiet_tail 10 (by kernel_rfl) (by kernel_rfl) (fun w' => Ch No w7 w') ((Ch.refl _ _).drew) ?_
  simp only [List.take_succ_cons, List.take_zero, List.drop_succ_cons, List.drop_zero]
  refine wpQuiet_value (by rfl) (.slice (some ⟨gc, 0, none⟩) (cs.length + 64) c1) (fun _ => rfl) ?_
  simp only [Act.put, List.setIfInBounds_toArray, List.set_cons_zero, List.set_cons_succ]
  refine wpQuiet_value (by rfl) (.pointer (some ⟨w.heap.size, 0, none⟩)) (fun _ => by kernel_rfl) ?_
  simp only [Act.put, List.setIfInBounds_toArray, List.set_cons_zero, List.set_cons_succ]
  refine wpQuiet_read (by rfl) (.slice A cs.length cap) (fun w' hw' => exec_load_cell 22 (.tmp 60) rfl ⟨w.heap.size, 0, none⟩ rfl _ Tryd.underlying22 rfl _ ((HRM7.out.keepNo hw').cell 0)) ?_
  simp only [Act.put, List.setIfInBounds_toArray, List.set_cons_zero, List.set_cons_succ]
  refine wpQuiet_value (by rfl) (.int .i64 (cs.length : Int)) (fun _ => by kernel_rfl) ?_
  simp only [Act.put, List.setIfInBounds_toArray, List.set_cons_zero, List.set_cons_succ]
  refine wpQuiet_value (by rfl) (.slice (some ⟨gc, 0, none⟩) cs.length c1) (fun w' => exec_cut 22 45 (.tmp 59) (.tmp 62) rfl Tryd.underlying22 5 (fun _ => by kernel_rfl) gc _ c1 cs.length rfl rfl HLE.out.1 HLE.out.2.1) ?_
  simp only [Act.put, List.setIfInBounds_toArray, List.set_cons_zero, List.set_cons_succ]
  refine wpQuiet_value (by rfl) (.slice (some ⟨gm, 0, none⟩) (xs.length + 64) c2) (fun _ => rfl) ?_
  simp only [Act.put, List.setIfInBounds_toArray, List.set_cons_zero, List.set_cons_succ]
  refine wpQuiet_value (by rfl) (.pointer (some ⟨w.heap.size, 1, none⟩)) (fun _ => by kernel_rfl) ?_
  simp only [Act.put, List.setIfInBounds_toArray, List.set_cons_zero, List.set_cons_succ]
  refine wpQuiet_read (by rfl) (.slice M xs.length mcap) (fun w' hw' => exec_load_cell 23 (.tmp 65) rfl ⟨w.heap.size, 1, none⟩ rfl _ Tryd.underlying23 rfl _ ((HRM7.out.keepNo hw').cell 1)) ?_
  simp only [Act.put, List.setIfInBounds_toArray, List.set_cons_zero, List.set_cons_succ]
  refine wpQuiet_value (by rfl) (.int .i64 (xs.length : Int)) (fun _ => by kernel_rfl) ?_
  simp only [Act.put, List.setIfInBounds_toArray, List.set_cons_zero, List.set_cons_succ]
  refine wpQuiet_value (by rfl) (.slice (some ⟨gm, 0, none⟩) xs.length c2) (fun w' => exec_cut 23 2 (.tmp 64) (.tmp 67) rfl Tryd.underlying23 1 (fun _ => by kernel_rfl) gm _ c2 xs.length rfl rfl HLE.out.2.2.1 HLE.out.2.2.2) ?_
  simp only [Act.put, List.setIfInBounds_toArray, List.set_cons_zero, List.set_cons_succ]
  refine wpQuiet_nil ?_
  try simp only [Act.put, List.setIfInBounds_toArray, List.set_cons_zero, List.set_cons_succ]
  intro wg hwg
  have HWG := Lib.hid hwg
  clear hwg
  have HTURN := Lib.hid (turned_16 gc c1 gm c2 cs xs (codeCells (mi 64) ++ R1) (ints (mw 64) ++ R2) wg hl hm HLE.out.1 HLE.out.2.2.1 HCS.out HXS.out (HGC7.out.keepNo HWG.out) (HGM7.out.keepNo HWG.out))
  go_upto_region 7 with (go_at_call 16; refine HTURN.out.mono ?_; rintro e w8 ⟨cs', xs', rfl, hcl, hco, hxl, hxi, hgc8, hgm8, hc8⟩; have HCL := Lib.hid hcl; have HCO := Lib.hid hco; have HXL := Lib.hid hxl; have HXI := Lib.hid hxi; have HGC8 := Lib.hid hgc8; have HGM8 := Lib.hid hgm8; have HCH8 := Lib.hid hc8; clear hcl hco hxl hxi hgc8 hgm8 hc8)
  have HRM8 : Hid (Row w8 w.heap.size 26 (machCells (.slice A cs.length cap) (.slice M xs.length mcap) fixed r pc)) := (HRM7.out.keepNo HWG.out).keep HCH8.out (fun h => by have a := HGCW.out; have b := HGMW.out; rcases h with h | h <;> omega)
  have HC8 : Hid (Ch No w w8) := (HC7.out.then_ HWG.out).trans HCH8.out (fun i hi h => by have a := HGCW.out; have b := HGMW.out; rcases h with h | h <;> (exfalso; omega))
  clear HTURN HWG HCH8 HRM7 HGC7 HGM7 HC7
  have HRS2 : Hid (∀ W, Ch No w8 W → Calls Tryd.prog 13 #[.slice (some ⟨gc, 0, none⟩) cs.length c1, .slice (some ⟨gm, 0, none⟩) xs.length c2, .int .i64 fixed, .agg (regCells r).toArray, .int .i64 pc] W fun e w' => e = .returned (.agg (effCells (stepF cs' xs' fixed r pc)).toArray) ∧ Ch No W w') := by
    show ∀ W, _
    intro W hW
    have h := rstep_calls (some ⟨gc, 0, none⟩) cs' c1 (by have := HCL.out; omega) HCO.out (some ⟨gm, 0, none⟩) xs' c2 (by have := HXL.out; omega) fixed r HIN.out pc W ((row_cl HGC8.out).keepNo hW) ((row_cl HGM8.out).keepNo hW)
    rw [HCL.out, HXL.out] at h
    exact h
  have HST2 : Hid (∀ W, Ch No w8 W → Calls Tryd.prog 12 #[.slice (some ⟨gc, 0, none⟩) cs.length c1, .slice (some ⟨gm, 0, none⟩) xs.length c2, .int .i64 fixed, .agg (regCells r).toArray, .int .i64 pc] W fun e w' => e = .returned (.agg (effCells (stepF cs' xs' fixed r pc)).toArray) ∧ Ch No W w') := by
    show ∀ W, _
    intro W hW
    have h := step_calls (some ⟨gc, 0, none⟩) cs' c1 (by have := HCL.out; omega) HCO.out (some ⟨gm, 0, none⟩) xs' c2 (by have := HXL.out; omega) (by have := HXL.out; have := HLE.out; omega) fixed r HIN.out pc W ((row_cl HGC8.out).keepNo hW) ((row_cl HGM8.out).keepNo hW) (HG.out.keep (HC8.out.then_ hW) (not_no _))
    rw [HCL.out, HXL.out] at h
    exact h
  generalize stepF cs' xs' fixed r pc = E2 at *
  go_upto_region 7 with (fail)
  go_cut [6] from 70 to 86 (fun v5 wx => ∃ b6 : Nat, v5 = .pointer (some ⟨b6, 0, none⟩) ∧ Hid (Row wx b6 30 (effCells (E2))) ∧ Hid (w8.heap.size ≤ b6) ∧ Hid (Ch No w8 wx))
  case first =>
    refine wp_region_held (S := fun w' => Ch No w8 w') (by kernel_rfl) ?_
    have HS : Hid (Ch No w8 w8.drew) := (Ch.refl No w8).drew
    refine wpAnyH_take (i := 0) (oi := ⟨some 70, _, _, _, _, _⟩) (v := .slice (some ⟨gc, 0, none⟩) (cs.length + 64) c1) rfl (by kernel_rfl) (by kernel_rfl) (by kernel_rfl) (fun _ _ _ h => h) (Or.inl ⟨by rfl, fun _ _ => rfl⟩) HS.out ?_
    simp only [Act.put, List.setIfInBounds_toArray, List.set_cons_zero, List.set_cons_succ]
    refine wpAnyH_take (i := 1) (oi := ⟨some 71, _, _, _, _, _⟩) (v := .pointer (some ⟨w.heap.size, 0, none⟩)) rfl (by kernel_rfl) (by kernel_rfl) (by kernel_rfl) (fun _ _ _ h => h) (Or.inl ⟨by rfl, fun _ _ => by kernel_rfl⟩) HS.out ?_
    simp only [Act.put, List.setIfInBounds_toArray, List.set_cons_zero, List.set_cons_succ]
    refine wpAnyH_take (i := 2) (oi := ⟨some 72, _, _, _, _, _⟩) (v := .slice A cs.length cap) rfl (by kernel_rfl) (by kernel_rfl) (by kernel_rfl) (fun _ _ _ h => h) (Or.inl ⟨by rfl, fun w' hw' => exec_load_cell 22 (.tmp 71) rfl ⟨w.heap.size, 0, none⟩ rfl _ Tryd.underlying22 rfl _ ((HRM8.out.keepNo hw').cell 0)⟩) HS.out ?_
    simp only [Act.put, List.setIfInBounds_toArray, List.set_cons_zero, List.set_cons_succ]
    refine wpAnyH_take (i := 3) (oi := ⟨some 73, _, _, _, _, _⟩) (v := .int .i64 (cs.length : Int)) rfl (by kernel_rfl) (by kernel_rfl) (by kernel_rfl) (fun _ _ _ h => h) (Or.inl ⟨by rfl, fun _ _ => by kernel_rfl⟩) HS.out ?_
    simp only [Act.put, List.setIfInBounds_toArray, List.set_cons_zero, List.set_cons_succ]
    refine wpAnyH_take (i := 4) (oi := ⟨some 74, _, _, _, _, _⟩) (v := .slice (some ⟨gc, 0, none⟩) cs.length c1) rfl (by kernel_rfl) (by kernel_rfl) (by kernel_rfl) (fun _ _ _ h => h) (Or.inl ⟨by rfl, fun w' _ => exec_cut 22 45 (.tmp 70) (.tmp 73) rfl Tryd.underlying22 5 (fun _ => by kernel_rfl) gc _ c1 cs.length rfl rfl HLE.out.1 HLE.out.2.1⟩) HS.out ?_
    simp only [Act.put, List.setIfInBounds_toArray, List.set_cons_zero, List.set_cons_succ]
    refine wpAnyH_take (i := 5) (oi := ⟨some 75, _, _, _, _, _⟩) (v := .slice (some ⟨gm, 0, none⟩) (xs.length + 64) c2) rfl (by kernel_rfl) (by kernel_rfl) (by kernel_rfl) (fun _ _ _ h => h) (Or.inl ⟨by rfl, fun _ _ => rfl⟩) HS.out ?_
    simp only [Act.put, List.setIfInBounds_toArray, List.set_cons_zero, List.set_cons_succ]
    refine wpAnyH_take (i := 6) (oi := ⟨some 76, _, _, _, _, _⟩) (v := .pointer (some ⟨w.heap.size, 1, none⟩)) rfl (by kernel_rfl) (by kernel_rfl) (by kernel_rfl) (fun _ _ _ h => h) (Or.inl ⟨by rfl, fun _ _ => by kernel_rfl⟩) HS.out ?_
    simp only [Act.put, List.setIfInBounds_toArray, List.set_cons_zero, List.set_cons_succ]
    refine wpAnyH_take (i := 7) (oi := ⟨some 77, _, _, _, _, _⟩) (v := .slice M xs.length mcap) rfl (by kernel_rfl) (by kernel_rfl) (by kernel_rfl) (fun _ _ _ h => h) (Or.inl ⟨by rfl, fun w' hw' => exec_load_cell 23 (.tmp 76) rfl ⟨w.heap.size, 1, none⟩ rfl _ Tryd.underlying23 rfl _ ((HRM8.out.keepNo hw').cell 1)⟩) HS.out ?_
    simp only [Act.put, List.setIfInBounds_toArray, List.set_cons_zero, List.set_cons_succ]
    refine wpAnyH_take (i := 8) (oi := ⟨some 78, _, _, _, _, _⟩) (v := .int .i64 (xs.length : Int)) rfl (by kernel_rfl) (by kernel_rfl) (by kernel_rfl) (fun _ _ _ h => h) (Or.inl ⟨by rfl, fun _ _ => by kernel_rfl⟩) HS.out ?_
    simp only [Act.put, List.setIfInBounds_toArray, List.set_cons_zero, List.set_cons_succ]
    refine wpAnyH_take (i := 9) (oi := ⟨some 79, _, _, _, _, _⟩) (v := .slice (some ⟨gm, 0, none⟩) xs.length c2) rfl (by kernel_rfl) (by kernel_rfl) (by kernel_rfl) (fun _ _ _ h => h) (Or.inl ⟨by rfl, fun w' _ => exec_cut 23 2 (.tmp 75) (.tmp 78) rfl Tryd.underlying23 1 (fun _ => by kernel_rfl) gm _ c2 xs.length rfl rfl HLE.out.2.2.1 HLE.out.2.2.2⟩) HS.out ?_
    simp only [Act.put, List.setIfInBounds_toArray, List.set_cons_zero, List.set_cons_succ]
    refine wpAnyH_take (i := 10) (oi := ⟨some 80, _, _, _, _, _⟩) (v := .pointer (some ⟨w.heap.size, 2, none⟩)) rfl (by kernel_rfl) (by kernel_rfl) (by kernel_rfl) (fun _ _ _ h => h) (Or.inl ⟨by rfl, fun _ _ => by kernel_rfl⟩) HS.out ?_
    simp only [Act.put, List.setIfInBounds_toArray, List.set_cons_zero, List.set_cons_succ]
    refine wpAnyH_take (i := 11) (oi := ⟨some 81, _, _, _, _, _⟩) (v := .int .i64 fixed) rfl (by kernel_rfl) (by kernel_rfl) (by kernel_rfl) (fun _ _ _ h => h) (Or.inl ⟨by rfl, fun w' hw' => exec_load_cell 3 (.tmp 80) rfl ⟨w.heap.size, 2, none⟩ rfl _ Tryd.underlying3 rfl _ ((HRM8.out.keepNo hw').cell 2)⟩) HS.out ?_
    simp only [Act.put, List.setIfInBounds_toArray, List.set_cons_zero, List.set_cons_succ]
    refine wpAnyH_take (i := 12) (oi := ⟨some 82, _, _, _, _, _⟩) (v := .pointer (some ⟨w.heap.size, 3, none⟩)) rfl (by kernel_rfl) (by kernel_rfl) (by kernel_rfl) (fun _ _ _ h => h) (Or.inl ⟨by rfl, fun _ _ => by kernel_rfl⟩) HS.out ?_
    simp only [Act.put, List.setIfInBounds_toArray, List.set_cons_zero, List.set_cons_succ]
    refine wpAnyH_take (i := 13) (oi := ⟨some 83, _, _, _, _, _⟩) (v := .agg (regCells r).toArray) rfl (by kernel_rfl) (by kernel_rfl) (by kernel_rfl) (fun _ _ _ h => h) (Or.inl ⟨by rfl, fun w' hw' => exec_load_mid 24 (.tmp 82) rfl w.heap.size 3 rfl (regCells r) _ (mach_range (HRM8.out.keepNo hw')) Tryd.underlying24 rfl (sizeR _)⟩) HS.out ?_
    simp only [Act.put, List.setIfInBounds_toArray, List.set_cons_zero, List.set_cons_succ]
    refine wpAnyH_take (i := 14) (oi := ⟨some 84, _, _, _, _, _⟩) (v := .pointer (some ⟨w.heap.size, 19, none⟩)) rfl (by kernel_rfl) (by kernel_rfl) (by kernel_rfl) (fun _ _ _ h => h) (Or.inl ⟨by rfl, fun _ _ => by kernel_rfl⟩) HS.out ?_
    simp only [Act.put, List.setIfInBounds_toArray, List.set_cons_zero, List.set_cons_succ]
    refine wpAnyH_take (i := 15) (oi := ⟨some 85, _, _, _, _, _⟩) (v := .int .i64 pc) rfl (by kernel_rfl) (by kernel_rfl) (by kernel_rfl) (fun _ _ _ h => h) (Or.inl ⟨by rfl, fun w' hw' => exec_load_cell 3 (.tmp 84) rfl ⟨w.heap.size, 19, none⟩ rfl _ Tryd.underlying3 rfl _ (((HRM8.out.keepNo hw').cell 19).trans (mach_pc _ _ _ _ _))⟩) HS.out ?_
    simp only [Act.put, List.setIfInBounds_toArray, List.set_cons_zero, List.set_cons_succ]
    refine wpAnyH_two (i := 16) (j := 17) (oi := ⟨some 86, _, _, _, _, _⟩) (oj := ⟨some 6, _, _, _, _, _⟩) (by kernel_rfl) rfl rfl (by rfl) (by rfl) (wp_call 13 #[.slice (some ⟨gc, 0, none⟩) cs.length c1, .slice (some ⟨gm, 0, none⟩) xs.length c2, .int .i64 fixed, .agg (regCells r).toArray, .int .i64 pc] (by kernel_rfl) ((HRS2.out _ (HS.out)).mono ?_)) (wp_alloc30 rfl ?_)
    · rintro e wn ⟨rfl, hcn⟩
      refine ⟨_, rfl, HS.out.then_ hcn, ?_⟩
      have HSn : Hid (Ch No w8 wn) := HS.out.then_ hcn
      clear hcn
      simp only [Act.put, List.setIfInBounds_toArray, List.set_cons_zero, List.set_cons_succ]
      refine wpAnyH_one (i := 17) (o := ⟨some 6, _, _, _, _, _⟩) (by kernel_rfl) rfl (by rfl) (wp_alloc30 rfl ?_)
      refine ⟨HSn.out.alloc _, ?_⟩
      simp only [Act.put, List.setIfInBounds_toArray, List.set_cons_zero, List.set_cons_succ]
      refine wpAnyH_one (i := 18) (o := ⟨none, _, _, _, _, _⟩) (by kernel_rfl) rfl (by rfl) (wp_store30 (.tmp 6) (.tmp 86) rfl wn.heap.size (E2) rfl rfl zeroEff (Row.new wn 30 (effCells zeroEff)) ?_)
      intro w6 hr6 hc6
      have HR6 := Lib.hid hr6
      have HW6 : Hid (Ch No w8 w6) := ch_newg (HSn.out.alloc _) hc6 HSn.out.size
      clear hr6 hc6
      refine ⟨HW6.out, ?_⟩
      simp only [Act.put, List.setIfInBounds_toArray, List.set_cons_zero, List.set_cons_succ]
      refine wpAnyH_done (by kernel_rfl) ?_ _
      go_wp2_with (fail)
      go_meet
      case rel => exact ⟨wn.heap.size, rfl, HR6, HSn.out.size, HW6⟩
    · refine ⟨HS.out.alloc _, ?_⟩
      have HSa : Hid (Ch No w8 (World.alloc w8.drew (.cells (effCells zeroEff).toArray 30))) := HS.out.alloc _
      simp only [Act.put, List.setIfInBounds_toArray, List.set_cons_zero, List.set_cons_succ]
      refine wpAnyH_one (i := 16) (o := ⟨some 86, _, _, _, _, _⟩) (by kernel_rfl) rfl (by rfl) (wp_call 13 #[.slice (some ⟨gc, 0, none⟩) cs.length c1, .slice (some ⟨gm, 0, none⟩) xs.length c2, .int .i64 fixed, .agg (regCells r).toArray, .int .i64 pc] (by kernel_rfl) ((HRS2.out _ (HSa.out)).mono ?_))
      rintro e wn ⟨rfl, hcn⟩
      refine ⟨_, rfl, HSa.out.then_ hcn, ?_⟩
      have HSn : Hid (Ch No w8 wn) := HSa.out.then_ hcn
      have HZn : Hid (Row wn w8.heap.size 30 (effCells zeroEff)) := (Row.new w8.drew 30 (effCells zeroEff)).keepNo hcn
      clear hcn
      simp only [Act.put, List.setIfInBounds_toArray, List.set_cons_zero, List.set_cons_succ]
      refine wpAnyH_one (i := 18) (o := ⟨none, _, _, _, _, _⟩) (by kernel_rfl) rfl (by rfl) (wp_store30 (.tmp 6) (.tmp 86) rfl w8.heap.size (E2) rfl rfl zeroEff HZn.out ?_)
      intro w6 hr6 hc6
      have HR6 := Lib.hid hr6
      have HW6 : Hid (Ch No w8 w6) := ch_newg HSn.out hc6 (Nat.le_refl _)
      clear hr6 hc6
      refine ⟨HW6.out, ?_⟩
      simp only [Act.put, List.setIfInBounds_toArray, List.set_cons_zero, List.set_cons_succ]
      refine wpAnyH_done (by kernel_rfl) ?_ _
      go_wp2_with (fail)
      go_meet
      case rel => exact ⟨w8.heap.size, rfl, HR6, Nat.le_refl _, HW6⟩
  case rest =>
  obtain ⟨b6, hv6, HF9, HB6, HW9⟩ := hcut
  subst hv6
  generalize wc = w9 at *
  have HRM9 := Lib.hid (HRM8.out.keepNo HW9.out)
  have HC9 : Hid (Ch No w w9) := HC8.out.then_ HW9.out
  have HST3 : Hid (∀ W, Ch No w9 W → Calls Tryd.prog 12 #[.slice (some ⟨gc, 0, none⟩) cs.length c1, .slice (some ⟨gm, 0, none⟩) xs.length c2, .int .i64 fixed, .agg (regCells r).toArray, .int .i64 pc] W fun e w' => e = .returned (.agg (effCells E2).toArray) ∧ Ch No w9 w') := fun W hW => (HST2.out W (HW9.out.then_ hW)).mono fun _ _ h => ⟨h.1, hW.then_ h.2⟩
  go_upto_region 8 with (fail)
  refine wp_region_quiet_tail 19 (by kernel_rfl) (by kernel_rfl) (fun w' => Ch No w9 w') ((Ch.refl _ _).drew) ?_
  simp only [List.take_succ_cons, List.take_zero, List.drop_succ_cons, List.drop_zero]
  refine wpQuiet_value (by rfl) (.slice (some ⟨gc, 0, none⟩) (cs.length + 64) c1) (fun _ => rfl) ?_
  simp only [Act.put, List.setIfInBounds_toArray, List.set_cons_zero, List.set_cons_succ]
  refine wpQuiet_value (by rfl) (.pointer (some ⟨w.heap.size, 0, none⟩)) (fun _ => by kernel_rfl) ?_
  simp only [Act.put, List.setIfInBounds_toArray, List.set_cons_zero, List.set_cons_succ]
  refine wpQuiet_read (by rfl) (.slice A cs.length cap) (fun w' hw' => exec_load_cell 22 (.tmp 88) rfl ⟨w.heap.size, 0, none⟩ rfl _ Tryd.underlying22 rfl _ ((HRM9.out.keepNo hw').cell 0)) ?_
  simp only [Act.put, List.setIfInBounds_toArray, List.set_cons_zero, List.set_cons_succ]
  refine wpQuiet_value (by rfl) (.int .i64 (cs.length : Int)) (fun _ => by kernel_rfl) ?_
  simp only [Act.put, List.setIfInBounds_toArray, List.set_cons_zero, List.set_cons_succ]
  refine wpQuiet_value (by rfl) (.slice (some ⟨gc, 0, none⟩) cs.length c1) (fun w' => exec_cut 22 45 (.tmp 87) (.tmp 90) rfl Tryd.underlying22 5 (fun _ => by kernel_rfl) gc _ c1 cs.length rfl rfl HLE.out.1 HLE.out.2.1) ?_
  simp only [Act.put, List.setIfInBounds_toArray, List.set_cons_zero, List.set_cons_succ]
  refine wpQuiet_value (by rfl) (.slice (some ⟨gm, 0, none⟩) (xs.length + 64) c2) (fun _ => rfl) ?_
  simp only [Act.put, List.setIfInBounds_toArray, List.set_cons_zero, List.set_cons_succ]
  refine wpQuiet_value (by rfl) (.pointer (some ⟨w.heap.size, 1, none⟩)) (fun _ => by kernel_rfl) ?_
  simp only [Act.put, List.setIfInBounds_toArray, List.set_cons_zero, List.set_cons_succ]
  refine wpQuiet_read (by rfl) (.slice M xs.length mcap) (fun w' hw' => exec_load_cell 23 (.tmp 93) rfl ⟨w.heap.size, 1, none⟩ rfl _ Tryd.underlying23 rfl _ ((HRM9.out.keepNo hw').cell 1)) ?_
  simp only [Act.put, List.setIfInBounds_toArray, List.set_cons_zero, List.set_cons_succ]
  refine wpQuiet_value (by rfl) (.int .i64 (xs.length : Int)) (fun _ => by kernel_rfl) ?_
  simp only [Act.put, List.setIfInBounds_toArray, List.set_cons_zero, List.set_cons_succ]
  refine wpQuiet_value (by rfl) (.slice (some ⟨gm, 0, none⟩) xs.length c2) (fun w' => exec_cut 23 2 (.tmp 92) (.tmp 95) rfl Tryd.underlying23 1 (fun _ => by kernel_rfl) gm _ c2 xs.length rfl rfl HLE.out.2.2.1 HLE.out.2.2.2) ?_
  simp only [Act.put, List.setIfInBounds_toArray, List.set_cons_zero, List.set_cons_succ]
  refine wpQuiet_value (by rfl) (.pointer (some ⟨w.heap.size, 2, none⟩)) (fun _ => by kernel_rfl) ?_
  simp only [Act.put, List.setIfInBounds_toArray, List.set_cons_zero, List.set_cons_succ]
  refine wpQuiet_read (by rfl) (.int .i64 fixed) (fun w' hw' => exec_load_cell 3 (.tmp 97) rfl ⟨w.heap.size, 2, none⟩ rfl _ Tryd.underlying3 rfl _ ((HRM9.out.keepNo hw').cell 2)) ?_
  simp only [Act.put, List.setIfInBounds_toArray, List.set_cons_zero, List.set_cons_succ]
  refine wpQuiet_value (by rfl) (.pointer (some ⟨w.heap.size, 3, none⟩)) (fun _ => by kernel_rfl) ?_
  simp only [Act.put, List.setIfInBounds_toArray, List.set_cons_zero, List.set_cons_succ]
  refine wpQuiet_read (by rfl) (.agg (regCells r).toArray) (fun w' hw' => exec_load_mid 24 (.tmp 99) rfl w.heap.size 3 rfl (regCells r) _ (mach_range (HRM9.out.keepNo hw')) Tryd.underlying24 rfl (sizeR _)) ?_
  simp only [Act.put, List.setIfInBounds_toArray, List.set_cons_zero, List.set_cons_succ]
  refine wpQuiet_value (by rfl) (.pointer (some ⟨w.heap.size, 19, none⟩)) (fun _ => by kernel_rfl) ?_
  simp only [Act.put, List.setIfInBounds_toArray, List.set_cons_zero, List.set_cons_succ]
  refine wpQuiet_read (by rfl) (.int .i64 pc) (fun w' hw' => exec_load_cell 3 (.tmp 101) rfl ⟨w.heap.size, 19, none⟩ rfl _ Tryd.underlying3 rfl _ (((HRM9.out.keepNo hw').cell 19).trans (mach_pc _ _ _ _ _))) ?_
  simp only [Act.put, List.setIfInBounds_toArray, List.set_cons_zero, List.set_cons_succ]
  refine wpQuiet_call (by rfl) (.agg (effCells E2).toArray) 12 #[.slice (some ⟨gc, 0, none⟩) cs.length c1, .slice (some ⟨gm, 0, none⟩) xs.length c2, .int .i64 fixed, .agg (regCells r).toArray, .int .i64 pc] (fun _ => by kernel_rfl) HST3.out ?_
  simp only [Act.put, List.setIfInBounds_toArray, List.set_cons_zero, List.set_cons_succ]
  refine wpQuiet_read (by rfl) (.agg (effCells E2).toArray) (fun w' hw' => exec_load_agg 30 (.tmp 6) rfl b6 rfl 30 _ (HF9.out.keepNo hw') _ Tryd.underlying30 rfl (sizeE _)) ?_
  simp only [Act.put, List.setIfInBounds_toArray, List.set_cons_zero, List.set_cons_succ]
  refine wpQuiet_value (by rfl) (.bool true) (fun w' => exec_eq_eff w' (.tmp 103) (.tmp 104) rfl E2 rfl rfl) ?_
  simp only [Act.put, List.setIfInBounds_toArray, List.set_cons_zero, List.set_cons_succ]
  refine wpQuiet_nil ?_
  try simp only [Act.put, List.setIfInBounds_toArray, List.set_cons_zero, List.set_cons_succ]
  intro wz hwz
  have HWZ := Lib.hid hwz
  clear hwz
  go_wp2
  go_ret
  exact ⟨rfl, HC9.out.then_ HWZ.out⟩
end Go.Proofs.YtellmlffkgfeiaaDoor
