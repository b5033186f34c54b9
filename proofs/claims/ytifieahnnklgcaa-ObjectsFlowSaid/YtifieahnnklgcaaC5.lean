/- objects.New of one semaphore and one buffer. -/
import Derived.Test.YtifieahnnklgcaaC4
set_option linter.unusedVariables false
set_option linter.unusedSimpArgs false
namespace Go.Proofs.Ytifieahnnklgcaa
open Go.RowKit
theorem info84 : (Try.prog.info? 84).map (fun i => (i.zero, i.size, i.bytes)) = some (some (.agg #[.int .i64 0, .int .i64 0]), 2, 16) := by kernel_rfl
theorem info90 : (Try.prog.info? 90).map (fun i => (i.zero, i.size, i.bytes)) = some (some (.agg #[.slice none 0 0, .int .i64 0, .int .i64 0]), 3, 40) := by kernel_rfl
theorem size55 : (Try.prog.info? 55).map (·.size) = some 2 := by kernel_rfl
theorem size57 : (Try.prog.info? 57).map (·.size) = some 2 := by kernel_rfl
theorem size79 : (Try.prog.info? 79).map (·.size) = some 1 := by kernel_rfl
theorem size80 : (Try.prog.info? 80).map (·.size) = some 1 := by kernel_rfl
theorem wp_value_to {o : Oper} {a : Act} {w w' : World} {K : Act → World → Prop} {Q : Exit → Act → World → Prop} (v : Value) (hv : (execOp a.eval o).run Try.prog w = .ok (.value v) w') (h : K (a.put o.dst v) w') : o.wp Try.prog a w K Q := by
  unfold Oper.wp
  rw [hv]
  exact h
theorem exec_append {a : Act} {o : Oper} {w w' : World} (d s : Operand) (t : TypeId) (ho : o.op = .call { callee := .builtin .append, args := #[d, s], argTypes := #[t, t] }) (v u v' : Value) (hd : a.eval d = v) (hs : a.eval s = u) (hr : ∀ ty, (Builtin.append_ #[t, t] ty #[v, u]).run Try.prog w = .ok v' w') :
    (execOp a.eval o).run Try.prog w = .ok (.value v') w' := by
  unfold execOp
  simp only [ho, resolve, invoke, builtin, Sem.run_bind, Sem.run_pure, Result.andThen_ok, List.map_toArray, List.map_cons, List.map_nil, hd, hs, hr]
/-- one element behind nil -/
theorem app_nil (w : World) (t e : TypeId) (z : Value) (size bytes : Nat) (ht : Try.prog.underlying t = some (.slice e)) (hinfo : (Try.prog.info? e).map (fun i => (i.zero, i.size, i.bytes)) = some (some z, size, bytes)) (hz : z.cells.size = size) (hsz : 0 < size) (hb : bytes ≤ 1000) (g c : Nat) (news : List Value) (hl : news.length = size) (hr : Row w g e news) (h1 : ∀ u ∈ news, u.oneCell' = true) :
    ∃ g' cap rest w', (∀ ty, (Builtin.append_ #[t, t] ty #[.slice none 0 0, .slice (some ⟨g, 0, none⟩) 1 c]).run Try.prog w = .ok (.slice (some ⟨g', 0, none⟩) 1 cap) w') ∧ Row w' g' e (news ++ rest) ∧ w.heap.size ≤ g' ∧ Ch No w w' := by
  obtain ⟨i0, hi, hzz⟩ := Option.map_eq_some_iff.1 hinfo
  simp only [Prod.mk.injEq] at hzz
  obtain ⟨hz0, hz1, hz2⟩ := hzz
  obtain ⟨v', w', hr', h2, h3, _, h5⟩ := run_append_own_at (P := Try.prog) w w.heap.size t t e i0 z size bytes ht hi hz0 hz1 hz2 hz hsz (.slice none 0 0) 0 [] (World.ownsRow_nil _ _ _ _) ⟨g, 0, none⟩ 1 c news (by omega) (fun j u hj => by
    rw [add_lit, Nat.zero_add, hr.cell]
    exact hj) h1 (by simp [maxLen]) (by omega) (Nat.le_refl _)
  rcases owns_open_sz h2 with ⟨rfl, h0⟩ | ⟨g', cap, rest, rfl, hbg, hr2, _⟩
  · omega
  · refine ⟨g', cap, rest, w', fun ty => ?_, hr2, hbg, (Ch.of_grownBy h3).no (fun k _ hk => by cases hk)⟩
    exact hr'

/-- what lasts in New -/
structure NB (w : World) (b ga gq : Nat) (pc : List Value) (start most size dep : Int) (w' : World) : Prop where
  hb : Row w' b 32 pc
  ha : Row w' ga 55 [.int .i64 start, .int .i64 most]
  hq : Row w' gq 57 [.int .i64 size, .int .i64 dep]
  ch : Ch No w w'
theorem NB.no {w w1 w2 : World} {b ga gq : Nat} {pc : List Value} {start most size dep : Int} (h : NB w b ga gq pc start most size dep w1) (hc : Ch No w1 w2) : NB w b ga gq pc start most size dep w2 :=
  ⟨h.hb.keepNo hc, h.ha.keepNo hc, h.hq.keepNo hc, h.ch.then_ hc⟩
theorem NB.is {w w1 w2 : World} {b ga gq P : Nat} {pc L : List Value} {start most size dep : Int} (h : NB w b ga gq pc start most size dep w1) (hr : Row w1 P 82 L) (hc : Ch (Is P) w1 w2) (hp : w.heap.size ≤ P) : NB w b ga gq pc start most size dep w2 :=
  ⟨h.hb.keepIs hc (row_ne h.hb hr (by decide)), h.ha.keepIs hc (row_ne h.ha hr (by decide)), h.hq.keepIs hc (row_ne h.hq hr (by decide)), ch_newg h.ch hc hp⟩
theorem ch_cell (w : World) (g o : Nat) (u : Value) : Ch (Is g) w (w.setCell ⟨g, o, none⟩ u) := (Ch.refl (Is g) w).setCell (p := ⟨g, o, none⟩) (fun _ => is_self g) u
set_option maxHeartbeats 8000000 in
set_option maxRecDepth 100000 in
theorem new_calls (w : World) (pc : List Value) (ga ca gq cq : Nat) (start most size dep : Int) (hpl : pc.length = 21) (hp1 : ∀ u ∈ pc, u.oneCell' = true) (h18 : pc[18]? = some (.slice (some ⟨ga, 0, none⟩) 1 ca)) (h19 : pc[19]? = some (.slice none 0 0)) (h20 : pc[20]? = some (.slice (some ⟨gq, 0, none⟩) 1 cq))
    (ha : Row w ga 55 [.int .i64 start, .int .i64 most]) (hq : Row w gq 57 [.int .i64 size, .int .i64 dep]) :
    Calls Try.prog 18 #[.agg pc.toArray] w fun e w' => ∃ s, e = .returned (.pointer (some ⟨s.P, 0, none⟩)) ∧ Bs w.heap.size s w' ∧ s.n = start ∧ s.most = most ∧ s.dep = dep ∧ s.siz = size ∧ s.ms = [] ∧ s.sv = [] ∧ Ch No w w' := by
  have HN1 : Hid (NB w w.heap.size ga gq pc start most size dep (w.alloc (.cells pc.toArray 32))) := ⟨Row.new w 32 pc, ha.alloc _, hq.alloc _, (Ch.refl _ _).alloc _⟩
  clear ha hq
  go_enter Try.func18, Try.ntmps18
  go_upto_region 1 with (fail)
  change Code.wp _ _ _ _ (w.alloc (.cells pc.toArray 32))
  generalize w.alloc (.cells pc.toArray 32) = w1 at *
  have c19 : w1.cell? ⟨w.heap.size, 19, none⟩ = some (.slice none 0 0) := by rw [HN1.out.hb.cell]; exact h19
  have hb1 := HN1.out.hb.lt
  go_wp2_with (fail)
  refine (clone_nil_31 w1).mono ?_
  rintro e w2 ⟨rfl, rfl⟩
  have HR1 : Hid (Row (w2.alloc (.cells #[.slice none 0 0, .slice none 0 0, .slice none 0 0] 82)) w2.heap.size 82 [.slice none 0 0, .slice none 0 0, .slice none 0 0]) := Row.new w2 82 _
  have HN2 := Lib.hid (HN1.out.no ((Ch.refl No w2).alloc (.cells #[.slice none 0 0, .slice none 0 0, .slice none 0 0] 82)))
  have HPB : Hid (w.heap.size ≤ w2.heap.size) := HN1.out.ch.size
  go_upto_region 2 with (fail)
  generalize w2.alloc (.cells #[.slice none 0 0, .slice none 0 0, .slice none 0 0] 82) = w3 at *
  generalize w2.heap.size = P at *
  clear HN1 c19 hb1
  have c18 : w3.cell? ⟨w.heap.size, 18, none⟩ = some (.slice (some ⟨ga, 0, none⟩) 1 ca) := by rw [HN2.out.hb.cell]; exact h18
  have hb1 := HN2.out.hb.lt
  go_wp2_with (fail)
  go_loopw [16] (fun i wr => Hid (NB w w.heap.size ga gq pc start most size dep wr) ∧ ((i = .int .i64 0 ∧ Hid (Row wr P 82 [.slice none 0 0, .slice none 0 0, .slice none 0 0])) ∨ (i = .int .i64 1 ∧ ∃ (gs cs : Nat) (rs : List Value), Hid (Row wr P 82 [.slice (some ⟨gs, 0, none⟩) 1 cs, .slice none 0 0, .slice none 0 0]) ∧ Hid (Row wr gs 84 (.int .i64 start :: .int .i64 most :: rs)) ∧ Hid (w.heap.size ≤ gs)))) (fun i _ => 1 - (intOf i).toNat)
  case atStart => exact ⟨HN2, .inl ⟨rfl, HR1⟩⟩
  case round =>
    clear c18 hb1 HN2 HR1
    obtain ⟨HN, hor⟩ := hrel
    rcases hor with ⟨rfl, HR⟩ | ⟨rfl, gs, cs, rs, HR, HG, HGB⟩
    · have ca0 : wr.cell? ⟨ga, 0, none⟩ = some (.int .i64 start) := by rw [HN.out.ha.cell]; rfl
      have ca1 : wr.cell? ⟨ga, 1, none⟩ = some (.int .i64 most) := by rw [HN.out.ha.cell]; rfl
      have hga := HN.out.ha.lt
      go_upto_region 5 with (fail)
      have HX : Hid (Row (wr.alloc (.cells #[.int .i64 start, .int .i64 most] 55)) wr.heap.size 55 [.int .i64 start, .int .i64 most]) := Row.new wr 55 _
      have HN4 := Lib.hid (HN.out.no ((Ch.refl No wr).alloc (.cells #[.int .i64 start, .int .i64 most] 55)))
      have HR4 := Lib.hid (HR.out.alloc (.cells #[.int .i64 start, .int .i64 most] 55))
      generalize wr.alloc (.cells #[.int .i64 start, .int .i64 most] 55) = w4 at *
      generalize wr.heap.size = x5 at *
      have HN5 : Hid (NB w w.heap.size ga gq pc start most size dep w4.drew) := HN4.out.no (Ch.refl No w4).drew
      have HR5 : Hid (Row w4.drew P 82 [.slice none 0 0, .slice none 0 0, .slice none 0 0]) := HR4.out
      have HX5 : Hid (Row w4.drew x5 55 [.int .i64 start, .int .i64 most]) := HX.out
      have HS0 : Hid ((fun w' : World => w'.cell? ⟨x5, 0, none⟩ = some (.int .i64 start) ∧ w'.cell? ⟨x5, 1, none⟩ = some (.int .i64 most)) w4.drew) := by
        refine ⟨?_, ?_⟩ <;> (rw [HX5.out.cell]; rfl)
      refine wp_region_held (S := fun w' : World => w'.cell? ⟨x5, 0, none⟩ = some (.int .i64 start) ∧ w'.cell? ⟨x5, 1, none⟩ = some (.int .i64 most)) (by kernel_rfl) ?_
      change wpAnyH _ _ _ _ _ _ _ _ w4.drew
      generalize w4.drew = w5 at *
      obtain ⟨w6, hw6⟩ : ∃ w6, w6 = w5.alloc (.cells #[.int .i64 start, .int .i64 most] 84) := ⟨_, rfl⟩
      have HRN : Hid (Row w6 w5.heap.size 84 [.int .i64 start, .int .i64 most]) := by rw [hw6]; exact Row.new w5 84 _
      have HC6 : Hid (Ch No w5 w6) := by rw [hw6]; exact (Ch.refl _ _).alloc _
      have HW6 := Lib.hid hw6
      clear hw6
      obtain ⟨gs, cs, rs, w7, hrun, hrow, hgs, hch⟩ := app_nil w6 79 84 (.agg #[.int .i64 0, .int .i64 0]) 2 16 Try.underlying79 info84 rfl (by omega) (by omega) w5.heap.size 1 [.int .i64 start, .int .i64 most] rfl HRN.out (fun u hu => by
        simp at hu
        rcases hu with rfl | rfl <;> rfl)
      have HRUN := Lib.hid hrun
      have HRO := Lib.hid hrow
      have HGS : Hid (w.heap.size ≤ gs) := by
        show _ ≤ _
        have := HN5.out.ch.size
        have := HC6.out.size
        omega
      have HC7 : Hid (Ch No w5 w7) := HC6.out.then_ hch
      have HS6 : Hid ((fun w' : World => w'.cell? ⟨x5, 0, none⟩ = some (.int .i64 start) ∧ w'.cell? ⟨x5, 1, none⟩ = some (.int .i64 most)) w6) := ⟨HC6.out.cell (not_no _) HS0.out.1, HC6.out.cell (not_no _) HS0.out.2⟩
      have HS7 : Hid ((fun w' : World => w'.cell? ⟨x5, 0, none⟩ = some (.int .i64 start) ∧ w'.cell? ⟨x5, 1, none⟩ = some (.int .i64 most)) w7) := ⟨HC7.out.cell (not_no _) HS0.out.1, HC7.out.cell (not_no _) HS0.out.2⟩
      have HN7 := Lib.hid (HN5.out.no HC7.out)
      have HR7 := Lib.hid (HR5.out.keepNo HC7.out)
      have HPG : Hid (gs ≠ P) := row_ne hrow HR7.out (by decide)
      have HXP : Hid (x5 ≠ P) := row_ne HX5.out HR5.out (by decide)
      have HL5 : Hid (w5.cell? ⟨P, 0, none⟩ = some (.slice none 0 0)) := by show World.cell? _ _ = _; rw [HR5.out.cell]; rfl
      have HL6 : Hid (w6.cell? ⟨P, 0, none⟩ = some (.slice none 0 0)) := HC6.out.cell (not_no _) HL5.out
      clear hrun hrow hgs hch HN HR HN4 HR4 HX ca0 ca1 hga
      refine wpAnyH_take (i := 0) (oi := ⟨some 20, _, _, _, _, _⟩) (v := .pointer (some ⟨P, 0, none⟩)) rfl (by kernel_rfl) (by kernel_rfl) (by kernel_rfl) (fun _ _ _ h => h) (Or.inl ⟨by rfl, fun _ _ => rfl⟩) HS0.out ?_
      simp only [Act.put, List.setIfInBounds_toArray, List.set_cons_zero, List.set_cons_succ]
      refine wpAnyH_take (i := 1) (oi := ⟨some 21, _, _, _, _, _⟩) (v := .pointer (some ⟨P, 0, none⟩)) rfl (by kernel_rfl) (by kernel_rfl) (by kernel_rfl) (fun _ _ _ h => h) (Or.inl ⟨by rfl, fun _ _ => rfl⟩) HS0.out ?_
      simp only [Act.put, List.setIfInBounds_toArray, List.set_cons_zero, List.set_cons_succ]
      refine wpAnyH_take (i := 2) (oi := ⟨some 22, _, _, _, _, _⟩) (v := .pointer (some ⟨P, 0, none⟩)) rfl (by kernel_rfl) (by kernel_rfl) (by kernel_rfl) (fun _ _ _ h => h) (Or.inl ⟨by rfl, fun _ _ => rfl⟩) HS0.out ?_
      simp only [Act.put, List.setIfInBounds_toArray, List.set_cons_zero, List.set_cons_succ]
      refine wpAnyH_take (i := 3) (oi := ⟨some 23, _, _, _, _, _⟩) (v := .pointer (some ⟨P, 0, none⟩)) rfl (by kernel_rfl) (by kernel_rfl) (by kernel_rfl) (fun _ _ _ h => h) (Or.inl ⟨by rfl, fun _ _ => by kernel_rfl⟩) HS0.out ?_
      simp only [Act.put, List.setIfInBounds_toArray, List.set_cons_zero, List.set_cons_succ]
      refine wpAnyH_take (i := 5) (oi := ⟨some 25, _, _, _, _, _⟩) (v := .pointer (some ⟨x5, 0, none⟩)) rfl (by kernel_rfl) (by kernel_rfl) (by kernel_rfl) (fun _ _ _ h => h) (Or.inl ⟨by rfl, fun _ _ => by kernel_rfl⟩) HS0.out ?_
      simp only [Act.put, List.setIfInBounds_toArray, List.set_cons_zero, List.set_cons_succ]
      refine wpAnyH_take (i := 6) (oi := ⟨some 26, _, _, _, _, _⟩) (v := .int .i64 start) rfl (by kernel_rfl) (by kernel_rfl) (by kernel_rfl) (fun _ _ _ h => h) (Or.inl ⟨by rfl, fun w' hs => exec_load_cell 3 (.tmp 25) rfl ⟨x5, 0, none⟩ rfl _ Try.underlying3 rfl _ hs.1⟩) HS0.out ?_
      simp only [Act.put, List.setIfInBounds_toArray, List.set_cons_zero, List.set_cons_succ]
      refine wpAnyH_take (i := 7) (oi := ⟨some 27, _, _, _, _, _⟩) (v := .pointer (some ⟨x5, 1, none⟩)) rfl (by kernel_rfl) (by kernel_rfl) (by kernel_rfl) (fun _ _ _ h => h) (Or.inl ⟨by rfl, fun _ _ => by kernel_rfl⟩) HS0.out ?_
      simp only [Act.put, List.setIfInBounds_toArray, List.set_cons_zero, List.set_cons_succ]
      refine wpAnyH_take (i := 8) (oi := ⟨some 28, _, _, _, _, _⟩) (v := .int .i64 most) rfl (by kernel_rfl) (by kernel_rfl) (by kernel_rfl) (fun _ _ _ h => h) (Or.inl ⟨by rfl, fun w' hs => exec_load_cell 3 (.tmp 27) rfl ⟨x5, 1, none⟩ rfl _ Try.underlying3 rfl _ hs.2⟩) HS0.out ?_
      simp only [Act.put, List.setIfInBounds_toArray, List.set_cons_zero, List.set_cons_succ]
      refine wpAnyH_take (i := 9) (oi := ⟨some 29, _, _, _, _, _⟩) (v := .agg #[.int .i64 start, .int .i64 most]) rfl (by kernel_rfl) (by kernel_rfl) (by kernel_rfl) (fun _ _ _ h => h) (Or.inl ⟨by rfl, fun _ _ => by kernel_rfl⟩) HS0.out ?_
      simp only [Act.put, List.setIfInBounds_toArray, List.set_cons_zero, List.set_cons_succ]
      refine wpAnyH_norm 6 #[true, true, true, true, false, true, true, true, true, true, false, false, false, false, false] (by kernel_rfl) (by kernel_rfl) ?_
      refine wpAnyH_two (i := 4) (j := 10) (oi := ⟨some 24, _, _, _, _, _⟩) (oj := ⟨some 30, _, _, _, _, _⟩) (by kernel_rfl) rfl rfl (by rfl) (by rfl) ?_ ?_
      · refine wp_value (.slice none 0 0) (exec_load_cell 79 (.tmp 23) rfl ⟨P, 0, none⟩ rfl _ Try.underlying79 rfl _ HL5.out) ?_
        refine And.intro HS0.out ?_
        simp only [Act.put, List.setIfInBounds_toArray, List.set_cons_zero, List.set_cons_succ]
        refine wpAnyH_one (i := 10) (o := ⟨some 30, _, _, _, _, _⟩) (by kernel_rfl) rfl (by rfl) ?_
        refine wp_value_to (w' := w6) (.slice (some ⟨w5.heap.size, 0, none⟩) 1 1) (by rw [HW6.out]; kernel_rfl) ?_
        refine And.intro HS6.out ?_
        simp only [Act.put, List.setIfInBounds_toArray, List.set_cons_zero, List.set_cons_succ]
        refine wpAnyH_norm 4 #[true, true, true, true, true, true, true, true, true, true, true, false, false, false, false] (by kernel_rfl) (by kernel_rfl) ?_
        refine wpAnyH_one (i := 11) (o := ⟨some 31, _, _, _, _, _⟩) (by kernel_rfl) rfl (by rfl) ?_
        refine wp_value_to (w' := w7) (.slice (some ⟨gs, 0, none⟩) 1 cs) (exec_append (.tmp 24) (.tmp 30) 79 rfl _ _ _ rfl rfl HRUN.out) ?_
        refine And.intro HS7.out ?_
        simp only [Act.put, List.setIfInBounds_toArray, List.set_cons_zero, List.set_cons_succ]
        refine wpAnyH_one (i := 12) (o := ⟨some 32, _, _, _, _, _⟩) (by kernel_rfl) rfl (by rfl) ?_
        refine wp_value (.pointer (some ⟨P, 0, none⟩)) (by kernel_rfl) ?_
        refine And.intro HS7.out ?_
        simp only [Act.put, List.setIfInBounds_toArray, List.set_cons_zero, List.set_cons_succ]
        refine wpAnyH_one (i := 13) (o := ⟨some 33, _, _, _, _, _⟩) (by kernel_rfl) rfl (by rfl) ?_
        refine wp_value (.pointer (some ⟨P, 0, none⟩)) (by kernel_rfl) ?_
        refine And.intro HS7.out ?_
        simp only [Act.put, List.setIfInBounds_toArray, List.set_cons_zero, List.set_cons_succ]
        refine wpAnyH_one (i := 14) (o := ⟨none, _, _, _, _, _⟩) (by kernel_rfl) rfl (by rfl) ?_
        have hs7 : (w7.cell? ⟨P, 0, none⟩).isSome = true := by rw [HR7.out.cell]; rfl
        refine wp_store_cell 79 (.tmp 33) (.tmp 31) rfl P 0 (.slice (some ⟨gs, 0, none⟩) 1 cs) rfl rfl rfl size79 hs7 (HR7.out.frozen _) ?_
        have HC8 : Hid (Ch (Is P) w7 (w7.setCell ⟨P, 0, none⟩ (.slice (some ⟨gs, 0, none⟩) 1 cs))) := ch_cell _ _ _ _
        have HR8 : Hid (Row (w7.setCell ⟨P, 0, none⟩ (.slice (some ⟨gs, 0, none⟩) 1 cs)) P 82 [.slice (some ⟨gs, 0, none⟩) 1 cs, .slice none 0 0, .slice none 0 0]) := HR7.out.set_ 0 _
        have HN8 := Lib.hid (HN7.out.is HR7.out HC8.out HPB.out)
        have HG8 := Lib.hid (HRO.out.keepIs HC8.out HPG.out)
        have HS8 : Hid ((fun w' : World => w'.cell? ⟨x5, 0, none⟩ = some (.int .i64 start) ∧ w'.cell? ⟨x5, 1, none⟩ = some (.int .i64 most)) (w7.setCell ⟨P, 0, none⟩ (.slice (some ⟨gs, 0, none⟩) 1 cs))) := ⟨HC8.out.cell (fun e => HXP.out e) HS7.out.1, HC8.out.cell (fun e => HXP.out e) HS7.out.2⟩
        generalize w7.setCell ⟨P, 0, none⟩ (.slice (some ⟨gs, 0, none⟩) 1 cs) = w8 at *
        refine And.intro HS8.out ?_
        simp only [Act.put, List.setIfInBounds_toArray, List.set_cons_zero, List.set_cons_succ]
        refine wpAnyH_done (by kernel_rfl) ?_ _
        go_wp2_with (fail)
        go_roundw
        · exact ⟨HN8, .inr ⟨rfl, gs, cs, rs, HR8, HG8, HGS⟩⟩
        · simp [intOf]
      · refine wp_value_to (w' := w6) (.slice (some ⟨w5.heap.size, 0, none⟩) 1 1) (by rw [HW6.out]; kernel_rfl) ?_
        refine And.intro HS6.out ?_
        simp only [Act.put, List.setIfInBounds_toArray, List.set_cons_zero, List.set_cons_succ]
        refine wpAnyH_one (i := 4) (o := ⟨some 24, _, _, _, _, _⟩) (by kernel_rfl) rfl (by rfl) ?_
        refine wp_value (.slice none 0 0) (exec_load_cell 79 (.tmp 23) rfl ⟨P, 0, none⟩ rfl _ Try.underlying79 rfl _ HL6.out) ?_
        refine And.intro HS6.out ?_
        simp only [Act.put, List.setIfInBounds_toArray, List.set_cons_zero, List.set_cons_succ]
        refine wpAnyH_norm 4 #[true, true, true, true, true, true, true, true, true, true, true, false, false, false, false] (by kernel_rfl) (by kernel_rfl) ?_
        refine wpAnyH_one (i := 11) (o := ⟨some 31, _, _, _, _, _⟩) (by kernel_rfl) rfl (by rfl) ?_
        refine wp_value_to (w' := w7) (.slice (some ⟨gs, 0, none⟩) 1 cs) (exec_append (.tmp 24) (.tmp 30) 79 rfl _ _ _ rfl rfl HRUN.out) ?_
        refine And.intro HS7.out ?_
        simp only [Act.put, List.setIfInBounds_toArray, List.set_cons_zero, List.set_cons_succ]
        refine wpAnyH_one (i := 12) (o := ⟨some 32, _, _, _, _, _⟩) (by kernel_rfl) rfl (by rfl) ?_
        refine wp_value (.pointer (some ⟨P, 0, none⟩)) (by kernel_rfl) ?_
        refine And.intro HS7.out ?_
        simp only [Act.put, List.setIfInBounds_toArray, List.set_cons_zero, List.set_cons_succ]
        refine wpAnyH_one (i := 13) (o := ⟨some 33, _, _, _, _, _⟩) (by kernel_rfl) rfl (by rfl) ?_
        refine wp_value (.pointer (some ⟨P, 0, none⟩)) (by kernel_rfl) ?_
        refine And.intro HS7.out ?_
        simp only [Act.put, List.setIfInBounds_toArray, List.set_cons_zero, List.set_cons_succ]
        refine wpAnyH_one (i := 14) (o := ⟨none, _, _, _, _, _⟩) (by kernel_rfl) rfl (by rfl) ?_
        have hs7 : (w7.cell? ⟨P, 0, none⟩).isSome = true := by rw [HR7.out.cell]; rfl
        refine wp_store_cell 79 (.tmp 33) (.tmp 31) rfl P 0 (.slice (some ⟨gs, 0, none⟩) 1 cs) rfl rfl rfl size79 hs7 (HR7.out.frozen _) ?_
        have HC8 : Hid (Ch (Is P) w7 (w7.setCell ⟨P, 0, none⟩ (.slice (some ⟨gs, 0, none⟩) 1 cs))) := ch_cell _ _ _ _
        have HR8 : Hid (Row (w7.setCell ⟨P, 0, none⟩ (.slice (some ⟨gs, 0, none⟩) 1 cs)) P 82 [.slice (some ⟨gs, 0, none⟩) 1 cs, .slice none 0 0, .slice none 0 0]) := HR7.out.set_ 0 _
        have HN8 := Lib.hid (HN7.out.is HR7.out HC8.out HPB.out)
        have HG8 := Lib.hid (HRO.out.keepIs HC8.out HPG.out)
        have HS8 : Hid ((fun w' : World => w'.cell? ⟨x5, 0, none⟩ = some (.int .i64 start) ∧ w'.cell? ⟨x5, 1, none⟩ = some (.int .i64 most)) (w7.setCell ⟨P, 0, none⟩ (.slice (some ⟨gs, 0, none⟩) 1 cs))) := ⟨HC8.out.cell (fun e => HXP.out e) HS7.out.1, HC8.out.cell (fun e => HXP.out e) HS7.out.2⟩
        generalize w7.setCell ⟨P, 0, none⟩ (.slice (some ⟨gs, 0, none⟩) 1 cs) = w8 at *
        refine And.intro HS8.out ?_
        simp only [Act.put, List.setIfInBounds_toArray, List.set_cons_zero, List.set_cons_succ]
        refine wpAnyH_done (by kernel_rfl) ?_ _
        go_wp2_with (fail)
        go_roundw
        · exact ⟨HN8, .inr ⟨rfl, gs, cs, rs, HR8, HG8, HGS⟩⟩
        · simp [intOf]
    · have c20 : wr.cell? ⟨w.heap.size, 20, none⟩ = some (.slice (some ⟨gq, 0, none⟩) 1 cq) := by rw [HN.out.hb.cell]; exact h20
      have hb1 := HN.out.hb.lt
      have HGP : Hid (gs ≠ P) := row_ne HG.out HR.out (by decide)
      go_wp2_with (fail)
      have HN9 := HN
      have HR9 := HR
      have HG9 := HG
      generalize wr = w9 at *
      clear HN HR HG
      go_loopw [38] (fun i wr => Hid (NB w w.heap.size ga gq pc start most size dep wr) ∧ Hid (Row wr gs 84 (.int .i64 start :: .int .i64 most :: rs)) ∧ ((i = .int .i64 0 ∧ Hid (Row wr P 82 [.slice (some ⟨gs, 0, none⟩) 1 cs, .slice none 0 0, .slice none 0 0])) ∨ (i = .int .i64 1 ∧ ∃ (gb cb : Nat) (rb : List Value), Hid (Row wr P 82 [.slice (some ⟨gs, 0, none⟩) 1 cs, .slice none 0 0, .slice (some ⟨gb, 0, none⟩) 1 cb]) ∧ Hid (Row wr gb 90 (.slice none 0 0 :: .int .i64 dep :: .int .i64 size :: rb)) ∧ Hid (w.heap.size ≤ gb)))) (fun i _ => 1 - (intOf i).toNat)
      case atStart => exact ⟨HN9, HG9, .inl ⟨rfl, HR9⟩⟩
      case round =>
        clear c20 hb1 HN9 HR9 HG9
        obtain ⟨HN, HG, hor⟩ := hrel
        rcases hor with ⟨rfl, HR⟩ | ⟨rfl, gb, cb, rb, HR, HQ, HQB⟩
        · have ca0 : wr.cell? ⟨gq, 0, none⟩ = some (.int .i64 size) := by rw [HN.out.hq.cell]; rfl
          have ca1 : wr.cell? ⟨gq, 1, none⟩ = some (.int .i64 dep) := by rw [HN.out.hq.cell]; rfl
          have hga := HN.out.hq.lt
          go_upto_region 10 with (fail)
          have HX : Hid (Row (wr.alloc (.cells #[.int .i64 size, .int .i64 dep] 57)) wr.heap.size 57 [.int .i64 size, .int .i64 dep]) := Row.new wr 57 _
          have HN4 := Lib.hid (HN.out.no ((Ch.refl No wr).alloc (.cells #[.int .i64 size, .int .i64 dep] 57)))
          have HR4 := Lib.hid (HR.out.alloc (.cells #[.int .i64 size, .int .i64 dep] 57))
          have HG4 := Lib.hid (HG.out.alloc (.cells #[.int .i64 size, .int .i64 dep] 57))
          generalize wr.alloc (.cells #[.int .i64 size, .int .i64 dep] 57) = w4 at *
          generalize wr.heap.size = x5 at *
          have HN5 : Hid (NB w w.heap.size ga gq pc start most size dep w4.drew) := HN4.out.no (Ch.refl No w4).drew
          have HR5 : Hid (Row w4.drew P 82 [.slice (some ⟨gs, 0, none⟩) 1 cs, .slice none 0 0, .slice none 0 0]) := HR4.out
          have HG5 : Hid (Row w4.drew gs 84 (.int .i64 start :: .int .i64 most :: rs)) := HG4.out
          have HX5 : Hid (Row w4.drew x5 57 [.int .i64 size, .int .i64 dep]) := HX.out
          have HS0 : Hid ((fun w' : World => w'.cell? ⟨x5, 0, none⟩ = some (.int .i64 size) ∧ w'.cell? ⟨x5, 1, none⟩ = some (.int .i64 dep)) w4.drew) := by
            refine ⟨?_, ?_⟩ <;> (rw [HX5.out.cell]; rfl)
          refine wp_region_held (S := fun w' : World => w'.cell? ⟨x5, 0, none⟩ = some (.int .i64 size) ∧ w'.cell? ⟨x5, 1, none⟩ = some (.int .i64 dep)) (by kernel_rfl) ?_
          change wpAnyH _ _ _ _ _ _ _ _ w4.drew
          generalize w4.drew = w5 at *
          obtain ⟨w6, hw6⟩ : ∃ w6, w6 = w5.alloc (.cells #[.slice none 0 0, .int .i64 dep, .int .i64 size] 90) := ⟨_, rfl⟩
          have HRN : Hid (Row w6 w5.heap.size 90 [.slice none 0 0, .int .i64 dep, .int .i64 size]) := by rw [hw6]; exact Row.new w5 90 _
          have HC6 : Hid (Ch No w5 w6) := by rw [hw6]; exact (Ch.refl _ _).alloc _
          have HW6 := Lib.hid hw6
          clear hw6
          obtain ⟨gb, cb, rb, w7, hrun, hrow, hgs, hch⟩ := app_nil w6 80 90 (.agg #[.slice none 0 0, .int .i64 0, .int .i64 0]) 3 40 Try.underlying80 info90 rfl (by omega) (by omega) w5.heap.size 1 [.slice none 0 0, .int .i64 dep, .int .i64 size] rfl HRN.out (fun u hu => by
            simp at hu
            rcases hu with rfl | rfl | rfl <;> rfl)
          have HRUN := Lib.hid hrun
          have HRO := Lib.hid hrow
          have HGS : Hid (w.heap.size ≤ gb) := by
            show _ ≤ _
            have := HN5.out.ch.size
            have := HC6.out.size
            omega
          have HC7 : Hid (Ch No w5 w7) := HC6.out.then_ hch
          have HS6 : Hid ((fun w' : World => w'.cell? ⟨x5, 0, none⟩ = some (.int .i64 size) ∧ w'.cell? ⟨x5, 1, none⟩ = some (.int .i64 dep)) w6) := ⟨HC6.out.cell (not_no _) HS0.out.1, HC6.out.cell (not_no _) HS0.out.2⟩
          have HS7 : Hid ((fun w' : World => w'.cell? ⟨x5, 0, none⟩ = some (.int .i64 size) ∧ w'.cell? ⟨x5, 1, none⟩ = some (.int .i64 dep)) w7) := ⟨HC7.out.cell (not_no _) HS0.out.1, HC7.out.cell (not_no _) HS0.out.2⟩
          have HN7 := Lib.hid (HN5.out.no HC7.out)
          have HR7 := Lib.hid (HR5.out.keepNo HC7.out)
          have HG7 := Lib.hid (HG5.out.keepNo HC7.out)
          have HPG : Hid (gb ≠ P) := row_ne hrow HR7.out (by decide)
          have HXP : Hid (x5 ≠ P) := row_ne HX5.out HR5.out (by decide)
          have HL5 : Hid (w5.cell? ⟨P, 2, none⟩ = some (.slice none 0 0)) := by show World.cell? _ _ = _; rw [HR5.out.cell]; rfl
          have HL6 : Hid (w6.cell? ⟨P, 2, none⟩ = some (.slice none 0 0)) := HC6.out.cell (not_no _) HL5.out
          clear hrun hrow hgs hch HN HR HN4 HR4 HX HG HG4 ca0 ca1 hga
          refine wpAnyH_take (i := 0) (oi := ⟨some 42, _, _, _, _, _⟩) (v := .pointer (some ⟨P, 0, none⟩)) rfl (by kernel_rfl) (by kernel_rfl) (by kernel_rfl) (fun _ _ _ h => h) (Or.inl ⟨by rfl, fun _ _ => rfl⟩) HS0.out ?_
          simp only [Act.put, List.setIfInBounds_toArray, List.set_cons_zero, List.set_cons_succ]
          refine wpAnyH_take (i := 1) (oi := ⟨some 43, _, _, _, _, _⟩) (v := .pointer (some ⟨P, 0, none⟩)) rfl (by kernel_rfl) (by kernel_rfl) (by kernel_rfl) (fun _ _ _ h => h) (Or.inl ⟨by rfl, fun _ _ => rfl⟩) HS0.out ?_
          simp only [Act.put, List.setIfInBounds_toArray, List.set_cons_zero, List.set_cons_succ]
          refine wpAnyH_take (i := 2) (oi := ⟨some 44, _, _, _, _, _⟩) (v := .pointer (some ⟨P, 0, none⟩)) rfl (by kernel_rfl) (by kernel_rfl) (by kernel_rfl) (fun _ _ _ h => h) (Or.inl ⟨by rfl, fun _ _ => rfl⟩) HS0.out ?_
          simp only [Act.put, List.setIfInBounds_toArray, List.set_cons_zero, List.set_cons_succ]
          refine wpAnyH_take (i := 3) (oi := ⟨some 45, _, _, _, _, _⟩) (v := .pointer (some ⟨P, 2, none⟩)) rfl (by kernel_rfl) (by kernel_rfl) (by kernel_rfl) (fun _ _ _ h => h) (Or.inl ⟨by rfl, fun _ _ => by kernel_rfl⟩) HS0.out ?_
          simp only [Act.put, List.setIfInBounds_toArray, List.set_cons_zero, List.set_cons_succ]
          refine wpAnyH_take (i := 5) (oi := ⟨some 47, _, _, _, _, _⟩) (v := .pointer (some ⟨x5, 1, none⟩)) rfl (by kernel_rfl) (by kernel_rfl) (by kernel_rfl) (fun _ _ _ h => h) (Or.inl ⟨by rfl, fun _ _ => by kernel_rfl⟩) HS0.out ?_
          simp only [Act.put, List.setIfInBounds_toArray, List.set_cons_zero, List.set_cons_succ]
          refine wpAnyH_take (i := 6) (oi := ⟨some 48, _, _, _, _, _⟩) (v := .int .i64 dep) rfl (by kernel_rfl) (by kernel_rfl) (by kernel_rfl) (fun _ _ _ h => h) (Or.inl ⟨by rfl, fun w' hs => exec_load_cell 3 (.tmp 47) rfl ⟨x5, 1, none⟩ rfl _ Try.underlying3 rfl _ hs.2⟩) HS0.out ?_
          simp only [Act.put, List.setIfInBounds_toArray, List.set_cons_zero, List.set_cons_succ]
          refine wpAnyH_take (i := 7) (oi := ⟨some 49, _, _, _, _, _⟩) (v := .agg #[.slice none 0 0, .int .i64 dep]) rfl (by kernel_rfl) (by kernel_rfl) (by kernel_rfl) (fun _ _ _ h => h) (Or.inl ⟨by rfl, fun _ _ => by kernel_rfl⟩) HS0.out ?_
          simp only [Act.put, List.setIfInBounds_toArray, List.set_cons_zero, List.set_cons_succ]
          refine wpAnyH_take (i := 8) (oi := ⟨some 50, _, _, _, _, _⟩) (v := .pointer (some ⟨x5, 0, none⟩)) rfl (by kernel_rfl) (by kernel_rfl) (by kernel_rfl) (fun _ _ _ h => h) (Or.inl ⟨by rfl, fun _ _ => by kernel_rfl⟩) HS0.out ?_
          simp only [Act.put, List.setIfInBounds_toArray, List.set_cons_zero, List.set_cons_succ]
          refine wpAnyH_take (i := 9) (oi := ⟨some 51, _, _, _, _, _⟩) (v := .int .i64 size) rfl (by kernel_rfl) (by kernel_rfl) (by kernel_rfl) (fun _ _ _ h => h) (Or.inl ⟨by rfl, fun w' hs => exec_load_cell 3 (.tmp 50) rfl ⟨x5, 0, none⟩ rfl _ Try.underlying3 rfl _ hs.1⟩) HS0.out ?_
          simp only [Act.put, List.setIfInBounds_toArray, List.set_cons_zero, List.set_cons_succ]
          refine wpAnyH_take (i := 10) (oi := ⟨some 52, _, _, _, _, _⟩) (v := .agg #[.slice none 0 0, .int .i64 dep, .int .i64 size]) rfl (by kernel_rfl) (by kernel_rfl) (by kernel_rfl) (fun _ _ _ h => h) (Or.inl ⟨by rfl, fun _ _ => by kernel_rfl⟩) HS0.out ?_
          simp only [Act.put, List.setIfInBounds_toArray, List.set_cons_zero, List.set_cons_succ]
          refine wpAnyH_norm 6 #[true, true, true, true, false, true, true, true, true, true, true, false, false, false, false, false] (by kernel_rfl) (by kernel_rfl) ?_
          refine wpAnyH_two (i := 4) (j := 11) (oi := ⟨some 46, _, _, _, _, _⟩) (oj := ⟨some 53, _, _, _, _, _⟩) (by kernel_rfl) rfl rfl (by rfl) (by rfl) ?_ ?_
          · refine wp_value (.slice none 0 0) (exec_load_cell 80 (.tmp 45) rfl ⟨P, 2, none⟩ rfl _ Try.underlying80 rfl _ HL5.out) ?_
            refine And.intro HS0.out ?_
            simp only [Act.put, List.setIfInBounds_toArray, List.set_cons_zero, List.set_cons_succ]
            refine wpAnyH_one (i := 11) (o := ⟨some 53, _, _, _, _, _⟩) (by kernel_rfl) rfl (by rfl) ?_
            refine wp_value_to (w' := w6) (.slice (some ⟨w5.heap.size, 0, none⟩) 1 1) (by rw [HW6.out]; kernel_rfl) ?_
            refine And.intro HS6.out ?_
            simp only [Act.put, List.setIfInBounds_toArray, List.set_cons_zero, List.set_cons_succ]
            refine wpAnyH_norm 4 #[true, true, true, true, true, true, true, true, true, true, true, true, false, false, false, false] (by kernel_rfl) (by kernel_rfl) ?_
            refine wpAnyH_one (i := 12) (o := ⟨some 54, _, _, _, _, _⟩) (by kernel_rfl) rfl (by rfl) ?_
            refine wp_value_to (w' := w7) (.slice (some ⟨gb, 0, none⟩) 1 cb) (exec_append (.tmp 46) (.tmp 53) 80 rfl _ _ _ rfl rfl HRUN.out) ?_
            refine And.intro HS7.out ?_
            simp only [Act.put, List.setIfInBounds_toArray, List.set_cons_zero, List.set_cons_succ]
            refine wpAnyH_one (i := 13) (o := ⟨some 55, _, _, _, _, _⟩) (by kernel_rfl) rfl (by rfl) ?_
            refine wp_value (.pointer (some ⟨P, 0, none⟩)) (by kernel_rfl) ?_
            refine And.intro HS7.out ?_
            simp only [Act.put, List.setIfInBounds_toArray, List.set_cons_zero, List.set_cons_succ]
            refine wpAnyH_one (i := 14) (o := ⟨some 56, _, _, _, _, _⟩) (by kernel_rfl) rfl (by rfl) ?_
            refine wp_value (.pointer (some ⟨P, 2, none⟩)) (by kernel_rfl) ?_
            refine And.intro HS7.out ?_
            simp only [Act.put, List.setIfInBounds_toArray, List.set_cons_zero, List.set_cons_succ]
            refine wpAnyH_one (i := 15) (o := ⟨none, _, _, _, _, _⟩) (by kernel_rfl) rfl (by rfl) ?_
            have hs7 : (w7.cell? ⟨P, 2, none⟩).isSome = true := by rw [HR7.out.cell]; rfl
            refine wp_store_cell 80 (.tmp 56) (.tmp 54) rfl P 2 (.slice (some ⟨gb, 0, none⟩) 1 cb) rfl rfl rfl size80 hs7 (HR7.out.frozen _) ?_
            have HC8 : Hid (Ch (Is P) w7 (w7.setCell ⟨P, 2, none⟩ (.slice (some ⟨gb, 0, none⟩) 1 cb))) := ch_cell _ _ _ _
            have HR8 : Hid (Row (w7.setCell ⟨P, 2, none⟩ (.slice (some ⟨gb, 0, none⟩) 1 cb)) P 82 [.slice (some ⟨gs, 0, none⟩) 1 cs, .slice none 0 0, .slice (some ⟨gb, 0, none⟩) 1 cb]) := HR7.out.set_ 2 _
            have HN8 := Lib.hid (HN7.out.is HR7.out HC8.out HPB.out)
            have HQ8 := Lib.hid (HRO.out.keepIs HC8.out HPG.out)
            have HG8 := Lib.hid (HG7.out.keepIs HC8.out HGP.out)
            have HS8 : Hid ((fun w' : World => w'.cell? ⟨x5, 0, none⟩ = some (.int .i64 size) ∧ w'.cell? ⟨x5, 1, none⟩ = some (.int .i64 dep)) (w7.setCell ⟨P, 2, none⟩ (.slice (some ⟨gb, 0, none⟩) 1 cb))) := ⟨HC8.out.cell (fun e => HXP.out e) HS7.out.1, HC8.out.cell (fun e => HXP.out e) HS7.out.2⟩
            generalize w7.setCell ⟨P, 2, none⟩ (.slice (some ⟨gb, 0, none⟩) 1 cb) = w8 at *
            refine And.intro HS8.out ?_
            simp only [Act.put, List.setIfInBounds_toArray, List.set_cons_zero, List.set_cons_succ]
            refine wpAnyH_done (by kernel_rfl) ?_ _
            go_wp2_with (fail)
            go_roundw
            · exact ⟨HN8, HG8, .inr ⟨rfl, gb, cb, rb, HR8, HQ8, HGS⟩⟩
            · simp [intOf]
          · refine wp_value_to (w' := w6) (.slice (some ⟨w5.heap.size, 0, none⟩) 1 1) (by rw [HW6.out]; kernel_rfl) ?_
            refine And.intro HS6.out ?_
            simp only [Act.put, List.setIfInBounds_toArray, List.set_cons_zero, List.set_cons_succ]
            refine wpAnyH_one (i := 4) (o := ⟨some 46, _, _, _, _, _⟩) (by kernel_rfl) rfl (by rfl) ?_
            refine wp_value (.slice none 0 0) (exec_load_cell 80 (.tmp 45) rfl ⟨P, 2, none⟩ rfl _ Try.underlying80 rfl _ HL6.out) ?_
            refine And.intro HS6.out ?_
            simp only [Act.put, List.setIfInBounds_toArray, List.set_cons_zero, List.set_cons_succ]
            refine wpAnyH_norm 4 #[true, true, true, true, true, true, true, true, true, true, true, true, false, false, false, false] (by kernel_rfl) (by kernel_rfl) ?_
            refine wpAnyH_one (i := 12) (o := ⟨some 54, _, _, _, _, _⟩) (by kernel_rfl) rfl (by rfl) ?_
            refine wp_value_to (w' := w7) (.slice (some ⟨gb, 0, none⟩) 1 cb) (exec_append (.tmp 46) (.tmp 53) 80 rfl _ _ _ rfl rfl HRUN.out) ?_
            refine And.intro HS7.out ?_
            simp only [Act.put, List.setIfInBounds_toArray, List.set_cons_zero, List.set_cons_succ]
            refine wpAnyH_one (i := 13) (o := ⟨some 55, _, _, _, _, _⟩) (by kernel_rfl) rfl (by rfl) ?_
            refine wp_value (.pointer (some ⟨P, 0, none⟩)) (by kernel_rfl) ?_
            refine And.intro HS7.out ?_
            simp only [Act.put, List.setIfInBounds_toArray, List.set_cons_zero, List.set_cons_succ]
            refine wpAnyH_one (i := 14) (o := ⟨some 56, _, _, _, _, _⟩) (by kernel_rfl) rfl (by rfl) ?_
            refine wp_value (.pointer (some ⟨P, 2, none⟩)) (by kernel_rfl) ?_
            refine And.intro HS7.out ?_
            simp only [Act.put, List.setIfInBounds_toArray, List.set_cons_zero, List.set_cons_succ]
            refine wpAnyH_one (i := 15) (o := ⟨none, _, _, _, _, _⟩) (by kernel_rfl) rfl (by rfl) ?_
            have hs7 : (w7.cell? ⟨P, 2, none⟩).isSome = true := by rw [HR7.out.cell]; rfl
            refine wp_store_cell 80 (.tmp 56) (.tmp 54) rfl P 2 (.slice (some ⟨gb, 0, none⟩) 1 cb) rfl rfl rfl size80 hs7 (HR7.out.frozen _) ?_
            have HC8 : Hid (Ch (Is P) w7 (w7.setCell ⟨P, 2, none⟩ (.slice (some ⟨gb, 0, none⟩) 1 cb))) := ch_cell _ _ _ _
            have HR8 : Hid (Row (w7.setCell ⟨P, 2, none⟩ (.slice (some ⟨gb, 0, none⟩) 1 cb)) P 82 [.slice (some ⟨gs, 0, none⟩) 1 cs, .slice none 0 0, .slice (some ⟨gb, 0, none⟩) 1 cb]) := HR7.out.set_ 2 _
            have HN8 := Lib.hid (HN7.out.is HR7.out HC8.out HPB.out)
            have HQ8 := Lib.hid (HRO.out.keepIs HC8.out HPG.out)
            have HG8 := Lib.hid (HG7.out.keepIs HC8.out HGP.out)
            have HS8 : Hid ((fun w' : World => w'.cell? ⟨x5, 0, none⟩ = some (.int .i64 size) ∧ w'.cell? ⟨x5, 1, none⟩ = some (.int .i64 dep)) (w7.setCell ⟨P, 2, none⟩ (.slice (some ⟨gb, 0, none⟩) 1 cb))) := ⟨HC8.out.cell (fun e => HXP.out e) HS7.out.1, HC8.out.cell (fun e => HXP.out e) HS7.out.2⟩
            generalize w7.setCell ⟨P, 2, none⟩ (.slice (some ⟨gb, 0, none⟩) 1 cb) = w8 at *
            refine And.intro HS8.out ?_
            simp only [Act.put, List.setIfInBounds_toArray, List.set_cons_zero, List.set_cons_succ]
            refine wpAnyH_done (by kernel_rfl) ?_ _
            go_wp2_with (fail)
            go_roundw
            · exact ⟨HN8, HG8, .inr ⟨rfl, gb, cb, rb, HR8, HQ8, HGS⟩⟩
            · simp [intOf]
        · go_wp2_with (fail)
          go_ret
          exact ⟨⟨P, gs, cs, gb, cb, rs, rb, start, most, dep, size, .slice none 0 0, [], []⟩, rfl, ⟨HR.out, HG.out, HQ.out, by exact owns_nil _ _ _ _, fun i v hv => by simp at hv, rfl, HPB.out, HGB.out, HQB.out, HN.out.ch.size, by simp⟩, rfl, rfl, rfl, rfl, rfl, rfl, HN.out.ch⟩
end Go.Proofs.Ytifieahnnklgcaa

