/- HealthExact: the walk. -/
import Derived.Test.YtdgaelbehnlegaaDoorH10
import Derived.Test.YtdgaelbehnlegaaDoorQ
import Derived.Deep.DeepCutAuto
set_option linter.unusedVariables false
set_option linter.unusedSimpArgs false
namespace Go.Proofs.YtdgaelbehnlegaaDoor
open Go.RowKit
theorem eqA39 (p q r : Int) (w : World) : (Op.equalIn 10000 39 (.agg #[.int .i64 p, .int .i64 q, .int .i64 r]) (.agg #[.int .i64 p, .int .i64 q, .int .i64 r])).run Tryd.prog w = .ok true w := by
  have u3 := Tryd.underlying2
  have a3 := Tryd.isAgg2
  have z3 := Tryd.sizeOf2
  rw [show (10000 : Nat) = 9999 + 1 from rfl, Op.equalIn]
  simp only [Sem.run_bind, run_underlying Tryd.underlying39, Result.andThen_ok]
  simp only [Std.Legacy.Range.forIn_eq_forIn_range', Std.Legacy.Range.size, Nat.sub_zero, Nat.add_sub_cancel, Nat.div_one, List.range'_succ, List.range'_zero, List.forIn_cons, List.forIn_nil]
  go_simp
theorem eq39 {a : Act} {o : Oper} {w : World} (x y : Operand) (p q r : Int) (ho : o.op = .binOp .eql 39 x y 39) (hx : a.eval x = .agg #[.int .i64 p, .int .i64 q, .int .i64 r]) (hy : a.eval y = .agg #[.int .i64 p, .int .i64 q, .int .i64 r]) :
    (execOp a.eval o).run Tryd.prog w = .ok (.value (.bool true)) w := by
  have h := eqA39 p q r w
  unfold execOp
  simp only [ho, hx, hy]
  go_simp
theorem eq4 {a : Act} {o : Oper} {w : World} (x y : Operand) (V : Bool) (ho : o.op = .binOp .eql 4 x y 4) (hx : a.eval x = .bool V) (hy : a.eval y = .bool V) :
    (execOp a.eval o).run Tryd.prog w = .ok (.value (.bool true)) w := by
  unfold execOp
  simp only [ho, hx, hy]
  cases V <;> kernel_rfl
/-- what a call at the partition's rows needs -/
structure Lists (w : World) (g gi gc n : Nat) (rest : List Value) : Prop where
  procs : Row w g 53 (procCells (n + 1) ++ rest)
  init : Row w gi 2 (ints [5, 6, 7])
  code : Row w gc 55 codeCells
theorem Lists.keep {w w' : World} {g gi gc n : Nat} {rest : List Value} (h : Lists w g gi gc n rest) {D : Nat → Prop} (hc : Ch D w w') (h1 : ¬ D g) (h2 : ¬ D gi) (h3 : ¬ D gc) : Lists w' g gi gc n rest :=
  ⟨h.procs.keep hc h1, h.init.keep hc h2, h.code.keep hc h3⟩
theorem Lists.keepNo {w w' : World} {g gi gc n : Nat} {rest : List Value} (h : Lists w g gi gc n rest) (hc : Ch No w w') : Lists w' g gi gc n rest := h.keep hc (not_no _) (not_no _) (not_no _)
theorem Lists.alloc {w : World} {g gi gc n : Nat} {rest : List Value} (h : Lists w g gi gc n rest) (o : Obj) : Lists (w.alloc o) g gi gc n rest := h.keepNo ((Ch.refl No w).alloc o)
/-- all that stays through the law -/
structure Bun (w0 : World) (cc pc : List Value) (va vp : Int) (b3 g gi gc n : Nat) (rest : List Value) (z : Nat) (w : World) : Prop where
  case_ : Row w w0.heap.size 24 cc
  verd : Row w (w0.heap.size + 1) 37 (two va vp)
  part_ : Row w b3 34 pc
  lists : Lists w g gi gc n rest
  ch : Ch No w0 w
  top : w0.heap.size + 1 < z ∧ b3 < z ∧ g < z ∧ gi < z ∧ gc < z
theorem Bun.no {w0 : World} {cc pc : List Value} {va vp : Int} {b3 g gi gc n : Nat} {rest : List Value} {z : Nat} {w w' : World} (h : Bun w0 cc pc va vp b3 g gi gc n rest z w) (hc : Ch No w w') : Bun w0 cc pc va vp b3 g gi gc n rest z w' :=
  ⟨h.case_.keepNo hc, h.verd.keepNo hc, h.part_.keepNo hc, h.lists.keepNo hc, h.ch.then_ hc, h.top⟩
theorem Bun.alloc {w0 : World} {cc pc : List Value} {va vp : Int} {b3 g gi gc n : Nat} {rest : List Value} {z : Nat} {w : World} (h : Bun w0 cc pc va vp b3 g gi gc n rest z w) (o : Obj) : Bun w0 cc pc va vp b3 g gi gc n rest z (w.alloc o) := h.no ((Ch.refl No w).alloc o)
theorem Bun.is {w0 : World} {cc pc : List Value} {va vp : Int} {b3 g gi gc n : Nat} {rest : List Value} {z : Nat} {w w' : World} {x : Nat} (h : Bun w0 cc pc va vp b3 g gi gc n rest z w) (hc : Ch (Is x) w w') (hx : z ≤ x) : Bun w0 cc pc va vp b3 g gi gc n rest z w' := by
  have t := h.top
  exact ⟨h.case_.keepIs hc (by omega), h.verd.keepIs hc (by omega), h.part_.keepIs hc (by omega), h.lists.keep hc (by show ¬ _ = _; omega) (by show ¬ _ = _; omega) (by show ¬ _ = _; omega), ch_newg h.ch hc (by omega), t⟩

set_option maxRecDepth 100000 in
set_option maxHeartbeats 4000000 in
theorem exact_calls (cc : List Value) (pr hq : Int) (T : Nat → Int) (k p : Int) (busy : Bool) (va vp pcn : Int) (w : World) (hc : CaseOf cc pr hq T k p busy) (hg : Glob w) :
    Calls Tryd.prog 4 #[.agg cc.toArray, .agg (two va vp).toArray, .int .i64 pcn] w fun e w' => e = .returned (.bool true) ∧ Ch No w w' := by
  have hm : procN pr ≤ 40 := procN_le pr
  have HCC := Lib.hid hc
  have HG := Lib.hid hg
  have HR1 := Lib.hid ((Row.new w 24 cc).alloc (.cells (two va vp).toArray 37))
  have HV1 : Hid (Row ((w.alloc (.cells cc.toArray 24)).alloc (.cells (two va vp).toArray 37)) (w.heap.size + 1) 37 (two va vp)) := Row.new_at _ 37 (two va vp) (by simp)
  have HC1 : Hid (Ch No w ((w.alloc (.cells cc.toArray 24)).alloc (.cells (two va vp).toArray 37))) := ((Ch.refl No w).alloc _).alloc _
  have size24' : (Tryd.prog.info? 24).map (·.size) = some cc.length := by rw [hc.len]; exact size24
  clear hc hg
  go_enter Tryd.func4, Tryd.ntmps4
  go_upto_region 1 with (fail)
  change Code.wp _ _ _ _ ((w.alloc (.cells cc.toArray 24)).alloc (.cells (two va vp).toArray 37))
  generalize (w.alloc (.cells cc.toArray 24)).alloc (.cells (two va vp).toArray 37) = w1 at *
  go_upto_region 2 with (first | ((with_reducible refine at_op (o := ⟨some 19, .load 24 (.tmp 3), _, _, _, _⟩) ?_); refine pl_load rfl 24 (.tmp 3) rfl w.heap.size rfl 24 _ HR1.out _ Tryd.underlying24 rfl size24' ?_) | (go_at_call 5; refine (part_calls cc pr hq T k p busy _ HCC.out).mono ?_; rintro e w2 ⟨g, gi, gc, cap, rest, rfl, hr, hcap1, hcap2, hi, hcd, hch⟩; have HL := Lib.hid (Lists.mk hr hi hcd); have HC2 := Lib.hid hch; have HCAP := Lib.hid (And.intro hcap1 hcap2); clear hr hi hcd hch hcap1 hcap2) | ((with_reducible refine at_op (o := ⟨none, .store 34 (.tmp 7) (.tmp 20), _, _, _, _⟩) ?_); refine pl_store rfl 34 (.tmp 7) (.tmp 20) rfl w2.heap.size rfl 34 (pcells (.slice none 0 0) (.slice none 0 0) (.slice none 0 0) 0 (fun _ => 0)) (pcells (.slice (some ⟨gi, 0, none⟩) 2 3) (.slice (some ⟨gc, 0, none⟩) 2 3) (.slice (some ⟨g, 0, none⟩) (procN pr) cap) hq T) rfl (Row.new w2 34 (pcells (.slice none 0 0) (.slice none 0 0) (.slice none 0 0) 0 (fun _ => 0))) size34 rfl (pcells_of g gi gc cap (procN pr) hq T).one ?_; intro w3 hr3 hc3; have HR3 := Lib.hid hr3; have HC3 := Lib.hid hc3; clear hr3 hc3))
  simp only [Act.put]
  have hw1 : w.heap.size + 1 < w1.heap.size := HV1.out.lt
  have hw2 : w1.heap.size ≤ w2.heap.size := HC2.out.size
  have hg2 : g < w2.heap.size := HL.out.procs.lt
  have hgi2 : gi < w2.heap.size := HL.out.init.lt
  have hgc2 : gc < w2.heap.size := HL.out.code.lt
  have HA3 := Lib.hid (((HR1.out.keepNo HC2.out).alloc (.cells (pcells (.slice none 0 0) (.slice none 0 0) (.slice none 0 0) 0 (fun _ => 0)).toArray 34)).keepIs HC3.out (by omega))
  have HV3 := Lib.hid (((HV1.out.keepNo HC2.out).alloc (.cells (pcells (.slice none 0 0) (.slice none 0 0) (.slice none 0 0) 0 (fun _ => 0)).toArray 34)).keepIs HC3.out (by omega))
  have HL3 := Lib.hid ((HL.out.alloc (.cells (pcells (.slice none 0 0) (.slice none 0 0) (.slice none 0 0) 0 (fun _ => 0)).toArray 34)).keep HC3.out (by show ¬ _ = _; omega) (by show ¬ _ = _; omega) (by show ¬ _ = _; omega))
  have HCW3 : Hid (Ch No w w3) := ch_newg ((HC1.out.then_ HC2.out).alloc _) HC3.out (by omega)
  have HPO := Lib.hid (pcells_of g gi gc cap (procN pr) hq T)
  have HPO2 := Lib.hid (pcells_of g gi gc cap (procN pr / 2) hq T)
  have HST : Hid ((pcells (.slice (some ⟨gi, 0, none⟩) 2 3) (.slice (some ⟨gc, 0, none⟩) 2 3) (.slice (some ⟨g, 0, none⟩) (procN pr) cap) hq T).set 8 (.slice (some ⟨g, 0, none⟩) (procN pr / 2) cap) = pcells (.slice (some ⟨gi, 0, none⟩) 2 3) (.slice (some ⟨gc, 0, none⟩) 2 3) (.slice (some ⟨g, 0, none⟩) (procN pr / 2) cap) hq T) := rfl
  have HIN := Lib.hid (fun w' (hl : Lists w' g gi gc (procN pr) rest) => intact_calls g gi gc cap (procN pr) rest hq T w' hm HCAP.out.1 HCAP.out.2 hl.procs hl.init hl.code)
  have hcap : procN pr + 1 ≤ cap := HCAP.out.1
  clear HR1 HV1 HC1 HC2 HC3 HL HCAP
  generalize hb3 : w2.heap.size = b3 at *
  have hbb : w.heap.size + 1 < b3 := by omega
  clear hb3 hw1 hw2 w2 w1
  generalize pcells (.slice (some ⟨gi, 0, none⟩) 2 3) (.slice (some ⟨gc, 0, none⟩) 2 3) (.slice (some ⟨g, 0, none⟩) (procN pr) cap) hq T = pc at *
  generalize pcells (.slice (some ⟨gi, 0, none⟩) 2 3) (.slice (some ⟨gc, 0, none⟩) 2 3) (.slice (some ⟨g, 0, none⟩) (procN pr / 2) cap) hq T = pc2 at *
  have size34' : (Tryd.prog.info? 34).map (·.size) = some pc.length := by rw [HPO.out.len]; exact size34
  have size34'' : (Tryd.prog.info? 34).map (·.size) = some pc2.length := by rw [HPO2.out.len]; exact size34
  have HJ : Hid (∀ w', Ch No w w' → Calls Tryd.prog 6 #[.agg pc.toArray, .int .i64 k, .int .i64 p, .bool busy] w' _) := fun w' hch => judge_all k p busy pc _ (procN pr) cap hq T w' (by omega) HPO.out (HG.out.keep hch)
  have HJ2 : Hid (∀ w', Ch No w w' → Calls Tryd.prog 6 #[.agg pc2.toArray, .int .i64 k, .int .i64 p, .bool busy] w' _) := fun w' hch => judge_all k p busy pc2 _ (procN pr / 2) cap hq T w' (by omega) HPO2.out (HG.out.keep hch)
  have HK : Hid (∀ w', Calls Tryd.prog 9 #[.agg pc.toArray, .int .i64 k, .int .i64 p, .bool busy] w' _) := fun w' => rjudge_all k p busy pc _ (procN pr) cap hq T w' (by omega) HPO.out
  have HK2 : Hid (∀ w', Calls Tryd.prog 9 #[.agg pc2.toArray, .int .i64 k, .int .i64 p, .bool busy] w' _) := fun w' => rjudge_all k p busy pc2 _ (procN pr / 2) cap hq T w' (by omega) HPO2.out
  generalize judA k p (procN pr) busy hq (T k.toNat) = A at *
  generalize judP k p (procN pr) busy hq (T k.toNat) = P at *
  generalize judA k p (procN pr / 2 : Nat) busy hq (T k.toNat) = A2 at *
  generalize judP k p (procN pr / 2 : Nat) busy hq (T k.toNat) = P2 at *
  generalize procN pr = n at *
  have hx10 : w3.cell? ⟨w.heap.size, 10, none⟩ = some (.int .i64 k) := by rw [HA3.out.cell]; exact HCC.out.kind
  have hx11 : w3.cell? ⟨w.heap.size, 11, none⟩ = some (.int .i64 p) := by rw [HA3.out.cell]; exact HCC.out.proc
  have hx12 : w3.cell? ⟨w.heap.size, 12, none⟩ = some (.bool busy) := by rw [HA3.out.cell]; exact HCC.out.busy
  have B3 : Hid (Bun w cc pc va vp b3 g gi gc n rest w3.heap.size w3) := ⟨HA3.out, HV3.out, HR3.out, HL3.out, HCW3.out, by have := HA3.out.lt; have := HV3.out.lt; have := HR3.out.lt; have := HL3.out.procs.lt; have := HL3.out.init.lt; have := HL3.out.code.lt; omega⟩
  go_upto_region 3 with (first | ((with_reducible refine at_op (o := ⟨some 21, .load 34 (.tmp 7), _, _, _, _⟩) ?_); refine pl_load rfl 34 (.tmp 7) rfl b3 rfl 34 _ HR3.out _ Tryd.underlying34 rfl size34' ?_) | (go_at_call 6; refine (HJ.out w3 HCW3.out).mono ?_; rintro e w4 ⟨rfl, hch⟩; have HC4 := Lib.hid hch; clear hch) | ((with_reducible refine at_op (o := ⟨none, .store 37 (.tmp 8) (.tmp 28), _, _, _, _⟩) ?_); refine pl_store rfl 37 (.tmp 8) (.tmp 28) rfl w4.heap.size rfl 37 (two 0 0) (two A P) rfl (Row.new w4 37 (two 0 0)) size37 rfl (two_one _ _) ?_; intro w5 hr5 hc5; have HR5 := Lib.hid hr5; have HC5 := Lib.hid hc5; clear hr5 hc5))
  simp only [Act.put]
  clear hx10 hx11 hx12
  have hz4 : w3.heap.size ≤ w4.heap.size := HC4.out.size
  have B5 := Lib.hid (((B3.out.no HC4.out).alloc (.cells (two 0 0).toArray 37)).is HC5.out hz4)
  have hx10 : w5.cell? ⟨w.heap.size, 10, none⟩ = some (.int .i64 k) := by rw [B5.out.case_.cell]; exact HCC.out.kind
  have hx11 : w5.cell? ⟨w.heap.size, 11, none⟩ = some (.int .i64 p) := by rw [B5.out.case_.cell]; exact HCC.out.proc
  have hx12 : w5.cell? ⟨w.heap.size, 12, none⟩ = some (.bool busy) := by rw [B5.out.case_.cell]; exact HCC.out.busy
  clear HA3 HV3 HR3 HL3 HCW3 HC4 HC5 B3
  clear hg2 hgi2 hgc2
  generalize w3.heap.size = z at *
  generalize hb8 : w4.heap.size = b8 at *
  clear hb8 w4 w3
  go_upto_region 4 with (first | ((with_reducible refine at_op (o := ⟨some 29, .load 34 (.tmp 7), _, _, _, _⟩) ?_); refine pl_load rfl 34 (.tmp 7) rfl b3 rfl 34 _ B5.out.part_ _ Tryd.underlying34 rfl size34' ?_) | (go_at_call 9; refine (HK.out w5).mono ?_; rintro e w6 ⟨rfl, hch⟩; have HC6 := Lib.hid hch; clear hch) | ((with_reducible refine at_op (o := ⟨none, .store 44 (.tmp 9) (.tmp 36), _, _, _, _⟩) ?_); refine pl_store rfl 44 (.tmp 9) (.tmp 36) rfl w6.heap.size rfl 44 (two 0 0) (two A P) rfl (Row.new w6 44 (two 0 0)) size44 rfl (two_one _ _) ?_; intro w7 hr7 hc7; have HR7 := Lib.hid hr7; have HC7 := Lib.hid hc7; clear hr7 hc7))
  simp only [Act.put]
  have h8lt : b8 < w5.heap.size := HR5.out.lt
  have hz6 : w5.heap.size ≤ w6.heap.size := HC6.out.size
  have B7 := Lib.hid (((B5.out.no HC6.out).alloc (.cells (two 0 0).toArray 44)).is HC7.out (by omega))
  have HQ7 := Lib.hid (((HR5.out.keepNo HC6.out).alloc (.cells (two 0 0).toArray 44)).keepIs HC7.out (by omega))
  clear HC6 HC7 B5 HR5 hx10 hx11 hx12
  have h89 : b8 < w6.heap.size := by omega
  have hz9 : z ≤ w6.heap.size := by omega
  generalize hb9 : w6.heap.size = b9 at *
  clear hb9 h8lt hz6
  clear w6 w5
  have hx10 : w7.cell? ⟨w.heap.size, 10, none⟩ = some (.int .i64 k) := by rw [B7.out.case_.cell]; exact HCC.out.kind
  have hx11 : w7.cell? ⟨w.heap.size, 11, none⟩ = some (.int .i64 p) := by rw [B7.out.case_.cell]; exact HCC.out.proc
  have hx12 : w7.cell? ⟨w.heap.size, 12, none⟩ = some (.bool busy) := by rw [B7.out.case_.cell]; exact HCC.out.busy
  have a0 : w7.cell? ⟨b8, 0, none⟩ = some (.int .i64 A) := HQ7.out.cell 0
  have a1 : w7.cell? ⟨b8, 1, none⟩ = some (.int .i64 P) := HQ7.out.cell 1
  have r0 : w7.cell? ⟨b9, 0, none⟩ = some (.int .i64 A) := HR7.out.cell 0
  have r1 : w7.cell? ⟨b9, 1, none⟩ = some (.int .i64 P) := HR7.out.cell 1
  go_upto_region 6 with (first | ((with_reducible refine at_op (o := ⟨some 50, .load 34 (.tmp 7), _, _, _, _⟩) ?_); refine wpList_load_agg rfl 34 (.tmp 7) rfl b3 rfl 34 _ B7.out.part_ _ Tryd.underlying34 rfl size34' ?_) | (go_at_call 10; refine (HIN.out w7 B7.out.lists).mono ?_; rintro e w8 ⟨rfl, hch⟩; have HC8 := Lib.hid hch; clear hch))
  have B8 := Lib.hid (B7.out.no HC8.out)
  have HQ8 := Lib.hid (HQ7.out.keepNo HC8.out)
  have HS8 := Lib.hid (HR7.out.keepNo HC8.out)
  clear B7 HQ7 HR7 HC8 hx10 hx11 hx12 a0 a1 r0 r1
  clear w7
  go_upto_region 7 with (first | ((with_reducible refine at_op (o := ⟨some 54, .load 34 (.tmp 7), _, _, _, _⟩) ?_); refine pl_load rfl 34 (.tmp 7) rfl b3 rfl 34 _ B8.out.part_ _ Tryd.underlying34 rfl size34' ?_) | ((with_reducible refine at_op (o := ⟨none, .store 34 (.tmp 10) (.tmp 54), _, _, _, _⟩) ?_); refine pl_store rfl 34 (.tmp 10) (.tmp 54) rfl w8.heap.size rfl 34 (pcells (.slice none 0 0) (.slice none 0 0) (.slice none 0 0) 0 (fun _ => 0)) pc rfl (Row.new w8 34 (pcells (.slice none 0 0) (.slice none 0 0) (.slice none 0 0) 0 (fun _ => 0))) size34' (by rw [HPO.out.len]; rfl) HPO.out.one ?_; intro w9 hr9 hc9; have HR9 := Lib.hid hr9; have HC9 := Lib.hid hc9; clear hr9 hc9))
  simp only [Act.put]
  have h8lt : b8 < w8.heap.size := HQ8.out.lt
  have h9lt : b9 < w8.heap.size := HS8.out.lt
  have hz10 : z ≤ w8.heap.size := by omega
  have B9 := Lib.hid ((B8.out.alloc (.cells (pcells (.slice none 0 0) (.slice none 0 0) (.slice none 0 0) 0 (fun _ => 0)).toArray 34)).is HC9.out hz10)
  have HQ9 := Lib.hid ((HQ8.out.alloc (.cells (pcells (.slice none 0 0) (.slice none 0 0) (.slice none 0 0) 0 (fun _ => 0)).toArray 34)).keepIs HC9.out (by omega))
  have HS9 := Lib.hid ((HS8.out.alloc (.cells (pcells (.slice none 0 0) (.slice none 0 0) (.slice none 0 0) 0 (fun _ => 0)).toArray 34)).keepIs HC9.out (by omega))
  clear B8 HQ8 HS8 HC9
  generalize hb10 : w8.heap.size = b10 at *
  clear hb10
  clear w8
  have e3 : w9.cell? ⟨b3, 8, none⟩ = some (.slice (some ⟨g, 0, none⟩) n cap) := by rw [B9.out.part_.cell]; exact HPO.out.procs
  have e10 : w9.cell? ⟨b10, 8, none⟩ = some (.slice (some ⟨g, 0, none⟩) n cap) := by rw [HR9.out.cell]; exact HPO.out.procs
  have z10 : w9.frozen? ⟨b10, 8, none⟩ = false := HR9.out.frozen 8
  have hdiv : (n : Int).tdiv 2 = ((n / 2 : Nat) : Int) := by rw [Int.tdiv_eq_ediv_of_nonneg (by omega)]; rfl
  have hd2 : n / 2 ≤ n := by omega
  generalize n / 2 = m2 at *
  have hm2 : (m2 : Int) ≤ (cap : Int) := by omega
  go_upto_region 8 with (fail)
  change Code.wp _ _ _ _ (w9.setCell ⟨b10, 8, none⟩ (.slice (some ⟨g, 0, none⟩) m2 cap))
  have hch9 : Ch (Is b10) w9 (w9.setCell ⟨b10, 8, none⟩ (.slice (some ⟨g, 0, none⟩) m2 cap)) := (Ch.refl _ _).setCell (fun _ => is_self b10) _
  have BA := Lib.hid (B9.out.is hch9 hz10)
  have HQA := Lib.hid (HQ9.out.keepIs hch9 (by omega))
  have HSA := Lib.hid (HS9.out.keepIs hch9 (by omega))
  have HTA : Hid (Row (w9.setCell ⟨b10, 8, none⟩ (.slice (some ⟨g, 0, none⟩) m2 cap)) b10 34 pc2) := by show Row _ _ _ _; rw [← HST.out]; exact HR9.out.set_ 8 _
  clear hch9 B9 HQ9 HS9 HR9 e3 e10 z10 HST
  generalize w9.setCell ⟨b10, 8, none⟩ (.slice (some ⟨g, 0, none⟩) m2 cap) = wA at *
  clear w9
  have hx10 : wA.cell? ⟨w.heap.size, 10, none⟩ = some (.int .i64 k) := by rw [BA.out.case_.cell]; exact HCC.out.kind
  have hx11 : wA.cell? ⟨w.heap.size, 11, none⟩ = some (.int .i64 p) := by rw [BA.out.case_.cell]; exact HCC.out.proc
  have hx12 : wA.cell? ⟨w.heap.size, 12, none⟩ = some (.bool busy) := by rw [BA.out.case_.cell]; exact HCC.out.busy
  go_upto_region 9 with (first | ((with_reducible refine at_op (o := ⟨some 63, .load 34 (.tmp 10), _, _, _, _⟩) ?_); refine pl_load rfl 34 (.tmp 10) rfl b10 rfl 34 _ HTA.out _ Tryd.underlying34 rfl size34'' ?_) | (go_at_call 6; refine (HJ2.out wA BA.out.ch).mono ?_; rintro e wB ⟨rfl, hch⟩; have HCB := Lib.hid hch; clear hch) | ((with_reducible refine at_op (o := ⟨none, .store 37 (.tmp 8) (.tmp 70), _, _, _, _⟩) ?_); refine pl_store rfl 37 (.tmp 8) (.tmp 70) rfl b8 rfl 37 (two A P) (two A2 P2) rfl (HQA.out.keepNo HCB.out) size37 rfl (two_one _ _) ?_; intro wC hrC hcC; have HQC := Lib.hid hrC; have HCC2 := Lib.hid hcC; clear hrC hcC))
  simp only [Act.put]
  have BC := Lib.hid ((BA.out.no HCB.out).is HCC2.out hz4)
  have HSC := Lib.hid ((HSA.out.keepNo HCB.out).keepIs HCC2.out (by omega))
  have HTC := Lib.hid ((HTA.out.keepNo HCB.out).keepIs HCC2.out (by omega))
  clear BA HQA HSA HTA HCB HCC2 hx10 hx11 hx12
  clear wB wA
  have hx10 : wC.cell? ⟨w.heap.size, 10, none⟩ = some (.int .i64 k) := by rw [BC.out.case_.cell]; exact HCC.out.kind
  have hx11 : wC.cell? ⟨w.heap.size, 11, none⟩ = some (.int .i64 p) := by rw [BC.out.case_.cell]; exact HCC.out.proc
  have hx12 : wC.cell? ⟨w.heap.size, 12, none⟩ = some (.bool busy) := by rw [BC.out.case_.cell]; exact HCC.out.busy
  go_upto_region 10 with (first | ((with_reducible refine at_op (o := ⟨some 71, .load 34 (.tmp 10), _, _, _, _⟩) ?_); refine pl_load rfl 34 (.tmp 10) rfl b10 rfl 34 _ HTC.out _ Tryd.underlying34 rfl size34'' ?_) | (go_at_call 9; refine (HK2.out wC).mono ?_; rintro e wD ⟨rfl, hch⟩; have HCD := Lib.hid hch; clear hch) | ((with_reducible refine at_op (o := ⟨none, .store 44 (.tmp 9) (.tmp 78), _, _, _, _⟩) ?_); refine pl_store rfl 44 (.tmp 9) (.tmp 78) rfl b9 rfl 44 (two A P) (two A2 P2) rfl (HSC.out.keepNo HCD.out) size44 rfl (two_one _ _) ?_; intro wE hrE hcE; have HSE := Lib.hid hrE; have HCE := Lib.hid hcE; clear hrE hcE))
  simp only [Act.put]
  have BE := Lib.hid ((BC.out.no HCD.out).is HCE.out hz9)
  have HQE := Lib.hid ((HQC.out.keepNo HCD.out).keepIs HCE.out (by omega))
  clear BC HQC HSC HTC HCD HCE hx10 hx11 hx12
  clear wD wC
  have a0 : wE.cell? ⟨b8, 0, none⟩ = some (.int .i64 A2) := HQE.out.cell 0
  have a1 : wE.cell? ⟨b8, 1, none⟩ = some (.int .i64 P2) := HQE.out.cell 1
  have r0 : wE.cell? ⟨b9, 0, none⟩ = some (.int .i64 A2) := HSE.out.cell 0
  have r1 : wE.cell? ⟨b9, 1, none⟩ = some (.int .i64 P2) := HSE.out.cell 1
  go_upto_region 12 with (first | ((with_reducible refine at_op (o := ⟨some 92, .load 34 (.tmp 7), _, _, _, _⟩) ?_); refine wpList_load_agg rfl 34 (.tmp 7) rfl b3 rfl 34 _ BE.out.part_ _ Tryd.underlying34 rfl size34' ?_) | (go_at_call 10; refine (HIN.out wE BE.out.lists).mono ?_; rintro e wF ⟨rfl, hch⟩; have HCF := Lib.hid hch; clear hch))
  have BF := Lib.hid (BE.out.no HCF.out)
  clear BE HQE HSE HCF a0 a1 r0 r1 HJ HJ2 HK HK2 HIN HPO HPO2
  clear wE
  obtain ⟨G, E, HGO, HGR⟩ : ∃ G E : Bool, Hid (∀ w', Calls Tryd.prog 8 #[.agg (two va vp).toArray, .int .i64 p] w' fun e w'' => e = .returned (.tuple #[.bool G, .bool E]) ∧ Ch No w' w'') ∧ Hid (∀ w', Calls Tryd.prog 11 #[.agg (two va vp).toArray, .int .i64 p] w' fun e w'' => e = .returned (.tuple #[.bool G, .bool E]) ∧ Ch No w' w'') := by
    by_cases hva : 0 ≤ va ∧ va ≤ 5
    · exact ⟨_, _, fun w' => goes_ok va vp p w' hva.1 hva.2, fun w' => rgoes_ok va vp p w' hva.1 hva.2⟩
    · exact ⟨_, _, fun w' => goes_bad va vp p w' (by omega), fun w' => rgoes_bad va vp p w' (by omega)⟩
  obtain ⟨S, B, HNA, HNR⟩ : ∃ (S : ByteArray) (B : Bool), Hid (∀ w', Glob w' → Calls Tryd.prog 12 #[.int .i64 k] w' fun e w'' => e = .returned (.tuple #[.string S, .bool B]) ∧ w' = w'') ∧ Hid (∀ w', Calls Tryd.prog 13 #[.int .i64 k] w' fun e w'' => e = .returned (.tuple #[.string S, .bool B]) ∧ w' = w'') := by
    by_cases hkk : k < 1 ∨ 7 < k
    · exact ⟨_, _, fun w' _ => name_no k hkk w', fun w' => rname_no k hkk w'⟩
    · exact ⟨_, _, fun w' hg => name_yes k (by omega) w' hg, fun w' => rname_yes k (by omega) w'⟩
  have hx11 : wF.cell? ⟨w.heap.size, 11, none⟩ = some (.int .i64 p) := by rw [BF.out.case_.cell]; exact HCC.out.proc
  go_upto_region 13 with (first | ((with_reducible refine at_op (o := ⟨some 97, .load 37 (.tmp 4), _, _, _, _⟩) ?_); refine pl_load rfl 37 (.tmp 4) rfl (w.heap.size + 1) rfl 37 _ BF.out.verd _ Tryd.underlying37 rfl size37 ?_) | (go_at_call 8; refine (HGO.out wF).mono ?_; rintro e wG ⟨rfl, hch⟩; have HCG := Lib.hid hch; clear hch))
  have BG := Lib.hid (BF.out.no HCG.out)
  clear BF HCG hx11
  clear wF
  have hx11 : wG.cell? ⟨w.heap.size, 11, none⟩ = some (.int .i64 p) := by rw [BG.out.case_.cell]; exact HCC.out.proc
  have hv0 : wG.cell? ⟨w.heap.size + 1, 0, none⟩ = some (.int .i64 va) := BG.out.verd.cell 0
  have hv1 : wG.cell? ⟨w.heap.size + 1, 1, none⟩ = some (.int .i64 vp) := BG.out.verd.cell 1
  go_upto_region 14 with (go_at_call 11; refine (HGR.out wG).mono ?_; rintro e wH ⟨rfl, hch⟩; have HCH := Lib.hid hch; clear hch)
  have BH := Lib.hid (BG.out.no HCH.out)
  clear BG HCH hx11 hv0 hv1
  clear wG
  have hx10 : wH.cell? ⟨w.heap.size, 10, none⟩ = some (.int .i64 k) := by rw [BH.out.case_.cell]; exact HCC.out.kind
  go_upto_region 18 with (first | (go_at_call 12; refine (HNA.out wH (HG.out.keep BH.out.ch)).mono ?_; rintro e wI ⟨rfl, rfl⟩) | (go_at_call 13; refine (HNR.out _).mono ?_; rintro e wI ⟨rfl, rfl⟩))
  clear hx10
  have HRT : Hid (∀ w', Bun w cc pc va vp b3 g gi gc n rest z w' → w'.rangeAt w.heap.size 2 (tab8 T)) := fun w' hb => row_range hb.case_ 2 (tab8 T) (fun j v hj => by
    have hlt : j < 8 := (List.getElem?_eq_some_iff.1 hj).1
    rw [HCC.out.tab j hlt, ← hj, tab8_get T j hlt])
  have size22 : (Tryd.prog.info? 22).map (·.size) = some (tab8 T).length := by kernel_rfl
  refine wp_region_quiet_tail 22 (by kernel_rfl) (by kernel_rfl) (fun w' => Bun w cc pc va vp b3 g gi gc n rest z w') (BH.out.no ((Ch.refl No _).drew)) ?_
  simp only [List.take_succ_cons, List.take_zero, List.drop_succ_cons, List.drop_zero]
  refine wpQuiet_value (by rfl) (.pointer (some ⟨w.heap.size, 2, none⟩)) (fun _ => by kernel_rfl) ?_
  simp only [Act.put, List.setIfInBounds_toArray, List.set_cons_zero, List.set_cons_succ]
  refine wpQuiet_read (by rfl) (.agg (tab8 T).toArray) (fun w' hw' => exec_load_mid 22 (.tmp 144) rfl w.heap.size 2 rfl (tab8 T) _ (HRT.out w' hw') Tryd.underlying22 rfl size22) ?_
  simp only [Act.put, List.setIfInBounds_toArray, List.set_cons_zero, List.set_cons_succ]
  refine wpQuiet_call (by rfl) (.bool (okT T)) 14 #[.agg (tab8 T).toArray] (fun _ => by kernel_rfl) (fun w' hw' => (valid_calls T w').mono fun e w'' h => ⟨h.1, hw'.no h.2⟩) ?_
  simp only [Act.put, List.setIfInBounds_toArray, List.set_cons_zero, List.set_cons_succ]
  refine wpQuiet_value (by rfl) (.pointer (some ⟨w.heap.size, 2, none⟩)) (fun _ => by kernel_rfl) ?_
  simp only [Act.put, List.setIfInBounds_toArray, List.set_cons_zero, List.set_cons_succ]
  refine wpQuiet_read (by rfl) (.agg (tab8 T).toArray) (fun w' hw' => exec_load_mid 22 (.tmp 147) rfl w.heap.size 2 rfl (tab8 T) _ (HRT.out w' hw') Tryd.underlying22 rfl size22) ?_
  simp only [Act.put, List.setIfInBounds_toArray, List.set_cons_zero, List.set_cons_succ]
  refine wpQuiet_call (by rfl) (.bool (okT T)) 15 #[.agg (tab8 T).toArray] (fun _ => by kernel_rfl) (fun w' hw' => (rvalid_calls T w').mono fun e w'' h => ⟨h.1, hw'.no h.2⟩) ?_
  simp only [Act.put, List.setIfInBounds_toArray, List.set_cons_zero, List.set_cons_succ]
  refine wpQuiet_value (by rfl) (.bool true) (fun w' => eq4 (.tmp 146) (.tmp 149) (okT T) rfl rfl rfl) ?_
  simp only [Act.put, List.setIfInBounds_toArray, List.set_cons_zero, List.set_cons_succ]
  refine wpQuiet_value (by rfl) (.bool true) (fun _ => rfl) ?_
  simp only [Act.put, List.setIfInBounds_toArray, List.set_cons_zero, List.set_cons_succ]
  refine wpQuiet_value (by rfl) (.pointer (some ⟨w.heap.size, 10, none⟩)) (fun _ => by kernel_rfl) ?_
  simp only [Act.put, List.setIfInBounds_toArray, List.set_cons_zero, List.set_cons_succ]
  refine wpQuiet_read (by rfl) (.int .i64 k) (fun w' hw' => exec_load_cell 3 (.tmp 152) rfl ⟨w.heap.size, 10, none⟩ rfl _ Tryd.underlying3 rfl _ ((hw'.case_.cell 10).trans HCC.out.kind)) ?_
  simp only [Act.put, List.setIfInBounds_toArray, List.set_cons_zero, List.set_cons_succ]
  refine wpQuiet_value (by rfl) (.pointer (some ⟨w.heap.size, 11, none⟩)) (fun _ => by kernel_rfl) ?_
  simp only [Act.put, List.setIfInBounds_toArray, List.set_cons_zero, List.set_cons_succ]
  refine wpQuiet_read (by rfl) (.int .i64 p) (fun w' hw' => exec_load_cell 3 (.tmp 154) rfl ⟨w.heap.size, 11, none⟩ rfl _ Tryd.underlying3 rfl _ ((hw'.case_.cell 11).trans HCC.out.proc)) ?_
  simp only [Act.put, List.setIfInBounds_toArray, List.set_cons_zero, List.set_cons_succ]
  refine wpQuiet_value (by rfl) (.int .i64 pcn) (fun _ => rfl) ?_
  simp only [Act.put, List.setIfInBounds_toArray, List.set_cons_zero, List.set_cons_succ]
  refine wpQuiet_call (by rfl) (.agg #[.int .i64 k, .int .i64 p, .int .i64 (if k = 7 then -1 else pcn)]) 7 #[.int .i64 k, .int .i64 p, .int .i64 pcn] (fun _ => by kernel_rfl) (fun w' hw' => (args_calls k p pcn w').mono fun e w'' h => ⟨h.1, hw'.no h.2⟩) ?_
  simp only [Act.put, List.setIfInBounds_toArray, List.set_cons_zero, List.set_cons_succ]
  refine wpQuiet_value (by rfl) (.pointer (some ⟨w.heap.size, 10, none⟩)) (fun _ => by kernel_rfl) ?_
  simp only [Act.put, List.setIfInBounds_toArray, List.set_cons_zero, List.set_cons_succ]
  refine wpQuiet_read (by rfl) (.int .i64 k) (fun w' hw' => exec_load_cell 3 (.tmp 158) rfl ⟨w.heap.size, 10, none⟩ rfl _ Tryd.underlying3 rfl _ ((hw'.case_.cell 10).trans HCC.out.kind)) ?_
  simp only [Act.put, List.setIfInBounds_toArray, List.set_cons_zero, List.set_cons_succ]
  refine wpQuiet_value (by rfl) (.pointer (some ⟨w.heap.size, 11, none⟩)) (fun _ => by kernel_rfl) ?_
  simp only [Act.put, List.setIfInBounds_toArray, List.set_cons_zero, List.set_cons_succ]
  refine wpQuiet_read (by rfl) (.int .i64 p) (fun w' hw' => exec_load_cell 3 (.tmp 160) rfl ⟨w.heap.size, 11, none⟩ rfl _ Tryd.underlying3 rfl _ ((hw'.case_.cell 11).trans HCC.out.proc)) ?_
  simp only [Act.put, List.setIfInBounds_toArray, List.set_cons_zero, List.set_cons_succ]
  refine wpQuiet_value (by rfl) (.int .i64 pcn) (fun _ => rfl) ?_
  simp only [Act.put, List.setIfInBounds_toArray, List.set_cons_zero, List.set_cons_succ]
  refine wpQuiet_call (by rfl) (.agg #[.int .i64 k, .int .i64 p, .int .i64 (if k = 7 then -1 else pcn)]) 16 #[.int .i64 k, .int .i64 p, .int .i64 pcn] (fun _ => by kernel_rfl) (fun w' hw' => (rargs_calls k p pcn w').mono fun e w'' h => ⟨h.1, hw'.no h.2⟩) ?_
  simp only [Act.put, List.setIfInBounds_toArray, List.set_cons_zero, List.set_cons_succ]
  refine wpQuiet_value (by rfl) (.bool true) (fun w' => eq39 (.tmp 157) (.tmp 163) k p (if k = 7 then -1 else pcn) rfl rfl rfl) ?_
  simp only [Act.put, List.setIfInBounds_toArray, List.set_cons_zero, List.set_cons_succ]
  refine wpQuiet_value (by rfl) (.bool true) (fun _ => rfl) ?_
  simp only [Act.put, List.setIfInBounds_toArray, List.set_cons_zero, List.set_cons_succ]
  refine wpQuiet_nil ?_
  intro w6 hw6
  have HW6 := Lib.hid hw6
  clear hw6
  refine pl_value rfl (.bool true) rfl ?_
  simp only [Act.put, List.setIfInBounds_toArray, List.set_cons_zero, List.set_cons_succ]
  go_wp2
  all_goals exact bodyPost_ret (v := .bool true) (by kernel_rfl) rfl ⟨rfl, HW6.out.ch⟩
end Go.Proofs.YtdgaelbehnlegaaDoor
