/- HealthKeeps: the walk. -/
import Derived.Test.YtdgaelbehnlegaaDoorH5
import Derived.Deep.DeepCutAuto
set_option linter.unusedVariables false
set_option linter.unusedSimpArgs false
namespace Go.Proofs.YtdgaelbehnlegaaDoor
open Go.RowKit

theorem eq3 {a : Act} {o : Oper} {w : World} (x y : Operand) (ho : o.op = .binOp .eql 39 x y 39) (hx : a.eval x = .agg #[.int .i64 1, .int .i64 2, .int .i64 3]) (hy : a.eval y = .agg #[.int .i64 1, .int .i64 2, .int .i64 3]) :
    (execOp a.eval o).run Tryd.prog w = .ok (.value (.bool true)) w := by
  unfold execOp
  simp only [ho, hx, hy]
  kernel_rfl
theorem gd_value {P : Program} {ops : Array Oper} {rest : List Oper} {o : Oper} {a : Act} {Q : Exit → Act → World → Prop} {w : World} (hw : Region.wanted o (yielded ops a.tmps) = true) (v : Value)
    (hv : (execOp a.eval o).run P w = .ok (.value v) w) (h : wpList P ops Q rest (a.put o.dst v) w) : wpList P ops Q (o :: rest) a w :=
  wpList_want hw fun K hK => by
    unfold Oper.wp
    rw [hv]
    exact hK _ _ h

set_option maxRecDepth 100000 in
set_option maxHeartbeats 4000000 in
theorem keeps_calls (cc : List Value) (pr hq : Int) (T : Nat → Int) (k p : Int) (busy : Bool) (w : World) (hc : CaseOf cc pr hq T k p busy) (hg : Glob w) :
    Calls Tryd.prog 3 #[.agg cc.toArray] w fun e w' => e = .returned (.bool true) ∧ Ch No w w' := by
  have hm : procN pr ≤ 40 := procN_le pr
  have HCC := Lib.hid hc
  have HG := Lib.hid hg
  have HR1 := Lib.hid (Row.new w 24 cc)
  have size24' : (Tryd.prog.info? 24).map (·.size) = some cc.length := by rw [hc.len]; exact size24
  clear hc hg
  go_enter Tryd.func3, Tryd.ntmps3
  go_upto_region 2 with (first | ((with_reducible refine at_op (o := ⟨some 10, .load 24 (.tmp 1), _, _, _, _⟩) ?_); refine pl_load rfl 24 (.tmp 1) rfl w.heap.size rfl 24 _ HR1.out _ Tryd.underlying24 rfl size24' ?_) | (go_at_call 5; refine (part_calls cc pr hq T k p busy _ HCC.out).mono ?_; rintro e w2 ⟨g, gi, gc, cap, rest, rfl, hr, hcap1, hcap2, hi, hcd, hch⟩; have HRG := Lib.hid hr; have HC2 := Lib.hid (((Ch.refl No w).alloc _).then_ hch); have HB2 := Lib.hid (HR1.out.keepNo hch); have HCAP := Lib.hid (And.intro hcap1 hcap2); clear hr hi hcd hch hcap1 hcap2) | ((with_reducible refine at_op (o := ⟨none, .store 34 (.tmp 3) (.tmp 11), _, _, _, _⟩) ?_); refine pl_store rfl 34 (.tmp 3) (.tmp 11) rfl w2.heap.size rfl 34 (pcells (.slice none 0 0) (.slice none 0 0) (.slice none 0 0) 0 (fun _ => 0)) (pcells (.slice (some ⟨gi, 0, none⟩) 2 3) (.slice (some ⟨gc, 0, none⟩) 2 3) (.slice (some ⟨g, 0, none⟩) (procN pr) cap) hq T) rfl (Row.new w2 34 (pcells (.slice none 0 0) (.slice none 0 0) (.slice none 0 0) 0 (fun _ => 0))) size34 rfl (pcells_of g gi gc cap (procN pr) hq T).one ?_; intro w3 hr3 hc3; have HR3 := Lib.hid hr3; have HC3 := Lib.hid hc3; clear hr3 hc3))
  have hw2 : w.heap.size < w2.heap.size := HB2.out.lt
  have HB3 := Lib.hid ((HB2.out.alloc (.cells (pcells (.slice none 0 0) (.slice none 0 0) (.slice none 0 0) 0 (fun _ => 0)).toArray 34)).keepIs HC3.out (by omega))
  have HCW3 : Hid (Ch No w w3) := ch_newg (HC2.out.alloc _) HC3.out (by omega)
  have HPO := Lib.hid (pcells_of g gi gc cap (procN pr) hq T)
  have size34' : (Tryd.prog.info? 34).map (·.size) = some (pcells (.slice (some ⟨gi, 0, none⟩) 2 3) (.slice (some ⟨gc, 0, none⟩) 2 3) (.slice (some ⟨g, 0, none⟩) (procN pr) cap) hq T).length := size34
  clear HR1 HC2 HB2 HRG HC3
  generalize w2.heap.size = b3 at *
  clear w2
  generalize pcells (.slice (some ⟨gi, 0, none⟩) 2 3) (.slice (some ⟨gc, 0, none⟩) 2 3) (.slice (some ⟨g, 0, none⟩) (procN pr) cap) hq T = pc at *
  have c10 : w3.cell? ⟨w.heap.size, 10, none⟩ = some (.int .i64 k) := by rw [HB3.out.cell]; exact HCC.out.kind
  have c11 : w3.cell? ⟨w.heap.size, 11, none⟩ = some (.int .i64 p) := by rw [HB3.out.cell]; exact HCC.out.proc
  have c12 : w3.cell? ⟨w.heap.size, 12, none⟩ = some (.bool busy) := by rw [HB3.out.cell]; exact HCC.out.busy
  go_upto_region 3 with (first | ((with_reducible refine at_op (o := ⟨some 12, .load 34 (.tmp 3), _, _, _, _⟩) ?_); refine pl_load rfl 34 (.tmp 3) rfl b3 rfl 34 _ HR3.out _ Tryd.underlying34 rfl size34' ?_) | (go_at_call 6; refine (judge_all k p busy pc _ (procN pr) cap hq T w3 (by omega) HPO.out (HG.out.keep HCW3.out)).mono ?_; rintro e w4 ⟨rfl, hch⟩; have HC4 := Lib.hid hch; clear hch) | ((with_reducible refine at_op (o := ⟨none, .store 37 (.tmp 4) (.tmp 19), _, _, _, _⟩) ?_); refine pl_store rfl 37 (.tmp 4) (.tmp 19) rfl w4.heap.size rfl 37 (two 0 0) (two (judA k p (procN pr) busy hq (T k.toNat)) (judP k p (procN pr) busy hq (T k.toNat))) rfl (Row.new w4 37 (two 0 0)) size37 rfl (two_one _ _) ?_; intro w5 hr5 hc5; have HR5 := Lib.hid hr5; have HC5 := Lib.hid hc5; clear hr5 hc5))
  have hw4 : w3.heap.size ≤ w4.heap.size := HC4.out.size
  have hb3 : b3 < w3.heap.size := HR3.out.lt
  have hb0 : w.heap.size < w3.heap.size := HB3.out.lt
  have HA5 := Lib.hid (((HB3.out.keepNo HC4.out).alloc (.cells (two 0 0).toArray 37)).keepIs HC5.out (by omega))
  have HP5 := Lib.hid (((HR3.out.keepNo HC4.out).alloc (.cells (two 0 0).toArray 37)).keepIs HC5.out (by omega))
  have HCW5 : Hid (Ch No w w5) := ch_newg ((HCW3.out.then_ HC4.out).alloc _) HC5.out (by omega)
  clear c10 c11 c12 HB3 HR3 HCW3 HC4 HC5 hb3 hb0 hw2 size34' size24'
  generalize w4.heap.size = b4 at *
  clear hw4 w4 w3
  have HVD : Hid (¬ (k < 1 ∨ 7 < k ∨ p < 1 ∨ (procN pr : Int) < p) → Verd (judA k p (procN pr) busy hq (T k.toNat)) (judP k p (procN pr) busy hq (T k.toNat)) k p hq (procN pr) busy (T k.toNat)) := fun hb => verd_jud k p hq (procN pr) busy (T k.toNat) hb
  have HVB : Hid ((k < 1 ∨ 7 < k ∨ p < 1 ∨ (procN pr : Int) < p) → judA k p (procN pr) busy hq (T k.toNat) = 0 ∧ judP k p (procN pr) busy hq (T k.toNat) = 0) := fun hb => ⟨by rw [judA, if_pos hb], by rw [judP, if_pos hb]⟩
  generalize judA k p (procN pr) busy hq (T k.toNat) = A at *
  generalize judP k p (procN pr) busy hq (T k.toNat) = P at *
  generalize procN pr = n at *
  have c1 : w5.cell? ⟨w.heap.size, 1, none⟩ = some (.int .i64 hq) := by rw [HA5.out.cell]; exact HCC.out.hand
  have c10 : w5.cell? ⟨w.heap.size, 10, none⟩ = some (.int .i64 k) := by rw [HA5.out.cell]; exact HCC.out.kind
  have c11 : w5.cell? ⟨w.heap.size, 11, none⟩ = some (.int .i64 p) := by rw [HA5.out.cell]; exact HCC.out.proc
  have c12 : w5.cell? ⟨w.heap.size, 12, none⟩ = some (.bool busy) := by rw [HA5.out.cell]; exact HCC.out.busy
  have p8 : w5.cell? ⟨b3, 8, none⟩ = some (.slice (some ⟨g, 0, none⟩) n cap) := by rw [HP5.out.cell]; exact HPO.out.procs
  have v0 : w5.cell? ⟨b4, 0, none⟩ = some (.int .i64 A) := HR5.out.cell 0
  have v1 : w5.cell? ⟨b4, 1, none⟩ = some (.int .i64 P) := HR5.out.cell 1
  have hmc : n ≤ cap := by have := HCAP.out; omega
  have HR6 : Hid (Row w5 b4 37 [.int .i64 A, .int .i64 P]) := HR5.out
  clear HPO HCAP HR5
  simp only [Act.put]
  go_cut [40] from 20 to 39 (fun v wx => v = .bool (decide (k < 1 ∨ 7 < k ∨ p < 1 ∨ (n : Int) < p)) ∧ w5 = wx)
  case first =>
    by_cases h1 : k < 1
    · have d1 : decide (k < 1) = true := by simpa using h1
      go_wp2_with (fail)
      go_meet
      case rel => exact ⟨congrArg Value.bool (by simp [h1]), rfl⟩
    have d1 : decide (k < 1) = false := by simpa using h1
    by_cases h2 : 7 < k
    · have d2 : decide (7 < k) = true := by simpa using h2
      go_wp2_with (fail)
      go_meet
      case rel => exact ⟨congrArg Value.bool (by simp [h2]), rfl⟩
    have d2 : decide (7 < k) = false := by simpa using h2
    by_cases h3 : p < 1
    · have d3 : decide (p < 1) = true := by simpa using h3
      go_wp2_with (fail)
      go_meet
      case rel => exact ⟨congrArg Value.bool (by simp [h3]), rfl⟩
    have d3 : decide (p < 1) = false := by simpa using h3
    by_cases h4 : (n : Int) < p
    · have d4 : decide ((n : Int) < p) = true := by simpa using h4
      go_wp2_with (fail)
      go_meet
      case rel => exact ⟨congrArg Value.bool (by simp [h4]), rfl⟩
    · have d4 : decide ((n : Int) < p) = false := by simpa using h4
      go_wp2_with (fail)
      go_meet
      case rel => exact ⟨congrArg Value.bool (by simp [h1, h2, h3, h4]), rfl⟩
  case rest =>
  obtain ⟨hv, hw⟩ := hcut
  subst hv hw
  by_cases hb : k < 1 ∨ 7 < k ∨ p < 1 ∨ (n : Int) < p
  · have db : decide (k < 1 ∨ 7 < k ∨ p < 1 ∨ (n : Int) < p) = true := by simpa using hb
    obtain ⟨eA, eP⟩ := HVB.out hb
    subst eA eP
    clear HVD HVB hb
    rw [db]
    go_wp2_with (first | ((with_reducible refine at_op (o := ⟨some 41, .load 37 (.tmp 4), _, _, _, _⟩) ?_); refine pl_load rfl 37 (.tmp 4) rfl b4 rfl 37 [.int .i64 0, .int .i64 0] HR6.out _ Tryd.underlying37 rfl size37 ?_) | (go_at_call 7; refine (args_calls 1 2 3 w5).mono ?_; rintro e w6 ⟨rfl, hch⟩; have HC6 := Lib.hid hch; clear hch) | ((with_reducible refine at_op (o := ⟨some 47, .binOp .eql 39 (.tmp 45) (.tmp 46) 39, _, _, _, _⟩) ?_); refine gd_value rfl (.bool true) (eq3 (.tmp 45) (.tmp 46) rfl rfl rfl) ?_))
    exact bodyPost_ret (v := .bool true) (by kernel_rfl) rfl ⟨rfl, HCW5.out.then_ HC6.out⟩
  · have db : decide (k < 1 ∨ 7 < k ∨ p < 1 ∨ (n : Int) < p) = false := by simpa using hb
    have HV := Lib.hid (HVD.out hb)
    clear HVD HVB hb
    rw [db]
    have hgl : Glob w5 := HG.out.keep HCW5.out
    clear db
    obtain ⟨kk, rfl⟩ : ∃ kk : Nat, k = (kk : Int) := ⟨k.toNat, by have := HV.out.k1; omega⟩
    have hk1 : 1 ≤ kk := by have := HV.out.k1; omega
    have hk7 : kk ≤ 7 := by have := HV.out.k7; omega
    obtain ⟨HS, hHS⟩ : ∃ b : Bool, b = decide (1 ≤ hq ∧ hq ≤ (n : Int)) := ⟨_, rfl⟩
    go_upto_region 5 with (fail)
    go_cut [5] from 49 to 59 (fun v wx => v = .bool HS ∧ w5 = wx)
    case first =>
      by_cases h1 : 1 ≤ hq
      · have d1 : decide (1 ≤ hq) = true := by simpa using h1
        go_wp2_with (fail)
        go_meet
        case rel => exact ⟨congrArg Value.bool (by rw [hHS]; simp [h1]), rfl⟩
      · have d1 : decide (1 ≤ hq) = false := by simpa using h1
        go_wp2_with (fail)
        go_meet
        case rel => exact ⟨congrArg Value.bool (by rw [hHS]; exact (decide_eq_false (fun h => by omega)).symm), rfl⟩
    case rest =>
    obtain ⟨hv, hw⟩ := hcut
    subst hv hw
    have HHS : Hid (HS = true ↔ (1 ≤ hq ∧ hq ≤ (n : Int))) := by show _ ↔ _; rw [hHS]; simp
    clear hHS
    go_upto_region 7 with (first | ((with_reducible refine at_op (o := ⟨some 61, .load 37 (.tmp 4), _, _, _, _⟩) ?_); refine pl_load rfl 37 (.tmp 4) rfl b4 rfl 37 [.int .i64 A, .int .i64 P] HR6.out _ Tryd.underlying37 rfl size37 ?_) | (go_at_call 8; refine (goes_ok A P p w5 HV.out.A0 HV.out.A5).mono ?_; rintro e w6 ⟨rfl, hch⟩; have HC6 := Lib.hid hch; clear hch))
    generalize hG : (!(A == 4) && !(A == 5) && ((!(A == 1) || !(P == p)) && (!(A == 2) || !(P == p)))) = G
    generalize hE : (A == 4 || A == 5) = E
    have HGE : Hid ((G = true ↔ (A = 0 ∨ A = 3)) ∧ (E = true ↔ (A = 4 ∨ A = 5))) := by
      have h012 := HV.out.on
      have hA0 := HV.out.A0
      have hA5 := HV.out.A5
      constructor
      · rw [← hG]
        constructor
        · intro h
          simp at h
          omega
        · intro h
          simp
          omega
      · rw [← hE]; simp
    clear hG hE
    have hx1 : w6.cell? ⟨w.heap.size, 1, none⟩ = some (.int .i64 hq) := HC6.out.cell (not_no _) c1
    have hx10 : w6.cell? ⟨w.heap.size, 10, none⟩ = some (.int .i64 (kk : Int)) := HC6.out.cell (not_no _) c10
    have hx11 : w6.cell? ⟨w.heap.size, 11, none⟩ = some (.int .i64 p) := HC6.out.cell (not_no _) c11
    have hx12 : w6.cell? ⟨w.heap.size, 12, none⟩ = some (.bool busy) := HC6.out.cell (not_no _) c12
    have hxk : w6.cell? ⟨w.heap.size, 2 + kk, none⟩ = some (.int .i64 (T kk)) := by rw [(HA5.out.keepNo HC6.out).cell]; exact HCC.out.tab kk (by omega)
    have hx0 : w6.cell? ⟨b4, 0, none⟩ = some (.int .i64 A) := HC6.out.cell (not_no _) v0
    have hx1' : w6.cell? ⟨b4, 1, none⟩ = some (.int .i64 P) := HC6.out.cell (not_no _) v1
    have HRW : Hid (Row w6 b4 37 [.int .i64 A, .int .i64 P]) := HR6.out.keepNo HC6.out
    have HCW : Hid (Ch No w w6) := HCW5.out.then_ HC6.out
    clear c1 c10 c11 c12 p8 v0 v1 HR6 HA5 HP5 HCW5 HC6 hgl hmc HCC HG
    clear w5
    have h6 : A = 0 ∨ A = 1 ∨ A = 2 ∨ A = 3 ∨ A = 4 ∨ A = 5 := by have := HV.out.A0; have := HV.out.A5; omega
    have HT : Hid (T ((kk : Int)).toNat = T kk) := by show _ = _; rw [Int.toNat_natCast]
    go_upto_region 7 with (fail)
    go_cut [99] from 67 to 98 (fun v wx => v = .bool false ∧ w6 = wx)
    case first =>
      rcases h6 with rfl | rfl | rfl | rfl | rfl | rfl
      · obtain rfl : G = true := by have := HGE.out.1; cases G <;> simp_all
        obtain rfl : E = false := by have := HGE.out.2; cases E <;> simp_all
        have hp0 : (p == 0) = false := by have := HV.out.p1; simp; omega
        obtain rfl : p = P := (HV.out.on (by omega)).symm
        go_wp2_with (fail)
        go_meet
        case rel => exact ⟨rfl, rfl⟩
      · obtain rfl : G = false := by have := HGE.out.1; cases G <;> simp_all
        obtain rfl : E = false := by have := HGE.out.2; cases E <;> simp_all
        have hp0 : (p == 0) = false := by have := HV.out.p1; simp; omega
        obtain rfl : p = P := (HV.out.on (by omega)).symm
        go_wp2_with (fail)
        go_meet
        case rel => exact ⟨rfl, rfl⟩
      · obtain rfl : G = false := by have := HGE.out.1; cases G <;> simp_all
        obtain rfl : E = false := by have := HGE.out.2; cases E <;> simp_all
        have hp0 : (p == 0) = false := by have := HV.out.p1; simp; omega
        obtain rfl : p = P := (HV.out.on (by omega)).symm
        go_wp2_with (fail)
        go_meet
        case rel => exact ⟨rfl, rfl⟩
      · obtain rfl : G = true := by have := HGE.out.1; cases G <;> simp_all
        obtain rfl : E = false := by have := HGE.out.2; cases E <;> simp_all
        obtain ⟨z1, z2, rfl, z4, z5⟩ := HV.out.three rfl
        have hq0 : (hq == 0) = false := by simp; omega
        have hpq : (p == hq) = false := by simpa using z5
        obtain rfl : HS = true := HHS.out.2 ⟨z1, z2⟩
        obtain rfl : hq = P := z4.symm
        clear z1 z2 z4 z5
        go_wp2_with (fail)
        go_meet
        case rel => exact ⟨rfl, rfl⟩
      · obtain rfl : G = false := by have := HGE.out.1; cases G <;> simp_all
        obtain rfl : E = true := by have := HGE.out.2; cases E <;> simp_all
        obtain rfl : P = 0 := HV.out.ends (by omega)
        go_wp2_with (fail)
        go_meet
        case rel => exact ⟨rfl, rfl⟩
      · obtain rfl : G = false := by have := HGE.out.1; cases G <;> simp_all
        obtain rfl : E = true := by have := HGE.out.2; cases E <;> simp_all
        obtain rfl : P = 0 := HV.out.ends (by omega)
        go_wp2_with (fail)
        go_meet
        case rel => exact ⟨rfl, rfl⟩
    case rest =>
    obtain ⟨hv, hw⟩ := hcut
    subst hv hw
    go_upto_region 9 with (fail)
    go_cut [124] from 100 to 123 (fun v wx => v = .bool false ∧ w6 = wx)
    case first =>
      rcases h6 with rfl | rfl | rfl | rfl | rfl | rfl
      · obtain rfl : G = true := by have := HGE.out.1; cases G <;> simp_all
        obtain rfl : E = false := by have := HGE.out.2; cases E <;> simp_all
        have hp0 : (p == 0) = false := by have := HV.out.p1; simp; omega
        obtain rfl : p = P := (HV.out.on (by omega)).symm
        go_wp2_with (fail)
        go_meet
        case rel => exact ⟨rfl, rfl⟩
      · obtain rfl : G = false := by have := HGE.out.1; cases G <;> simp_all
        obtain rfl : E = false := by have := HGE.out.2; cases E <;> simp_all
        have hp0 : (p == 0) = false := by have := HV.out.p1; simp; omega
        obtain rfl : p = P := (HV.out.on (by omega)).symm
        go_wp2_with (fail)
        go_meet
        case rel => exact ⟨rfl, rfl⟩
      · obtain rfl : G = false := by have := HGE.out.1; cases G <;> simp_all
        obtain rfl : E = false := by have := HGE.out.2; cases E <;> simp_all
        have hp0 : (p == 0) = false := by have := HV.out.p1; simp; omega
        obtain rfl : p = P := (HV.out.on (by omega)).symm
        go_wp2_with (fail)
        go_meet
        case rel => exact ⟨rfl, rfl⟩
      · obtain rfl : G = true := by have := HGE.out.1; cases G <;> simp_all
        obtain rfl : E = false := by have := HGE.out.2; cases E <;> simp_all
        obtain ⟨z1, z2, rfl, z4, z5⟩ := HV.out.three rfl
        have hq0 : (hq == 0) = false := by simp; omega
        have hpq : (p == hq) = false := by simpa using z5
        obtain rfl : HS = true := HHS.out.2 ⟨z1, z2⟩
        obtain rfl : hq = P := z4.symm
        clear z1 z2 z4 z5
        go_wp2_with (fail)
        go_meet
        case rel => exact ⟨rfl, rfl⟩
      · obtain rfl : G = false := by have := HGE.out.1; cases G <;> simp_all
        obtain rfl : E = true := by have := HGE.out.2; cases E <;> simp_all
        obtain rfl : P = 0 := HV.out.ends (by omega)
        go_wp2_with (fail)
        go_meet
        case rel => exact ⟨rfl, rfl⟩
      · obtain rfl : G = false := by have := HGE.out.1; cases G <;> simp_all
        obtain rfl : E = true := by have := HGE.out.2; cases E <;> simp_all
        obtain rfl : P = 0 := HV.out.ends (by omega)
        go_wp2_with (fail)
        go_meet
        case rel => exact ⟨rfl, rfl⟩
    case rest =>
    obtain ⟨hv, hw⟩ := hcut
    subst hv hw
    go_upto_region 11 with (fail)
    go_cut [138] from 125 to 137 (fun v wx => v = .bool false ∧ w6 = wx)
    case first =>
      rcases h6 with rfl | rfl | rfl | rfl | rfl | rfl
      · obtain rfl : G = true := by have := HGE.out.1; cases G <;> simp_all
        obtain rfl : E = false := by have := HGE.out.2; cases E <;> simp_all
        have hp0 : (p == 0) = false := by have := HV.out.p1; simp; omega
        obtain rfl : p = P := (HV.out.on (by omega)).symm
        go_wp2_with (fail)
        go_meet
        case rel => exact ⟨rfl, rfl⟩
      · obtain rfl : G = false := by have := HGE.out.1; cases G <;> simp_all
        obtain rfl : E = false := by have := HGE.out.2; cases E <;> simp_all
        have hp0 : (p == 0) = false := by have := HV.out.p1; simp; omega
        obtain rfl : p = P := (HV.out.on (by omega)).symm
        go_wp2_with (fail)
        go_meet
        case rel => exact ⟨rfl, rfl⟩
      · obtain rfl : G = false := by have := HGE.out.1; cases G <;> simp_all
        obtain rfl : E = false := by have := HGE.out.2; cases E <;> simp_all
        have hp0 : (p == 0) = false := by have := HV.out.p1; simp; omega
        obtain rfl : p = P := (HV.out.on (by omega)).symm
        go_wp2_with (fail)
        go_meet
        case rel => exact ⟨rfl, rfl⟩
      · obtain rfl : G = true := by have := HGE.out.1; cases G <;> simp_all
        obtain rfl : E = false := by have := HGE.out.2; cases E <;> simp_all
        obtain ⟨z1, z2, rfl, z4, z5⟩ := HV.out.three rfl
        have hq0 : (hq == 0) = false := by simp; omega
        have hpq : (p == hq) = false := by simpa using z5
        obtain rfl : HS = true := HHS.out.2 ⟨z1, z2⟩
        obtain rfl : hq = P := z4.symm
        clear z1 z2 z4 z5
        go_wp2_with (fail)
        go_meet
        case rel => exact ⟨rfl, rfl⟩
      · obtain rfl : G = false := by have := HGE.out.1; cases G <;> simp_all
        obtain rfl : E = true := by have := HGE.out.2; cases E <;> simp_all
        obtain rfl : P = 0 := HV.out.ends (by omega)
        go_wp2_with (fail)
        go_meet
        case rel => exact ⟨rfl, rfl⟩
      · obtain rfl : G = false := by have := HGE.out.1; cases G <;> simp_all
        obtain rfl : E = true := by have := HGE.out.2; cases E <;> simp_all
        obtain rfl : P = 0 := HV.out.ends (by omega)
        go_wp2_with (fail)
        go_meet
        case rel => exact ⟨rfl, rfl⟩
    case rest =>
    obtain ⟨hv, hw⟩ := hcut
    subst hv hw
    obtain ⟨D, hD⟩ : ∃ D : Bool, D = (HS && (p == hq)) := ⟨_, rfl⟩
    go_upto_region 13 with (fail)
    go_cut [146] from 139 to 145 (fun v wx => v = .bool D ∧ w6 = wx)
    case first =>
      cases HS
      · go_wp2_with (fail)
        go_meet
        case rel => exact ⟨congrArg Value.bool (by rw [hD]; rfl), rfl⟩
      · go_wp2_with (fail)
        go_meet
        case rel => exact ⟨congrArg Value.bool (by rw [hD]; rfl), rfl⟩
    case rest =>
    obtain ⟨hv, hw⟩ := hcut
    subst hv hw
    have HD : Hid (D = true ↔ (1 ≤ hq ∧ hq ≤ (n : Int) ∧ p = hq)) := by
      show _ ↔ _
      rw [hD, Bool.and_eq_true, HHS.out]
      simp [and_assoc]
    clear hD
    cases D
    case true =>
      obtain ⟨z1, z2, z3⟩ := HD.out.1 rfl
      obtain rfl : A = 4 := HV.out.hand z1 z2 z3
      obtain rfl : P = 0 := HV.out.ends (by omega)
      go_wp2_with ((with_reducible refine at_op (o := ⟨some 147, .load 37 (.tmp 4), _, _, _, _⟩) ?_); refine pl_load rfl 37 (.tmp 4) rfl b4 rfl 37 [.int .i64 4, .int .i64 0] HRW.out _ Tryd.underlying37 rfl size37 ?_)
      exact bodyPost_ret (v := .bool true) (by kernel_rfl) rfl ⟨rfl, HCW.out⟩
    case false =>
    have HND : Hid (¬ (1 ≤ hq ∧ hq ≤ (n : Int) ∧ p = hq)) := fun h => by have := HD.out.2 h; simp at this
    clear HD
    go_upto_region 15 with (fail)
    go_cut [169] from 150 to 168 (fun v wx => v = .bool false ∧ w6 = wx)
    case first =>
      rcases h6 with rfl | rfl | rfl | rfl | rfl | rfl
      · obtain rfl : G = true := by have := HGE.out.1; cases G <;> simp_all
        obtain rfl : E = false := by have := HGE.out.2; cases E <;> simp_all
        have hp0 : (p == 0) = false := by have := HV.out.p1; simp; omega
        obtain rfl : p = P := (HV.out.on (by omega)).symm
        have hk4 : ((kk : Int) == 4) = false := by have := HV.out.code rfl; simp; omega
        go_wp2_with (fail)
        go_meet
        case rel => exact ⟨rfl, rfl⟩
      · obtain rfl : G = false := by have := HGE.out.1; cases G <;> simp_all
        obtain rfl : E = false := by have := HGE.out.2; cases E <;> simp_all
        have hp0 : (p == 0) = false := by have := HV.out.p1; simp; omega
        obtain rfl : p = P := (HV.out.on (by omega)).symm
        rcases Bool.eq_false_or_eq_true ((kk : Int) == 4) with hk4 | hk4
        all_goals (go_wp2_with (fail); go_meet)
        case rel => exact ⟨rfl, rfl⟩
        case rel => exact ⟨rfl, rfl⟩
      · obtain rfl : G = false := by have := HGE.out.1; cases G <;> simp_all
        obtain rfl : E = false := by have := HGE.out.2; cases E <;> simp_all
        have hp0 : (p == 0) = false := by have := HV.out.p1; simp; omega
        obtain rfl : p = P := (HV.out.on (by omega)).symm
        rcases Bool.eq_false_or_eq_true ((kk : Int) == 4) with hk4 | hk4
        all_goals (go_wp2_with (fail); go_meet)
        case rel => exact ⟨rfl, rfl⟩
        case rel => exact ⟨rfl, rfl⟩
      · obtain rfl : G = true := by have := HGE.out.1; cases G <;> simp_all
        obtain rfl : E = false := by have := HGE.out.2; cases E <;> simp_all
        obtain ⟨z1, z2, rfl, z4, z5⟩ := HV.out.three rfl
        have hq0 : (hq == 0) = false := by simp; omega
        have hpq : (p == hq) = false := by simpa using z5
        obtain rfl : HS = true := HHS.out.2 ⟨z1, z2⟩
        obtain rfl : hq = P := z4.symm
        clear z1 z2 z4 z5
        rcases Bool.eq_false_or_eq_true ((kk : Int) == 4) with hk4 | hk4
        all_goals (go_wp2_with (fail); go_meet)
        case rel => exact ⟨rfl, rfl⟩
        case rel => exact ⟨rfl, rfl⟩
      · obtain rfl : G = false := by have := HGE.out.1; cases G <;> simp_all
        obtain rfl : E = true := by have := HGE.out.2; cases E <;> simp_all
        obtain rfl : P = 0 := HV.out.ends (by omega)
        rcases Bool.eq_false_or_eq_true ((kk : Int) == 4) with hk4 | hk4
        all_goals (go_wp2_with (fail); go_meet)
        case rel => exact ⟨rfl, rfl⟩
        case rel => exact ⟨rfl, rfl⟩
      · obtain rfl : G = false := by have := HGE.out.1; cases G <;> simp_all
        obtain rfl : E = true := by have := HGE.out.2; cases E <;> simp_all
        obtain rfl : P = 0 := HV.out.ends (by omega)
        rcases Bool.eq_false_or_eq_true ((kk : Int) == 4) with hk4 | hk4
        all_goals (go_wp2_with (fail); go_meet)
        case rel => exact ⟨rfl, rfl⟩
        case rel => exact ⟨rfl, rfl⟩
    case rest =>
    obtain ⟨hv, hw⟩ := hcut
    subst hv hw
    go_upto_region 17 with (fail)
    go_upto_region 18 with (fail)
    have HPL : Hid (0 ≤ T kk → T kk ≤ 5 → T kk ≠ 3 → (T kk ≠ 0 ∨ (kk : Int) ≠ 4) → A = T kk) := by
      have := HV.out.plain HND.out
      rw [HT.out] at this
      exact this
    clear hxk HT HV
    generalize T kk = a at *
    obtain ⟨PL, hPL⟩ : ∃ b : Bool, b = decide (0 ≤ a ∧ a ≤ 5 ∧ a ≠ 3 ∧ (a ≠ 0 ∨ (kk : Int) ≠ 4)) := ⟨_, rfl⟩
    go_cut [9] from 175 to 193 (fun v wx => v = .bool PL ∧ w6 = wx)
    case first =>
      by_cases h1 : 0 ≤ a
      · have d1 : decide (0 ≤ a) = true := by simpa using h1
        by_cases h2 : a ≤ 5
        · have d2 : decide (a ≤ 5) = true := by simpa using h2
          by_cases h3 : a = 3
          · subst h3
            have e : PL = false := by rw [hPL]; simp
            go_wp2_with (fail)
            go_meet
            case rel => exact ⟨by rw [e], rfl⟩
          · have d3 : (a == 3) = false := by simpa using h3
            by_cases h0 : a = 0
            · subst h0
              rcases Bool.eq_false_or_eq_true ((kk : Int) == 4) with hk4 | hk4
              · have e : PL = false := by rw [hPL]; simp at hk4; simp; omega
                go_wp2_with (fail)
                go_meet
                case rel => exact ⟨by rw [e, bne, hk4]; rfl, rfl⟩
              · have e : PL = true := by rw [hPL]; simp at hk4; simp; omega
                go_wp2_with (fail)
                go_meet
                case rel => exact ⟨by rw [e, bne, hk4]; rfl, rfl⟩
            · have d0 : (a == 0) = false := by simpa using h0
              have e : PL = true := by rw [hPL]; simp; omega
              go_wp2_with (fail)
              go_meet
              case rel => exact ⟨by rw [e]; simp [bne, d3, d0], rfl⟩
        · have d2 : decide (a ≤ 5) = false := by simpa using h2
          have e : PL = false := by rw [hPL]; simp; omega
          go_wp2_with (fail)
          go_meet
          case rel => exact ⟨by rw [e], rfl⟩
      · have d1 : decide (0 ≤ a) = false := by simpa using h1
        have e : PL = false := by rw [hPL]; simp; omega
        go_wp2_with (fail)
        go_meet
        case rel => exact ⟨by rw [e], rfl⟩
    case rest =>
    obtain ⟨hv, hw⟩ := hcut
    subst hv hw
    have HPLE : Hid (PL = true → (0 ≤ a ∧ a ≤ 5 ∧ a ≠ 3 ∧ (a ≠ 0 ∨ (kk : Int) ≠ 4))) := by
      show _ → _
      rw [hPL]
      intro h
      exact of_decide_eq_true h
    clear hPL
    cases PL
    case false =>
      go_wp2_with (fail)
      exact bodyPost_ret (v := .bool true) (by kernel_rfl) rfl ⟨rfl, HCW.out⟩
    case true =>
      obtain ⟨y1, y2, y3, y4⟩ := HPLE.out rfl
      obtain rfl : A = a := HPL.out y1 y2 y3 y4
      clear y1 y2 y3 y4
      go_wp2_with (fail)
      exact bodyPost_ret (v := .bool true) (by kernel_rfl) rfl ⟨rfl, HCW.out⟩
end Go.Proofs.YtdgaelbehnlegaaDoor
