/- objects.Load of a state that State told. -/
import Derived.Test.YtifieahnnklgcaaC6
set_option linter.unusedVariables false
set_option linter.unusedSimpArgs false
namespace Go.Proofs.Ytifieahnnklgcaa
open Go.RowKit
theorem copy_nil_29 (w : World) (ty : TypeId) : (Builtin.copy_ #[29, 29] ty #[.slice none 0 0, .slice none 0 0]).run Try.prog w = .ok (.int .i64 0) w := by
  obtain ⟨i, hi⟩ := Option.isSome_iff_exists.1 (show (Try.prog.info? 4).isSome = true by kernel_rfl)
  simp [Builtin.copy_, run_underlying Try.underlying29, Builtin.lenOf, Builtin.firstCells, sizeOf, typeInfo, hi, storeCells, goInt]
theorem exec_copy {a : Act} {o : Oper} {w w' : World} (d s : Operand) (t : TypeId) (ho : o.op = .call { callee := .builtin .copy, args := #[d, s], argTypes := #[t, t] }) (v u v' : Value) (hd : a.eval d = v) (hs : a.eval s = u) (hr : ∀ ty, (Builtin.copy_ #[t, t] ty #[v, u]).run Try.prog w = .ok v' w') :
    (execOp a.eval o).run Try.prog w = .ok (.value v') w' := by
  unfold execOp
  simp only [ho, resolve, invoke, builtin, Sem.run_bind, Sem.run_pure, Result.andThen_ok, List.map_toArray, List.map_cons, List.map_nil, hd, hs, hr]
theorem size32 : (Try.prog.info? 32).map (·.size) = some 21 := by kernel_rfl
/-- what lasts in Load -/
structure LB (w : World) (base : Nat) (s : SetR) (gS gB : Nat) (n : Int) (rS rB : List Value) (vL : Value) (ms : List (List Int)) (w' : World) : Prop where
  bs : Bs base s w'
  hS : Row w' gS 3 (.int .i64 n :: rS)
  hB : Row w' gB 59 (vL :: rB)
  lo : ∃ b, Lo b w' vL ms
  lt : ∀ k, vL.ownBlock = some k → k < w.heap.size
  fr : ∀ k, s.vl.ownBlock = some k → w.heap.size ≤ k
  bb : w.heap.size ≤ base
  ch : Ch No w w'
theorem LB.no {w w1 w2 : World} {base : Nat} {s : SetR} {gS gB : Nat} {n : Int} {rS rB : List Value} {vL : Value} {ms : List (List Int)} (h : LB w base s gS gB n rS rB vL ms w1) (hc : Ch No w1 w2) : LB w base s gS gB n rS rB vL ms w2 :=
  ⟨h.bs.keepNo hc, h.hS.keepNo hc, h.hB.keepNo hc, ⟨_, h.lo.choose_spec.keepNo hc⟩, h.lt, h.fr, h.bb, h.ch.then_ hc⟩
/-- behind a call on the set -/
theorem LB.next {w w1 w2 : World} {base : Nat} {s s' : SetR} {gS gB : Nat} {n : Int} {rS rB : List Value} {vL : Value} {ms : List (List Int)} (h : LB w base s gS gB n rS rB vL ms w1) (hc : Ch (Ds s) w1 w2) (hb : Bs base s' w2) (hf : From w1 s.vl s'.vl) : LB w base s' gS gB n rS rB vL ms w2 := by
  refine ⟨hb, h.bs.rowK hc h.hS (by decide) (by decide) (by decide) (by decide), h.bs.rowK hc h.hB (by decide) (by decide) (by decide) (by decide), ?_, h.lt, fun k hk => ?_, h.bb, h.ch.trans hc (fun i hi hd => ?_)⟩
  · obtain ⟨b, hlo⟩ := h.lo
    obtain ⟨sv, h1, h2, h3⟩ := hlo.ex
    refine ⟨b, sv, owns_keep h1 hc (fun k hk hd => ?_), h2, fun i u hu => ?_⟩
    · rcases hd with rfl | rfl | rfl | hd
      · exact own_ne_row h1 h.bs.row (by decide) hk
      · exact own_ne_row h1 h.bs.sem (by decide) hk
      · exact own_ne_row h1 h.bs.buf (by decide) hk
      · have := h.lt k hk
        have := h.fr k hd
        omega
    · obtain ⟨xs, a, b⟩ := h3 i u hu
      exact ⟨xs, a, b.other (fun g L hr => h.bs.rowK hc hr (by decide) (by decide) (by decide) (by decide))⟩
  · rcases hf k hk with h1 | h1
    · exact h.fr k h1
    · exact Nat.le_trans h.ch.size h1
  · have hbb := h.bb
    rcases hd with rfl | rfl | rfl | hd
    · have := h.bs.bP; omega
    · have := h.bs.bs; omega
    · have := h.bs.bb; omega
    · have := h.fr i hd; omega
set_option maxHeartbeats 8000000 in
set_option maxRecDepth 100000 in
theorem load_calls (w : World) (pc : List Value) (ga ca gq cq : Nat) (start most size dep : Int) (hpl : pc.length = 21) (hp1 : ∀ u ∈ pc, u.oneCell' = true) (h18 : pc[18]? = some (.slice (some ⟨ga, 0, none⟩) 1 ca)) (h19 : pc[19]? = some (.slice none 0 0)) (h20 : pc[20]? = some (.slice (some ⟨gq, 0, none⟩) 1 cq))
    (ha : Row w ga 55 [.int .i64 start, .int .i64 most]) (hq : Row w gq 57 [.int .i64 size, .int .i64 dep])
    (gS cS gB cB : Nat) (n : Int) (rS rB : List Value) (vL : Value) (ms : List (List Int)) (hS : Row w gS 3 (.int .i64 n :: rS)) (hB : Row w gB 59 (vL :: rB)) (bL : Nat) (hlo : Lo bL w vL ms)
    (hn : 0 ≤ n ∧ n ≤ most) (hms : (ms.length : Int) ≤ dep) (hd : dep ≤ 900) (hxl : ∀ xs ∈ ms, (xs.length : Int) = size) (hsz : size ≤ 1000000) :
    Calls Try.prog 10 #[.agg pc.toArray, .agg #[.slice (some ⟨gS, 0, none⟩) 1 cS, .slice none 0 0, .slice (some ⟨gB, 0, none⟩) 1 cB]] w fun e w' => ∃ s base, e = .returned (.tuple #[.pointer (some ⟨s.P, 0, none⟩), .int .i64 0]) ∧ Bs base s w' ∧ s.n = n ∧ s.most = most ∧ s.dep = dep ∧ s.siz = size ∧ s.ms = ms ∧ w.heap.size ≤ base ∧ (∀ k, s.vl.ownBlock = some k → w.heap.size ≤ k) ∧ Ch No w w' := by
  have HXL := Lib.hid hxl
  have HLT : Hid (∀ k, vL.ownBlock = some k → k < w.heap.size) := fun k hk => (hlo.ex.choose_spec.1.lt k hk).2
  have hml : ms.length ≤ 900 := by omega
  have HC : Hid (Ch No w ((w.alloc (.cells pc.toArray 32)).alloc (.cells #[.slice (some ⟨gS, 0, none⟩) 1 cS, .slice none 0 0, .slice (some ⟨gB, 0, none⟩) 1 cB] 36))) := ((Ch.refl _ _).alloc _).alloc _
  have HPC : Hid (Row ((w.alloc (.cells pc.toArray 32)).alloc (.cells #[.slice (some ⟨gS, 0, none⟩) 1 cS, .slice none 0 0, .slice (some ⟨gB, 0, none⟩) 1 cB] 36)) w.heap.size 32 pc) := (Row.new w 32 pc).alloc _
  have HT : Hid (Row ((w.alloc (.cells pc.toArray 32)).alloc (.cells #[.slice (some ⟨gS, 0, none⟩) 1 cS, .slice none 0 0, .slice (some ⟨gB, 0, none⟩) 1 cB] 36)) (w.heap.size + 1) 36 [.slice (some ⟨gS, 0, none⟩) 1 cS, .slice none 0 0, .slice (some ⟨gB, 0, none⟩) 1 cB]) := Row.new_at _ 36 _ (by simp)
  have HA1 := Lib.hid (ha.keepNo HC.out)
  have HQ1 := Lib.hid (hq.keepNo HC.out)
  have HS1 := Lib.hid (hS.keepNo HC.out)
  have HB1 := Lib.hid (hB.keepNo HC.out)
  have HL1 := Lib.hid (hlo.keepNo HC.out)
  have HI32 : Hid ((Try.prog.info? 32).map (·.size) = some pc.length) := by show _ = _; rw [hpl]; exact size32
  clear ha hq hS hB hlo hxl
  go_enter Try.func10, Try.ntmps10
  go_upto_region 1 with (fail)
  change Code.wp _ _ _ _ ((w.alloc (.cells pc.toArray 32)).alloc (.cells #[.slice (some ⟨gS, 0, none⟩) 1 cS, .slice none 0 0, .slice (some ⟨gB, 0, none⟩) 1 cB] 36))
  generalize (w.alloc (.cells pc.toArray 32)).alloc (.cells #[.slice (some ⟨gS, 0, none⟩) 1 cS, .slice none 0 0, .slice (some ⟨gB, 0, none⟩) 1 cB] 36) = w1 at *
  go_wp2_with ((with_reducible refine at_op (o := ⟨some 15, .load 32 (.tmp 2), _, _, _, _⟩) ?_); refine pl_load rfl 32 (.tmp 2) rfl w.heap.size rfl 32 pc HPC.out _ Try.underlying32 rfl HI32.out ?_)
  refine (new_calls w1 pc ga ca gq cq start most size dep hpl hp1 h18 h19 h20 HA1.out HQ1.out).mono ?_
  rintro e w2 ⟨s, rfl, hb2, e1, e2, e3, e4, e5, e6, hc2⟩
  have HLB : Hid (LB w w1.heap.size s gS gB n rS rB vL ms w2) := ⟨hb2, HS1.out.keepNo hc2, HB1.out.keepNo hc2, ⟨bL, HL1.out.keepNo hc2⟩, HLT.out, fun k hk => by
    have h1 := own_base_ hb2.own k hk
    exact Nat.le_trans HC.out.size h1, HC.out.size, HC.out.then_ hc2⟩
  have HT2 := Lib.hid (HT.out.keepNo hc2)
  have HE : Hid (s.most = most ∧ s.dep = dep ∧ s.siz = size ∧ s.ms = [] ∧ s.sv = []) := ⟨e2, e3, e4, e5, e6⟩
  clear hb2 e1 e2 e3 e4 e5 e6 hc2 HT HA1 HQ1 HS1 HB1 HL1 HC HPC
  have t0 : w2.cell? ⟨w.heap.size + 1, 0, none⟩ = some (.slice (some ⟨gS, 0, none⟩) 1 cS) := by rw [HT2.out.cell]; rfl
  have t1 : w2.cell? ⟨w.heap.size + 1, 1, none⟩ = some (.slice none 0 0) := by rw [HT2.out.cell]; rfl
  have t2 : w2.cell? ⟨w.heap.size + 1, 2, none⟩ = some (.slice (some ⟨gB, 0, none⟩) 1 cB) := by rw [HT2.out.cell]; rfl
  have p0 : w2.cell? ⟨s.P, 0, none⟩ = some (.slice (some ⟨s.gs, 0, none⟩) 1 s.cs) := by rw [HLB.out.bs.row.cell]; rfl
  have p1 : w2.cell? ⟨s.P, 1, none⟩ = some (.slice none 0 0) := by rw [HLB.out.bs.row.cell]; rfl
  have p2 : w2.cell? ⟨s.P, 2, none⟩ = some (.slice (some ⟨s.gb, 0, none⟩) 1 s.cb) := by rw [HLB.out.bs.row.cell]; rfl
  have htl := HT2.out.lt
  have hpp := HLB.out.bs.row.lt
  go_upto_region 2 with (fail)
  go_quiet (fail)
  go_upto_region 4 with (fail)
  have HLB3 : Hid (LB w w1.heap.size s gS gB n rS rB vL ms (w2.drewN nq)) := HLB.out.no ((Ch.refl No w2).drewN nq)
  have HT3 : Hid (Row (w2.drewN nq) (w.heap.size + 1) 36 [.slice (some ⟨gS, 0, none⟩) 1 cS, .slice none 0 0, .slice (some ⟨gB, 0, none⟩) 1 cB]) := HT2.out
  generalize w2.drewN nq = w3 at *
  clear t0 t1 t2 p0 p1 p2 htl hpp HLB HT2
  refine wp_region_quiet_tail 6 (by kernel_rfl) (by kernel_rfl) (fun w' => Ch No w3 w') ((Ch.refl _ _).drew) ?_
  simp only [List.take_succ_cons, List.take_zero, List.drop_succ_cons, List.drop_zero]
  refine wpQuiet_value (by rfl) (.pointer (some ⟨s.P, 0, none⟩)) (fun _ => rfl) ?_
  simp only [Act.put, List.setIfInBounds_toArray, List.set_cons_zero, List.set_cons_succ]
  refine wpQuiet_value (by rfl) (.pointer (some ⟨s.P, 0, none⟩)) (fun _ => rfl) ?_
  simp only [Act.put, List.setIfInBounds_toArray, List.set_cons_zero, List.set_cons_succ]
  refine wpQuiet_value (by rfl) (.pointer (some ⟨s.P, 1, none⟩)) (fun _ => by kernel_rfl) ?_
  simp only [Act.put, List.setIfInBounds_toArray, List.set_cons_zero, List.set_cons_succ]
  refine wpQuiet_read (by rfl) (.slice none 0 0) (fun w' hw' => exec_load_cell 29 (.tmp 50) rfl ⟨s.P, 1, none⟩ rfl _ Try.underlying29 rfl _ (by rw [(HLB3.out.no hw').bs.row.cell]; rfl)) ?_
  simp only [Act.put, List.setIfInBounds_toArray, List.set_cons_zero, List.set_cons_succ]
  refine wpQuiet_value (by rfl) (.pointer (some ⟨w.heap.size + 1, 1, none⟩)) (fun _ => by kernel_rfl) ?_
  simp only [Act.put, List.setIfInBounds_toArray, List.set_cons_zero, List.set_cons_succ]
  refine wpQuiet_read (by rfl) (.slice none 0 0) (fun w' hw' => exec_load_cell 29 (.tmp 52) rfl ⟨w.heap.size + 1, 1, none⟩ rfl _ Try.underlying29 rfl _ (by rw [(HT3.out.keepNo hw').cell]; rfl)) ?_
  simp only [Act.put, List.setIfInBounds_toArray, List.set_cons_zero, List.set_cons_succ]
  refine wpQuiet_nil ?_
  intro w4 hw4
  have HLB4 := Lib.hid (HLB3.out.no hw4)
  have HT4 := Lib.hid (HT3.out.keepNo hw4)
  clear hw4 HLB3 HT3
  have t0 : w4.cell? ⟨w.heap.size + 1, 0, none⟩ = some (.slice (some ⟨gS, 0, none⟩) 1 cS) := by rw [HT4.out.cell]; rfl
  have htl := HT4.out.lt
  go_wp2_with ((with_reducible refine at_op (o := ⟨some 54, .call { callee := .builtin .copy, args := #[.tmp 51, .tmp 53], argTypes := #[29, 29] }, _, _, _, _⟩) ?_); refine pl_value_to (w' := w4) rfl (.int .i64 0) (exec_copy (.tmp 51) (.tmp 53) 29 rfl _ _ _ rfl rfl (copy_nil_29 w4)) ?_)
  go_loopw [58, 7, 8] (fun i _ _ wr => (i = .int .i64 0 ∧ Hid (LB w w1.heap.size s gS gB n rS rB vL ms wr) ∧ Hid (Row wr (w.heap.size + 1) 36 [.slice (some ⟨gS, 0, none⟩) 1 cS, .slice none 0 0, .slice (some ⟨gB, 0, none⟩) 1 cB])) ∨ (i = .int .i64 1 ∧ Hid (LB w w1.heap.size { s with n := n } gS gB n rS rB vL ms wr) ∧ Hid (Row wr (w.heap.size + 1) 36 [.slice (some ⟨gS, 0, none⟩) 1 cS, .slice none 0 0, .slice (some ⟨gB, 0, none⟩) 1 cB]))) (fun i _ _ _ => 1 - (intOf i).toNat)
  case atStart => exact .inl ⟨rfl, HLB4, HT4⟩
  case round =>
    clear HLB4 HT4 t0 htl
    rcases hrel with ⟨rfl, HL, HT⟩ | ⟨rfl, HL, HT⟩
    · have s0 : wr.cell? ⟨gS, 0, none⟩ = some (.int .i64 n) := by rw [HL.out.hS.cell]; rfl
      have sl := HL.out.hS.lt
      have p0 : wr.cell? ⟨s.P, 0, none⟩ = some (.slice (some ⟨s.gs, 0, none⟩) 1 s.cs) := by rw [HL.out.bs.row.cell]; rfl
      have pl := HL.out.bs.row.lt
      have g0 : wr.cell? ⟨s.gs, 0, none⟩ = some (.int .i64 s.n) := by rw [HL.out.bs.sem.cell]; rfl
      have g1 : wr.cell? ⟨s.gs, 1, none⟩ = some (.int .i64 most) := by rw [HL.out.bs.sem.cell, ← HE.out.1]; rfl
      have gf : wr.frozen? ⟨s.gs, 0, none⟩ = false := HL.out.bs.sem.frozen _
      have gl := HL.out.bs.sem.lt
      have d1 : decide (n < 0) = false := decide_eq_false (by omega)
      have d2 : decide (most < n) = false := decide_eq_false (by omega)
      go_wp2_with (fail)
      have HL2 := Lib.hid (HL.out.next ((Ch.refl _ wr).setCell (p := ⟨s.gs, 0, none⟩) (fun _ => .inr (.inl rfl)) (.int .i64 n)) (HL.out.bs.setN n) (fun k hk => .inl hk))
      have HT2 := Lib.hid (HT.out.setOther (p := ⟨s.gs, 0, none⟩) (row_ne HT.out HL.out.bs.sem (by decide)) (.int .i64 n))
      go_roundw
      · exact .inr ⟨rfl, HL2, HT2⟩
      · simp [intOf]
    · have HE2 : Hid ((SetR.mk s.P s.gs s.cs s.gb s.cb s.rs s.rb n s.most s.dep s.siz s.vl s.sv s.ms).n = n) := rfl
      obtain ⟨s1, hs1⟩ : ∃ s1 : SetR, s1 = { s with n := n } := ⟨_, rfl⟩
      have HL1 : Hid (LB w w1.heap.size s1 gS gB n rS rB vL ms wr) := by rw [hs1]; exact HL
      have HE1 : Hid (s1.n = n ∧ s1.most = most ∧ s1.dep = dep ∧ s1.siz = size ∧ s1.ms = [] ∧ s1.P = s.P) := by rw [hs1]; exact ⟨rfl, HE.out.1, HE.out.2.1, HE.out.2.2.1, HE.out.2.2.2.1, rfl⟩
      clear hs1 HL HE2
      have t2 : wr.cell? ⟨w.heap.size + 1, 2, none⟩ = some (.slice (some ⟨gB, 0, none⟩) 1 cB) := by rw [HT.out.cell]; rfl
      have htl := HT.out.lt
      go_wp2_with (fail)
      have HL9 := HL1
      generalize wr = w9 at *
      clear HL1 HT t2 htl
      go_loopw [89, 9, 10, 96, 12, 13, 14] (fun i _ _ _ _ _ _ wr => ∃ s2 : SetR, Hid (LB w w1.heap.size s2 gS gB n rS rB vL ms wr) ∧ Hid (s2.n = n ∧ s2.most = most ∧ s2.dep = dep ∧ s2.siz = size ∧ s2.P = s.P) ∧ ((i = .int .i64 0 ∧ Hid (s2.ms = [])) ∨ (i = .int .i64 1 ∧ Hid (s2.ms = ms)))) (fun i _ _ _ _ _ _ _ => 1 - (intOf i).toNat)
      case atStart => exact ⟨s1, HL9, ⟨HE1.out.1, HE1.out.2.1, HE1.out.2.2.1, HE1.out.2.2.2.1, HE1.out.2.2.2.2.2⟩, .inl ⟨rfl, HE1.out.2.2.2.2.1⟩⟩
      case round =>
        clear HL9 HE1
        obtain ⟨s2, HL, HE2, hor⟩ := hrel
        rcases hor with ⟨rfl, HM⟩ | ⟨rfl, HM⟩
        · obtain ⟨b, hlo⟩ := HL.out.lo
          obtain ⟨sv, hsv1, hsv2, hsv3⟩ := hlo.ex
          obtain ⟨A, c, hvl, _⟩ := own_slice hsv1
          have b0 : wr.cell? ⟨gB, 0, none⟩ = some (.slice A sv.length c) := by rw [HL.out.hB.cell, ← hvl]; rfl
          have bl := HL.out.hB.lt
          have HVL := Lib.hid hvl
          have HSV : Hid (sv.length = ms.length) := hsv2
          have hsvl : sv.length ≤ 900 := by omega
          have HSO : Hid (wr.ownsRow b 24 1 vL sv.length sv) := hsv1
          clear hlo hsv1 hsv2 hsv3 hvl
          go_wp2_with (fail)
          have HL8 := HL
          have HM8 : Hid (s2.ms = ms.take 0) := by rw [List.take_zero]; exact HM
          generalize wr = w8 at *
          clear HL HM b0 bl HSO
          go_loopw [96, 12, 13, 14] (fun i _ _ _ wr => ∃ (j : Nat) (s3 : SetR), j ≤ sv.length ∧ i = .int .i64 j ∧ Hid (LB w w1.heap.size s3 gS gB n rS rB vL ms wr) ∧ Hid (s3.n = n ∧ s3.most = most ∧ s3.dep = dep ∧ s3.siz = size ∧ s3.P = s.P) ∧ Hid (s3.ms = ms.take j)) (fun i _ _ _ _ => sv.length - (intOf i).toNat)
          case atStart => exact ⟨0, s2, Nat.zero_le _, rfl, HL8, HE2, HM8⟩
          case round =>
            clear HL8 HE2 HM8
            obtain ⟨j, s3, hj, rfl, HL, HE3, HM⟩ := hrel
            by_cases hlt : j < sv.length
            · have d0 : decide ((j : Int) < (sv.length : Int)) = true := by simpa using hlt
              have hji : (j : Int) < (sv.length : Int) := by omega
              obtain ⟨b2, hlo⟩ := HL.out.lo
              obtain ⟨sv2, h1, h2, h3⟩ := hlo.ex
              obtain ⟨A2, c2, hv2, hcl2⟩ := own_slice h1
              rw [HVL.out] at hv2
              have hln : sv2.length = sv.length := by rw [h2, HSV.out]
              rw [hln] at hv2
              cases hv2
              obtain ⟨v, hv⟩ : ∃ v, sv2[j]? = some v := ⟨sv2[j]'(by omega), List.getElem?_eq_getElem _⟩
              obtain ⟨xs, hxs, hml⟩ := h3 j v hv
              obtain ⟨ad, ead, hcv⟩ := hcl2 j v hv
              subst ead
              obtain ⟨A4, c4, rfl, _⟩ := hml.sl
              have HML := Lib.hid hml.sl
              have HXS := Lib.hid hxs
              have hjm : j < ms.length := by rw [← HSV.out]; exact hlt
              have HXZ : Hid ((xs.length : Int) = s3.siz) := by show _ = _; rw [HE3.out.2.2.2.1]; exact HXL.out xs (List.mem_of_getElem? hxs)
              have HZ : Hid (s3.siz ≤ 1000000) := by show _ ≤ _; rw [HE3.out.2.2.2.1]; exact hsz
              have HD9 : Hid (s3.dep ≤ 900) := by show _ ≤ _; rw [HE3.out.2.2.1]; exact hd
              have HLS : Hid ((s3.ms.length : Int) < s3.dep) := by
                show _ < _
                rw [HM.out, HE3.out.2.2.1, List.length_take]
                omega
              have HDT : Hid (decide ((s3.ms.length : Int) < s3.dep) = true) := decide_eq_true HLS.out
              clear hml hxs hv h1 h2 h3 hlo hcl2 hln
              have hput := put_calls HL.out.bs (.slice A4 xs.length c4) xs HML.out HXZ.out HZ.out HD9.out
              rw [HE3.out.2.2.2.2] at hput
              have HPUT := Lib.hid hput
              clear hput
              go_wp2_with (fail)
              refine HPUT.out.mono ?_
              rintro e w5 ⟨rfl, ⟨s5, hb5, hor, hne, hfr⟩, hc5⟩
              rw [HDT.out]
              have hs5 : ∃ vl' u, s5 = { s3 with vl := vl', sv := s3.sv ++ [u], ms := s3.ms ++ [xs] } := by
                rcases hor with rfl | ⟨vl', u, e, _⟩
                · exact absurd HLS.out (hne rfl)
                · exact ⟨vl', u, e⟩
              have HL5 := Lib.hid (HL.out.next hc5 hb5 hfr)
              obtain ⟨vl', u, hs5⟩ := hs5
              have HE5 : Hid (s5.n = n ∧ s5.most = most ∧ s5.dep = dep ∧ s5.siz = size ∧ s5.P = s.P) := by rw [hs5]; exact HE3.out
              have HM5 : Hid (s5.ms = ms.take (j + 1)) := by
                show _ = _
                rw [hs5]
                simp only
                rw [HM.out, List.take_add_one, HXS.out]
                rfl
              clear hs5 hor hne hfr hc5 hb5
              go_wp2_with (fail)
              go_roundw
              · exact ⟨j + 1, s5, by omega, by go_num, HL5, HE5, HM5⟩
              · simp [intOf]; omega
            · obtain rfl : j = sv.length := by omega
              have d0 : decide ((sv.length : Int) < (sv.length : Int)) = false := by simp
              have HM9 : Hid (s3.ms = ms) := by
                show _ = _
                rw [HM.out, HSV.out, List.take_of_length_le (Nat.le_refl _)]
              go_wp2_with (fail)
              go_roundw
              · exact ⟨s3, HL, HE3, .inr ⟨rfl, HM9⟩⟩
              · simp [intOf]
        · go_wp2_with (fail)
          exact bodyPost_ret (v := .tuple #[.pointer (some ⟨s.P, 0, none⟩), .int .i64 0]) (by kernel_rfl) rfl ⟨s2, w1.heap.size, by rw [HE2.out.2.2.2.2], HL.out.bs, HE2.out.1, HE2.out.2.1, HE2.out.2.2.1, HE2.out.2.2.2.1, HM.out, HL.out.bb, HL.out.fr, HL.out.ch⟩
end Go.Proofs.Ytifieahnnklgcaa
