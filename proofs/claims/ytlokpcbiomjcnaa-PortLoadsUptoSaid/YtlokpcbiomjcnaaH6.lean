/- unchanged, walked. -/
import Derived.Test.YtlokpcbiomjcnaaH5
import Derived.Laws.StructEq
set_option linter.unusedVariables false
set_option linter.unusedSimpArgs false
namespace Go.Proofs.Ytlokpcbiomjcnaa
open Go.RowKit
def z8 : Array Value := #[.int .i64 0, .int .i64 0, .int .i64 0, .int .i64 0, .int .i64 0, .int .i64 0, .int .i64 0, .int .i64 0]
theorem eqA79 (w : World) : (Op.equalIn 10000 79 (.agg z8) (.agg z8)).run Try.prog w = .ok true w := by
  have u3 := Try.underlying3
  rw [show (10000 : Nat) = 9999 + 1 from rfl, Op.equalIn]
  simp only [Sem.run_bind, run_underlying Try.underlying79, Result.andThen_ok]
  simp only [Std.Legacy.Range.forIn_eq_forIn_range', Std.Legacy.Range.size, Nat.sub_zero, Nat.add_sub_cancel, Nat.div_one, List.range'_succ, List.range'_zero, List.forIn_cons, List.forIn_nil, z8]
  go_simp
theorem neq79 {a : Act} {o : Oper} {w : World} (x y : Operand) (ho : o.op = .binOp .neq 79 x y 79) (hx : a.eval x = .agg z8) (hy : a.eval y = .agg z8) :
    (execOp a.eval o).run Try.prog w = .ok (.value (.bool false)) w := by
  have h := eqA79 w
  unfold execOp
  simp only [ho, hx, hy]
  go_simp
theorem pl_valueW {P : Program} {ops : Array Oper} {rest : List Oper} {o : Oper} {a : Act} {Q : Exit → Act → World → Prop} {w : World} (hw : Region.wanted o (yielded ops a.tmps) = true) (v : Value)
    (hv : (execOp a.eval o).run P w = .ok (.value v) w) (h : wpList P ops Q rest (a.put o.dst v) w) : wpList P ops Q (o :: rest) a w :=
  wpList_want hw fun K hK => by
    unfold Oper.wp
    rw [hv]
    exact hK _ _ h
theorem mark_at {w : World} {g t n s : Nat} {L M r : List Value} (h : Row w g t (L ++ M ++ r)) (hl : L.length = n) {i : Nat} {v : Value} (hi : M[i]? = some v) : w.cell? ⟨g, n + i, none⟩ = some v := by
  have := (List.getElem?_eq_some_iff.1 hi).1
  rw [h.cell, List.append_assoc, List.getElem?_append_right (by omega), hl, Nat.add_sub_cancel_left, List.getElem?_append_left this]
  exact hi
set_option maxHeartbeats 8000000 in
set_option maxRecDepth 100000 in
theorem unchanged_calls {b b' : Nat} {w : World} {x : Value} {qs : List Pt} {gP cP gQ cQ : Nat} {ds : Nat → Ds} (h : Lent b w gP cP gQ cQ qs ds) (hx : Im b' w x qs) (hl : qs.length ≤ 1000) :
    Calls Try.prog 31 #[.agg #[.slice (some ⟨gP, 0, none⟩) 3 cP, .slice (some ⟨gQ, 0, none⟩) qs.length cQ, .slice none 0 0], x] w fun e w' => e = .returned (.bool true) ∧ Ch No w w' := by
  obtain ⟨vp, v, cs, rfl, h1, h2, h3⟩ := hx
  rcases owns_open_sz h2 with ⟨_, h0⟩ | ⟨gV, cV, rV, rfl, hbV, hrV, hnV, hmV, _⟩
  · omega
  obtain ⟨A2, c2, rfl⟩ := own_slice_len h1
  have HA2 : Hid (∀ (k : Nat) p, qs[k]? = some p → ∃ g, A2 = some ⟨g, 0, none⟩ ∧ w.rangeAt g (k * 6) p.cells) := fun k p hk => by
    rcases owns_open_sz h1 with ⟨hv, h0⟩ | ⟨g, cap, rest, hv, _, hr, _⟩
    · have := (List.getElem?_eq_some_iff.1 hk).1
      omega
    · simp only [Value.slice.injEq] at hv
      exact ⟨g, hv.1, pcells_range hr hk⟩
  have HLT := Lib.hid h
  have HRV := Lib.hid hrV
  have HCV := Lib.hid h3
  obtain ⟨n, hn⟩ : ∃ n, qs.length = n := ⟨_, rfl⟩
  rw [hn]
  have HN := Lib.hid hn
  rw [hn] at hl
  have hmx : maxLen ≤ 9223372036854775807 := by simp [maxLen]
  have hcP : 4 ≤ cP := h.pc.1
  have hcP2 : cP ≤ 9223372036854775807 := Nat.le_trans h.pc.2 hmx
  have hcQ : n + 1 ≤ cQ := by have := h.qc.1; rw [hn] at this; exact this
  have hcQ2 : cQ ≤ 9223372036854775807 := Nat.le_trans h.qc.2 hmx
  have HNL := Lib.hid hl
  clear h1 h2 h3 hrV hn hbV hnV hmV h hmx
  go_enter Try.func31, Try.ntmps31
  go_upto_region 1 with (fail)
  have HC2 : Hid (Ch No w ((w.alloc (.cells #[.slice (some ⟨gP, 0, none⟩) 3 cP, .slice (some ⟨gQ, 0, none⟩) n cQ, .slice none 0 0] 27)).alloc (.cells #[.slice (some ⟨gV, 0, none⟩) 3 cV, .slice A2 n c2, .slice none 0 0] 27))) := ((Ch.refl _ _).alloc _).alloc _
  have HY2 : Hid (Row ((w.alloc (.cells #[.slice (some ⟨gP, 0, none⟩) 3 cP, .slice (some ⟨gQ, 0, none⟩) n cQ, .slice none 0 0] 27)).alloc (.cells #[.slice (some ⟨gV, 0, none⟩) 3 cV, .slice A2 n c2, .slice none 0 0] 27)) w.heap.size 27 [.slice (some ⟨gP, 0, none⟩) 3 cP, .slice (some ⟨gQ, 0, none⟩) n cQ, .slice none 0 0]) := (Row.new w 27 [.slice (some ⟨gP, 0, none⟩) 3 cP, .slice (some ⟨gQ, 0, none⟩) n cQ, .slice none 0 0]).alloc _
  have HX2 : Hid (Row ((w.alloc (.cells #[.slice (some ⟨gP, 0, none⟩) 3 cP, .slice (some ⟨gQ, 0, none⟩) n cQ, .slice none 0 0] 27)).alloc (.cells #[.slice (some ⟨gV, 0, none⟩) 3 cV, .slice A2 n c2, .slice none 0 0] 27)) (w.heap.size + 1) 27 [.slice (some ⟨gV, 0, none⟩) 3 cV, .slice A2 n c2, .slice none 0 0]) := Row.new_at (w.alloc (.cells #[.slice (some ⟨gP, 0, none⟩) 3 cP, .slice (some ⟨gQ, 0, none⟩) n cQ, .slice none 0 0] 27)) 27 [.slice (some ⟨gV, 0, none⟩) 3 cV, .slice A2 n c2, .slice none 0 0] (by simp)
  generalize ((w.alloc (.cells #[.slice (some ⟨gP, 0, none⟩) 3 cP, .slice (some ⟨gQ, 0, none⟩) n cQ, .slice none 0 0] 27)).alloc (.cells #[.slice (some ⟨gV, 0, none⟩) 3 cV, .slice A2 n c2, .slice none 0 0] 27)) = w2 at *
  generalize w.heap.size + 1 = X at *
  generalize hY : w.heap.size = Y at *
  clear hY
  have y0 : w2.cell? ⟨Y, 0, none⟩ = some (.slice (some ⟨gP, 0, none⟩) 3 cP) := HY2.out.cell 0
  have y1 : w2.cell? ⟨Y, 1, none⟩ = some (.slice (some ⟨gQ, 0, none⟩) n cQ) := HY2.out.cell 1
  have x0 : w2.cell? ⟨X, 0, none⟩ = some (.slice (some ⟨gV, 0, none⟩) 3 cV) := HX2.out.cell 0
  have x1 : w2.cell? ⟨X, 1, none⟩ = some (.slice A2 n c2) := HX2.out.cell 1
  have m0 : w2.cell? ⟨gP, 67, none⟩ = some (.int .i64 (-77)) := by
    obtain ⟨r, hr⟩ := HLT.out.parts
    have := mark_at (n := 63) (s := 0) (hr.keepNo HC2.out) (flat21_len _ 3 (fun _ => rfl)) (i := 4) (v := .int .i64 (-77)) rfl
    exact this
  have m1 : w2.cell? ⟨gQ, n * 6 + 3, none⟩ = some (.int .i64 (-77)) := by
    obtain ⟨r, hr⟩ := HLT.out.ports
    have hpl := pcells_len qs
    rw [HN.out] at hpl
    exact mark_at (s := 0) (hr.keepNo HC2.out) hpl (i := 3) (v := .int .i64 (-77)) rfl
  have hw1 : wrap64 ((n : Int) + 1) = (n : Int) + 1 := by unfold wrap64; omega
  have hn0 : (0 : Int) ≤ (n : Int) + 1 := by omega
  have hn1 : ((n : Int) + 1).toNat = n + 1 := by omega
  have hn2 : (n : Int) + 1 ≤ (cQ : Int) := by omega
  have hn3 : n < n + 1 := by omega
  go_quiet (fail)
  have HCY : Hid (Ch No w2 (w2.drewN nq)) := (Ch.refl _ _).drewN nq
  clear y0 y1 x0 x1 m0 m1 hw1 hn0 hn1 hn2 hn3
  go_wp2_with (fail)
  go_loopw [5] (fun i wr => ∃ k : Nat, k ≤ n ∧ i = .int .i64 k ∧ Hid (Ch No w2 wr)) (fun i _ => n - (intOf i).toNat)
  case atStart => exact ⟨0, Nat.zero_le _, rfl, HCY⟩
  case round =>
    clear HCY
    obtain ⟨k, hk, rfl, HC⟩ := hrel
    have y1 : wr.cell? ⟨Y, 1, none⟩ = some (.slice (some ⟨gQ, 0, none⟩) n cQ) := (HY2.out.keepNo HC.out).cell 1
    have x1 : wr.cell? ⟨X, 1, none⟩ = some (.slice A2 n c2) := (HX2.out.keepNo HC.out).cell 1
    by_cases hlt : k < n
    · have e1 : decide ((k : Int) < (n : Int)) = true := by simp; omega
      obtain ⟨p, hp⟩ : ∃ p, qs[k]? = some p := ⟨_, List.getElem?_eq_getElem (by have := HN.out; omega)⟩
      obtain ⟨gU, rfl, hru⟩ := HA2.out k p hp
      have hrq : w.rangeAt gQ (k * 6) p.cells := by
        obtain ⟨r, hr⟩ := HLT.out.ports
        rw [List.append_assoc] at hr
        exact pcells_range hr hp
      have HU : Hid (∀ i v, p.cells[i]? = some v → wr.cell? ⟨gU, k * 6 + i, none⟩ = some v) := fun i v hi => (HC2.out.then_ HC.out).cell (not_no _) (hru i v hi)
      have HV : Hid (∀ i v, p.cells[i]? = some v → wr.cell? ⟨gQ, k * 6 + i, none⟩ = some v) := fun i v hi => (HC2.out.then_ HC.out).cell (not_no _) (hrq i v hi)
      clear hru hrq hp
      obtain ⟨pp, kind, out, size, depth, refresh⟩ := p
      have a0 := HU.out 0 _ rfl
      have a1 := HU.out 1 _ rfl
      have a2 := HU.out 2 _ rfl
      have a3 := HU.out 3 _ rfl
      have a4 := HU.out 4 _ rfl
      have a5 := HU.out 5 _ rfl
      have b0 := HV.out 0 _ rfl
      have b1 := HV.out 1 _ rfl
      have b2 := HV.out 2 _ rfl
      have b3 := HV.out 3 _ rfl
      have b4 := HV.out 4 _ rfl
      have b5 := HV.out 5 _ rfl
      simp only [Nat.add_zero] at a0 b0
      have hs46 : Try.prog.stoodInHeld 46 = false := by kernel_rfl
      clear HU HV
      go_upto_region 6 with (fail)
      go_quiet (fail)
      have HCQ : Hid (Ch No w2 (wr.drewN nq)) := HC.out.drewN nq
      clear a0 a1 a2 a3 a4 a5 b0 b1 b2 b3 b4 b5 hs46 x1 y1
      go_wp2_with (fail)
      exact ⟨⟨k + 1, by omega, by go_num, HCQ⟩, by simp [intOf]; omega⟩
    · have e1 : decide ((k : Int) < (n : Int)) = false := by simp; omega
      obtain rfl : k = n := by omega
      have HC3 : Hid (Ch No w wr) := HC2.out.then_ HC.out
      have HX3 := Lib.hid (HX2.out.keepNo HC.out)
      have HY3 := Lib.hid (HY2.out.keepNo HC.out)
      clear HC2 HX2 HY2 HC hcP hcP2 hcQ hcQ2 hl hk hlt
      go_wp2_with (fail)
      clear x1 y1 e1
      go_loopw [6] (fun i wx => ∃ j : Nat, j ≤ 3 ∧ i = .int .i64 j ∧ Hid (Ch No w wx) ∧ Hid (Row wx X 27 [.slice (some ⟨gV, 0, none⟩) 3 cV, .slice A2 k c2, .slice none 0 0]) ∧ Hid (Row wx Y 27 [.slice (some ⟨gP, 0, none⟩) 3 cP, .slice (some ⟨gQ, 0, none⟩) k cQ, .slice none 0 0])) (fun i _ => 3 - (intOf i).toNat)
      case atStart => exact ⟨0, Nat.zero_le _, rfl, HC3, HX3, HY3⟩
      case round =>
        clear HC3 HX3 HY3
        obtain ⟨j, hj, rfl, HC, HX, HY⟩ := hrel
        have y0 : wr.cell? ⟨Y, 0, none⟩ = some (.slice (some ⟨gP, 0, none⟩) 3 cP) := HY.out.cell 0
        have x0 : wr.cell? ⟨X, 0, none⟩ = some (.slice (some ⟨gV, 0, none⟩) 3 cV) := HX.out.cell 0
        by_cases hlt : j < 3
        · have e1 : decide ((j : Int) < 3) = true := by simp; omega
          have hrg := pparts_at (HRV.out.keepNo HC.out) hlt
          obtain ⟨⟨hc1, hc2, -, -⟩⟩ : Nonempty (Row w (cs j).1 74 instr0 ∧ Row w (cs j).2 77 proc0 ∧ b' ≤ (cs j).1 ∧ b' ≤ (cs j).2) := ⟨HCV.out j hlt⟩
          have hrl : wr.rangeAt gP (j * 21) (lcell j (ds j)) := by
            obtain ⟨r, hr⟩ := HLT.out.parts
            rw [List.append_assoc] at hr
            exact lparts_at (hr.keepNo HC.out) hlt
          obtain ⟨⟨rc, hdc⟩, ⟨rp, hdp⟩, -, -, hcc, hcp, hcc2, hcp2⟩ := HLT.out.cs j hlt
          generalize (cs j).1 = gc at *
          generalize (cs j).2 = gp at *
          generalize ds j = d at hdc hdp hcc hcp hcc2 hcp2 hrl
          obtain ⟨dc, cc, dp, cp⟩ := d
          have hcc : 2 ≤ cc := hcc
          have hcp : 2 ≤ cp := hcp
          have hcc2 : cc ≤ maxLen := hcc2
          have hcp2 : cp ≤ maxLen := hcp2
          obtain ⟨pc, hpc⟩ : ∃ pc : List Value, pc = pcell j gc gp := ⟨_, rfl⟩
          obtain ⟨qc, hqc⟩ : ∃ qc : List Value, qc = lcell j ⟨dc, cc, dp, cp⟩ := ⟨_, rfl⟩
          rw [← hpc] at hrg
          rw [← hqc] at hrl
          have HRG := Lib.hid hrg
          have HRL := Lib.hid hrl
          have HPC := Lib.hid hpc
          have HQC := Lib.hid hqc
          have HGC := Lib.hid hc1
          have HGP := Lib.hid hc2
          have HDC := Lib.hid hdc
          have HDP := Lib.hid hdp
          have HS84 : Hid ((Try.prog.info? 84).map (·.size) = some pc.length) := by rw [hpc]; exact size84
          have HT84 : Hid ((Try.prog.info? 84).map (·.size) = some qc.length) := by rw [hqc]; exact size84
          have HPL2 : Hid (pc.length = ([.int .i64 0, .int .i64 0, .int .i64 0, .int .i64 0, .int .i64 0, .int .i64 0, .slice none 0 0, .slice none 0 0, .slice none 0 0, .int .i64 0, .int .i64 0, .int .i64 0, .int .i64 0, .int .i64 0, .int .i64 0, .int .i64 0, .int .i64 0, .int .i64 0, .slice none 0 0, .slice none 0 0, .slice none 0 0] : List Value).length) := by rw [hpc]; rfl
          have HQL2 : Hid (qc.length = ([.int .i64 0, .int .i64 0, .int .i64 0, .int .i64 0, .int .i64 0, .int .i64 0, .slice none 0 0, .slice none 0 0, .slice none 0 0, .int .i64 0, .int .i64 0, .int .i64 0, .int .i64 0, .int .i64 0, .int .i64 0, .int .i64 0, .int .i64 0, .int .i64 0, .slice none 0 0, .slice none 0 0, .slice none 0 0] : List Value).length) := by rw [hqc]; rfl
          have HPO : Hid (∀ v ∈ pc, v.oneCell' = true) := by rw [hpc]; exact pcell_one _ _ _
          have HQO : Hid (∀ v ∈ qc, v.oneCell' = true) := by rw [hqc]; exact lcell_one _ _
          have HA4 : Hid (Ch No wr (wr.alloc (.cells #[.int .i64 0, .int .i64 0, .int .i64 0, .int .i64 0, .int .i64 0, .int .i64 0, .slice none 0 0, .slice none 0 0, .slice none 0 0, .int .i64 0, .int .i64 0, .int .i64 0, .int .i64 0, .int .i64 0, .int .i64 0, .int .i64 0, .int .i64 0, .int .i64 0, .slice none 0 0, .slice none 0 0, .slice none 0 0] 84))) := (Ch.refl _ _).alloc _
          have HZ4 : Hid (Row (wr.alloc (.cells #[.int .i64 0, .int .i64 0, .int .i64 0, .int .i64 0, .int .i64 0, .int .i64 0, .slice none 0 0, .slice none 0 0, .slice none 0 0, .int .i64 0, .int .i64 0, .int .i64 0, .int .i64 0, .int .i64 0, .int .i64 0, .int .i64 0, .int .i64 0, .int .i64 0, .slice none 0 0, .slice none 0 0, .slice none 0 0] 84)) wr.heap.size 84 [.int .i64 0, .int .i64 0, .int .i64 0, .int .i64 0, .int .i64 0, .int .i64 0, .slice none 0 0, .slice none 0 0, .slice none 0 0, .int .i64 0, .int .i64 0, .int .i64 0, .int .i64 0, .int .i64 0, .int .i64 0, .int .i64 0, .int .i64 0, .int .i64 0, .slice none 0 0, .slice none 0 0, .slice none 0 0]) := Row.new wr 84 _
          clear hrg hc1 hc2 hpc hrl hqc hdc hdp
          go_upto_region 12 with (first | ((with_reducible refine at_op (o := ⟨some 68, _, _, _, _, _⟩) ?_); refine wpList_load_mid (op := ⟨some 68, _, _, _, _, _⟩) rfl 84 _ rfl gV (j * 21) rfl pc _ HRG.out Try.underlying84 rfl HS84.out ?_) | ((with_reducible refine at_op (o := ⟨none, .store 84 (.tmp 7) (.tmp 68), _, _, _, _⟩) ?_); refine wpList_store_agg (o := ⟨none, .store 84 (.tmp 7) (.tmp 68), _, _, _, _⟩) rfl 84 (.tmp 7) (.tmp 68) rfl wr.heap.size rfl 84 [.int .i64 0, .int .i64 0, .int .i64 0, .int .i64 0, .int .i64 0, .int .i64 0, .slice none 0 0, .slice none 0 0, .slice none 0 0, .int .i64 0, .int .i64 0, .int .i64 0, .int .i64 0, .int .i64 0, .int .i64 0, .int .i64 0, .int .i64 0, .int .i64 0, .slice none 0 0, .slice none 0 0, .slice none 0 0] pc rfl HZ4.out HS84.out HPL2.out HPO.out ?_; intro w5 hr5 hc5; have HP5 := Lib.hid hr5; have HC5' := Lib.hid hc5; clear hr5 hc5))
          have HC5 : Hid (Ch No wr w5) := ch_newg HA4.out HC5'.out (Nat.le_refl _)
          have HX5 := Lib.hid (HX.out.keepNo HC5.out)
          have HY5 := Lib.hid (HY.out.keepNo HC5.out)
          have HRL5 : Hid (w5.rangeAt gP (j * 21) qc) := fun i v hi => HC5.out.cell (not_no _) (HRL.out i v hi)
          generalize wr.heap.size = P at *
          clear x0 y0 HZ4 HC5' HA4 HRG HRL
          have y0 : w5.cell? ⟨Y, 0, none⟩ = some (.slice (some ⟨gP, 0, none⟩) 3 cP) := HY5.out.cell 0
          have HA4 : Hid (Ch No w5 (w5.alloc (.cells #[.int .i64 0, .int .i64 0, .int .i64 0, .int .i64 0, .int .i64 0, .int .i64 0, .slice none 0 0, .slice none 0 0, .slice none 0 0, .int .i64 0, .int .i64 0, .int .i64 0, .int .i64 0, .int .i64 0, .int .i64 0, .int .i64 0, .int .i64 0, .int .i64 0, .slice none 0 0, .slice none 0 0, .slice none 0 0] 84))) := (Ch.refl _ _).alloc _
          have HZ4 : Hid (Row (w5.alloc (.cells #[.int .i64 0, .int .i64 0, .int .i64 0, .int .i64 0, .int .i64 0, .int .i64 0, .slice none 0 0, .slice none 0 0, .slice none 0 0, .int .i64 0, .int .i64 0, .int .i64 0, .int .i64 0, .int .i64 0, .int .i64 0, .int .i64 0, .int .i64 0, .int .i64 0, .slice none 0 0, .slice none 0 0, .slice none 0 0] 84)) w5.heap.size 84 [.int .i64 0, .int .i64 0, .int .i64 0, .int .i64 0, .int .i64 0, .int .i64 0, .slice none 0 0, .slice none 0 0, .slice none 0 0, .int .i64 0, .int .i64 0, .int .i64 0, .int .i64 0, .int .i64 0, .int .i64 0, .int .i64 0, .int .i64 0, .int .i64 0, .slice none 0 0, .slice none 0 0, .slice none 0 0]) := Row.new w5 84 _
          go_upto_region 13 with (first | ((with_reducible refine at_op (o := ⟨some 73, _, _, _, _, _⟩) ?_); refine wpList_load_mid (op := ⟨some 73, _, _, _, _, _⟩) rfl 84 _ rfl gP (j * 21) rfl qc _ HRL5.out Try.underlying84 rfl HT84.out ?_) | ((with_reducible refine at_op (o := ⟨none, .store 84 (.tmp 8) (.tmp 73), _, _, _, _⟩) ?_); refine wpList_store_agg (o := ⟨none, .store 84 (.tmp 8) (.tmp 73), _, _, _, _⟩) rfl 84 (.tmp 8) (.tmp 73) rfl w5.heap.size rfl 84 [.int .i64 0, .int .i64 0, .int .i64 0, .int .i64 0, .int .i64 0, .int .i64 0, .slice none 0 0, .slice none 0 0, .slice none 0 0, .int .i64 0, .int .i64 0, .int .i64 0, .int .i64 0, .int .i64 0, .int .i64 0, .int .i64 0, .int .i64 0, .int .i64 0, .slice none 0 0, .slice none 0 0, .slice none 0 0] qc rfl HZ4.out HT84.out HQL2.out HQO.out ?_; intro w6 hr6 hc6; have HQ6 := Lib.hid hr6; have HC6' := Lib.hid hc6; clear hr6 hc6))
          have HC6 : Hid (Ch No w5 w6) := ch_newg HA4.out HC6'.out (Nat.le_refl _)
          have HP6 := Lib.hid (HP5.out.keepNo HC6.out)
          have HX6 := Lib.hid (HX5.out.keepNo HC6.out)
          have HY6 := Lib.hid (HY5.out.keepNo HC6.out)
          have HCW := Lib.hid ((HC.out.then_ HC5.out).then_ HC6.out)
          generalize w5.heap.size = Q at *
          clear y0 HZ4 HC6' HA4 HRL5 HX5 HY5 HC5 HC6 HP5 HX HY HC HS84 HT84 HPL2 HQL2 HPO HQO
          have p0 : w6.cell? ⟨P, 0, none⟩ = some (.int .i64 8) := by rw [HP6.out.cell, HPC.out]; rfl
          have p1 : w6.cell? ⟨P, 1, none⟩ = some (.int .i64 1) := by rw [HP6.out.cell, HPC.out]; rfl
          have p2 : w6.cell? ⟨P, 2, none⟩ = some (.int .i64 (j : Int)) := by rw [HP6.out.cell, HPC.out]; rfl
          have p3 : w6.cell? ⟨P, 3, none⟩ = some (.int .i64 ((j : Int) + 1)) := by rw [HP6.out.cell, HPC.out]; rfl
          have p4 : w6.cell? ⟨P, 4, none⟩ = some (.int .i64 0) := by rw [HP6.out.cell, HPC.out]; rfl
          have p5 : w6.cell? ⟨P, 5, none⟩ = some (.int .i64 0) := by rw [HP6.out.cell, HPC.out]; rfl
          have p7 : w6.cell? ⟨P, 7, none⟩ = some (.slice (some ⟨gc, 0, none⟩) 1 1) := by rw [HP6.out.cell, HPC.out]; rfl
          have p8 : w6.cell? ⟨P, 8, none⟩ = some (.slice (some ⟨gp, 0, none⟩) 1 1) := by rw [HP6.out.cell, HPC.out]; rfl
          have p9 : w6.cell? ⟨P, 9, none⟩ = some (.int .i64 0) := by rw [HP6.out.cell, HPC.out]; rfl
          have p10 : w6.cell? ⟨P, 10, none⟩ = some (.int .i64 0) := by rw [HP6.out.cell, HPC.out]; rfl
          have p11 : w6.cell? ⟨P, 11, none⟩ = some (.int .i64 0) := by rw [HP6.out.cell, HPC.out]; rfl
          have p12 : w6.cell? ⟨P, 12, none⟩ = some (.int .i64 0) := by rw [HP6.out.cell, HPC.out]; rfl
          have p13 : w6.cell? ⟨P, 13, none⟩ = some (.int .i64 0) := by rw [HP6.out.cell, HPC.out]; rfl
          have p14 : w6.cell? ⟨P, 14, none⟩ = some (.int .i64 0) := by rw [HP6.out.cell, HPC.out]; rfl
          have p15 : w6.cell? ⟨P, 15, none⟩ = some (.int .i64 0) := by rw [HP6.out.cell, HPC.out]; rfl
          have p16 : w6.cell? ⟨P, 16, none⟩ = some (.int .i64 0) := by rw [HP6.out.cell, HPC.out]; rfl
          have p17 : w6.cell? ⟨P, 17, none⟩ = some (.int .i64 0) := by rw [HP6.out.cell, HPC.out]; rfl
          have q0 : w6.cell? ⟨Q, 0, none⟩ = some (.int .i64 8) := by rw [HQ6.out.cell, HQC.out]; rfl
          have q1 : w6.cell? ⟨Q, 1, none⟩ = some (.int .i64 1) := by rw [HQ6.out.cell, HQC.out]; rfl
          have q2 : w6.cell? ⟨Q, 2, none⟩ = some (.int .i64 (j : Int)) := by rw [HQ6.out.cell, HQC.out]; rfl
          have q3 : w6.cell? ⟨Q, 3, none⟩ = some (.int .i64 ((j : Int) + 1)) := by rw [HQ6.out.cell, HQC.out]; rfl
          have q4 : w6.cell? ⟨Q, 4, none⟩ = some (.int .i64 0) := by rw [HQ6.out.cell, HQC.out]; rfl
          have q5 : w6.cell? ⟨Q, 5, none⟩ = some (.int .i64 0) := by rw [HQ6.out.cell, HQC.out]; rfl
          have q7 : w6.cell? ⟨Q, 7, none⟩ = some (.slice (some ⟨dc, 0, none⟩) 1 cc) := by rw [HQ6.out.cell, HQC.out]; rfl
          have q8 : w6.cell? ⟨Q, 8, none⟩ = some (.slice (some ⟨dp, 0, none⟩) 1 cp) := by rw [HQ6.out.cell, HQC.out]; rfl
          have q9 : w6.cell? ⟨Q, 9, none⟩ = some (.int .i64 0) := by rw [HQ6.out.cell, HQC.out]; rfl
          have q10 : w6.cell? ⟨Q, 10, none⟩ = some (.int .i64 0) := by rw [HQ6.out.cell, HQC.out]; rfl
          have q11 : w6.cell? ⟨Q, 11, none⟩ = some (.int .i64 0) := by rw [HQ6.out.cell, HQC.out]; rfl
          have q12 : w6.cell? ⟨Q, 12, none⟩ = some (.int .i64 0) := by rw [HQ6.out.cell, HQC.out]; rfl
          have q13 : w6.cell? ⟨Q, 13, none⟩ = some (.int .i64 0) := by rw [HQ6.out.cell, HQC.out]; rfl
          have q14 : w6.cell? ⟨Q, 14, none⟩ = some (.int .i64 0) := by rw [HQ6.out.cell, HQC.out]; rfl
          have q15 : w6.cell? ⟨Q, 15, none⟩ = some (.int .i64 0) := by rw [HQ6.out.cell, HQC.out]; rfl
          have q16 : w6.cell? ⟨Q, 16, none⟩ = some (.int .i64 0) := by rw [HQ6.out.cell, HQC.out]; rfl
          have q17 : w6.cell? ⟨Q, 17, none⟩ = some (.int .i64 0) := by rw [HQ6.out.cell, HQC.out]; rfl
          have hs72 : Try.prog.stoodInHeld 72 = false := by kernel_rfl
          go_upto_region 15 with (first | ((with_reducible refine at_op (o := ⟨some 105, _, _, _, _, _⟩) ?_); refine pl_valueW (o := ⟨some 105, _, _, _, _, _⟩) rfl (.bool false) (neq79 (.tmp 102) (.tmp 104) rfl rfl rfl) ?_))
          clear p0 p1 p2 p3 p4 p5 p9 p10 p11 p12 p13 p14 p15 p16 p17 q0 q1 q2 q3 q4 q5 q9 q10 q11 q12 q13 q14 q15 q16 q17 hs72
          have g1 : decide ((cc : Int) < 2) = false := by simp; omega
          have g2 : decide ((cp : Int) < 2) = false := by simp; omega
          go_upto_region 17 with (fail)
          clear g1 g2
          have hmx : maxLen ≤ 9223372036854775807 := by simp [maxLen]
          have k1 : cc ≤ 9223372036854775807 := Nat.le_trans hcc2 hmx
          have k2 : cp ≤ 9223372036854775807 := Nat.le_trans hcp2 hmx
          have k3 : (2 : Int) ≤ (cc : Int) := by omega
          have k4 : (2 : Int) ≤ (cp : Int) := by omega
          clear hmx hcc2 hcp2
          have a0 : w6.cell? ⟨gc, 0, none⟩ = some (.int .u8 0) := by rw [(HGC.out.keepNo HCW.out).cell]; rfl
          have a1 : w6.cell? ⟨gc, 1, none⟩ = some (.int .u8 0) := by rw [(HGC.out.keepNo HCW.out).cell]; rfl
          have a2 : w6.cell? ⟨gc, 2, none⟩ = some (.int .u8 0) := by rw [(HGC.out.keepNo HCW.out).cell]; rfl
          have a3 : w6.cell? ⟨gc, 3, none⟩ = some (.int .u8 0) := by rw [(HGC.out.keepNo HCW.out).cell]; rfl
          have a4 : w6.cell? ⟨gc, 4, none⟩ = some (.int .i32 0) := by rw [(HGC.out.keepNo HCW.out).cell]; rfl
          have b0 : w6.cell? ⟨gp, 0, none⟩ = some (.int .i64 0) := by rw [(HGP.out.keepNo HCW.out).cell]; rfl
          have b1 : w6.cell? ⟨gp, 1, none⟩ = some (.int .i64 0) := by rw [(HGP.out.keepNo HCW.out).cell]; rfl
          have b2 : w6.cell? ⟨gp, 2, none⟩ = some (.int .i64 0) := by rw [(HGP.out.keepNo HCW.out).cell]; rfl
          have b3 : w6.cell? ⟨gp, 3, none⟩ = some (.int .i64 0) := by rw [(HGP.out.keepNo HCW.out).cell]; rfl
          have b4 : w6.cell? ⟨gp, 4, none⟩ = some (.int .i64 0) := by rw [(HGP.out.keepNo HCW.out).cell]; rfl
          have b5 : w6.cell? ⟨gp, 5, none⟩ = some (.bool false) := by rw [(HGP.out.keepNo HCW.out).cell]; rfl
          have t0 : w6.cell? ⟨dc, 0, none⟩ = some (.int .u8 0) := by rw [(HDC.out.keepNo HCW.out).cell]; rfl
          have t1 : w6.cell? ⟨dc, 1, none⟩ = some (.int .u8 0) := by rw [(HDC.out.keepNo HCW.out).cell]; rfl
          have t2 : w6.cell? ⟨dc, 2, none⟩ = some (.int .u8 0) := by rw [(HDC.out.keepNo HCW.out).cell]; rfl
          have t3 : w6.cell? ⟨dc, 3, none⟩ = some (.int .u8 0) := by rw [(HDC.out.keepNo HCW.out).cell]; rfl
          have t4 : w6.cell? ⟨dc, 4, none⟩ = some (.int .i32 0) := by rw [(HDC.out.keepNo HCW.out).cell]; rfl
          have d0 : w6.cell? ⟨dp, 0, none⟩ = some (.int .i64 0) := by rw [(HDP.out.keepNo HCW.out).cell]; rfl
          have d1 : w6.cell? ⟨dp, 1, none⟩ = some (.int .i64 0) := by rw [(HDP.out.keepNo HCW.out).cell]; rfl
          have d2 : w6.cell? ⟨dp, 2, none⟩ = some (.int .i64 0) := by rw [(HDP.out.keepNo HCW.out).cell]; rfl
          have d3 : w6.cell? ⟨dp, 3, none⟩ = some (.int .i64 0) := by rw [(HDP.out.keepNo HCW.out).cell]; rfl
          have d4 : w6.cell? ⟨dp, 4, none⟩ = some (.int .i64 0) := by rw [(HDP.out.keepNo HCW.out).cell]; rfl
          have d5 : w6.cell? ⟨dp, 5, none⟩ = some (.bool false) := by rw [(HDP.out.keepNo HCW.out).cell]; rfl
          have t9 : w6.cell? ⟨dc, 9, none⟩ = some (.int .i32 (-77)) := by rw [(HDC.out.keepNo HCW.out).cell]; rfl
          have d6 : w6.cell? ⟨dp, 6, none⟩ = some (.int .i64 (-77)) := by rw [(HDP.out.keepNo HCW.out).cell]; rfl
          have hs74 : Try.prog.stoodInHeld 74 = false := by kernel_rfl
          have hs77 : Try.prog.stoodInHeld 77 = false := by kernel_rfl
          go_quiet (fail)
          have HCE : Hid (Ch No w (w6.drewN nq)) := HCW.out.drewN nq
          have HXE : Hid (Row (w6.drewN nq) X 27 [.slice (some ⟨gV, 0, none⟩) 3 cV, .slice A2 k c2, .slice none 0 0]) := HX6.out.keepNo ((Ch.refl _ _).drewN nq)
          have HYE : Hid (Row (w6.drewN nq) Y 27 [.slice (some ⟨gP, 0, none⟩) 3 cP, .slice (some ⟨gQ, 0, none⟩) k cQ, .slice none 0 0]) := HY6.out.keepNo ((Ch.refl _ _).drewN nq)
          clear a0 a1 a2 a3 a4 b0 b1 b2 b3 b4 b5 t0 t1 t2 t3 t4 t9 d0 d1 d2 d3 d4 d5 d6 hs74 hs77 p7 p8 q7 q8 k1 k2 k3 k4
          go_wp2_with (fail)
          exact ⟨⟨j + 1, by omega, by go_num, HCE, HXE, HYE⟩, by simp [intOf]; omega⟩
        · have e1 : decide ((j : Int) < 3) = false := by simp; omega
          obtain rfl : j = 3 := by omega
          go_wp2
          go_ret
          exact ⟨rfl, HC.out⟩
end Go.Proofs.Ytlokpcbiomjcnaa
