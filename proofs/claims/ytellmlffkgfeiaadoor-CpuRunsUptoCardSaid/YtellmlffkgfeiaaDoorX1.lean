/- cpu.Run and the document's answer for it: what each answers. -/
import Derived.Test.YtellmlffkgfeiaaDoorW4
import Derived.Deep.Onto
set_option linter.unusedVariables false
set_option linter.unusedSimpArgs false
namespace Go.Proofs.YtellmlffkgfeiaaDoor
open Go.RowKit
set_option maxRecDepth 100000 in
set_option maxHeartbeats 8000000 in
theorem runI_calls (A : Option Addr) (cs : List Ins) (cap : Nat) (hl : cs.length ≤ 9223372036854775807) (hcs : ∀ x ∈ cs, x.ok) (M : Option Addr) (xs : List Int) (mcap : Nat) (hm : xs.length * 8 ≤ 140737488355328) (hxs : ∀ x ∈ xs, In64 x) (fixed : Int) (r : Nat → Int) (hin : ∀ i, i < 16 → In64 (r i)) (pc : Int) (mo : Int) (hmost : mo ≤ 1048576) (most : Nat) (hmo : most = mo.toNat) (w : World)
    (hcode : Cl w A (codeCells cs)) (hM : Cl w M (ints xs)) (hg : Glob w) :
    Calls Tryd.prog 23 #[.slice A cs.length cap, .slice M xs.length mcap, .int .i64 fixed, .agg (regCells r).toArray, .int .i64 pc, .int .i64 mo] w fun e w' => ∃ v', e = .returned (.tuple #[.agg (effCells (runS cs fixed (start r pc xs) most).e).toArray, v', .int .i64 ((runS cs fixed (start r pc xs) most).n : Int)]) ∧
      w'.ownsRow w.heap.size 2 1 v' (ints (runS cs fixed (start r pc xs) most).m).length (ints (runS cs fixed (start r pc xs) most).m) ∧ Ch No w w' := by
  have HGOOD : Hid (∀ k, Good cs xs.length (runS cs fixed (start r pc xs) k)) := runS_good hcs hl (start_good hin hxs)
  have HG := Lib.hid hg
  have HCODE := Lib.hid hcode
  have HMM := Lib.hid hM
  have HCS := Lib.hid hcs
  have HCL : Hid (∀ w', Ch No w w' → Calls Tryd.prog 33 #[.slice M xs.length mcap] w' fun e w'' => ∃ v', e = .returned v' ∧ w''.ownsRow w'.heap.size 2 1 v' (ints xs).length (ints xs) ∧ Ch No w' w'') := fun w' hw' => clone_calls M xs mcap hm w' (hM.keepNo hw')
  have HSR := Lib.hid (sizeR r)
  have HZ : Hid (Row (((w.alloc (.cells (regCells r).toArray 24)).alloc (.cells (effCells zeroEff).toArray 30)).alloc (.cells (effCells zeroEff).toArray 30)) (w.heap.size + 1 + 1) 30 (effCells zeroEff)) := Row.new_at _ 30 (effCells zeroEff) (by simp)
  have HZR : Hid (Row ((w.alloc (.cells (regCells r).toArray 24)).alloc (.cells (effCells zeroEff).toArray 30)) (w.heap.size + 1) 30 (effCells zeroEff)) := Row.new_at _ 30 (effCells zeroEff) (by simp)
  have HRG := Lib.hid (Row.new w 24 (regCells r))
  have HMO := Lib.hid hmo
  clear hg hcode hM hcs hin hxs hmo
  go_enter Tryd.func23, Tryd.ntmps23
  go_wp2_with (first | ((with_reducible refine at_op (o := ⟨some 17, _, _, _, _, _⟩) ?_); refine pl_load (o := ⟨some 17, _, _, _, _, _⟩) rfl 24 _ rfl w.heap.size rfl 24 (regCells r) (HRG.out.alloc _) _ Tryd.underlying24 rfl HSR.out ?_) | ((with_reducible refine at_op (o := ⟨some 19, _, _, _, _, _⟩) ?_); refine pl_build2 (o := ⟨some 19, _, _, _, _, _⟩) rfl (.tmp 17) (.tmp 18) rfl r pc rfl rfl ?_) | ((with_reducible refine at_op (o := ⟨none, .store 30 (.tmp 15) (.tmp 19), _, _, _, _⟩) ?_); refine pl_store (o := ⟨none, .store 30 (.tmp 15) (.tmp 19), _, _, _, _⟩) rfl 30 (.tmp 15) (.tmp 19) rfl (w.heap.size + 1 + 1) rfl 30 (effCells zeroEff) (effCells (eff0 r pc 0)) rfl (HZ.out) (sizeE _) (lenE _ _) (eff_one _) ?_; intro w1 hr1 hc1; have HR1 := Lib.hid hr1; have HC1 := Lib.hid hc1; clear hr1 hc1))
  refine (HCL.out _ ((((((Ch.refl No w).alloc _).alloc _).alloc _).trans HC1.out (fun i hi he => by cases he; omega)))).mono ?_
  rintro e w2 ⟨v', rfl, ho2, hc2⟩
  have HC2 : Hid (Ch No w w2) := (((((Ch.refl No w).alloc _).alloc _).alloc _).trans HC1.out (fun i hi he => by cases he; omega)).then_ hc2
  have HR2 := Lib.hid (HR1.out.keepNo hc2)
  have HZ2 := Lib.hid (((HZR.out.alloc _).keepIs HC1.out (by omega)).keepNo hc2)
  have HO2 : Hid (w2.ownsRow w.heap.size 2 1 v' (ints xs).length (ints xs)) := ho2.mono (by have := HC1.out.size; simp at this; omega)
  clear ho2 hc2 HC1 HR1 HZ HRG HCL
  have hlt2 : w.heap.size + 1 + 1 < w2.heap.size := HR2.out.lt
  generalize hS : runS cs fixed (start r pc xs) = S at *
  have hS0 : S 0 = start r pc xs := by rw [← hS]; rfl
  have HS := Lib.hid hS
  have HS0 := Lib.hid hS0
  clear hS hS0
  go_wp2_with (fail)
  go_loopw [16] (fun i wr => ∃ k : Nat, k ≤ most ∧ i = .int .i64 k ∧ Hid ((S k).n = k) ∧ Hid (Row wr (w.heap.size + 1 + 1) 30 (effCells (S k).e)) ∧ Hid (Row wr (w.heap.size + 1) 30 (effCells zeroEff)) ∧ Hid (wr.ownsRow w.heap.size 2 1 v' (ints (S k).m).length (ints (S k).m)) ∧ Hid (Ch No w wr)) (fun i _ => most - (intOf i).toNat)
  case atStart => exact ⟨0, by omega, rfl, by rw [HS0.out]; rfl, by rw [HS0.out]; exact HR2, by exact HZ2, by rw [HS0.out]; exact HO2, by exact HC2⟩
  case round =>
    obtain ⟨k, hk, rfl, HN, HR, HZ, HO, HC⟩ := hrel
    have HGD := Lib.hid (HGOOD.out k)
    have HSTEP : Hid (goes (S k).e = true → S (k + 1) = stepS cs fixed (S k)) := by show _ → _; rw [← HS.out]; exact runS_go
    have HSTOP : Hid (k = most ∨ goes (S k).e = false → S most = S k) := by show _ → _; rw [← HS.out]; exact runS_to hk
    generalize hs : S k = s at *
    clear hs
    have f20 : wr.cell? ⟨w.heap.size + 1 + 1, 20, none⟩ = some (.int .i64 s.e.fault) := row_rest HR.out 4
    have f21 : wr.cell? ⟨w.heap.size + 1 + 1, 21, none⟩ = some (.int .i64 s.e.call) := row_rest HR.out 5
    have hltr : w.heap.size + 1 + 1 < wr.heap.size := HR.out.lt
    by_cases hlt : k < most
    · have hk1 : (k : Int) < mo := by have := HMO.out; omega
      by_cases hf : s.e.fault = 0
      · have b0 : (s.e.fault == 0) = true := by simpa using hf
        by_cases hcl : s.e.call = 0
        · have b1 : (s.e.call == 0) = true := by simpa using hcl
          have HGO : Hid (S (k + 1) = stepS cs fixed s) := HSTEP.out (by unfold goes; rw [b0, b1]; rfl)
          clear HSTEP HSTOP hf hcl
          obtain ⟨O, oc, hv, hoc, hocl⟩ := owns_cl HO.out
          have f16 : wr.cell? ⟨w.heap.size + 1 + 1, 16, none⟩ = some (.int .i64 s.e.pc) := row_rest HR.out 0
          have HCALL := Lib.hid (step_calls A cs cap hl HCS.out O s.m oc (by have := HGD.out.len; omega) hoc fixed s.e.r HGD.out.regs s.e.pc wr)
          generalize hE : stepF cs s.m fixed s.e.r s.e.pc = E at *
          have HGO' : Hid (S (k + 1) = ⟨E, writes E s.m, s.n + 1⟩) := by show _ = _; rw [HGO.out]; unfold stepS; rw [hE]
          have HST : Hid (E.st = true → 0 ≤ E.addr ∧ E.addr < s.m.length) := by
            show _ → _
            rw [← hE]
            intro h
            exact ⟨(step_store h).1, (step_store h).2.1⟩
          clear hE HGO
          have HNN : Hid ((S (k + 1)).n = k + 1) := by show _ = _; rw [HGO'.out]; show s.n + 1 = _; rw [HN.out]
          by_cases hst : E.st = true
          · obtain ⟨ha0, ha1⟩ := HST.out hst
            obtain ⟨a, haE⟩ := Int.eq_ofNat_of_zero_le ha0
            have haL : a < s.m.length := by omega
            obtain ⟨gm, mc, rest, hv2, hgb, hgr, hgl, hgm, hgc⟩ := owns_at HO.out a haL
            have HGR := Lib.hid hgr
            have HNE : Hid (gm ≠ w.heap.size + 1 + 1 ∧ gm ≠ w.heap.size + 1) := ⟨fun e => absurd (HR.out.eq_ (e ▸ hgr)).1 (by decide), fun e => absurd (HZ.out.eq_ (e ▸ hgr)).1 (by decide)⟩
            have HF4 : Hid (∀ w3 w4 : World, Ch No wr w3 → Row w4 (w.heap.size + 1 + 1) 30 (effCells E) → Ch (Is (w.heap.size + 1 + 1)) w3 w4 → w4.cell? ⟨w.heap.size + 1 + 1, 17, none⟩ = some (.bool true) ∧ w4.cell? ⟨w.heap.size + 1 + 1, 18, none⟩ = some (.int .i64 (a : Int)) ∧ w4.cell? ⟨w.heap.size + 1 + 1, 19, none⟩ = some (.int .i64 E.val) ∧ w4.cell? ⟨gm, a, none⟩ = some (.int .i64 (rd s.m a)) ∧ w4.frozen? ⟨gm, a, none⟩ = false ∧ Row w4 gm 2 (ints s.m ++ rest) ∧ Row w4 (w.heap.size + 1) 30 (effCells zeroEff)) := by
              show ∀ w3 w4 : World, _
              intro w3 w4 h3 h4 h5
              have hgm4 : Row w4 gm 2 (ints s.m ++ rest) := (HGR.out.keepNo h3).keepIs h5 HNE.out.1
              refine ⟨?_, ?_, row_rest h4 3, row_rd hgm4 a haL, hgm4.frozen a, hgm4, (HZ.out.keepNo h3).keepIs h5 (by omega)⟩
              · rw [← hst]; exact row_rest h4 1
              · have e : (a : Int) = E.addr := haE.symm
                rw [e]; exact row_rest h4 2
            have ha2 : (a : Int) < (s.m.length : Int) := by omega
            have ha3 : (0 : Int) ≤ (a : Int) := by omega
            have HW : Hid (writes E s.m = s.m.set a E.val) := by show _ = _; unfold writes; rw [if_pos hst, haE]; rfl
            subst hv2
            simp only [Value.slice.injEq] at hv
            obtain ⟨hv1, -, hv3⟩ := hv
            subst hv1
            subst hv3
            have HCL2 := Lib.hid hocl
            have HGL := Lib.hid hgl
            have HGM := Lib.hid hgm
            clear hst haE ha0 ha1 hgr hgc hocl HST hgl hgm
            go_wp2_with (first | ((with_reducible refine at_op (o := ⟨some 39, _, _, _, _, _⟩) ?_); refine wpList_load_mid (op := ⟨some 39, _, _, _, _, _⟩) rfl 24 _ rfl (w.heap.size + 1 + 1) 0 rfl (regCells s.e.r) _ (eff_range HR.out) Tryd.underlying24 rfl (sizeR _) ?_) | (go_at_call 12; refine (HCALL.out (HCODE.out.keepNo HC.out) HCL2.out (HG.out.keep HC.out (not_no _))).mono ?_; rintro e w3 ⟨rfl, hc3⟩; have HC3 := Lib.hid hc3; clear hc3) | ((with_reducible refine at_op (o := ⟨none, .store 30 (.tmp 15) (.tmp 42), _, _, _, _⟩) ?_); refine pl_store (o := ⟨none, .store 30 (.tmp 15) (.tmp 42), _, _, _, _⟩) rfl 30 (.tmp 15) (.tmp 42) rfl (w.heap.size + 1 + 1) rfl 30 (effCells s.e) (effCells E) rfl (HR.out.keepNo HC3.out) (sizeE _) (lenE _ _) (eff_one _) ?_; intro w4 hr4 hc4; obtain ⟨f17, f18, f19, fg, ff, hr5, hz5⟩ := HF4.out _ _ HC3.out hr4 hc4; have HR4 := Lib.hid hr4; have HC4 := Lib.hid hc4; have HR5 := Lib.hid hr5; have HZ5 := Lib.hid hz5; clear hr4 hc4 hr5 hz5))
            go_roundw
            case rel =>
              refine ⟨k + 1, by omega, by go_num, HNN, ?_, ?_, ?_, ?_⟩
              · rw [HGO'.out]
                exact HR4.out.setOther (fun e => HNE.out.1 e.symm) _
              · exact HZ5.out.setOther (fun e => HNE.out.2 e.symm) _
              · rw [HGO'.out]
                show World.ownsRow _ _ _ _ _ (ints (writes E s.m)).length (ints (writes E s.m))
                rw [HW.out]
                have := HR5.out.set_ a (.int .i64 E.val)
                rw [set_ints _ _ _ haL] at this
                have h8 := owns_mk hgb this (by rw [ints_length, List.length_set]; have := HGL.out; have := HGM.out; rw [ints_length] at *; omega)
                have e9 : (ints (s.m.set a E.val)).length + rest.length = mc := by have := HGL.out; rw [ints_length, List.length_set]; rw [ints_length] at this; exact this
                rw [e9, ints_length, List.length_set] at h8
                rw [ints_length, List.length_set]
                exact h8
              · exact ((HC.out.then_ HC3.out).trans HC4.out (fun i hi he => by cases he; omega)).setCell (fun hh => absurd hh (by simp; omega)) _
            case measure => simp [intOf]; omega
          · have hst' : E.st = false := by simpa using hst
            have HF4 : Hid (∀ w3 w4 : World, Ch No wr w3 → Row w4 (w.heap.size + 1 + 1) 30 (effCells E) → Ch (Is (w.heap.size + 1 + 1)) w3 w4 → w4.cell? ⟨w.heap.size + 1 + 1, 17, none⟩ = some (.bool false) ∧ Row w4 (w.heap.size + 1) 30 (effCells zeroEff)) := by
              show ∀ w3 w4 : World, _
              intro w3 w4 h3 h4 h5
              refine ⟨?_, (HZ.out.keepNo h3).keepIs h5 (by omega)⟩
              rw [← hst']; exact row_rest h4 1
            have HW : Hid (writes E s.m = s.m) := by show _ = _; unfold writes; rw [if_neg hst]
            have HCL2 := Lib.hid hocl
            subst hv
            clear hst hst' hocl HST
            go_wp2_with (first | ((with_reducible refine at_op (o := ⟨some 39, _, _, _, _, _⟩) ?_); refine wpList_load_mid (op := ⟨some 39, _, _, _, _, _⟩) rfl 24 _ rfl (w.heap.size + 1 + 1) 0 rfl (regCells s.e.r) _ (eff_range HR.out) Tryd.underlying24 rfl (sizeR _) ?_) | (go_at_call 12; refine (HCALL.out (HCODE.out.keepNo HC.out) HCL2.out (HG.out.keep HC.out (not_no _))).mono ?_; rintro e w3 ⟨rfl, hc3⟩; have HC3 := Lib.hid hc3; clear hc3) | ((with_reducible refine at_op (o := ⟨none, .store 30 (.tmp 15) (.tmp 42), _, _, _, _⟩) ?_); refine pl_store (o := ⟨none, .store 30 (.tmp 15) (.tmp 42), _, _, _, _⟩) rfl 30 (.tmp 15) (.tmp 42) rfl (w.heap.size + 1 + 1) rfl 30 (effCells s.e) (effCells E) rfl (HR.out.keepNo HC3.out) (sizeE _) (lenE _ _) (eff_one _) ?_; intro w4 hr4 hc4; obtain ⟨f17, hz5⟩ := HF4.out _ _ HC3.out hr4 hc4; have HR4 := Lib.hid hr4; have HC4 := Lib.hid hc4; have HZ5 := Lib.hid hz5; clear hr4 hc4 hz5))
            go_roundw
            case rel =>
              refine ⟨k + 1, by omega, by go_num, HNN, ?_, HZ5, ?_, ?_⟩
              · rw [HGO'.out]
                exact HR4
              · rw [HGO'.out]
                show World.ownsRow _ _ _ _ _ (ints (writes E s.m)).length (ints (writes E s.m))
                rw [HW.out]
                exact owns_keepIs (owns_keepNo HO.out HC3.out) HC4.out (own_ne_row HO.out HR.out (by decide))
              · exact (HC.out.then_ HC3.out).trans HC4.out (fun i hi he => by cases he; omega)
            case measure => simp [intOf]; omega
        · have b1 : (s.e.call == 0) = false := by simpa using hcl
          clear hf hcl
          have HFIN : Hid (S most = s) := HSTOP.out (.inr (by unfold goes; rw [b1]; simp))
          clear HSTEP HSTOP
          go_wp2_with (first | ((with_reducible refine at_op (o := ⟨some 53, _, _, _, _, _⟩) ?_); refine pl_load (o := ⟨some 53, _, _, _, _, _⟩) rfl 30 _ rfl (w.heap.size + 1 + 1) rfl 30 (effCells s.e) HR.out _ Tryd.underlying30 rfl (sizeE _) ?_) | ((with_reducible refine at_op (o := ⟨none, .store 30 (.tmp 12) (.tmp 53), _, _, _, _⟩) ?_); refine pl_store (o := ⟨none, .store 30 (.tmp 12) (.tmp 53), _, _, _, _⟩) rfl 30 (.tmp 12) (.tmp 53) rfl (w.heap.size + 1) rfl 30 (effCells zeroEff) (effCells s.e) rfl HZ.out (sizeE _) (lenE _ _) (eff_one _) ?_; intro w6 hr6 hc6; have HR6 := Lib.hid hr6; have HC6 := Lib.hid hc6; clear hr6 hc6))
          refine bodyPost_ret (v := .tuple #[.agg (effCells s.e).toArray, v', .int .i64 (k : Int)]) (results_row3 rfl _ _ (w.heap.size + 1) 30 (effCells s.e) _ rfl HR6.out Tryd.underlying30 rfl (sizeE _) _ _ rfl rfl) rfl ⟨v', ?_, ?_, ?_⟩
          · rw [congrFun HS.out most, HFIN.out, HN.out]
          · rw [congrFun HS.out most, HFIN.out]
            exact owns_keepIs HO.out HC6.out (own_ne_row HO.out HZ.out (by decide))
          · exact HC.out.trans HC6.out (fun i hi he => by cases he; omega)
      · have b0 : (s.e.fault == 0) = false := by simpa using hf
        clear hf
        have HFIN : Hid (S most = s) := HSTOP.out (.inr (by unfold goes; rw [b0]; simp))
        clear HSTEP HSTOP
        go_wp2_with (first | ((with_reducible refine at_op (o := ⟨some 53, _, _, _, _, _⟩) ?_); refine pl_load (o := ⟨some 53, _, _, _, _, _⟩) rfl 30 _ rfl (w.heap.size + 1 + 1) rfl 30 (effCells s.e) HR.out _ Tryd.underlying30 rfl (sizeE _) ?_) | ((with_reducible refine at_op (o := ⟨none, .store 30 (.tmp 12) (.tmp 53), _, _, _, _⟩) ?_); refine pl_store (o := ⟨none, .store 30 (.tmp 12) (.tmp 53), _, _, _, _⟩) rfl 30 (.tmp 12) (.tmp 53) rfl (w.heap.size + 1) rfl 30 (effCells zeroEff) (effCells s.e) rfl HZ.out (sizeE _) (lenE _ _) (eff_one _) ?_; intro w6 hr6 hc6; have HR6 := Lib.hid hr6; have HC6 := Lib.hid hc6; clear hr6 hc6))
        refine bodyPost_ret (v := .tuple #[.agg (effCells s.e).toArray, v', .int .i64 (k : Int)]) (results_row3 rfl _ _ (w.heap.size + 1) 30 (effCells s.e) _ rfl HR6.out Tryd.underlying30 rfl (sizeE _) _ _ rfl rfl) rfl ⟨v', ?_, ?_, ?_⟩
        · rw [congrFun HS.out most, HFIN.out, HN.out]
        · rw [congrFun HS.out most, HFIN.out]
          exact owns_keepIs HO.out HC6.out (own_ne_row HO.out HZ.out (by decide))
        · exact HC.out.trans HC6.out (fun i hi he => by cases he; omega)
    · have hk1 : ¬ (k : Int) < mo := by have := HMO.out; omega
      have hk2 : mo ≤ (k : Int) := by have := HMO.out; omega
      have HFIN : Hid (S most = s) := HSTOP.out (.inl (by omega))
      clear HSTEP HSTOP
      go_wp2_with (first | ((with_reducible refine at_op (o := ⟨some 53, _, _, _, _, _⟩) ?_); refine pl_load (o := ⟨some 53, _, _, _, _, _⟩) rfl 30 _ rfl (w.heap.size + 1 + 1) rfl 30 (effCells s.e) HR.out _ Tryd.underlying30 rfl (sizeE _) ?_) | ((with_reducible refine at_op (o := ⟨none, .store 30 (.tmp 12) (.tmp 53), _, _, _, _⟩) ?_); refine pl_store (o := ⟨none, .store 30 (.tmp 12) (.tmp 53), _, _, _, _⟩) rfl 30 (.tmp 12) (.tmp 53) rfl (w.heap.size + 1) rfl 30 (effCells zeroEff) (effCells s.e) rfl HZ.out (sizeE _) (lenE _ _) (eff_one _) ?_; intro w6 hr6 hc6; have HR6 := Lib.hid hr6; have HC6 := Lib.hid hc6; clear hr6 hc6))
      refine bodyPost_ret (v := .tuple #[.agg (effCells s.e).toArray, v', .int .i64 (k : Int)]) (results_row3 rfl _ _ (w.heap.size + 1) 30 (effCells s.e) _ rfl HR6.out Tryd.underlying30 rfl (sizeE _) _ _ rfl rfl) rfl ⟨v', ?_, ?_, ?_⟩
      · rw [congrFun HS.out most, HFIN.out, HN.out]
      · rw [congrFun HS.out most, HFIN.out]
        exact owns_keepIs HO.out HC6.out (own_ne_row HO.out HZ.out (by decide))
      · exact HC.out.trans HC6.out (fun i hi he => by cases he; omega)
set_option maxRecDepth 100000 in
set_option maxHeartbeats 8000000 in
theorem rrun_calls (A : Option Addr) (cs : List Ins) (cap : Nat) (hl : cs.length ≤ 9223372036854775807) (hcs : ∀ x ∈ cs, x.ok) (M : Option Addr) (xs : List Int) (mcap : Nat) (hm : xs.length * 8 ≤ 140737488355328) (hxs : ∀ x ∈ xs, In64 x) (fixed : Int) (r : Nat → Int) (hin : ∀ i, i < 16 → In64 (r i)) (pc : Int) (mo : Int) (hmost : mo ≤ 1048576) (most : Nat) (hmo : most = mo.toNat) (w : World)
    (hcode : Cl w A (codeCells cs)) (hM : Cl w M (ints xs)) :
    Calls Tryd.prog 24 #[.slice A cs.length cap, .slice M xs.length mcap, .int .i64 fixed, .agg (regCells r).toArray, .int .i64 pc, .int .i64 mo] w fun e w' => ∃ v', e = .returned (.tuple #[.agg (effCells (runS cs fixed (start r pc xs) most).e).toArray, v', .int .i64 ((runS cs fixed (start r pc xs) most).n : Int)]) ∧
      w'.ownsRow w.heap.size 2 1 v' (ints (runS cs fixed (start r pc xs) most).m).length (ints (runS cs fixed (start r pc xs) most).m) ∧ Ch No w w' := by
  have HGOOD : Hid (∀ k, Good cs xs.length (runS cs fixed (start r pc xs) k)) := runS_good hcs hl (start_good hin hxs)
  have HCODE := Lib.hid hcode
  have HMM := Lib.hid hM
  have HCS := Lib.hid hcs
  have HSR := Lib.hid (sizeR r)
  have HZ : Hid (Row (((w.alloc (.cells (regCells r).toArray 24)).alloc (.cells (effCells zeroEff).toArray 30)).alloc (.cells (effCells zeroEff).toArray 30)) (w.heap.size + 1 + 1) 30 (effCells zeroEff)) := Row.new_at _ 30 (effCells zeroEff) (by simp)
  have HZR : Hid (Row ((w.alloc (.cells (regCells r).toArray 24)).alloc (.cells (effCells zeroEff).toArray 30)) (w.heap.size + 1) 30 (effCells zeroEff)) := Row.new_at _ 30 (effCells zeroEff) (by simp)
  have HRG := Lib.hid (Row.new w 24 (regCells r))
  have HMO := Lib.hid hmo
  clear hcode hM hcs hin hxs hmo
  go_enter Tryd.func24, Tryd.ntmps24
  go_upto_region 2 with (first | ((with_reducible refine at_op (o := ⟨some 18, _, _, _, _, _⟩) ?_); refine pl_load (o := ⟨some 18, _, _, _, _, _⟩) rfl 24 _ rfl w.heap.size rfl 24 (regCells r) (HRG.out.alloc _) _ Tryd.underlying24 rfl HSR.out ?_) | ((with_reducible refine at_op (o := ⟨some 20, _, _, _, _, _⟩) ?_); refine pl_build2 (o := ⟨some 20, _, _, _, _, _⟩) rfl (.tmp 18) (.tmp 19) rfl r pc rfl rfl ?_) | ((with_reducible refine at_op (o := ⟨none, .store 30 (.tmp 15) (.tmp 20), _, _, _, _⟩) ?_); refine pl_store (o := ⟨none, .store 30 (.tmp 15) (.tmp 20), _, _, _, _⟩) rfl 30 (.tmp 15) (.tmp 20) rfl (w.heap.size + 1 + 1) rfl 30 (effCells zeroEff) (effCells (eff0 r pc 0)) rfl (HZ.out) (sizeE _) (lenE _ _) (eff_one _) ?_; intro w1 hr1 hc1; have HR1 := Lib.hid hr1; have HC1 := Lib.hid hc1; clear hr1 hc1))
  have HCW : Hid (Ch No w w1) := ch_newg ((((Ch.refl No w).alloc _).alloc _).alloc _) HC1.out (by omega)
  have HZ1 := Lib.hid ((HZR.out.alloc _).keepIs HC1.out (by omega))
  have HBB : Hid (([] : List Value).length + xs.length ≤ 140737488355328 ∧ (([] : List Value).length + xs.length) * 8 ≤ 140737488355328) := by
    show _ ∧ _
    simp
    omega
  go_wp2_with (at_builtin; refine wpList_append_to rfl (.tmp 21) (.tmp 22) 23 rfl w.heap.size 2 (.int .i64 0) 8 Tryd.underlying23 info2 rfl (.slice none 0 0) [] rfl _ _ _ (ints xs) rfl (owns_nil _ _ _ _) (ints_length _) (HMM.out.keepNo HCW.out) (ints_one _) HBB.out.2 (by omega) HCW.out.size ?_; intro v' w2 ho2 hg2 hat2; rw [List.nil_append] at ho2; have HO2 := Lib.hid ho2; have HCG : Hid (Ch No w1 w2) := (Ch.of_grownBy hg2).no (fun k _ hk => by simp [Value.ownBlock] at hk); clear ho2 hg2 hat2)
  have HC2 : Hid (Ch No w w2) := HCW.out.then_ HCG.out
  have HR2 := Lib.hid (HR1.out.keepNo HCG.out)
  have HZ2 := Lib.hid (HZ1.out.keepNo HCG.out)
  clear HC1 HR1 HZ HRG HCW HZ1 HCG HBB
  have hlt2 : w.heap.size + 1 + 1 < w2.heap.size := HR2.out.lt
  generalize hS : runS cs fixed (start r pc xs) = S at *
  have hS0 : S 0 = start r pc xs := by rw [← hS]; rfl
  have HS := Lib.hid hS
  have HS0 := Lib.hid hS0
  clear hS hS0
  go_loopw [17] (fun i wr => ∃ k : Nat, k ≤ most ∧ i = .int .i64 k ∧ Hid ((S k).n = k) ∧ Hid (Row wr (w.heap.size + 1 + 1) 30 (effCells (S k).e)) ∧ Hid (Row wr (w.heap.size + 1) 30 (effCells zeroEff)) ∧ Hid (wr.ownsRow w.heap.size 2 1 v' (ints (S k).m).length (ints (S k).m)) ∧ Hid (Ch No w wr)) (fun i _ => most - (intOf i).toNat)
  case atStart => exact ⟨0, by omega, rfl, by rw [HS0.out]; rfl, by rw [HS0.out]; exact HR2, by exact HZ2, by rw [HS0.out]; exact HO2, by exact HC2⟩
  case round =>
    obtain ⟨k, hk, rfl, HN, HR, HZ, HO, HC⟩ := hrel
    have HGD := Lib.hid (HGOOD.out k)
    have HSTEP : Hid (goes (S k).e = true → S (k + 1) = stepS cs fixed (S k)) := by show _ → _; rw [← HS.out]; exact runS_go
    have HSTOP : Hid (k = most ∨ goes (S k).e = false → S most = S k) := by show _ → _; rw [← HS.out]; exact runS_to hk
    generalize hs : S k = s at *
    clear hs
    have f20 : wr.cell? ⟨w.heap.size + 1 + 1, 20, none⟩ = some (.int .i64 s.e.fault) := row_rest HR.out 4
    have f21 : wr.cell? ⟨w.heap.size + 1 + 1, 21, none⟩ = some (.int .i64 s.e.call) := row_rest HR.out 5
    have hltr : w.heap.size + 1 + 1 < wr.heap.size := HR.out.lt
    by_cases hlt : k < most
    · have hk1 : (k : Int) < mo := by have := HMO.out; omega
      by_cases hf : s.e.fault = 0
      · have b0 : (s.e.fault == 0) = true := by simpa using hf
        by_cases hcl : s.e.call = 0
        · have b1 : (s.e.call == 0) = true := by simpa using hcl
          have HGO : Hid (S (k + 1) = stepS cs fixed s) := HSTEP.out (by unfold goes; rw [b0, b1]; rfl)
          clear HSTEP HSTOP hf hcl
          obtain ⟨O, oc, hv, hoc, hocl⟩ := owns_cl HO.out
          have f16 : wr.cell? ⟨w.heap.size + 1 + 1, 16, none⟩ = some (.int .i64 s.e.pc) := row_rest HR.out 0
          have HCALL := Lib.hid (rstep_calls A cs cap hl HCS.out O s.m oc (by have := HGD.out.len; omega) fixed s.e.r HGD.out.regs s.e.pc wr)
          generalize hE : stepF cs s.m fixed s.e.r s.e.pc = E at *
          have HGO' : Hid (S (k + 1) = ⟨E, writes E s.m, s.n + 1⟩) := by show _ = _; rw [HGO.out]; unfold stepS; rw [hE]
          have HST : Hid (E.st = true → 0 ≤ E.addr ∧ E.addr < s.m.length) := by
            show _ → _
            rw [← hE]
            intro h
            exact ⟨(step_store h).1, (step_store h).2.1⟩
          clear hE HGO
          have HNN : Hid ((S (k + 1)).n = k + 1) := by show _ = _; rw [HGO'.out]; show s.n + 1 = _; rw [HN.out]
          by_cases hst : E.st = true
          · obtain ⟨ha0, ha1⟩ := HST.out hst
            obtain ⟨a, haE⟩ := Int.eq_ofNat_of_zero_le ha0
            have haL : a < s.m.length := by omega
            obtain ⟨gm, mc, rest, hv2, hgb, hgr, hgl, hgm, hgc⟩ := owns_at HO.out a haL
            have HGR := Lib.hid hgr
            have HNE : Hid (gm ≠ w.heap.size + 1 + 1 ∧ gm ≠ w.heap.size + 1) := ⟨fun e => absurd (HR.out.eq_ (e ▸ hgr)).1 (by decide), fun e => absurd (HZ.out.eq_ (e ▸ hgr)).1 (by decide)⟩
            have HF4 : Hid (∀ w3 w4 : World, Ch No wr w3 → Row w4 (w.heap.size + 1 + 1) 30 (effCells E) → Ch (Is (w.heap.size + 1 + 1)) w3 w4 → w4.cell? ⟨w.heap.size + 1 + 1, 17, none⟩ = some (.bool true) ∧ w4.cell? ⟨w.heap.size + 1 + 1, 18, none⟩ = some (.int .i64 (a : Int)) ∧ w4.cell? ⟨w.heap.size + 1 + 1, 19, none⟩ = some (.int .i64 E.val) ∧ w4.cell? ⟨gm, a, none⟩ = some (.int .i64 (rd s.m a)) ∧ w4.frozen? ⟨gm, a, none⟩ = false ∧ Row w4 gm 2 (ints s.m ++ rest) ∧ Row w4 (w.heap.size + 1) 30 (effCells zeroEff)) := by
              show ∀ w3 w4 : World, _
              intro w3 w4 h3 h4 h5
              have hgm4 : Row w4 gm 2 (ints s.m ++ rest) := (HGR.out.keepNo h3).keepIs h5 HNE.out.1
              refine ⟨?_, ?_, row_rest h4 3, row_rd hgm4 a haL, hgm4.frozen a, hgm4, (HZ.out.keepNo h3).keepIs h5 (by omega)⟩
              · rw [← hst]; exact row_rest h4 1
              · have e : (a : Int) = E.addr := haE.symm
                rw [e]; exact row_rest h4 2
            have ha2 : (a : Int) < (s.m.length : Int) := by omega
            have ha3 : (0 : Int) ≤ (a : Int) := by omega
            have HW : Hid (writes E s.m = s.m.set a E.val) := by show _ = _; unfold writes; rw [if_pos hst, haE]; rfl
            subst hv2
            simp only [Value.slice.injEq] at hv
            obtain ⟨hv1, -, hv3⟩ := hv
            subst hv1
            subst hv3
            have HCL2 := Lib.hid hocl
            have HGL := Lib.hid hgl
            have HGM := Lib.hid hgm
            clear hst haE ha0 ha1 hgr hgc hocl HST hgl hgm
            go_wp2_with (first | ((with_reducible refine at_op (o := ⟨some 41, _, _, _, _, _⟩) ?_); refine wpList_load_mid (op := ⟨some 41, _, _, _, _, _⟩) rfl 24 _ rfl (w.heap.size + 1 + 1) 0 rfl (regCells s.e.r) _ (eff_range HR.out) Tryd.underlying24 rfl (sizeR _) ?_) | (go_at_call 13; refine (HCALL.out (HCODE.out.keepNo HC.out) HCL2.out).mono ?_; rintro e w3 ⟨rfl, hc3⟩; have HC3 := Lib.hid hc3; clear hc3) | ((with_reducible refine at_op (o := ⟨none, .store 30 (.tmp 15) (.tmp 44), _, _, _, _⟩) ?_); refine pl_store (o := ⟨none, .store 30 (.tmp 15) (.tmp 44), _, _, _, _⟩) rfl 30 (.tmp 15) (.tmp 44) rfl (w.heap.size + 1 + 1) rfl 30 (effCells s.e) (effCells E) rfl (HR.out.keepNo HC3.out) (sizeE _) (lenE _ _) (eff_one _) ?_; intro w4 hr4 hc4; obtain ⟨f17, f18, f19, fg, ff, hr5, hz5⟩ := HF4.out _ _ HC3.out hr4 hc4; have HR4 := Lib.hid hr4; have HC4 := Lib.hid hc4; have HR5 := Lib.hid hr5; have HZ5 := Lib.hid hz5; clear hr4 hc4 hr5 hz5))
            go_roundw
            case rel =>
              refine ⟨k + 1, by omega, by go_num, HNN, ?_, ?_, ?_, ?_⟩
              · rw [HGO'.out]
                exact HR4.out.setOther (fun e => HNE.out.1 e.symm) _
              · exact HZ5.out.setOther (fun e => HNE.out.2 e.symm) _
              · rw [HGO'.out]
                show World.ownsRow _ _ _ _ _ (ints (writes E s.m)).length (ints (writes E s.m))
                rw [HW.out]
                have := HR5.out.set_ a (.int .i64 E.val)
                rw [set_ints _ _ _ haL] at this
                have h8 := owns_mk hgb this (by rw [ints_length, List.length_set]; have := HGL.out; have := HGM.out; rw [ints_length] at *; omega)
                have e9 : (ints (s.m.set a E.val)).length + rest.length = mc := by have := HGL.out; rw [ints_length, List.length_set]; rw [ints_length] at this; exact this
                rw [e9, ints_length, List.length_set] at h8
                rw [ints_length, List.length_set]
                exact h8
              · exact ((HC.out.then_ HC3.out).trans HC4.out (fun i hi he => by cases he; omega)).setCell (fun hh => absurd hh (by simp; omega)) _
            case measure => simp [intOf]; omega
          · have hst' : E.st = false := by simpa using hst
            have HF4 : Hid (∀ w3 w4 : World, Ch No wr w3 → Row w4 (w.heap.size + 1 + 1) 30 (effCells E) → Ch (Is (w.heap.size + 1 + 1)) w3 w4 → w4.cell? ⟨w.heap.size + 1 + 1, 17, none⟩ = some (.bool false) ∧ Row w4 (w.heap.size + 1) 30 (effCells zeroEff)) := by
              show ∀ w3 w4 : World, _
              intro w3 w4 h3 h4 h5
              refine ⟨?_, (HZ.out.keepNo h3).keepIs h5 (by omega)⟩
              rw [← hst']; exact row_rest h4 1
            have HW : Hid (writes E s.m = s.m) := by show _ = _; unfold writes; rw [if_neg hst]
            have HCL2 := Lib.hid hocl
            subst hv
            clear hst hst' hocl HST
            go_wp2_with (first | ((with_reducible refine at_op (o := ⟨some 41, _, _, _, _, _⟩) ?_); refine wpList_load_mid (op := ⟨some 41, _, _, _, _, _⟩) rfl 24 _ rfl (w.heap.size + 1 + 1) 0 rfl (regCells s.e.r) _ (eff_range HR.out) Tryd.underlying24 rfl (sizeR _) ?_) | (go_at_call 13; refine (HCALL.out (HCODE.out.keepNo HC.out) HCL2.out).mono ?_; rintro e w3 ⟨rfl, hc3⟩; have HC3 := Lib.hid hc3; clear hc3) | ((with_reducible refine at_op (o := ⟨none, .store 30 (.tmp 15) (.tmp 44), _, _, _, _⟩) ?_); refine pl_store (o := ⟨none, .store 30 (.tmp 15) (.tmp 44), _, _, _, _⟩) rfl 30 (.tmp 15) (.tmp 44) rfl (w.heap.size + 1 + 1) rfl 30 (effCells s.e) (effCells E) rfl (HR.out.keepNo HC3.out) (sizeE _) (lenE _ _) (eff_one _) ?_; intro w4 hr4 hc4; obtain ⟨f17, hz5⟩ := HF4.out _ _ HC3.out hr4 hc4; have HR4 := Lib.hid hr4; have HC4 := Lib.hid hc4; have HZ5 := Lib.hid hz5; clear hr4 hc4 hz5))
            go_roundw
            case rel =>
              refine ⟨k + 1, by omega, by go_num, HNN, ?_, HZ5, ?_, ?_⟩
              · rw [HGO'.out]
                exact HR4
              · rw [HGO'.out]
                show World.ownsRow _ _ _ _ _ (ints (writes E s.m)).length (ints (writes E s.m))
                rw [HW.out]
                exact owns_keepIs (owns_keepNo HO.out HC3.out) HC4.out (own_ne_row HO.out HR.out (by decide))
              · exact (HC.out.then_ HC3.out).trans HC4.out (fun i hi he => by cases he; omega)
            case measure => simp [intOf]; omega
        · have b1 : (s.e.call == 0) = false := by simpa using hcl
          clear hf hcl
          have HFIN : Hid (S most = s) := HSTOP.out (.inr (by unfold goes; rw [b1]; simp))
          clear HSTEP HSTOP
          go_wp2_with (first | ((with_reducible refine at_op (o := ⟨some 55, _, _, _, _, _⟩) ?_); refine pl_load (o := ⟨some 55, _, _, _, _, _⟩) rfl 30 _ rfl (w.heap.size + 1 + 1) rfl 30 (effCells s.e) HR.out _ Tryd.underlying30 rfl (sizeE _) ?_) | ((with_reducible refine at_op (o := ⟨none, .store 30 (.tmp 12) (.tmp 55), _, _, _, _⟩) ?_); refine pl_store (o := ⟨none, .store 30 (.tmp 12) (.tmp 55), _, _, _, _⟩) rfl 30 (.tmp 12) (.tmp 55) rfl (w.heap.size + 1) rfl 30 (effCells zeroEff) (effCells s.e) rfl HZ.out (sizeE _) (lenE _ _) (eff_one _) ?_; intro w6 hr6 hc6; have HR6 := Lib.hid hr6; have HC6 := Lib.hid hc6; clear hr6 hc6))
          refine bodyPost_ret (v := .tuple #[.agg (effCells s.e).toArray, v', .int .i64 (k : Int)]) (results_row3 rfl _ _ (w.heap.size + 1) 30 (effCells s.e) _ rfl HR6.out Tryd.underlying30 rfl (sizeE _) _ _ rfl rfl) rfl ⟨v', ?_, ?_, ?_⟩
          · rw [congrFun HS.out most, HFIN.out, HN.out]
          · rw [congrFun HS.out most, HFIN.out]
            exact owns_keepIs HO.out HC6.out (own_ne_row HO.out HZ.out (by decide))
          · exact HC.out.trans HC6.out (fun i hi he => by cases he; omega)
      · have b0 : (s.e.fault == 0) = false := by simpa using hf
        clear hf
        have HFIN : Hid (S most = s) := HSTOP.out (.inr (by unfold goes; rw [b0]; simp))
        clear HSTEP HSTOP
        go_wp2_with (first | ((with_reducible refine at_op (o := ⟨some 55, _, _, _, _, _⟩) ?_); refine pl_load (o := ⟨some 55, _, _, _, _, _⟩) rfl 30 _ rfl (w.heap.size + 1 + 1) rfl 30 (effCells s.e) HR.out _ Tryd.underlying30 rfl (sizeE _) ?_) | ((with_reducible refine at_op (o := ⟨none, .store 30 (.tmp 12) (.tmp 55), _, _, _, _⟩) ?_); refine pl_store (o := ⟨none, .store 30 (.tmp 12) (.tmp 55), _, _, _, _⟩) rfl 30 (.tmp 12) (.tmp 55) rfl (w.heap.size + 1) rfl 30 (effCells zeroEff) (effCells s.e) rfl HZ.out (sizeE _) (lenE _ _) (eff_one _) ?_; intro w6 hr6 hc6; have HR6 := Lib.hid hr6; have HC6 := Lib.hid hc6; clear hr6 hc6))
        refine bodyPost_ret (v := .tuple #[.agg (effCells s.e).toArray, v', .int .i64 (k : Int)]) (results_row3 rfl _ _ (w.heap.size + 1) 30 (effCells s.e) _ rfl HR6.out Tryd.underlying30 rfl (sizeE _) _ _ rfl rfl) rfl ⟨v', ?_, ?_, ?_⟩
        · rw [congrFun HS.out most, HFIN.out, HN.out]
        · rw [congrFun HS.out most, HFIN.out]
          exact owns_keepIs HO.out HC6.out (own_ne_row HO.out HZ.out (by decide))
        · exact HC.out.trans HC6.out (fun i hi he => by cases he; omega)
    · have hk1 : ¬ (k : Int) < mo := by have := HMO.out; omega
      have hk2 : mo ≤ (k : Int) := by have := HMO.out; omega
      have HFIN : Hid (S most = s) := HSTOP.out (.inl (by omega))
      clear HSTEP HSTOP
      go_wp2_with (first | ((with_reducible refine at_op (o := ⟨some 55, _, _, _, _, _⟩) ?_); refine pl_load (o := ⟨some 55, _, _, _, _, _⟩) rfl 30 _ rfl (w.heap.size + 1 + 1) rfl 30 (effCells s.e) HR.out _ Tryd.underlying30 rfl (sizeE _) ?_) | ((with_reducible refine at_op (o := ⟨none, .store 30 (.tmp 12) (.tmp 55), _, _, _, _⟩) ?_); refine pl_store (o := ⟨none, .store 30 (.tmp 12) (.tmp 55), _, _, _, _⟩) rfl 30 (.tmp 12) (.tmp 55) rfl (w.heap.size + 1) rfl 30 (effCells zeroEff) (effCells s.e) rfl HZ.out (sizeE _) (lenE _ _) (eff_one _) ?_; intro w6 hr6 hc6; have HR6 := Lib.hid hr6; have HC6 := Lib.hid hc6; clear hr6 hc6))
      refine bodyPost_ret (v := .tuple #[.agg (effCells s.e).toArray, v', .int .i64 (k : Int)]) (results_row3 rfl _ _ (w.heap.size + 1) 30 (effCells s.e) _ rfl HR6.out Tryd.underlying30 rfl (sizeE _) _ _ rfl rfl) rfl ⟨v', ?_, ?_, ?_⟩
      · rw [congrFun HS.out most, HFIN.out, HN.out]
      · rw [congrFun HS.out most, HFIN.out]
        exact owns_keepIs HO.out HC6.out (own_ne_row HO.out HZ.out (by decide))
      · exact HC.out.trans HC6.out (fun i hi he => by cases he; omega)
end Go.Proofs.YtellmlffkgfeiaaDoor
