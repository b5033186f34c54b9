/- CpuRunIsSteps: the walk. -/
import Derived.Test.YtellmlffkgfeiaaDoorU3
import Derived.Test.YtellmlffkgfeiaaDoorU4
import Derived.Deep.CutBlock
set_option linter.unusedVariables false
set_option linter.unusedSimpArgs false
namespace Go.Proofs.YtellmlffkgfeiaaDoor
open Go.RowKit
set_option maxRecDepth 100000 in
set_option maxHeartbeats 8000000 in
theorem runsteps_in (A : Option Addr) (cs : List Ins) (cap : Nat) (hl : cs.length ≤ 9223372036854775807) (hcs : ∀ x ∈ cs, x.ok) (M : Option Addr) (xs : List Int) (mcap : Nat) (hm : xs.length * 8 ≤ 140737488355328) (hmc : xs.length ≤ mcap) (hxs : ∀ x ∈ xs, In64 x) (fixed : Int) (r : Nat → Int) (hin : ∀ i, i < 16 → In64 (r i)) (pc : Int)
    (f s : Nat) (hf : f ≤ 3000) (hs : s ≤ 3000) (w : World) (hcode : Cl w A (codeCells cs)) (hM : Cl w M (ints xs)) (hg : Glob w) :
    Calls Tryd.prog 9 #[.agg (machCells (.slice A cs.length cap) (.slice M xs.length mcap) fixed r pc).toArray, .int .i64 (f : Int), .int .i64 (s : Int)] w fun e w' => e = .returned (.bool true) ∧ Ch No w w' := by
  have HGOOD : Hid (∀ k, Good cs xs.length (runS cs fixed (start r pc xs) k)) := runS_good hcs hl (start_good hin hxs)
  have HG := Lib.hid hg
  have HCODE := Lib.hid hcode
  have HMM := Lib.hid hM
  have HCS := Lib.hid hcs
  have HIN := Lib.hid hin
  have HXS := Lib.hid hxs
  have HR1 := Lib.hid (Row.new w 26 (machCells (.slice A cs.length cap) (.slice M xs.length mcap) fixed r pc))
  have HRUN : Hid (∀ (W : World) (most : Nat), most ≤ 6000 → Ch No w W → Calls Tryd.prog 23 #[.slice A cs.length cap, .slice M xs.length mcap, .int .i64 fixed, .agg (regCells r).toArray, .int .i64 pc, .int .i64 (most : Int)] W fun e w' => ∃ v', e = .returned (.tuple #[.agg (effCells (runS cs fixed (start r pc xs) most).e).toArray, v', .int .i64 ((runS cs fixed (start r pc xs) most).n : Int)]) ∧
      w'.ownsRow W.heap.size 2 1 v' (ints (runS cs fixed (start r pc xs) most).m).length (ints (runS cs fixed (start r pc xs) most).m) ∧ Ch No W w') :=
    fun W most hmo hW => run_calls A cs cap hl hcs M xs mcap hm hxs fixed r hin pc most (by omega) W (hcode.keepNo hW) (hM.keepNo hW) (hg.keep hW (not_no _))
  clear hcode hM hg hin hcs hxs
  generalize hS : runS cs fixed (start r pc xs) = S at *
  have HS := Lib.hid hS
  have HS0 : Hid (S 0 = start r pc xs) := by show _ = _; rw [← hS]; rfl
  clear hS
  have a1 : (0 : Int) ≤ (f : Int) := by omega
  have a2 : (0 : Int) ≤ (s : Int) := by omega
  have a3 : (f : Int) ≤ 3000 := by omega
  have a4 : (s : Int) ≤ 3000 := by omega
  have HFS : Hid ((f : Int) + (s : Int) = ((f + s : Nat) : Int)) := by show _ = _; omega
  have d1 : decide ((f : Int) < 0) = false := by simp
  have d2 : decide ((s : Int) < 0) = false := by simp
  have d3 : decide (3000 < (f : Int)) = false := by simp; omega
  have d4 : decide (3000 < (s : Int)) = false := by simp; omega
  go_enter Tryd.func9, Tryd.ntmps9
  go_wp2_with (fail)
  refine (known_calls _ (HG.out.keep ((Ch.refl No w).alloc _) (not_no _))).mono ?_
  rintro e w2 ⟨rfl, hc2⟩
  have HC2 : Hid (Ch No w w2) := ((Ch.refl No w).alloc _).then_ hc2
  have HR2 := Lib.hid (HR1.out.keepNo hc2)
  clear hc2
  have hlt2 : w.heap.size < w2.heap.size := HR2.out.lt
  have g0 : w2.cell? ⟨w.heap.size, 0, none⟩ = some (.slice A cs.length cap) := HR2.out.cell 0
  have g1 : w2.cell? ⟨w.heap.size, 1, none⟩ = some (.slice M xs.length mcap) := HR2.out.cell 1
  have g2 : w2.cell? ⟨w.heap.size, 2, none⟩ = some (.int .i64 fixed) := HR2.out.cell 2
  have g19 : w2.cell? ⟨w.heap.size, 19, none⟩ = some (.int .i64 pc) := (HR2.out.cell 19).trans (mach_pc _ _ _ _ _)
  go_wp2_with (first | ((with_reducible refine at_op (o := ⟨some 62, _, _, _, _, _⟩) ?_); refine wpList_load_mid (op := ⟨some 62, _, _, _, _, _⟩) rfl 24 _ rfl w.heap.size 3 rfl (regCells r) _ (mach_range HR2.out) Tryd.underlying24 rfl (sizeR _) ?_))
  rw [HFS.out]
  refine (HRUN.out w2 (f + s) (by omega) HC2.out).mono ?_
  rintro e w3 ⟨v8, rfl, ho3, hc3⟩
  have HO3 : Hid (w3.ownsRow w.heap.size 2 1 v8 (ints (S (f + s)).m).length (ints (S (f + s)).m)) := ho3.mono (by omega)
  have HC3 : Hid (Ch No w w3) := HC2.out.then_ hc3
  have HR3 := Lib.hid (HR2.out.keepNo hc3)
  clear ho3 hc3 g0 g1 g2 g19
  have hlt3 : w.heap.size < w3.heap.size := HR3.out.lt
  have HZ : Hid (Row (w3.alloc (.cells (effCells zeroEff).toArray 30)) w3.heap.size 30 (effCells zeroEff)) := Row.new _ 30 (effCells zeroEff)
  have HB0 : Hid (∀ W : World, W.heap.size = w3.heap.size + 1 → Row (W.alloc (.cells (effCells zeroEff).toArray 30)) (w3.heap.size + 1) 30 (effCells zeroEff)) := fun W hW => Row.new_at _ 30 (effCells zeroEff) hW.symm
  generalize hEF : (S (f + s)).e = EF at *
  go_upto_region 4 with (first | ((with_reducible refine at_op (o := ⟨none, .store 30 (.tmp 7) (.tmp 69), _, _, _, _⟩) ?_); refine pl_store (o := ⟨none, .store 30 (.tmp 7) (.tmp 69), _, _, _, _⟩) rfl 30 (.tmp 7) (.tmp 69) rfl w3.heap.size rfl 30 (effCells zeroEff) (effCells EF) rfl HZ.out (sizeE _) (lenE _ _) (eff_one _) ?_; intro w4 hr4 hc4; have HE4 := Lib.hid hr4; have HC4 := Lib.hid hc4; clear hr4 hc4))
  have HR4 := Lib.hid ((HR3.out.alloc _).keepIs HC4.out (by omega))
  have HO4 := Lib.hid (owns_keepIs (HO3.out.alloc _) HC4.out (own_ne_row (HO3.out.alloc _) HZ.out (by decide)))
  have HCC4 : Hid (Ch No w w4) := (HC3.out.alloc _).trans HC4.out (fun i hi he => by cases he; omega)
  have hlt4 : w3.heap.size < w4.heap.size := HE4.out.lt
  have g19 : w4.cell? ⟨w.heap.size, 19, none⟩ = some (.int .i64 pc) := (HR4.out.cell 19).trans (mach_pc _ _ _ _ _)
  have g1 : w4.cell? ⟨w.heap.size, 1, none⟩ = some (.slice M xs.length mcap) := HR4.out.cell 1
  have HZ4 : Hid (Row (w4.alloc (.cells (effCells zeroEff).toArray 30)) w4.heap.size 30 (effCells zeroEff)) := Row.new _ 30 (effCells zeroEff)
  clear HR3 HO3 HC3 HC4 HZ HB0
  go_upto_region 5 with (first | ((with_reducible refine at_op (o := ⟨some 73, _, _, _, _, _⟩) ?_); refine wpList_load_mid (op := ⟨some 73, _, _, _, _, _⟩) rfl 24 _ rfl w.heap.size 3 rfl (regCells r) _ (mach_range HR4.out) Tryd.underlying24 rfl (sizeR _) ?_) | ((with_reducible refine at_op (o := ⟨some 76, _, _, _, _, _⟩) ?_); refine pl_build2 (o := ⟨some 76, _, _, _, _, _⟩) rfl (.tmp 73) (.tmp 75) rfl r pc rfl rfl ?_) | ((with_reducible refine at_op (o := ⟨none, .store 30 (.tmp 10) (.tmp 76), _, _, _, _⟩) ?_); refine pl_store (o := ⟨none, .store 30 (.tmp 10) (.tmp 76), _, _, _, _⟩) rfl 30 (.tmp 10) (.tmp 76) rfl w4.heap.size rfl 30 (effCells zeroEff) (effCells (eff0 r pc 0)) rfl HZ4.out (sizeE _) (lenE _ _) (eff_one _) ?_; intro w5 hr5 hc5; have HT5 := Lib.hid hr5; have HC5 := Lib.hid hc5; clear hr5 hc5))
  have HR5 := Lib.hid ((HR4.out.alloc _).keepIs HC5.out (by omega))
  have HE5 := Lib.hid ((HE4.out.alloc _).keepIs HC5.out (by omega))
  have HO5 := Lib.hid (owns_keepIs (HO4.out.alloc _) HC5.out (own_ne_row (HO4.out.alloc _) HZ4.out (by decide)))
  have HCC5 : Hid (Ch No w w5) := (HCC4.out.alloc _).trans HC5.out (fun i hi he => by cases he; omega)
  have hlt5 : w4.heap.size < w5.heap.size := HT5.out.lt
  have hw5 : w.heap.size < w5.heap.size := HR5.out.lt
  have hw5' : ¬ w.heap.size = w5.heap.size := by omega
  have q1 : w5.cell? ⟨w.heap.size, 1, none⟩ = some (.slice M xs.length mcap) := HR5.out.cell 1
  clear HR4 HE4 HO4 HCC4 HC5 HZ4 g19 g1
  have HOM : Hid ((w5.alloc (.cells #[] 2)).ownsRow w5.heap.size 2 1 (.slice (some ⟨w5.heap.size, 0, none⟩) 0 0) ([] : List Value).length []) := World.ownsRow_made w5 #[] 0 (Nat.le_refl _) (Nat.zero_le _) rfl
  have HBB : Hid (([] : List Value).length + xs.length ≤ 140737488355328 ∧ (([] : List Value).length + xs.length) * 8 ≤ 140737488355328) := by
    show _ ∧ _
    simp
    omega
  go_upto_block 0 with (at_builtin; refine wpList_append_to rfl (.tmp 77) (.tmp 79) 23 rfl w5.heap.size 2 (.int .i64 0) 8 Tryd.underlying23 info2 rfl _ [] rfl _ _ _ (ints xs) rfl HOM.out (ints_length _) (HMM.out.keepNo (HCC5.out.alloc _)) (ints_one _) HBB.out.2 (by omega) (by simp) ?_; intro v1 w6 ho6 hg6 hat6; have HO6 := Lib.hid ho6; have HC6 : Hid (Ch No w5 w6) := grown_no (Nat.le_refl _) HOM.out hg6 ((Ch.refl No w5).alloc _); clear ho6 hg6 hat6)
  have HV8 : Hid (∀ k, v8.ownBlock = some k → k < w5.heap.size) := fun k hk => (HO5.out.lt k hk).2
  have HT6 := Lib.hid (HT5.out.keepNo HC6.out)
  have HR6 := Lib.hid (HR5.out.keepNo HC6.out)
  have HE6 := Lib.hid (HE5.out.keepNo HC6.out)
  have HV6 := Lib.hid (owns_keepNo HO5.out HC6.out)
  have HM6 : Hid (w6.ownsRow w5.heap.size 2 1 v1 (ints xs).length (ints xs)) := by have h := HO6.out; simp only [List.nil_append] at h; exact h
  have HCC6 : Hid (Ch No w w6) := HCC5.out.then_ HC6.out
  have HLT : Hid (w.heap.size < w3.heap.size ∧ w3.heap.size < w4.heap.size ∧ w4.heap.size < w5.heap.size ∧ w5.heap.size ≤ w6.heap.size) := ⟨hlt3, hlt4, hlt5, HC6.out.size⟩
  clear HT5 HR5 HE5 HO5 HO6 HC6 HCC5 HOM q1 hw5' hw5 HR2 HC2
  generalize hbe : w3.heap.size = be at *
  generalize hbt : w4.heap.size = bt at *
  generalize hbm : w5.heap.size = bm at *
  clear hbe hbt hbm hlt2 hlt3 hlt4 hlt5
  go_cut [12] from 81 to 129 (fun v wx => ∃ k : Nat, v = .int .i64 k ∧ k ≤ f + s ∧ Hid (S (f + s) = S k) ∧ Hid ((S k).n = k) ∧ Hid (Row wx bt 30 (effCells (S k).e)) ∧ Hid (wx.ownsRow bm 2 1 v1 (ints (S k).m).length (ints (S k).m)) ∧ Hid (Row wx w.heap.size 26 (machCells (.slice A cs.length cap) (.slice M xs.length mcap) fixed r pc)) ∧ Hid (Row wx be 30 (effCells EF)) ∧ Hid (wx.ownsRow w.heap.size 2 1 v8 (ints (S (f + s)).m).length (ints (S (f + s)).m)) ∧ Hid (Ch No w wx))
  case first =>
    go_wp2_with (fail)
    go_loopw [12] (fun i wr => ∃ k : Nat, k ≤ f + s ∧ i = .int .i64 k ∧ Hid ((S k).n = k) ∧ Hid (Row wr bt 30 (effCells (S k).e)) ∧ Hid (wr.ownsRow bm 2 1 v1 (ints (S k).m).length (ints (S k).m)) ∧ Hid (Row wr w.heap.size 26 (machCells (.slice A cs.length cap) (.slice M xs.length mcap) fixed r pc)) ∧ Hid (Row wr be 30 (effCells EF)) ∧ Hid (wr.ownsRow w.heap.size 2 1 v8 (ints (S (f + s)).m).length (ints (S (f + s)).m)) ∧ Hid (Ch No w wr)) (fun i _ => f + s - (intOf i).toNat)
    case atStart => exact ⟨0, by omega, rfl, by rw [HS0.out]; rfl, by rw [HS0.out]; exact HT6, by rw [HS0.out]; exact HM6, by exact HR6, by exact HE6, by exact HV6, by exact HCC6⟩
    case round =>
      obtain ⟨k, hk, rfl, HN, HR, HO, HRM, HEE, HVV, HC⟩ := hrel
      have HGD := Lib.hid (HGOOD.out k)
      have HSTEP : Hid (goes (S k).e = true → S (k + 1) = stepS cs fixed (S k)) := by show _ → _; rw [← HS.out]; exact runS_go
      have HSTOP : Hid (k = f + s ∨ goes (S k).e = false → S (f + s) = S k) := by show _ → _; rw [← HS.out]; exact runS_to hk
      generalize hs : S k = z at *
      have f20 : wr.cell? ⟨bt, 20, none⟩ = some (.int .i64 z.e.fault) := row_rest HR.out 4
      have f21 : wr.cell? ⟨bt, 21, none⟩ = some (.int .i64 z.e.call) := row_rest HR.out 5
      have h0lt : w.heap.size < wr.heap.size := HRM.out.lt
      by_cases hlt : k < f + s
      · have hk1 : (k : Int) < (f : Int) + (s : Int) := by omega
        by_cases hf : z.e.fault = 0
        · have b0 : (z.e.fault == 0) = true := by simpa using hf
          by_cases hcl : z.e.call = 0
          · have b1 : (z.e.call == 0) = true := by simpa using hcl
            have HGO : Hid (S (k + 1) = stepS cs fixed z) := HSTEP.out (by unfold goes; rw [b0, b1]; rfl)
            clear HSTEP HSTOP hf hcl
            obtain ⟨O, oc, hv, hoc, hocl⟩ := owns_cl HO.out
            have f16 : wr.cell? ⟨bt, 16, none⟩ = some (.int .i64 z.e.pc) := row_rest HR.out 0
            have g0 : wr.cell? ⟨w.heap.size, 0, none⟩ = some (.slice A cs.length cap) := HRM.out.cell 0
            have g2 : wr.cell? ⟨w.heap.size, 2, none⟩ = some (.int .i64 fixed) := HRM.out.cell 2
            have HCALL := Lib.hid (step_calls A cs cap hl HCS.out O z.m oc (by have := HGD.out.len; omega) hoc fixed z.e.r HGD.out.regs z.e.pc wr)
            generalize hE : stepF cs z.m fixed z.e.r z.e.pc = E at *
            have HGO' : Hid (S (k + 1) = ⟨E, writes E z.m, z.n + 1⟩) := by show _ = _; rw [HGO.out]; unfold stepS; rw [hE]
            have HST : Hid (E.st = true → 0 ≤ E.addr ∧ E.addr < z.m.length) := by
              show _ → _
              rw [← hE]
              intro h
              exact ⟨(step_store h).1, (step_store h).2.1⟩
            clear hE HGO
            have HNN : Hid ((S (k + 1)).n = k + 1) := by show _ = _; rw [HGO'.out]; show z.n + 1 = _; rw [HN.out]
            by_cases hst : E.st = true
            · obtain ⟨ha0, ha1⟩ := HST.out hst
              obtain ⟨a, haE⟩ := Int.eq_ofNat_of_zero_le ha0
              have haL : a < z.m.length := by omega
              obtain ⟨gm, mc, rest, hv2, hgb, hgr, hgl, hgm, hgc⟩ := owns_at HO.out a haL
              have HGR := Lib.hid hgr
              have HNE : Hid (gm ≠ bt ∧ gm ≠ w.heap.size ∧ gm ≠ be ∧ ¬ v8.ownBlock = some gm) := ⟨fun e => absurd (HR.out.eq_ (e ▸ hgr)).1 (by decide), fun e => absurd (HRM.out.eq_ (e ▸ hgr)).1 (by decide), fun e => absurd (HEE.out.eq_ (e ▸ hgr)).1 (by decide), fun e => absurd (HV8.out gm e) (by omega)⟩
              have HF4 : Hid (∀ w3 w4 : World, Ch No wr w3 → Row w4 bt 30 (effCells E) → Ch (Is bt) w3 w4 → w4.cell? ⟨bt, 17, none⟩ = some (.bool true) ∧ w4.cell? ⟨bt, 18, none⟩ = some (.int .i64 (a : Int)) ∧ w4.cell? ⟨bt, 19, none⟩ = some (.int .i64 E.val) ∧ w4.cell? ⟨gm, a, none⟩ = some (.int .i64 (rd z.m a)) ∧ w4.frozen? ⟨gm, a, none⟩ = false ∧ Row w4 gm 2 (ints z.m ++ rest)) := by
                show ∀ w3 w4 : World, _
                intro w3 w4 h3 h4 h5
                have hgm4 : Row w4 gm 2 (ints z.m ++ rest) := (HGR.out.keepNo h3).keepIs h5 HNE.out.1
                refine ⟨?_, ?_, row_rest h4 3, row_rd hgm4 a haL, hgm4.frozen a, hgm4⟩
                · rw [← hst]; exact row_rest h4 1
                · have e : (a : Int) = E.addr := haE.symm
                  rw [e]; exact row_rest h4 2
              have ha2 : (a : Int) < (z.m.length : Int) := by omega
              have ha3 : (0 : Int) ≤ (a : Int) := by omega
              have HW : Hid (writes E z.m = z.m.set a E.val) := by show _ = _; unfold writes; rw [if_pos hst, haE]; rfl
              subst hv2
              simp only [Value.slice.injEq] at hv
              obtain ⟨hv1, -, hv3⟩ := hv
              subst hv1
              subst hv3
              have HCL2 := Lib.hid hocl
              have HGL := Lib.hid hgl
              have HGM := Lib.hid hgm
              clear hst haE ha0 ha1 hgr hgc hocl HST hgl hgm hs
              go_wp2_with (first | ((with_reducible refine at_op (o := ⟨some 102, _, _, _, _, _⟩) ?_); refine wpList_load_mid (op := ⟨some 102, _, _, _, _, _⟩) rfl 24 _ rfl bt 0 rfl (regCells z.e.r) _ (eff_range HR.out) Tryd.underlying24 rfl (sizeR _) ?_) | (go_at_call 12; refine (HCALL.out (HCODE.out.keepNo HC.out) HCL2.out (HG.out.keep HC.out (not_no _))).mono ?_; rintro e w3 ⟨rfl, hc3⟩; have HC3 := Lib.hid hc3; clear hc3) | ((with_reducible refine at_op (o := ⟨none, .store 30 (.tmp 10) (.tmp 105), _, _, _, _⟩) ?_); refine pl_store (o := ⟨none, .store 30 (.tmp 10) (.tmp 105), _, _, _, _⟩) rfl 30 (.tmp 10) (.tmp 105) rfl bt rfl 30 (effCells z.e) (effCells E) rfl (HR.out.keepNo HC3.out) (sizeE _) (lenE _ _) (eff_one _) ?_; intro w4 hr4 hc4; obtain ⟨f17, f18, f19, fg, ff, hr5⟩ := HF4.out _ _ HC3.out hr4 hc4; have HR4 := Lib.hid hr4; have HC4 := Lib.hid hc4; have HR5 := Lib.hid hr5; clear hr4 hc4 hr5))
              go_roundw
              case rel =>
                refine ⟨k + 1, by omega, by go_num, HNN, ?_, ?_, ?_, ?_, ?_, ?_⟩
                · rw [HGO'.out]
                  exact HR4.out.setOther (fun e => HNE.out.1 e.symm) _
                · rw [HGO'.out]
                  show World.ownsRow _ _ _ _ _ (ints (writes E z.m)).length (ints (writes E z.m))
                  rw [HW.out]
                  have := HR5.out.set_ a (.int .i64 E.val)
                  rw [set_ints _ _ _ haL] at this
                  have h8 := owns_mk hgb this (by rw [ints_length, List.length_set]; have := HGL.out; have := HGM.out; rw [ints_length] at *; omega)
                  have e9 : (ints (z.m.set a E.val)).length + rest.length = mc := by have := HGL.out; rw [ints_length, List.length_set]; rw [ints_length] at this; exact this
                  rw [e9, ints_length, List.length_set] at h8
                  rw [ints_length, List.length_set]
                  exact h8
                · exact ((HRM.out.keepNo HC3.out).keepIs HC4.out (by have := HLT.out; omega)).setOther (fun e => HNE.out.2.1 e.symm) _
                · exact ((HEE.out.keepNo HC3.out).keepIs HC4.out (by have := HLT.out; omega)).setOther (fun e => HNE.out.2.2.1 e.symm) _
                · exact owns_keepIs (owns_keepIs (owns_keepNo HVV.out HC3.out) HC4.out (own_ne_row (owns_keepNo HVV.out HC3.out) (HR.out.keepNo HC3.out) (by decide))) ((Ch.refl _ _).setCell (p := ⟨gm, a, none⟩) (fun _ => is_self gm) _) HNE.out.2.2.2
                · exact ((HC.out.then_ HC3.out).trans HC4.out (fun i hi he => by cases he; have := HLT.out; omega)).setCell (fun hh => absurd hh (by have := HLT.out; simp; omega)) _
              case measure => simp [intOf]; omega
            · have hst' : E.st = false := by simpa using hst
              have HF4 : Hid (∀ w3 w4 : World, Ch No wr w3 → Row w4 bt 30 (effCells E) → Ch (Is bt) w3 w4 → w4.cell? ⟨bt, 17, none⟩ = some (.bool false)) := by
                show ∀ w3 w4 : World, _
                intro w3 w4 h3 h4 h5
                rw [← hst']; exact row_rest h4 1
              have HW : Hid (writes E z.m = z.m) := by show _ = _; unfold writes; rw [if_neg hst]
              have HCL2 := Lib.hid hocl
              subst hv
              clear hst hst' hocl HST hs
              go_wp2_with (first | ((with_reducible refine at_op (o := ⟨some 102, _, _, _, _, _⟩) ?_); refine wpList_load_mid (op := ⟨some 102, _, _, _, _, _⟩) rfl 24 _ rfl bt 0 rfl (regCells z.e.r) _ (eff_range HR.out) Tryd.underlying24 rfl (sizeR _) ?_) | (go_at_call 12; refine (HCALL.out (HCODE.out.keepNo HC.out) HCL2.out (HG.out.keep HC.out (not_no _))).mono ?_; rintro e w3 ⟨rfl, hc3⟩; have HC3 := Lib.hid hc3; clear hc3) | ((with_reducible refine at_op (o := ⟨none, .store 30 (.tmp 10) (.tmp 105), _, _, _, _⟩) ?_); refine pl_store (o := ⟨none, .store 30 (.tmp 10) (.tmp 105), _, _, _, _⟩) rfl 30 (.tmp 10) (.tmp 105) rfl bt rfl 30 (effCells z.e) (effCells E) rfl (HR.out.keepNo HC3.out) (sizeE _) (lenE _ _) (eff_one _) ?_; intro w4 hr4 hc4; have f17 := HF4.out _ _ HC3.out hr4 hc4; have HR4 := Lib.hid hr4; have HC4 := Lib.hid hc4; clear hr4 hc4))
              go_roundw
              case rel =>
                refine ⟨k + 1, by omega, by go_num, HNN, ?_, ?_, ?_, ?_, ?_, ?_⟩
                · rw [HGO'.out]
                  exact HR4
                · rw [HGO'.out]
                  show World.ownsRow _ _ _ _ _ (ints (writes E z.m)).length (ints (writes E z.m))
                  rw [HW.out]
                  exact owns_keepIs (owns_keepNo HO.out HC3.out) HC4.out (own_ne_row HO.out HR.out (by decide))
                · exact (HRM.out.keepNo HC3.out).keepIs HC4.out (by have := HLT.out; omega)
                · exact (HEE.out.keepNo HC3.out).keepIs HC4.out (by have := HLT.out; omega)
                · exact owns_keepIs (owns_keepNo HVV.out HC3.out) HC4.out (own_ne_row (owns_keepNo HVV.out HC3.out) (HR.out.keepNo HC3.out) (by decide))
                · exact (HC.out.then_ HC3.out).trans HC4.out (fun i hi he => by cases he; have := HLT.out; omega)
              case measure => simp [intOf]; omega
          · have b1 : (z.e.call == 0) = false := by simpa using hcl
            have HFIN : Hid (S (f + s) = z) := HSTOP.out (.inr (by unfold goes; rw [b1]; simp))
            have HZS := Lib.hid hs
            clear hf hcl HSTEP HSTOP hs
            go_wp2_with (fail)
            go_meet
            case rel => exact ⟨k, rfl, hk, by rw [HZS.out]; exact HFIN, by rw [HZS.out]; exact HN, by rw [HZS.out]; exact HR, by rw [HZS.out]; exact HO, HRM, HEE, HVV, HC⟩
        · have b0 : (z.e.fault == 0) = false := by simpa using hf
          have HFIN : Hid (S (f + s) = z) := HSTOP.out (.inr (by unfold goes; rw [b0]; simp))
          have HZS := Lib.hid hs
          clear hf HSTEP HSTOP hs
          go_wp2_with (fail)
          go_meet
          case rel => exact ⟨k, rfl, hk, by rw [HZS.out]; exact HFIN, by rw [HZS.out]; exact HN, by rw [HZS.out]; exact HR, by rw [HZS.out]; exact HO, HRM, HEE, HVV, HC⟩
      · have hk1 : ¬ (k : Int) < (f : Int) + (s : Int) := by omega
        have HFIN : Hid (S (f + s) = z) := HSTOP.out (.inl (by omega))
        have HZS := Lib.hid hs
        clear HSTEP HSTOP hs
        go_wp2_with (fail)
        go_meet
        case rel => exact ⟨k, rfl, hk, by rw [HZS.out]; exact HFIN, by rw [HZS.out]; exact HN, by rw [HZS.out]; exact HR, by rw [HZS.out]; exact HO, HRM, HEE, HVV, HC⟩
  case rest =>
    obtain ⟨k, hv12, hkk, HSE, HN, HR, HO, HRM, HEE, HVV, HC⟩ := hcut
    subst hv12
    clear HT6 HR6 HE6 HV6 HM6 HCC6
    generalize wc = w7 at *
    have hnk : (S (f + s)).n = k := by rw [HSE.out, HN.out]
    have hek : (S k).e = EF := by rw [← hEF, HSE.out]
    rw [hek] at HR
    rw [HSE.out] at HVV
    rw [hnk]
    have HEF : Hid ((S (f + s)).e = EF) := hEF
    have HNK := Lib.hid hnk
    clear hnk hek hEF
    generalize hms : (S k).m = ms at *
    have HML : Hid (ms.length = xs.length) := by show _ = _; rw [← hms]; exact (HGOOD.out k).len
    have HMS := Lib.hid hms
    clear hms
    obtain ⟨O1, oc1, hv1, hoc1, hol1⟩ := owns_cl HO.out
    obtain ⟨O8, oc8, hv8, hoc8, hol8⟩ := owns_cl HVV.out
    have HSW : Hid (∀ w', Ch No w7 w' → Calls Tryd.prog 14 #[.slice O8 ms.length oc8, .slice O1 ms.length oc1] w' fun e w'' => e = .returned (.bool true) ∧ Ch No w' w'') := fun w' hw' => same_words _ _ _ _ ms _ _ rfl rfl w' (by have := HML.out; omega) (hol8.keepNo hw') (hol1.keepNo hw')
    have HOL1 := Lib.hid hol1
    subst hv1
    subst hv8
    clear hoc1 hoc8 hol1 hol8 HO
    go_upto_region 16 with (first | ((with_reducible refine at_op (o := ⟨some 130, _, _, _, _, _⟩) ?_); refine pl_load (o := ⟨some 130, _, _, _, _, _⟩) rfl 30 _ rfl be rfl 30 (effCells EF) HEE.out _ Tryd.underlying30 rfl (sizeE _) ?_) | ((with_reducible refine at_op (o := ⟨some 131, _, _, _, _, _⟩) ?_); refine pl_load (o := ⟨some 131, _, _, _, _, _⟩) rfl 30 _ rfl bt rfl 30 (effCells EF) HR.out _ Tryd.underlying30 rfl (sizeE _) ?_) | ((with_reducible refine at_op (o := ⟨some 132, _, _, _, _, _⟩) ?_); refine pl_value (o := ⟨some 132, _, _, _, _, _⟩) rfl (.bool false) (exec_neq_eff _ (.tmp 130) (.tmp 131) rfl EF rfl rfl) ?_) | (go_at_call 14; refine (HSW.out _ (Ch.refl _ _)).mono ?_; rintro e w8 ⟨rfl, hc8⟩; have HC8 := Lib.hid hc8; clear hc8))
    have HRM8 := Lib.hid (HRM.out.keepNo HC8.out)
    have HEE8 := Lib.hid (HEE.out.keepNo HC8.out)
    have HOL88 := Lib.hid (owns_keepNo HVV.out HC8.out)
    have HCC8 : Hid (Ch No w w8) := HC.out.then_ HC8.out
    clear HR HRM HEE HOL1 HVV HSW HC8 HC
    have g0 : w8.cell? ⟨w.heap.size, 0, none⟩ = some (.slice A cs.length cap) := HRM8.out.cell 0
    have g1 : w8.cell? ⟨w.heap.size, 1, none⟩ = some (.slice M xs.length mcap) := HRM8.out.cell 1
    have g2 : w8.cell? ⟨w.heap.size, 2, none⟩ = some (.int .i64 fixed) := HRM8.out.cell 2
    have g19 : w8.cell? ⟨w.heap.size, 19, none⟩ = some (.int .i64 pc) := (HRM8.out.cell 19).trans (mach_pc _ _ _ _ _)
    go_wp2_with ((with_reducible refine at_op (o := ⟨some 152, _, _, _, _, _⟩) ?_); refine wpList_load_mid (op := ⟨some 152, _, _, _, _, _⟩) rfl 24 _ rfl w.heap.size 3 rfl (regCells r) _ (mach_range HRM8.out) Tryd.underlying24 rfl (sizeR _) ?_)
    refine (HRUN.out w8 f (by omega) HCC8.out).mono ?_
    rintro e w9 ⟨v14, rfl, ho9, hc9⟩
    have HO9 : Hid (w9.ownsRow w.heap.size 2 1 v14 (ints (S f).m).length (ints (S f).m)) := ho9.mono HCC8.out.size
    have HCC9 : Hid (Ch No w w9) := HCC8.out.then_ hc9
    have HRM9 := Lib.hid (HRM8.out.keepNo hc9)
    have HEE9 := Lib.hid (HEE8.out.keepNo hc9)
    have HOL9 := Lib.hid (owns_keepNo HOL88.out hc9)
    clear g0 g1 g2 g19 ho9 hc9 HRM8 HEE8 HOL88 HCC8
    have HZ9 : Hid (Row (w9.alloc (.cells (effCells zeroEff).toArray 30)) w9.heap.size 30 (effCells zeroEff)) := Row.new _ 30 (effCells zeroEff)
    generalize hz : S f = z at *
    have HGZ : Hid (Good cs xs.length z) := by show Good _ _ _; rw [← hz]; exact HGOOD.out f
    have hltM : w.heap.size < w9.heap.size := HRM9.out.lt
    have hltE : be < w9.heap.size := HEE9.out.lt
    have HHZ := Lib.hid hz
    clear hz
    go_upto_region 17 with ((with_reducible refine at_op (o := ⟨none, .store 30 (.tmp 13) (.tmp 157), _, _, _, _⟩) ?_); refine pl_store (o := ⟨none, .store 30 (.tmp 13) (.tmp 157), _, _, _, _⟩) rfl 30 (.tmp 13) (.tmp 157) rfl w9.heap.size rfl 30 (effCells zeroEff) (effCells z.e) rfl HZ9.out (sizeE _) (lenE _ _) (eff_one _) ?_; intro wa hra hca; have HA := Lib.hid hra; have HCA := Lib.hid hca; clear hra hca)
    have HRMa := Lib.hid ((HRM9.out.alloc _).keepIs HCA.out (by omega))
    have HEEa := Lib.hid ((HEE9.out.alloc _).keepIs HCA.out (by omega))
    have HCCa : Hid (Ch No w wa) := (HCC9.out.alloc _).trans HCA.out (fun i hi he => by cases he; omega)
    have HOa := Lib.hid (owns_keepIs (HO9.out.alloc _) HCA.out (own_ne_row (HO9.out.alloc _) HZ9.out (by decide)))
    have HOLa := Lib.hid (owns_keepIs (HOL9.out.alloc _) HCA.out (own_ne_row (HOL9.out.alloc _) HZ9.out (by decide)))
    have c20 : wa.cell? ⟨w9.heap.size, 20, none⟩ = some (.int .i64 z.e.fault) := row_rest HA.out 4
    have c21 : wa.cell? ⟨w9.heap.size, 21, none⟩ = some (.int .i64 z.e.call) := row_rest HA.out 5
    have hltA : w9.heap.size < wa.heap.size := HA.out.lt
    obtain ⟨O14, oc14, hv14, hoc14, hol14⟩ := owns_cl HOa.out
    have HSTOP : Hid (goes z.e = false → S (f + s) = z) := by show _ → _; rw [← HHZ.out, ← HS.out]; intro h; exact runS_stop h s
    clear HCA HRM9 HEE9 HOL9 HCC9 HO9 HZ9
    generalize hb13 : w9.heap.size = b13 at *
    clear hb13
    by_cases hgo : goes z.e = true
    · have hgf : z.e.fault = 0 ∧ z.e.call = 0 := by simpa [goes] using hgo
      have b20 : (z.e.fault != 0) = false := by simp [hgf.1]
      have b21 : (z.e.call != 0) = false := by simp [hgf.2]
      have hparts := run_parts cs fixed (start r pc xs) rfl f s (by rw [HS.out, HHZ.out]; exact hgo)
      rw [HS.out, HHZ.out] at hparts
      have HRUN2 := Lib.hid (run_calls A cs cap hl HCS.out O14 z.m oc14 (by have := HGZ.out.len; omega) HGZ.out.mem fixed z.e.r HGZ.out.regs z.e.pc s (by omega) wa (HCODE.out.keepNo HCCa.out) hol14 (HG.out.keep HCCa.out (not_no _)))
      generalize hS2 : runS cs fixed (start z.e.r z.e.pc z.m) s = y at *
      have HPA := Lib.hid hparts.1
      have HPN : Hid (k = z.n + y.n) := by have := hparts.2; rw [HNK.out] at this; exact this
      have HPR : Hid (y.e.r = EF.r ∧ y.e.pc = EF.pc ∧ y.e.fault = EF.fault ∧ y.e.call = EF.call ∧ y.m = ms) := by
        have h := HPA.out
        have h1 := h.r; have h2 := h.pc; have h3 := h.fault; have h4 := h.call; have h5 := h.m
        rw [HEF.out] at h1 h2 h3 h4
        rw [HSE.out, HMS.out] at h5
        exact ⟨h1.symm, h2.symm, h3.symm, h4.symm, h5.symm⟩
      subst hv14
      clear hgf hgo hparts hS2 hol14 hoc14
      have g0 : wa.cell? ⟨w.heap.size, 0, none⟩ = some (.slice A cs.length cap) := HRMa.out.cell 0
      have g2 : wa.cell? ⟨w.heap.size, 2, none⟩ = some (.int .i64 fixed) := HRMa.out.cell 2
      have c16 : wa.cell? ⟨b13, 16, none⟩ = some (.int .i64 z.e.pc) := row_rest HA.out 0
      go_wp2_with (((with_reducible refine at_op (o := ⟨some 188, _, _, _, _, _⟩) ?_); refine wpList_load_mid (op := ⟨some 188, _, _, _, _, _⟩) rfl 24 _ rfl b13 0 rfl (regCells z.e.r) _ (eff_range HA.out) Tryd.underlying24 rfl (sizeR _) ?_))
      refine HRUN2.out.mono ?_
      rintro e wb ⟨v17, rfl, hob, hcb⟩
      have HOb : Hid (wb.ownsRow wa.heap.size 2 1 v17 (ints y.m).length (ints y.m)) := hob
      have HCCb : Hid (Ch No w wb) := HCCa.out.then_ hcb
      have HEEb := Lib.hid (HEEa.out.keepNo hcb)
      have HOLb := Lib.hid (owns_keepNo HOLa.out hcb)
      have hltb : be < wb.heap.size := HEEb.out.lt
      clear hob hcb g0 g2 c16 c20 c21 HRMa HEEa HOLa HOa HA HCCa
      have HZb : Hid (Row (wb.alloc (.cells (effCells zeroEff).toArray 30)) wb.heap.size 30 (effCells zeroEff)) := Row.new _ 30 (effCells zeroEff)
      go_upto_region 20 with ((with_reducible refine at_op (o := ⟨none, .store 30 (.tmp 16) (.tmp 193), _, _, _, _⟩) ?_); refine pl_store (o := ⟨none, .store 30 (.tmp 16) (.tmp 193), _, _, _, _⟩) rfl 30 (.tmp 16) (.tmp 193) rfl wb.heap.size rfl 30 (effCells zeroEff) (effCells y.e) rfl HZb.out (sizeE _) (lenE _ _) (eff_one _) ?_; intro wc hrc hcc; have HY := Lib.hid hrc; have HCY := Lib.hid hcc; clear hrc hcc)
      have HEEc := Lib.hid ((HEEb.out.alloc _).keepIs HCY.out (by omega))
      have HCCc : Hid (Ch No w wc) := (HCCb.out.alloc _).trans HCY.out (fun i hi he => by cases he; have := HCCb.out.size; omega)
      have HOc := Lib.hid (owns_keepIs (HOb.out.alloc _) HCY.out (own_ne_row (HOb.out.alloc _) HZb.out (by decide)))
      have HOLc := Lib.hid (owns_keepIs (HOLb.out.alloc _) HCY.out (own_ne_row (HOLb.out.alloc _) HZb.out (by decide)))
      generalize hb16 : wb.heap.size = b16 at *
      clear hb16 HCY HEEb HCCb HOb HOLb HZb
      obtain ⟨O17, oc17, hv17, hoc17, hol17⟩ := owns_cl HOc.out
      have hol17' : Cl wc O17 (ints ms) := by rw [← HPR.out.2.2.2.2]; exact hol17
      have hlen : y.m.length = ms.length := by rw [HPR.out.2.2.2.2]
      have HSW2 : Hid (Calls Tryd.prog 14 #[.slice O17 y.m.length oc17, .slice O8 ms.length oc8] wc fun e w'' => e = .returned (.bool true) ∧ Ch No wc w'') := same_words _ _ _ _ ms _ _ hlen rfl wc (by have := HML.out; omega) hol17' (owns_self HOLc.out)
      subst hv17
      have hsum : (z.n : Int) + (y.n : Int) = (k : Int) := by have := HPN.out; omega
      have bw : wrap64 ((z.n : Int) + (y.n : Int)) = (k : Int) := by rw [hsum]; exact wrap_in ⟨by omega, by omega⟩
      clear hsum
      have HFX : Hid (∀ W : World, Ch No wc W → W.cell? ⟨b16, 16, none⟩ = some (.int .i64 EF.pc) ∧ W.cell? ⟨be, 16, none⟩ = some (.int .i64 EF.pc) ∧ W.cell? ⟨b16, 20, none⟩ = some (.int .i64 EF.fault) ∧ W.cell? ⟨be, 20, none⟩ = some (.int .i64 EF.fault) ∧ W.cell? ⟨b16, 21, none⟩ = some (.int .i64 EF.call) ∧ W.cell? ⟨be, 21, none⟩ = some (.int .i64 EF.call) ∧ W.rangeAt b16 0 (regCells EF.r) ∧ W.rangeAt be 0 (regCells EF.r)) := by
        show ∀ W : World, _
        intro W hW
        obtain ⟨p1, p2, p3, p4, _⟩ := HPR.out
        have h1 := HY.out.keepNo hW
        have h2 := HEEc.out.keepNo hW
        refine ⟨?_, row_rest h2 0, ?_, row_rest h2 4, ?_, row_rest h2 5, ?_, eff_range h2⟩
        · rw [← p2]; exact row_rest h1 0
        · rw [← p3]; exact row_rest h1 4
        · rw [← p4]; exact row_rest h1 5
        · rw [← p1]; exact eff_range h1
      clear hlen hol17 hol17' hoc17 HOc HOLc HY HEEc
      go_wp2_with (first | (go_at_call 14; refine HSW2.out.mono ?_; rintro e wd ⟨rfl, hcd⟩; obtain ⟨x1, x2, x3, x4, x5, x6, x7, x8⟩ := HFX.out _ hcd; have HX7 := Lib.hid x7; have HX8 := Lib.hid x8; have HCD := Lib.hid hcd; clear hcd x7 x8) | ((with_reducible refine at_op (o := ⟨some 208, _, _, _, _, _⟩) ?_); refine gd_load_mid (o := ⟨some 208, _, _, _, _, _⟩) rfl 24 _ rfl b16 0 rfl (regCells EF.r) _ HX7.out Tryd.underlying24 rfl (sizeR _) ?_) | ((with_reducible refine at_op (o := ⟨some 210, _, _, _, _, _⟩) ?_); refine gd_load_mid (o := ⟨some 210, _, _, _, _, _⟩) rfl 24 _ rfl be 0 rfl (regCells EF.r) _ HX8.out Tryd.underlying24 rfl (sizeR _) ?_) | ((with_reducible refine at_op (o := ⟨some 211, _, _, _, _, _⟩) ?_); refine wpList_value (o := ⟨some 211, _, _, _, _, _⟩) rfl (.bool true) (exec_eq_regs _ (.tmp 208) (.tmp 210) rfl EF.r rfl rfl) ?_))
      go_ret
      exact ⟨rfl, HCCc.out.then_ HCD.out⟩
    · have hgo' : goes z.e = false := by simpa using hgo
      have hz := HSTOP.out hgo'
      have hze : z.e = EF := by rw [← HEF.out, hz]
      have hzm : z.m = ms := by rw [← HMS.out, ← HSE.out, hz]
      have hzn : z.n = k := by rw [← HNK.out, hz]
      have hb : (z.e.fault != 0) = true ∨ ((z.e.fault != 0) = false ∧ (z.e.call != 0) = true) := by
        unfold goes at hgo'
        by_cases h1 : z.e.fault = 0
        · by_cases h2 : z.e.call = 0
          · simp [h1, h2] at hgo'
          · exact .inr ⟨by simp [h1], by simp [h2]⟩
        · exact .inl (by simp [h1])
      have hA2 : Row wa b13 30 (effCells EF) := by rw [← hze]; exact HA.out
      have HA2 := Lib.hid hA2
      have hlen : z.m.length = ms.length := by rw [hzm]
      have HSW2 : Hid (Calls Tryd.prog 14 #[.slice O14 z.m.length oc14, .slice O8 ms.length oc8] wa fun e w'' => e = .returned (.bool true) ∧ Ch No wa w'') := same_words _ _ _ _ ms _ _ hlen rfl wa (by have := HML.out; omega) (by rw [← hzm]; exact hol14) (owns_self HOLa.out)
      have bn : ((z.n : Int) == (k : Int)) = true := by simp [hzn]
      subst hv14
      clear hgo hgo' hz hze hzm hzn hA2 hlen hol14 hoc14
      rcases hb with b20 | ⟨b20, b21⟩
      all_goals
        go_wp2_with (first | ((with_reducible refine at_op (o := ⟨some 168, _, _, _, _, _⟩) ?_); refine pl_load (o := ⟨some 168, _, _, _, _, _⟩) rfl 30 _ rfl b13 rfl 30 (effCells EF) HA2.out _ Tryd.underlying30 rfl (sizeE _) ?_) | ((with_reducible refine at_op (o := ⟨some 169, _, _, _, _, _⟩) ?_); refine pl_load (o := ⟨some 169, _, _, _, _, _⟩) rfl 30 _ rfl be rfl 30 (effCells EF) HEEa.out _ Tryd.underlying30 rfl (sizeE _) ?_) | ((with_reducible refine at_op (o := ⟨some 170, _, _, _, _, _⟩) ?_); refine pl_value (o := ⟨some 170, _, _, _, _, _⟩) rfl (.bool true) (exec_eq_eff _ (.tmp 168) (.tmp 169) rfl EF rfl rfl) ?_) | (go_at_call 14; refine HSW2.out.mono ?_; rintro e wd ⟨rfl, hcd⟩; have HCD := Lib.hid hcd; clear hcd))
        go_ret
        exact ⟨rfl, HCCa.out.then_ HCD.out⟩
end Go.Proofs.YtellmlffkgfeiaaDoor
