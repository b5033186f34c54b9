/- CpuRuns: the walk. -/
import Derived.Test.YtellmlffkgfeiaaDoorX1
import Derived.Test.YtellmlffkgfeiaaDoorU4
set_option linter.unusedVariables false
set_option linter.unusedSimpArgs false
namespace Go.Proofs.YtellmlffkgfeiaaDoor
open Go.RowKit
/-- what stands while a list of the call's own is written -/
structure Bun (w0 gc gm : Nat) (mach cc mm : List Value) (B11 B14 : Nat) (v11 v14 : Value) (ms : List Int) (W : World) : Prop where
  mach : Row W w0 26 mach
  code : Row W gc 45 cc
  mem : Row W gm 2 mm
  o11 : W.ownsRow B11 2 1 v11 (ints ms).length (ints ms)
  o14 : W.ownsRow B14 2 1 v14 (ints ms).length (ints ms)
theorem Bun.keep {w0 gc gm : Nat} {mach cc mm : List Value} {B11 B14 : Nat} {v11 v14 : Value} {ms : List Int} {W W' : World} {D : Nat → Prop} (h : Bun w0 gc gm mach cc mm B11 B14 v11 v14 ms W) (hc : Ch D W W')
    (h1 : ¬ D w0) (h2 : ¬ D gc) (h3 : ¬ D gm) (h4 : ∀ k, v11.ownBlock = some k → ¬ D k) (h5 : ∀ k, v14.ownBlock = some k → ¬ D k) : Bun w0 gc gm mach cc mm B11 B14 v11 v14 ms W' :=
  ⟨h.mach.keep hc h1, h.code.keep hc h2, h.mem.keep hc h3, owns_keep h.o11 hc h4, owns_keep h.o14 hc h5⟩
theorem Bun.keepNo {w0 gc gm : Nat} {mach cc mm : List Value} {B11 B14 : Nat} {v11 v14 : Value} {ms : List Int} {W W' : World} (h : Bun w0 gc gm mach cc mm B11 B14 v11 v14 ms W) (hc : Ch No W W') : Bun w0 gc gm mach cc mm B11 B14 v11 v14 ms W' :=
  h.keep hc (not_no _) (not_no _) (not_no _) (fun _ _ => not_no _) (fun _ _ => not_no _)
set_option maxRecDepth 100000 in
set_option maxHeartbeats 8000000 in
theorem runs_in (A : Option Addr) (cs : List Ins) (cap : Nat) (hl : cs.length ≤ 1048576) (hcs : ∀ x ∈ cs, x.ok) (M : Option Addr) (xs : List Int) (mcap : Nat) (hm : xs.length ≤ 1048576) (hmc : xs.length ≤ mcap) (hxs : ∀ x ∈ xs, In64 x) (fixed : Int) (r : Nat → Int) (hin : ∀ i, i < 16 → In64 (r i)) (pc : Int) (mo : Int) (hmo : mo ≤ 3000)
    (w : World) (hcode : Cl w A (codeCells cs)) (hM : Cl w M (ints xs)) (hg : Glob w) :
    Calls Tryd.prog 8 #[.agg (machCells (.slice A cs.length cap) (.slice M xs.length mcap) fixed r pc).toArray, .int .i64 mo] w fun e w' => e = .returned (.bool true) ∧ Ch No w w' := by
  have HG := Lib.hid hg
  have HCODE := Lib.hid hcode
  have HMM := Lib.hid hM
  have HCS := Lib.hid hcs
  have HIN := Lib.hid hin
  have HXS := Lib.hid hxs
  have HA : Hid (A = none → cs = []) := fun e => by subst e; exact cl_none hcode
  have HR1 := Lib.hid (Row.new w 26 (machCells (.slice A cs.length cap) (.slice M xs.length mcap) fixed r pc))
  have HGOOD := Lib.hid (runS_good (fixed := fixed) hcs (by omega : cs.length ≤ 9223372036854775807) (start_good (pc := pc) hin hxs))
  obtain ⟨most, hmost⟩ : ∃ most, most = mo.toNat := ⟨_, rfl⟩
  have HMO := Lib.hid hmost
  clear hcode hM hg hin hcs hxs hmost
  have m0 : (machCells (.slice A cs.length cap) (.slice M xs.length mcap) fixed r pc)[0]? = some (.slice A cs.length cap) := rfl
  have d0 : ¬ 3000 < mo := by omega
  go_enter Tryd.func8, Tryd.ntmps8
  go_wp2_with (fail)
  refine (instrs_10 A cap cs _ hl (HCODE.out.keepNo ((Ch.refl No w).alloc _)) HA.out).mono ?_
  rintro e w2 ⟨gc, c1, R1, rfl, hr2, hc1, hmx1, hgc, hc2⟩
  clear m0
  have HC2 : Hid (Ch No w w2) := ((Ch.refl No w).alloc _).then_ hc2
  have HRM2 := Lib.hid (HR1.out.keepNo hc2)
  have HGC2 := Lib.hid hr2
  have hlt2 : w.heap.size < w2.heap.size := HRM2.out.lt
  have HGCW : Hid (w.heap.size < gc) := by show _ < _; simp at hgc; omega
  clear hr2 hc2 hgc
  have g1 : w2.cell? ⟨w.heap.size, 1, none⟩ = some (.slice M xs.length mcap) := HRM2.out.cell 1
  go_wp2_with (fail)
  refine (words_11 M mcap xs _ hm (HMM.out.keepNo HC2.out)).mono ?_
  rintro e w3 ⟨gm, c2, R2, rfl, hr3, hc2, hmx2, hgm, hc3⟩
  have HC3 : Hid (Ch No w w3) := HC2.out.then_ hc3
  have HRM3 := Lib.hid (HRM2.out.keepNo hc3)
  have HGC3 : Hid (Row w3 gc 45 (codeCells cs ++ (codeCells (mi 64) ++ R1))) := by
    have h := HGC2.out.keepNo hc3
    rw [codeCells_append, List.append_assoc] at h
    exact h
  have HGM3 : Hid (Row w3 gm 2 (ints xs ++ (ints (mw 64) ++ R2))) := by
    have h := hr3
    rw [ints_append, List.append_assoc] at h
    exact h
  have HGMW : Hid (w.heap.size < gm) := by show _ < _; omega
  have HLE0 : Hid (cs.length + 64 ≤ c1 ∧ xs.length + 64 ≤ c2) := ⟨hc1, hc2⟩
  unfold maxLen at hmx1 hmx2
  have HLE : Hid (cs.length ≤ c1 ∧ c1 ≤ 9223372036854775807 ∧ xs.length ≤ c2 ∧ c2 ≤ 9223372036854775807) := ⟨by have := HLE0.out; omega, by omega, by have := HLE0.out; omega, by omega⟩
  clear hr3 hc3 hgm g1 HGC2 HRM2 HC2 hlt2 hc1 hc2 hmx1 hmx2
  have hM8 : xs.length * 8 ≤ 140737488355328 := by omega
  have HRUN : Hid (∀ W, Ch No w3 W → Calls Tryd.prog 23 #[.slice (some ⟨gc, 0, none⟩) cs.length c1, .slice (some ⟨gm, 0, none⟩) xs.length c2, .int .i64 fixed, .agg (regCells r).toArray, .int .i64 pc, .int .i64 mo] W fun e w' => ∃ v', e = .returned (.tuple #[.agg (effCells (runS cs fixed (start r pc xs) most).e).toArray, v', .int .i64 ((runS cs fixed (start r pc xs) most).n : Int)]) ∧ w'.ownsRow W.heap.size 2 1 v' (ints (runS cs fixed (start r pc xs) most).m).length (ints (runS cs fixed (start r pc xs) most).m) ∧ Ch No W w') :=
    fun W hW => runI_calls (some ⟨gc, 0, none⟩) cs c1 (by omega) HCS.out (some ⟨gm, 0, none⟩) xs c2 hM8 HXS.out fixed r HIN.out pc mo (by omega) most HMO.out W ((row_cl HGC3.out).keepNo hW) ((row_cl HGM3.out).keepNo hW) (HG.out.keep (HC3.out.then_ hW) (not_no _))
  have HREF : Hid (∀ W, Ch No w W → Calls Tryd.prog 24 #[.slice A cs.length cap, .slice M xs.length mcap, .int .i64 fixed, .agg (regCells r).toArray, .int .i64 pc, .int .i64 mo] W fun e w' => ∃ v', e = .returned (.tuple #[.agg (effCells (runS cs fixed (start r pc xs) most).e).toArray, v', .int .i64 ((runS cs fixed (start r pc xs) most).n : Int)]) ∧ w'.ownsRow W.heap.size 2 1 v' (ints (runS cs fixed (start r pc xs) most).m).length (ints (runS cs fixed (start r pc xs) most).m) ∧ Ch No W w') :=
    fun W hW => rrun_calls A cs cap (by omega) HCS.out M xs mcap hM8 HXS.out fixed r HIN.out pc mo (by omega) most HMO.out W (HCODE.out.keepNo hW) (HMM.out.keepNo hW)
  have HSL : Hid ((runS cs fixed (start r pc xs) most).m.length = xs.length) := (HGOOD.out most).len
  generalize runS cs fixed (start r pc xs) most = S at *
  go_upto_region 5 with (fail)
  go_cut [7, 8, 9] from 33 to 54 (fun vE vV vN wx => ∃ (bE : Nat) (v' : Value), vE = .pointer (some ⟨bE, 0, none⟩) ∧ v' = vV ∧ vN = .int .i64 (S.n : Int) ∧ Hid (Row wx bE 30 (effCells S.e)) ∧ Hid (w3.heap.size ≤ bE) ∧ Hid (wx.ownsRow w3.heap.size 2 1 v' (ints S.m).length (ints S.m)) ∧ Hid (Ch No w3 wx))
  case first =>
    refine wp_region_held (S := fun w' => Ch No w3 w') (by kernel_rfl) ?_
    have HS : Hid (Ch No w3 w3.drew) := (Ch.refl No w3).drew
    refine wpAnyH_take (i := 0) (oi := ⟨some 34, _, _, _, _, _⟩) (v := .slice (some ⟨gc, 0, none⟩) (cs.length + 64) c1) rfl (by kernel_rfl) (by kernel_rfl) (by kernel_rfl) (fun _ _ _ h => h) (Or.inl ⟨by rfl, fun _ _ => rfl⟩) HS.out ?_
    simp only [Act.put, List.setIfInBounds_toArray, List.set_cons_zero, List.set_cons_succ]
    refine wpAnyH_take (i := 1) (oi := ⟨some 35, _, _, _, _, _⟩) (v := .pointer (some ⟨w.heap.size, 0, none⟩)) rfl (by kernel_rfl) (by kernel_rfl) (by kernel_rfl) (fun _ _ _ h => h) (Or.inl ⟨by rfl, fun _ _ => by kernel_rfl⟩) HS.out ?_
    simp only [Act.put, List.setIfInBounds_toArray, List.set_cons_zero, List.set_cons_succ]
    refine wpAnyH_take (i := 2) (oi := ⟨some 36, _, _, _, _, _⟩) (v := .slice A cs.length cap) rfl (by kernel_rfl) (by kernel_rfl) (by kernel_rfl) (fun _ _ _ h => h) (Or.inl ⟨by rfl, fun w' hw' => exec_load_cell 22 (.tmp 35) rfl ⟨w.heap.size, 0, none⟩ rfl _ Tryd.underlying22 rfl _ ((HRM3.out.keepNo hw').cell 0)⟩) HS.out ?_
    simp only [Act.put, List.setIfInBounds_toArray, List.set_cons_zero, List.set_cons_succ]
    refine wpAnyH_take (i := 3) (oi := ⟨some 37, _, _, _, _, _⟩) (v := .int .i64 (cs.length : Int)) rfl (by kernel_rfl) (by kernel_rfl) (by kernel_rfl) (fun _ _ _ h => h) (Or.inl ⟨by rfl, fun _ _ => by kernel_rfl⟩) HS.out ?_
    simp only [Act.put, List.setIfInBounds_toArray, List.set_cons_zero, List.set_cons_succ]
    refine wpAnyH_take (i := 4) (oi := ⟨some 38, _, _, _, _, _⟩) (v := .slice (some ⟨gc, 0, none⟩) cs.length c1) rfl (by kernel_rfl) (by kernel_rfl) (by kernel_rfl) (fun _ _ _ h => h) (Or.inl ⟨by rfl, fun w' _ => exec_cut 22 45 (.tmp 34) (.tmp 37) rfl Tryd.underlying22 5 (fun _ => by kernel_rfl) gc _ c1 cs.length rfl rfl HLE.out.1 HLE.out.2.1⟩) HS.out ?_
    simp only [Act.put, List.setIfInBounds_toArray, List.set_cons_zero, List.set_cons_succ]
    refine wpAnyH_take (i := 5) (oi := ⟨some 39, _, _, _, _, _⟩) (v := .slice (some ⟨gm, 0, none⟩) (xs.length + 64) c2) rfl (by kernel_rfl) (by kernel_rfl) (by kernel_rfl) (fun _ _ _ h => h) (Or.inl ⟨by rfl, fun _ _ => rfl⟩) HS.out ?_
    simp only [Act.put, List.setIfInBounds_toArray, List.set_cons_zero, List.set_cons_succ]
    refine wpAnyH_take (i := 6) (oi := ⟨some 40, _, _, _, _, _⟩) (v := .pointer (some ⟨w.heap.size, 1, none⟩)) rfl (by kernel_rfl) (by kernel_rfl) (by kernel_rfl) (fun _ _ _ h => h) (Or.inl ⟨by rfl, fun _ _ => by kernel_rfl⟩) HS.out ?_
    simp only [Act.put, List.setIfInBounds_toArray, List.set_cons_zero, List.set_cons_succ]
    refine wpAnyH_take (i := 7) (oi := ⟨some 41, _, _, _, _, _⟩) (v := .slice M xs.length mcap) rfl (by kernel_rfl) (by kernel_rfl) (by kernel_rfl) (fun _ _ _ h => h) (Or.inl ⟨by rfl, fun w' hw' => exec_load_cell 23 (.tmp 40) rfl ⟨w.heap.size, 1, none⟩ rfl _ Tryd.underlying23 rfl _ ((HRM3.out.keepNo hw').cell 1)⟩) HS.out ?_
    simp only [Act.put, List.setIfInBounds_toArray, List.set_cons_zero, List.set_cons_succ]
    refine wpAnyH_take (i := 8) (oi := ⟨some 42, _, _, _, _, _⟩) (v := .int .i64 (xs.length : Int)) rfl (by kernel_rfl) (by kernel_rfl) (by kernel_rfl) (fun _ _ _ h => h) (Or.inl ⟨by rfl, fun _ _ => by kernel_rfl⟩) HS.out ?_
    simp only [Act.put, List.setIfInBounds_toArray, List.set_cons_zero, List.set_cons_succ]
    refine wpAnyH_take (i := 9) (oi := ⟨some 43, _, _, _, _, _⟩) (v := .slice (some ⟨gm, 0, none⟩) xs.length c2) rfl (by kernel_rfl) (by kernel_rfl) (by kernel_rfl) (fun _ _ _ h => h) (Or.inl ⟨by rfl, fun w' _ => exec_cut 23 2 (.tmp 39) (.tmp 42) rfl Tryd.underlying23 1 (fun _ => by kernel_rfl) gm _ c2 xs.length rfl rfl HLE.out.2.2.1 HLE.out.2.2.2⟩) HS.out ?_
    simp only [Act.put, List.setIfInBounds_toArray, List.set_cons_zero, List.set_cons_succ]
    refine wpAnyH_take (i := 10) (oi := ⟨some 44, _, _, _, _, _⟩) (v := .pointer (some ⟨w.heap.size, 2, none⟩)) rfl (by kernel_rfl) (by kernel_rfl) (by kernel_rfl) (fun _ _ _ h => h) (Or.inl ⟨by rfl, fun _ _ => by kernel_rfl⟩) HS.out ?_
    simp only [Act.put, List.setIfInBounds_toArray, List.set_cons_zero, List.set_cons_succ]
    refine wpAnyH_take (i := 11) (oi := ⟨some 45, _, _, _, _, _⟩) (v := .int .i64 fixed) rfl (by kernel_rfl) (by kernel_rfl) (by kernel_rfl) (fun _ _ _ h => h) (Or.inl ⟨by rfl, fun w' hw' => exec_load_cell 3 (.tmp 44) rfl ⟨w.heap.size, 2, none⟩ rfl _ Tryd.underlying3 rfl _ ((HRM3.out.keepNo hw').cell 2)⟩) HS.out ?_
    simp only [Act.put, List.setIfInBounds_toArray, List.set_cons_zero, List.set_cons_succ]
    refine wpAnyH_take (i := 12) (oi := ⟨some 46, _, _, _, _, _⟩) (v := .pointer (some ⟨w.heap.size, 3, none⟩)) rfl (by kernel_rfl) (by kernel_rfl) (by kernel_rfl) (fun _ _ _ h => h) (Or.inl ⟨by rfl, fun _ _ => by kernel_rfl⟩) HS.out ?_
    simp only [Act.put, List.setIfInBounds_toArray, List.set_cons_zero, List.set_cons_succ]
    refine wpAnyH_take (i := 13) (oi := ⟨some 47, _, _, _, _, _⟩) (v := .agg (regCells r).toArray) rfl (by kernel_rfl) (by kernel_rfl) (by kernel_rfl) (fun _ _ _ h => h) (Or.inl ⟨by rfl, fun w' hw' => exec_load_mid 24 (.tmp 46) rfl w.heap.size 3 rfl (regCells r) _ (mach_range (HRM3.out.keepNo hw')) Tryd.underlying24 rfl (sizeR _)⟩) HS.out ?_
    simp only [Act.put, List.setIfInBounds_toArray, List.set_cons_zero, List.set_cons_succ]
    refine wpAnyH_take (i := 14) (oi := ⟨some 48, _, _, _, _, _⟩) (v := .pointer (some ⟨w.heap.size, 19, none⟩)) rfl (by kernel_rfl) (by kernel_rfl) (by kernel_rfl) (fun _ _ _ h => h) (Or.inl ⟨by rfl, fun _ _ => by kernel_rfl⟩) HS.out ?_
    simp only [Act.put, List.setIfInBounds_toArray, List.set_cons_zero, List.set_cons_succ]
    refine wpAnyH_take (i := 15) (oi := ⟨some 49, _, _, _, _, _⟩) (v := .int .i64 pc) rfl (by kernel_rfl) (by kernel_rfl) (by kernel_rfl) (fun _ _ _ h => h) (Or.inl ⟨by rfl, fun w' hw' => exec_load_cell 3 (.tmp 48) rfl ⟨w.heap.size, 19, none⟩ rfl _ Tryd.underlying3 rfl _ (((HRM3.out.keepNo hw').cell 19).trans (mach_pc _ _ _ _ _))⟩) HS.out ?_
    simp only [Act.put, List.setIfInBounds_toArray, List.set_cons_zero, List.set_cons_succ]
    refine wpAnyH_take (i := 16) (oi := ⟨some 50, _, _, _, _, _⟩) (v := .int .i64 mo) rfl (by kernel_rfl) (by kernel_rfl) (by kernel_rfl) (fun _ _ _ h => h) (Or.inl ⟨by rfl, fun _ _ => rfl⟩) HS.out ?_
    simp only [Act.put, List.setIfInBounds_toArray, List.set_cons_zero, List.set_cons_succ]
    refine wpAnyH_two (i := 17) (j := 22) (oi := ⟨some 51, _, _, _, _, _⟩) (oj := ⟨some 7, _, _, _, _, _⟩) (by kernel_rfl) rfl rfl (by rfl) (by rfl) (wp_call 23 #[.slice (some ⟨gc, 0, none⟩) cs.length c1, .slice (some ⟨gm, 0, none⟩) xs.length c2, .int .i64 fixed, .agg (regCells r).toArray, .int .i64 pc, .int .i64 mo] (by kernel_rfl) ((HRUN.out _ (HS.out)).mono ?_)) (wp_alloc30 rfl ?_)
    · rintro e wn ⟨v', rfl, hon, hcn⟩
      refine ⟨_, rfl, HS.out.then_ hcn, ?_⟩
      have HSn : Hid (Ch No w3 wn) := HS.out.then_ hcn
      have HOn : Hid (wn.ownsRow w3.heap.size 2 1 v' (ints S.m).length (ints S.m)) := hon
      clear hcn hon
      simp only [Act.put, List.setIfInBounds_toArray, List.set_cons_zero, List.set_cons_succ]
      refine wpAnyH_take (i := 18) (oi := ⟨some 33, _, _, _, _, _⟩) (v := .tuple #[.agg (effCells S.e).toArray, v', .int .i64 (S.n : Int)]) rfl (by kernel_rfl) (by kernel_rfl) (by kernel_rfl) (fun _ _ _ h => h) (Or.inl ⟨by rfl, fun _ _ => rfl⟩) HSn.out ?_
      simp only [Act.put, List.setIfInBounds_toArray, List.set_cons_zero, List.set_cons_succ]
      refine wpAnyH_take (i := 19) (oi := ⟨some 52, _, _, _, _, _⟩) (v := .agg (effCells S.e).toArray) rfl (by kernel_rfl) (by kernel_rfl) (by kernel_rfl) (fun _ _ _ h => h) (Or.inl ⟨by rfl, fun _ _ => by kernel_rfl⟩) HSn.out ?_
      simp only [Act.put, List.setIfInBounds_toArray, List.set_cons_zero, List.set_cons_succ]
      refine wpAnyH_take (i := 20) (oi := ⟨some 53, _, _, _, _, _⟩) (v := v') rfl (by kernel_rfl) (by kernel_rfl) (by kernel_rfl) (fun _ _ _ h => h) (Or.inl ⟨by rfl, fun _ _ => by kernel_rfl⟩) HSn.out ?_
      simp only [Act.put, List.setIfInBounds_toArray, List.set_cons_zero, List.set_cons_succ]
      refine wpAnyH_take (i := 21) (oi := ⟨some 54, _, _, _, _, _⟩) (v := .int .i64 (S.n : Int)) rfl (by kernel_rfl) (by kernel_rfl) (by kernel_rfl) (fun _ _ _ h => h) (Or.inl ⟨by rfl, fun _ _ => by kernel_rfl⟩) HSn.out ?_
      simp only [Act.put, List.setIfInBounds_toArray, List.set_cons_zero, List.set_cons_succ]
      refine wpAnyH_one (i := 22) (o := ⟨some 7, _, _, _, _, _⟩) (by kernel_rfl) rfl (by rfl) (wp_alloc30 rfl ?_)
      refine ⟨HSn.out.alloc _, ?_⟩
      have HSX : Hid (Ch No w3 (wn.alloc (.cells (effCells zeroEff).toArray 30))) := HSn.out.alloc _
      have HOX := Lib.hid (HOn.out.alloc (.cells (effCells zeroEff).toArray 30))
      have HZX := Lib.hid (Row.new wn 30 (effCells zeroEff))
      simp only [Act.put, List.setIfInBounds_toArray, List.set_cons_zero, List.set_cons_succ]
      refine wpAnyH_one (i := 23) (o := ⟨none, _, _, _, _, _⟩) (by kernel_rfl) rfl (by rfl) (wp_store30 (.tmp 7) (.tmp 52) rfl wn.heap.size S.e rfl rfl zeroEff HZX.out ?_)
      intro w6 hr6 hc6
      have HR6 := Lib.hid hr6
      have HW6 : Hid (Ch No w3 w6) := ch_newg HSX.out hc6 HSn.out.size
      have HO6 := Lib.hid (owns_keepIs HOX.out hc6 (own_ne_row HOX.out HZX.out (by decide)))
      clear hr6 hc6
      refine ⟨HW6.out, ?_⟩
      simp only [Act.put, List.setIfInBounds_toArray, List.set_cons_zero, List.set_cons_succ]
      refine wpAnyH_take (i := 24) (oi := ⟨some 8, _, _, _, _, _⟩) (v := v') rfl (by kernel_rfl) (by kernel_rfl) (by kernel_rfl) (fun _ _ _ h => h) (Or.inl ⟨by rfl, fun _ _ => rfl⟩) HW6.out ?_
      simp only [Act.put, List.setIfInBounds_toArray, List.set_cons_zero, List.set_cons_succ]
      refine wpAnyH_take (i := 25) (oi := ⟨some 9, _, _, _, _, _⟩) (v := .int .i64 (S.n : Int)) rfl (by kernel_rfl) (by kernel_rfl) (by kernel_rfl) (fun _ _ _ h => h) (Or.inl ⟨by rfl, fun _ _ => rfl⟩) HW6.out ?_
      simp only [Act.put, List.setIfInBounds_toArray, List.set_cons_zero, List.set_cons_succ]
      refine wpAnyH_done (by kernel_rfl) ?_ _
      go_wp2_with (fail)
      go_meet
      case rel => exact ⟨wn.heap.size, v', rfl, rfl, rfl, HR6, HSn.out.size, HO6, HW6⟩
    · refine ⟨HS.out.alloc _, ?_⟩
      have HSa : Hid (Ch No w3 (World.alloc w3.drew (.cells (effCells zeroEff).toArray 30))) := HS.out.alloc _
      simp only [Act.put, List.setIfInBounds_toArray, List.set_cons_zero, List.set_cons_succ]
      refine wpAnyH_one (i := 17) (o := ⟨some 51, _, _, _, _, _⟩) (by kernel_rfl) rfl (by rfl) (wp_call 23 #[.slice (some ⟨gc, 0, none⟩) cs.length c1, .slice (some ⟨gm, 0, none⟩) xs.length c2, .int .i64 fixed, .agg (regCells r).toArray, .int .i64 pc, .int .i64 mo] (by kernel_rfl) ((HRUN.out _ (HSa.out)).mono ?_))
      rintro e wn ⟨v', rfl, hon, hcn⟩
      refine ⟨_, rfl, HSa.out.then_ hcn, ?_⟩
      have HSX : Hid (Ch No w3 wn) := HSa.out.then_ hcn
      have HOX : Hid (wn.ownsRow w3.heap.size 2 1 v' (ints S.m).length (ints S.m)) := hon.mono (by simp)
      have HZX : Hid (Row wn w3.heap.size 30 (effCells zeroEff)) := (Row.new w3.drew 30 (effCells zeroEff)).keepNo hcn
      clear hcn hon
      simp only [Act.put, List.setIfInBounds_toArray, List.set_cons_zero, List.set_cons_succ]
      refine wpAnyH_take (i := 18) (oi := ⟨some 33, _, _, _, _, _⟩) (v := .tuple #[.agg (effCells S.e).toArray, v', .int .i64 (S.n : Int)]) rfl (by kernel_rfl) (by kernel_rfl) (by kernel_rfl) (fun _ _ _ h => h) (Or.inl ⟨by rfl, fun _ _ => rfl⟩) HSX.out ?_
      simp only [Act.put, List.setIfInBounds_toArray, List.set_cons_zero, List.set_cons_succ]
      refine wpAnyH_take (i := 19) (oi := ⟨some 52, _, _, _, _, _⟩) (v := .agg (effCells S.e).toArray) rfl (by kernel_rfl) (by kernel_rfl) (by kernel_rfl) (fun _ _ _ h => h) (Or.inl ⟨by rfl, fun _ _ => by kernel_rfl⟩) HSX.out ?_
      simp only [Act.put, List.setIfInBounds_toArray, List.set_cons_zero, List.set_cons_succ]
      refine wpAnyH_take (i := 20) (oi := ⟨some 53, _, _, _, _, _⟩) (v := v') rfl (by kernel_rfl) (by kernel_rfl) (by kernel_rfl) (fun _ _ _ h => h) (Or.inl ⟨by rfl, fun _ _ => by kernel_rfl⟩) HSX.out ?_
      simp only [Act.put, List.setIfInBounds_toArray, List.set_cons_zero, List.set_cons_succ]
      refine wpAnyH_take (i := 21) (oi := ⟨some 54, _, _, _, _, _⟩) (v := .int .i64 (S.n : Int)) rfl (by kernel_rfl) (by kernel_rfl) (by kernel_rfl) (fun _ _ _ h => h) (Or.inl ⟨by rfl, fun _ _ => by kernel_rfl⟩) HSX.out ?_
      simp only [Act.put, List.setIfInBounds_toArray, List.set_cons_zero, List.set_cons_succ]
      refine wpAnyH_one (i := 23) (o := ⟨none, _, _, _, _, _⟩) (by kernel_rfl) rfl (by rfl) (wp_store30 (.tmp 7) (.tmp 52) rfl w3.heap.size S.e rfl rfl zeroEff HZX.out ?_)
      intro w6 hr6 hc6
      have HR6 := Lib.hid hr6
      have HW6 : Hid (Ch No w3 w6) := ch_newg HSX.out hc6 (Nat.le_refl _)
      have HO6 := Lib.hid (owns_keepIs HOX.out hc6 (own_ne_row HOX.out HZX.out (by decide)))
      clear hr6 hc6
      refine ⟨HW6.out, ?_⟩
      simp only [Act.put, List.setIfInBounds_toArray, List.set_cons_zero, List.set_cons_succ]
      refine wpAnyH_take (i := 24) (oi := ⟨some 8, _, _, _, _, _⟩) (v := v') rfl (by kernel_rfl) (by kernel_rfl) (by kernel_rfl) (fun _ _ _ h => h) (Or.inl ⟨by rfl, fun _ _ => rfl⟩) HW6.out ?_
      simp only [Act.put, List.setIfInBounds_toArray, List.set_cons_zero, List.set_cons_succ]
      refine wpAnyH_take (i := 25) (oi := ⟨some 9, _, _, _, _, _⟩) (v := .int .i64 (S.n : Int)) rfl (by kernel_rfl) (by kernel_rfl) (by kernel_rfl) (fun _ _ _ h => h) (Or.inl ⟨by rfl, fun _ _ => rfl⟩) HW6.out ?_
      simp only [Act.put, List.setIfInBounds_toArray, List.set_cons_zero, List.set_cons_succ]
      refine wpAnyH_done (by kernel_rfl) ?_ _
      go_wp2_with (fail)
      go_meet
      case rel => exact ⟨w3.heap.size, v', rfl, rfl, rfl, HR6, (Nat.le_refl _), HO6, HW6⟩
  case rest =>
  obtain ⟨bE, v8, hvE, hv8, hvN, HEE, HEB, HO8, HW4⟩ := hcut
  subst hvE hv8 hvN
  generalize wc = w4 at *
  have HRM4 := Lib.hid (HRM3.out.keepNo HW4.out)
  go_upto_region 6 with (fail)
  go_cut [10, 11, 12] from 55 to 76 (fun vE vV vN wx => ∃ (bE : Nat) (v' : Value), vE = .pointer (some ⟨bE, 0, none⟩) ∧ v' = vV ∧ vN = .int .i64 (S.n : Int) ∧ Hid (Row wx bE 30 (effCells S.e)) ∧ Hid (w4.heap.size ≤ bE) ∧ Hid (wx.ownsRow w4.heap.size 2 1 v' (ints S.m).length (ints S.m)) ∧ Hid (Ch No w4 wx))
  case first =>
    refine wp_region_held (S := fun w' => Ch No w4 w') (by kernel_rfl) ?_
    have HS : Hid (Ch No w4 w4.drew) := (Ch.refl No w4).drew
    refine wpAnyH_take (i := 0) (oi := ⟨some 56, _, _, _, _, _⟩) (v := .slice (some ⟨gc, 0, none⟩) (cs.length + 64) c1) rfl (by kernel_rfl) (by kernel_rfl) (by kernel_rfl) (fun _ _ _ h => h) (Or.inl ⟨by rfl, fun _ _ => rfl⟩) HS.out ?_
    simp only [Act.put, List.setIfInBounds_toArray, List.set_cons_zero, List.set_cons_succ]
    refine wpAnyH_take (i := 1) (oi := ⟨some 57, _, _, _, _, _⟩) (v := .pointer (some ⟨w.heap.size, 0, none⟩)) rfl (by kernel_rfl) (by kernel_rfl) (by kernel_rfl) (fun _ _ _ h => h) (Or.inl ⟨by rfl, fun _ _ => by kernel_rfl⟩) HS.out ?_
    simp only [Act.put, List.setIfInBounds_toArray, List.set_cons_zero, List.set_cons_succ]
    refine wpAnyH_take (i := 2) (oi := ⟨some 58, _, _, _, _, _⟩) (v := .slice A cs.length cap) rfl (by kernel_rfl) (by kernel_rfl) (by kernel_rfl) (fun _ _ _ h => h) (Or.inl ⟨by rfl, fun w' hw' => exec_load_cell 22 (.tmp 57) rfl ⟨w.heap.size, 0, none⟩ rfl _ Tryd.underlying22 rfl _ ((HRM4.out.keepNo hw').cell 0)⟩) HS.out ?_
    simp only [Act.put, List.setIfInBounds_toArray, List.set_cons_zero, List.set_cons_succ]
    refine wpAnyH_take (i := 3) (oi := ⟨some 59, _, _, _, _, _⟩) (v := .int .i64 (cs.length : Int)) rfl (by kernel_rfl) (by kernel_rfl) (by kernel_rfl) (fun _ _ _ h => h) (Or.inl ⟨by rfl, fun _ _ => by kernel_rfl⟩) HS.out ?_
    simp only [Act.put, List.setIfInBounds_toArray, List.set_cons_zero, List.set_cons_succ]
    refine wpAnyH_take (i := 4) (oi := ⟨some 60, _, _, _, _, _⟩) (v := .slice (some ⟨gc, 0, none⟩) cs.length c1) rfl (by kernel_rfl) (by kernel_rfl) (by kernel_rfl) (fun _ _ _ h => h) (Or.inl ⟨by rfl, fun w' _ => exec_cut 22 45 (.tmp 56) (.tmp 59) rfl Tryd.underlying22 5 (fun _ => by kernel_rfl) gc _ c1 cs.length rfl rfl HLE.out.1 HLE.out.2.1⟩) HS.out ?_
    simp only [Act.put, List.setIfInBounds_toArray, List.set_cons_zero, List.set_cons_succ]
    refine wpAnyH_take (i := 5) (oi := ⟨some 61, _, _, _, _, _⟩) (v := .slice (some ⟨gm, 0, none⟩) (xs.length + 64) c2) rfl (by kernel_rfl) (by kernel_rfl) (by kernel_rfl) (fun _ _ _ h => h) (Or.inl ⟨by rfl, fun _ _ => rfl⟩) HS.out ?_
    simp only [Act.put, List.setIfInBounds_toArray, List.set_cons_zero, List.set_cons_succ]
    refine wpAnyH_take (i := 6) (oi := ⟨some 62, _, _, _, _, _⟩) (v := .pointer (some ⟨w.heap.size, 1, none⟩)) rfl (by kernel_rfl) (by kernel_rfl) (by kernel_rfl) (fun _ _ _ h => h) (Or.inl ⟨by rfl, fun _ _ => by kernel_rfl⟩) HS.out ?_
    simp only [Act.put, List.setIfInBounds_toArray, List.set_cons_zero, List.set_cons_succ]
    refine wpAnyH_take (i := 7) (oi := ⟨some 63, _, _, _, _, _⟩) (v := .slice M xs.length mcap) rfl (by kernel_rfl) (by kernel_rfl) (by kernel_rfl) (fun _ _ _ h => h) (Or.inl ⟨by rfl, fun w' hw' => exec_load_cell 23 (.tmp 62) rfl ⟨w.heap.size, 1, none⟩ rfl _ Tryd.underlying23 rfl _ ((HRM4.out.keepNo hw').cell 1)⟩) HS.out ?_
    simp only [Act.put, List.setIfInBounds_toArray, List.set_cons_zero, List.set_cons_succ]
    refine wpAnyH_take (i := 8) (oi := ⟨some 64, _, _, _, _, _⟩) (v := .int .i64 (xs.length : Int)) rfl (by kernel_rfl) (by kernel_rfl) (by kernel_rfl) (fun _ _ _ h => h) (Or.inl ⟨by rfl, fun _ _ => by kernel_rfl⟩) HS.out ?_
    simp only [Act.put, List.setIfInBounds_toArray, List.set_cons_zero, List.set_cons_succ]
    refine wpAnyH_take (i := 9) (oi := ⟨some 65, _, _, _, _, _⟩) (v := .slice (some ⟨gm, 0, none⟩) xs.length c2) rfl (by kernel_rfl) (by kernel_rfl) (by kernel_rfl) (fun _ _ _ h => h) (Or.inl ⟨by rfl, fun w' _ => exec_cut 23 2 (.tmp 61) (.tmp 64) rfl Tryd.underlying23 1 (fun _ => by kernel_rfl) gm _ c2 xs.length rfl rfl HLE.out.2.2.1 HLE.out.2.2.2⟩) HS.out ?_
    simp only [Act.put, List.setIfInBounds_toArray, List.set_cons_zero, List.set_cons_succ]
    refine wpAnyH_take (i := 10) (oi := ⟨some 66, _, _, _, _, _⟩) (v := .pointer (some ⟨w.heap.size, 2, none⟩)) rfl (by kernel_rfl) (by kernel_rfl) (by kernel_rfl) (fun _ _ _ h => h) (Or.inl ⟨by rfl, fun _ _ => by kernel_rfl⟩) HS.out ?_
    simp only [Act.put, List.setIfInBounds_toArray, List.set_cons_zero, List.set_cons_succ]
    refine wpAnyH_take (i := 11) (oi := ⟨some 67, _, _, _, _, _⟩) (v := .int .i64 fixed) rfl (by kernel_rfl) (by kernel_rfl) (by kernel_rfl) (fun _ _ _ h => h) (Or.inl ⟨by rfl, fun w' hw' => exec_load_cell 3 (.tmp 66) rfl ⟨w.heap.size, 2, none⟩ rfl _ Tryd.underlying3 rfl _ ((HRM4.out.keepNo hw').cell 2)⟩) HS.out ?_
    simp only [Act.put, List.setIfInBounds_toArray, List.set_cons_zero, List.set_cons_succ]
    refine wpAnyH_take (i := 12) (oi := ⟨some 68, _, _, _, _, _⟩) (v := .pointer (some ⟨w.heap.size, 3, none⟩)) rfl (by kernel_rfl) (by kernel_rfl) (by kernel_rfl) (fun _ _ _ h => h) (Or.inl ⟨by rfl, fun _ _ => by kernel_rfl⟩) HS.out ?_
    simp only [Act.put, List.setIfInBounds_toArray, List.set_cons_zero, List.set_cons_succ]
    refine wpAnyH_take (i := 13) (oi := ⟨some 69, _, _, _, _, _⟩) (v := .agg (regCells r).toArray) rfl (by kernel_rfl) (by kernel_rfl) (by kernel_rfl) (fun _ _ _ h => h) (Or.inl ⟨by rfl, fun w' hw' => exec_load_mid 24 (.tmp 68) rfl w.heap.size 3 rfl (regCells r) _ (mach_range (HRM4.out.keepNo hw')) Tryd.underlying24 rfl (sizeR _)⟩) HS.out ?_
    simp only [Act.put, List.setIfInBounds_toArray, List.set_cons_zero, List.set_cons_succ]
    refine wpAnyH_take (i := 14) (oi := ⟨some 70, _, _, _, _, _⟩) (v := .pointer (some ⟨w.heap.size, 19, none⟩)) rfl (by kernel_rfl) (by kernel_rfl) (by kernel_rfl) (fun _ _ _ h => h) (Or.inl ⟨by rfl, fun _ _ => by kernel_rfl⟩) HS.out ?_
    simp only [Act.put, List.setIfInBounds_toArray, List.set_cons_zero, List.set_cons_succ]
    refine wpAnyH_take (i := 15) (oi := ⟨some 71, _, _, _, _, _⟩) (v := .int .i64 pc) rfl (by kernel_rfl) (by kernel_rfl) (by kernel_rfl) (fun _ _ _ h => h) (Or.inl ⟨by rfl, fun w' hw' => exec_load_cell 3 (.tmp 70) rfl ⟨w.heap.size, 19, none⟩ rfl _ Tryd.underlying3 rfl _ (((HRM4.out.keepNo hw').cell 19).trans (mach_pc _ _ _ _ _))⟩) HS.out ?_
    simp only [Act.put, List.setIfInBounds_toArray, List.set_cons_zero, List.set_cons_succ]
    refine wpAnyH_take (i := 16) (oi := ⟨some 72, _, _, _, _, _⟩) (v := .int .i64 mo) rfl (by kernel_rfl) (by kernel_rfl) (by kernel_rfl) (fun _ _ _ h => h) (Or.inl ⟨by rfl, fun _ _ => rfl⟩) HS.out ?_
    simp only [Act.put, List.setIfInBounds_toArray, List.set_cons_zero, List.set_cons_succ]
    refine wpAnyH_two (i := 17) (j := 22) (oi := ⟨some 73, _, _, _, _, _⟩) (oj := ⟨some 10, _, _, _, _, _⟩) (by kernel_rfl) rfl rfl (by rfl) (by rfl) (wp_call 23 #[.slice (some ⟨gc, 0, none⟩) cs.length c1, .slice (some ⟨gm, 0, none⟩) xs.length c2, .int .i64 fixed, .agg (regCells r).toArray, .int .i64 pc, .int .i64 mo] (by kernel_rfl) ((HRUN.out _ (HW4.out.then_ (HS.out))).mono ?_)) (wp_alloc30 rfl ?_)
    · rintro e wn ⟨v', rfl, hon, hcn⟩
      refine ⟨_, rfl, HS.out.then_ hcn, ?_⟩
      have HSn : Hid (Ch No w4 wn) := HS.out.then_ hcn
      have HOn : Hid (wn.ownsRow w4.heap.size 2 1 v' (ints S.m).length (ints S.m)) := hon
      clear hcn hon
      simp only [Act.put, List.setIfInBounds_toArray, List.set_cons_zero, List.set_cons_succ]
      refine wpAnyH_take (i := 18) (oi := ⟨some 55, _, _, _, _, _⟩) (v := .tuple #[.agg (effCells S.e).toArray, v', .int .i64 (S.n : Int)]) rfl (by kernel_rfl) (by kernel_rfl) (by kernel_rfl) (fun _ _ _ h => h) (Or.inl ⟨by rfl, fun _ _ => rfl⟩) HSn.out ?_
      simp only [Act.put, List.setIfInBounds_toArray, List.set_cons_zero, List.set_cons_succ]
      refine wpAnyH_take (i := 19) (oi := ⟨some 74, _, _, _, _, _⟩) (v := .agg (effCells S.e).toArray) rfl (by kernel_rfl) (by kernel_rfl) (by kernel_rfl) (fun _ _ _ h => h) (Or.inl ⟨by rfl, fun _ _ => by kernel_rfl⟩) HSn.out ?_
      simp only [Act.put, List.setIfInBounds_toArray, List.set_cons_zero, List.set_cons_succ]
      refine wpAnyH_take (i := 20) (oi := ⟨some 75, _, _, _, _, _⟩) (v := v') rfl (by kernel_rfl) (by kernel_rfl) (by kernel_rfl) (fun _ _ _ h => h) (Or.inl ⟨by rfl, fun _ _ => by kernel_rfl⟩) HSn.out ?_
      simp only [Act.put, List.setIfInBounds_toArray, List.set_cons_zero, List.set_cons_succ]
      refine wpAnyH_take (i := 21) (oi := ⟨some 76, _, _, _, _, _⟩) (v := .int .i64 (S.n : Int)) rfl (by kernel_rfl) (by kernel_rfl) (by kernel_rfl) (fun _ _ _ h => h) (Or.inl ⟨by rfl, fun _ _ => by kernel_rfl⟩) HSn.out ?_
      simp only [Act.put, List.setIfInBounds_toArray, List.set_cons_zero, List.set_cons_succ]
      refine wpAnyH_one (i := 22) (o := ⟨some 10, _, _, _, _, _⟩) (by kernel_rfl) rfl (by rfl) (wp_alloc30 rfl ?_)
      refine ⟨HSn.out.alloc _, ?_⟩
      have HSX : Hid (Ch No w4 (wn.alloc (.cells (effCells zeroEff).toArray 30))) := HSn.out.alloc _
      have HOX := Lib.hid (HOn.out.alloc (.cells (effCells zeroEff).toArray 30))
      have HZX := Lib.hid (Row.new wn 30 (effCells zeroEff))
      simp only [Act.put, List.setIfInBounds_toArray, List.set_cons_zero, List.set_cons_succ]
      refine wpAnyH_one (i := 23) (o := ⟨none, _, _, _, _, _⟩) (by kernel_rfl) rfl (by rfl) (wp_store30 (.tmp 10) (.tmp 74) rfl wn.heap.size S.e rfl rfl zeroEff HZX.out ?_)
      intro w6 hr6 hc6
      have HR6 := Lib.hid hr6
      have HW6 : Hid (Ch No w4 w6) := ch_newg HSX.out hc6 HSn.out.size
      have HO6 := Lib.hid (owns_keepIs HOX.out hc6 (own_ne_row HOX.out HZX.out (by decide)))
      clear hr6 hc6
      refine ⟨HW6.out, ?_⟩
      simp only [Act.put, List.setIfInBounds_toArray, List.set_cons_zero, List.set_cons_succ]
      refine wpAnyH_take (i := 24) (oi := ⟨some 11, _, _, _, _, _⟩) (v := v') rfl (by kernel_rfl) (by kernel_rfl) (by kernel_rfl) (fun _ _ _ h => h) (Or.inl ⟨by rfl, fun _ _ => rfl⟩) HW6.out ?_
      simp only [Act.put, List.setIfInBounds_toArray, List.set_cons_zero, List.set_cons_succ]
      refine wpAnyH_take (i := 25) (oi := ⟨some 12, _, _, _, _, _⟩) (v := .int .i64 (S.n : Int)) rfl (by kernel_rfl) (by kernel_rfl) (by kernel_rfl) (fun _ _ _ h => h) (Or.inl ⟨by rfl, fun _ _ => rfl⟩) HW6.out ?_
      simp only [Act.put, List.setIfInBounds_toArray, List.set_cons_zero, List.set_cons_succ]
      refine wpAnyH_done (by kernel_rfl) ?_ _
      go_wp2_with (fail)
      go_meet
      case rel => exact ⟨wn.heap.size, v', rfl, rfl, rfl, HR6, HSn.out.size, HO6, HW6⟩
    · refine ⟨HS.out.alloc _, ?_⟩
      have HSa : Hid (Ch No w4 (World.alloc w4.drew (.cells (effCells zeroEff).toArray 30))) := HS.out.alloc _
      simp only [Act.put, List.setIfInBounds_toArray, List.set_cons_zero, List.set_cons_succ]
      refine wpAnyH_one (i := 17) (o := ⟨some 73, _, _, _, _, _⟩) (by kernel_rfl) rfl (by rfl) (wp_call 23 #[.slice (some ⟨gc, 0, none⟩) cs.length c1, .slice (some ⟨gm, 0, none⟩) xs.length c2, .int .i64 fixed, .agg (regCells r).toArray, .int .i64 pc, .int .i64 mo] (by kernel_rfl) ((HRUN.out _ (HW4.out.then_ (HSa.out))).mono ?_))
      rintro e wn ⟨v', rfl, hon, hcn⟩
      refine ⟨_, rfl, HSa.out.then_ hcn, ?_⟩
      have HSX : Hid (Ch No w4 wn) := HSa.out.then_ hcn
      have HOX : Hid (wn.ownsRow w4.heap.size 2 1 v' (ints S.m).length (ints S.m)) := hon.mono (by simp)
      have HZX : Hid (Row wn w4.heap.size 30 (effCells zeroEff)) := (Row.new w4.drew 30 (effCells zeroEff)).keepNo hcn
      clear hcn hon
      simp only [Act.put, List.setIfInBounds_toArray, List.set_cons_zero, List.set_cons_succ]
      refine wpAnyH_take (i := 18) (oi := ⟨some 55, _, _, _, _, _⟩) (v := .tuple #[.agg (effCells S.e).toArray, v', .int .i64 (S.n : Int)]) rfl (by kernel_rfl) (by kernel_rfl) (by kernel_rfl) (fun _ _ _ h => h) (Or.inl ⟨by rfl, fun _ _ => rfl⟩) HSX.out ?_
      simp only [Act.put, List.setIfInBounds_toArray, List.set_cons_zero, List.set_cons_succ]
      refine wpAnyH_take (i := 19) (oi := ⟨some 74, _, _, _, _, _⟩) (v := .agg (effCells S.e).toArray) rfl (by kernel_rfl) (by kernel_rfl) (by kernel_rfl) (fun _ _ _ h => h) (Or.inl ⟨by rfl, fun _ _ => by kernel_rfl⟩) HSX.out ?_
      simp only [Act.put, List.setIfInBounds_toArray, List.set_cons_zero, List.set_cons_succ]
      refine wpAnyH_take (i := 20) (oi := ⟨some 75, _, _, _, _, _⟩) (v := v') rfl (by kernel_rfl) (by kernel_rfl) (by kernel_rfl) (fun _ _ _ h => h) (Or.inl ⟨by rfl, fun _ _ => by kernel_rfl⟩) HSX.out ?_
      simp only [Act.put, List.setIfInBounds_toArray, List.set_cons_zero, List.set_cons_succ]
      refine wpAnyH_take (i := 21) (oi := ⟨some 76, _, _, _, _, _⟩) (v := .int .i64 (S.n : Int)) rfl (by kernel_rfl) (by kernel_rfl) (by kernel_rfl) (fun _ _ _ h => h) (Or.inl ⟨by rfl, fun _ _ => by kernel_rfl⟩) HSX.out ?_
      simp only [Act.put, List.setIfInBounds_toArray, List.set_cons_zero, List.set_cons_succ]
      refine wpAnyH_one (i := 23) (o := ⟨none, _, _, _, _, _⟩) (by kernel_rfl) rfl (by rfl) (wp_store30 (.tmp 10) (.tmp 74) rfl w4.heap.size S.e rfl rfl zeroEff HZX.out ?_)
      intro w6 hr6 hc6
      have HR6 := Lib.hid hr6
      have HW6 : Hid (Ch No w4 w6) := ch_newg HSX.out hc6 (Nat.le_refl _)
      have HO6 := Lib.hid (owns_keepIs HOX.out hc6 (own_ne_row HOX.out HZX.out (by decide)))
      clear hr6 hc6
      refine ⟨HW6.out, ?_⟩
      simp only [Act.put, List.setIfInBounds_toArray, List.set_cons_zero, List.set_cons_succ]
      refine wpAnyH_take (i := 24) (oi := ⟨some 11, _, _, _, _, _⟩) (v := v') rfl (by kernel_rfl) (by kernel_rfl) (by kernel_rfl) (fun _ _ _ h => h) (Or.inl ⟨by rfl, fun _ _ => rfl⟩) HW6.out ?_
      simp only [Act.put, List.setIfInBounds_toArray, List.set_cons_zero, List.set_cons_succ]
      refine wpAnyH_take (i := 25) (oi := ⟨some 12, _, _, _, _, _⟩) (v := .int .i64 (S.n : Int)) rfl (by kernel_rfl) (by kernel_rfl) (by kernel_rfl) (fun _ _ _ h => h) (Or.inl ⟨by rfl, fun _ _ => rfl⟩) HW6.out ?_
      simp only [Act.put, List.setIfInBounds_toArray, List.set_cons_zero, List.set_cons_succ]
      refine wpAnyH_done (by kernel_rfl) ?_ _
      go_wp2_with (fail)
      go_meet
      case rel => exact ⟨w4.heap.size, v', rfl, rfl, rfl, HR6, (Nat.le_refl _), HO6, HW6⟩
  case rest =>
  obtain ⟨bF, v11, hvF, hv11, hvN, HEF, HFB, HO11, HW5⟩ := hcut
  subst hvF hv11 hvN
  generalize wc = w5 at *
  have hz34 := HW4.out.size
  have hz45 := HW5.out.size
  have HW35 : Hid (Ch No w3 w5) := HW4.out.then_ HW5.out
  have HRM5 := Lib.hid (HRM4.out.keepNo HW5.out)
  have HE5 := Lib.hid (HEE.out.keepNo HW5.out)
  have HO85 := Lib.hid (owns_keepNo HO8.out HW5.out)
  have HB8 : Hid (∀ k, v8.ownBlock = some k → w3.heap.size ≤ k ∧ k < w4.heap.size) := fun k hk => HO8.out.lt k hk
  have HB11 : Hid (∀ k, v11.ownBlock = some k → w4.heap.size ≤ k ∧ k < w5.heap.size) := fun k hk => HO11.out.lt k hk
  have HC5 : Hid (Ch No w w5) := HC3.out.then_ HW35.out
  clear HRM3 HRM4 HEE HO8 HW4 HEF
  have g0 : w5.cell? ⟨w.heap.size, 0, none⟩ = some (.slice A cs.length cap) := HRM5.out.cell 0
  have g1 : w5.cell? ⟨w.heap.size, 1, none⟩ = some (.slice M xs.length mcap) := HRM5.out.cell 1
  have g2 : w5.cell? ⟨w.heap.size, 2, none⟩ = some (.int .i64 fixed) := HRM5.out.cell 2
  have g19 : w5.cell? ⟨w.heap.size, 19, none⟩ = some (.int .i64 pc) := (HRM5.out.cell 19).trans (mach_pc _ _ _ _ _)
  go_wp2_with ((with_reducible refine at_op (o := ⟨some 85, _, _, _, _, _⟩) ?_); refine wpList_load_mid (op := ⟨some 85, _, _, _, _, _⟩) rfl 24 _ rfl w.heap.size 3 rfl (regCells r) _ (mach_range HRM5.out) Tryd.underlying24 rfl (sizeR _) ?_)
  refine (HREF.out w5 HC5.out).mono ?_
  rintro e w6 ⟨v14, rfl, ho6, hc6⟩
  have HO14 := Lib.hid ho6
  have HC6 : Hid (Ch No w w6) := HC5.out.then_ hc6
  have HW6 := Lib.hid hc6
  have HE6 := Lib.hid (HE5.out.keepNo hc6)
  have hbe : bE < w6.heap.size := HE6.out.lt
  have HB14 : Hid (∀ k, v14.ownBlock = some k → w5.heap.size ≤ k ∧ k < w6.heap.size) := fun k hk => HO14.out.lt k hk
  clear g0 g1 g2 g19 ho6 hc6
  have HZ6 : Hid (Row (w6.alloc (.cells (effCells zeroEff).toArray 30)) w6.heap.size 30 (effCells zeroEff)) := Row.new _ 30 (effCells zeroEff)
  go_upto_region 8 with ((with_reducible refine at_op (o := ⟨none, .store 30 (.tmp 13) (.tmp 90), _, _, _, _⟩) ?_); refine pl_store (o := ⟨none, .store 30 (.tmp 13) (.tmp 90), _, _, _, _⟩) rfl 30 (.tmp 13) (.tmp 90) rfl w6.heap.size rfl 30 (effCells zeroEff) (effCells S.e) rfl HZ6.out (sizeE _) (lenE _ _) (eff_one _) ?_; intro w7 hr7 hc7; have HF7 := Lib.hid hr7; have HCX := Lib.hid hc7; clear hr7 hc7)
  have HE7 := Lib.hid ((HE6.out.alloc _).keepIs HCX.out (by omega))
  have HC7 : Hid (Ch No w w7) := ch_newg (HC6.out.alloc _) HCX.out HC6.out.size
  have hz35 := HW35.out.size
  have hz56 := HW6.out.size
  have hgl := HGC3.out.lt
  have hml := HGM3.out.lt
  have hrl := HRM5.out.lt
  have HBN : Hid (Bun w.heap.size gc gm (machCells (.slice A cs.length cap) (.slice M xs.length mcap) fixed r pc) (codeCells cs ++ (codeCells (mi 64) ++ R1)) (ints xs ++ (ints (mw 64) ++ R2)) w4.heap.size w5.heap.size v11 v14 S.m w7) :=
    ⟨(((HRM5.out.keepNo HW6.out).alloc _).keepIs HCX.out (by omega)), ((((HGC3.out.keepNo HW35.out).keepNo HW6.out).alloc _).keepIs HCX.out (by omega)), ((((HGM3.out.keepNo HW35.out).keepNo HW6.out).alloc _).keepIs HCX.out (by omega)),
     owns_keepIs ((owns_keepNo HO11.out HW6.out).alloc _) HCX.out (own_ne_row ((owns_keepNo HO11.out HW6.out).alloc _) HZ6.out (by decide)), owns_keepIs (HO14.out.alloc _) HCX.out (own_ne_row (HO14.out.alloc _) HZ6.out (by decide))⟩
  have HO87 := Lib.hid (owns_keepIs ((owns_keepNo HO85.out HW6.out).alloc _) HCX.out (own_ne_row ((owns_keepNo HO85.out HW6.out).alloc _) HZ6.out (by decide)))
  have HSZ : Hid (w.heap.size < w3.heap.size ∧ gc < w3.heap.size ∧ gm < w3.heap.size ∧ w3.heap.size ≤ w4.heap.size ∧ w4.heap.size ≤ w5.heap.size ∧ w5.heap.size ≤ w6.heap.size ∧ w6.heap.size < w7.heap.size) := ⟨by have := HGCW.out; omega, by omega, by omega, hz34, hz45, by omega, HF7.out.lt⟩
  clear HRM5 HE5 HE6 HO85 HO11 HO14 HW6 HCX HC5 HC6 HZ6 hz35 hz56 hgl hml hrl hbe
  generalize hb3 : w3.heap.size = z3 at *
  generalize hb4 : w4.heap.size = z4 at *
  generalize hb5 : w5.heap.size = z5 at *
  generalize hb6 : w6.heap.size = z6 at *
  clear hz34 hz45 hb3 hb4 hb5 hb6
  have HIS : Hid (S.m.length ≤ 1048576) := by show _ ≤ _; have := HSL.out; omega
  obtain ⟨O8, k8, hq8, hk8, _⟩ := owns_cl HO87.out
  obtain ⟨O11, k11, hq11, _, _⟩ := owns_cl HBN.out.o11
  obtain ⟨O14, k14, hq14, _, _⟩ := owns_cl HBN.out.o14
  subst hq8 hq11 hq14
  have hn0 : ((S.n : Int) != (S.n : Int)) = false := by simp
  go_wp2_with (first | ((with_reducible refine at_op (o := ⟨some 93, _, _, _, _, _⟩) ?_); refine pl_load (o := ⟨some 93, _, _, _, _, _⟩) rfl 30 _ rfl (bE) rfl 30 (effCells S.e) HE7.out _ Tryd.underlying30 rfl (sizeE _) ?_) | ((with_reducible refine at_op (o := ⟨some 94, _, _, _, _, _⟩) ?_); refine pl_load (o := ⟨some 94, _, _, _, _, _⟩) rfl 30 _ rfl z6 rfl 30 (effCells S.e) HF7.out _ Tryd.underlying30 rfl (sizeE _) ?_) | ((with_reducible refine at_op (o := ⟨some 95, _, _, _, _, _⟩) ?_); refine pl_value (o := ⟨some 95, _, _, _, _, _⟩) rfl (.bool false) (exec_neq_eff _ (.tmp 93) (.tmp 94) rfl S.e rfl rfl) ?_))
  refine (same_words _ _ _ _ S.m _ _ rfl rfl _ (by have := HIS.out; omega) (owns_self HO87.out) (owns_self HBN.out.o14)).mono ?_
  rintro e wa ⟨rfl, hca⟩
  have HWA := Lib.hid hca
  clear hca
  go_wp2_with (fail)
  refine (same_words _ _ _ _ S.m _ _ rfl rfl _ (by have := HIS.out; omega) (owns_self (HBN.out.keepNo HWA.out).o11) (owns_self (HBN.out.keepNo HWA.out).o14)).mono ?_
  rintro e wb ⟨rfl, hcb⟩
  have HWB : Hid (Ch No w7 wb) := HWA.out.then_ hcb
  clear hcb HWA
  have gb1 : wb.cell? ⟨w.heap.size, 1, none⟩ = some (.slice M xs.length mcap) := (HBN.out.keepNo HWB.out).mach.cell 1
  go_wp2_with (fail)
  refine (words_11 M mcap xs _ hm (HMM.out.keepNo (HC7.out.then_ HWB.out))).mono ?_
  rintro e wcc ⟨gx, cx, RX, rfl, hrx, hcx, _, _, hcc⟩
  have HWC : Hid (Ch No w7 wcc) := HWB.out.then_ hcc
  have HX := Lib.hid hrx
  clear hrx hcc HWB gb1
  go_wp2_with (fail)
  refine (same_words _ _ _ _ (xs ++ mw 64) _ _ (by simp [mw]) (by simp [mw]) _ (by simp [mw]; omega) (by
    have h := (HBN.out.keepNo HWC.out).mem
    rw [← List.append_assoc, ← ints_append] at h
    exact row_cl h) (row_cl HX.out)).mono ?_
  rintro e wd ⟨rfl, hcd⟩
  have HWD : Hid (Ch No w7 wd) := HWC.out.then_ hcd
  clear hcd HWC HX
  have gd0 : wd.cell? ⟨w.heap.size, 0, none⟩ = some (.slice A cs.length cap) := (HBN.out.keepNo HWD.out).mach.cell 0
  go_wp2_with (fail)
  refine (instrs_10 A cap cs _ hl (HCODE.out.keepNo (HC7.out.then_ HWD.out)) HA.out).mono ?_
  rintro e we ⟨gy, cy, RY, rfl, hry, hcy, _, _, hce⟩
  have HWE : Hid (Ch No w7 we) := HWD.out.then_ hce
  have HY := Lib.hid hry
  clear hry hce HWD gd0
  go_wp2_with (fail)
  refine (same_code _ _ _ _ (cs ++ mi 64) _ _ (by simp [mi]) (by simp [mi]) _ (by simp [mi]; omega) (by
    have h := (HBN.out.keepNo HWE.out).code
    rw [← List.append_assoc, ← codeCells_append] at h
    exact row_cl h) (row_cl HY.out)).mono ?_
  rintro e wf ⟨rfl, hcf⟩
  have HWF : Hid (Ch No w7 wf) := HWE.out.then_ hcf
  have HBF := Lib.hid (HBN.out.keepNo HWF.out)
  have HOF := Lib.hid (owns_keepNo HO87.out HWF.out)
  have HCF : Hid (Ch No w wf) := HC7.out.then_ HWF.out
  have HZF : Hid (z6 ≤ wf.heap.size) := by show _ ≤ _; have := HWF.out.size; have := HSZ.out; omega
  clear hcf HWE HWF HY HBN HO87 HC7 HE7 HF7
  go_upto_block 0 with (fail)
  go_cut [16] from 129 to 137 (fun v16 wx => ∃ ys : List Int, Hid (ys.length = S.m.length) ∧ Hid (wx.ownsRow z3 2 1 (.slice O8 S.m.length k8) (ints ys).length (ints ys)) ∧ Hid (Bun w.heap.size gc gm (machCells (.slice A cs.length cap) (.slice M xs.length mcap) fixed r pc) (codeCells cs ++ (codeCells (mi 64) ++ R1)) (ints xs ++ (ints (mw 64) ++ R2)) z4 z5 (.slice O11 S.m.length k11) (.slice O14 S.m.length k14) S.m wx) ∧ Hid (Ch No w wx) ∧ Hid (z6 ≤ wx.heap.size))
  case first =>
    go_wp2_with (fail)
    go_loopw [16] (fun i wr => ∃ (k : Nat) (ys : List Int), k ≤ S.m.length ∧ i = .int .i64 k ∧ Hid (ys.length = S.m.length) ∧ Hid (wr.ownsRow z3 2 1 (.slice O8 S.m.length k8) (ints ys).length (ints ys)) ∧ Hid (Bun w.heap.size gc gm (machCells (.slice A cs.length cap) (.slice M xs.length mcap) fixed r pc) (codeCells cs ++ (codeCells (mi 64) ++ R1)) (ints xs ++ (ints (mw 64) ++ R2)) z4 z5 (.slice O11 S.m.length k11) (.slice O14 S.m.length k14) S.m wr) ∧ Hid (Ch No w wr) ∧ Hid (z6 ≤ wr.heap.size)) (fun i _ => S.m.length - (intOf i).toNat)
    case atStart => exact ⟨0, S.m, by omega, rfl, rfl, by exact HOF, by exact HBF, by exact HCF, by exact HZF⟩
    case round =>
      obtain ⟨k, ys, hk, rfl, HL, HO, HB, HC, HZ⟩ := hrel
      by_cases hlt : k < S.m.length
      · have k1 : (k : Int) < (S.m.length : Int) := by omega
        have k2 : (0 : Int) ≤ (k : Int) := by omega
        have hky : k < ys.length := by rw [HL.out]; exact hlt
        have hil := HIS.out
        obtain ⟨g8, mc, rest, hv2, hgb, hgr, hgl, hgm, hgc⟩ := owns_at HO.out k hky
        have HB8g : Hid (z3 ≤ g8 ∧ g8 < z4) := HB8.out g8 (by rw [hv2]; rfl)
        have HGR := Lib.hid hgr
        have HGL := Lib.hid hgl
        have HGM := Lib.hid hgm
        have HBK : Hid (∀ W, Ch (Is g8) wr W → Bun w.heap.size gc gm (machCells (.slice A cs.length cap) (.slice M xs.length mcap) fixed r pc) (codeCells cs ++ (codeCells (mi 64) ++ R1)) (ints xs ++ (ints (mw 64) ++ R2)) z4 z5 (.slice O11 S.m.length k11) (.slice O14 S.m.length k14) S.m W) := fun W hW => HB.out.keep hW (fun h => by have h : w.heap.size = g8 := h; have := HB8g.out; have := HSZ.out; omega) (fun h => by have h : gc = g8 := h; have := HB8g.out; have := HSZ.out; omega) (fun h => by have h : gm = g8 := h; have := HB8g.out; have := HSZ.out; omega) (fun q hq h => by have h : q = g8 := h; have := HB8g.out; have := HB11.out q hq; omega) (fun q hq h => by have h : q = g8 := h; have := HB8g.out; have := HB14.out q hq; have := HSZ.out; omega)
        have f0 : wr.frozen? ⟨g8, k, none⟩ = false := hgr.frozen k
        have HV : Hid (Value.slice (some ⟨g8, 0, none⟩) ys.length mc = .slice O8 S.m.length k8) := hv2.symm
        simp only [Value.slice.injEq] at hv2
        obtain ⟨e1, -, e3⟩ := hv2
        subst e1
        subst e3
        clear hgr hgl hgm
        go_wp2_with (fail)
        go_roundw
        case rel =>
          refine ⟨k + 1, ys.set k (-9), by omega, by go_num, by rw [List.length_set]; exact HL.out, ?_, ?_, ?_, ?_⟩
          · have h := HGR.out.set_ k (.int .i64 (-9))
            rw [set_ints _ _ _ hky] at h
            have h8 := owns_mk hgb h (by rw [ints_length, List.length_set]; have := HGL.out; have := HGM.out; rw [ints_length] at *; omega)
            have e9 : (ints (ys.set k (-9))).length + rest.length = k8 := by have := HGL.out; rw [ints_length, List.length_set]; rw [ints_length] at this; exact this
            rw [e9, ints_length, List.length_set] at h8
            rw [ints_length, List.length_set]
            rw [HL.out] at h8 ⊢
            exact h8
          · exact HBK.out _ ((Ch.refl _ _).setCell (fun _ => is_self g8) _)
          · exact HC.out.setCell (fun hh => absurd hh (by have := HB8g.out; have := HSZ.out; show ¬ g8 < _; omega)) _
          · show z6 ≤ _
            have := HZ.out
            simpa using this
        case measure => simp [intOf]; omega
      · have hil := HIS.out
        go_wp2_with (fail)
        go_meet
        case rel => exact ⟨ys, HL, HO, HB, HC, HZ⟩
  case rest =>
  obtain ⟨ys, HYL, HOY, HBY, HCY, HZY⟩ := hcut
  generalize wc = wg at *
  clear HOF HBF HCF HZF
  go_upto_block 2 with (fail)
  go_cut [17, 18] from 139 to 145 (fun v17 v18 wx => ∃ (A17 : Option Addr) (k17 : Nat), v17 = .slice A17 (xs.length + 64) k17 ∧ Hid (Bun w.heap.size gc gm (machCells (.slice A cs.length cap) (.slice M xs.length mcap) fixed r pc) (codeCells cs ++ (codeCells (mi 64) ++ R1)) (ints xs ++ (ints (mw 64) ++ R2)) z4 z5 (.slice O11 S.m.length k11) (.slice O14 S.m.length k14) S.m wx) ∧ Hid (Ch No w wx))
  case first =>
    go_wp2_with (fail)
    go_loopw [17, 18] (fun v i wr => ∃ (k : Nat) (zs : List Int), k ≤ 64 ∧ i = .int .i64 k ∧ Hid (zs.length = xs.length + k) ∧ Hid (wr.ownsRow z3 2 1 v (ints zs).length (ints zs)) ∧ Hid (∀ b, v.ownBlock = some b → (z3 ≤ b ∧ b < z4) ∨ z6 ≤ b) ∧ Hid (Bun w.heap.size gc gm (machCells (.slice A cs.length cap) (.slice M xs.length mcap) fixed r pc) (codeCells cs ++ (codeCells (mi 64) ++ R1)) (ints xs ++ (ints (mw 64) ++ R2)) z4 z5 (.slice O11 S.m.length k11) (.slice O14 S.m.length k14) S.m wr) ∧ Hid (Ch No w wr) ∧ Hid (z6 ≤ wr.heap.size)) (fun _ i _ => 64 - (intOf i).toNat)
    case atStart => exact ⟨0, ys, by omega, rfl, by show _ = _; rw [HYL.out, HSL.out]; rfl, by exact HOY, fun b hb => .inl (HB8.out b hb), by exact HBY, by exact HCY, by exact HZY⟩
    case round =>
      obtain ⟨k, zs, hk, rfl, HL, HO, HV, HB, HC, HZ⟩ := hrel
      by_cases hlt : k < 64
      · have HBA : Hid (Bun w.heap.size gc gm (machCells (.slice A cs.length cap) (.slice M xs.length mcap) fixed r pc) (codeCells cs ++ (codeCells (mi 64) ++ R1)) (ints xs ++ (ints (mw 64) ++ R2)) z4 z5 (.slice O11 S.m.length k11) (.slice O14 S.m.length k14) S.m (wr.alloc (.cells (ints [-8]).toArray 2))) := HB.out.keepNo ((Ch.refl No wr).alloc _)
        have HLL : Hid ((ints zs).length = xs.length + k) := by show _ = _; rw [ints_length]; exact HL.out
        go_wp2_with (at_builtin; refine wpList_append_to rfl (.tmp 143) (.tmp 144) 23 rfl z3 2 (.int .i64 0) 8 Tryd.underlying23 info2 rfl u17 (ints zs) rfl _ _ _ (ints [-8]) rfl (HO.out.alloc _) (ints_length _) ((Row.new wr 2 (ints [-8])).cl0) (ints_one _) (by rw [HLL.out]; omega) (by omega) (by have := HZ.out; have := HSZ.out; simp; omega) ?_; intro v1 w1 ho1 hg1 hat1; have HO1 := Lib.hid ho1; have HG1 := Lib.hid hg1; have HAT := Lib.hid hat1; clear ho1 hg1 hat1)
        go_roundw
        case rel =>
          have hnb : ∀ b, u17.ownBlock = some b → (z3 ≤ b ∧ b < z4) ∨ z6 ≤ b := HV.out
          refine ⟨k + 1, zs ++ [-8], by omega, by go_num, by show _ = _; rw [List.length_append, HL.out]; rfl, ?_, ?_, ?_, ?_, ?_⟩
          · have := HO1.out
            rw [← ints_append] at this
            exact this
          · intro b hb
            rcases HAT.out with h | h
            · rw [h] at hb
              exact hnb b hb
            · rw [h] at hb
              have : (wr.alloc (.cells (ints [-8]).toArray 2)).heap.size = b := by simpa using hb
              have hz := HZ.out
              simp at this
              exact .inr (by omega)
          · have hs := HSZ.out
            exact HBA.out.keep (Ch.of_grownBy HG1.out) (fun h => by have := hnb _ h; omega) (fun h => by have := hnb _ h; omega) (fun h => by have := hnb _ h; omega) (fun q hq h => by have := hnb _ h; have := HB11.out q hq; omega) (fun q hq h => by have := hnb _ h; have := HB14.out q hq; omega)
          · exact (HC.out.alloc _).trans (Ch.of_grownBy HG1.out) (fun i hi he => by have := hnb _ he; have := HSZ.out; omega)
          · show z6 ≤ _
            have := HG1.out.size
            have := HZ.out
            simp at *
            omega
        case measure => simp [intOf]; omega
      · obtain rfl : k = 64 := by omega
        obtain ⟨A17, k17, hv, _, _⟩ := owns_cl HO.out
        rw [HL.out] at hv
        have HVV := Lib.hid hv
        clear hv
        go_wp2_with (fail)
        go_meet
        case rel => exact ⟨A17, k17, HVV.out, HB, HC⟩
  case rest =>
  obtain ⟨A17, k17, hv17, HBH, HCH⟩ := hcut
  subst hv17
  generalize wc = wh at *
  clear HBY HCY HZY HOY
  go_wp2_with (fail)
  refine (same_words _ _ _ _ S.m _ _ rfl rfl _ (by have := HIS.out; omega) (owns_self HBH.out.o11) (owns_self HBH.out.o14)).mono ?_
  rintro e wi ⟨rfl, hci⟩
  have HWI := Lib.hid hci
  clear hci
  have gi1 : wi.cell? ⟨w.heap.size, 1, none⟩ = some (.slice M xs.length mcap) := (HBH.out.keepNo HWI.out).mach.cell 1
  go_wp2_with (fail)
  refine (words_11 M mcap xs _ hm (HMM.out.keepNo (HCH.out.then_ HWI.out))).mono ?_
  rintro e wj ⟨gx, cx, RX, rfl, hrx, hcx, _, _, hcc⟩
  have HWJ : Hid (Ch No wh wj) := HWI.out.then_ hcc
  have HX := Lib.hid hrx
  clear hrx hcc HWI gi1
  go_wp2_with (fail)
  refine (same_words _ _ _ _ (xs ++ mw 64) _ _ (by simp [mw]) (by simp [mw]) _ (by simp [mw]; omega) (by
    have h := (HBH.out.keepNo HWJ.out).mem
    rw [← List.append_assoc, ← ints_append] at h
    exact row_cl h) (row_cl HX.out)).mono ?_
  rintro e wk ⟨rfl, hck⟩
  have HWK : Hid (Ch No wh wk) := HWJ.out.then_ hck
  have HBK := Lib.hid (HBH.out.keepNo HWK.out)
  have HCK : Hid (Ch No w wk) := HCH.out.then_ HWK.out
  clear hck HWJ HX HWK HBH HCH
  have gk1 : wk.cell? ⟨w.heap.size, 1, none⟩ = some (.slice M xs.length mcap) := HBK.out.mach.cell 1
  have nk : (((xs.length : Int) + 64) != ((xs.length : Int) + 64)) = false := by simp
  go_upto_region 21 with (fail)
  have HRMk := Lib.hid HBK.out.mach
  have HGCk := Lib.hid HBK.out.code
  have HGMk := Lib.hid HBK.out.mem
  clear HBK gk1
  refine wp_region_quiet_tail 10 (by kernel_rfl) (by kernel_rfl) (fun w' => Ch No wk w') ((Ch.refl _ _).drew) ?_
  simp only [List.take_succ_cons, List.take_zero, List.drop_succ_cons, List.drop_zero]
  refine wpQuiet_value (by rfl) (.slice (some ⟨gc, 0, none⟩) (cs.length + 64) c1) (fun _ => rfl) ?_
  simp only [Act.put, List.setIfInBounds_toArray, List.set_cons_zero, List.set_cons_succ]
  refine wpQuiet_value (by rfl) (.pointer (some ⟨w.heap.size, 0, none⟩)) (fun _ => by kernel_rfl) ?_
  simp only [Act.put, List.setIfInBounds_toArray, List.set_cons_zero, List.set_cons_succ]
  refine wpQuiet_read (by rfl) (.slice A cs.length cap) (fun w' hw' => exec_load_cell 22 (.tmp 168) rfl ⟨w.heap.size, 0, none⟩ rfl _ Tryd.underlying22 rfl _ ((HRMk.out.keepNo hw').cell 0)) ?_
  simp only [Act.put, List.setIfInBounds_toArray, List.set_cons_zero, List.set_cons_succ]
  refine wpQuiet_value (by rfl) (.int .i64 (cs.length : Int)) (fun _ => by kernel_rfl) ?_
  simp only [Act.put, List.setIfInBounds_toArray, List.set_cons_zero, List.set_cons_succ]
  refine wpQuiet_value (by rfl) (.slice (some ⟨gc, 0, none⟩) cs.length c1) (fun w' => exec_cut 22 45 (.tmp 167) (.tmp 170) rfl Tryd.underlying22 5 (fun _ => by kernel_rfl) gc _ c1 cs.length rfl rfl HLE.out.1 HLE.out.2.1) ?_
  simp only [Act.put, List.setIfInBounds_toArray, List.set_cons_zero, List.set_cons_succ]
  refine wpQuiet_value (by rfl) (.slice (some ⟨gm, 0, none⟩) (xs.length + 64) c2) (fun _ => rfl) ?_
  simp only [Act.put, List.setIfInBounds_toArray, List.set_cons_zero, List.set_cons_succ]
  refine wpQuiet_value (by rfl) (.pointer (some ⟨w.heap.size, 1, none⟩)) (fun _ => by kernel_rfl) ?_
  simp only [Act.put, List.setIfInBounds_toArray, List.set_cons_zero, List.set_cons_succ]
  refine wpQuiet_read (by rfl) (.slice M xs.length mcap) (fun w' hw' => exec_load_cell 23 (.tmp 173) rfl ⟨w.heap.size, 1, none⟩ rfl _ Tryd.underlying23 rfl _ ((HRMk.out.keepNo hw').cell 1)) ?_
  simp only [Act.put, List.setIfInBounds_toArray, List.set_cons_zero, List.set_cons_succ]
  refine wpQuiet_value (by rfl) (.int .i64 (xs.length : Int)) (fun _ => by kernel_rfl) ?_
  simp only [Act.put, List.setIfInBounds_toArray, List.set_cons_zero, List.set_cons_succ]
  refine wpQuiet_value (by rfl) (.slice (some ⟨gm, 0, none⟩) xs.length c2) (fun w' => exec_cut 23 2 (.tmp 172) (.tmp 175) rfl Tryd.underlying23 1 (fun _ => by kernel_rfl) gm _ c2 xs.length rfl rfl HLE.out.2.2.1 HLE.out.2.2.2) ?_
  simp only [Act.put, List.setIfInBounds_toArray, List.set_cons_zero, List.set_cons_succ]
  refine wpQuiet_nil ?_
  try simp only [Act.put, List.setIfInBounds_toArray, List.set_cons_zero, List.set_cons_succ]
  intro wp hwp
  have HWP := Lib.hid hwp
  clear hwp
  have HTURN := Lib.hid (turned_16 gc c1 gm c2 cs xs (codeCells (mi 64) ++ R1) (ints (mw 64) ++ R2) wp hl hm HLE.out.1 HLE.out.2.2.1 HCS.out HXS.out (HGCk.out.keepNo HWP.out) (HGMk.out.keepNo HWP.out))
  go_upto_region 22 with (go_at_call 16; refine HTURN.out.mono ?_; rintro e wt ⟨cs', xs', rfl, hcl, hco, hxl, hxi, hgc8, hgm8, hc8⟩; have HCL := Lib.hid hcl; have HCO := Lib.hid hco; have HXL := Lib.hid hxl; have HXI := Lib.hid hxi; have HGC8 := Lib.hid hgc8; have HGM8 := Lib.hid hgm8; have HCH8 := Lib.hid hc8; clear hcl hco hxl hxi hgc8 hgm8 hc8)
  have HRMt : Hid (Row wt w.heap.size 26 (machCells (.slice A cs.length cap) (.slice M xs.length mcap) fixed r pc)) := (HRMk.out.keepNo HWP.out).keep HCH8.out (fun h => by have a := HGCW.out; have b := HGMW.out; rcases h with h | h <;> omega)
  have HCt : Hid (Ch No w wt) := (HCK.out.then_ HWP.out).trans HCH8.out (fun i hi h => by have a := HGCW.out; have b := HGMW.out; rcases h with h | h <;> (exfalso; omega))
  clear HTURN HWP HCH8 HRMk HGCk HGMk HCK
  have hcle := HCL.out
  have hxle := HXL.out
  have hM8' : xs'.length * 8 ≤ 140737488355328 := by omega
  have HGX : ∀ x ∈ xs', In64 x := HXI.out
  have HREF2 : Hid (∀ W, Ch No wt W → Calls Tryd.prog 24 #[.slice (some ⟨gc, 0, none⟩) cs.length c1, .slice (some ⟨gm, 0, none⟩) xs.length c2, .int .i64 fixed, .agg (regCells r).toArray, .int .i64 pc, .int .i64 mo] W fun e w' => ∃ v', e = .returned (.tuple #[.agg (effCells (runS cs' fixed (start r pc xs') most).e).toArray, v', .int .i64 ((runS cs' fixed (start r pc xs') most).n : Int)]) ∧ w'.ownsRow W.heap.size 2 1 v' (ints (runS cs' fixed (start r pc xs') most).m).length (ints (runS cs' fixed (start r pc xs') most).m) ∧ Ch No W w') := by
    show ∀ W, _
    intro W hW
    have h := rrun_calls (some ⟨gc, 0, none⟩) cs' c1 (by omega) HCO.out (some ⟨gm, 0, none⟩) xs' c2 hM8' HXI.out fixed r HIN.out pc mo (by omega) most HMO.out W ((row_cl HGC8.out).keepNo hW) ((row_cl HGM8.out).keepNo hW)
    rw [HCL.out, HXL.out] at h
    exact h
  have HRUN2 : Hid (∀ W, Ch No wt W → Calls Tryd.prog 23 #[.slice (some ⟨gc, 0, none⟩) cs.length c1, .slice (some ⟨gm, 0, none⟩) xs.length c2, .int .i64 fixed, .agg (regCells r).toArray, .int .i64 pc, .int .i64 mo] W fun e w' => ∃ v', e = .returned (.tuple #[.agg (effCells (runS cs' fixed (start r pc xs') most).e).toArray, v', .int .i64 ((runS cs' fixed (start r pc xs') most).n : Int)]) ∧ w'.ownsRow W.heap.size 2 1 v' (ints (runS cs' fixed (start r pc xs') most).m).length (ints (runS cs' fixed (start r pc xs') most).m) ∧ Ch No W w') := by
    show ∀ W, _
    intro W hW
    have h := runI_calls (some ⟨gc, 0, none⟩) cs' c1 (by omega) HCO.out (some ⟨gm, 0, none⟩) xs' c2 hM8' HXI.out fixed r HIN.out pc mo (by omega) most HMO.out W ((row_cl HGC8.out).keepNo hW) ((row_cl HGM8.out).keepNo hW) (HG.out.keep (HCt.out.then_ hW) (not_no _))
    rw [HCL.out, HXL.out] at h
    exact h
  have HSL2 : Hid ((runS cs' fixed (start r pc xs') most).m.length = xs'.length) := (runS_good HCO.out (by omega : cs'.length ≤ 9223372036854775807) (start_good (pc := pc) HIN.out HGX) most).len
  generalize runS cs' fixed (start r pc xs') most = S2 at *
  clear hcle HGX
  go_upto_region 22 with (fail)
  go_cut [19, 20, 21] from 178 to 199 (fun vE vV vN wx => ∃ (bE : Nat) (v' : Value), vE = .pointer (some ⟨bE, 0, none⟩) ∧ v' = vV ∧ vN = .int .i64 (S2.n : Int) ∧ Hid (Row wx bE 30 (effCells S2.e)) ∧ Hid (wt.heap.size ≤ bE) ∧ Hid (wx.ownsRow wt.heap.size 2 1 v' (ints S2.m).length (ints S2.m)) ∧ Hid (Ch No wt wx))
  case first =>
    refine wp_region_held (S := fun w' => Ch No wt w') (by kernel_rfl) ?_
    have HS : Hid (Ch No wt wt.drew) := (Ch.refl No wt).drew
    refine wpAnyH_take (i := 0) (oi := ⟨some 179, _, _, _, _, _⟩) (v := .slice (some ⟨gc, 0, none⟩) (cs.length + 64) c1) rfl (by kernel_rfl) (by kernel_rfl) (by kernel_rfl) (fun _ _ _ h => h) (Or.inl ⟨by rfl, fun _ _ => rfl⟩) HS.out ?_
    simp only [Act.put, List.setIfInBounds_toArray, List.set_cons_zero, List.set_cons_succ]
    refine wpAnyH_take (i := 1) (oi := ⟨some 180, _, _, _, _, _⟩) (v := .pointer (some ⟨w.heap.size, 0, none⟩)) rfl (by kernel_rfl) (by kernel_rfl) (by kernel_rfl) (fun _ _ _ h => h) (Or.inl ⟨by rfl, fun _ _ => by kernel_rfl⟩) HS.out ?_
    simp only [Act.put, List.setIfInBounds_toArray, List.set_cons_zero, List.set_cons_succ]
    refine wpAnyH_take (i := 2) (oi := ⟨some 181, _, _, _, _, _⟩) (v := .slice A cs.length cap) rfl (by kernel_rfl) (by kernel_rfl) (by kernel_rfl) (fun _ _ _ h => h) (Or.inl ⟨by rfl, fun w' hw' => exec_load_cell 22 (.tmp 180) rfl ⟨w.heap.size, 0, none⟩ rfl _ Tryd.underlying22 rfl _ ((HRMt.out.keepNo hw').cell 0)⟩) HS.out ?_
    simp only [Act.put, List.setIfInBounds_toArray, List.set_cons_zero, List.set_cons_succ]
    refine wpAnyH_take (i := 3) (oi := ⟨some 182, _, _, _, _, _⟩) (v := .int .i64 (cs.length : Int)) rfl (by kernel_rfl) (by kernel_rfl) (by kernel_rfl) (fun _ _ _ h => h) (Or.inl ⟨by rfl, fun _ _ => by kernel_rfl⟩) HS.out ?_
    simp only [Act.put, List.setIfInBounds_toArray, List.set_cons_zero, List.set_cons_succ]
    refine wpAnyH_take (i := 4) (oi := ⟨some 183, _, _, _, _, _⟩) (v := .slice (some ⟨gc, 0, none⟩) cs.length c1) rfl (by kernel_rfl) (by kernel_rfl) (by kernel_rfl) (fun _ _ _ h => h) (Or.inl ⟨by rfl, fun w' _ => exec_cut 22 45 (.tmp 179) (.tmp 182) rfl Tryd.underlying22 5 (fun _ => by kernel_rfl) gc _ c1 cs.length rfl rfl HLE.out.1 HLE.out.2.1⟩) HS.out ?_
    simp only [Act.put, List.setIfInBounds_toArray, List.set_cons_zero, List.set_cons_succ]
    refine wpAnyH_take (i := 5) (oi := ⟨some 184, _, _, _, _, _⟩) (v := .slice (some ⟨gm, 0, none⟩) (xs.length + 64) c2) rfl (by kernel_rfl) (by kernel_rfl) (by kernel_rfl) (fun _ _ _ h => h) (Or.inl ⟨by rfl, fun _ _ => rfl⟩) HS.out ?_
    simp only [Act.put, List.setIfInBounds_toArray, List.set_cons_zero, List.set_cons_succ]
    refine wpAnyH_take (i := 6) (oi := ⟨some 185, _, _, _, _, _⟩) (v := .pointer (some ⟨w.heap.size, 1, none⟩)) rfl (by kernel_rfl) (by kernel_rfl) (by kernel_rfl) (fun _ _ _ h => h) (Or.inl ⟨by rfl, fun _ _ => by kernel_rfl⟩) HS.out ?_
    simp only [Act.put, List.setIfInBounds_toArray, List.set_cons_zero, List.set_cons_succ]
    refine wpAnyH_take (i := 7) (oi := ⟨some 186, _, _, _, _, _⟩) (v := .slice M xs.length mcap) rfl (by kernel_rfl) (by kernel_rfl) (by kernel_rfl) (fun _ _ _ h => h) (Or.inl ⟨by rfl, fun w' hw' => exec_load_cell 23 (.tmp 185) rfl ⟨w.heap.size, 1, none⟩ rfl _ Tryd.underlying23 rfl _ ((HRMt.out.keepNo hw').cell 1)⟩) HS.out ?_
    simp only [Act.put, List.setIfInBounds_toArray, List.set_cons_zero, List.set_cons_succ]
    refine wpAnyH_take (i := 8) (oi := ⟨some 187, _, _, _, _, _⟩) (v := .int .i64 (xs.length : Int)) rfl (by kernel_rfl) (by kernel_rfl) (by kernel_rfl) (fun _ _ _ h => h) (Or.inl ⟨by rfl, fun _ _ => by kernel_rfl⟩) HS.out ?_
    simp only [Act.put, List.setIfInBounds_toArray, List.set_cons_zero, List.set_cons_succ]
    refine wpAnyH_take (i := 9) (oi := ⟨some 188, _, _, _, _, _⟩) (v := .slice (some ⟨gm, 0, none⟩) xs.length c2) rfl (by kernel_rfl) (by kernel_rfl) (by kernel_rfl) (fun _ _ _ h => h) (Or.inl ⟨by rfl, fun w' _ => exec_cut 23 2 (.tmp 184) (.tmp 187) rfl Tryd.underlying23 1 (fun _ => by kernel_rfl) gm _ c2 xs.length rfl rfl HLE.out.2.2.1 HLE.out.2.2.2⟩) HS.out ?_
    simp only [Act.put, List.setIfInBounds_toArray, List.set_cons_zero, List.set_cons_succ]
    refine wpAnyH_take (i := 10) (oi := ⟨some 189, _, _, _, _, _⟩) (v := .pointer (some ⟨w.heap.size, 2, none⟩)) rfl (by kernel_rfl) (by kernel_rfl) (by kernel_rfl) (fun _ _ _ h => h) (Or.inl ⟨by rfl, fun _ _ => by kernel_rfl⟩) HS.out ?_
    simp only [Act.put, List.setIfInBounds_toArray, List.set_cons_zero, List.set_cons_succ]
    refine wpAnyH_take (i := 11) (oi := ⟨some 190, _, _, _, _, _⟩) (v := .int .i64 fixed) rfl (by kernel_rfl) (by kernel_rfl) (by kernel_rfl) (fun _ _ _ h => h) (Or.inl ⟨by rfl, fun w' hw' => exec_load_cell 3 (.tmp 189) rfl ⟨w.heap.size, 2, none⟩ rfl _ Tryd.underlying3 rfl _ ((HRMt.out.keepNo hw').cell 2)⟩) HS.out ?_
    simp only [Act.put, List.setIfInBounds_toArray, List.set_cons_zero, List.set_cons_succ]
    refine wpAnyH_take (i := 12) (oi := ⟨some 191, _, _, _, _, _⟩) (v := .pointer (some ⟨w.heap.size, 3, none⟩)) rfl (by kernel_rfl) (by kernel_rfl) (by kernel_rfl) (fun _ _ _ h => h) (Or.inl ⟨by rfl, fun _ _ => by kernel_rfl⟩) HS.out ?_
    simp only [Act.put, List.setIfInBounds_toArray, List.set_cons_zero, List.set_cons_succ]
    refine wpAnyH_take (i := 13) (oi := ⟨some 192, _, _, _, _, _⟩) (v := .agg (regCells r).toArray) rfl (by kernel_rfl) (by kernel_rfl) (by kernel_rfl) (fun _ _ _ h => h) (Or.inl ⟨by rfl, fun w' hw' => exec_load_mid 24 (.tmp 191) rfl w.heap.size 3 rfl (regCells r) _ (mach_range (HRMt.out.keepNo hw')) Tryd.underlying24 rfl (sizeR _)⟩) HS.out ?_
    simp only [Act.put, List.setIfInBounds_toArray, List.set_cons_zero, List.set_cons_succ]
    refine wpAnyH_take (i := 14) (oi := ⟨some 193, _, _, _, _, _⟩) (v := .pointer (some ⟨w.heap.size, 19, none⟩)) rfl (by kernel_rfl) (by kernel_rfl) (by kernel_rfl) (fun _ _ _ h => h) (Or.inl ⟨by rfl, fun _ _ => by kernel_rfl⟩) HS.out ?_
    simp only [Act.put, List.setIfInBounds_toArray, List.set_cons_zero, List.set_cons_succ]
    refine wpAnyH_take (i := 15) (oi := ⟨some 194, _, _, _, _, _⟩) (v := .int .i64 pc) rfl (by kernel_rfl) (by kernel_rfl) (by kernel_rfl) (fun _ _ _ h => h) (Or.inl ⟨by rfl, fun w' hw' => exec_load_cell 3 (.tmp 193) rfl ⟨w.heap.size, 19, none⟩ rfl _ Tryd.underlying3 rfl _ (((HRMt.out.keepNo hw').cell 19).trans (mach_pc _ _ _ _ _))⟩) HS.out ?_
    simp only [Act.put, List.setIfInBounds_toArray, List.set_cons_zero, List.set_cons_succ]
    refine wpAnyH_take (i := 16) (oi := ⟨some 195, _, _, _, _, _⟩) (v := .int .i64 mo) rfl (by kernel_rfl) (by kernel_rfl) (by kernel_rfl) (fun _ _ _ h => h) (Or.inl ⟨by rfl, fun _ _ => rfl⟩) HS.out ?_
    simp only [Act.put, List.setIfInBounds_toArray, List.set_cons_zero, List.set_cons_succ]
    refine wpAnyH_two (i := 17) (j := 22) (oi := ⟨some 196, _, _, _, _, _⟩) (oj := ⟨some 19, _, _, _, _, _⟩) (by kernel_rfl) rfl rfl (by rfl) (by rfl) (wp_call 24 #[.slice (some ⟨gc, 0, none⟩) cs.length c1, .slice (some ⟨gm, 0, none⟩) xs.length c2, .int .i64 fixed, .agg (regCells r).toArray, .int .i64 pc, .int .i64 mo] (by kernel_rfl) ((HREF2.out _ (HS.out)).mono ?_)) (wp_alloc30 rfl ?_)
    · rintro e wn ⟨v', rfl, hon, hcn⟩
      refine ⟨_, rfl, HS.out.then_ hcn, ?_⟩
      have HSn : Hid (Ch No wt wn) := HS.out.then_ hcn
      have HOn : Hid (wn.ownsRow wt.heap.size 2 1 v' (ints S2.m).length (ints S2.m)) := hon
      clear hcn hon
      simp only [Act.put, List.setIfInBounds_toArray, List.set_cons_zero, List.set_cons_succ]
      refine wpAnyH_take (i := 18) (oi := ⟨some 178, _, _, _, _, _⟩) (v := .tuple #[.agg (effCells S2.e).toArray, v', .int .i64 (S2.n : Int)]) rfl (by kernel_rfl) (by kernel_rfl) (by kernel_rfl) (fun _ _ _ h => h) (Or.inl ⟨by rfl, fun _ _ => rfl⟩) HSn.out ?_
      simp only [Act.put, List.setIfInBounds_toArray, List.set_cons_zero, List.set_cons_succ]
      refine wpAnyH_take (i := 19) (oi := ⟨some 197, _, _, _, _, _⟩) (v := .agg (effCells S2.e).toArray) rfl (by kernel_rfl) (by kernel_rfl) (by kernel_rfl) (fun _ _ _ h => h) (Or.inl ⟨by rfl, fun _ _ => by kernel_rfl⟩) HSn.out ?_
      simp only [Act.put, List.setIfInBounds_toArray, List.set_cons_zero, List.set_cons_succ]
      refine wpAnyH_take (i := 20) (oi := ⟨some 198, _, _, _, _, _⟩) (v := v') rfl (by kernel_rfl) (by kernel_rfl) (by kernel_rfl) (fun _ _ _ h => h) (Or.inl ⟨by rfl, fun _ _ => by kernel_rfl⟩) HSn.out ?_
      simp only [Act.put, List.setIfInBounds_toArray, List.set_cons_zero, List.set_cons_succ]
      refine wpAnyH_take (i := 21) (oi := ⟨some 199, _, _, _, _, _⟩) (v := .int .i64 (S2.n : Int)) rfl (by kernel_rfl) (by kernel_rfl) (by kernel_rfl) (fun _ _ _ h => h) (Or.inl ⟨by rfl, fun _ _ => by kernel_rfl⟩) HSn.out ?_
      simp only [Act.put, List.setIfInBounds_toArray, List.set_cons_zero, List.set_cons_succ]
      refine wpAnyH_one (i := 22) (o := ⟨some 19, _, _, _, _, _⟩) (by kernel_rfl) rfl (by rfl) (wp_alloc30 rfl ?_)
      refine ⟨HSn.out.alloc _, ?_⟩
      have HSX : Hid (Ch No wt (wn.alloc (.cells (effCells zeroEff).toArray 30))) := HSn.out.alloc _
      have HOX := Lib.hid (HOn.out.alloc (.cells (effCells zeroEff).toArray 30))
      have HZX := Lib.hid (Row.new wn 30 (effCells zeroEff))
      simp only [Act.put, List.setIfInBounds_toArray, List.set_cons_zero, List.set_cons_succ]
      refine wpAnyH_one (i := 23) (o := ⟨none, _, _, _, _, _⟩) (by kernel_rfl) rfl (by rfl) (wp_store30 (.tmp 19) (.tmp 197) rfl wn.heap.size S2.e rfl rfl zeroEff HZX.out ?_)
      intro w6 hr6 hc6
      have HR6 := Lib.hid hr6
      have HW6 : Hid (Ch No wt w6) := ch_newg HSX.out hc6 HSn.out.size
      have HO6 := Lib.hid (owns_keepIs HOX.out hc6 (own_ne_row HOX.out HZX.out (by decide)))
      clear hr6 hc6
      refine ⟨HW6.out, ?_⟩
      simp only [Act.put, List.setIfInBounds_toArray, List.set_cons_zero, List.set_cons_succ]
      refine wpAnyH_take (i := 24) (oi := ⟨some 20, _, _, _, _, _⟩) (v := v') rfl (by kernel_rfl) (by kernel_rfl) (by kernel_rfl) (fun _ _ _ h => h) (Or.inl ⟨by rfl, fun _ _ => rfl⟩) HW6.out ?_
      simp only [Act.put, List.setIfInBounds_toArray, List.set_cons_zero, List.set_cons_succ]
      refine wpAnyH_take (i := 25) (oi := ⟨some 21, _, _, _, _, _⟩) (v := .int .i64 (S2.n : Int)) rfl (by kernel_rfl) (by kernel_rfl) (by kernel_rfl) (fun _ _ _ h => h) (Or.inl ⟨by rfl, fun _ _ => rfl⟩) HW6.out ?_
      simp only [Act.put, List.setIfInBounds_toArray, List.set_cons_zero, List.set_cons_succ]
      refine wpAnyH_done (by kernel_rfl) ?_ _
      go_wp2_with (fail)
      go_meet
      case rel => exact ⟨wn.heap.size, v', rfl, rfl, rfl, HR6, HSn.out.size, HO6, HW6⟩
    · refine ⟨HS.out.alloc _, ?_⟩
      have HSa : Hid (Ch No wt (World.alloc wt.drew (.cells (effCells zeroEff).toArray 30))) := HS.out.alloc _
      simp only [Act.put, List.setIfInBounds_toArray, List.set_cons_zero, List.set_cons_succ]
      refine wpAnyH_one (i := 17) (o := ⟨some 196, _, _, _, _, _⟩) (by kernel_rfl) rfl (by rfl) (wp_call 24 #[.slice (some ⟨gc, 0, none⟩) cs.length c1, .slice (some ⟨gm, 0, none⟩) xs.length c2, .int .i64 fixed, .agg (regCells r).toArray, .int .i64 pc, .int .i64 mo] (by kernel_rfl) ((HREF2.out _ (HSa.out)).mono ?_))
      rintro e wn ⟨v', rfl, hon, hcn⟩
      refine ⟨_, rfl, HSa.out.then_ hcn, ?_⟩
      have HSX : Hid (Ch No wt wn) := HSa.out.then_ hcn
      have HOX : Hid (wn.ownsRow wt.heap.size 2 1 v' (ints S2.m).length (ints S2.m)) := hon.mono (by simp)
      have HZX : Hid (Row wn wt.heap.size 30 (effCells zeroEff)) := (Row.new wt.drew 30 (effCells zeroEff)).keepNo hcn
      clear hcn hon
      simp only [Act.put, List.setIfInBounds_toArray, List.set_cons_zero, List.set_cons_succ]
      refine wpAnyH_take (i := 18) (oi := ⟨some 178, _, _, _, _, _⟩) (v := .tuple #[.agg (effCells S2.e).toArray, v', .int .i64 (S2.n : Int)]) rfl (by kernel_rfl) (by kernel_rfl) (by kernel_rfl) (fun _ _ _ h => h) (Or.inl ⟨by rfl, fun _ _ => rfl⟩) HSX.out ?_
      simp only [Act.put, List.setIfInBounds_toArray, List.set_cons_zero, List.set_cons_succ]
      refine wpAnyH_take (i := 19) (oi := ⟨some 197, _, _, _, _, _⟩) (v := .agg (effCells S2.e).toArray) rfl (by kernel_rfl) (by kernel_rfl) (by kernel_rfl) (fun _ _ _ h => h) (Or.inl ⟨by rfl, fun _ _ => by kernel_rfl⟩) HSX.out ?_
      simp only [Act.put, List.setIfInBounds_toArray, List.set_cons_zero, List.set_cons_succ]
      refine wpAnyH_take (i := 20) (oi := ⟨some 198, _, _, _, _, _⟩) (v := v') rfl (by kernel_rfl) (by kernel_rfl) (by kernel_rfl) (fun _ _ _ h => h) (Or.inl ⟨by rfl, fun _ _ => by kernel_rfl⟩) HSX.out ?_
      simp only [Act.put, List.setIfInBounds_toArray, List.set_cons_zero, List.set_cons_succ]
      refine wpAnyH_take (i := 21) (oi := ⟨some 199, _, _, _, _, _⟩) (v := .int .i64 (S2.n : Int)) rfl (by kernel_rfl) (by kernel_rfl) (by kernel_rfl) (fun _ _ _ h => h) (Or.inl ⟨by rfl, fun _ _ => by kernel_rfl⟩) HSX.out ?_
      simp only [Act.put, List.setIfInBounds_toArray, List.set_cons_zero, List.set_cons_succ]
      refine wpAnyH_one (i := 23) (o := ⟨none, _, _, _, _, _⟩) (by kernel_rfl) rfl (by rfl) (wp_store30 (.tmp 19) (.tmp 197) rfl wt.heap.size S2.e rfl rfl zeroEff HZX.out ?_)
      intro w6 hr6 hc6
      have HR6 := Lib.hid hr6
      have HW6 : Hid (Ch No wt w6) := ch_newg HSX.out hc6 (Nat.le_refl _)
      have HO6 := Lib.hid (owns_keepIs HOX.out hc6 (own_ne_row HOX.out HZX.out (by decide)))
      clear hr6 hc6
      refine ⟨HW6.out, ?_⟩
      simp only [Act.put, List.setIfInBounds_toArray, List.set_cons_zero, List.set_cons_succ]
      refine wpAnyH_take (i := 24) (oi := ⟨some 20, _, _, _, _, _⟩) (v := v') rfl (by kernel_rfl) (by kernel_rfl) (by kernel_rfl) (fun _ _ _ h => h) (Or.inl ⟨by rfl, fun _ _ => rfl⟩) HW6.out ?_
      simp only [Act.put, List.setIfInBounds_toArray, List.set_cons_zero, List.set_cons_succ]
      refine wpAnyH_take (i := 25) (oi := ⟨some 21, _, _, _, _, _⟩) (v := .int .i64 (S2.n : Int)) rfl (by kernel_rfl) (by kernel_rfl) (by kernel_rfl) (fun _ _ _ h => h) (Or.inl ⟨by rfl, fun _ _ => rfl⟩) HW6.out ?_
      simp only [Act.put, List.setIfInBounds_toArray, List.set_cons_zero, List.set_cons_succ]
      refine wpAnyH_done (by kernel_rfl) ?_ _
      go_wp2_with (fail)
      go_meet
      case rel => exact ⟨wt.heap.size, v', rfl, rfl, rfl, HR6, (Nat.le_refl _), HO6, HW6⟩
  case rest =>
  obtain ⟨bG, v20, hvG, hv20, hvN, HEG, HGB, HO20, HWU⟩ := hcut
  subst hvG hv20 hvN
  generalize wc = wu at *
  have HRMu := Lib.hid (HRMt.out.keepNo HWU.out)
  have HIS2 : Hid (S2.m.length ≤ 1048576) := by show _ ≤ _; have := HSL2.out; omega
  obtain ⟨O20, k20, hq20, _, hcl20⟩ := owns_cl HO20.out
  subst hq20
  have HCL20 := Lib.hid hcl20
  have HOM : Hid ((wu.alloc (.cells #[] 2)).ownsRow wu.heap.size 2 1 (.slice (some ⟨wu.heap.size, 0, none⟩) 0 0) ([] : List Value).length []) := World.ownsRow_made wu #[] 0 (Nat.le_refl _) (Nat.zero_le _) rfl
  have HBB : Hid (([] : List Value).length + S2.m.length ≤ 140737488355328 ∧ (([] : List Value).length + S2.m.length) * 8 ≤ 140737488355328) := by
    show _ ∧ _
    have := HIS2.out
    simp
    omega
  clear hcl20
  go_upto_region 24 with (at_builtin; refine wpList_append_to rfl (.tmp 200) (.tmp 201) 23 rfl wu.heap.size 2 (.int .i64 0) 8 Tryd.underlying23 info2 rfl _ [] rfl _ _ _ (ints S2.m) rfl HOM.out (ints_length _) (HCL20.out.keepNo ((Ch.refl No wu).alloc _)) (ints_one _) HBB.out.2 (by omega) (by simp) ?_; intro v1 wv hov hgv hatv; have HOV := Lib.hid hov; have HWV : Hid (Ch No wu wv) := grown_no (Nat.le_refl _) HOM.out hgv ((Ch.refl No wu).alloc _); clear hov hgv hatv)
  have HOV' : Hid (wv.ownsRow wu.heap.size 2 1 v1 (ints S2.m).length (ints S2.m)) := by have h := HOV.out; simp only [List.nil_append] at h; exact h
  have HRMv := Lib.hid (HRMu.out.keepNo HWV.out)
  have HEv := Lib.hid (HEG.out.keepNo HWV.out)
  have HCv : Hid (Ch No wt wv) := HWU.out.then_ HWV.out
  clear HOV HOM HBB HRMu HEG HCL20 HO20 HWU HWV
  go_upto_region 24 with (fail)
  go_cut [22, 23, 24] from 203 to 224 (fun vE vV vN wx => ∃ (bE : Nat) (v' : Value), vE = .pointer (some ⟨bE, 0, none⟩) ∧ v' = vV ∧ vN = .int .i64 (S2.n : Int) ∧ Hid (Row wx bE 30 (effCells S2.e)) ∧ Hid (wv.heap.size ≤ bE) ∧ Hid (wx.ownsRow wv.heap.size 2 1 v' (ints S2.m).length (ints S2.m)) ∧ Hid (Ch No wv wx))
  case first =>
    refine wp_region_held (S := fun w' => Ch No wv w') (by kernel_rfl) ?_
    have HS : Hid (Ch No wv wv.drew) := (Ch.refl No wv).drew
    refine wpAnyH_take (i := 0) (oi := ⟨some 204, _, _, _, _, _⟩) (v := .slice (some ⟨gc, 0, none⟩) (cs.length + 64) c1) rfl (by kernel_rfl) (by kernel_rfl) (by kernel_rfl) (fun _ _ _ h => h) (Or.inl ⟨by rfl, fun _ _ => rfl⟩) HS.out ?_
    simp only [Act.put, List.setIfInBounds_toArray, List.set_cons_zero, List.set_cons_succ]
    refine wpAnyH_take (i := 1) (oi := ⟨some 205, _, _, _, _, _⟩) (v := .pointer (some ⟨w.heap.size, 0, none⟩)) rfl (by kernel_rfl) (by kernel_rfl) (by kernel_rfl) (fun _ _ _ h => h) (Or.inl ⟨by rfl, fun _ _ => by kernel_rfl⟩) HS.out ?_
    simp only [Act.put, List.setIfInBounds_toArray, List.set_cons_zero, List.set_cons_succ]
    refine wpAnyH_take (i := 2) (oi := ⟨some 206, _, _, _, _, _⟩) (v := .slice A cs.length cap) rfl (by kernel_rfl) (by kernel_rfl) (by kernel_rfl) (fun _ _ _ h => h) (Or.inl ⟨by rfl, fun w' hw' => exec_load_cell 22 (.tmp 205) rfl ⟨w.heap.size, 0, none⟩ rfl _ Tryd.underlying22 rfl _ ((HRMv.out.keepNo hw').cell 0)⟩) HS.out ?_
    simp only [Act.put, List.setIfInBounds_toArray, List.set_cons_zero, List.set_cons_succ]
    refine wpAnyH_take (i := 3) (oi := ⟨some 207, _, _, _, _, _⟩) (v := .int .i64 (cs.length : Int)) rfl (by kernel_rfl) (by kernel_rfl) (by kernel_rfl) (fun _ _ _ h => h) (Or.inl ⟨by rfl, fun _ _ => by kernel_rfl⟩) HS.out ?_
    simp only [Act.put, List.setIfInBounds_toArray, List.set_cons_zero, List.set_cons_succ]
    refine wpAnyH_take (i := 4) (oi := ⟨some 208, _, _, _, _, _⟩) (v := .slice (some ⟨gc, 0, none⟩) cs.length c1) rfl (by kernel_rfl) (by kernel_rfl) (by kernel_rfl) (fun _ _ _ h => h) (Or.inl ⟨by rfl, fun w' _ => exec_cut 22 45 (.tmp 204) (.tmp 207) rfl Tryd.underlying22 5 (fun _ => by kernel_rfl) gc _ c1 cs.length rfl rfl HLE.out.1 HLE.out.2.1⟩) HS.out ?_
    simp only [Act.put, List.setIfInBounds_toArray, List.set_cons_zero, List.set_cons_succ]
    refine wpAnyH_take (i := 5) (oi := ⟨some 209, _, _, _, _, _⟩) (v := .slice (some ⟨gm, 0, none⟩) (xs.length + 64) c2) rfl (by kernel_rfl) (by kernel_rfl) (by kernel_rfl) (fun _ _ _ h => h) (Or.inl ⟨by rfl, fun _ _ => rfl⟩) HS.out ?_
    simp only [Act.put, List.setIfInBounds_toArray, List.set_cons_zero, List.set_cons_succ]
    refine wpAnyH_take (i := 6) (oi := ⟨some 210, _, _, _, _, _⟩) (v := .pointer (some ⟨w.heap.size, 1, none⟩)) rfl (by kernel_rfl) (by kernel_rfl) (by kernel_rfl) (fun _ _ _ h => h) (Or.inl ⟨by rfl, fun _ _ => by kernel_rfl⟩) HS.out ?_
    simp only [Act.put, List.setIfInBounds_toArray, List.set_cons_zero, List.set_cons_succ]
    refine wpAnyH_take (i := 7) (oi := ⟨some 211, _, _, _, _, _⟩) (v := .slice M xs.length mcap) rfl (by kernel_rfl) (by kernel_rfl) (by kernel_rfl) (fun _ _ _ h => h) (Or.inl ⟨by rfl, fun w' hw' => exec_load_cell 23 (.tmp 210) rfl ⟨w.heap.size, 1, none⟩ rfl _ Tryd.underlying23 rfl _ ((HRMv.out.keepNo hw').cell 1)⟩) HS.out ?_
    simp only [Act.put, List.setIfInBounds_toArray, List.set_cons_zero, List.set_cons_succ]
    refine wpAnyH_take (i := 8) (oi := ⟨some 212, _, _, _, _, _⟩) (v := .int .i64 (xs.length : Int)) rfl (by kernel_rfl) (by kernel_rfl) (by kernel_rfl) (fun _ _ _ h => h) (Or.inl ⟨by rfl, fun _ _ => by kernel_rfl⟩) HS.out ?_
    simp only [Act.put, List.setIfInBounds_toArray, List.set_cons_zero, List.set_cons_succ]
    refine wpAnyH_take (i := 9) (oi := ⟨some 213, _, _, _, _, _⟩) (v := .slice (some ⟨gm, 0, none⟩) xs.length c2) rfl (by kernel_rfl) (by kernel_rfl) (by kernel_rfl) (fun _ _ _ h => h) (Or.inl ⟨by rfl, fun w' _ => exec_cut 23 2 (.tmp 209) (.tmp 212) rfl Tryd.underlying23 1 (fun _ => by kernel_rfl) gm _ c2 xs.length rfl rfl HLE.out.2.2.1 HLE.out.2.2.2⟩) HS.out ?_
    simp only [Act.put, List.setIfInBounds_toArray, List.set_cons_zero, List.set_cons_succ]
    refine wpAnyH_take (i := 10) (oi := ⟨some 214, _, _, _, _, _⟩) (v := .pointer (some ⟨w.heap.size, 2, none⟩)) rfl (by kernel_rfl) (by kernel_rfl) (by kernel_rfl) (fun _ _ _ h => h) (Or.inl ⟨by rfl, fun _ _ => by kernel_rfl⟩) HS.out ?_
    simp only [Act.put, List.setIfInBounds_toArray, List.set_cons_zero, List.set_cons_succ]
    refine wpAnyH_take (i := 11) (oi := ⟨some 215, _, _, _, _, _⟩) (v := .int .i64 fixed) rfl (by kernel_rfl) (by kernel_rfl) (by kernel_rfl) (fun _ _ _ h => h) (Or.inl ⟨by rfl, fun w' hw' => exec_load_cell 3 (.tmp 214) rfl ⟨w.heap.size, 2, none⟩ rfl _ Tryd.underlying3 rfl _ ((HRMv.out.keepNo hw').cell 2)⟩) HS.out ?_
    simp only [Act.put, List.setIfInBounds_toArray, List.set_cons_zero, List.set_cons_succ]
    refine wpAnyH_take (i := 12) (oi := ⟨some 216, _, _, _, _, _⟩) (v := .pointer (some ⟨w.heap.size, 3, none⟩)) rfl (by kernel_rfl) (by kernel_rfl) (by kernel_rfl) (fun _ _ _ h => h) (Or.inl ⟨by rfl, fun _ _ => by kernel_rfl⟩) HS.out ?_
    simp only [Act.put, List.setIfInBounds_toArray, List.set_cons_zero, List.set_cons_succ]
    refine wpAnyH_take (i := 13) (oi := ⟨some 217, _, _, _, _, _⟩) (v := .agg (regCells r).toArray) rfl (by kernel_rfl) (by kernel_rfl) (by kernel_rfl) (fun _ _ _ h => h) (Or.inl ⟨by rfl, fun w' hw' => exec_load_mid 24 (.tmp 216) rfl w.heap.size 3 rfl (regCells r) _ (mach_range (HRMv.out.keepNo hw')) Tryd.underlying24 rfl (sizeR _)⟩) HS.out ?_
    simp only [Act.put, List.setIfInBounds_toArray, List.set_cons_zero, List.set_cons_succ]
    refine wpAnyH_take (i := 14) (oi := ⟨some 218, _, _, _, _, _⟩) (v := .pointer (some ⟨w.heap.size, 19, none⟩)) rfl (by kernel_rfl) (by kernel_rfl) (by kernel_rfl) (fun _ _ _ h => h) (Or.inl ⟨by rfl, fun _ _ => by kernel_rfl⟩) HS.out ?_
    simp only [Act.put, List.setIfInBounds_toArray, List.set_cons_zero, List.set_cons_succ]
    refine wpAnyH_take (i := 15) (oi := ⟨some 219, _, _, _, _, _⟩) (v := .int .i64 pc) rfl (by kernel_rfl) (by kernel_rfl) (by kernel_rfl) (fun _ _ _ h => h) (Or.inl ⟨by rfl, fun w' hw' => exec_load_cell 3 (.tmp 218) rfl ⟨w.heap.size, 19, none⟩ rfl _ Tryd.underlying3 rfl _ (((HRMv.out.keepNo hw').cell 19).trans (mach_pc _ _ _ _ _))⟩) HS.out ?_
    simp only [Act.put, List.setIfInBounds_toArray, List.set_cons_zero, List.set_cons_succ]
    refine wpAnyH_take (i := 16) (oi := ⟨some 220, _, _, _, _, _⟩) (v := .int .i64 mo) rfl (by kernel_rfl) (by kernel_rfl) (by kernel_rfl) (fun _ _ _ h => h) (Or.inl ⟨by rfl, fun _ _ => rfl⟩) HS.out ?_
    simp only [Act.put, List.setIfInBounds_toArray, List.set_cons_zero, List.set_cons_succ]
    refine wpAnyH_two (i := 17) (j := 22) (oi := ⟨some 221, _, _, _, _, _⟩) (oj := ⟨some 22, _, _, _, _, _⟩) (by kernel_rfl) rfl rfl (by rfl) (by rfl) (wp_call 23 #[.slice (some ⟨gc, 0, none⟩) cs.length c1, .slice (some ⟨gm, 0, none⟩) xs.length c2, .int .i64 fixed, .agg (regCells r).toArray, .int .i64 pc, .int .i64 mo] (by kernel_rfl) ((HRUN2.out _ (HCv.out.then_ (HS.out))).mono ?_)) (wp_alloc30 rfl ?_)
    · rintro e wn ⟨v', rfl, hon, hcn⟩
      refine ⟨_, rfl, HS.out.then_ hcn, ?_⟩
      have HSn : Hid (Ch No wv wn) := HS.out.then_ hcn
      have HOn : Hid (wn.ownsRow wv.heap.size 2 1 v' (ints S2.m).length (ints S2.m)) := hon
      clear hcn hon
      simp only [Act.put, List.setIfInBounds_toArray, List.set_cons_zero, List.set_cons_succ]
      refine wpAnyH_take (i := 18) (oi := ⟨some 203, _, _, _, _, _⟩) (v := .tuple #[.agg (effCells S2.e).toArray, v', .int .i64 (S2.n : Int)]) rfl (by kernel_rfl) (by kernel_rfl) (by kernel_rfl) (fun _ _ _ h => h) (Or.inl ⟨by rfl, fun _ _ => rfl⟩) HSn.out ?_
      simp only [Act.put, List.setIfInBounds_toArray, List.set_cons_zero, List.set_cons_succ]
      refine wpAnyH_take (i := 19) (oi := ⟨some 222, _, _, _, _, _⟩) (v := .agg (effCells S2.e).toArray) rfl (by kernel_rfl) (by kernel_rfl) (by kernel_rfl) (fun _ _ _ h => h) (Or.inl ⟨by rfl, fun _ _ => by kernel_rfl⟩) HSn.out ?_
      simp only [Act.put, List.setIfInBounds_toArray, List.set_cons_zero, List.set_cons_succ]
      refine wpAnyH_take (i := 20) (oi := ⟨some 223, _, _, _, _, _⟩) (v := v') rfl (by kernel_rfl) (by kernel_rfl) (by kernel_rfl) (fun _ _ _ h => h) (Or.inl ⟨by rfl, fun _ _ => by kernel_rfl⟩) HSn.out ?_
      simp only [Act.put, List.setIfInBounds_toArray, List.set_cons_zero, List.set_cons_succ]
      refine wpAnyH_take (i := 21) (oi := ⟨some 224, _, _, _, _, _⟩) (v := .int .i64 (S2.n : Int)) rfl (by kernel_rfl) (by kernel_rfl) (by kernel_rfl) (fun _ _ _ h => h) (Or.inl ⟨by rfl, fun _ _ => by kernel_rfl⟩) HSn.out ?_
      simp only [Act.put, List.setIfInBounds_toArray, List.set_cons_zero, List.set_cons_succ]
      refine wpAnyH_one (i := 22) (o := ⟨some 22, _, _, _, _, _⟩) (by kernel_rfl) rfl (by rfl) (wp_alloc30 rfl ?_)
      refine ⟨HSn.out.alloc _, ?_⟩
      have HSX : Hid (Ch No wv (wn.alloc (.cells (effCells zeroEff).toArray 30))) := HSn.out.alloc _
      have HOX := Lib.hid (HOn.out.alloc (.cells (effCells zeroEff).toArray 30))
      have HZX := Lib.hid (Row.new wn 30 (effCells zeroEff))
      simp only [Act.put, List.setIfInBounds_toArray, List.set_cons_zero, List.set_cons_succ]
      refine wpAnyH_one (i := 23) (o := ⟨none, _, _, _, _, _⟩) (by kernel_rfl) rfl (by rfl) (wp_store30 (.tmp 22) (.tmp 222) rfl wn.heap.size S2.e rfl rfl zeroEff HZX.out ?_)
      intro w6 hr6 hc6
      have HR6 := Lib.hid hr6
      have HW6 : Hid (Ch No wv w6) := ch_newg HSX.out hc6 HSn.out.size
      have HO6 := Lib.hid (owns_keepIs HOX.out hc6 (own_ne_row HOX.out HZX.out (by decide)))
      clear hr6 hc6
      refine ⟨HW6.out, ?_⟩
      simp only [Act.put, List.setIfInBounds_toArray, List.set_cons_zero, List.set_cons_succ]
      refine wpAnyH_take (i := 24) (oi := ⟨some 23, _, _, _, _, _⟩) (v := v') rfl (by kernel_rfl) (by kernel_rfl) (by kernel_rfl) (fun _ _ _ h => h) (Or.inl ⟨by rfl, fun _ _ => rfl⟩) HW6.out ?_
      simp only [Act.put, List.setIfInBounds_toArray, List.set_cons_zero, List.set_cons_succ]
      refine wpAnyH_take (i := 25) (oi := ⟨some 24, _, _, _, _, _⟩) (v := .int .i64 (S2.n : Int)) rfl (by kernel_rfl) (by kernel_rfl) (by kernel_rfl) (fun _ _ _ h => h) (Or.inl ⟨by rfl, fun _ _ => rfl⟩) HW6.out ?_
      simp only [Act.put, List.setIfInBounds_toArray, List.set_cons_zero, List.set_cons_succ]
      refine wpAnyH_done (by kernel_rfl) ?_ _
      go_wp2_with (fail)
      go_meet
      case rel => exact ⟨wn.heap.size, v', rfl, rfl, rfl, HR6, HSn.out.size, HO6, HW6⟩
    · refine ⟨HS.out.alloc _, ?_⟩
      have HSa : Hid (Ch No wv (World.alloc wv.drew (.cells (effCells zeroEff).toArray 30))) := HS.out.alloc _
      simp only [Act.put, List.setIfInBounds_toArray, List.set_cons_zero, List.set_cons_succ]
      refine wpAnyH_one (i := 17) (o := ⟨some 221, _, _, _, _, _⟩) (by kernel_rfl) rfl (by rfl) (wp_call 23 #[.slice (some ⟨gc, 0, none⟩) cs.length c1, .slice (some ⟨gm, 0, none⟩) xs.length c2, .int .i64 fixed, .agg (regCells r).toArray, .int .i64 pc, .int .i64 mo] (by kernel_rfl) ((HRUN2.out _ (HCv.out.then_ (HSa.out))).mono ?_))
      rintro e wn ⟨v', rfl, hon, hcn⟩
      refine ⟨_, rfl, HSa.out.then_ hcn, ?_⟩
      have HSX : Hid (Ch No wv wn) := HSa.out.then_ hcn
      have HOX : Hid (wn.ownsRow wv.heap.size 2 1 v' (ints S2.m).length (ints S2.m)) := hon.mono (by simp)
      have HZX : Hid (Row wn wv.heap.size 30 (effCells zeroEff)) := (Row.new wv.drew 30 (effCells zeroEff)).keepNo hcn
      clear hcn hon
      simp only [Act.put, List.setIfInBounds_toArray, List.set_cons_zero, List.set_cons_succ]
      refine wpAnyH_take (i := 18) (oi := ⟨some 203, _, _, _, _, _⟩) (v := .tuple #[.agg (effCells S2.e).toArray, v', .int .i64 (S2.n : Int)]) rfl (by kernel_rfl) (by kernel_rfl) (by kernel_rfl) (fun _ _ _ h => h) (Or.inl ⟨by rfl, fun _ _ => rfl⟩) HSX.out ?_
      simp only [Act.put, List.setIfInBounds_toArray, List.set_cons_zero, List.set_cons_succ]
      refine wpAnyH_take (i := 19) (oi := ⟨some 222, _, _, _, _, _⟩) (v := .agg (effCells S2.e).toArray) rfl (by kernel_rfl) (by kernel_rfl) (by kernel_rfl) (fun _ _ _ h => h) (Or.inl ⟨by rfl, fun _ _ => by kernel_rfl⟩) HSX.out ?_
      simp only [Act.put, List.setIfInBounds_toArray, List.set_cons_zero, List.set_cons_succ]
      refine wpAnyH_take (i := 20) (oi := ⟨some 223, _, _, _, _, _⟩) (v := v') rfl (by kernel_rfl) (by kernel_rfl) (by kernel_rfl) (fun _ _ _ h => h) (Or.inl ⟨by rfl, fun _ _ => by kernel_rfl⟩) HSX.out ?_
      simp only [Act.put, List.setIfInBounds_toArray, List.set_cons_zero, List.set_cons_succ]
      refine wpAnyH_take (i := 21) (oi := ⟨some 224, _, _, _, _, _⟩) (v := .int .i64 (S2.n : Int)) rfl (by kernel_rfl) (by kernel_rfl) (by kernel_rfl) (fun _ _ _ h => h) (Or.inl ⟨by rfl, fun _ _ => by kernel_rfl⟩) HSX.out ?_
      simp only [Act.put, List.setIfInBounds_toArray, List.set_cons_zero, List.set_cons_succ]
      refine wpAnyH_one (i := 23) (o := ⟨none, _, _, _, _, _⟩) (by kernel_rfl) rfl (by rfl) (wp_store30 (.tmp 22) (.tmp 222) rfl wv.heap.size S2.e rfl rfl zeroEff HZX.out ?_)
      intro w6 hr6 hc6
      have HR6 := Lib.hid hr6
      have HW6 : Hid (Ch No wv w6) := ch_newg HSX.out hc6 (Nat.le_refl _)
      have HO6 := Lib.hid (owns_keepIs HOX.out hc6 (own_ne_row HOX.out HZX.out (by decide)))
      clear hr6 hc6
      refine ⟨HW6.out, ?_⟩
      simp only [Act.put, List.setIfInBounds_toArray, List.set_cons_zero, List.set_cons_succ]
      refine wpAnyH_take (i := 24) (oi := ⟨some 23, _, _, _, _, _⟩) (v := v') rfl (by kernel_rfl) (by kernel_rfl) (by kernel_rfl) (fun _ _ _ h => h) (Or.inl ⟨by rfl, fun _ _ => rfl⟩) HW6.out ?_
      simp only [Act.put, List.setIfInBounds_toArray, List.set_cons_zero, List.set_cons_succ]
      refine wpAnyH_take (i := 25) (oi := ⟨some 24, _, _, _, _, _⟩) (v := .int .i64 (S2.n : Int)) rfl (by kernel_rfl) (by kernel_rfl) (by kernel_rfl) (fun _ _ _ h => h) (Or.inl ⟨by rfl, fun _ _ => rfl⟩) HW6.out ?_
      simp only [Act.put, List.setIfInBounds_toArray, List.set_cons_zero, List.set_cons_succ]
      refine wpAnyH_done (by kernel_rfl) ?_ _
      go_wp2_with (fail)
      go_meet
      case rel => exact ⟨wv.heap.size, v', rfl, rfl, rfl, HR6, (Nat.le_refl _), HO6, HW6⟩
  case rest =>
  obtain ⟨bH, v23, hvH, hv23, hvN2, HEH, HHB, HO23, HWX⟩ := hcut
  subst hvH hv23 hvN2
  generalize wc = wx at *
  have HEx := Lib.hid (HEv.out.keepNo HWX.out)
  have HOx := Lib.hid (owns_keepNo HOV'.out HWX.out)
  have HCx : Hid (Ch No w wx) := HCt.out.then_ (HCv.out.then_ HWX.out)
  obtain ⟨O23, k23, hq23, _, _⟩ := owns_cl HO23.out
  obtain ⟨O1, k1, hq1, _, _⟩ := owns_cl HOx.out
  subst hq23 hq1
  have nq : ((S2.n : Int) == (S2.n : Int)) = true := by simp
  go_wp2_with (first | ((with_reducible refine at_op (o := ⟨some 225, _, _, _, _, _⟩) ?_); refine pl_load (o := ⟨some 225, _, _, _, _, _⟩) rfl 30 _ rfl (bH) rfl 30 (effCells S2.e) HEH.out _ Tryd.underlying30 rfl (sizeE _) ?_) | ((with_reducible refine at_op (o := ⟨some 226, _, _, _, _, _⟩) ?_); refine pl_load (o := ⟨some 226, _, _, _, _, _⟩) rfl 30 _ rfl (bG) rfl 30 (effCells S2.e) HEx.out _ Tryd.underlying30 rfl (sizeE _) ?_) | ((with_reducible refine at_op (o := ⟨some 227, _, _, _, _, _⟩) ?_); refine pl_value (o := ⟨some 227, _, _, _, _, _⟩) rfl (.bool true) (exec_eq_eff _ (.tmp 225) (.tmp 226) rfl S2.e rfl rfl) ?_))
  refine (same_words _ _ _ _ S2.m _ _ rfl rfl _ (by have := HIS2.out; omega) (owns_self HO23.out) (owns_self HOx.out)).mono ?_
  rintro e wy ⟨rfl, hcy⟩
  have HWY := Lib.hid hcy
  clear hcy
  go_wp2_with (fail)
  go_ret
  exact ⟨rfl, HCx.out.then_ HWY.out⟩
set_option maxRecDepth 100000 in
theorem runs_calls (A : Option Addr) (cs : List Ins) (cap : Nat) (hl : cs.length ≤ 1048576) (hcs : ∀ x ∈ cs, x.ok) (M : Option Addr) (xs : List Int) (mcap : Nat) (hm : xs.length ≤ 1048576) (hmc : xs.length ≤ mcap) (hxs : ∀ x ∈ xs, In64 x) (fixed : Int) (r : Nat → Int) (hin : ∀ i, i < 16 → In64 (r i)) (pc : Int) (mo : Int)
    (w : World) (hcode : Cl w A (codeCells cs)) (hM : Cl w M (ints xs)) (hg : Glob w) :
    Calls Tryd.prog 8 #[.agg (machCells (.slice A cs.length cap) (.slice M xs.length mcap) fixed r pc).toArray, .int .i64 mo] w fun e w' => e = .returned (.bool true) ∧ Ch No w w' := by
  by_cases hmo : mo ≤ 3000
  · exact runs_in A cs cap hl hcs M xs mcap hm hmc hxs fixed r hin pc mo hmo w hcode hM hg
  · have d0 : 3000 < mo := by omega
    clear hmo hcode hM hg hcs hxs hin
    go_enter Tryd.func8, Tryd.ntmps8
    go_wp2_with (fail)
    go_ret
    exact ⟨rfl, (Ch.refl No w).alloc _⟩
end Go.Proofs.YtellmlffkgfeiaaDoor
