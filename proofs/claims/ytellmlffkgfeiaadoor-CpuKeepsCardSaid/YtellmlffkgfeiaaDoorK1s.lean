/- CpuKeeps: the walk, no fault. -/
import Derived.Test.YtellmlffkgfeiaaDoorK1f
set_option linter.unusedVariables false
set_option linter.unusedSimpArgs false
namespace Go.Proofs.YtellmlffkgfeiaaDoor
open Go.RowKit
set_option maxRecDepth 100000 in
set_option maxHeartbeats 8000000 in
theorem keeps_store (A : Option Addr) (cs : List Ins) (cap : Nat) (hl : cs.length ≤ 9223372036854775807) (hcs : ∀ x ∈ cs, x.ok) (M : Option Addr) (xs : List Int) (mcap : Nat) (hm : xs.length ≤ 9223372036854775807) (hmc : xs.length ≤ mcap) (fixed : Int) (r : Nat → Int) (hin : ∀ i, i < 16 → In64 (r i)) (k : Nat) (w : World) (hcode : Cl w A (codeCells cs)) (hM : Cl w M (ints xs)) (hg : Glob w) (E : Eff) (hE : stepF cs xs fixed r (k : Int) = E) (hk : k < cs.length) (x : Ins) (hx : x.ok) (hleg : x.legal = true) (ad : Addr) (hA : A = some ad) (hcx : ∀ W, Ch No w W → ∀ j : Nat, j < 5 → W.cell? ((ad.add (k * 5)).add j) = x.cells[j]?) (hF : E.fault = 0 ∧ 0 ≤ E.call ∧ E.call < 28 ∧ 0 ≤ E.pc ∧ E.pc ≤ cs.length) (hsame : ∀ i, i ≠ target x → E.r i = r i) (hst : E.st = true ∧ 0 ≤ E.addr ∧ E.addr < xs.length ∧ fixed ≤ E.addr ∧ E.val = r x.a ∧ E.r = r) (h6 : x.op = 6) (ha16 : x.a < 16) (h26 : x.op ≠ 26) :
    Calls Tryd.prog 6 #[.agg (machCells (.slice A cs.length cap) (.slice M xs.length mcap) fixed r (k : Int)).toArray] w fun e w' => e = .returned (.bool true) ∧ Ch No w w' := by
  subst hA
  have hk1 : (0 : Int) ≤ (k : Int) := by omega
  have hk2 : (k : Int) < (cs.length : Int) := by omega
  have hk3 : ¬ cs.length ≤ k := by omega
  have HG := Lib.hid hg
  have HCODE := Lib.hid hcode
  have HMM := Lib.hid hM
  have HR1 := Lib.hid (Row.new w 26 (machCells (.slice (some ad) cs.length cap) (.slice M xs.length mcap) fixed r (k : Int)))
  have HS := Lib.hid (fun (W : World) (h : Ch No w W) => step_mach (some ad) cs cap hl hcs M xs mcap hm hmc fixed r hin (k : Int) W (hcode.keepNo h) (hM.keepNo h) (hg.keep h (not_no _)))
  have HI22 : Hid ((Tryd.prog.info? 30).map (·.size) = some (effCells E).length) := by rw [effCells_length]; exact size30
  have HL2 : Hid ((effCells E).length = (effCells zeroEff).length) := by show _ = _; rw [effCells_length, effCells_length]
  rw [hE] at HS
  have HE := Lib.hid hE
  have HX := Lib.hid hx
  have HLEG : Hid (legal x.op x.a x.b x.c x.n = true) := hleg
  have HSAME := Lib.hid hsame
  have HST := Lib.hid hst
  have H26 := Lib.hid h26
  clear h26
  have H6 := Lib.hid h6
  clear h6
  obtain ⟨q0, q1, q2, q3, q4⟩ := hF
  have HQ0 := Lib.hid q0
  clear q0 hst hsame hleg hx
  generalize hb : ad.add (k * 5) = b at *
  have hxx : ∀ W, Ch No w W → W.cell? b = some (.int .u8 x.op) ∧ W.cell? ⟨b.block, b.off + 1, none⟩ = some (.int .u8 x.a) ∧ W.cell? ⟨b.block, b.off + 2, none⟩ = some (.int .u8 x.b) ∧ W.cell? ⟨b.block, b.off + 3, none⟩ = some (.int .u8 x.c) ∧ W.cell? ⟨b.block, b.off + 4, none⟩ = some (.int .i32 x.n) := by
    intro W hW
    have hj := hcx W hW
    refine ⟨?_, ?_, ?_, ?_, ?_⟩
    · have := hj 0 (by omega)
      rwa [add_zero] at this
    · have := hj 1 (by omega)
      rwa [addr_add] at this
    · have := hj 2 (by omega)
      rwa [addr_add] at this
    · have := hj 3 (by omega)
      rwa [addr_add] at this
    · have := hj 4 (by omega)
      rwa [addr_add] at this
  have HXX := Lib.hid hxx
  clear hcx hxx hE hcode hM hg hin hcs
  go_enter Tryd.func6, Tryd.ntmps6
  go_wp2_with (fail)
  refine (known_calls _ (HG.out.keep ((Ch.refl No w).alloc _) (not_no _))).mono ?_
  rintro e w2 ⟨rfl, hc2⟩
  have HC2 : Hid (Ch No w w2) := ((Ch.refl No w).alloc _).then_ hc2
  have HR2 := Lib.hid (HR1.out.keepNo hc2)
  clear hc2
  have hf : w2.cell? ⟨w.heap.size, 0, none⟩ = some (.slice (some ad) cs.length cap) ∧ w2.cell? ⟨w.heap.size, 1, none⟩ = some (.slice M xs.length mcap) ∧ w2.cell? ⟨w.heap.size, 2, none⟩ = some (.int .i64 fixed) ∧ w2.cell? ⟨w.heap.size, 3, none⟩ = some (.int .i64 (r 0)) ∧ w2.cell? ⟨w.heap.size, 4, none⟩ = some (.int .i64 (r 1)) ∧ w2.cell? ⟨w.heap.size, 5, none⟩ = some (.int .i64 (r 2)) ∧ w2.cell? ⟨w.heap.size, 6, none⟩ = some (.int .i64 (r 3)) ∧ w2.cell? ⟨w.heap.size, 7, none⟩ = some (.int .i64 (r 4)) ∧ w2.cell? ⟨w.heap.size, 8, none⟩ = some (.int .i64 (r 5)) ∧ w2.cell? ⟨w.heap.size, 9, none⟩ = some (.int .i64 (r 6)) ∧ w2.cell? ⟨w.heap.size, 10, none⟩ = some (.int .i64 (r 7)) ∧ w2.cell? ⟨w.heap.size, 11, none⟩ = some (.int .i64 (r 8)) ∧ w2.cell? ⟨w.heap.size, 12, none⟩ = some (.int .i64 (r 9)) ∧ w2.cell? ⟨w.heap.size, 13, none⟩ = some (.int .i64 (r 10)) ∧ w2.cell? ⟨w.heap.size, 14, none⟩ = some (.int .i64 (r 11)) ∧ w2.cell? ⟨w.heap.size, 15, none⟩ = some (.int .i64 (r 12)) ∧ w2.cell? ⟨w.heap.size, 16, none⟩ = some (.int .i64 (r 13)) ∧ w2.cell? ⟨w.heap.size, 17, none⟩ = some (.int .i64 (r 14)) ∧ w2.cell? ⟨w.heap.size, 18, none⟩ = some (.int .i64 (r 15)) ∧ w2.cell? ⟨w.heap.size, 19, none⟩ = some (.int .i64 (k : Int)) := ⟨HR2.out.cell 0, HR2.out.cell 1, HR2.out.cell 2, (HR2.out.cell 3).trans (mach_get _ _ _ _ _ 0 (by omega)), (HR2.out.cell 4).trans (mach_get _ _ _ _ _ 1 (by omega)), (HR2.out.cell 5).trans (mach_get _ _ _ _ _ 2 (by omega)), (HR2.out.cell 6).trans (mach_get _ _ _ _ _ 3 (by omega)), (HR2.out.cell 7).trans (mach_get _ _ _ _ _ 4 (by omega)), (HR2.out.cell 8).trans (mach_get _ _ _ _ _ 5 (by omega)), (HR2.out.cell 9).trans (mach_get _ _ _ _ _ 6 (by omega)), (HR2.out.cell 10).trans (mach_get _ _ _ _ _ 7 (by omega)), (HR2.out.cell 11).trans (mach_get _ _ _ _ _ 8 (by omega)), (HR2.out.cell 12).trans (mach_get _ _ _ _ _ 9 (by omega)), (HR2.out.cell 13).trans (mach_get _ _ _ _ _ 10 (by omega)), (HR2.out.cell 14).trans (mach_get _ _ _ _ _ 11 (by omega)), (HR2.out.cell 15).trans (mach_get _ _ _ _ _ 12 (by omega)), (HR2.out.cell 16).trans (mach_get _ _ _ _ _ 13 (by omega)), (HR2.out.cell 17).trans (mach_get _ _ _ _ _ 14 (by omega)), (HR2.out.cell 18).trans (mach_get _ _ _ _ _ 15 (by omega)), (HR2.out.cell 19).trans (mach_pc _ _ _ _ _)⟩
  obtain ⟨m0, m1, m2, m3, m4, m5, m6, m7, m8, m9, m10, m11, m12, m13, m14, m15, m16, m17, m18, m19⟩ := hf
  go_wp2_with (fail)
  refine (HS.out _ HC2.out).mono ?_
  rintro e w3 ⟨rfl, hc3⟩
  have HC3 := Lib.hid (HC2.out.then_ hc3)
  have HR3 := Lib.hid (HR2.out.keepNo hc3)
  have HZ3 : Hid (Row (w3.alloc (.cells (effCells zeroEff).toArray 30)) w3.heap.size 30 (effCells zeroEff)) := Row.new w3 30 (effCells zeroEff)
  have hlt : w.heap.size < w3.heap.size := HR3.out.lt
  have hne : ¬ w.heap.size = w3.heap.size := by omega
  clear hc3 m0 m1 m2 m3 m4 m5 m6 m7 m8 m9 m10 m11 m12 m13 m14 m15 m16 m17 m18 m19
  have hf4 : ∀ w4 : World, Row w4 w3.heap.size 30 (effCells E) → Ch (Is w3.heap.size) (w3.alloc (.cells (effCells zeroEff).toArray 30)) w4 → Hid (Ch No w w4) ∧ Hid (Row w4 w.heap.size 26 (machCells (.slice (some ad) cs.length cap) (.slice M xs.length mcap) fixed r k)) ∧ Hid (Row w4 w3.heap.size 30 (effCells E)) ∧ w4.cell? ⟨w.heap.size, 0, none⟩ = some (.slice (some ad) cs.length cap) ∧ w4.cell? ⟨w.heap.size, 19, none⟩ = some (.int .i64 (k : Int)) ∧ w4.cell? ⟨w3.heap.size, 16, none⟩ = some (.int .i64 E.pc) ∧ w4.cell? ⟨w3.heap.size, 17, none⟩ = some (.bool true) ∧ w4.cell? ⟨w3.heap.size, 18, none⟩ = some (.int .i64 E.addr) ∧ w4.cell? ⟨w3.heap.size, 19, none⟩ = some (.int .i64 E.val) ∧ w4.cell? ⟨w3.heap.size, 20, none⟩ = some (.int .i64 0) ∧ w4.cell? ⟨w3.heap.size, 21, none⟩ = some (.int .i64 E.call) ∧ w4.cell? b = some (.int .u8 x.op) ∧ w4.cell? ⟨b.block, b.off + 1, none⟩ = some (.int .u8 x.a) ∧ w4.cell? ⟨b.block, b.off + 2, none⟩ = some (.int .u8 x.b) ∧ w4.cell? ⟨b.block, b.off + 3, none⟩ = some (.int .u8 x.c) ∧ w4.cell? ⟨b.block, b.off + 4, none⟩ = some (.int .i32 x.n) := by
    intro w4 hr hc
    have hm4 := (HR3.out.alloc (.cells (effCells zeroEff).toArray 30)).keepIs hc hne
    have hC4 : Ch No w w4 := (HC3.out.alloc _).trans hc (fun i hi he => by cases he; omega)
    exact ⟨hC4, hm4, hr, hm4.cell 0, (hm4.cell 19).trans (mach_pc _ _ _ _ _), row_rest hr 0, (by have := row_rest hr 1; rwa [HST.out.1] at this), row_rest hr 2, row_rest hr 3, (by have := row_rest hr 4; rwa [HQ0.out] at this), row_rest hr 5, HXX.out w4 hC4⟩
  have HF4 := Lib.hid hf4
  clear hf4
  go_wp2_with (first | (refine wpList_store_agg (o := ⟨none, .store 30 (.tmp 3) (.tmp 19), _, _, _, _⟩) rfl 30 (.tmp 3) (.tmp 19) rfl w3.heap.size rfl 30 (effCells zeroEff) (effCells E) rfl HZ3.out HI22.out HL2.out (eff_one _) ?_; intro w4 hr4 hc4; obtain ⟨HC4, HR4, HE4, f0, f1, f2, f3, f4, f5, f6, f7, i0, i1, i2, i3, i4⟩ := HF4.out w4 hr4 hc4; clear hr4 hc4))
  refine (legal_calls x.op x.a x.b x.c x.n HX.out.1 _ (HG.out.keep HC4.out (not_no _))).mono ?_
  rintro e w5 ⟨rfl, hc5⟩
  rw [HLEG.out]
  have HC5 := Lib.hid (HC4.out.then_ hc5)
  have HR5 := Lib.hid (HR4.out.keepNo hc5)
  have HE5 := Lib.hid (HE4.out.keepNo hc5)
  clear hc5 f0 f1 f2 f3 f4 f5 f6 f7 i0 i1 i2 i3 i4
  have hz5 : w3.heap.size < w5.heap.size := HE5.out.lt
  have hz6 : w.heap.size < w5.heap.size := HR5.out.lt
  have g0 : w5.cell? ⟨w.heap.size, 0, none⟩ = some (.slice (some ad) cs.length cap) := HR5.out.cell 0
  have g1 : w5.cell? ⟨w.heap.size, 19, none⟩ = some (.int .i64 (k : Int)) := (HR5.out.cell 19).trans (mach_pc _ _ _ _ _)
  obtain ⟨i0, i1, i2, i3, i4⟩ := HXX.out w5 HC5.out
  have t17 : w5.cell? ⟨w3.heap.size, 17, none⟩ = some (.bool true) := by have := row_rest HE5.out 1; rwa [HST.out.1] at this
  have t18 : w5.cell? ⟨w3.heap.size, 18, none⟩ = some (.int .i64 E.addr) := by have := row_rest HE5.out 2; exact this
  have t19 : w5.cell? ⟨w3.heap.size, 19, none⟩ = some (.int .i64 (r x.a)) := by have := row_rest HE5.out 3; rwa [HST.out.2.2.2.2.1] at this
  have HER : Hid (E.r = r) := HST.out.2.2.2.2.2
  have y0 : w5.cell? ⟨w3.heap.size, 0, none⟩ = some (.int .i64 (r 0)) := by have := row_reg HE5.out 0 (by omega); rwa [HER.out] at this
  have z0 : w5.cell? ⟨w.heap.size, 3, none⟩ = some (.int .i64 (r 0)) := (HR5.out.cell 3).trans (mach_get _ _ _ _ _ 0 (by omega))
  have y1 : w5.cell? ⟨w3.heap.size, 1, none⟩ = some (.int .i64 (r 1)) := by have := row_reg HE5.out 1 (by omega); rwa [HER.out] at this
  have z1 : w5.cell? ⟨w.heap.size, 4, none⟩ = some (.int .i64 (r 1)) := (HR5.out.cell 4).trans (mach_get _ _ _ _ _ 1 (by omega))
  have y2 : w5.cell? ⟨w3.heap.size, 2, none⟩ = some (.int .i64 (r 2)) := by have := row_reg HE5.out 2 (by omega); rwa [HER.out] at this
  have z2 : w5.cell? ⟨w.heap.size, 5, none⟩ = some (.int .i64 (r 2)) := (HR5.out.cell 5).trans (mach_get _ _ _ _ _ 2 (by omega))
  have y3 : w5.cell? ⟨w3.heap.size, 3, none⟩ = some (.int .i64 (r 3)) := by have := row_reg HE5.out 3 (by omega); rwa [HER.out] at this
  have z3 : w5.cell? ⟨w.heap.size, 6, none⟩ = some (.int .i64 (r 3)) := (HR5.out.cell 6).trans (mach_get _ _ _ _ _ 3 (by omega))
  have y4 : w5.cell? ⟨w3.heap.size, 4, none⟩ = some (.int .i64 (r 4)) := by have := row_reg HE5.out 4 (by omega); rwa [HER.out] at this
  have z4 : w5.cell? ⟨w.heap.size, 7, none⟩ = some (.int .i64 (r 4)) := (HR5.out.cell 7).trans (mach_get _ _ _ _ _ 4 (by omega))
  have y5 : w5.cell? ⟨w3.heap.size, 5, none⟩ = some (.int .i64 (r 5)) := by have := row_reg HE5.out 5 (by omega); rwa [HER.out] at this
  have z5 : w5.cell? ⟨w.heap.size, 8, none⟩ = some (.int .i64 (r 5)) := (HR5.out.cell 8).trans (mach_get _ _ _ _ _ 5 (by omega))
  have y6 : w5.cell? ⟨w3.heap.size, 6, none⟩ = some (.int .i64 (r 6)) := by have := row_reg HE5.out 6 (by omega); rwa [HER.out] at this
  have z6 : w5.cell? ⟨w.heap.size, 9, none⟩ = some (.int .i64 (r 6)) := (HR5.out.cell 9).trans (mach_get _ _ _ _ _ 6 (by omega))
  have y7 : w5.cell? ⟨w3.heap.size, 7, none⟩ = some (.int .i64 (r 7)) := by have := row_reg HE5.out 7 (by omega); rwa [HER.out] at this
  have z7 : w5.cell? ⟨w.heap.size, 10, none⟩ = some (.int .i64 (r 7)) := (HR5.out.cell 10).trans (mach_get _ _ _ _ _ 7 (by omega))
  have y8 : w5.cell? ⟨w3.heap.size, 8, none⟩ = some (.int .i64 (r 8)) := by have := row_reg HE5.out 8 (by omega); rwa [HER.out] at this
  have z8 : w5.cell? ⟨w.heap.size, 11, none⟩ = some (.int .i64 (r 8)) := (HR5.out.cell 11).trans (mach_get _ _ _ _ _ 8 (by omega))
  have y9 : w5.cell? ⟨w3.heap.size, 9, none⟩ = some (.int .i64 (r 9)) := by have := row_reg HE5.out 9 (by omega); rwa [HER.out] at this
  have z9 : w5.cell? ⟨w.heap.size, 12, none⟩ = some (.int .i64 (r 9)) := (HR5.out.cell 12).trans (mach_get _ _ _ _ _ 9 (by omega))
  have y10 : w5.cell? ⟨w3.heap.size, 10, none⟩ = some (.int .i64 (r 10)) := by have := row_reg HE5.out 10 (by omega); rwa [HER.out] at this
  have z10 : w5.cell? ⟨w.heap.size, 13, none⟩ = some (.int .i64 (r 10)) := (HR5.out.cell 13).trans (mach_get _ _ _ _ _ 10 (by omega))
  have y11 : w5.cell? ⟨w3.heap.size, 11, none⟩ = some (.int .i64 (r 11)) := by have := row_reg HE5.out 11 (by omega); rwa [HER.out] at this
  have z11 : w5.cell? ⟨w.heap.size, 14, none⟩ = some (.int .i64 (r 11)) := (HR5.out.cell 14).trans (mach_get _ _ _ _ _ 11 (by omega))
  have y12 : w5.cell? ⟨w3.heap.size, 12, none⟩ = some (.int .i64 (r 12)) := by have := row_reg HE5.out 12 (by omega); rwa [HER.out] at this
  have z12 : w5.cell? ⟨w.heap.size, 15, none⟩ = some (.int .i64 (r 12)) := (HR5.out.cell 15).trans (mach_get _ _ _ _ _ 12 (by omega))
  have y13 : w5.cell? ⟨w3.heap.size, 13, none⟩ = some (.int .i64 (r 13)) := by have := row_reg HE5.out 13 (by omega); rwa [HER.out] at this
  have z13 : w5.cell? ⟨w.heap.size, 16, none⟩ = some (.int .i64 (r 13)) := (HR5.out.cell 16).trans (mach_get _ _ _ _ _ 13 (by omega))
  have y14 : w5.cell? ⟨w3.heap.size, 14, none⟩ = some (.int .i64 (r 14)) := by have := row_reg HE5.out 14 (by omega); rwa [HER.out] at this
  have z14 : w5.cell? ⟨w.heap.size, 17, none⟩ = some (.int .i64 (r 14)) := (HR5.out.cell 17).trans (mach_get _ _ _ _ _ 14 (by omega))
  have y15 : w5.cell? ⟨w3.heap.size, 15, none⟩ = some (.int .i64 (r 15)) := by have := row_reg HE5.out 15 (by omega); rwa [HER.out] at this
  have z15 : w5.cell? ⟨w.heap.size, 18, none⟩ = some (.int .i64 (r 15)) := (HR5.out.cell 18).trans (mach_get _ _ _ _ _ 15 (by omega))
  have s1 : w5.cell? ⟨w.heap.size, 1, none⟩ = some (.slice M xs.length mcap) := HR5.out.cell 1
  have s2 : w5.cell? ⟨w.heap.size, 2, none⟩ = some (.int .i64 fixed) := HR5.out.cell 2
  have s3 : w5.cell? ⟨w.heap.size, 3 + x.a, none⟩ = some (.int .i64 (r x.a)) := (HR5.out.cell _).trans (mach_get _ _ _ _ _ x.a ha16)
  have s4 : (x.a : Int) < 16 := by omega
  have s5 : (0 : Int) ≤ E.addr := HST.out.2.1
  have s6 : E.addr < (xs.length : Int) := HST.out.2.2.1
  have s7 : fixed ≤ E.addr := HST.out.2.2.2.1
  have s8 : ((x.op : Int) == 6) = true := by have := H6.out; simp; omega
  have s9 : ((x.op : Int) == 26) = false := by have := H6.out; simp; omega
  have heq := eq_lit r
  have HT : Hid (target x = x.a) := by show _ = _; unfold target; rw [if_neg H26.out]
  go_wp2_with (fail)
  go_loopw [6] (fun i wr => ∃ (j n : Nat), j ≤ 16 ∧ i = .int .i64 j ∧ wr = (w5.alloc (.cells #[.int .u8 x.op, .int .u8 x.a, .int .u8 x.b, .int .u8 x.c, .int .i32 x.n] 45)).drewN n) (fun i _ => 16 - (intOf i).toNat)
  case atStart => exact ⟨0, 0, by omega, rfl, rfl⟩
  case round =>
    obtain ⟨j, n, hj, rfl, rfl⟩ := hrel
    by_cases hlt : j < 16
    · have j1 : (j : Int) < 16 := by omega
      have u1 : w5.cell? ⟨w.heap.size, 3 + j, none⟩ = some (.int .i64 (r j)) := (HR5.out.cell _).trans (mach_get _ _ _ _ _ j hlt)
      by_cases hit : j = x.a
      · have j2 : ((j : Int) != (x.a : Int)) = false := by simp; omega
        go_wp2_with (fail)
        go_quiet (fail)
        go_wp2
        exact ⟨⟨j + 1, _, by omega, by go_num, by first | rfl | rw [World.drewN_drewN]⟩, by simp [intOf]; omega⟩
      · have j2 : ((j : Int) != (x.a : Int)) = true := by simp; omega
        have u2 : w5.cell? ⟨w3.heap.size, j, none⟩ = some (.int .i64 (r j)) := by
          have := row_reg HE5.out j hlt
          rwa [HSAME.out j (by rw [HT.out]; exact hit)] at this
        go_wp2_with (fail)
        go_quiet (fail)
        go_wp2
        exact ⟨⟨j + 1, _, by omega, by go_num, by first | rfl | rw [World.drewN_drewN]⟩, by simp [intOf]; omega⟩
    · go_wp2_with (fail)
      go_quiet (fail)
      go_wp2
      go_ret
      first | exact ⟨rfl, (by repeat (first | exact HC5.out | apply Ch.drewN | apply Ch.drew | apply Ch.alloc))⟩ | (refine ⟨?_, (by repeat (first | exact HC5.out | apply Ch.drewN | apply Ch.drew | apply Ch.alloc))⟩; simp_all; done)
end Go.Proofs.YtellmlffkgfeiaaDoor
