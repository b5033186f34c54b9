/- CpuKeeps: the walk. -/
import Derived.Test.YtellmlffkgfeiaaDoorK0
import Derived.Test.YtellmlffkgfeiaaDoorC10
set_option linter.unusedVariables false
set_option linter.unusedSimpArgs false
namespace Go.Proofs.YtellmlffkgfeiaaDoor
open Go.RowKit
/-- a machine, by value: its cells -/
def machCells (code m : Value) (fixed : Int) (r : Nat → Int) (pc : Int) : List Value := [code, m, .int .i64 fixed] ++ regCells r ++ [.int .i64 pc]
theorem mach_get (code m : Value) (fixed : Int) (r : Nat → Int) (pc : Int) (i : Nat) (h : i < 16) : (machCells code m fixed r pc)[3 + i]? = some (.int .i64 (r i)) := by
  unfold machCells
  rw [List.append_assoc, List.getElem?_append_right (by simp)]
  simp only [List.length_cons, List.length_nil]
  rw [show 3 + i - (0 + 1 + 1 + 1) = i by omega, List.getElem?_append_left (by rw [regCells_length]; exact h), regCells_get _ _ h]
theorem mach_pc (code m : Value) (fixed : Int) (r : Nat → Int) (pc : Int) : (machCells code m fixed r pc)[19]? = some (.int .i64 pc) := by
  unfold machCells
  rw [List.getElem?_append_right (by simp [regCells_length])]
  simp [regCells_length]
theorem size26 : (Tryd.prog.info? 26).map (·.size) = some 20 := by kernel_rfl
theorem eq_lit (r : Nat → Int) (W : World) : (Op.equalIn 10000 24 (.agg #[.int .i64 (r 0), .int .i64 (r 1), .int .i64 (r 2), .int .i64 (r 3), .int .i64 (r 4), .int .i64 (r 5), .int .i64 (r 6), .int .i64 (r 7), .int .i64 (r 8), .int .i64 (r 9), .int .i64 (r 10), .int .i64 (r 11), .int .i64 (r 12), .int .i64 (r 13), .int .i64 (r 14), .int .i64 (r 15)]) (.agg #[.int .i64 (r 0), .int .i64 (r 1), .int .i64 (r 2), .int .i64 (r 3), .int .i64 (r 4), .int .i64 (r 5), .int .i64 (r 6), .int .i64 (r 7), .int .i64 (r 8), .int .i64 (r 9), .int .i64 (r 10), .int .i64 (r 11), .int .i64 (r 12), .int .i64 (r 13), .int .i64 (r 14), .int .i64 (r 15)])).run Tryd.prog W = .ok true W := (eq_regs r r W).trans (by simp)
theorem step_mach (A : Option Addr) (cs : List Ins) (cap : Nat) (hl : cs.length ≤ 9223372036854775807) (hcs : ∀ x ∈ cs, x.ok) (M : Option Addr) (xs : List Int) (mcap : Nat) (hm : xs.length ≤ 9223372036854775807) (hmc : xs.length ≤ mcap) (fixed : Int) (r : Nat → Int) (hin : ∀ i, i < 16 → In64 (r i)) (pc : Int) (w : World)
    (hcode : Cl w A (codeCells cs)) (hM : Cl w M (ints xs)) (hgl : Glob w) :
    Calls Tryd.prog 12 #[.slice A cs.length cap, .slice M xs.length mcap, .int .i64 fixed, .agg #[.int .i64 (r 0), .int .i64 (r 1), .int .i64 (r 2), .int .i64 (r 3), .int .i64 (r 4), .int .i64 (r 5), .int .i64 (r 6), .int .i64 (r 7), .int .i64 (r 8), .int .i64 (r 9), .int .i64 (r 10), .int .i64 (r 11), .int .i64 (r 12), .int .i64 (r 13), .int .i64 (r 14), .int .i64 (r 15)], .int .i64 pc] w fun e w' => e = .returned (.agg (effCells (stepF cs xs fixed r pc)).toArray) ∧ Ch No w w' :=
  step_calls A cs cap hl hcs M xs mcap hm hmc fixed r hin pc w hcode hM hgl
set_option maxRecDepth 100000 in
set_option maxHeartbeats 8000000 in
theorem keeps_faulty (A : Option Addr) (cs : List Ins) (cap : Nat) (hl : cs.length ≤ 9223372036854775807) (hcs : ∀ x ∈ cs, x.ok) (M : Option Addr) (xs : List Int) (mcap : Nat) (hm : xs.length ≤ 9223372036854775807) (hmc : xs.length ≤ mcap) (fixed : Int) (r : Nat → Int) (hin : ∀ i, i < 16 → In64 (r i)) (pc : Int) (w : World) (hcode : Cl w A (codeCells cs)) (hM : Cl w M (ints xs)) (hg : Glob w) (E : Eff) (hE : stepF cs xs fixed r pc = E) (hF : Faulty E cs.length r) :
    Calls Tryd.prog 6 #[.agg (machCells (.slice A cs.length cap) (.slice M xs.length mcap) fixed r pc).toArray] w fun e w' => e = .returned (.bool true) ∧ Ch No w w' := by
  have HG := Lib.hid hg
  have HCODE := Lib.hid hcode
  have HMM := Lib.hid hM
  have HR1 := Lib.hid (Row.new w 26 (machCells (.slice A cs.length cap) (.slice M xs.length mcap) fixed r pc))
  have HS := Lib.hid (fun (W : World) (h : Ch No w W) => step_mach A cs cap hl hcs M xs mcap hm hmc fixed r hin pc W (hcode.keepNo h) (hM.keepNo h) (hg.keep h (not_no _)))
  have HI22 : Hid ((Tryd.prog.info? 30).map (·.size) = some (effCells E).length) := by rw [effCells_length]; exact size30
  have HL2 : Hid ((effCells E).length = (effCells zeroEff).length) := by show _ = _; rw [effCells_length, effCells_length]
  rw [hE] at HS
  have HE := Lib.hid hE
  clear hE hcode hM hg hin hcs
  go_enter Tryd.func6, Tryd.ntmps6
  go_wp2_with (fail)
  refine (known_calls _ (HG.out.keep ((Ch.refl No w).alloc _) (not_no _))).mono ?_
  rintro e w2 ⟨rfl, hc2⟩
  have HC2 : Hid (Ch No w w2) := ((Ch.refl No w).alloc _).then_ hc2
  have HR2 := Lib.hid (HR1.out.keepNo hc2)
  clear hc2
  have hf : w2.cell? ⟨w.heap.size, 0, none⟩ = some (.slice A cs.length cap) ∧ w2.cell? ⟨w.heap.size, 1, none⟩ = some (.slice M xs.length mcap) ∧ w2.cell? ⟨w.heap.size, 2, none⟩ = some (.int .i64 fixed) ∧ w2.cell? ⟨w.heap.size, 3, none⟩ = some (.int .i64 (r 0)) ∧ w2.cell? ⟨w.heap.size, 4, none⟩ = some (.int .i64 (r 1)) ∧ w2.cell? ⟨w.heap.size, 5, none⟩ = some (.int .i64 (r 2)) ∧ w2.cell? ⟨w.heap.size, 6, none⟩ = some (.int .i64 (r 3)) ∧ w2.cell? ⟨w.heap.size, 7, none⟩ = some (.int .i64 (r 4)) ∧ w2.cell? ⟨w.heap.size, 8, none⟩ = some (.int .i64 (r 5)) ∧ w2.cell? ⟨w.heap.size, 9, none⟩ = some (.int .i64 (r 6)) ∧ w2.cell? ⟨w.heap.size, 10, none⟩ = some (.int .i64 (r 7)) ∧ w2.cell? ⟨w.heap.size, 11, none⟩ = some (.int .i64 (r 8)) ∧ w2.cell? ⟨w.heap.size, 12, none⟩ = some (.int .i64 (r 9)) ∧ w2.cell? ⟨w.heap.size, 13, none⟩ = some (.int .i64 (r 10)) ∧ w2.cell? ⟨w.heap.size, 14, none⟩ = some (.int .i64 (r 11)) ∧ w2.cell? ⟨w.heap.size, 15, none⟩ = some (.int .i64 (r 12)) ∧ w2.cell? ⟨w.heap.size, 16, none⟩ = some (.int .i64 (r 13)) ∧ w2.cell? ⟨w.heap.size, 17, none⟩ = some (.int .i64 (r 14)) ∧ w2.cell? ⟨w.heap.size, 18, none⟩ = some (.int .i64 (r 15)) ∧ w2.cell? ⟨w.heap.size, 19, none⟩ = some (.int .i64 pc) := ⟨HR2.out.cell 0, HR2.out.cell 1, HR2.out.cell 2, (HR2.out.cell 3).trans (mach_get _ _ _ _ _ 0 (by omega)), (HR2.out.cell 4).trans (mach_get _ _ _ _ _ 1 (by omega)), (HR2.out.cell 5).trans (mach_get _ _ _ _ _ 2 (by omega)), (HR2.out.cell 6).trans (mach_get _ _ _ _ _ 3 (by omega)), (HR2.out.cell 7).trans (mach_get _ _ _ _ _ 4 (by omega)), (HR2.out.cell 8).trans (mach_get _ _ _ _ _ 5 (by omega)), (HR2.out.cell 9).trans (mach_get _ _ _ _ _ 6 (by omega)), (HR2.out.cell 10).trans (mach_get _ _ _ _ _ 7 (by omega)), (HR2.out.cell 11).trans (mach_get _ _ _ _ _ 8 (by omega)), (HR2.out.cell 12).trans (mach_get _ _ _ _ _ 9 (by omega)), (HR2.out.cell 13).trans (mach_get _ _ _ _ _ 10 (by omega)), (HR2.out.cell 14).trans (mach_get _ _ _ _ _ 11 (by omega)), (HR2.out.cell 15).trans (mach_get _ _ _ _ _ 12 (by omega)), (HR2.out.cell 16).trans (mach_get _ _ _ _ _ 13 (by omega)), (HR2.out.cell 17).trans (mach_get _ _ _ _ _ 14 (by omega)), (HR2.out.cell 18).trans (mach_get _ _ _ _ _ 15 (by omega)), (HR2.out.cell 19).trans (mach_pc _ _ _ _ _)⟩
  obtain ⟨m0, m1, m2, m3, m4, m5, m6, m7, m8, m9, m10, m11, m12, m13, m14, m15, m16, m17, m18, m19⟩ := hf
  go_wp2_with (fail)
  refine (HS.out _ HC2.out).mono ?_
  rintro e w3 ⟨rfl, hc3⟩
  have HC3 := Lib.hid (HC2.out.then_ hc3)
  have HR3 := Lib.hid (HR2.out.keepNo hc3)
  have HZ3 : Hid (Row (w3.alloc (.cells (effCells zeroEff).toArray 30)) w3.heap.size 30 (effCells zeroEff)) := Row.new w3 30 (effCells zeroEff)
  have hlt : w.heap.size < w3.heap.size := HR3.out.lt
  have hne : ¬ w.heap.size = w3.heap.size := by omega
  clear hc3 m0 m1 m2 m3 m4 m5 m6 m7 m8 m9 m10 m11 m12 m13 m14 m15 m16 m17 m18 m19
  have HER : Hid (E.r = r) := hF.r
  have q1 := hF.lo
  have q2 := hF.hi
  have q3 := hF.pc0
  have q4 := hF.pc1
  have q5 : (E.fault != 0) = true := by simp; omega
  have HF := Lib.hid hF
  clear hF
  have hf4 : ∀ w4 : World, Row w4 w3.heap.size 30 (effCells E) → Ch (Is w3.heap.size) (w3.alloc (.cells (effCells zeroEff).toArray 30)) w4 → Hid (Ch No w w4) ∧ Hid (Row w4 w.heap.size 26 (machCells (.slice A cs.length cap) (.slice M xs.length mcap) fixed r pc)) ∧ Hid (Row w4 w3.heap.size 30 (effCells E)) ∧ w4.cell? ⟨w.heap.size, 0, none⟩ = some (.slice A cs.length cap) ∧ w4.cell? ⟨w.heap.size, 1, none⟩ = some (.slice M xs.length mcap) ∧ w4.cell? ⟨w.heap.size, 2, none⟩ = some (.int .i64 fixed) ∧ w4.cell? ⟨w.heap.size, 3, none⟩ = some (.int .i64 (r 0)) ∧ w4.cell? ⟨w.heap.size, 4, none⟩ = some (.int .i64 (r 1)) ∧ w4.cell? ⟨w.heap.size, 5, none⟩ = some (.int .i64 (r 2)) ∧ w4.cell? ⟨w.heap.size, 6, none⟩ = some (.int .i64 (r 3)) ∧ w4.cell? ⟨w.heap.size, 7, none⟩ = some (.int .i64 (r 4)) ∧ w4.cell? ⟨w.heap.size, 8, none⟩ = some (.int .i64 (r 5)) ∧ w4.cell? ⟨w.heap.size, 9, none⟩ = some (.int .i64 (r 6)) ∧ w4.cell? ⟨w.heap.size, 10, none⟩ = some (.int .i64 (r 7)) ∧ w4.cell? ⟨w.heap.size, 11, none⟩ = some (.int .i64 (r 8)) ∧ w4.cell? ⟨w.heap.size, 12, none⟩ = some (.int .i64 (r 9)) ∧ w4.cell? ⟨w.heap.size, 13, none⟩ = some (.int .i64 (r 10)) ∧ w4.cell? ⟨w.heap.size, 14, none⟩ = some (.int .i64 (r 11)) ∧ w4.cell? ⟨w.heap.size, 15, none⟩ = some (.int .i64 (r 12)) ∧ w4.cell? ⟨w.heap.size, 16, none⟩ = some (.int .i64 (r 13)) ∧ w4.cell? ⟨w.heap.size, 17, none⟩ = some (.int .i64 (r 14)) ∧ w4.cell? ⟨w.heap.size, 18, none⟩ = some (.int .i64 (r 15)) ∧ w4.cell? ⟨w.heap.size, 19, none⟩ = some (.int .i64 pc) ∧ w4.cell? ⟨w3.heap.size, 0, none⟩ = some (.int .i64 (r 0)) ∧ w4.cell? ⟨w3.heap.size, 1, none⟩ = some (.int .i64 (r 1)) ∧ w4.cell? ⟨w3.heap.size, 2, none⟩ = some (.int .i64 (r 2)) ∧ w4.cell? ⟨w3.heap.size, 3, none⟩ = some (.int .i64 (r 3)) ∧ w4.cell? ⟨w3.heap.size, 4, none⟩ = some (.int .i64 (r 4)) ∧ w4.cell? ⟨w3.heap.size, 5, none⟩ = some (.int .i64 (r 5)) ∧ w4.cell? ⟨w3.heap.size, 6, none⟩ = some (.int .i64 (r 6)) ∧ w4.cell? ⟨w3.heap.size, 7, none⟩ = some (.int .i64 (r 7)) ∧ w4.cell? ⟨w3.heap.size, 8, none⟩ = some (.int .i64 (r 8)) ∧ w4.cell? ⟨w3.heap.size, 9, none⟩ = some (.int .i64 (r 9)) ∧ w4.cell? ⟨w3.heap.size, 10, none⟩ = some (.int .i64 (r 10)) ∧ w4.cell? ⟨w3.heap.size, 11, none⟩ = some (.int .i64 (r 11)) ∧ w4.cell? ⟨w3.heap.size, 12, none⟩ = some (.int .i64 (r 12)) ∧ w4.cell? ⟨w3.heap.size, 13, none⟩ = some (.int .i64 (r 13)) ∧ w4.cell? ⟨w3.heap.size, 14, none⟩ = some (.int .i64 (r 14)) ∧ w4.cell? ⟨w3.heap.size, 15, none⟩ = some (.int .i64 (r 15)) ∧ w4.cell? ⟨w3.heap.size, 16, none⟩ = some (.int .i64 E.pc) ∧ w4.cell? ⟨w3.heap.size, 17, none⟩ = some (.bool false) ∧ w4.cell? ⟨w3.heap.size, 18, none⟩ = some (.int .i64 0) ∧ w4.cell? ⟨w3.heap.size, 19, none⟩ = some (.int .i64 0) ∧ w4.cell? ⟨w3.heap.size, 20, none⟩ = some (.int .i64 E.fault) ∧ w4.cell? ⟨w3.heap.size, 21, none⟩ = some (.int .i64 0) := by
    intro w4 hr hc
    have hm4 := (HR3.out.alloc (.cells (effCells zeroEff).toArray 30)).keepIs hc hne
    have hC4 : Ch No w w4 := (HC3.out.alloc _).trans hc (fun i hi he => by cases he; omega)
    refine ⟨hC4, hm4, hr, hm4.cell 0, hm4.cell 1, hm4.cell 2, (hm4.cell 3).trans (mach_get _ _ _ _ _ 0 (by omega)), (hm4.cell 4).trans (mach_get _ _ _ _ _ 1 (by omega)), (hm4.cell 5).trans (mach_get _ _ _ _ _ 2 (by omega)), (hm4.cell 6).trans (mach_get _ _ _ _ _ 3 (by omega)), (hm4.cell 7).trans (mach_get _ _ _ _ _ 4 (by omega)), (hm4.cell 8).trans (mach_get _ _ _ _ _ 5 (by omega)), (hm4.cell 9).trans (mach_get _ _ _ _ _ 6 (by omega)), (hm4.cell 10).trans (mach_get _ _ _ _ _ 7 (by omega)), (hm4.cell 11).trans (mach_get _ _ _ _ _ 8 (by omega)), (hm4.cell 12).trans (mach_get _ _ _ _ _ 9 (by omega)), (hm4.cell 13).trans (mach_get _ _ _ _ _ 10 (by omega)), (hm4.cell 14).trans (mach_get _ _ _ _ _ 11 (by omega)), (hm4.cell 15).trans (mach_get _ _ _ _ _ 12 (by omega)), (hm4.cell 16).trans (mach_get _ _ _ _ _ 13 (by omega)), (hm4.cell 17).trans (mach_get _ _ _ _ _ 14 (by omega)), (hm4.cell 18).trans (mach_get _ _ _ _ _ 15 (by omega)), (hm4.cell 19).trans (mach_pc _ _ _ _ _), (by have := row_reg hr 0 (by omega); rwa [HER.out] at this), (by have := row_reg hr 1 (by omega); rwa [HER.out] at this), (by have := row_reg hr 2 (by omega); rwa [HER.out] at this), (by have := row_reg hr 3 (by omega); rwa [HER.out] at this), (by have := row_reg hr 4 (by omega); rwa [HER.out] at this), (by have := row_reg hr 5 (by omega); rwa [HER.out] at this), (by have := row_reg hr 6 (by omega); rwa [HER.out] at this), (by have := row_reg hr 7 (by omega); rwa [HER.out] at this), (by have := row_reg hr 8 (by omega); rwa [HER.out] at this), (by have := row_reg hr 9 (by omega); rwa [HER.out] at this), (by have := row_reg hr 10 (by omega); rwa [HER.out] at this), (by have := row_reg hr 11 (by omega); rwa [HER.out] at this), (by have := row_reg hr 12 (by omega); rwa [HER.out] at this), (by have := row_reg hr 13 (by omega); rwa [HER.out] at this), (by have := row_reg hr 14 (by omega); rwa [HER.out] at this), (by have := row_reg hr 15 (by omega); rwa [HER.out] at this), row_rest hr 0, (by have := row_rest hr 1; rwa [HF.out.st] at this), (by have := row_rest hr 2; rwa [HF.out.addr] at this), (by have := row_rest hr 3; rwa [HF.out.val] at this), row_rest hr 4, (by have := row_rest hr 5; rwa [HF.out.call] at this)⟩
  have HF4 := Lib.hid hf4
  clear hf4
  have heq := eq_lit r
  go_wp2_with (first | (refine wpList_store_agg (o := ⟨none, .store 30 (.tmp 3) (.tmp 19), _, _, _, _⟩) rfl 30 (.tmp 3) (.tmp 19) rfl w3.heap.size rfl 30 (effCells zeroEff) (effCells E) rfl HZ3.out HI22.out HL2.out (eff_one _) ?_; intro w4 hr4 hc4; obtain ⟨HC4, HR4, HE4, m0, m1, m2, m3, m4, m5, m6, m7, m8, m9, m10, m11, m12, m13, m14, m15, m16, m17, m18, m19, e0, e1, e2, e3, e4, e5, e6, e7, e8, e9, e10, e11, e12, e13, e14, e15, e16, e17, e18, e19, e20, e21⟩ := HF4.out w4 hr4 hc4; clear hr4 hc4))
  go_ret
  first | exact ⟨rfl, HC4.out⟩ | (refine ⟨?_, HC4.out⟩; simp_all; done)
end Go.Proofs.YtellmlffkgfeiaaDoor
