/- cpu.operations: the table, and what its closures hold. -/
import Derived.Test.YtellmlffkgfeiaaDoorC2
import Derived.Laws.EntriesVeiled
set_option linter.unusedVariables false
set_option linter.unusedSimpArgs false
namespace Go.Proofs.YtellmlffkgfeiaaDoor
open Go.RowKit
theorem size59 : (Tryd.prog.info? 59).map (·.size) = some 28 := by kernel_rfl
theorem mk_two (f : Nat) (w : World) : Calls Tryd.prog 41 #[.func (.func f) #[] #[]] w fun e w' => ∃ q, e = .returned (.agg #[.func (.func 77) #[] #[.pointer (some ⟨q, 0, none⟩)]]) ∧ w'.cell? ⟨q, 0, none⟩ = some (.func (.func f) #[] #[]) ∧ Ch No w w' := by
  have hmf : ∀ (fn : Fn) (first cap : Array Value) (w : World), (Instr.makeFunc fn first cap).run Tryd.prog w = .ok (.func fn first cap) w := fun _ _ _ _ => rfl
  go_enter Tryd.func41, Tryd.ntmps41
  go_wp2
  refine bodyPost_ret (v := .agg #[.func (.func 77) #[] #[.pointer (some ⟨w.heap.size, 0, none⟩)]]) (by simp [results, Tryd.results41, go_sem]) rfl ⟨w.heap.size, rfl, by simp [go_sem], (by repeat (first | exact Ch.refl _ _ | apply Ch.drewN | apply Ch.drew | apply Ch.alloc | (refine Ch.setCell ?_ (fun hh => absurd hh (by simp)) _)))⟩
theorem mk_one (f : Nat) (w : World) : Calls Tryd.prog 37 #[.func (.func f) #[] #[]] w fun e w' => ∃ q, e = .returned (.agg #[.func (.func 74) #[] #[.pointer (some ⟨q, 0, none⟩)]]) ∧ w'.cell? ⟨q, 0, none⟩ = some (.func (.func f) #[] #[]) ∧ Ch No w w' := by
  have hmf : ∀ (fn : Fn) (first cap : Array Value) (w : World), (Instr.makeFunc fn first cap).run Tryd.prog w = .ok (.func fn first cap) w := fun _ _ _ _ => rfl
  go_enter Tryd.func37, Tryd.ntmps37
  go_wp2
  refine bodyPost_ret (v := .agg #[.func (.func 74) #[] #[.pointer (some ⟨w.heap.size, 0, none⟩)]]) (by simp [results, Tryd.results37, go_sem]) rfl ⟨w.heap.size, rfl, by simp [go_sem], (by repeat (first | exact Ch.refl _ _ | apply Ch.drewN | apply Ch.drew | apply Ch.alloc | (refine Ch.setCell ?_ (fun hh => absurd hh (by simp)) _)))⟩
theorem mk_jump (f : Nat) (w : World) : Calls Tryd.prog 57 #[.func (.func f) #[] #[]] w fun e w' => ∃ q, e = .returned (.agg #[.func (.func 80) #[] #[.pointer (some ⟨q, 0, none⟩)]]) ∧ w'.cell? ⟨q, 0, none⟩ = some (.func (.func f) #[] #[]) ∧ Ch No w w' := by
  have hmf : ∀ (fn : Fn) (first cap : Array Value) (w : World), (Instr.makeFunc fn first cap).run Tryd.prog w = .ok (.func fn first cap) w := fun _ _ _ _ => rfl
  go_enter Tryd.func57, Tryd.ntmps57
  go_wp2
  refine bodyPost_ret (v := .agg #[.func (.func 80) #[] #[.pointer (some ⟨w.heap.size, 0, none⟩)]]) (by simp [results, Tryd.results57, go_sem]) rfl ⟨w.heap.size, rfl, by simp [go_sem], (by repeat (first | exact Ch.refl _ _ | apply Ch.drewN | apply Ch.drew | apply Ch.alloc | (refine Ch.setCell ?_ (fun hh => absurd hh (by simp)) _)))⟩
theorem mk_div (f : Bool) (w : World) : Calls Tryd.prog 45 #[.bool f] w fun e w' => ∃ q, e = .returned (.agg #[.func (.func 78) #[] #[.pointer (some ⟨q, 0, none⟩)]]) ∧ w'.cell? ⟨q, 0, none⟩ = some (.bool f) ∧ Ch No w w' := by
  have hmf : ∀ (fn : Fn) (first cap : Array Value) (w : World), (Instr.makeFunc fn first cap).run Tryd.prog w = .ok (.func fn first cap) w := fun _ _ _ _ => rfl
  go_enter Tryd.func45, Tryd.ntmps45
  go_wp2
  refine bodyPost_ret (v := .agg #[.func (.func 78) #[] #[.pointer (some ⟨w.heap.size, 0, none⟩)]]) (by simp [results, Tryd.results45, go_sem]) rfl ⟨w.heap.size, rfl, by simp [go_sem], (by repeat (first | exact Ch.refl _ _ | apply Ch.drewN | apply Ch.drew | apply Ch.alloc | (refine Ch.setCell ?_ (fun hh => absurd hh (by simp)) _)))⟩
/-- the table: what stands at each number, and what the closures hold in this world -/
structure Ops (w : World) (V : List Value) : Prop where
  len : V.length = 28
  o1 : V[1]? = some (.func (.func 34) #[] #[])
  o2 : V[2]? = some (.func (.func 35) #[] #[])
  o3 : V[3]? = some (.func (.func 36) #[] #[])
  o4 : ∃ q, V[4]? = some (.func (.func 74) #[] #[.pointer (some ⟨q, 0, none⟩)]) ∧ w.cell? ⟨q, 0, none⟩ = some (.func (.func 38) #[] #[])
  o5 : V[5]? = some (.func (.func 39) #[] #[])
  o6 : V[6]? = some (.func (.func 40) #[] #[])
  o7 : ∃ q, V[7]? = some (.func (.func 77) #[] #[.pointer (some ⟨q, 0, none⟩)]) ∧ w.cell? ⟨q, 0, none⟩ = some (.func (.func 42) #[] #[])
  o8 : ∃ q, V[8]? = some (.func (.func 77) #[] #[.pointer (some ⟨q, 0, none⟩)]) ∧ w.cell? ⟨q, 0, none⟩ = some (.func (.func 43) #[] #[])
  o9 : ∃ q, V[9]? = some (.func (.func 77) #[] #[.pointer (some ⟨q, 0, none⟩)]) ∧ w.cell? ⟨q, 0, none⟩ = some (.func (.func 44) #[] #[])
  o10 : ∃ q, V[10]? = some (.func (.func 78) #[] #[.pointer (some ⟨q, 0, none⟩)]) ∧ w.cell? ⟨q, 0, none⟩ = some (.bool false)
  o11 : ∃ q, V[11]? = some (.func (.func 78) #[] #[.pointer (some ⟨q, 0, none⟩)]) ∧ w.cell? ⟨q, 0, none⟩ = some (.bool true)
  o12 : ∃ q, V[12]? = some (.func (.func 77) #[] #[.pointer (some ⟨q, 0, none⟩)]) ∧ w.cell? ⟨q, 0, none⟩ = some (.func (.func 46) #[] #[])
  o13 : ∃ q, V[13]? = some (.func (.func 77) #[] #[.pointer (some ⟨q, 0, none⟩)]) ∧ w.cell? ⟨q, 0, none⟩ = some (.func (.func 47) #[] #[])
  o14 : ∃ q, V[14]? = some (.func (.func 77) #[] #[.pointer (some ⟨q, 0, none⟩)]) ∧ w.cell? ⟨q, 0, none⟩ = some (.func (.func 48) #[] #[])
  o15 : ∃ q, V[15]? = some (.func (.func 77) #[] #[.pointer (some ⟨q, 0, none⟩)]) ∧ w.cell? ⟨q, 0, none⟩ = some (.func (.func 49) #[] #[])
  o16 : ∃ q, V[16]? = some (.func (.func 77) #[] #[.pointer (some ⟨q, 0, none⟩)]) ∧ w.cell? ⟨q, 0, none⟩ = some (.func (.func 50) #[] #[])
  o17 : ∃ q, V[17]? = some (.func (.func 77) #[] #[.pointer (some ⟨q, 0, none⟩)]) ∧ w.cell? ⟨q, 0, none⟩ = some (.func (.func 51) #[] #[])
  o18 : ∃ q, V[18]? = some (.func (.func 74) #[] #[.pointer (some ⟨q, 0, none⟩)]) ∧ w.cell? ⟨q, 0, none⟩ = some (.func (.func 52) #[] #[])
  o19 : ∃ q, V[19]? = some (.func (.func 77) #[] #[.pointer (some ⟨q, 0, none⟩)]) ∧ w.cell? ⟨q, 0, none⟩ = some (.func (.func 53) #[] #[])
  o20 : ∃ q, V[20]? = some (.func (.func 77) #[] #[.pointer (some ⟨q, 0, none⟩)]) ∧ w.cell? ⟨q, 0, none⟩ = some (.func (.func 55) #[] #[])
  o21 : ∃ q, V[21]? = some (.func (.func 77) #[] #[.pointer (some ⟨q, 0, none⟩)]) ∧ w.cell? ⟨q, 0, none⟩ = some (.func (.func 56) #[] #[])
  o22 : ∃ q, V[22]? = some (.func (.func 80) #[] #[.pointer (some ⟨q, 0, none⟩)]) ∧ w.cell? ⟨q, 0, none⟩ = some (.func (.func 58) #[] #[])
  o23 : ∃ q, V[23]? = some (.func (.func 80) #[] #[.pointer (some ⟨q, 0, none⟩)]) ∧ w.cell? ⟨q, 0, none⟩ = some (.func (.func 59) #[] #[])
  o24 : ∃ q, V[24]? = some (.func (.func 80) #[] #[.pointer (some ⟨q, 0, none⟩)]) ∧ w.cell? ⟨q, 0, none⟩ = some (.func (.func 60) #[] #[])
  o25 : V[25]? = some (.func (.func 61) #[] #[])
  o26 : V[26]? = some (.func (.func 62) #[] #[])
  o27 : V[27]? = some (.func (.func 63) #[] #[])
theorem Ops.keep {w w' : World} {V : List Value} (h : Ops w V) (hc : Ch No w w') : Ops w' V :=
  ⟨h.len, h.o1, h.o2, h.o3, h.o4.imp fun _ h => ⟨h.1, hc.cell (not_no _) h.2⟩, h.o5, h.o6, h.o7.imp fun _ h => ⟨h.1, hc.cell (not_no _) h.2⟩, h.o8.imp fun _ h => ⟨h.1, hc.cell (not_no _) h.2⟩, h.o9.imp fun _ h => ⟨h.1, hc.cell (not_no _) h.2⟩, h.o10.imp fun _ h => ⟨h.1, hc.cell (not_no _) h.2⟩, h.o11.imp fun _ h => ⟨h.1, hc.cell (not_no _) h.2⟩, h.o12.imp fun _ h => ⟨h.1, hc.cell (not_no _) h.2⟩, h.o13.imp fun _ h => ⟨h.1, hc.cell (not_no _) h.2⟩, h.o14.imp fun _ h => ⟨h.1, hc.cell (not_no _) h.2⟩, h.o15.imp fun _ h => ⟨h.1, hc.cell (not_no _) h.2⟩, h.o16.imp fun _ h => ⟨h.1, hc.cell (not_no _) h.2⟩, h.o17.imp fun _ h => ⟨h.1, hc.cell (not_no _) h.2⟩, h.o18.imp fun _ h => ⟨h.1, hc.cell (not_no _) h.2⟩, h.o19.imp fun _ h => ⟨h.1, hc.cell (not_no _) h.2⟩, h.o20.imp fun _ h => ⟨h.1, hc.cell (not_no _) h.2⟩, h.o21.imp fun _ h => ⟨h.1, hc.cell (not_no _) h.2⟩, h.o22.imp fun _ h => ⟨h.1, hc.cell (not_no _) h.2⟩, h.o23.imp fun _ h => ⟨h.1, hc.cell (not_no _) h.2⟩, h.o24.imp fun _ h => ⟨h.1, hc.cell (not_no _) h.2⟩, h.o25, h.o26, h.o27⟩
set_option maxHeartbeats 8000000 in
theorem operations_calls (w : World) : Calls Tryd.prog 26 #[] w fun e w' => ∃ V, e = .returned (.agg V.toArray) ∧ Ops w' V ∧ Ch No w w' := by
  have HR0 := Lib.hid (Row.new w 59 (List.replicate 28 Value.nilFunc))
  go_enter Tryd.func26, Tryd.ntmps26
  go_wp2_with (fail)
  refine (mk_one 38 _).mono ?_
  rintro e w4 ⟨q4, rfl, hq, hc⟩
  have HQ4 := Lib.hid hq
  have HC4 := Lib.hid hc
  clear hq hc
  go_wp2_with (fail)
  refine (mk_two 42 _).mono ?_
  rintro e w7 ⟨q7, rfl, hq, hc⟩
  have HQ7 := Lib.hid hq
  have HC7 := Lib.hid hc
  clear hq hc
  go_wp2_with (fail)
  refine (mk_two 43 _).mono ?_
  rintro e w8 ⟨q8, rfl, hq, hc⟩
  have HQ8 := Lib.hid hq
  have HC8 := Lib.hid hc
  clear hq hc
  go_wp2_with (fail)
  refine (mk_two 44 _).mono ?_
  rintro e w9 ⟨q9, rfl, hq, hc⟩
  have HQ9 := Lib.hid hq
  have HC9 := Lib.hid hc
  clear hq hc
  go_wp2_with (fail)
  refine (mk_div false _).mono ?_
  rintro e w10 ⟨q10, rfl, hq, hc⟩
  have HQ10 := Lib.hid hq
  have HC10 := Lib.hid hc
  clear hq hc
  go_wp2_with (fail)
  refine (mk_div true _).mono ?_
  rintro e w11 ⟨q11, rfl, hq, hc⟩
  have HQ11 := Lib.hid hq
  have HC11 := Lib.hid hc
  clear hq hc
  go_wp2_with (fail)
  refine (mk_two 46 _).mono ?_
  rintro e w12 ⟨q12, rfl, hq, hc⟩
  have HQ12 := Lib.hid hq
  have HC12 := Lib.hid hc
  clear hq hc
  go_wp2_with (fail)
  refine (mk_two 47 _).mono ?_
  rintro e w13 ⟨q13, rfl, hq, hc⟩
  have HQ13 := Lib.hid hq
  have HC13 := Lib.hid hc
  clear hq hc
  go_wp2_with (fail)
  refine (mk_two 48 _).mono ?_
  rintro e w14 ⟨q14, rfl, hq, hc⟩
  have HQ14 := Lib.hid hq
  have HC14 := Lib.hid hc
  clear hq hc
  go_wp2_with (fail)
  refine (mk_two 49 _).mono ?_
  rintro e w15 ⟨q15, rfl, hq, hc⟩
  have HQ15 := Lib.hid hq
  have HC15 := Lib.hid hc
  clear hq hc
  go_wp2_with (fail)
  refine (mk_two 50 _).mono ?_
  rintro e w16 ⟨q16, rfl, hq, hc⟩
  have HQ16 := Lib.hid hq
  have HC16 := Lib.hid hc
  clear hq hc
  go_wp2_with (fail)
  refine (mk_two 51 _).mono ?_
  rintro e w17 ⟨q17, rfl, hq, hc⟩
  have HQ17 := Lib.hid hq
  have HC17 := Lib.hid hc
  clear hq hc
  go_wp2_with (fail)
  refine (mk_one 52 _).mono ?_
  rintro e w18 ⟨q18, rfl, hq, hc⟩
  have HQ18 := Lib.hid hq
  have HC18 := Lib.hid hc
  clear hq hc
  go_wp2_with (fail)
  refine (mk_two 53 _).mono ?_
  rintro e w19 ⟨q19, rfl, hq, hc⟩
  have HQ19 := Lib.hid hq
  have HC19 := Lib.hid hc
  clear hq hc
  go_wp2_with (fail)
  refine (mk_two 55 _).mono ?_
  rintro e w20 ⟨q20, rfl, hq, hc⟩
  have HQ20 := Lib.hid hq
  have HC20 := Lib.hid hc
  clear hq hc
  go_wp2_with (fail)
  refine (mk_two 56 _).mono ?_
  rintro e w21 ⟨q21, rfl, hq, hc⟩
  have HQ21 := Lib.hid hq
  have HC21 := Lib.hid hc
  clear hq hc
  go_wp2_with (fail)
  refine (mk_jump 58 _).mono ?_
  rintro e w22 ⟨q22, rfl, hq, hc⟩
  have HQ22 := Lib.hid hq
  have HC22 := Lib.hid hc
  clear hq hc
  go_wp2_with (fail)
  refine (mk_jump 59 _).mono ?_
  rintro e w23 ⟨q23, rfl, hq, hc⟩
  have HQ23 := Lib.hid hq
  have HC23 := Lib.hid hc
  clear hq hc
  go_wp2_with (fail)
  refine (mk_jump 60 _).mono ?_
  rintro e w24 ⟨q24, rfl, hq, hc⟩
  have HQ24 := Lib.hid hq
  have HC24 := Lib.hid hc
  clear hq hc
  have HD24 := Lib.hid (Ch.refl No w24)
  have HD23 := Lib.hid (HC24.out.then_ HD24.out)
  have HD22 := Lib.hid (HC23.out.then_ HD23.out)
  have HD21 := Lib.hid (HC22.out.then_ HD22.out)
  have HD20 := Lib.hid (HC21.out.then_ HD21.out)
  have HD19 := Lib.hid (HC20.out.then_ HD20.out)
  have HD18 := Lib.hid (HC19.out.then_ HD19.out)
  have HD17 := Lib.hid (HC18.out.then_ HD18.out)
  have HD16 := Lib.hid (HC17.out.then_ HD17.out)
  have HD15 := Lib.hid (HC16.out.then_ HD16.out)
  have HD14 := Lib.hid (HC15.out.then_ HD15.out)
  have HD13 := Lib.hid (HC14.out.then_ HD14.out)
  have HD12 := Lib.hid (HC13.out.then_ HD13.out)
  have HD11 := Lib.hid (HC12.out.then_ HD12.out)
  have HD10 := Lib.hid (HC11.out.then_ HD11.out)
  have HD9 := Lib.hid (HC10.out.then_ HD10.out)
  have HD8 := Lib.hid (HC9.out.then_ HD9.out)
  have HD7 := Lib.hid (HC8.out.then_ HD8.out)
  have HD4 := Lib.hid (HC7.out.then_ HD7.out)
  have HD := Lib.hid (HC4.out.then_ HD4.out)
  have HR := Lib.hid (HR0.out.keepNo HD.out)
  have HV : Hid (∀ v ∈ ([.nilFunc, .func (.func 34) #[] #[], .func (.func 35) #[] #[], .func (.func 36) #[] #[], .func (.func 74) #[] #[.pointer (some ⟨q4, 0, none⟩)], .func (.func 39) #[] #[], .func (.func 40) #[] #[], .func (.func 77) #[] #[.pointer (some ⟨q7, 0, none⟩)], .func (.func 77) #[] #[.pointer (some ⟨q8, 0, none⟩)], .func (.func 77) #[] #[.pointer (some ⟨q9, 0, none⟩)], .func (.func 78) #[] #[.pointer (some ⟨q10, 0, none⟩)], .func (.func 78) #[] #[.pointer (some ⟨q11, 0, none⟩)], .func (.func 77) #[] #[.pointer (some ⟨q12, 0, none⟩)], .func (.func 77) #[] #[.pointer (some ⟨q13, 0, none⟩)], .func (.func 77) #[] #[.pointer (some ⟨q14, 0, none⟩)], .func (.func 77) #[] #[.pointer (some ⟨q15, 0, none⟩)], .func (.func 77) #[] #[.pointer (some ⟨q16, 0, none⟩)], .func (.func 77) #[] #[.pointer (some ⟨q17, 0, none⟩)], .func (.func 74) #[] #[.pointer (some ⟨q18, 0, none⟩)], .func (.func 77) #[] #[.pointer (some ⟨q19, 0, none⟩)], .func (.func 77) #[] #[.pointer (some ⟨q20, 0, none⟩)], .func (.func 77) #[] #[.pointer (some ⟨q21, 0, none⟩)], .func (.func 80) #[] #[.pointer (some ⟨q22, 0, none⟩)], .func (.func 80) #[] #[.pointer (some ⟨q23, 0, none⟩)], .func (.func 80) #[] #[.pointer (some ⟨q24, 0, none⟩)], .func (.func 61) #[] #[], .func (.func 62) #[] #[], .func (.func 63) #[] #[]] : List Value), v.oneCell' = true) := by
    show ∀ v ∈ _, _
    intro v hv
    simp only [List.mem_cons, List.not_mem_nil, or_false] at hv
    rcases hv with rfl | rfl | rfl | rfl | rfl | rfl | rfl | rfl | rfl | rfl | rfl | rfl | rfl | rfl | rfl | rfl | rfl | rfl | rfl | rfl | rfl | rfl | rfl | rfl | rfl | rfl | rfl | rfl <;> rfl
  go_wp2_with (refine wpList_store_agg (o := ⟨none, _, _, _, _, _⟩) rfl 59 (.tmp 0) (.tmp 28) rfl w.heap.size rfl 59 _ ([.nilFunc, .func (.func 34) #[] #[], .func (.func 35) #[] #[], .func (.func 36) #[] #[], .func (.func 74) #[] #[.pointer (some ⟨q4, 0, none⟩)], .func (.func 39) #[] #[], .func (.func 40) #[] #[], .func (.func 77) #[] #[.pointer (some ⟨q7, 0, none⟩)], .func (.func 77) #[] #[.pointer (some ⟨q8, 0, none⟩)], .func (.func 77) #[] #[.pointer (some ⟨q9, 0, none⟩)], .func (.func 78) #[] #[.pointer (some ⟨q10, 0, none⟩)], .func (.func 78) #[] #[.pointer (some ⟨q11, 0, none⟩)], .func (.func 77) #[] #[.pointer (some ⟨q12, 0, none⟩)], .func (.func 77) #[] #[.pointer (some ⟨q13, 0, none⟩)], .func (.func 77) #[] #[.pointer (some ⟨q14, 0, none⟩)], .func (.func 77) #[] #[.pointer (some ⟨q15, 0, none⟩)], .func (.func 77) #[] #[.pointer (some ⟨q16, 0, none⟩)], .func (.func 77) #[] #[.pointer (some ⟨q17, 0, none⟩)], .func (.func 74) #[] #[.pointer (some ⟨q18, 0, none⟩)], .func (.func 77) #[] #[.pointer (some ⟨q19, 0, none⟩)], .func (.func 77) #[] #[.pointer (some ⟨q20, 0, none⟩)], .func (.func 77) #[] #[.pointer (some ⟨q21, 0, none⟩)], .func (.func 80) #[] #[.pointer (some ⟨q22, 0, none⟩)], .func (.func 80) #[] #[.pointer (some ⟨q23, 0, none⟩)], .func (.func 80) #[] #[.pointer (some ⟨q24, 0, none⟩)], .func (.func 61) #[] #[], .func (.func 62) #[] #[], .func (.func 63) #[] #[]]) rfl HR.out size59 rfl HV.out ?_; intro w5 hr5 hc5; have HR5 := Lib.hid hr5; have HC5 := Lib.hid hc5; clear hr5 hc5)
  have HE : Hid (Ch No w w5) := (((Ch.refl No w).alloc _).then_ HD.out).trans HC5.out (fun i hi he => by cases he; exact absurd hi (Nat.lt_irrefl _))
  refine bodyPost_ret (v := .agg ([.nilFunc, .func (.func 34) #[] #[], .func (.func 35) #[] #[], .func (.func 36) #[] #[], .func (.func 74) #[] #[.pointer (some ⟨q4, 0, none⟩)], .func (.func 39) #[] #[], .func (.func 40) #[] #[], .func (.func 77) #[] #[.pointer (some ⟨q7, 0, none⟩)], .func (.func 77) #[] #[.pointer (some ⟨q8, 0, none⟩)], .func (.func 77) #[] #[.pointer (some ⟨q9, 0, none⟩)], .func (.func 78) #[] #[.pointer (some ⟨q10, 0, none⟩)], .func (.func 78) #[] #[.pointer (some ⟨q11, 0, none⟩)], .func (.func 77) #[] #[.pointer (some ⟨q12, 0, none⟩)], .func (.func 77) #[] #[.pointer (some ⟨q13, 0, none⟩)], .func (.func 77) #[] #[.pointer (some ⟨q14, 0, none⟩)], .func (.func 77) #[] #[.pointer (some ⟨q15, 0, none⟩)], .func (.func 77) #[] #[.pointer (some ⟨q16, 0, none⟩)], .func (.func 77) #[] #[.pointer (some ⟨q17, 0, none⟩)], .func (.func 74) #[] #[.pointer (some ⟨q18, 0, none⟩)], .func (.func 77) #[] #[.pointer (some ⟨q19, 0, none⟩)], .func (.func 77) #[] #[.pointer (some ⟨q20, 0, none⟩)], .func (.func 77) #[] #[.pointer (some ⟨q21, 0, none⟩)], .func (.func 80) #[] #[.pointer (some ⟨q22, 0, none⟩)], .func (.func 80) #[] #[.pointer (some ⟨q23, 0, none⟩)], .func (.func 80) #[] #[.pointer (some ⟨q24, 0, none⟩)], .func (.func 61) #[] #[], .func (.func 62) #[] #[], .func (.func 63) #[] #[]] : List Value).toArray) (results_row rfl _ _ w.heap.size 59 _ _ rfl HR5.out Tryd.underlying59 rfl size59) rfl ⟨_, rfl, ?_, HE.out⟩
  have hk : ∀ (q : Nat) (v : Value), w24.cell? ⟨q, 0, none⟩ = some v → q ≠ w.heap.size → w5.cell? ⟨q, 0, none⟩ = some v := fun q v h hne => HC5.out.cell (fun he => hne he) h
  have n4 : q4 ≠ w.heap.size := by
    intro e
    have h1 := HR.out.cell 0
    rw [← e, HD4.out.cell (not_no _) HQ4.out] at h1
    simp at h1
  have n7 : q7 ≠ w.heap.size := by
    intro e
    have h1 := HR.out.cell 0
    rw [← e, HD7.out.cell (not_no _) HQ7.out] at h1
    simp at h1
  have n8 : q8 ≠ w.heap.size := by
    intro e
    have h1 := HR.out.cell 0
    rw [← e, HD8.out.cell (not_no _) HQ8.out] at h1
    simp at h1
  have n9 : q9 ≠ w.heap.size := by
    intro e
    have h1 := HR.out.cell 0
    rw [← e, HD9.out.cell (not_no _) HQ9.out] at h1
    simp at h1
  have n10 : q10 ≠ w.heap.size := by
    intro e
    have h1 := HR.out.cell 0
    rw [← e, HD10.out.cell (not_no _) HQ10.out] at h1
    simp at h1
  have n11 : q11 ≠ w.heap.size := by
    intro e
    have h1 := HR.out.cell 0
    rw [← e, HD11.out.cell (not_no _) HQ11.out] at h1
    simp at h1
  have n12 : q12 ≠ w.heap.size := by
    intro e
    have h1 := HR.out.cell 0
    rw [← e, HD12.out.cell (not_no _) HQ12.out] at h1
    simp at h1
  have n13 : q13 ≠ w.heap.size := by
    intro e
    have h1 := HR.out.cell 0
    rw [← e, HD13.out.cell (not_no _) HQ13.out] at h1
    simp at h1
  have n14 : q14 ≠ w.heap.size := by
    intro e
    have h1 := HR.out.cell 0
    rw [← e, HD14.out.cell (not_no _) HQ14.out] at h1
    simp at h1
  have n15 : q15 ≠ w.heap.size := by
    intro e
    have h1 := HR.out.cell 0
    rw [← e, HD15.out.cell (not_no _) HQ15.out] at h1
    simp at h1
  have n16 : q16 ≠ w.heap.size := by
    intro e
    have h1 := HR.out.cell 0
    rw [← e, HD16.out.cell (not_no _) HQ16.out] at h1
    simp at h1
  have n17 : q17 ≠ w.heap.size := by
    intro e
    have h1 := HR.out.cell 0
    rw [← e, HD17.out.cell (not_no _) HQ17.out] at h1
    simp at h1
  have n18 : q18 ≠ w.heap.size := by
    intro e
    have h1 := HR.out.cell 0
    rw [← e, HD18.out.cell (not_no _) HQ18.out] at h1
    simp at h1
  have n19 : q19 ≠ w.heap.size := by
    intro e
    have h1 := HR.out.cell 0
    rw [← e, HD19.out.cell (not_no _) HQ19.out] at h1
    simp at h1
  have n20 : q20 ≠ w.heap.size := by
    intro e
    have h1 := HR.out.cell 0
    rw [← e, HD20.out.cell (not_no _) HQ20.out] at h1
    simp at h1
  have n21 : q21 ≠ w.heap.size := by
    intro e
    have h1 := HR.out.cell 0
    rw [← e, HD21.out.cell (not_no _) HQ21.out] at h1
    simp at h1
  have n22 : q22 ≠ w.heap.size := by
    intro e
    have h1 := HR.out.cell 0
    rw [← e, HD22.out.cell (not_no _) HQ22.out] at h1
    simp at h1
  have n23 : q23 ≠ w.heap.size := by
    intro e
    have h1 := HR.out.cell 0
    rw [← e, HD23.out.cell (not_no _) HQ23.out] at h1
    simp at h1
  have n24 : q24 ≠ w.heap.size := by
    intro e
    have h1 := HR.out.cell 0
    rw [← e, HD24.out.cell (not_no _) HQ24.out] at h1
    simp at h1
  exact ⟨rfl, rfl, rfl, rfl, ⟨q4, rfl, hk _ _ (HD4.out.cell (not_no _) HQ4.out) n4⟩, rfl, rfl, ⟨q7, rfl, hk _ _ (HD7.out.cell (not_no _) HQ7.out) n7⟩, ⟨q8, rfl, hk _ _ (HD8.out.cell (not_no _) HQ8.out) n8⟩, ⟨q9, rfl, hk _ _ (HD9.out.cell (not_no _) HQ9.out) n9⟩, ⟨q10, rfl, hk _ _ (HD10.out.cell (not_no _) HQ10.out) n10⟩, ⟨q11, rfl, hk _ _ (HD11.out.cell (not_no _) HQ11.out) n11⟩, ⟨q12, rfl, hk _ _ (HD12.out.cell (not_no _) HQ12.out) n12⟩, ⟨q13, rfl, hk _ _ (HD13.out.cell (not_no _) HQ13.out) n13⟩, ⟨q14, rfl, hk _ _ (HD14.out.cell (not_no _) HQ14.out) n14⟩, ⟨q15, rfl, hk _ _ (HD15.out.cell (not_no _) HQ15.out) n15⟩, ⟨q16, rfl, hk _ _ (HD16.out.cell (not_no _) HQ16.out) n16⟩, ⟨q17, rfl, hk _ _ (HD17.out.cell (not_no _) HQ17.out) n17⟩, ⟨q18, rfl, hk _ _ (HD18.out.cell (not_no _) HQ18.out) n18⟩, ⟨q19, rfl, hk _ _ (HD19.out.cell (not_no _) HQ19.out) n19⟩, ⟨q20, rfl, hk _ _ (HD20.out.cell (not_no _) HQ20.out) n20⟩, ⟨q21, rfl, hk _ _ (HD21.out.cell (not_no _) HQ21.out) n21⟩, ⟨q22, rfl, hk _ _ (HD22.out.cell (not_no _) HQ22.out) n22⟩, ⟨q23, rfl, hk _ _ (HD23.out.cell (not_no _) HQ23.out) n23⟩, ⟨q24, rfl, hk _ _ (HD24.out.cell (not_no _) HQ24.out) n24⟩, rfl, rfl, rfl⟩
end Go.Proofs.YtellmlffkgfeiaaDoor
