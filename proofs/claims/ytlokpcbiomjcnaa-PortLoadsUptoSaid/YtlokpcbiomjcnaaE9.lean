/- Push: each branch by itself. -/
import Derived.Test.YtlokpcbiomjcnaaE8
set_option linter.unusedVariables false
set_option linter.unusedSimpArgs false
namespace Go.Proofs.Ytlokpcbiomjcnaa
open Go.RowKit
theorem size31 : (Try.prog.info? 31).map (·.size) = some 1 := by kernel_rfl
/-- one cell is written, at an operation of a drawn region -/
theorem wp_store_cell {o : Oper} {a : Act} {w : World} {K : Act → World → Prop} {Q : Exit → Act → World → Prop} (ty : TypeId) (x y : Operand) (ho : o.op = .store ty x y)
    (g off : Nat) (v : Value) (hx : a.eval x = .pointer (some ⟨g, off, none⟩)) (hy : a.eval y = v) (h1 : v.oneCell' = true) (hi : (Try.prog.info? ty).map (·.size) = some 1)
    (hc : (w.cell? ⟨g, off, none⟩).isSome = true) (hf : w.frozen? ⟨g, off, none⟩ = false)
    (h : K (a.put o.dst undef) (w.setCell ⟨g, off, none⟩ v)) : o.wp Try.prog a w K Q := by
  have hcs : v.cells = #[v] := by cases v <;> first | rfl | cases h1
  have hst := run_storeCells_cells (P := Try.prog) g off [v] 0 w (fun j hj => by
    obtain rfl : j = 0 := by simpa using hj
    simpa using hc) (fun j hj => by
    obtain rfl : j = 0 := by simpa using hj
    simpa using hf) (fun u hu => by
    obtain rfl : u = v := by simpa using hu
    exact h1)
  simp only [Nat.add_zero] at hst
  obtain ⟨i, hq, hs⟩ := Option.map_eq_some_iff.1 hi
  have hsv : (storeVar ty ⟨g, off, none⟩ v).run Try.prog w = .ok () (w.setCell ⟨g, off, none⟩ v) := by
    simp [storeVar, sizeOf, typeInfo, hq, hcs, hs, hst]
    rfl
  unfold Oper.wp execOp
  simp only [ho, hx, hy, Instr.storeAt, Instr.sureAddr, Sem.run_bind, Sem.run_pure, Result.andThen_ok, hsv]
  exact h
theorem wpAnyH_norm {P : Program} {md : Region.Mode} {ops : Array Oper} {Q : Exit → Act → World → Prop} {S : World → Prop} {fuel : Nat} {listed : Array Bool} {a : Act} {w : World} (fuel' : Nat) (listed' : Array Bool) (hl : listed = listed') (hf : fuel = fuel')
    (h : wpAnyH P md ops Q S fuel' listed' a w) : wpAnyH P md ops Q S fuel listed a w := by
  subst hl hf
  exact h
theorem wp_value_to {o : Oper} {a : Act} {w w' : World} {K : Act → World → Prop} {Q : Exit → Act → World → Prop} (v : Value) (hv : (execOp a.eval o).run Try.prog w = .ok (.value v) w') (h : K (a.put o.dst v) w') : o.wp Try.prog a w K Q := by
  unfold Oper.wp
  rw [hv]
  exact h
/-- what Push leaves -/
def PushP (w : World) (E : Nat) (p : Pt) (vq : Value) (has : Bool) (tick : Int) (vd : Value) (lost : Int) (xs : List Int) (ms : List Value) (w' : World) : Prop := ∃ w1 w2 w3 m vq',
      Ch No w w1 ∧ w2.ownsRow w.heap.size 2 1 m (ints xs).length (ints xs) ∧ Ch No w1 w2 ∧ Qa w2 w3 vq vq' ms m ∧ Row w' E 95 (ecells p vq' has tick vd lost) ∧ Ch (Is E) w3 w'
theorem qv_slice {w : World} {v : Value} {ms : List Value} (h : Qv w v ms) : ∃ A k c, v = .slice A k c := by
  obtain ⟨A, c, rfl, _⟩ := h
  exact ⟨_, _, _, rfl⟩
theorem push_port {w : World} {G : Nat} (i : Int) (v : Value) (h : Calls Try.prog 37 #[.pointer (some ⟨G, 0, none⟩), .int .i64 i] w fun e w' => e = .returned (.tuple #[.pointer none, .int .i64 107]) ∧ Ch No w w') :
    Calls Try.prog 18 #[.pointer (some ⟨G, 0, none⟩), .int .i64 i, v] w fun e w' => e = .returned (.tuple #[.bool false, .int .i64 107]) ∧ Ch No w w' := by
  have H := Lib.hid h
  clear h
  go_enter Try.func18, Try.ntmps18
  go_wp2_with (fail)
  refine H.out.mono ?_
  rintro e w1 ⟨rfl, hc1⟩
  have HC1 := Lib.hid hc1
  clear hc1
  go_wp2_with (fail)
  exact bodyPost_ret (v := .tuple #[.bool false, .int .i64 107]) (by kernel_rfl) rfl ⟨rfl, HC1.out⟩
set_option maxRecDepth 100000 in
theorem push_arg {w : World} {G M n E : Nat} {f : Int → Option Nat} {m : Int} (hG : Row w G 92 [.map (some M), .int .i64 m]) (hM : PM w M n f) (i : Int) (hi : (Lit.int .i64 i).wf = true) (hf : f i = some E) {p : Pt} {vq vd : Value} {has : Bool} {tick lost : Int} (hE : Row w E 95 (ecells p vq has tick vd lost)) (hp : p.kind = 1)
    (A : Option Addr) (l c : Nat) (hl : l ≤ 9223372036854775807) (hne : ¬ (l : Int) = p.size) :
    Calls Try.prog 18 #[.pointer (some ⟨G, 0, none⟩), .int .i64 i, .slice A l c] w fun e w' => e = .returned (.tuple #[.bool false, .int .i64 2]) ∧ Ch No w w' := by
  have H := Lib.hid (queue_own hG hM i hi hf hE hp)
  have HF := Lib.hid (end_facts hG hM i hi hf hE)
  have hne : ((l : Int) != p.size) = true := by simp [hne]
  generalize p.size = s at HF hne
  clear hG hM hf hi hE hp
  go_enter Try.func18, Try.ntmps18
  go_wp2_with (fail)
  refine H.out.mono ?_
  rintro e w1 ⟨rfl, hc1⟩
  obtain ⟨c1, c2, c3, -, -, -, -, -, -, -⟩ := HF.out _ hc1
  have HC1 := Lib.hid hc1
  clear hc1
  go_wp2_with (fail)
  exact bodyPost_ret (v := .tuple #[.bool false, .int .i64 2]) (by kernel_rfl) rfl ⟨rfl, HC1.out⟩
set_option maxRecDepth 100000 in
theorem push_full {w : World} {G M n E : Nat} {f : Int → Option Nat} {m : Int} (hG : Row w G 92 [.map (some M), .int .i64 m]) (hM : PM w M n f) (i : Int) (hi : (Lit.int .i64 i).wf = true) (hf : f i = some E) {p : Pt} {Aq : Option Addr} {k cq : Nat} {vd : Value} {has : Bool} {tick lost : Int} (hE : Row w E 95 (ecells p (.slice Aq k cq) has tick vd lost)) (hp : p.kind = 1)
    (A : Option Addr) (l c : Nat) (hl : l ≤ 9223372036854775807) (hne : (l : Int) = p.size) (hfull : p.depth ≤ (k : Int)) :
    Calls Try.prog 18 #[.pointer (some ⟨G, 0, none⟩), .int .i64 i, .slice A l c] w fun e w' => e = .returned (.tuple #[.bool false, .int .i64 0]) ∧ Ch No w w' := by
  have H := Lib.hid (queue_own hG hM i hi hf hE hp)
  have HF := Lib.hid (end_facts hG hM i hi hf hE)
  have hne : ((l : Int) != p.size) = false := by simp [hne]
  generalize p.size = s at HF hne
  generalize p.depth = d at HF hfull
  have dl := decide_eq_true hfull
  clear hG hM hf hi hE hp
  go_enter Try.func18, Try.ntmps18
  go_wp2_with (fail)
  refine H.out.mono ?_
  rintro e w1 ⟨rfl, hc1⟩
  obtain ⟨c1, c2, c3, c4, -, c6, -, -, -, -⟩ := HF.out _ hc1
  have HC1 := Lib.hid hc1
  clear hc1
  go_wp2_with (fail)
  go_quiet (fail)
  go_wp2_with (fail)
  exact bodyPost_ret (v := .tuple #[.bool false, .int .i64 0]) (by kernel_rfl) rfl ⟨rfl, HC1.out.then_ (Dr.step _ _).ch⟩
set_option maxRecDepth 100000 in
set_option maxHeartbeats 2000000 in
theorem push_ok {w : World} {G M n E : Nat} {f : Int → Option Nat} {m : Int} (hG : Row w G 92 [.map (some M), .int .i64 m]) (hM : PM w M n f) (i : Int) (hi : (Lit.int .i64 i).wf = true) (hf : f i = some E) {p : Pt} {Aq : Option Addr} {k cq : Nat} {vd : Value} {has : Bool} {tick lost : Int} (hE : Row w E 95 (ecells p (.slice Aq k cq) has tick vd lost)) (hp : p.kind = 1)
    {v : Value} {xs : List Int} (hv : Sl w v xs) (hxl : xs.length ≤ 10000000) (hsz : (xs.length : Int) = p.size) (hroom : (k : Int) < p.depth) {ms : List Value} (hq : Qv w (.slice Aq k cq) ms) (hms : ms.length < 10000000) :
    Calls Try.prog 18 #[.pointer (some ⟨G, 0, none⟩), .int .i64 i, v] w fun e w' => e = .returned (.tuple #[.bool true, .int .i64 0]) ∧ PushP w E p (.slice Aq k cq) has tick vd lost xs ms w' := by
  obtain ⟨A, c, rfl, hA, hl⟩ := hv
  have H := Lib.hid (queue_own hG hM i hi hf hE hp)
  have HF := Lib.hid (end_facts hG hM i hi hf hE)
  have hne : ((xs.length : Int) != p.size) = false := by simp [hsz]
  have H3 := Lib.hid (fun (w' : World) (h : Ch No w w') => clone_36 A xs c hxl w' (hA.keepNo h))
  have HQ := Lib.hid hq
  have HE := Lib.hid hE
  clear hsz
  generalize hd : p.depth = d at HF hroom
  generalize p.size = s at HF hne
  obtain ⟨l0, hl0⟩ : ∃ l, xs.length = l := ⟨_, rfl⟩
  rw [hl0] at hne hl H3 ⊢
  have HXL := Lib.hid hl0
  have dl : decide (d ≤ (k : Int)) = false := by simp; omega
  have HMS := Lib.hid hms
  have HVQ : Hid (∀ wr : World, Ch No w wr → wr.cell? ⟨E, 6, none⟩ = some (.slice Aq k cq)) := fun wr h => by
    rw [(hE.keepNo h).cell]
    rfl
  have HNE : Hid (∀ wr : World, Ch No w wr → ¬ qblk (.slice Aq k cq) = some E) := fun wr h he => by
    obtain ⟨L, hL⟩ := hq.row he
    have := (hL.eq_ hE).1
    exact absurd this (by decide)
  have HSOME : Hid (∀ (wr : World) (z : Value), Row wr E 95 (ecells p (.slice Aq k cq) has tick vd lost) → (wr.cell? ⟨E, 6, none⟩).isSome = true) := fun wr z h => by
    rw [h.cell]
    rfl
  have HEND : Hid (∀ (w2 w4 w5 : World) (m v5 : Value) (w3 : World), Ch No w w2 → w3.ownsRow w2.heap.size 2 1 m (ints xs).length (ints xs) → Ch No w2 w4 → Ch No w3 w4 → Qa w4 w5 (.slice Aq k cq) v5 ms m → Row w5 E 95 (ecells p (.slice Aq k cq) has tick vd lost) →
      PushP w E p (.slice Aq k cq) has tick vd lost xs ms (w5.setCell ⟨E, 6, none⟩ v5)) :=
    fun w2 w4 w5 m v5 w3 h1 h2 h3 h4 h5 h6 => by
      refine ⟨w2, w4, w5, m, v5, h1, own_low (owns_keepNo h2 h4) h1.size, h3, h5, ?_, Ch.setCell (D := Is E) (p := ⟨E, 6, none⟩) (Ch.refl _ _) (fun _ => rfl) _⟩
      have := h6.set_ 6 v5
      simpa [ecells] using this
  clear hG hM hf hi hE hp hA hxl hl0 hq hd hms
  go_enter Try.func18, Try.ntmps18
  go_wp2_with (fail)
  refine H.out.mono ?_
  rintro e w1 ⟨rfl, hc1⟩
  obtain ⟨c1, c2, c3, c4, -, c6, -, -, -, -⟩ := HF.out _ hc1
  have HC1 := Lib.hid hc1
  clear hc1
  go_wp2_with (fail)
  go_quiet (fail)
  go_wp2_with (fail)
  have HE1 := Lib.hid (HE.out.keepNo HC1.out)
  have HQ1 := Lib.hid (HQ.out.keepNo HC1.out)
  refine wp_region_held (S := fun _ => True) (by kernel_rfl) ?_
  have HS0 : Hid ((fun _ : World => True) w1) := trivial
  change wpAnyH _ _ _ _ _ _ _ _ (w1.drewN nq).drew
  generalize hw2 : (w1.drewN nq).drew = w2
  have HC2 : Hid (Ch No w w2) := by
    rw [← hw2]
    exact (HC1.out.drewN nq).drew
  clear hw2 c1 c2 c3 c4 c6
  refine wpAnyH_take (i := 0) (oi := ⟨some 42, _, _, _, _, _⟩) (v := .pointer (some ⟨E, 0, none⟩)) rfl (by kernel_rfl) (by kernel_rfl) (by kernel_rfl) (fun _ _ _ h => h) (Or.inl ⟨by rfl, fun _ _ => by kernel_rfl⟩) HS0.out ?_
  simp only [Act.put, List.setIfInBounds_toArray, List.set_cons_zero, List.set_cons_succ]
  refine wpAnyH_take (i := 1) (oi := ⟨some 43, _, _, _, _, _⟩) (v := .pointer (some ⟨E, 0, none⟩)) rfl (by kernel_rfl) (by kernel_rfl) (by kernel_rfl) (fun _ _ _ h => h) (Or.inl ⟨by rfl, fun _ _ => by kernel_rfl⟩) HS0.out ?_
  simp only [Act.put, List.setIfInBounds_toArray, List.set_cons_zero, List.set_cons_succ]
  refine wpAnyH_take (i := 2) (oi := ⟨some 44, _, _, _, _, _⟩) (v := .pointer (some ⟨E, 0, none⟩)) rfl (by kernel_rfl) (by kernel_rfl) (by kernel_rfl) (fun _ _ _ h => h) (Or.inl ⟨by rfl, fun _ _ => by kernel_rfl⟩) HS0.out ?_
  simp only [Act.put, List.setIfInBounds_toArray, List.set_cons_zero, List.set_cons_succ]
  refine wpAnyH_take (i := 3) (oi := ⟨some 45, _, _, _, _, _⟩) (v := .pointer (some ⟨E, 6, none⟩)) rfl (by kernel_rfl) (by kernel_rfl) (by kernel_rfl) (fun _ _ _ h => h) (Or.inl ⟨by rfl, fun _ _ => by kernel_rfl⟩) HS0.out ?_
  simp only [Act.put, List.setIfInBounds_toArray, List.set_cons_zero, List.set_cons_succ]
  refine wpAnyH_take (i := 4) (oi := ⟨some 46, _, _, _, _, _⟩) (v := .pointer (some ⟨E, 6, none⟩)) rfl (by kernel_rfl) (by kernel_rfl) (by kernel_rfl) (fun _ _ _ h => h) (Or.inl ⟨by rfl, fun _ _ => by kernel_rfl⟩) HS0.out ?_
  simp only [Act.put, List.setIfInBounds_toArray, List.set_cons_zero, List.set_cons_succ]
  refine wpAnyH_take (i := 6) (oi := ⟨some 48, _, _, _, _, _⟩) (v := .slice A l0 c) rfl (by kernel_rfl) (by kernel_rfl) (by kernel_rfl) (fun _ _ _ h => h) (Or.inl ⟨by rfl, fun _ _ => by kernel_rfl⟩) HS0.out ?_
  simp only [Act.put, List.setIfInBounds_toArray, List.set_cons_zero, List.set_cons_succ]
  refine wpAnyH_norm 8 #[true, true, true, true, true, false, true, false, false, false, false, false, false, false] (by kernel_rfl) (by kernel_rfl) ?_
  refine wpAnyH_two (i := 5) (j := 7) (oi := ⟨some 47, _, _, _, _, _⟩) (oj := ⟨some 49, _, _, _, _, _⟩) (by kernel_rfl) rfl rfl (by rfl) (by rfl) ?_ ?_
  · refine wp_value (.slice Aq k cq) (exec_load_cell 31 (.tmp 46) rfl ⟨E, 6, none⟩ rfl _ Try.underlying31 rfl _ (HVQ.out _ HC2.out)) ?_
    refine And.intro trivial ?_
    simp only [Act.put, List.setIfInBounds_toArray, List.set_cons_zero, List.set_cons_succ]
    refine wpAnyH_norm 7 #[true, true, true, true, true, true, true, false, false, false, false, false, false, false] (by kernel_rfl) (by kernel_rfl) ?_
    refine wpAnyH_one (i := 7) (o := ⟨some 49, _, _, _, _, _⟩) (by kernel_rfl) rfl (by rfl) ?_
    refine wp_call 36 #[.slice A l0 c] (by kernel_rfl) ((H3.out _ HC2.out).mono ?_)
    rintro e w3 ⟨v3, rfl, ho, hc3⟩
    have HO := Lib.hid ho
    have HC3 := Lib.hid hc3
    have HC23 := Lib.hid (HC2.out.then_ hc3)
    obtain ⟨A3, k3, q3, rfl⟩ := own_slice ho
    clear ho hc3
    refine ⟨_, rfl, trivial, ?_⟩
    simp only [Act.put, List.setIfInBounds_toArray, List.set_cons_zero, List.set_cons_succ]
    refine wpAnyH_norm 6 #[true, true, true, true, true, true, true, true, false, false, false, false, false, false] (by kernel_rfl) (by kernel_rfl) ?_
    refine wpAnyH_one (i := 8) (o := ⟨some 50, _, _, _, _, _⟩) (by kernel_rfl) rfl (by rfl) ?_
    obtain ⟨w4, hw4⟩ : ∃ w4, w4 = w3.alloc (.cells #[.slice A3 k3 q3] 32) := ⟨_, rfl⟩
    have HR4 : Hid (Row w4 w3.heap.size 32 [.slice A3 k3 q3]) := by
      rw [hw4]
      exact Row.new w3 32 _
    have HC4 : Hid (Ch No w3 w4) := by
      rw [hw4]
      exact (Ch.refl _ _).alloc _
    have HC24 := Lib.hid (HC23.out.then_ HC4.out)
    refine wp_value_to (w' := w4) (.slice (some ⟨w3.heap.size, 0, none⟩) 1 1) (by rw [hw4]; kernel_rfl) ?_
    clear hw4
    refine And.intro trivial ?_
    simp only [Act.put, List.setIfInBounds_toArray, List.set_cons_zero, List.set_cons_succ]
    refine wpAnyH_norm 5 #[true, true, true, true, true, true, true, true, true, false, false, false, false, false] (by kernel_rfl) (by kernel_rfl) ?_
    refine wpAnyH_one (i := 9) (o := ⟨some 51, _, _, _, _, _⟩) (by kernel_rfl) rfl (by rfl) ?_
    obtain ⟨v5, w5, hrun, hqa⟩ := qappend (HQ.out.keepNo HC24.out) 31 HR4.out rfl HMS.out
    have HQA := Lib.hid hqa
    have HRUN := Lib.hid hrun
    obtain ⟨A5, k5, q5, rfl⟩ := qv_slice hqa.q
    have HE5 := Lib.hid ((HE.out.keepNo HC24.out).keep hqa.ch (HNE.out _ HC24.out))
    clear hrun hqa
    refine Lib.wp_append_run w4 (.tmp 47) (.tmp 50) 31 31 rfl _ _ rfl rfl _ w5 HRUN.out ?_
    refine And.intro trivial ?_
    simp only [Act.put, List.setIfInBounds_toArray, List.set_cons_zero, List.set_cons_succ]
    refine wpAnyH_take (i := 10) (oi := ⟨some 52, _, _, _, _, _⟩) (v := .pointer (some ⟨E, 0, none⟩)) rfl (by kernel_rfl) (by kernel_rfl) (by kernel_rfl) (fun _ _ _ h => h) (Or.inl ⟨by rfl, fun _ _ => by kernel_rfl⟩) trivial ?_
    simp only [Act.put, List.setIfInBounds_toArray, List.set_cons_zero, List.set_cons_succ]
    refine wpAnyH_take (i := 11) (oi := ⟨some 53, _, _, _, _, _⟩) (v := .pointer (some ⟨E, 6, none⟩)) rfl (by kernel_rfl) (by kernel_rfl) (by kernel_rfl) (fun _ _ _ h => h) (Or.inl ⟨by rfl, fun _ _ => by kernel_rfl⟩) trivial ?_
    simp only [Act.put, List.setIfInBounds_toArray, List.set_cons_zero, List.set_cons_succ]
    refine wpAnyH_take (i := 12) (oi := ⟨some 54, _, _, _, _, _⟩) (v := .pointer (some ⟨E, 6, none⟩)) rfl (by kernel_rfl) (by kernel_rfl) (by kernel_rfl) (fun _ _ _ h => h) (Or.inl ⟨by rfl, fun _ _ => by kernel_rfl⟩) trivial ?_
    simp only [Act.put, List.setIfInBounds_toArray, List.set_cons_zero, List.set_cons_succ]
    refine wpAnyH_one (i := 13) (o := ⟨none, _, _, _, _, _⟩) (by kernel_rfl) rfl (by rfl) ?_
    refine wp_store_cell 31 (.tmp 54) (.tmp 51) rfl E 6 (.slice A5 k5 q5) rfl rfl rfl size31 (HSOME.out _ undef HE5.out) (HE5.out.frozen _) ?_
    refine And.intro trivial ?_
    simp only [Act.put, List.setIfInBounds_toArray, List.set_cons_zero, List.set_cons_succ]
    refine wpAnyH_done (by kernel_rfl) ?_ _
    go_wp2_with (fail)
    exact bodyPost_ret (v := .tuple #[.bool true, .int .i64 0]) (by kernel_rfl) rfl ⟨rfl, HEND.out _ _ _ _ _ _ HC2.out HO.out (HC3.out.then_ HC4.out) HC4.out HQA.out HE5.out⟩
  · refine wp_call 36 #[.slice A l0 c] (by kernel_rfl) ((H3.out _ HC2.out).mono ?_)
    rintro e w3 ⟨v3, rfl, ho, hc3⟩
    have HO := Lib.hid ho
    have HC3 := Lib.hid hc3
    have HC23 := Lib.hid (HC2.out.then_ hc3)
    obtain ⟨A3, k3, q3, rfl⟩ := own_slice ho
    clear ho hc3
    refine ⟨_, rfl, trivial, ?_⟩
    simp only [Act.put, List.setIfInBounds_toArray, List.set_cons_zero, List.set_cons_succ]
    refine wpAnyH_norm 7 #[true, true, true, true, true, false, true, true, false, false, false, false, false, false] (by kernel_rfl) (by kernel_rfl) ?_
    refine wpAnyH_two (i := 5) (j := 8) (oi := ⟨some 47, _, _, _, _, _⟩) (oj := ⟨some 50, _, _, _, _, _⟩) (by kernel_rfl) rfl rfl (by rfl) (by rfl) ?_ ?_
    · refine wp_value (.slice Aq k cq) (exec_load_cell 31 (.tmp 46) rfl ⟨E, 6, none⟩ rfl _ Try.underlying31 rfl _ (HVQ.out _ HC23.out)) ?_
      refine And.intro trivial ?_
      simp only [Act.put, List.setIfInBounds_toArray, List.set_cons_zero, List.set_cons_succ]
      refine wpAnyH_norm 6 #[true, true, true, true, true, true, true, true, false, false, false, false, false, false] (by kernel_rfl) (by kernel_rfl) ?_
      refine wpAnyH_one (i := 8) (o := ⟨some 50, _, _, _, _, _⟩) (by kernel_rfl) rfl (by rfl) ?_
      obtain ⟨w4, hw4⟩ : ∃ w4, w4 = w3.alloc (.cells #[.slice A3 k3 q3] 32) := ⟨_, rfl⟩
      have HR4 : Hid (Row w4 w3.heap.size 32 [.slice A3 k3 q3]) := by
        rw [hw4]
        exact Row.new w3 32 _
      have HC4 : Hid (Ch No w3 w4) := by
        rw [hw4]
        exact (Ch.refl _ _).alloc _
      have HC24 := Lib.hid (HC23.out.then_ HC4.out)
      refine wp_value_to (w' := w4) (.slice (some ⟨w3.heap.size, 0, none⟩) 1 1) (by rw [hw4]; kernel_rfl) ?_
      clear hw4
      refine And.intro trivial ?_
      simp only [Act.put, List.setIfInBounds_toArray, List.set_cons_zero, List.set_cons_succ]
      refine wpAnyH_norm 5 #[true, true, true, true, true, true, true, true, true, false, false, false, false, false] (by kernel_rfl) (by kernel_rfl) ?_
      refine wpAnyH_one (i := 9) (o := ⟨some 51, _, _, _, _, _⟩) (by kernel_rfl) rfl (by rfl) ?_
      obtain ⟨v5, w5, hrun, hqa⟩ := qappend (HQ.out.keepNo HC24.out) 31 HR4.out rfl HMS.out
      have HQA := Lib.hid hqa
      have HRUN := Lib.hid hrun
      obtain ⟨A5, k5, q5, rfl⟩ := qv_slice hqa.q
      have HE5 := Lib.hid ((HE.out.keepNo HC24.out).keep hqa.ch (HNE.out _ HC24.out))
      clear hrun hqa
      refine Lib.wp_append_run w4 (.tmp 47) (.tmp 50) 31 31 rfl _ _ rfl rfl _ w5 HRUN.out ?_
      refine And.intro trivial ?_
      simp only [Act.put, List.setIfInBounds_toArray, List.set_cons_zero, List.set_cons_succ]
      refine wpAnyH_take (i := 10) (oi := ⟨some 52, _, _, _, _, _⟩) (v := .pointer (some ⟨E, 0, none⟩)) rfl (by kernel_rfl) (by kernel_rfl) (by kernel_rfl) (fun _ _ _ h => h) (Or.inl ⟨by rfl, fun _ _ => by kernel_rfl⟩) trivial ?_
      simp only [Act.put, List.setIfInBounds_toArray, List.set_cons_zero, List.set_cons_succ]
      refine wpAnyH_take (i := 11) (oi := ⟨some 53, _, _, _, _, _⟩) (v := .pointer (some ⟨E, 6, none⟩)) rfl (by kernel_rfl) (by kernel_rfl) (by kernel_rfl) (fun _ _ _ h => h) (Or.inl ⟨by rfl, fun _ _ => by kernel_rfl⟩) trivial ?_
      simp only [Act.put, List.setIfInBounds_toArray, List.set_cons_zero, List.set_cons_succ]
      refine wpAnyH_take (i := 12) (oi := ⟨some 54, _, _, _, _, _⟩) (v := .pointer (some ⟨E, 6, none⟩)) rfl (by kernel_rfl) (by kernel_rfl) (by kernel_rfl) (fun _ _ _ h => h) (Or.inl ⟨by rfl, fun _ _ => by kernel_rfl⟩) trivial ?_
      simp only [Act.put, List.setIfInBounds_toArray, List.set_cons_zero, List.set_cons_succ]
      refine wpAnyH_one (i := 13) (o := ⟨none, _, _, _, _, _⟩) (by kernel_rfl) rfl (by rfl) ?_
      refine wp_store_cell 31 (.tmp 54) (.tmp 51) rfl E 6 (.slice A5 k5 q5) rfl rfl rfl size31 (HSOME.out _ undef HE5.out) (HE5.out.frozen _) ?_
      refine And.intro trivial ?_
      simp only [Act.put, List.setIfInBounds_toArray, List.set_cons_zero, List.set_cons_succ]
      refine wpAnyH_done (by kernel_rfl) ?_ _
      go_wp2_with (fail)
      exact bodyPost_ret (v := .tuple #[.bool true, .int .i64 0]) (by kernel_rfl) rfl ⟨rfl, HEND.out _ _ _ _ _ _ HC2.out HO.out (HC3.out.then_ HC4.out) HC4.out HQA.out HE5.out⟩
    · obtain ⟨w4, hw4⟩ : ∃ w4, w4 = w3.alloc (.cells #[.slice A3 k3 q3] 32) := ⟨_, rfl⟩
      have HR4 : Hid (Row w4 w3.heap.size 32 [.slice A3 k3 q3]) := by
        rw [hw4]
        exact Row.new w3 32 _
      have HC4 : Hid (Ch No w3 w4) := by
        rw [hw4]
        exact (Ch.refl _ _).alloc _
      have HC24 := Lib.hid (HC23.out.then_ HC4.out)
      refine wp_value_to (w' := w4) (.slice (some ⟨w3.heap.size, 0, none⟩) 1 1) (by rw [hw4]; kernel_rfl) ?_
      clear hw4
      refine And.intro trivial ?_
      simp only [Act.put, List.setIfInBounds_toArray, List.set_cons_zero, List.set_cons_succ]
      refine wpAnyH_norm 6 #[true, true, true, true, true, false, true, true, true, false, false, false, false, false] (by kernel_rfl) (by kernel_rfl) ?_
      refine wpAnyH_one (i := 5) (o := ⟨some 47, _, _, _, _, _⟩) (by kernel_rfl) rfl (by rfl) ?_
      refine wp_value (.slice Aq k cq) (exec_load_cell 31 (.tmp 46) rfl ⟨E, 6, none⟩ rfl _ Try.underlying31 rfl _ (HVQ.out _ HC24.out)) ?_
      refine And.intro trivial ?_
      simp only [Act.put, List.setIfInBounds_toArray, List.set_cons_zero, List.set_cons_succ]
      refine wpAnyH_norm 5 #[true, true, true, true, true, true, true, true, true, false, false, false, false, false] (by kernel_rfl) (by kernel_rfl) ?_
      refine wpAnyH_one (i := 9) (o := ⟨some 51, _, _, _, _, _⟩) (by kernel_rfl) rfl (by rfl) ?_
      obtain ⟨v5, w5, hrun, hqa⟩ := qappend (HQ.out.keepNo HC24.out) 31 HR4.out rfl HMS.out
      have HQA := Lib.hid hqa
      have HRUN := Lib.hid hrun
      obtain ⟨A5, k5, q5, rfl⟩ := qv_slice hqa.q
      have HE5 := Lib.hid ((HE.out.keepNo HC24.out).keep hqa.ch (HNE.out _ HC24.out))
      clear hrun hqa
      refine Lib.wp_append_run w4 (.tmp 47) (.tmp 50) 31 31 rfl _ _ rfl rfl _ w5 HRUN.out ?_
      refine And.intro trivial ?_
      simp only [Act.put, List.setIfInBounds_toArray, List.set_cons_zero, List.set_cons_succ]
      refine wpAnyH_take (i := 10) (oi := ⟨some 52, _, _, _, _, _⟩) (v := .pointer (some ⟨E, 0, none⟩)) rfl (by kernel_rfl) (by kernel_rfl) (by kernel_rfl) (fun _ _ _ h => h) (Or.inl ⟨by rfl, fun _ _ => by kernel_rfl⟩) trivial ?_
      simp only [Act.put, List.setIfInBounds_toArray, List.set_cons_zero, List.set_cons_succ]
      refine wpAnyH_take (i := 11) (oi := ⟨some 53, _, _, _, _, _⟩) (v := .pointer (some ⟨E, 6, none⟩)) rfl (by kernel_rfl) (by kernel_rfl) (by kernel_rfl) (fun _ _ _ h => h) (Or.inl ⟨by rfl, fun _ _ => by kernel_rfl⟩) trivial ?_
      simp only [Act.put, List.setIfInBounds_toArray, List.set_cons_zero, List.set_cons_succ]
      refine wpAnyH_take (i := 12) (oi := ⟨some 54, _, _, _, _, _⟩) (v := .pointer (some ⟨E, 6, none⟩)) rfl (by kernel_rfl) (by kernel_rfl) (by kernel_rfl) (fun _ _ _ h => h) (Or.inl ⟨by rfl, fun _ _ => by kernel_rfl⟩) trivial ?_
      simp only [Act.put, List.setIfInBounds_toArray, List.set_cons_zero, List.set_cons_succ]
      refine wpAnyH_one (i := 13) (o := ⟨none, _, _, _, _, _⟩) (by kernel_rfl) rfl (by rfl) ?_
      refine wp_store_cell 31 (.tmp 54) (.tmp 51) rfl E 6 (.slice A5 k5 q5) rfl rfl rfl size31 (HSOME.out _ undef HE5.out) (HE5.out.frozen _) ?_
      refine And.intro trivial ?_
      simp only [Act.put, List.setIfInBounds_toArray, List.set_cons_zero, List.set_cons_succ]
      refine wpAnyH_done (by kernel_rfl) ?_ _
      go_wp2_with (fail)
      exact bodyPost_ret (v := .tuple #[.bool true, .int .i64 0]) (by kernel_rfl) rfl ⟨rfl, HEND.out _ _ _ _ _ _ HC2.out HO.out (HC3.out.then_ HC4.out) HC4.out HQA.out HE5.out⟩
end Go.Proofs.Ytlokpcbiomjcnaa
