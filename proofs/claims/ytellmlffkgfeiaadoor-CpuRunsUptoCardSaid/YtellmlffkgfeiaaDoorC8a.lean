/- cpu.Step within the code. -/
import Derived.Test.YtellmlffkgfeiaaDoorC7
import Derived.OrdersHeld
set_option linter.unusedVariables false
set_option linter.unusedSimpArgs false
namespace Go.Proofs.YtellmlffkgfeiaaDoor
open Go.RowKit
/-- an instruction -/
structure Ins where
  op : Nat
  a : Nat
  b : Nat
  c : Nat
  n : Int
def Ins.ok (x : Ins) : Prop := x.op < 256 ∧ x.a < 256 ∧ x.b < 256 ∧ x.c < 256 ∧ -2147483648 ≤ x.n ∧ x.n ≤ 2147483647
def Ins.cells (x : Ins) : List Value := insCells x.op x.a x.b x.c x.n
def codeCells (cs : List Ins) : List Value := cs.flatMap Ins.cells
def Ins.legal (x : Ins) : Bool := Go.Proofs.YtellmlffkgfeiaaDoor.legal x.op x.a x.b x.c x.n
/-- the effect of the instruction at a place, in the code or not -/
def insF (x : Ins) (len : Nat) (xs : List Int) (fixed : Int) (r : Nat → Int) (pc : Int) : Eff :=
  if x.legal = true then doF x.op x.a x.b x.c x.n len xs (fix fixed xs.length) (eff0 r (pc + 1) 0) else eff0 r (pc + 1) 1
theorem codeCells_get : ∀ (cs : List Ins) (k j : Nat) (x : Ins), cs[k]? = some x → j < 5 → (codeCells cs)[k * 5 + j]? = x.cells[j]?
  | [], k, j, x, h, _ => by simp at h
  | y :: cs, 0, j, x, h, hj => by
    simp at h
    subst h
    simp only [codeCells, List.flatMap_cons, Nat.zero_mul, Nat.zero_add]
    rw [List.getElem?_append_left (by show j < 5; exact hj)]
  | y :: cs, k + 1, j, x, h, hj => by
    have := codeCells_get cs k j x (by simpa using h) hj
    simp only [codeCells, List.flatMap_cons] at this ⊢
    rw [List.getElem?_append_right (by show 5 ≤ _; omega), ← this]
    congr 1
    show (k + 1) * 5 + j - 5 = _
    omega
/-- the one operation that may come up -/
theorem wpAnyH_one {P : Program} {md : Region.Mode} {ops : Array Oper} {Q : Exit → Act → World → Prop} {S : World → Prop} {i fuel : Nat} {o : Oper} {listed : Array Bool} {a : Act} {w : World} (hr : Region.ready md ops listed = [i]) (hi : ops[i]? = some o) (hw : Region.wanted o (yielded ops a.tmps) = true)
    (h : o.wp P a w (fun a' w' => S w' ∧ wpAnyH P md ops Q S fuel (listed.setIfInBounds i true) a' w') Q) : wpAnyH P md ops Q S (fuel + 1) listed a w :=
  wpAnyH_all hr (by simp) fun j hj => by
    obtain rfl : j = i := by simpa using hj
    unfold wpOp
    simp only [hi]
    rw [if_pos hw]
    exact .inl h
theorem wp_value {P : Program} {o : Oper} {a : Act} {w : World} {K : Act → World → Prop} {Q : Exit → Act → World → Prop} (v : Value) (hv : (execOp a.eval o).run P w = .ok (.value v) w) (h : K (a.put o.dst v) w) : o.wp P a w K Q := by
  unfold Oper.wp
  rw [hv]
  exact h
theorem wp_call {P : Program} {o : Oper} {a : Act} {w : World} {K : Act → World → Prop} {Q : Exit → Act → World → Prop} (f : FuncId) (args : Array Value) (hv : (execOp a.eval o).run P w = .ok (.enter f args) w)
    (h : Calls P f args w fun e w' => ∃ v, e = .returned v ∧ K (a.put o.dst v) w') : o.wp P a w K Q := by
  unfold Oper.wp
  rw [hv]
  refine h.mono fun e w' ⟨v, he, hk⟩ => ?_
  subst he
  exact hk
/-- a function value is called -/
theorem exec_callv {ρ : Operand → Value} {dst : Option Tmp} {ty : TypeId} {pos : String} {after : Array Edge} {guard : Option (Nat × Bool)} {w : World} {f : Operand} {args : Array Operand} {ats : Array TypeId} {k : Nat} {cap : Array Value} (A : Array Value) (hk : Ent k) (hf : ρ f = .func (.func k) #[] cap) (hA : args.map ρ ++ cap = A) :
    (execOp ρ { dst, op := .call { callee := .value f, args := args, argTypes := ats }, type := ty, pos, after, guard }).run Tryd.prog w = .ok (.enter k A) w := by
  unfold execOp
  subst hA
  simp only [resolve, Deferred.ofValue, hf, Sem.run_bind, Sem.run_pure, Result.andThen_ok, invoke, Array.empty_append]
  rw [hk]
/-- what stands at a number of the table -/
def vat (V : List Value) (op : Nat) : Value := V.getD op .nilFunc
theorem vat_at {w : World} {V : List Value} (h : Ops w V) {op : Nat} (hop : op < 28) : V[op]? = some (vat V op) := by
  unfold vat
  rw [List.getD_eq_getElem?_getD, List.getElem?_eq_getElem (by rw [h.len]; exact hop)]
  rfl
theorem isAgg58 (w : World) : (isAgg 58).run Tryd.prog w = .ok true w := by
  unfold isAgg
  rw [Sem.run_bind, run_underlying Tryd.underlying58 w]
  rfl
theorem sizeOf58 (w : World) : (sizeOf 58).run Tryd.prog w = .ok 1 w := by kernel_rfl
theorem extract_one {α : Type} (l : List α) (i : Nat) (v : α) (h : l[i]? = some v) : l.toArray.extract i (i + 1) = #[v] := by
  apply Array.toList_inj.1
  simp only [Array.toList_extract, List.extract_eq_take_drop]
  have hl : i < l.length := (List.getElem?_eq_some_iff.1 h).1
  rw [show i + 1 - i = 1 by omega, List.drop_eq_getElem_cons hl]
  have := (List.getElem?_eq_some_iff.1 h).2
  simp [this]
theorem index_op (V : List Value) (op : Nat) (v : Value) (hop : op < 28) (hv : V[op]? = some v) (w : World) : (Instr.index 59 (.agg V.toArray) (.int .u8 op)).run Tryd.prog w = .ok (.agg #[v]) w := by
  unfold Instr.index
  simp only [asIntOf, Sem.run_bind, Sem.run_pure, Result.andThen_ok, run_underlying Tryd.underlying59 w]
  rw [if_pos ⟨by omega, by omega⟩]
  simp only [Sem.run_bind, sizeOf58, Result.andThen_ok, part, isAgg58, if_true, Sem.run_pure, Int.toNat_natCast, Nat.mul_one]
  rw [extract_one V op v hv]
theorem exec_index {ρ : Operand → Value} {dst : Option Tmp} {ty : TypeId} {pos : String} {after : Array Edge} {guard : Option (Nat × Bool)} {P : Program} {w : World} {t : TypeId} {x y : Operand} {v vx vy : Value}
    (hx : ρ x = vx) (hy : ρ y = vy) (h : (Instr.index t vx vy).run P w = .ok v w) : (execOp ρ { dst, op := .index t x y, type := ty, pos, after, guard }).run P w = .ok (.value v) w := by
  unfold execOp
  subst hx hy
  simp only [Sem.run_bind, h, Result.andThen_ok, Sem.run_pure]
theorem addr_add (b : Addr) (j : Nat) : b.add (j + 1) = ⟨b.block, b.off + (j + 1), none⟩ := by unfold Addr.add; rw [if_neg (by omega)]
set_option maxHeartbeats 400000 in
theorem step_bad_0 (ad : Addr) (len cap : Nat) (hl : len ≤ 9223372036854775807) (M : Option Addr) (xs : List Int) (mcap : Nat) (hm : xs.length ≤ 9223372036854775807) (hmc : xs.length ≤ mcap) (fixed : Int) (hf : fixed < 0) (r : Nat → Int) (hin : ∀ i, i < 16 → In64 (r i)) (k : Nat) (hk : k < len) (x : Ins) (hx : x.ok) (hleg : x.legal = false) (w : World)
    (hcode : ∀ j : Nat, j < 5 → w.cell? ((ad.add (k * 5)).add j) = x.cells[j]?) (hM : Cl w M (ints xs)) (hgl : Glob w) :
    Calls Tryd.prog 12 #[.slice (some ad) len cap, .slice M xs.length mcap, .int .i64 fixed, .agg (regCells r).toArray, .int .i64 (k : Int)] w fun e w' => e = .returned (.agg (effCells (insF x len xs fixed r k)).toArray) ∧ Ch No w w' := by
  have HI16 : Hid ((Tryd.prog.info? 24).map (·.size) = some (regCells r).length) := by rw [regCells_length]; exact size24
  have HE : ∀ E : Eff, (Tryd.prog.info? 30).map (·.size) = some (effCells E).length := fun E => by rw [effCells_length]; exact size30
  have HI22 := Lib.hid HE
  clear HE
  have HR16 : Hid (Row (w.alloc (.cells (regCells r).toArray 24)) w.heap.size 24 (regCells r)) := Row.new w 24 (regCells r)
  have HZ0 : Hid (Row ((w.alloc (.cells (regCells r).toArray 24)).alloc (.cells (effCells zeroEff).toArray 30)) (w.heap.size + 1) 30 (effCells zeroEff)) := Row.new_at _ 30 (effCells zeroEff) (by simp)
  have HP0 : Hid (Row (((w.alloc (.cells (regCells r).toArray 24)).alloc (.cells (effCells zeroEff).toArray 30)).alloc (.cells #[.slice (some ad) len cap, .slice M xs.length mcap, .int .i64 0] 54)) (w.heap.size + 1 + 1) 54 [.slice (some ad) len cap, .slice M xs.length mcap, .int .i64 0]) := Row.new_at _ 54 [.slice (some ad) len cap, .slice M xs.length mcap, .int .i64 0] (by simp)
  have HZ3 : Hid (Row ((((w.alloc (.cells (regCells r).toArray 24)).alloc (.cells (effCells zeroEff).toArray 30)).alloc (.cells #[.slice (some ad) len cap, .slice M xs.length mcap, .int .i64 0] 54)).alloc (.cells (effCells zeroEff).toArray 30)) (w.heap.size + 1 + 1 + 1) 30 (effCells zeroEff)) := Row.new_at _ 30 (effCells zeroEff) (by simp)
  have hk0 : decide ((k : Int) < 0) = false := by simp
  have hk1 : (0 : Int) ≤ (k : Int) := by omega
  have hk2 : (k : Int) < (len : Int) := by omega
  have hk3 : decide ((len : Int) ≤ (k : Int)) = false := by simp; omega
  have HW := Lib.hid (fun (w1 : World) (h : Ch No w w1) => (show ∀ j : Nat, j < 5 → w1.cell? ((ad.add (k * 5)).add j) = x.cells[j]? from fun j hj => by
    have h1 := hcode j hj
    have h2 : x.cells[j]? = some (x.cells[j]'hj) := List.getElem?_eq_getElem _
    rw [h2] at h1 ⊢
    exact h.cell (not_no _) h1))
  clear hcode
  have HHM := Lib.hid hM
  have HHG := Lib.hid hgl
  have HHI := Lib.hid hin
  have HHX := Lib.hid hx
  have HL : Hid (legal x.op x.a x.b x.c x.n = false) := hleg
  clear hM hgl hin hx hleg
  generalize hb : ad.add (k * 5) = b at *
  have HLEN : Hid ((effCells (eff0 r ((k : Int) + 1) 0)).length = (effCells zeroEff).length) := by show _ = _; rw [effCells_length, effCells_length]
  have hst : ∀ w5 : World, Ch (Is (w.heap.size + 1 + 1 + 1)) ((((w.alloc (.cells (regCells r).toArray 24)).alloc (.cells (effCells zeroEff).toArray 30)).alloc (.cells #[.slice (some ad) len cap, .slice M xs.length mcap, .int .i64 0] 54)).alloc (.cells (effCells zeroEff).toArray 30)) w5 →
      Hid (Ch No w w5) ∧ Hid (Row w5 (w.heap.size + 1 + 1) 54 [.slice (some ad) len cap, .slice M xs.length mcap, .int .i64 0]) ∧ Hid (Row w5 (w.heap.size + 1) 30 (effCells zeroEff)) ∧ w5.cell? b = some (.int .u8 x.op) ∧ w5.cell? ⟨b.block, b.off + 1, none⟩ = some (.int .u8 x.a) ∧ w5.cell? ⟨b.block, b.off + 2, none⟩ = some (.int .u8 x.b) ∧ w5.cell? ⟨b.block, b.off + 3, none⟩ = some (.int .u8 x.c) ∧ w5.cell? ⟨b.block, b.off + 4, none⟩ = some (.int .i32 x.n) := by
    intro w5 hc5
    have hC5 : Ch No w w5 := ((((Ch.refl No w).alloc _).alloc _).alloc _ |>.alloc _).trans hc5 (fun i hi he => by cases he; omega)
    have hj := HW.out w5 hC5
    refine ⟨hC5, (HP0.out.alloc _).keepIs hc5 (by omega), ((HZ0.out.alloc _).alloc _).keepIs hc5 (by omega), ?_, ?_, ?_, ?_, ?_⟩
    · have := hj 0 (by omega)
      rwa [add_zero] at this
    · have := hj 1 (by omega)
      rwa [addr_add] at this
    · have := hj 2 (by omega)
      rwa [addr_add] at this
    · have := hj 3 (by omega)
      rwa [addr_add] at this
    · have := hj 4 (by omega)
      rwa [addr_add] at this
  have HST := Lib.hid hst
  clear hst
  have HFL : Hid ((effCells (eff0 r ((k : Int) + 1) 0)).set 20 (.int .i64 1) = effCells (eff0 r ((k : Int) + 1) 1)) := eff_set_fault _ 1
  have HSZ : Hid ((Tryd.prog.info? 30).map (·.size) = some ((effCells (eff0 r ((k : Int) + 1) 0)).set 20 (.int .i64 1)).length) := by show _ = _; rw [HFL.out]; exact HI22.out _
  have HON : Hid (∀ v ∈ (effCells (eff0 r ((k : Int) + 1) 0)).set 20 (.int .i64 1), v.oneCell' = true) := by show ∀ v ∈ _, _; rw [HFL.out]; exact eff_one _
  have HL2 : Hid (((effCells (eff0 r ((k : Int) + 1) 0)).set 20 (.int .i64 1)).length = (effCells zeroEff).length) := by show _ = _; rw [HFL.out, effCells_length, effCells_length]
  have HNE : Hid (w.heap.size + 1 ≠ w.heap.size + 1 + 1 + 1) := by show _ ≠ _; omega
  have HEF : Hid (insF x len xs fixed r k = eff0 r ((k : Int) + 1) 1) := by show _ = _; unfold insF; rw [if_neg (by rw [show x.legal = false from HL.out]; simp)]
  go_enter Tryd.func12, Tryd.ntmps12
  go_wp2_with (first | (refine wpList_load_agg (o := ⟨some 34, _, _, _, _, _⟩) rfl 24 (.tmp 8) rfl w.heap.size rfl 24 (regCells r) ((HR16.out.alloc _).alloc _) _ Tryd.underlying24 rfl HI16.out ?_) | (refine wpList_value (o := ⟨some 37, _, _, _, _, _⟩) rfl (.agg (effCells (eff0 r ((k : Int) + 1) 0)).toArray) (by kernel_rfl) ?_) | (refine wpList_store_agg (o := ⟨none, .store 30 (.tmp 12) (.tmp 37), _, _, _, _⟩) rfl 30 (.tmp 12) (.tmp 37) rfl (w.heap.size + 1 + 1 + 1) rfl 30 (effCells zeroEff) (effCells (eff0 r ((k : Int) + 1) 0)) rfl HZ3.out (HI22.out _) HLEN.out (eff_one _) ?_; intro w5 hr5 hc5; have HR5 := Lib.hid hr5; obtain ⟨HC5, HP5, HZ5, i0, i1, i2, i3, i4⟩ := HST.out w5 hc5; clear hr5 hc5) | (go_at_call 22; refine (legal_calls x.op x.a x.b x.c x.n HHX.out.1 _ (HHG.out.keep HC5.out (not_no _))).mono ?_; rintro e w6 ⟨rfl, hc6⟩; rw [HL.out]; have HC6 := Lib.hid (HC5.out.then_ hc6); have HR6 := Lib.hid (HR5.out.keepNo hc6); have HP6 := Lib.hid (HP5.out.keepNo hc6); have HZ6 := Lib.hid (HZ5.out.keepNo hc6); clear hc6 i0 i1 i2 i3 i4; have f20 := row_rest HR6.out 4; have z20 := HR6.out.frozen 20) | (refine wpList_load_agg (o := ⟨some 45, _, _, _, _, _⟩) rfl 30 (.tmp 12) rfl (w.heap.size + 1 + 1 + 1) rfl 30 _ (HR6.out.set_ 20 _) _ Tryd.underlying30 rfl HSZ.out ?_) | (refine wpList_store_agg (o := ⟨none, .store 30 (.tmp 10) (.tmp 45), _, _, _, _⟩) rfl 30 (.tmp 10) (.tmp 45) rfl (w.heap.size + 1) rfl 30 (effCells zeroEff) ((effCells (eff0 r ((k : Int) + 1) 0)).set 20 (.int .i64 1)) rfl (HZ6.out.setOther HNE.out _) HSZ.out HL2.out HON.out ?_; intro w8 hr8 hc8; have HR8 := Lib.hid hr8; have HC8 := Lib.hid hc8; clear hr8 hc8))
  refine bodyPost_ret (v := .agg ((effCells (eff0 r ((k : Int) + 1) 0)).set 20 (.int .i64 1)).toArray) (results_row rfl _ _ (w.heap.size + 1) 30 _ _ rfl HR8.out Tryd.underlying30 rfl HSZ.out) rfl ⟨?_, ?_⟩
  · rw [HFL.out, HEF.out]
  · exact (HC6.out.setCell (fun hh => absurd hh (by simp; omega)) _).trans HC8.out (fun i hi he => by cases he; omega)
set_option maxHeartbeats 400000 in
theorem step_bad_1 (ad : Addr) (len cap : Nat) (hl : len ≤ 9223372036854775807) (M : Option Addr) (xs : List Int) (mcap : Nat) (hm : xs.length ≤ 9223372036854775807) (hmc : xs.length ≤ mcap) (fixed : Int) (hf : (xs.length : Int) < fixed) (r : Nat → Int) (hin : ∀ i, i < 16 → In64 (r i)) (k : Nat) (hk : k < len) (x : Ins) (hx : x.ok) (hleg : x.legal = false) (w : World)
    (hcode : ∀ j : Nat, j < 5 → w.cell? ((ad.add (k * 5)).add j) = x.cells[j]?) (hM : Cl w M (ints xs)) (hgl : Glob w) :
    Calls Tryd.prog 12 #[.slice (some ad) len cap, .slice M xs.length mcap, .int .i64 fixed, .agg (regCells r).toArray, .int .i64 (k : Int)] w fun e w' => e = .returned (.agg (effCells (insF x len xs fixed r k)).toArray) ∧ Ch No w w' := by
  have HI16 : Hid ((Tryd.prog.info? 24).map (·.size) = some (regCells r).length) := by rw [regCells_length]; exact size24
  have HE : ∀ E : Eff, (Tryd.prog.info? 30).map (·.size) = some (effCells E).length := fun E => by rw [effCells_length]; exact size30
  have HI22 := Lib.hid HE
  clear HE
  have HR16 : Hid (Row (w.alloc (.cells (regCells r).toArray 24)) w.heap.size 24 (regCells r)) := Row.new w 24 (regCells r)
  have HZ0 : Hid (Row ((w.alloc (.cells (regCells r).toArray 24)).alloc (.cells (effCells zeroEff).toArray 30)) (w.heap.size + 1) 30 (effCells zeroEff)) := Row.new_at _ 30 (effCells zeroEff) (by simp)
  have HP0 : Hid (Row (((w.alloc (.cells (regCells r).toArray 24)).alloc (.cells (effCells zeroEff).toArray 30)).alloc (.cells #[.slice (some ad) len cap, .slice M xs.length mcap, .int .i64 (xs.length : Int)] 54)) (w.heap.size + 1 + 1) 54 [.slice (some ad) len cap, .slice M xs.length mcap, .int .i64 (xs.length : Int)]) := Row.new_at _ 54 [.slice (some ad) len cap, .slice M xs.length mcap, .int .i64 (xs.length : Int)] (by simp)
  have HZ3 : Hid (Row ((((w.alloc (.cells (regCells r).toArray 24)).alloc (.cells (effCells zeroEff).toArray 30)).alloc (.cells #[.slice (some ad) len cap, .slice M xs.length mcap, .int .i64 (xs.length : Int)] 54)).alloc (.cells (effCells zeroEff).toArray 30)) (w.heap.size + 1 + 1 + 1) 30 (effCells zeroEff)) := Row.new_at _ 30 (effCells zeroEff) (by simp)
  have hk0 : decide ((k : Int) < 0) = false := by simp
  have hk1 : (0 : Int) ≤ (k : Int) := by omega
  have hk2 : (k : Int) < (len : Int) := by omega
  have hk3 : decide ((len : Int) ≤ (k : Int)) = false := by simp; omega
  have HW := Lib.hid (fun (w1 : World) (h : Ch No w w1) => (show ∀ j : Nat, j < 5 → w1.cell? ((ad.add (k * 5)).add j) = x.cells[j]? from fun j hj => by
    have h1 := hcode j hj
    have h2 : x.cells[j]? = some (x.cells[j]'hj) := List.getElem?_eq_getElem _
    rw [h2] at h1 ⊢
    exact h.cell (not_no _) h1))
  clear hcode
  have HHM := Lib.hid hM
  have HHG := Lib.hid hgl
  have HHI := Lib.hid hin
  have HHX := Lib.hid hx
  have HL : Hid (legal x.op x.a x.b x.c x.n = false) := hleg
  clear hM hgl hin hx hleg
  generalize hb : ad.add (k * 5) = b at *
  have HLEN : Hid ((effCells (eff0 r ((k : Int) + 1) 0)).length = (effCells zeroEff).length) := by show _ = _; rw [effCells_length, effCells_length]
  have hst : ∀ w5 : World, Ch (Is (w.heap.size + 1 + 1 + 1)) ((((w.alloc (.cells (regCells r).toArray 24)).alloc (.cells (effCells zeroEff).toArray 30)).alloc (.cells #[.slice (some ad) len cap, .slice M xs.length mcap, .int .i64 (xs.length : Int)] 54)).alloc (.cells (effCells zeroEff).toArray 30)) w5 →
      Hid (Ch No w w5) ∧ Hid (Row w5 (w.heap.size + 1 + 1) 54 [.slice (some ad) len cap, .slice M xs.length mcap, .int .i64 (xs.length : Int)]) ∧ Hid (Row w5 (w.heap.size + 1) 30 (effCells zeroEff)) ∧ w5.cell? b = some (.int .u8 x.op) ∧ w5.cell? ⟨b.block, b.off + 1, none⟩ = some (.int .u8 x.a) ∧ w5.cell? ⟨b.block, b.off + 2, none⟩ = some (.int .u8 x.b) ∧ w5.cell? ⟨b.block, b.off + 3, none⟩ = some (.int .u8 x.c) ∧ w5.cell? ⟨b.block, b.off + 4, none⟩ = some (.int .i32 x.n) := by
    intro w5 hc5
    have hC5 : Ch No w w5 := ((((Ch.refl No w).alloc _).alloc _).alloc _ |>.alloc _).trans hc5 (fun i hi he => by cases he; omega)
    have hj := HW.out w5 hC5
    refine ⟨hC5, (HP0.out.alloc _).keepIs hc5 (by omega), ((HZ0.out.alloc _).alloc _).keepIs hc5 (by omega), ?_, ?_, ?_, ?_, ?_⟩
    · have := hj 0 (by omega)
      rwa [add_zero] at this
    · have := hj 1 (by omega)
      rwa [addr_add] at this
    · have := hj 2 (by omega)
      rwa [addr_add] at this
    · have := hj 3 (by omega)
      rwa [addr_add] at this
    · have := hj 4 (by omega)
      rwa [addr_add] at this
  have HST := Lib.hid hst
  clear hst
  have HFL : Hid ((effCells (eff0 r ((k : Int) + 1) 0)).set 20 (.int .i64 1) = effCells (eff0 r ((k : Int) + 1) 1)) := eff_set_fault _ 1
  have HSZ : Hid ((Tryd.prog.info? 30).map (·.size) = some ((effCells (eff0 r ((k : Int) + 1) 0)).set 20 (.int .i64 1)).length) := by show _ = _; rw [HFL.out]; exact HI22.out _
  have HON : Hid (∀ v ∈ (effCells (eff0 r ((k : Int) + 1) 0)).set 20 (.int .i64 1), v.oneCell' = true) := by show ∀ v ∈ _, _; rw [HFL.out]; exact eff_one _
  have HL2 : Hid (((effCells (eff0 r ((k : Int) + 1) 0)).set 20 (.int .i64 1)).length = (effCells zeroEff).length) := by show _ = _; rw [HFL.out, effCells_length, effCells_length]
  have HNE : Hid (w.heap.size + 1 ≠ w.heap.size + 1 + 1 + 1) := by show _ ≠ _; omega
  have HEF : Hid (insF x len xs fixed r k = eff0 r ((k : Int) + 1) 1) := by show _ = _; unfold insF; rw [if_neg (by rw [show x.legal = false from HL.out]; simp)]
  go_enter Tryd.func12, Tryd.ntmps12
  go_wp2_with (first | (refine wpList_load_agg (o := ⟨some 34, _, _, _, _, _⟩) rfl 24 (.tmp 8) rfl w.heap.size rfl 24 (regCells r) ((HR16.out.alloc _).alloc _) _ Tryd.underlying24 rfl HI16.out ?_) | (refine wpList_value (o := ⟨some 37, _, _, _, _, _⟩) rfl (.agg (effCells (eff0 r ((k : Int) + 1) 0)).toArray) (by kernel_rfl) ?_) | (refine wpList_store_agg (o := ⟨none, .store 30 (.tmp 12) (.tmp 37), _, _, _, _⟩) rfl 30 (.tmp 12) (.tmp 37) rfl (w.heap.size + 1 + 1 + 1) rfl 30 (effCells zeroEff) (effCells (eff0 r ((k : Int) + 1) 0)) rfl HZ3.out (HI22.out _) HLEN.out (eff_one _) ?_; intro w5 hr5 hc5; have HR5 := Lib.hid hr5; obtain ⟨HC5, HP5, HZ5, i0, i1, i2, i3, i4⟩ := HST.out w5 hc5; clear hr5 hc5) | (go_at_call 22; refine (legal_calls x.op x.a x.b x.c x.n HHX.out.1 _ (HHG.out.keep HC5.out (not_no _))).mono ?_; rintro e w6 ⟨rfl, hc6⟩; rw [HL.out]; have HC6 := Lib.hid (HC5.out.then_ hc6); have HR6 := Lib.hid (HR5.out.keepNo hc6); have HP6 := Lib.hid (HP5.out.keepNo hc6); have HZ6 := Lib.hid (HZ5.out.keepNo hc6); clear hc6 i0 i1 i2 i3 i4; have f20 := row_rest HR6.out 4; have z20 := HR6.out.frozen 20) | (refine wpList_load_agg (o := ⟨some 45, _, _, _, _, _⟩) rfl 30 (.tmp 12) rfl (w.heap.size + 1 + 1 + 1) rfl 30 _ (HR6.out.set_ 20 _) _ Tryd.underlying30 rfl HSZ.out ?_) | (refine wpList_store_agg (o := ⟨none, .store 30 (.tmp 10) (.tmp 45), _, _, _, _⟩) rfl 30 (.tmp 10) (.tmp 45) rfl (w.heap.size + 1) rfl 30 (effCells zeroEff) ((effCells (eff0 r ((k : Int) + 1) 0)).set 20 (.int .i64 1)) rfl (HZ6.out.setOther HNE.out _) HSZ.out HL2.out HON.out ?_; intro w8 hr8 hc8; have HR8 := Lib.hid hr8; have HC8 := Lib.hid hc8; clear hr8 hc8))
  refine bodyPost_ret (v := .agg ((effCells (eff0 r ((k : Int) + 1) 0)).set 20 (.int .i64 1)).toArray) (results_row rfl _ _ (w.heap.size + 1) 30 _ _ rfl HR8.out Tryd.underlying30 rfl HSZ.out) rfl ⟨?_, ?_⟩
  · rw [HFL.out, HEF.out]
  · exact (HC6.out.setCell (fun hh => absurd hh (by simp; omega)) _).trans HC8.out (fun i hi he => by cases he; omega)
set_option maxHeartbeats 400000 in
theorem step_bad_2 (ad : Addr) (len cap : Nat) (hl : len ≤ 9223372036854775807) (M : Option Addr) (xs : List Int) (mcap : Nat) (hm : xs.length ≤ 9223372036854775807) (hmc : xs.length ≤ mcap) (fixed : Int) (hf : 0 ≤ fixed) (hf2 : fixed ≤ (xs.length : Int)) (r : Nat → Int) (hin : ∀ i, i < 16 → In64 (r i)) (k : Nat) (hk : k < len) (x : Ins) (hx : x.ok) (hleg : x.legal = false) (w : World)
    (hcode : ∀ j : Nat, j < 5 → w.cell? ((ad.add (k * 5)).add j) = x.cells[j]?) (hM : Cl w M (ints xs)) (hgl : Glob w) :
    Calls Tryd.prog 12 #[.slice (some ad) len cap, .slice M xs.length mcap, .int .i64 fixed, .agg (regCells r).toArray, .int .i64 (k : Int)] w fun e w' => e = .returned (.agg (effCells (insF x len xs fixed r k)).toArray) ∧ Ch No w w' := by
  have HI16 : Hid ((Tryd.prog.info? 24).map (·.size) = some (regCells r).length) := by rw [regCells_length]; exact size24
  have HE : ∀ E : Eff, (Tryd.prog.info? 30).map (·.size) = some (effCells E).length := fun E => by rw [effCells_length]; exact size30
  have HI22 := Lib.hid HE
  clear HE
  have HR16 : Hid (Row (w.alloc (.cells (regCells r).toArray 24)) w.heap.size 24 (regCells r)) := Row.new w 24 (regCells r)
  have HZ0 : Hid (Row ((w.alloc (.cells (regCells r).toArray 24)).alloc (.cells (effCells zeroEff).toArray 30)) (w.heap.size + 1) 30 (effCells zeroEff)) := Row.new_at _ 30 (effCells zeroEff) (by simp)
  have HP0 : Hid (Row (((w.alloc (.cells (regCells r).toArray 24)).alloc (.cells (effCells zeroEff).toArray 30)).alloc (.cells #[.slice (some ad) len cap, .slice M xs.length mcap, .int .i64 fixed] 54)) (w.heap.size + 1 + 1) 54 [.slice (some ad) len cap, .slice M xs.length mcap, .int .i64 fixed]) := Row.new_at _ 54 [.slice (some ad) len cap, .slice M xs.length mcap, .int .i64 fixed] (by simp)
  have HZ3 : Hid (Row ((((w.alloc (.cells (regCells r).toArray 24)).alloc (.cells (effCells zeroEff).toArray 30)).alloc (.cells #[.slice (some ad) len cap, .slice M xs.length mcap, .int .i64 fixed] 54)).alloc (.cells (effCells zeroEff).toArray 30)) (w.heap.size + 1 + 1 + 1) 30 (effCells zeroEff)) := Row.new_at _ 30 (effCells zeroEff) (by simp)
  have hk0 : decide ((k : Int) < 0) = false := by simp
  have hk1 : (0 : Int) ≤ (k : Int) := by omega
  have hk2 : (k : Int) < (len : Int) := by omega
  have hk3 : decide ((len : Int) ≤ (k : Int)) = false := by simp; omega
  have HW := Lib.hid (fun (w1 : World) (h : Ch No w w1) => (show ∀ j : Nat, j < 5 → w1.cell? ((ad.add (k * 5)).add j) = x.cells[j]? from fun j hj => by
    have h1 := hcode j hj
    have h2 : x.cells[j]? = some (x.cells[j]'hj) := List.getElem?_eq_getElem _
    rw [h2] at h1 ⊢
    exact h.cell (not_no _) h1))
  clear hcode
  have HHM := Lib.hid hM
  have HHG := Lib.hid hgl
  have HHI := Lib.hid hin
  have HHX := Lib.hid hx
  have HL : Hid (legal x.op x.a x.b x.c x.n = false) := hleg
  clear hM hgl hin hx hleg
  generalize hb : ad.add (k * 5) = b at *
  have HLEN : Hid ((effCells (eff0 r ((k : Int) + 1) 0)).length = (effCells zeroEff).length) := by show _ = _; rw [effCells_length, effCells_length]
  have hst : ∀ w5 : World, Ch (Is (w.heap.size + 1 + 1 + 1)) ((((w.alloc (.cells (regCells r).toArray 24)).alloc (.cells (effCells zeroEff).toArray 30)).alloc (.cells #[.slice (some ad) len cap, .slice M xs.length mcap, .int .i64 fixed] 54)).alloc (.cells (effCells zeroEff).toArray 30)) w5 →
      Hid (Ch No w w5) ∧ Hid (Row w5 (w.heap.size + 1 + 1) 54 [.slice (some ad) len cap, .slice M xs.length mcap, .int .i64 fixed]) ∧ Hid (Row w5 (w.heap.size + 1) 30 (effCells zeroEff)) ∧ w5.cell? b = some (.int .u8 x.op) ∧ w5.cell? ⟨b.block, b.off + 1, none⟩ = some (.int .u8 x.a) ∧ w5.cell? ⟨b.block, b.off + 2, none⟩ = some (.int .u8 x.b) ∧ w5.cell? ⟨b.block, b.off + 3, none⟩ = some (.int .u8 x.c) ∧ w5.cell? ⟨b.block, b.off + 4, none⟩ = some (.int .i32 x.n) := by
    intro w5 hc5
    have hC5 : Ch No w w5 := ((((Ch.refl No w).alloc _).alloc _).alloc _ |>.alloc _).trans hc5 (fun i hi he => by cases he; omega)
    have hj := HW.out w5 hC5
    refine ⟨hC5, (HP0.out.alloc _).keepIs hc5 (by omega), ((HZ0.out.alloc _).alloc _).keepIs hc5 (by omega), ?_, ?_, ?_, ?_, ?_⟩
    · have := hj 0 (by omega)
      rwa [add_zero] at this
    · have := hj 1 (by omega)
      rwa [addr_add] at this
    · have := hj 2 (by omega)
      rwa [addr_add] at this
    · have := hj 3 (by omega)
      rwa [addr_add] at this
    · have := hj 4 (by omega)
      rwa [addr_add] at this
  have HST := Lib.hid hst
  clear hst
  have HFL : Hid ((effCells (eff0 r ((k : Int) + 1) 0)).set 20 (.int .i64 1) = effCells (eff0 r ((k : Int) + 1) 1)) := eff_set_fault _ 1
  have HSZ : Hid ((Tryd.prog.info? 30).map (·.size) = some ((effCells (eff0 r ((k : Int) + 1) 0)).set 20 (.int .i64 1)).length) := by show _ = _; rw [HFL.out]; exact HI22.out _
  have HON : Hid (∀ v ∈ (effCells (eff0 r ((k : Int) + 1) 0)).set 20 (.int .i64 1), v.oneCell' = true) := by show ∀ v ∈ _, _; rw [HFL.out]; exact eff_one _
  have HL2 : Hid (((effCells (eff0 r ((k : Int) + 1) 0)).set 20 (.int .i64 1)).length = (effCells zeroEff).length) := by show _ = _; rw [HFL.out, effCells_length, effCells_length]
  have HNE : Hid (w.heap.size + 1 ≠ w.heap.size + 1 + 1 + 1) := by show _ ≠ _; omega
  have HEF : Hid (insF x len xs fixed r k = eff0 r ((k : Int) + 1) 1) := by show _ = _; unfold insF; rw [if_neg (by rw [show x.legal = false from HL.out]; simp)]
  go_enter Tryd.func12, Tryd.ntmps12
  go_wp2_with (first | (refine wpList_load_agg (o := ⟨some 34, _, _, _, _, _⟩) rfl 24 (.tmp 8) rfl w.heap.size rfl 24 (regCells r) ((HR16.out.alloc _).alloc _) _ Tryd.underlying24 rfl HI16.out ?_) | (refine wpList_value (o := ⟨some 37, _, _, _, _, _⟩) rfl (.agg (effCells (eff0 r ((k : Int) + 1) 0)).toArray) (by kernel_rfl) ?_) | (refine wpList_store_agg (o := ⟨none, .store 30 (.tmp 12) (.tmp 37), _, _, _, _⟩) rfl 30 (.tmp 12) (.tmp 37) rfl (w.heap.size + 1 + 1 + 1) rfl 30 (effCells zeroEff) (effCells (eff0 r ((k : Int) + 1) 0)) rfl HZ3.out (HI22.out _) HLEN.out (eff_one _) ?_; intro w5 hr5 hc5; have HR5 := Lib.hid hr5; obtain ⟨HC5, HP5, HZ5, i0, i1, i2, i3, i4⟩ := HST.out w5 hc5; clear hr5 hc5) | (go_at_call 22; refine (legal_calls x.op x.a x.b x.c x.n HHX.out.1 _ (HHG.out.keep HC5.out (not_no _))).mono ?_; rintro e w6 ⟨rfl, hc6⟩; rw [HL.out]; have HC6 := Lib.hid (HC5.out.then_ hc6); have HR6 := Lib.hid (HR5.out.keepNo hc6); have HP6 := Lib.hid (HP5.out.keepNo hc6); have HZ6 := Lib.hid (HZ5.out.keepNo hc6); clear hc6 i0 i1 i2 i3 i4; have f20 := row_rest HR6.out 4; have z20 := HR6.out.frozen 20) | (refine wpList_load_agg (o := ⟨some 45, _, _, _, _, _⟩) rfl 30 (.tmp 12) rfl (w.heap.size + 1 + 1 + 1) rfl 30 _ (HR6.out.set_ 20 _) _ Tryd.underlying30 rfl HSZ.out ?_) | (refine wpList_store_agg (o := ⟨none, .store 30 (.tmp 10) (.tmp 45), _, _, _, _⟩) rfl 30 (.tmp 10) (.tmp 45) rfl (w.heap.size + 1) rfl 30 (effCells zeroEff) ((effCells (eff0 r ((k : Int) + 1) 0)).set 20 (.int .i64 1)) rfl (HZ6.out.setOther HNE.out _) HSZ.out HL2.out HON.out ?_; intro w8 hr8 hc8; have HR8 := Lib.hid hr8; have HC8 := Lib.hid hc8; clear hr8 hc8))
  refine bodyPost_ret (v := .agg ((effCells (eff0 r ((k : Int) + 1) 0)).set 20 (.int .i64 1)).toArray) (results_row rfl _ _ (w.heap.size + 1) 30 _ _ rfl HR8.out Tryd.underlying30 rfl HSZ.out) rfl ⟨?_, ?_⟩
  · rw [HFL.out, HEF.out]
  · exact (HC6.out.setCell (fun hh => absurd hh (by simp; omega)) _).trans HC8.out (fun i hi he => by cases he; omega)
end Go.Proofs.YtellmlffkgfeiaaDoor
