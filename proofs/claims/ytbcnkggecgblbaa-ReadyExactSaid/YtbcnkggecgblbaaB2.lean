/- the reference's New, Priority, Remove, Put. -/
import Derived.Test.YtbcnkggecgblbaaB1
set_option linter.unusedVariables false
set_option linter.unusedSimpArgs false
namespace Go.Proofs.Ytbcnkggecgblbaa
open Go.RowKit
/-- a result that lies in a block, and two more -/
theorem results_row3 {P : Program} {fn : Func} {p a b : Tmp} {ty : TypeId} (h : fn.results = #[.cell p ty, .tmp a, .tmp b]) (tmps : Array Value) (w : World) (g : Nat) (t : TypeId) (L : List Value) (d : TypeDesc)
    (hp : tmps.getD p undef = .pointer (some ⟨g, 0, none⟩)) (hr : Row w g t L)
    (hu : P.underlying ty = some d) (hd : (match d with | .struct _ | .array _ _ => true | _ => false) = true) (hi : (P.info? ty).map (·.size) = some L.length) (x y : Value) (hx : tmps.getD a undef = x) (hy : tmps.getD b undef = y) :
    (results fn tmps).run P w = .ok (.tuple #[.agg L.toArray, x, y]) w := by
  subst hx
  subst hy
  have hp' : tmps[p]?.getD undef = .pointer (some ⟨g, 0, none⟩) := by simpa using hp
  have h1 := run_loadVar_row w g t ty L.toArray (0, 0) d hr hu hd (by simpa using hi)
  simp [results, h, hp', asAddr, h1]
/-- a result that lies in a block, and one more -/
theorem results_row2 {P : Program} {fn : Func} {p a : Tmp} {ty : TypeId} (h : fn.results = #[.cell p ty, .tmp a]) (tmps : Array Value) (w : World) (g : Nat) (t : TypeId) (L : List Value) (d : TypeDesc)
    (hp : tmps.getD p undef = .pointer (some ⟨g, 0, none⟩)) (hr : Row w g t L)
    (hu : P.underlying ty = some d) (hd : (match d with | .struct _ | .array _ _ => true | _ => false) = true) (hi : (P.info? ty).map (·.size) = some L.length) (x : Value) (hx : tmps.getD a undef = x) :
    (results fn tmps).run P w = .ok (.tuple #[.agg L.toArray, x]) w := by
  subst hx
  have hp' : tmps[p]?.getD undef = .pointer (some ⟨g, 0, none⟩) := by simpa using hp
  have h1 := run_loadVar_row w g t ty L.toArray (0, 0) d hr hu hd (by simpa using hi)
  simp [results, h, hp', asAddr, h1]
/-- the reference's line, as cells -/
abbrev rl (N : Int) (v : Value) (T : Int) : List Value := [.int .i64 N, v, .int .i64 T]
theorem size28 : (Try.prog.info? 28).map (·.size) = some 3 := by kernel_rfl
theorem rnew_ok (n : Int) (w : World) (h0 : 0 ≤ n) (h1 : n ≤ 65535) :
    Calls Try.prog 6 #[.int .i64 n] w fun e w' => e = .returned (.tuple #[.agg (rl n (.slice none 0 0) 0).toArray, .bool true]) ∧ Ch No w w' := by
  have d0 : decide (n < 0) = false := decide_eq_false (by omega)
  have d1 : decide (65535 < n) = false := decide_eq_false (by omega)
  go_enter Try.func6, Try.ntmps6
  go_wp2_with (fail)
  have HR : Row (w.alloc (.cells #[.int .i64 n, .slice none 0 0, .int .i64 0] 28)) w.heap.size 28 (rl n (.slice none 0 0) 0) := Row.new w 28 _
  exact bodyPost_ret (v := .tuple #[.agg (rl n (.slice none 0 0) 0).toArray, .bool true]) (results_row2 rfl _ _ w.heap.size 28 _ _ rfl HR Try.underlying28 rfl size28 _ rfl) rfl ⟨rfl, (Ch.refl _ _).alloc _⟩
theorem rnew_bad (n : Int) (w : World) (h : n < 0 ∨ 65535 < n) :
    Calls Try.prog 6 #[.int .i64 n] w fun e w' => e = .returned (.tuple #[.agg (rl 0 (.slice none 0 0) 0).toArray, .bool false]) ∧ Ch No w w' := by
  have HR : Row (w.alloc (.cells #[.int .i64 0, .slice none 0 0, .int .i64 0] 28)) w.heap.size 28 (rl 0 (.slice none 0 0) 0) := Row.new w 28 _
  by_cases h0 : n < 0
  · have d0 : decide (n < 0) = true := decide_eq_true h0
    go_enter Try.func6, Try.ntmps6
    go_wp2_with (fail)
    exact bodyPost_ret (v := .tuple #[.agg (rl 0 (.slice none 0 0) 0).toArray, .bool false]) (results_row2 rfl _ _ w.heap.size 28 _ _ rfl HR Try.underlying28 rfl size28 _ rfl) rfl ⟨rfl, (Ch.refl _ _).alloc _⟩
  · have d0 : decide (n < 0) = false := decide_eq_false h0
    have d1 : decide (65535 < n) = true := decide_eq_true (by omega)
    go_enter Try.func6, Try.ntmps6
    go_wp2_with (fail)
    exact bodyPost_ret (v := .tuple #[.agg (rl 0 (.slice none 0 0) 0).toArray, .bool false]) (results_row2 rfl _ _ w.heap.size 28 _ _ rfl HR Try.underlying28 rfl size28 _ rfl) rfl ⟨rfl, (Ch.refl _ _).alloc _⟩
theorem rlen {w : World} {v : Value} {X : List Tri} (h : Rf w v X) : ∀ ty w, (Builtin.len_ #[26] ty #[v]).run Try.prog w = .ok (.int .i64 (X.length : Int)) w := fun ty w => by
  rcases h.cases with ⟨rfl, rfl⟩ | ⟨g, cap, rest, rfl, _⟩
  · rfl
  · rfl
theorem row_ne {w : World} {g g' : Nat} {t t' : TypeId} {L L' : List Value} (h : Row w g t L) (h' : Row w g' t' L') (ht : t ≠ t') : g ≠ g' := fun e => by
  subst e
  exact ht (h.eq_ h').1
theorem Rf.other {w w' : World} {v : Value} {X : List Tri} (h : Rf w v X) (hk : ∀ g L, Row w g 71 L → Row w' g 71 L) : Rf w' v X := by
  obtain ⟨⟨b, h⟩, hl⟩ := h
  refine ⟨⟨b, h.1, ?_⟩, hl⟩
  rcases h.2 with hn | ⟨g, cap, cur, hv, hb, hg, rest⟩
  · exact .inl hn
  · refine .inr ⟨g, cap, cur, hv, hb, ?_, rest⟩
    have hr : Row w g 71 cur.toList := by unfold Row; simpa using hg
    have := hk g _ hr
    unfold Row at this
    simpa using this
theorem Rf.setCell {w : World} {v : Value} {X : List Tri} (h : Rf w v X) {g : Nat} {L : List Value} (hr : Row w g 28 L) (o : Nat) (u : Value) : Rf (w.setCell ⟨g, o, none⟩ u) v X :=
  h.other fun g' L' h' => h'.setOther (row_ne h' hr (by decide)) u
theorem Rf.keepIs {w w' : World} {v : Value} {X : List Tri} (h : Rf w v X) {g : Nat} {L : List Value} (hr : Row w g 28 L) (hc : Ch (Is g) w w') : Rf w' v X :=
  h.other fun g' L' h' => h'.keepIs hc (row_ne h' hr (by decide))
theorem Rf.one {w : World} {v : Value} {X : List Tri} (h : Rf w v X) : v.oneCell' = true := by
  rcases h.cases with ⟨rfl, _⟩ | ⟨_, _, _, rfl, _⟩ <;> rfl
theorem rl_one {N T : Int} {v : Value} (h : v.oneCell' = true) : ∀ u ∈ rl N v T, u.oneCell' = true := by
  intro u hu
  simp at hu
  rcases hu with rfl | rfl | rfl
  · rfl
  · exact h
  · rfl
theorem pl_store_cell {ops : Array Oper} {rest : List Oper} {o : Oper} {a : Act} {Q : Exit → Act → World → Prop} {w : World} (hgd : o.guard = none) (ty : TypeId) (x y : Operand) (ho : o.op = .store ty x y)
    (g off : Nat) (v : Value) (hx : a.eval x = .pointer (some ⟨g, off, none⟩)) (hy : a.eval y = v) (h1 : v.oneCell' = true) (hi : (Try.prog.info? ty).map (·.size) = some 1)
    (hc : (w.cell? ⟨g, off, none⟩).isSome = true) (hf : w.frozen? ⟨g, off, none⟩ = false)
    (h : wpList Try.prog ops Q rest (a.put o.dst undef) (w.setCell ⟨g, off, none⟩ v)) : wpList Try.prog ops Q (o :: rest) a w :=
  wpList_plain hgd fun _ hK => wp_store_cell ty x y ho g off v hx hy h1 hi hc hf (hK _ _ h)
theorem size26 : (Try.prog.info? 26).map (·.size) = some 1 := by kernel_rfl
set_option maxHeartbeats 4000000 in
theorem rremove_calls {w : World} {v : Value} {X : List Tri} (h : Rf w v X) (N T id : Int) :
    Calls Try.prog 20 #[.agg (rl N v T).toArray, .int .i64 id] w fun e w' => ∃ v', e = .returned (.tuple #[.agg (rl N v' T).toArray, .bool ((X.length : Int) != ((wo id X).length : Int))]) ∧ Rf w' v' (wo id X) ∧ Ch No w w' := by
  have HX := Lib.hid h
  have hv1 : v.oneCell' = true := by
    rcases h.cases with ⟨rfl, _⟩ | ⟨_, _, _, rfl, _⟩ <;> rfl
  clear h
  have HB0 : Hid (Row ((w.alloc (.cells (rl N v T).toArray 28)).alloc (.cells (rl 0 (.slice none 0 0) 0).toArray 28)) w.heap.size 28 (rl N v T)) := (Row.new w 28 (rl N v T)).alloc _
  have HB1 : Hid (Row ((w.alloc (.cells (rl N v T).toArray 28)).alloc (.cells (rl 0 (.slice none 0 0) 0).toArray 28)) (w.heap.size + 1) 28 (rl 0 (.slice none 0 0) 0)) := Row.new_at _ 28 _ (by simp)
  have HC : Hid (Ch No w ((w.alloc (.cells (rl N v T).toArray 28)).alloc (.cells (rl 0 (.slice none 0 0) 0).toArray 28))) := ((Ch.refl _ _).alloc _).alloc _
  go_enter Try.func20, Try.ntmps20
  go_upto_region 1 with (fail)
  change Code.wp _ _ _ _ ((w.alloc (.cells (rl N v T).toArray 28)).alloc (.cells (rl 0 (.slice none 0 0) 0).toArray 28))
  generalize (w.alloc (.cells (rl N v T).toArray 28)).alloc (.cells (rl 0 (.slice none 0 0) 0).toArray 28) = w1 at *
  have c1 : w1.cell? ⟨w.heap.size, 1, none⟩ = some v := by rw [HB0.out.cell]; rfl
  have hb0 := HB0.out.lt
  go_wp2_with (fail)
  refine (without_calls (HX.out.keepNo HC.out) id).mono ?_
  rintro e w2 ⟨v2, rfl, ho2, hc2⟩
  have hle : (wo id X).length ≤ X.length := List.length_filter_le _ _
  have HX2 : Hid (Rf w2 v2 (wo id X)) := ⟨⟨_, ho2⟩, by have := HX.out.2; omega⟩
  have HB02 := Lib.hid (HB0.out.keepNo hc2)
  have HB12 := Lib.hid (HB1.out.keepNo hc2)
  have HC2 := Lib.hid (HC.out.then_ hc2)
  have hl1 := rlen HX.out
  have hl2 := rlen HX2.out
  have hv2 : v2.oneCell' = true := by
    rcases HX2.out.cases with ⟨rfl, _⟩ | ⟨_, _, _, rfl, _⟩ <;> rfl
  clear ho2 hc2 HB0 HB1 HC c1 hb0
  have c1 : w2.cell? ⟨w.heap.size, 1, none⟩ = some v := by rw [HB02.out.cell]; rfl
  have hf1 : w2.frozen? ⟨w.heap.size, 1, none⟩ = false := HB02.out.frozen _
  have hb0 := HB02.out.lt
  have hb1 := HB12.out.lt
  go_upto_region 3 with (simp only [hl1, hl2])
  have hs1 : (w2.cell? ⟨w.heap.size, 1, none⟩).isSome = true := by rw [c1]; rfl
  go_upto_region 4 with ((with_reducible refine at_op (o := ⟨none, .store 26 (.tmp 19) (.tmp 18), _, _, _, _⟩) ?_); refine pl_store_cell rfl 26 (.tmp 19) (.tmp 18) rfl w.heap.size 1 v2 rfl rfl hv2 size26 hs1 hf1 ?_)
  have HB03 : Hid (Row (w2.setCell ⟨w.heap.size, 1, none⟩ v2) w.heap.size 28 (rl N v2 T)) := HB02.out.set_ 1 v2
  have HB13 := Lib.hid (HB12.out.setOther (p := ⟨w.heap.size, 1, none⟩) (by simp) v2)
  have HX3 := Lib.hid (HX2.out.setCell HB02.out 1 v2)
  have HC3 := Lib.hid (HC2.out.setCell (p := ⟨w.heap.size, 1, none⟩) (fun h => absurd h (by simp)) v2)
  generalize w2.setCell ⟨w.heap.size, 1, none⟩ v2 = w3 at *
  clear c1 hf1 hs1
  have H1 := Lib.hid (rl_one (N := N) (T := T) hv2)
  go_wp2_with (first | ((with_reducible refine at_op (o := ⟨some 20, .load 28 (.tmp 2), _, _, _, _⟩) ?_); refine pl_load rfl 28 (.tmp 2) rfl w.heap.size rfl 28 (rl N v2 T) HB03.out _ Try.underlying28 rfl size28 ?_) | ((with_reducible refine at_op (o := ⟨none, .store 28 (.tmp 4) (.tmp 20), _, _, _, _⟩) ?_); refine pl_store rfl 28 (.tmp 4) (.tmp 20) rfl (w.heap.size + 1) rfl 28 (rl 0 (.slice none 0 0) 0) (rl N v2 T) rfl HB13.out size28 rfl H1.out ?_; intro w4 hr4 hc4; have HR4 := Lib.hid hr4; have HC4 := Lib.hid hc4; clear hr4 hc4))
  refine bodyPost_ret (v := .tuple #[.agg (rl N v2 T).toArray, .bool ((X.length : Int) != ((wo id X).length : Int))]) (results_row2 rfl _ _ (w.heap.size + 1) 28 _ _ rfl HR4.out Try.underlying28 rfl size28 _ rfl) rfl ⟨v2, ?_, ?_, ?_⟩
  · rfl
  · exact HX3.out.keepIs HB13.out HC4.out
  · exact ch_newg HC3.out HC4.out (by omega)
/-- what the reference's Priority answers -/
def rpr (id : Int) (X : List Tri) : Int × Bool := match X.findIdx? (fun x => x.1 == id) with | none => (0, false) | some i => (((X[i]?).map (·.2.1)).getD 0, true)
set_option maxHeartbeats 4000000 in
theorem rprio_calls {w : World} {v : Value} {X : List Tri} (h : Rf w v X) (N T id : Int) :
    Calls Try.prog 23 #[.agg (rl N v T).toArray, .int .i64 id] w fun e w' => e = .returned (.tuple #[.int .i64 (rpr id X).1, .bool (rpr id X).2]) ∧ Ch No w w' := by
  have HX := Lib.hid h
  have hsm := h.2
  have HB0 : Hid (Row (w.alloc (.cells (rl N v T).toArray 28)) w.heap.size 28 (rl N v T)) := Row.new w 28 (rl N v T)
  have HC : Hid (Ch No w (w.alloc (.cells (rl N v T).toArray 28))) := (Ch.refl _ _).alloc _
  have hcs := (h.keepNo HC.out).cases
  clear h
  go_enter Try.func23, Try.ntmps23
  go_upto_region 1 with (fail)
  change Code.wp _ _ _ _ (w.alloc (.cells (rl N v T).toArray 28))
  generalize w.alloc (.cells (rl N v T).toArray 28) = w1 at *
  have c1 : w1.cell? ⟨w.heap.size, 1, none⟩ = some v := by rw [HB0.out.cell]; rfl
  have hb0 := HB0.out.lt
  rcases hcs with ⟨rfl, rfl⟩ | ⟨g, cap, rest, rfl, hr, hn, hm⟩
  · go_wp2_with (fail)
    go_loopw [6] (fun i wr => i = .int .i64 0 ∧ w1 = wr) (fun _ _ => 0)
    case atStart => exact ⟨rfl, rfl⟩
    case round =>
      obtain ⟨rfl, rfl⟩ := hrel
      go_wp2_with (fail)
      exact bodyPost_ret (v := .tuple #[.int .i64 0, .bool false]) (by kernel_rfl) rfl ⟨rfl, HC.out⟩
  · have HR := Lib.hid hr
    have hg63 : cap ≤ 9223372036854775807 := by unfold maxLen at hm; omega
    have hgw := hr.lt
    obtain ⟨n, hnn⟩ : ∃ n, n = X.length := ⟨_, rfl⟩
    have HN := Lib.hid hnn
    rw [← hnn] at hsm hn c1 ⊢
    clear hr hm hnn
    go_wp2_with (fail)
    go_loopw [6] (fun i wr => ∃ j : Nat, j ≤ n ∧ i = .int .i64 j ∧ w1 = wr ∧ Hid (∀ q y, q < j → X[q]? = some y → (y.1 == id) = false)) (fun i _ => n - (intOf i).toNat)
    case atStart => exact ⟨0, Nat.zero_le _, rfl, rfl, fun q y hq => absurd hq (by omega)⟩
    case round =>
      obtain ⟨j, hj, rfl, rfl, HD⟩ := hrel
      by_cases hlt : j < n
      · have d0 : decide ((j : Int) < (n : Int)) = true := by simpa using hlt
        have hji : (j : Int) < (n : Int) := by omega
        obtain ⟨x, hx⟩ : ∃ x, X[j]? = some x := ⟨X[j]'(by rw [← HN.out]; exact hlt), List.getElem?_eq_getElem _⟩
        obtain ⟨hx0, hx1, _⟩ := row_tri HR.out j x hx
        have HXJ := Lib.hid hx
        clear hx
        cases he : x.1 == id
        · have HD' : Hid (∀ q y, q < j + 1 → X[q]? = some y → (y.1 == id) = false) := fun q y hq hy => by
            by_cases e : q = j
            · subst e
              obtain rfl : x = y := Option.some.inj (HXJ.out.symm.trans hy)
              exact he
            · exact HD.out q y (by omega) hy
          go_wp2_with (fail)
          go_roundw
          · exact ⟨j + 1, by omega, by go_num, trivial, HD'⟩
          · simp [intOf]; omega
        · have HE : Hid (rpr id X = (x.2.1, true)) := by
            show _ = _
            unfold rpr
            have hl : j < X.length := by rw [← HN.out]; exact hlt
            have hxj := HXJ.out
            have hfi : X.findIdx? (fun x => x.1 == id) = some j := List.findIdx?_eq_some_iff_getElem.2 ⟨hl, by
              obtain ⟨_, h2⟩ := List.getElem?_eq_some_iff.1 hxj
              rw [h2]; exact he, fun q hq => by
              rw [HD.out q _ hq (List.getElem?_eq_getElem (by omega))]; simp⟩
            rw [hfi]
            simp [hxj]
          go_wp2_with (fail)
          exact bodyPost_ret (v := .tuple #[.int .i64 x.2.1, .bool true]) (by kernel_rfl) rfl ⟨by rw [HE.out], HC.out⟩
      · obtain rfl : j = n := by omega
        have d0 : decide ((j : Int) < (j : Int)) = false := by simp
        have HE : Hid (rpr id X = (0, false)) := by
          show _ = _
          unfold rpr
          rw [List.findIdx?_eq_none_iff.2 (fun y hy => by
            obtain ⟨q, hq⟩ := List.getElem?_of_mem hy
            have := (List.getElem?_eq_some_iff.1 hq).1
            exact HD.out q y (by rw [HN.out]; omega) hq)]
        go_wp2_with (fail)
        exact bodyPost_ret (v := .tuple #[.int .i64 0, .bool false]) (by kernel_rfl) rfl ⟨by rw [HE.out], HC.out⟩
theorem rput_bad {w : World} {v : Value} {X : List Tri} (h : Rf w v X) (N T id pri : Int) (hid : id < 1 ∨ N < id) :
    Calls Try.prog 19 #[.agg (rl N v T).toArray, .int .i64 id, .int .i64 pri] w fun e w' => e = .returned (.tuple #[.agg (rl N v T).toArray, .bool false]) ∧ Ch No w w' := by
  have hv1 := h.one
  have H1 := Lib.hid (rl_one (N := N) (T := T) hv1)
  have HB0 : Hid (Row ((w.alloc (.cells (rl N v T).toArray 28)).alloc (.cells (rl 0 (.slice none 0 0) 0).toArray 28)) w.heap.size 28 (rl N v T)) := (Row.new w 28 (rl N v T)).alloc _
  have HB1 : Hid (Row ((w.alloc (.cells (rl N v T).toArray 28)).alloc (.cells (rl 0 (.slice none 0 0) 0).toArray 28)) (w.heap.size + 1) 28 (rl 0 (.slice none 0 0) 0)) := Row.new_at _ 28 _ (by simp)
  have HC : Hid (Ch No w ((w.alloc (.cells (rl N v T).toArray 28)).alloc (.cells (rl 0 (.slice none 0 0) 0).toArray 28))) := ((Ch.refl _ _).alloc _).alloc _
  clear h
  go_enter Try.func19, Try.ntmps19
  go_upto_region 1 with (fail)
  change Code.wp _ _ _ _ ((w.alloc (.cells (rl N v T).toArray 28)).alloc (.cells (rl 0 (.slice none 0 0) 0).toArray 28))
  generalize (w.alloc (.cells (rl N v T).toArray 28)).alloc (.cells (rl 0 (.slice none 0 0) 0).toArray 28) = w1 at *
  have c0 : w1.cell? ⟨w.heap.size, 0, none⟩ = some (.int .i64 N) := by rw [HB0.out.cell]; rfl
  have hb0 := HB0.out.lt
  by_cases h0 : id < 1
  · have d0 : decide (id < 1) = true := decide_eq_true h0
    go_wp2_with (first | ((with_reducible refine at_op (o := ⟨some 17, .load 28 (.tmp 3), _, _, _, _⟩) ?_); refine pl_load rfl 28 (.tmp 3) rfl w.heap.size rfl 28 (rl N v T) HB0.out _ Try.underlying28 rfl size28 ?_) | ((with_reducible refine at_op (o := ⟨none, .store 28 (.tmp 6) (.tmp 17), _, _, _, _⟩) ?_); refine pl_store rfl 28 (.tmp 6) (.tmp 17) rfl (w.heap.size + 1) rfl 28 (rl 0 (.slice none 0 0) 0) (rl N v T) rfl HB1.out size28 rfl H1.out ?_; intro w4 hr4 hc4; have HR4 := Lib.hid hr4; have HC4 := Lib.hid hc4; clear hr4 hc4))
    exact bodyPost_ret (v := .tuple #[.agg (rl N v T).toArray, .bool false]) (results_row2 rfl _ _ (w.heap.size + 1) 28 _ _ rfl HR4.out Try.underlying28 rfl size28 _ rfl) rfl ⟨rfl, ch_newg HC.out HC4.out (by omega)⟩
  · have d0 : decide (id < 1) = false := decide_eq_false h0
    have d1 : decide (N < id) = true := decide_eq_true (by omega)
    go_wp2_with (first | ((with_reducible refine at_op (o := ⟨some 17, .load 28 (.tmp 3), _, _, _, _⟩) ?_); refine pl_load rfl 28 (.tmp 3) rfl w.heap.size rfl 28 (rl N v T) HB0.out _ Try.underlying28 rfl size28 ?_) | ((with_reducible refine at_op (o := ⟨none, .store 28 (.tmp 6) (.tmp 17), _, _, _, _⟩) ?_); refine pl_store rfl 28 (.tmp 6) (.tmp 17) rfl (w.heap.size + 1) rfl 28 (rl 0 (.slice none 0 0) 0) (rl N v T) rfl HB1.out size28 rfl H1.out ?_; intro w4 hr4 hc4; have HR4 := Lib.hid hr4; have HC4 := Lib.hid hc4; clear hr4 hc4))
    exact bodyPost_ret (v := .tuple #[.agg (rl N v T).toArray, .bool false]) (results_row2 rfl _ _ (w.heap.size + 1) 28 _ _ rfl HR4.out Try.underlying28 rfl size28 _ rfl) rfl ⟨rfl, ch_newg HC.out HC4.out (by omega)⟩
end Go.Proofs.Ytbcnkggecgblbaa
