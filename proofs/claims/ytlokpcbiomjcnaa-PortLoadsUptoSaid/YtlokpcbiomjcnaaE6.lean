/- A port's Last: that tells nothing. -/
import Derived.Test.YtlokpcbiomjcnaaE5
set_option linter.unusedVariables false
set_option linter.unusedSimpArgs false
namespace Go.Proofs.Ytlokpcbiomjcnaa
open Go.RowKit
/-- the cells of the sample -/
theorem end_mid {w : World} {E : Nat} {p : Pt} {vq vd : Value} {has : Bool} {tick lost : Int} (hE : Row w E 95 (ecells p vq has tick vd lost)) : w.rangeAt E 7 [.bool has, .int .i64 tick, vd] := by
  refine row_range hE 7 _ ?_
  intro j v hj
  match j, hj with
  | 0, hj => simpa [ecells] using hj
  | 1, hj => simpa [ecells] using hj
  | 2, hj => simpa [ecells] using hj
/-- a row of one's own, from a smaller base on -/
theorem own_low {w : World} {b b' : Nat} {e : TypeId} {size n : Nat} {v : Value} {xs : List Value} (h : w.ownsRow b e size v n xs) (hb : b' ≤ b) : w.ownsRow b' e size v n xs := by
  refine ⟨h.1, ?_⟩
  rcases h.2 with hn | ⟨g, cap, cur, q1, q2, q3⟩
  · exact .inl hn
  · exact .inr ⟨g, cap, cur, q1, Nat.le_trans hb q2, q3⟩
set_option maxRecDepth 100000 in
theorem last_may_true {w : World} {G M n E : Nat} {f : Int → Option Nat} {m : Int} (hG : Row w G 92 [.map (some M), .int .i64 m]) (hM : PM w M n f) (i : Int) (hi : (Lit.int .i64 i).wf = true) (hf : f i = some E) {p : Pt} {vq : Value} {A : Option Addr} {k c : Nat} {tick lost : Int}  (hE : Row w E 95 (ecells p vq true tick (.slice A k c) lost))
    (hp : p.kind = 0 ∧ p.out = false) (now : Int) (hmy : mayB now = false) :
    Calls Try.prog 14 #[.pointer (some ⟨G, 0, none⟩), .int .i64 i, .int .i64 now] w fun e w' => e = .returned (.tuple #[.slice none 0 0, .int .i64 0, .bool false, .int .i64 2]) ∧ Ch No w w' := by
  have e1 : (p.kind == 0 && p.out == false) = true := by simp [hp]
  have H1 := Lib.hid (own_some hG hM i hi hf hE 0 false)
  rw [e1] at H1
  have H2 := Lib.hid (may_35 now)
  rw [show decide (0 ≤ now ∧ now < 1099511627776) = false from hmy] at H2
  have HF := Lib.hid (end_facts hG hM i hi hf hE)
  have HE := Lib.hid hE
  clear hG hM hf hi hE hp e1 hmy
  go_enter Try.func14, Try.ntmps14
  go_wp2_with (fail)
  refine H1.out.mono ?_
  rintro e w1 ⟨rfl, hc1⟩
  obtain ⟨c1, c2, -, -, -, -, -, -, -, -⟩ := HF.out _ hc1
  have HC1 := Lib.hid hc1
  have HM := Lib.hid (end_mid (HE.out.keepNo hc1))
  have HB1 := Lib.hid hc1.size
  clear hc1
  go_wp2_with (first | ((with_reducible refine at_op (o := ⟨some 27, _, _, _, _, _⟩) ?_); refine wpList_load_mid (op := ⟨some 27, _, _, _, _, _⟩) rfl 34 _ rfl E 7 rfl [.bool true, .int .i64 tick, .slice A k c] _ HM.out Try.underlying34 rfl size34 ?_))
  refine (H2.out _).mono ?_
  rintro e w2 ⟨rfl, hc2⟩
  have HC2 : Hid (Ch No w w2) := (HC1.out.alloc _).then_ hc2
  have HR2 : Hid (Row w2 w1.heap.size 34 [.bool true, .int .i64 tick, .slice A k c]) := (Row.new w1 34 [.bool true, .int .i64 tick, .slice A k c]).keepNo hc2
  have d0 : w2.cell? ⟨w1.heap.size, 0, none⟩ = some (.bool true) := by rw [HR2.out.cell]; rfl
  have d1 : w2.cell? ⟨w1.heap.size, 1, none⟩ = some (.int .i64 tick) := by rw [HR2.out.cell]; rfl
  have d2 : w2.cell? ⟨w1.heap.size, 2, none⟩ = some (.slice A k c) := by rw [HR2.out.cell]; rfl
  clear hc2
  go_wp2_with (fail)
  exact bodyPost_ret (v := .tuple #[.slice none 0 0, .int .i64 0, .bool false, .int .i64 2]) (by kernel_rfl) rfl ⟨rfl, HC2.out⟩
set_option maxRecDepth 100000 in
theorem last_may_false {w : World} {G M n E : Nat} {f : Int → Option Nat} {m : Int} (hG : Row w G 92 [.map (some M), .int .i64 m]) (hM : PM w M n f) (i : Int) (hi : (Lit.int .i64 i).wf = true) (hf : f i = some E) {p : Pt} {vq : Value} {A : Option Addr} {k c : Nat} {tick lost : Int}  (hE : Row w E 95 (ecells p vq false tick (.slice A k c) lost))
    (hp : p.kind = 0 ∧ p.out = false) (now : Int) (hmy : mayB now = false) :
    Calls Try.prog 14 #[.pointer (some ⟨G, 0, none⟩), .int .i64 i, .int .i64 now] w fun e w' => e = .returned (.tuple #[.slice none 0 0, .int .i64 0, .bool false, .int .i64 2]) ∧ Ch No w w' := by
  have e1 : (p.kind == 0 && p.out == false) = true := by simp [hp]
  have H1 := Lib.hid (own_some hG hM i hi hf hE 0 false)
  rw [e1] at H1
  have H2 := Lib.hid (may_35 now)
  rw [show decide (0 ≤ now ∧ now < 1099511627776) = false from hmy] at H2
  have HF := Lib.hid (end_facts hG hM i hi hf hE)
  have HE := Lib.hid hE
  clear hG hM hf hi hE hp e1 hmy
  go_enter Try.func14, Try.ntmps14
  go_wp2_with (fail)
  refine H1.out.mono ?_
  rintro e w1 ⟨rfl, hc1⟩
  obtain ⟨c1, c2, -, -, -, -, -, -, -, -⟩ := HF.out _ hc1
  have HC1 := Lib.hid hc1
  have HM := Lib.hid (end_mid (HE.out.keepNo hc1))
  have HB1 := Lib.hid hc1.size
  clear hc1
  go_wp2_with (first | ((with_reducible refine at_op (o := ⟨some 27, _, _, _, _, _⟩) ?_); refine wpList_load_mid (op := ⟨some 27, _, _, _, _, _⟩) rfl 34 _ rfl E 7 rfl [.bool false, .int .i64 tick, .slice A k c] _ HM.out Try.underlying34 rfl size34 ?_))
  refine (H2.out _).mono ?_
  rintro e w2 ⟨rfl, hc2⟩
  have HC2 : Hid (Ch No w w2) := (HC1.out.alloc _).then_ hc2
  have HR2 : Hid (Row w2 w1.heap.size 34 [.bool false, .int .i64 tick, .slice A k c]) := (Row.new w1 34 [.bool false, .int .i64 tick, .slice A k c]).keepNo hc2
  have d0 : w2.cell? ⟨w1.heap.size, 0, none⟩ = some (.bool false) := by rw [HR2.out.cell]; rfl
  have d1 : w2.cell? ⟨w1.heap.size, 1, none⟩ = some (.int .i64 tick) := by rw [HR2.out.cell]; rfl
  have d2 : w2.cell? ⟨w1.heap.size, 2, none⟩ = some (.slice A k c) := by rw [HR2.out.cell]; rfl
  clear hc2
  go_wp2_with (fail)
  exact bodyPost_ret (v := .tuple #[.slice none 0 0, .int .i64 0, .bool false, .int .i64 2]) (by kernel_rfl) rfl ⟨rfl, HC2.out⟩
set_option maxRecDepth 100000 in
theorem last_young {w : World} {G M n E : Nat} {f : Int → Option Nat} {m : Int} (hG : Row w G 92 [.map (some M), .int .i64 m]) (hM : PM w M n f) (i : Int) (hi : (Lit.int .i64 i).wf = true) (hf : f i = some E) {p : Pt} {vq : Value} {A : Option Addr} {k c : Nat} {tick lost : Int}  (hE : Row w E 95 (ecells p vq true tick (.slice A k c) lost))
    (hp : p.kind = 0 ∧ p.out = false) (now : Int) (hmy : mayB now = true) (hlt : now < tick) :
    Calls Try.prog 14 #[.pointer (some ⟨G, 0, none⟩), .int .i64 i, .int .i64 now] w fun e w' => e = .returned (.tuple #[.slice none 0 0, .int .i64 0, .bool false, .int .i64 2]) ∧ Ch No w w' := by
  have e1 : (p.kind == 0 && p.out == false) = true := by simp [hp]
  have H1 := Lib.hid (own_some hG hM i hi hf hE 0 false)
  rw [e1] at H1
  have H2 := Lib.hid (may_35 now)
  rw [show decide (0 ≤ now ∧ now < 1099511627776) = true from hmy] at H2
  have HF := Lib.hid (end_facts hG hM i hi hf hE)
  have HE := Lib.hid hE
  clear hG hM hf hi hE hp e1 hmy
  go_enter Try.func14, Try.ntmps14
  go_wp2_with (fail)
  refine H1.out.mono ?_
  rintro e w1 ⟨rfl, hc1⟩
  obtain ⟨c1, c2, -, -, -, -, -, -, -, -⟩ := HF.out _ hc1
  have HC1 := Lib.hid hc1
  have HM := Lib.hid (end_mid (HE.out.keepNo hc1))
  have HB1 := Lib.hid hc1.size
  clear hc1
  go_wp2_with (first | ((with_reducible refine at_op (o := ⟨some 27, _, _, _, _, _⟩) ?_); refine wpList_load_mid (op := ⟨some 27, _, _, _, _, _⟩) rfl 34 _ rfl E 7 rfl [.bool true, .int .i64 tick, .slice A k c] _ HM.out Try.underlying34 rfl size34 ?_))
  refine (H2.out _).mono ?_
  rintro e w2 ⟨rfl, hc2⟩
  have HC2 : Hid (Ch No w w2) := (HC1.out.alloc _).then_ hc2
  have HR2 : Hid (Row w2 w1.heap.size 34 [.bool true, .int .i64 tick, .slice A k c]) := (Row.new w1 34 [.bool true, .int .i64 tick, .slice A k c]).keepNo hc2
  have d0 : w2.cell? ⟨w1.heap.size, 0, none⟩ = some (.bool true) := by rw [HR2.out.cell]; rfl
  have d1 : w2.cell? ⟨w1.heap.size, 1, none⟩ = some (.int .i64 tick) := by rw [HR2.out.cell]; rfl
  have d2 : w2.cell? ⟨w1.heap.size, 2, none⟩ = some (.slice A k c) := by rw [HR2.out.cell]; rfl
  clear hc2
  go_wp2_with (fail)
  exact bodyPost_ret (v := .tuple #[.slice none 0 0, .int .i64 0, .bool false, .int .i64 2]) (by kernel_rfl) rfl ⟨rfl, HC2.out⟩
set_option maxRecDepth 100000 in
theorem last_none {w : World} {G M n E : Nat} {f : Int → Option Nat} {m : Int} (hG : Row w G 92 [.map (some M), .int .i64 m]) (hM : PM w M n f) (i : Int) (hi : (Lit.int .i64 i).wf = true) (hf : f i = some E) {p : Pt} {vq : Value} {A : Option Addr} {k c : Nat} {tick lost : Int}  (hE : Row w E 95 (ecells p vq false tick (.slice A k c) lost))
    (hp : p.kind = 0 ∧ p.out = false) (now : Int) (hmy : mayB now = true) :
    Calls Try.prog 14 #[.pointer (some ⟨G, 0, none⟩), .int .i64 i, .int .i64 now] w fun e w' => e = .returned (.tuple #[.slice none 0 0, .int .i64 0, .bool false, .int .i64 0]) ∧ Ch No w w' := by
  have e1 : (p.kind == 0 && p.out == false) = true := by simp [hp]
  have H1 := Lib.hid (own_some hG hM i hi hf hE 0 false)
  rw [e1] at H1
  have H2 := Lib.hid (may_35 now)
  rw [show decide (0 ≤ now ∧ now < 1099511627776) = true from hmy] at H2
  have HF := Lib.hid (end_facts hG hM i hi hf hE)
  have HE := Lib.hid hE
  clear hG hM hf hi hE hp e1 hmy
  go_enter Try.func14, Try.ntmps14
  go_wp2_with (fail)
  refine H1.out.mono ?_
  rintro e w1 ⟨rfl, hc1⟩
  obtain ⟨c1, c2, -, -, -, -, -, -, -, -⟩ := HF.out _ hc1
  have HC1 := Lib.hid hc1
  have HM := Lib.hid (end_mid (HE.out.keepNo hc1))
  have HB1 := Lib.hid hc1.size
  clear hc1
  go_wp2_with (first | ((with_reducible refine at_op (o := ⟨some 27, _, _, _, _, _⟩) ?_); refine wpList_load_mid (op := ⟨some 27, _, _, _, _, _⟩) rfl 34 _ rfl E 7 rfl [.bool false, .int .i64 tick, .slice A k c] _ HM.out Try.underlying34 rfl size34 ?_))
  refine (H2.out _).mono ?_
  rintro e w2 ⟨rfl, hc2⟩
  have HC2 : Hid (Ch No w w2) := (HC1.out.alloc _).then_ hc2
  have HR2 : Hid (Row w2 w1.heap.size 34 [.bool false, .int .i64 tick, .slice A k c]) := (Row.new w1 34 [.bool false, .int .i64 tick, .slice A k c]).keepNo hc2
  have d0 : w2.cell? ⟨w1.heap.size, 0, none⟩ = some (.bool false) := by rw [HR2.out.cell]; rfl
  have d1 : w2.cell? ⟨w1.heap.size, 1, none⟩ = some (.int .i64 tick) := by rw [HR2.out.cell]; rfl
  have d2 : w2.cell? ⟨w1.heap.size, 2, none⟩ = some (.slice A k c) := by rw [HR2.out.cell]; rfl
  clear hc2
  go_wp2_with (fail)
  exact bodyPost_ret (v := .tuple #[.slice none 0 0, .int .i64 0, .bool false, .int .i64 0]) (by kernel_rfl) rfl ⟨rfl, HC2.out⟩
set_option maxRecDepth 100000 in
theorem last_ok {w : World} {G M n E : Nat} {f : Int → Option Nat} {m : Int} (hG : Row w G 92 [.map (some M), .int .i64 m]) (hM : PM w M n f) (i : Int) (hi : (Lit.int .i64 i).wf = true) (hf : f i = some E) {p : Pt} {vq : Value} {A : Option Addr} {k c : Nat} {tick lost : Int}  (hE : Row w E 95 (ecells p vq true tick (.slice A k c) lost))
    (hp : p.kind = 0 ∧ p.out = false) (now : Int) (hmy : mayB now = true) (hle : tick ≤ now) (h0 : 0 ≤ tick) {xs : List Int} (hk : k = xs.length) (hA : Cl w A (ints xs)) (hxl : xs.length ≤ 10000000) :
    Calls Try.prog 14 #[.pointer (some ⟨G, 0, none⟩), .int .i64 i, .int .i64 now] w fun e w' => ∃ v, e = .returned (.tuple #[v, .int .i64 (now - tick), .bool (decide (now - tick ≤ p.refresh)), .int .i64 0]) ∧ w'.ownsRow w.heap.size 2 1 v (ints xs).length (ints xs) ∧ Ch No w w' := by
  have hn : now < 1099511627776 := by
    have := hmy
    simp [mayB] at this
    exact this.2
  have e1 : (p.kind == 0 && p.out == false) = true := by simp [hp]
  have H1 := Lib.hid (own_some hG hM i hi hf hE 0 false)
  rw [e1] at H1
  have H2 := Lib.hid (may_35 now)
  rw [show decide (0 ≤ now ∧ now < 1099511627776) = true from hmy] at H2
  have HF := Lib.hid (end_facts hG hM i hi hf hE)
  have HE := Lib.hid hE
  have H3 := Lib.hid (fun (w' : World) (h : Ch No w w') => clone_36 A xs c hxl w' (hA.keepNo h))
  rw [← hk] at H3
  have hw : wrap64 (now - tick) = now - tick := by unfold wrap64; omega
  have dlt : decide (now < tick) = false := by simp; omega
  clear hG hM hf hi hE hp e1 hmy hA hxl hk
  go_enter Try.func14, Try.ntmps14
  go_wp2_with (fail)
  refine H1.out.mono ?_
  rintro e w1 ⟨rfl, hc1⟩
  obtain ⟨c1, c2, -, -, -, -, -, -, -, -⟩ := HF.out _ hc1
  have HC1 := Lib.hid hc1
  have HM := Lib.hid (end_mid (HE.out.keepNo hc1))
  have HB1 := Lib.hid hc1.size
  clear hc1
  go_wp2_with (first | ((with_reducible refine at_op (o := ⟨some 27, _, _, _, _, _⟩) ?_); refine wpList_load_mid (op := ⟨some 27, _, _, _, _, _⟩) rfl 34 _ rfl E 7 rfl [.bool true, .int .i64 tick, .slice A k c] _ HM.out Try.underlying34 rfl size34 ?_))
  refine (H2.out _).mono ?_
  rintro e w2 ⟨rfl, hc2⟩
  have HC2 : Hid (Ch No w w2) := (HC1.out.alloc _).then_ hc2
  have HR2 : Hid (Row w2 w1.heap.size 34 [.bool true, .int .i64 tick, .slice A k c]) := (Row.new w1 34 [.bool true, .int .i64 tick, .slice A k c]).keepNo hc2
  have d0 : w2.cell? ⟨w1.heap.size, 0, none⟩ = some (.bool true) := by rw [HR2.out.cell]; rfl
  have d1 : w2.cell? ⟨w1.heap.size, 1, none⟩ = some (.int .i64 tick) := by rw [HR2.out.cell]; rfl
  have d2 : w2.cell? ⟨w1.heap.size, 2, none⟩ = some (.slice A k c) := by rw [HR2.out.cell]; rfl
  clear hc2
  obtain ⟨b1, b2, -, -, b5, -, -, -, -, -⟩ := HF.out _ HC2.out
  go_wp2_with (fail)
  go_region_with (go_at_call 36; refine (H3.out _ HC2.out.drew).mono ?_; rintro e w3 ⟨v', rfl, ho, hc3⟩; obtain ⟨b1', b2', -, -, b5', -, -, -, -, -⟩ := HF.out _ (HC2.out.drew.then_ hc3); have HO := Lib.hid ho; have HC3 := Lib.hid (HC2.out.drew.then_ hc3); have HS3 := Lib.hid HC2.out.size; clear ho hc3)
  all_goals go_wp2_with (fail)
  all_goals exact bodyPost_ret (v := .tuple #[v', .int .i64 (now - tick), .bool (decide (now - tick ≤ p.refresh)), .int .i64 0]) (by kernel_rfl) rfl ⟨v', rfl, own_low HO.out HS3.out, HC3.out⟩
end Go.Proofs.Ytlokpcbiomjcnaa
