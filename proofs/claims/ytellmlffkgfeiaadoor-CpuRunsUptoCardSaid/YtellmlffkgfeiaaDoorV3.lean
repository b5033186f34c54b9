/- The document's answer: is an instruction legal? -/
import Derived.Test.YtellmlffkgfeiaaDoorV1
import Derived.Test.YtellmlffkgfeiaaDoorC8a
import Derived.Deep.RegionWith
set_option linter.unusedVariables false
set_option linter.unusedSimpArgs false
namespace Go.Proofs.YtellmlffkgfeiaaDoor
open Go.RowKit
/-- what operations 7 to 9 and 12 to 21 reckon -/
def recF (op : Nat) (b c : Int) : Int :=
  match op with
  | 7 => Fadd b c
  | 18 => Fadd b c
  | 8 => Fsub b c
  | 9 => Fmul b c
  | 12 => Fand b c
  | 13 => For b c
  | 14 => Fxor b c
  | 15 => Fshl b c
  | 16 => Fshr b c
  | 17 => Fsar b c
  | 19 => Fslt b c
  | 20 => Fsltu b c
  | _ => Fseq b c
theorem reckoned_71 (op : Nat) (hop : op = 7 ∨ op = 18 ∨ op = 8 ∨ op = 9 ∨ op = 12 ∨ op = 13 ∨ op = 14 ∨ op = 15 ∨ op = 16 ∨ op = 17 ∨ op = 19 ∨ op = 20 ∨ op = 21) (b c : Int) (hb : In64 b) (hc : In64 c) (w : World) :
    Calls Tryd.prog 71 #[.int .u8 op, .int .i64 b, .int .i64 c] w fun e w' => e = .returned (.int .i64 (recF op b c)) ∧ w = w' := by
  have HB := Lib.hid hb
  have HC := Lib.hid hc
  clear hb hc
  rcases hop with rfl | rfl | rfl | rfl | rfl | rfl | rfl | rfl | rfl | rfl | rfl | rfl | rfl
  · go_enter Tryd.func71, Tryd.ntmps71
    go_wp2
    go_ret
    exact ⟨ret_i64 (add_is b c), rfl⟩
  · go_enter Tryd.func71, Tryd.ntmps71
    go_wp2
    go_ret
    exact ⟨ret_i64 (add_is b c), rfl⟩
  · go_enter Tryd.func71, Tryd.ntmps71
    go_wp2
    go_ret
    exact ⟨ret_i64 (sub_is b c), rfl⟩
  · go_enter Tryd.func71, Tryd.ntmps71
    go_wp2
    go_ret
    exact ⟨ret_i64 (mul_is b c), rfl⟩
  · go_enter Tryd.func71, Tryd.ntmps71
    go_wp2
    go_ret
    exact ⟨ret_i64 (and_is b c), rfl⟩
  · go_enter Tryd.func71, Tryd.ntmps71
    go_wp2
    go_ret
    exact ⟨ret_i64 (or_is b c), rfl⟩
  · go_enter Tryd.func71, Tryd.ntmps71
    go_wp2
    go_ret
    exact ⟨ret_i64 (xor_is b c), rfl⟩
  · go_enter Tryd.func71, Tryd.ntmps71
    go_wp2_with (go_at_call 83; refine (shifted_15 _ _ HB.out HC.out _).mono ?_; rintro e w' ⟨rfl, rfl⟩)
    go_ret
    exact ⟨rfl, rfl⟩
  · go_enter Tryd.func71, Tryd.ntmps71
    go_wp2_with (go_at_call 83; refine (shifted_16 _ _ HB.out HC.out _).mono ?_; rintro e w' ⟨rfl, rfl⟩)
    go_ret
    exact ⟨rfl, rfl⟩
  · go_enter Tryd.func71, Tryd.ntmps71
    go_wp2_with (go_at_call 83; refine (shifted_17 _ _ HB.out HC.out _).mono ?_; rintro e w' ⟨rfl, rfl⟩)
    go_ret
    exact ⟨rfl, rfl⟩
  · go_enter Tryd.func71, Tryd.ntmps71
    go_wp2_with (go_at_call 84; refine (flag_84 _ _).mono ?_; rintro e w1 ⟨rfl, rfl⟩)
    all_goals go_ret
    all_goals exact ⟨ret_i64 (by simp [recF, Fslt]; omega), rfl⟩
  · go_enter Tryd.func71, Tryd.ntmps71
    go_wp2_with (first | (go_at_call 85; refine (below_85 _ _ HB.out HC.out _).mono ?_; rintro e w1 ⟨rfl, rfl⟩) | (go_at_call 84; refine (flag_84 _ _).mono ?_; rintro e w1 ⟨rfl, rfl⟩))
    all_goals go_ret
    all_goals exact ⟨ret_i64 (by simp [recF, Fsltu]; omega), rfl⟩
  · go_enter Tryd.func71, Tryd.ntmps71
    go_wp2_with (go_at_call 84; refine (flag_84 _ _).mono ?_; rintro e w1 ⟨rfl, rfl⟩)
    all_goals go_ret
    all_goals exact ⟨ret_i64 (by simp_all [recF, Fseq]), rfl⟩
theorem known81_yes (op : Nat) (h0 : 0 < op) (h : op < 28) (w : World) : Calls Tryd.prog 81 #[.int .u8 op] w fun e w' => e = .returned (.bool true) ∧ w = w' := by
  have d1 : (op : Int) ≥ 1 := by omega
  have d2 : (op : Int) ≤ 27 := by omega
  go_enter Tryd.func81, Tryd.ntmps81
  go_wp2
  go_ret
  exact ⟨by first | rfl | (simp; done) | (simp; omega), rfl⟩
theorem known81_no (op : Nat) (h : op = 0 ∨ 28 ≤ op) (w : World) : Calls Tryd.prog 81 #[.int .u8 op] w fun e w' => e = .returned (.bool false) ∧ w = w' := by
  have H := Lib.hid h
  clear h
  go_enter Tryd.func81, Tryd.ntmps81
  go_wp2
  all_goals go_ret
  all_goals exact ⟨by have := H.out; first | rfl | (simp; done) | (simp; omega), rfl⟩
theorem register65 (r : Nat) (named : Bool) (w : World) : Calls Tryd.prog 65 #[.int .u8 r, .bool named] w fun e w' => e = .returned (.bool (if named then decide (r ≤ 15) else decide (r = 0))) ∧ w = w' := by
  cases named
  all_goals
    go_enter Tryd.func65, Tryd.ntmps65
    go_wp2
    go_ret
    exact ⟨congrArg (fun b => Ending.returned (Value.bool b)) (by rw [Bool.eq_iff_iff]; first | (simp; done) | (simp; omega)), rfl⟩
/-- has a shape the letter? -/
def hasF (l : List UInt8) (x : Nat) : Bool := l.any fun u => u.toNat == x
theorem hasF_snoc (l : List UInt8) (u : UInt8) (x : Nat) : hasF (l ++ [u]) x = (hasF l x || (u.toNat == x)) := by simp [hasF]
theorem hasF_of (l : List UInt8) (x k : Nat) (hk : k < l.length) (h : l[k].toNat = x) : hasF l x = true := by
  unfold hasF
  rw [List.any_eq_true]
  exact ⟨l[k], List.getElem_mem hk, by simp [h]⟩
set_option maxHeartbeats 1000000 in
theorem has66 (l : List UInt8) (hll : l.length ≤ 1000) (x : Nat) (w : World) : Calls Tryd.prog 66 #[.string (strOf l), .int .u8 x] w fun e w' => e = .returned (.bool (hasF l x)) ∧ w = w' := by
  have hsz : (strOf l).size = l.length := rfl
  go_enter Tryd.func66, Tryd.ntmps66
  go_wp2
  go_loop [5] (fun i => ∃ k : Nat, k ≤ l.length ∧ i = .int .i64 k ∧ Hid (hasF (l.take k) x = false)) (fun i => l.length - (intOf i).toNat)
  case atStart => exact ⟨0, Nat.zero_le _, rfl, by show _ = _; simp [hasF]⟩
  case round =>
    obtain ⟨k, hk, rfl, hpre⟩ := hrel
    by_cases hlt : k < l.length
    · have hlt' : k < (strOf l).size := hlt
      have HG : Hid ((strOf l)[k] = l[k]) := rfl
      by_cases he : l[k].toNat = x
      · have hb : (((strOf l)[k].toNat : Int) == (x : Int)) = true := by rw [HG.out]; simp; omega
        have HE := Lib.hid (hasF_of l x k hlt he)
        clear he
        go_wp2
        go_ret
        exact ⟨by rw [HE.out]; rfl, rfl⟩
      · have hb : (((strOf l)[k].toNat : Int) == (x : Int)) = false := by rw [HG.out]; simp; omega
        have HE : Hid (hasF (l.take (k + 1)) x = false) := by
          show _ = _
          rw [List.take_succ_eq_append_getElem hlt, hasF_snoc, hpre.out]
          rw [Bool.false_or]
          exact beq_eq_false_iff_ne.2 he
        clear he
        go_wp2
        go_round
        case rel => exact ⟨k + 1, by omega, by go_num, HE⟩
        case measure => simp [intOf]; omega
    · go_wp2
      go_ret
      have := hpre.out
      rw [List.take_of_length_le (by omega)] at this
      exact ⟨by rw [this]; rfl, rfl⟩
/-! the shapes -/
def shapeVals : List Value := shapes.map fun l => Value.string (strOf l)
theorem shapeVals_get (op : Nat) (h : op < 28) : shapeVals[op]? = some (.string (strOf (shapeOf op))) := by
  have hl : shapes.length = 28 := rfl
  simp [shapeVals, shapeOf, hl, h]
theorem shapes82 (w : World) : Calls Tryd.prog 82 #[] w fun e w' => ∃ g, e = .returned (.slice (some ⟨g, 0, none⟩) 28 28) ∧ Row w' g 9 shapeVals ∧ Ch No w w' := by
  have HR : Hid (Row (w.alloc (.cells shapeVals.toArray 9)) w.heap.size 9 shapeVals) := Row.new w 9 shapeVals
  go_enter Tryd.func82, Tryd.ntmps82
  go_wp2
  go_ret
  exact ⟨_, rfl, HR.out, (Ch.refl No w).alloc _⟩
theorem shape64_no (op : Nat) (h : op = 0 ∨ 28 ≤ op) (w : World) : Calls Tryd.prog 64 #[.int .u8 op] w fun e w' => e = .returned (.tuple #[.string ⟨#[]⟩, .bool false]) ∧ w = w' := by
  have H := Lib.hid h
  clear h
  go_enter Tryd.func64, Tryd.ntmps64
  go_wp2_with (go_at_call 81; refine (known81_no _ H.out _).mono ?_; rintro e w' ⟨rfl, rfl⟩)
  go_ret2
  exact ⟨rfl, rfl⟩
theorem shape64_yes (op : Nat) (h0 : 0 < op) (h : op < 28) (w : World) : Calls Tryd.prog 64 #[.int .u8 op] w fun e w' => e = .returned (.tuple #[.string (strOf (shapeOf op)), .bool true]) ∧ Ch No w w' := by
  have d1 : (op : Int) < 28 := by omega
  have HF : Hid (∀ (W : World) (g : Nat), Row W g 9 shapeVals → W.cell? ⟨g, op, none⟩ = some (.string (strOf (shapeOf op)))) := fun W g hr => by rw [hr.cell, shapeVals_get op h]
  go_enter Tryd.func64, Tryd.ntmps64
  go_wp2_with (first | (go_at_call 81; refine (known81_yes _ h0 h _).mono ?_; rintro e w' ⟨rfl, rfl⟩) | (go_at_call 82; refine (shapes82 _).mono ?_; rintro e w1 ⟨g, rfl, hr, hc⟩; have f1 := HF.out _ _ hr; have HC := Lib.hid hc; clear hr hc))
  go_ret2
  exact ⟨rfl, HC.out⟩
/-! is an instruction legal? -/
def regB (r : Nat) (named : Bool) : Bool := if named then decide (r ≤ 15) else decide (r = 0)
theorem reg65 (r : Nat) (named : Bool) (w : World) : Calls Tryd.prog 65 #[.int .u8 r, .bool named] w fun e w' => e = .returned (.bool (regB r named)) ∧ w = w' := register65 r named w
def legalR (l : List UInt8) (a b c : Nat) (n : Int) : Bool := regB a (hasF l 97) && regB b (hasF l 98) && regB c (hasF l 99) && (hasF l 110 || hasF l 112 || n == 0)
theorem legalR_is (op a b c : Nat) (n : Int) (h0 : 0 < op) (h : op < 28) : legalR (shapeOf op) a b c n = legal op a b c n := by
  have hop : op = 1 ∨ op = 2 ∨ op = 3 ∨ op = 4 ∨ op = 5 ∨ op = 6 ∨ op = 7 ∨ op = 8 ∨ op = 9 ∨ op = 10 ∨ op = 11 ∨ op = 12 ∨ op = 13 ∨ op = 14 ∨ op = 15 ∨ op = 16 ∨ op = 17 ∨ op = 18 ∨ op = 19 ∨ op = 20 ∨ op = 21 ∨ op = 22 ∨ op = 23 ∨ op = 24 ∨ op = 25 ∨ op = 26 ∨ op = 27 := by omega
  rcases hop with rfl | rfl | rfl | rfl | rfl | rfl | rfl | rfl | rfl | rfl | rfl | rfl | rfl | rfl | rfl | rfl | rfl | rfl | rfl | rfl | rfl | rfl | rfl | rfl | rfl | rfl | rfl
  all_goals
    rw [Bool.eq_iff_iff]
    simp [legalR, legal, regB, hasF, shapeOf, shapes, goL]
    try omega

open Go.RowKit
theorem has_n (l : List UInt8) (hll : l.length ≤ 1000) (x : Nat) (y : Int) (hy : y = (x : Int)) (w : World) : Calls Tryd.prog 66 #[.string (strOf l), .int .u8 y] w fun e w' => e = .returned (.bool (hasF l x)) ∧ w' = w := by
  subst hy
  exact (has66 l hll x w).mono fun _ _ h => ⟨h.1, h.2.symm⟩
theorem reg_n (r : Nat) (named : Bool) (w : World) : Calls Tryd.prog 65 #[.int .u8 r, .bool named] w fun e w' => e = .returned (.bool (regB r named)) ∧ w' = w := (reg65 r named w).mono fun _ _ h => ⟨h.1, h.2.symm⟩
set_option maxHeartbeats 2000000 in
theorem legal28_no (op a b c : Nat) (n : Int) (h : op = 0 ∨ 28 ≤ op) (w : World) : Calls Tryd.prog 28 #[.agg #[.int .u8 op, .int .u8 a, .int .u8 b, .int .u8 c, .int .i32 n]] w fun e w' => e = .returned (.bool false) ∧ Ch No w w' := by
  have H := Lib.hid h
  clear h
  go_enter Tryd.func28, Tryd.ntmps28
  go_wp2_with (go_at_call 64; refine (shape64_no _ H.out _).mono ?_; rintro e w' ⟨rfl, rfl⟩)
  go_quiet (fail)
  go_wp2
  go_ret
  exact ⟨rfl, ((Ch.refl No w).alloc _).drewN _⟩
set_option maxHeartbeats 8000000 in
theorem legal28_l (op a b c : Nat) (n : Int) (h0 : 0 < op) (h : op < 28) (l : List UInt8) (hl : shapeOf op = l) (w : World) : Calls Tryd.prog 28 #[.agg #[.int .u8 op, .int .u8 a, .int .u8 b, .int .u8 c, .int .i32 n]] w fun e w' => e = .returned (.bool (legalR l a b c n)) ∧ Ch No w w' := by
  have hll : l.length ≤ 1000 := by have := shape_len op h; rw [hl] at this; omega
  have HS := Lib.hid (fun W => shape64_yes op h0 h W)
  rw [hl] at HS
  have H97 := Lib.hid (fun W => has_n l hll 97 97 rfl W)
  have H98 := Lib.hid (fun W => has_n l hll 98 98 rfl W)
  have H99 := Lib.hid (fun W => has_n l hll 99 99 rfl W)
  have H110 := Lib.hid (fun W => has_n l hll 110 110 rfl W)
  have H112 := Lib.hid (fun W => has_n l hll 112 112 rfl W)
  have HR0 : Hid (Row (w.alloc (.cells #[.int .u8 op, .int .u8 a, .int .u8 b, .int .u8 c, .int .i32 n] 45)) w.heap.size 45 (insCells op a b c n)) := Row.new w 45 (insCells op a b c n)
  unfold legalR
  generalize hasF l 97 = p97 at *
  generalize hasF l 98 = p98 at *
  generalize hasF l 99 = p99 at *
  generalize hasF l 110 = p110 at *
  generalize hasF l 112 = p112 at *
  clear hl hll h0 h
  go_enter Tryd.func28, Tryd.ntmps28
  go_wp2_with (go_at_call 64; refine (HS.out _).mono ?_; rintro e w1 ⟨rfl, hc⟩; have HC := Lib.hid hc; clear hc)
  have HR1 := Lib.hid (HR0.out.keepNo HC.out)
  have c1 : w1.cell? ⟨w.heap.size, 1, none⟩ = some (.int .u8 a) := HR1.out.cell 1
  have c2 : w1.cell? ⟨w.heap.size, 2, none⟩ = some (.int .u8 b) := HR1.out.cell 2
  have c3 : w1.cell? ⟨w.heap.size, 3, none⟩ = some (.int .u8 c) := HR1.out.cell 3
  have c4 : w1.cell? ⟨w.heap.size, 4, none⟩ = some (.int .i32 n) := HR1.out.cell 4
  have HCC : Hid (Ch No w w1) := ((Ch.refl No w).alloc _).then_ HC.out
  clear HC HR0 HR1 HS
  cases ra : regB a p97 with
  | false =>
    go_quiet ((first | (go_at_call 66; with_reducible exact Calls.quiet_of_same (H97.out _)) | (go_at_call 66; with_reducible exact Calls.quiet_of_same (H98.out _)) | (go_at_call 66; with_reducible exact Calls.quiet_of_same (H99.out _)) | (go_at_call 65; exact Calls.quiet_of_same (reg_n _ _ _))))
    go_wp2
    go_ret
    exact ⟨by simp [ra], HCC.out.drewN _⟩
  | true =>
    cases rb : regB b p98 with
    | false =>
      go_quiet ((first | (go_at_call 66; with_reducible exact Calls.quiet_of_same (H97.out _)) | (go_at_call 66; with_reducible exact Calls.quiet_of_same (H98.out _)) | (go_at_call 66; with_reducible exact Calls.quiet_of_same (H99.out _)) | (go_at_call 65; exact Calls.quiet_of_same (reg_n _ _ _))))
      go_wp2
      go_ret
      exact ⟨by simp [ra, rb], HCC.out.drewN _⟩
    | true =>
      cases rc : regB c p99 with
      | false =>
        go_quiet ((first | (go_at_call 66; with_reducible exact Calls.quiet_of_same (H97.out _)) | (go_at_call 66; with_reducible exact Calls.quiet_of_same (H98.out _)) | (go_at_call 66; with_reducible exact Calls.quiet_of_same (H99.out _)) | (go_at_call 65; exact Calls.quiet_of_same (reg_n _ _ _))))
        go_wp2
        go_ret
        exact ⟨by simp [ra, rb, rc], HCC.out.drewN _⟩
      | true =>
        go_quiet ((first | (go_at_call 66; with_reducible exact Calls.quiet_of_same (H97.out _)) | (go_at_call 66; with_reducible exact Calls.quiet_of_same (H98.out _)) | (go_at_call 66; with_reducible exact Calls.quiet_of_same (H99.out _)) | (go_at_call 65; exact Calls.quiet_of_same (reg_n _ _ _))))
        cases p110 with
        | true =>
          go_wp2_with (go_at_call 66; (with_reducible refine (H110.out _).mono ?_); rintro e w' ⟨rfl, rfl⟩)
          go_ret
          exact ⟨by simp [ra, rb, rc], HCC.out.drewN _⟩
        | false =>
          cases p112 with
          | true =>
            go_wp2_with (first | (go_at_call 66; (with_reducible refine (H110.out _).mono ?_); rintro e w' ⟨rfl, rfl⟩) | (go_at_call 66; (with_reducible refine (H112.out _).mono ?_); rintro e w' ⟨rfl, rfl⟩))
            go_ret
            exact ⟨by simp [ra, rb, rc], HCC.out.drewN _⟩
          | false =>
            go_wp2_with (first | (go_at_call 66; (with_reducible refine (H110.out _).mono ?_); rintro e w' ⟨rfl, rfl⟩) | (go_at_call 66; (with_reducible refine (H112.out _).mono ?_); rintro e w' ⟨rfl, rfl⟩))
            go_ret
            exact ⟨by simp [ra, rb, rc], HCC.out.drewN _⟩
/-- whatever the instruction -/
theorem legal28 (x : Ins) (w : World) : Calls Tryd.prog 28 #[.agg x.cells.toArray] w fun e w' => e = .returned (.bool x.legal) ∧ Ch No w w' := by
  by_cases h : x.op = 0 ∨ 28 ≤ x.op
  · have e : x.legal = false := by
      show legal x.op x.a x.b x.c x.n = false
      unfold legal
      rcases h with h | h
      · rw [h]; rfl
      · have : ¬ x.op < 28 := by omega
        simp [this]
    rw [e]
    exact legal28_no x.op x.a x.b x.c x.n h w
  · have e : x.legal = legalR (shapeOf x.op) x.a x.b x.c x.n := (legalR_is x.op x.a x.b x.c x.n (by omega) (by omega)).symm
    rw [e]
    exact legal28_l x.op x.a x.b x.c x.n (by omega) (by omega) _ rfl w
end Go.Proofs.YtellmlffkgfeiaaDoor
