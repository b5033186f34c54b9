/- ObjectsFlow's walk. -/
import Derived.Test.YtifieahnnklgcaaC8
set_option linter.unusedVariables false
set_option linter.unusedSimpArgs false
namespace Go.Proofs.Ytifieahnnklgcaa
open Go.RowKit
theorem same_self {w : World} {v u : Value} {xs : List Int} (hx : Sl w v xs) (hy : Sl w u xs) : Calls Try.prog 23 #[v, u] w fun e w' => e = .returned (.bool true) ∧ Ch No w w' := by
  refine (same_calls hx hy).mono ?_
  rintro e w' ⟨rfl, hd⟩
  exact ⟨by simp, hd⟩
theorem one59 : (Try.prog.info? 59).map (·.size) = some 1 := by kernel_rfl
/-- &s[i], as an operation of a region's head -/
theorem exec_at {a : Act} {o : Oper} {w : World} (t e : TypeId) (x y : Operand) (ho : o.op = .indexAddr t x y) (hu : Try.prog.underlying t = some (.slice e)) (hs : (Try.prog.info? e).map (·.size) = some 1) (ad : Addr) (n cap i : Nat) (hx : a.eval x = .slice (some ad) n cap) (hy : a.eval y = .int .i64 (i : Int)) (hi : i < n) :
    (execOp a.eval o).run Try.prog w = .ok (.value (.pointer (some (ad.add i)))) w := by
  have h1 : (i : Int) < (n : Int) := by omega
  have h2 : decide ((i : Int) < 0) = false := by simp
  obtain ⟨ti, hti, hts⟩ := Option.map_eq_some_iff.1 hs
  unfold execOp
  simp only [ho]
  generalize a.eval = ρ at *
  simp only [hx, hy]
  go_simp
  simp [sizeOf, typeInfo, hti, hts]
/-- x - y -/
theorem exec_subI {a : Act} {o : Oper} {w : World} (x y : Operand) (ho : o.op = .binOp .sub 3 x y 3) (p r q : Int) (hx : a.eval x = .int .i64 p) (hy : a.eval y = .int .i64 r) (hq : q = p - r) (hb : 0 ≤ q ∧ q ≤ 9223372036854775807) :
    (execOp a.eval o).run Try.prog w = .ok (.value (.int .i64 q)) w := by
  unfold execOp
  simp only [ho, hx, hy]
  go_simp
  rw [IntKind.wrap_i64]
  omega
set_option maxRecDepth 100000 in
theorem flow_out (size depth start most : Int) (S : Option Addr) (sl sc : Nat) (w : World) (hsl : sl ≤ 9223372036854775807)
    (h : size < 0 ∨ 64 < size ∨ depth < 0 ∨ 64 < depth ∨ most < 1 ∨ start < 0 ∨ most < start ∨ 300 < sl) :
    Calls Try.prog 4 #[.int .i64 size, .int .i64 depth, .int .i64 start, .int .i64 most, .slice S sl sc] w fun e w' => e = .returned (.bool true) ∧ w' = w := by
  by_cases h1 : size < 0
  · have d1 : decide (size < 0) = true := decide_eq_true h1
    clear h
    go_enter Try.func4, Try.ntmps4
    go_wp2_with (fail)
    go_ret
    exact ⟨rfl, rfl⟩
  have d1 : decide (size < 0) = false := decide_eq_false h1
  by_cases h2 : 64 < size
  · have d2 : decide (64 < size) = true := decide_eq_true h2
    clear h
    go_enter Try.func4, Try.ntmps4
    go_wp2_with (fail)
    go_ret
    exact ⟨rfl, rfl⟩
  have d2 : decide (64 < size) = false := decide_eq_false h2
  by_cases h3 : depth < 0
  · have d3 : decide (depth < 0) = true := decide_eq_true h3
    clear h
    go_enter Try.func4, Try.ntmps4
    go_wp2_with (fail)
    go_ret
    exact ⟨rfl, rfl⟩
  have d3 : decide (depth < 0) = false := decide_eq_false h3
  by_cases h4 : 64 < depth
  · have d4 : decide (64 < depth) = true := decide_eq_true h4
    clear h
    go_enter Try.func4, Try.ntmps4
    go_wp2_with (fail)
    go_ret
    exact ⟨rfl, rfl⟩
  have d4 : decide (64 < depth) = false := decide_eq_false h4
  by_cases h5 : most < 1
  · have d5 : decide (most < 1) = true := decide_eq_true h5
    clear h
    go_enter Try.func4, Try.ntmps4
    go_wp2_with (fail)
    go_ret
    exact ⟨rfl, rfl⟩
  have d5 : decide (most < 1) = false := decide_eq_false h5
  by_cases h6 : start < 0
  · have d6 : decide (start < 0) = true := decide_eq_true h6
    clear h
    go_enter Try.func4, Try.ntmps4
    go_wp2_with (fail)
    go_ret
    exact ⟨rfl, rfl⟩
  have d6 : decide (start < 0) = false := decide_eq_false h6
  by_cases h7 : most < start
  · have d7 : decide (most < start) = true := decide_eq_true h7
    clear h
    go_enter Try.func4, Try.ntmps4
    go_wp2_with (fail)
    go_ret
    exact ⟨rfl, rfl⟩
  have d7 : decide (most < start) = false := decide_eq_false h7
  have d8 : decide (300 < (sl : Int)) = true := decide_eq_true (by omega)
  clear h
  go_enter Try.func4, Try.ntmps4
  go_wp2_with (fail)
  go_ret
  exact ⟨rfl, rfl⟩
set_option maxHeartbeats 8000000 in
set_option maxRecDepth 100000 in
theorem flow_in (size depth start most : Int) (S : Option Addr) (os : List OpR) (sc : Nat) (w : World) (hs : Opl w S os) (hz : 0 ≤ size ∧ size ≤ 64) (hd : 0 ≤ depth ∧ depth ≤ 64) (hm : 1 ≤ most ∧ most ≤ 9223372036854775807) (hst : 0 ≤ start ∧ start ≤ most) (hos : os.length ≤ 300) :
    Calls Try.prog 4 #[.int .i64 size, .int .i64 depth, .int .i64 start, .int .i64 most, .slice S os.length sc] w fun e w' => e = .returned (.bool true) ∧ Ch No w w' := by
  have HOS := Lib.hid hs
  clear hs
  have d1 : decide (size < 0) = false := decide_eq_false (by omega)
  have d2 : decide (64 < size) = false := decide_eq_false (by omega)
  have d3 : decide (depth < 0) = false := decide_eq_false (by omega)
  have d4 : decide (64 < depth) = false := decide_eq_false (by omega)
  have d5 : decide (most < 1) = false := decide_eq_false (by omega)
  have d6 : decide (start < 0) = false := decide_eq_false (by omega)
  have d7 : decide (most < start) = false := decide_eq_false (by omega)
  have d8 : decide (300 < (os.length : Int)) = false := decide_eq_false (by omega)
  have hos63 : os.length ≤ 9223372036854775807 := by omega
  go_enter Try.func4, Try.ntmps4
  go_upto_region 3 with (fail)
  have HZ : Hid (Row (((w.alloc (.cells [.int .i64 start, .int .i64 most].toArray 55)).alloc (.cells [.int .i64 size, .int .i64 depth].toArray 57)).alloc (.cells (pcs (.slice none 0 0) (.slice none 0 0)).toArray 32)) (w.heap.size + 2) 32 (pcs (.slice none 0 0) (.slice none 0 0))) := Row.new_at _ 32 _ (by simp)
  have HA0 : Hid (Row (((w.alloc (.cells [.int .i64 start, .int .i64 most].toArray 55)).alloc (.cells [.int .i64 size, .int .i64 depth].toArray 57)).alloc (.cells (pcs (.slice none 0 0) (.slice none 0 0)).toArray 32)) w.heap.size 55 [.int .i64 start, .int .i64 most]) := ((Row.new w 55 _).alloc _).alloc _
  have HQ0 : Hid (Row (((w.alloc (.cells [.int .i64 start, .int .i64 most].toArray 55)).alloc (.cells [.int .i64 size, .int .i64 depth].toArray 57)).alloc (.cells (pcs (.slice none 0 0) (.slice none 0 0)).toArray 32)) (w.heap.size + 1) 57 [.int .i64 size, .int .i64 depth]) := (Row.new_at _ 57 _ (by simp)).alloc _
  have HC0 : Hid (Ch No w (((w.alloc (.cells [.int .i64 start, .int .i64 most].toArray 55)).alloc (.cells [.int .i64 size, .int .i64 depth].toArray 57)).alloc (.cells (pcs (.slice none 0 0) (.slice none 0 0)).toArray 32))) := (((Ch.refl _ _).alloc _).alloc _).alloc _
  have HP1 := Lib.hid (pcs_one w.heap.size 1 (w.heap.size + 1) 1)
  go_upto_region 4 with (first | ((with_reducible refine at_op (o := ⟨some 73, .build 32 #[(8, .tmp 68), (10, .tmp 72)], _, _, _, _⟩) ?_); refine pl_value rfl _ (exec_build32 (.tmp 68) (.tmp 72) rfl w.heap.size (w.heap.size + 1) rfl rfl) ?_) | ((with_reducible refine at_op (o := ⟨none, .store 32 (.tmp 11) (.tmp 73), _, _, _, _⟩) ?_); refine pl_store rfl 32 (.tmp 11) (.tmp 73) rfl (w.heap.size + 2) rfl 32 (pcs (.slice none 0 0) (.slice none 0 0)) (pcs (.slice (some ⟨w.heap.size, 0, none⟩) 1 1) (.slice (some ⟨w.heap.size + 1, 0, none⟩) 1 1)) rfl HZ.out size32 rfl HP1.out ?_; intro w3 hr3 hc3; have HR3 := Lib.hid hr3; have HC3 := Lib.hid hc3; clear hr3 hc3))
  have HA3 := Lib.hid (HA0.out.keepIs HC3.out (by simp))
  have HQ3 := Lib.hid (HQ0.out.keepIs HC3.out (by simp))
  have HCC3 : Hid (Ch No w w3) := ch_newg HC0.out HC3.out (by omega)
  clear HZ HA0 HQ0 HC0 HC3
  go_wp2_with ((with_reducible refine at_op (o := ⟨some 74, .load 32 (.tmp 11), _, _, _, _⟩) ?_); refine pl_load rfl 32 (.tmp 11) rfl (w.heap.size + 2) rfl 32 (pcs (.slice (some ⟨w.heap.size, 0, none⟩) 1 1) (.slice (some ⟨w.heap.size + 1, 0, none⟩) 1 1)) HR3.out _ Try.underlying32 rfl size32 ?_)
  refine (new_calls w3 (pcs (.slice (some ⟨w.heap.size, 0, none⟩) 1 1) (.slice (some ⟨w.heap.size + 1, 0, none⟩) 1 1)) w.heap.size 1 (w.heap.size + 1) 1 start most size depth rfl HP1.out rfl rfl rfl HA3.out HQ3.out).mono ?_
  rintro e w4 ⟨s0, rfl, hb4, e1, e2, e3, e4, e5, e6, hc4⟩
  have HF4 : Hid (FB w w.heap.size (w.heap.size + 1) (w.heap.size + 2) start most size depth s0 (.slice none 0 0) [] w4) := ⟨⟨_, hb4, HCC3.out.size⟩, ⟨e2, e3, e4⟩, by omega, ⟨[], by exact owns_nil _ _ _ _, rfl, fun i u hu => by simp at hu⟩, fun k hk => (by cases hk), HR3.out.keepNo hc4, HA3.out.keepNo hc4, HQ3.out.keepNo hc4, HCC3.out.then_ hc4⟩
  have HM4 : Hid (s0.ms = ([] : List (List Int)).drop 0 ∧ 0 ≤ ([] : List (List Int)).length ∧ ([] : List (List Int)).length ≤ 0 ∧ (s0.ms.length : Int) ≤ depth ∧ ∀ xs ∈ ([] : List (List Int)), (xs.length : Int) = size) := ⟨by rw [e5]; rfl, by simp, by simp, by rw [e5]; simp; omega, fun xs hx => by simp at hx⟩
  have HSN : Hid (s0.n = start) := e1
  clear hb4 e1 e2 e3 e4 e5 e6 hc4 HR3 HA3 HQ3 HCC3
  rw [← HSN.out]
  go_wp2_with (fail)
  go_loopw [12, 13, 14, 15, 16] (fun v12 v13 v14 v15 v16 wr => ∃ (j : Nat) (s : SetR) (its : List (List Int)) (out : Nat), j ≤ os.length ∧ v16 = .int .i64 j ∧ v12 = .pointer (some ⟨s.P, 0, none⟩) ∧ v13 = .int .i64 s.n ∧ v15 = .int .i64 (out : Int) ∧ Hid (FB w w.heap.size (w.heap.size + 1) (w.heap.size + 2) start most size depth s v14 its wr) ∧ Hid (s.ms = its.drop out ∧ out ≤ its.length ∧ its.length ≤ j ∧ (s.ms.length : Int) ≤ depth ∧ ∀ xs ∈ its, (xs.length : Int) = size)) (fun _ _ _ _ i _ => os.length - (intOf i).toNat)
  case atStart => exact ⟨0, s0, [], 0, Nat.zero_le _, rfl, rfl, rfl, rfl, HF4, HM4⟩
  case round =>
    clear HF4 HM4 HSN
    obtain ⟨j, s, its, out, hj, rfl, rfl, rfl, rfl, HF, HM⟩ := hrel
    by_cases hlt : j < os.length
    · have d0 : decide ((j : Int) < (os.length : Int)) = true := by simpa using hlt
      have hji : (j : Int) < (os.length : Int) := by omega
      have hits : its.length ≤ 300 := by have := HM.out.2.2.1; omega
      have hout : out ≤ its.length := HM.out.2.1
      obtain ⟨⟨ad, ead, hcell⟩, hda, hd63⟩ := (HOS.out.keep HF.out.ch) j _ (List.getElem?_eq_getElem hlt)
      have hda0 := (HOS.out j _ (List.getElem?_eq_getElem hlt)).2.1
      have HEAD := Lib.hid ead
      generalize os[j] = o at *
      obtain ⟨kd, sc2, nu, up, A, xs, cap⟩ := o
      have hsp := HEAD.out
      subst hsp
      have HSLW : Hid (Sl w (.slice A xs.length cap) xs) := ⟨A, cap, rfl, hda0, hd63⟩
      have c0 := hcell.first rfl
      have c1 := hcell.next 0 rfl
      have c2 := hcell.next 1 rfl
      have c3 := hcell.next 2 rfl
      have c4 := hcell.next 3 rfl
      simp only [Nat.reduceAdd] at c0 c1 c2 c3 c4
      clear hcell hda hda0 HEAD
      go_upto_region 14 with (fail)
      have HA : Hid (Ch No wr (wr.alloc (.cells #[.int .i64 kd, .bool sc2, .int .i64 nu, .bool up, .slice A xs.length cap] 61))) := (Ch.refl _ _).alloc _
      have HB : Hid (Row (wr.alloc (.cells #[.int .i64 kd, .bool sc2, .int .i64 nu, .bool up, .slice A xs.length cap] 61)) wr.heap.size 61 [.int .i64 kd, .bool sc2, .int .i64 nu, .bool up, .slice A xs.length cap]) := Row.new wr 61 _
      have HF2 := Lib.hid (HF.out.no HA.out)
      generalize wr.alloc (.cells #[.int .i64 kd, .bool sc2, .int .i64 nu, .bool up, .slice A xs.length cap] 61) = w2 at *
      generalize wr.heap.size = b17 at *
      clear c0 c1 c2 c3 c4 HF HA
      obtain ⟨base, hb2, hbw⟩ := HF2.out.bs
      have HB2 := Lib.hid hb2
      have e0 : w2.cell? ⟨b17, 0, none⟩ = some (.int .i64 kd) := by rw [HB.out.cell]; rfl
      have e4 : w2.cell? ⟨b17, 4, none⟩ = some (.slice A xs.length cap) := by rw [HB.out.cell]; rfl
      have hbl := HB.out.lt
      have hnn : 0 ≤ s.n ∧ s.n ≤ s.most ∧ s.most ≤ 9223372036854775807 := by
        have h1 := HF2.out.num
        have h2 := HF2.out.par.1
        omega
      have HPAR := Lib.hid HF2.out.par
      clear hb2
      by_cases hk1 : kd = 1
      · subst hk1
        as_aux_lemma =>
          go_wp2_with (fail)
          refine (down_calls HB2.out hnn).mono ?_
          rintro e w3 ⟨rfl, hb3, hc3⟩
          by_cases h0 : 0 < s.n
          · have d9 : decide (0 < s.n) = true := decide_eq_true h0
            rw [if_pos h0] at hb3
            have HF3 : Hid (FB w w.heap.size (w.heap.size + 1) (w.heap.size + 2) start most size depth { s with n := s.n - 1 } u14 its w3) := HF2.out.next hc3 hbw HB2.out hb3 ⟨rfl, rfl, rfl⟩ (by have := HF2.out.num; show 0 ≤ s.n - 1 ∧ s.n - 1 ≤ most; omega) (fun k hk => .inl hk)
            have HM3 : Hid (({ s with n := s.n - 1 } : SetR).ms = its.drop out ∧ out ≤ its.length ∧ its.length ≤ j + 1 ∧ ((({ s with n := s.n - 1 } : SetR).ms.length : Nat) : Int) ≤ depth ∧ ∀ xs ∈ its, (xs.length : Int) = size) := ⟨HM.out.1, HM.out.2.1, by have := HM.out.2.2.1; omega, HM.out.2.2.2⟩
            clear hb3 hc3 HF2 HB2 e0 e4 hbl
            obtain ⟨bt, hbt, _⟩ := HF3.out.bs
            go_wp2_with (fail)
            refine (count_calls hbt).mono ?_
            rintro e w9 ⟨rfl, rfl⟩
            clear hbt
            go_wp2_with (fail)
            go_roundw
            · exact ⟨j + 1, { s with n := s.n - 1 }, its, out, by omega, by go_num, rfl, rfl, rfl, HF3, HM3⟩
            · simp [intOf]; omega
          · have d9 : decide (0 < s.n) = false := decide_eq_false h0
            rw [if_neg h0] at hb3
            have HF3 : Hid (FB w w.heap.size (w.heap.size + 1) (w.heap.size + 2) start most size depth s u14 its w3) := HF2.out.next hc3 hbw HB2.out hb3 ⟨rfl, rfl, rfl⟩ HF2.out.num (fun k hk => .inl hk)
            have HM3 : Hid (s.ms = its.drop out ∧ out ≤ its.length ∧ its.length ≤ j + 1 ∧ (s.ms.length : Int) ≤ depth ∧ ∀ xs ∈ its, (xs.length : Int) = size) := ⟨HM.out.1, HM.out.2.1, by have := HM.out.2.2.1; omega, HM.out.2.2.2⟩
            clear hb3 hc3 HF2 HB2 e0 e4 hbl
            obtain ⟨bt, hbt, _⟩ := HF3.out.bs
            go_wp2_with (fail)
            refine (count_calls hbt).mono ?_
            rintro e w9 ⟨rfl, rfl⟩
            clear hbt
            go_wp2_with (fail)
            go_roundw
            · exact ⟨j + 1, s, its, out, by omega, by go_num, rfl, rfl, rfl, HF3, HM3⟩
            · simp [intOf]; omega
      have hk11 : (kd == 1) = false := by simpa using hk1
      clear hk1
      by_cases hk2 : kd = 2
      · subst hk2
        as_aux_lemma =>
          go_wp2_with (fail)
          refine (up_calls HB2.out hnn).mono ?_
          rintro e w3 ⟨rfl, hb3, hc3⟩
          have hmm := HPAR.out.1
          by_cases h0 : s.n < s.most
          · rw [if_pos h0] at hb3
            have d9 : decide (s.n < most) = true := decide_eq_true (by omega)
            have HF3 : Hid (FB w w.heap.size (w.heap.size + 1) (w.heap.size + 2) start most size depth { s with n := s.n + 1 } u14 its w3) := HF2.out.next hc3 hbw HB2.out hb3 ⟨rfl, rfl, rfl⟩ (by have := HF2.out.num; show 0 ≤ s.n + 1 ∧ s.n + 1 ≤ most; omega) (fun k hk => .inl hk)
            have HM3 : Hid (({ s with n := s.n + 1 } : SetR).ms = its.drop out ∧ out ≤ its.length ∧ its.length ≤ j + 1 ∧ ((({ s with n := s.n + 1 } : SetR).ms.length : Nat) : Int) ≤ depth ∧ ∀ xs ∈ its, (xs.length : Int) = size) := ⟨HM.out.1, HM.out.2.1, by have := HM.out.2.2.1; omega, HM.out.2.2.2⟩
            rw [hmm]
            clear hb3 hc3 HF2 HB2 e0 e4 hbl hmm
            obtain ⟨bt, hbt, _⟩ := HF3.out.bs
            go_wp2_with (fail)
            refine (count_calls hbt).mono ?_
            rintro e w9 ⟨rfl, rfl⟩
            clear hbt
            go_wp2_with (fail)
            go_roundw
            · exact ⟨j + 1, { s with n := s.n + 1 }, its, out, by omega, by go_num, rfl, rfl, rfl, HF3, HM3⟩
            · simp [intOf]; omega
          · rw [if_neg h0] at hb3
            have d9 : decide (s.n < most) = false := decide_eq_false (by omega)
            have HF3 : Hid (FB w w.heap.size (w.heap.size + 1) (w.heap.size + 2) start most size depth s u14 its w3) := HF2.out.next hc3 hbw HB2.out hb3 ⟨rfl, rfl, rfl⟩ HF2.out.num (fun k hk => .inl hk)
            have HM3 : Hid (s.ms = its.drop out ∧ out ≤ its.length ∧ its.length ≤ j + 1 ∧ (s.ms.length : Int) ≤ depth ∧ ∀ xs ∈ its, (xs.length : Int) = size) := ⟨HM.out.1, HM.out.2.1, by have := HM.out.2.2.1; omega, HM.out.2.2.2⟩
            rw [hmm]
            clear hb3 hc3 HF2 HB2 e0 e4 hbl hmm
            obtain ⟨bt, hbt, _⟩ := HF3.out.bs
            go_wp2_with (fail)
            refine (count_calls hbt).mono ?_
            rintro e w9 ⟨rfl, rfl⟩
            clear hbt
            go_wp2_with (fail)
            go_roundw
            · exact ⟨j + 1, s, its, out, by omega, by go_num, rfl, rfl, rfl, HF3, HM3⟩
            · simp [intOf]; omega
      have hk22 : (kd == 2) = false := by simpa using hk2
      clear hk2
      have HMS : Hid (s.ms = its.drop out ∧ out ≤ its.length ∧ its.length ≤ j + 1 ∧ (s.ms.length : Int) ≤ depth ∧ ∀ xs ∈ its, (xs.length : Int) = size) := ⟨HM.out.1, HM.out.2.1, by have := HM.out.2.2.1; omega, HM.out.2.2.2⟩
      by_cases hk4 : kd = 4
      · have hk44 : (kd == 4) = true := by simpa using hk4
        clear hk4
        as_aux_lemma =>
          obtain ⟨svi, hi1, hi2, _⟩ := HF2.out.inl
          obtain ⟨B, bc, hiv, _⟩ := own_slice hi1
          rw [hi2] at hiv
          subst hiv
          clear hi1 hi2
          have HPZ : Hid (s.siz = size) := HPAR.out.2.2
          have HPD : Hid (s.dep = depth) := HPAR.out.2.1
          by_cases hl : (xs.length : Int) = size
          · have dl : ((xs.length : Int) == size) = true := by simpa using hl
            have HPC := Lib.hid (put_calls HB2.out (.slice A xs.length cap) xs (HSLW.out.keepNo HF2.out.ch) (by rw [HPZ.out]; exact hl) (by rw [HPZ.out]; omega) (by rw [HPD.out]; omega))
            have HL := Lib.hid hl
            clear hl
            go_wp2_with (fail)
            refine HPC.out.mono ?_
            rintro e w3 ⟨rfl, ⟨s', hb', hor, hne, hfr⟩, hc3⟩
            rw [HPD.out]
            have HB3 : Hid (Row w3 b17 61 [.int .i64 kd, .bool sc2, .int .i64 nu, .bool up, .slice A xs.length cap]) := HB2.out.rowK hc3 HB.out (by decide) (by decide) (by decide) (by decide)
            have e43 : w3.cell? ⟨b17, 4, none⟩ = some (.slice A xs.length cap) := by rw [HB3.out.cell]; rfl
            have hbl3 := HB3.out.lt
            have hml : (s.ms.length : Int) = (its.length : Int) - (out : Int) := by
              rw [HM.out.1, List.length_drop]
              omega
            by_cases hr : (s.ms.length : Int) < depth
            · have dr : decide ((s.ms.length : Int) < depth) = true := decide_eq_true hr
              have dq : decide ((its.length : Int) - (out : Int) < depth) = true := decide_eq_true (by omega)
              have hs' : ∃ vl' u, s' = { s with vl := vl', sv := s.sv ++ [u], ms := s.ms ++ [xs] } := by
                rcases hor with rfl | ⟨vl', u, e, _⟩
                · exact absurd (by rw [HPD.out]; exact hr) (hne rfl)
                · exact ⟨vl', u, e⟩
              obtain ⟨vl', u, rfl⟩ := hs'
              rw [dr]
              have HF3 := Lib.hid (HF2.out.next hc3 hbw HB2.out hb' ⟨rfl, rfl, rfl⟩ HF2.out.num hfr)
              obtain ⟨svi, hi1, hi2, hi3⟩ := HF3.out.inl
              have HI1 : Hid (w3.ownsRow w.heap.size 24 1 (.slice B its.length bc) svi.length svi) := hi1
              have HI2 := Lib.hid hi2
              have HI3 := Lib.hid hi3
              have HBY : Hid ((svi.length + 1) * 24 ≤ 140737488355328) := by show _ ≤ _; rw [hi2]; omega
              have HL1 : Hid (∀ u ∈ [Value.slice A xs.length cap], u.oneCell' = true) := fun u hu => by
                obtain rfl : u = Value.slice A xs.length cap := by simpa using hu
                rfl
              have HCA : Hid (Ch No w3 (w3.alloc (.cells [Value.slice A xs.length cap].toArray 24))) := (Ch.refl _ _).alloc _
              have HBS : Hid (w.heap.size ≤ (w3.alloc (.cells [Value.slice A xs.length cap].toArray 24)).heap.size) := (HF3.out.ch.then_ HCA.out).size
              have HM3 : Hid (s.ms ++ [xs] = (its ++ [xs]).drop out ∧ out ≤ (its ++ [xs]).length ∧ (its ++ [xs]).length ≤ j + 1 ∧ (((s.ms ++ [xs]).length : Nat) : Int) ≤ depth ∧ ∀ ys ∈ its ++ [xs], (ys.length : Int) = size) := by
                refine ⟨?_, ?_, ?_, ?_, fun ys hy => ?_⟩
                · rw [List.drop_append_of_le_length hout, HM.out.1]
                · simp; omega
                · have := HM.out.2.2.1
                  simp; omega
                · simp; omega
                · rcases List.mem_append.1 hy with h | h
                  · exact HM.out.2.2.2.2 ys h
                  · simp at h
                    rw [h]
                    exact HL.out
              clear hb' hor hne hfr hc3 HF2 HB2 e0 e4 hbl hi1 hi2 hi3 hml dr hr HPC HPAR
              go_wp2_with ((with_reducible refine at_op (o := ⟨some 164, .call { callee := .builtin .append, args := #[.tmp 160, .tmp 163], argTypes := #[59, 59] }, _, _, _, _⟩) ?_); refine wpList_append_to rfl (.tmp 160) (.tmp 163) 59 rfl w.heap.size 24 (.slice none 0 0) 24 Try.underlying59 info24 rfl (.slice B its.length bc) svi rfl _ _ _ [Value.slice A xs.length cap] rfl (owns_keepNo HI1.out HCA.out) rfl ((Row.new w3 24 [Value.slice A xs.length cap]).cl0) HL1.out HBY.out (by omega) HBS.out ?_; intro v5 w5 ho5 hg5 hor5; have HF5 := Lib.hid (HF3.out.grow HI1.out HI2.out HI3.out HSLW.out HCA.out ho5 hg5 hor5); clear ho5 hg5 hor5)
              obtain ⟨bt, hbt, _⟩ := HF5.out.bs
              refine (count_calls hbt).mono ?_
              rintro e w9 ⟨rfl, rfl⟩
              clear hbt
              go_wp2_with (fail)
              go_roundw
              · exact ⟨j + 1, { s with vl := vl', sv := s.sv ++ [u], ms := s.ms ++ [xs] }, its ++ [xs], out, by omega, by go_num, rfl, rfl, rfl, HF5, HM3⟩
              · simp [intOf]; omega
            · have dr : decide ((s.ms.length : Int) < depth) = false := decide_eq_false hr
              have dq : decide ((its.length : Int) - (out : Int) < depth) = false := decide_eq_false (by omega)
              have hs' : s' = s := by
                rcases hor with rfl | ⟨vl', u, _, e⟩
                · rfl
                · exact absurd (by rw [HPD.out] at e; exact e) hr
              subst hs'
              rw [dr]
              have HF3 : Hid (FB w w.heap.size (w.heap.size + 1) (w.heap.size + 2) start most size depth s' (.slice B its.length bc) its w3) := HF2.out.next hc3 hbw HB2.out hb' ⟨rfl, rfl, rfl⟩ HF2.out.num hfr
              have HM3 := HMS
              clear hb' hor hne hfr hc3 HF2 HB2 e0 e4 hbl hml dr hr HPC HPAR
              obtain ⟨bt, hbt, _⟩ := HF3.out.bs
              go_wp2_with (fail)
              refine (count_calls hbt).mono ?_
              rintro e w9 ⟨rfl, rfl⟩
              clear hbt
              go_wp2_with (fail)
              go_roundw
              · exact ⟨j + 1, s', its, out, by omega, by go_num, rfl, rfl, rfl, HF3, HM3⟩
              · simp [intOf]; omega
          · have dl : ((xs.length : Int) == size) = false := by simpa using hl
            have HPC := Lib.hid (put_bad HB2.out (.slice A xs.length cap) xs (HSLW.out.keepNo HF2.out.ch) (by rw [HPZ.out]; exact hl))
            clear hl
            go_wp2_with (fail)
            refine HPC.out.mono ?_
            rintro e w3 ⟨rfl, rfl⟩
            have HF3 := HF2
            have HM3 := HMS
            clear HF2 HPC HPAR
            obtain ⟨bt, hbt, _⟩ := HF3.out.bs
            go_wp2_with (fail)
            refine (count_calls hbt).mono ?_
            rintro e w9 ⟨rfl, rfl⟩
            clear hbt
            go_wp2_with (fail)
            go_roundw
            · exact ⟨j + 1, s, its, out, by omega, by go_num, rfl, rfl, rfl, HF3, HM3⟩
            · simp [intOf]; omega
      have hk44 : (kd == 4) = false := by simpa using hk4
      clear hk4
      by_cases hk5 : kd = 5
      · have hk55 : (kd == 5) = true := by simpa using hk5
        clear hk5
        as_aux_lemma =>
          obtain ⟨svi, hi1, hi2, _⟩ := HF2.out.inl
          obtain ⟨B, bc, hiv, _⟩ := own_slice hi1
          rw [hi2] at hiv
          subst hiv
          clear hi1 hi2
          by_cases hro : out < its.length
          · have dq : decide ((out : Int) < (its.length : Int)) = true := decide_eq_true (by omega)
            have hoI : (out : Int) < (its.length : Int) := by omega
            obtain ⟨x, hx⟩ : ∃ x, its[out]? = some x := ⟨_, List.getElem?_eq_getElem hro⟩
            have hms : s.ms = x :: its.drop (out + 1) := by
              rw [HM.out.1, List.drop_eq_getElem_cons hro]
              congr 1
              exact Option.some.inj ((List.getElem?_eq_getElem hro).symm.trans hx)
            obtain ⟨v, sv', hsv⟩ : ∃ v sv', s.sv = v :: sv' := by
              have h1 := HB2.out.len
              rw [hms] at h1
              match hq : s.sv with
              | [] => rw [hq] at h1; simp at h1
              | v :: sv' => exact ⟨v, sv', rfl⟩
            have HGC := Lib.hid (get_yes HB2.out v sv' x (its.drop (out + 1)) hsv hms)
            obtain ⟨x', hx', hmv⟩ := HB2.out.msg 0 v (by rw [hsv]; rfl)
            rw [hms] at hx'
            have hxx : x = x' := by simpa using hx'
            subst hxx
            have HMV := Lib.hid hmv
            have hlx : s.ms.length = its.length - out := by rw [HM.out.1, List.length_drop]
            clear hx' hmv
            go_wp2_with (fail)
            refine HGC.out.mono ?_
            rintro e w3 ⟨rfl, ⟨vl', hb', hfr⟩, hc3⟩
            have HF3 := Lib.hid (HF2.out.next hc3 hbw HB2.out hb' ⟨rfl, rfl, rfl⟩ HF2.out.num hfr)
            have HMV3 : Hid (Ml w3 v x) := HMV.out.other (fun g L hr => HB2.out.rowK hc3 hr (by decide) (by decide) (by decide) (by decide))
            obtain ⟨svi, hi1, hi2, hi3⟩ := HF3.out.inl
            obtain ⟨B', bc', hiv, hcl⟩ := own_slice hi1
            rw [hi2] at hiv
            cases hiv
            obtain ⟨u, hu⟩ : ∃ u, svi[out]? = some u := ⟨svi[out]'(by omega), List.getElem?_eq_getElem _⟩
            obtain ⟨x2, hx2, hsu⟩ := hi3 out u hu
            rw [hx] at hx2
            cases hx2
            obtain ⟨ad2, ead2, hcu⟩ := hcl out u hu
            subst ead2
            obtain ⟨A7, c7, rfl, hcl7, hl7⟩ := hsu
            obtain ⟨A8, c8, rfl, _⟩ := HMV3.out.sl
            have HSU : Hid (Sl w3 (.slice A7 x.length c7) x) := Sl.keepNo ⟨A7, c7, rfl, hcl7, hl7⟩ HF3.out.ch
            have HSC := Lib.hid (same_self HMV3.out.sl HSU.out)
            have HM3 : Hid (its.drop (out + 1) = its.drop (out + 1) ∧ out + 1 ≤ its.length ∧ its.length ≤ j + 1 ∧ (((its.drop (out + 1)).length : Nat) : Int) ≤ depth ∧ ∀ ys ∈ its, (ys.length : Int) = size) := by
              have h1 := HMS.out
              refine ⟨rfl, by omega, h1.2.2.1, ?_, h1.2.2.2.2⟩
              have h4 := h1.2.2.2.1
              rw [List.length_drop]
              omega
            clear hb' hfr hc3 HF2 HB2 e0 e4 hbl hi1 hi2 hi3 hcl hu hx hms hsv HGC HMV hlx HPAR hcl7 hl7
            go_upto_region 35 with (fail)
            go_wp2_with (fail)
            refine HSC.out.mono ?_
            rintro e w4 ⟨rfl, hc4⟩
            have HF4 := Lib.hid (HF3.out.no hc4)
            clear hc4 HF3 hcu
            obtain ⟨bt, hbt, _⟩ := HF4.out.bs
            go_wp2_with (fail)
            refine (count_calls hbt).mono ?_
            rintro e w9 ⟨rfl, rfl⟩
            clear hbt
            go_wp2_with (fail)
            go_roundw
            · exact ⟨j + 1, { s with vl := vl', sv := sv', ms := its.drop (out + 1) }, its, out + 1, by omega, by go_num, rfl, rfl, by go_num, HF4, ⟨rfl, HM3.out.2⟩⟩
            · simp [intOf]; omega
          · have dq : decide ((out : Int) < (its.length : Int)) = false := decide_eq_false (by omega)
            have hms : s.ms = [] := by rw [HM.out.1]; exact List.drop_of_length_le (by omega)
            have HGC := Lib.hid (get_no HB2.out hms)
            go_wp2_with (fail)
            refine HGC.out.mono ?_
            rintro e w3 ⟨rfl, rfl⟩
            have HF3 := HF2
            have HM3 := HMS
            clear HF2 HGC HPAR hms
            obtain ⟨bt, hbt, _⟩ := HF3.out.bs
            go_wp2_with (fail)
            refine (count_calls hbt).mono ?_
            rintro e w9 ⟨rfl, rfl⟩
            clear hbt
            go_wp2_with (fail)
            go_roundw
            · exact ⟨j + 1, s, its, out, by omega, by go_num, rfl, rfl, rfl, HF3, HM3⟩
            · simp [intOf]; omega
      have hk55 : (kd == 5) = false := by simpa using hk5
      clear hk5
      by_cases hk7 : kd = 7
      · have hk77 : (kd == 7) = true := by simpa using hk7
        clear hk7
        as_aux_lemma =>
          go_upto_region 40 with (fail)
          have HF3 : Hid (FB w w.heap.size (w.heap.size + 1) (w.heap.size + 2) start most size depth s u14 its w2.drew) := HF2.out.no (Ch.refl No w2).drew
          have HB3 : Hid (Bs base s w2.drew) := HB2.out.keepNo (Ch.refl No w2).drew
          have HS0 : Hid ((fun w' : World => Row w' (w.heap.size + 2) 32 (pcs (.slice (some ⟨w.heap.size, 0, none⟩) 1 1) (.slice (some ⟨w.heap.size + 1, 0, none⟩) 1 1))) w2.drew) := HF3.out.hp
          have HXL : Hid (∀ ys ∈ s.ms, (ys.length : Int) = size) := fun ys hy => HM.out.2.2.2.2 ys (by rw [HM.out.1] at hy; exact List.mem_of_mem_drop hy)
          refine wp_region_held (S := fun w' : World => Row w' (w.heap.size + 2) 32 (pcs (.slice (some ⟨w.heap.size, 0, none⟩) 1 1) (.slice (some ⟨w.heap.size + 1, 0, none⟩) 1 1))) (by kernel_rfl) ?_
          change wpAnyH _ _ _ _ _ _ _ _ w2.drew
          generalize w2.drew = w3 at *
          refine wpAnyH_take (i := 0) (oi := ⟨some 201, _, _, _, _, _⟩) (v := .agg (pcs (.slice (some ⟨w.heap.size, 0, none⟩) 1 1) (.slice (some ⟨w.heap.size + 1, 0, none⟩) 1 1)).toArray) rfl (by kernel_rfl) (by kernel_rfl) (by kernel_rfl) (fun _ _ _ h => h) (Or.inl ⟨by rfl, fun w' hs => exec_load_agg 32 (.tmp 11) rfl (w.heap.size + 2) rfl 32 _ hs _ Try.underlying32 rfl size32⟩) HS0.out ?_
          simp only [Act.put, List.setIfInBounds_toArray, List.set_cons_zero, List.set_cons_succ]
          refine wpAnyH_take (i := 1) (oi := ⟨some 202, _, _, _, _, _⟩) (v := .pointer (some ⟨s.P, 0, none⟩)) rfl (by kernel_rfl) (by kernel_rfl) (by kernel_rfl) (fun _ _ _ h => h) (Or.inl ⟨by rfl, fun _ _ => rfl⟩) HS0.out ?_
          simp only [Act.put, List.setIfInBounds_toArray, List.set_cons_zero, List.set_cons_succ]
          refine wpAnyH_one (i := 2) (o := ⟨some 203, _, _, _, _, _⟩) (by kernel_rfl) rfl (by rfl) ?_
          refine wp_call 16 #[.pointer (some ⟨s.P, 0, none⟩)] (by kernel_rfl) ((state_calls HB3.out (fun ys hy => by have := HXL.out ys hy; omega)).mono ?_)
          rintro e w4 ⟨gS, cS, gB, cB, rS, rB, vL, rfl, hrS, hrB, hlo, hgS, hgB, hc4⟩
          have HF4 := Lib.hid (HF3.out.no hc4)
          have HRS := Lib.hid hrS
          have HRB := Lib.hid hrB
          have HLO := Lib.hid hlo
          have HS4 : Hid ((fun w' : World => Row w' (w.heap.size + 2) 32 (pcs (.slice (some ⟨w.heap.size, 0, none⟩) 1 1) (.slice (some ⟨w.heap.size + 1, 0, none⟩) 1 1))) w4) := HF4.out.hp
          clear hrS hrB hlo hgS hgB hc4
          refine ⟨_, rfl, HS4.out, ?_⟩
          simp only [Act.put, List.setIfInBounds_toArray, List.set_cons_zero, List.set_cons_succ]
          refine wpAnyH_norm 6 #[true, true, true, false, false, false, false, false, false] (by kernel_rfl) (by kernel_rfl) ?_
          refine wpAnyH_one (i := 3) (o := ⟨some 204, _, _, _, _, _⟩) (by kernel_rfl) rfl (by rfl) ?_
          refine wp_call 10 #[.agg (pcs (.slice (some ⟨w.heap.size, 0, none⟩) 1 1) (.slice (some ⟨w.heap.size + 1, 0, none⟩) 1 1)).toArray, .agg #[.slice (some ⟨gS, 0, none⟩) 1 cS, .slice none 0 0, .slice (some ⟨gB, 0, none⟩) 1 cB]] (by kernel_rfl) ((load_calls w4 (pcs (.slice (some ⟨w.heap.size, 0, none⟩) 1 1) (.slice (some ⟨w.heap.size + 1, 0, none⟩) 1 1)) w.heap.size 1 (w.heap.size + 1) 1 start most size depth rfl HP1.out rfl rfl rfl HF4.out.ha HF4.out.hq gS cS gB cB s.n rS rB vL s.ms HRS.out HRB.out _ HLO.out HF4.out.num HM.out.2.2.2.1 (by omega) HXL.out (by omega)).mono ?_)
          rintro e w5 ⟨s', base', rfl, hb5, q1, q2, q3, q4, q5, q6, q7, hc5⟩
          have HF5 : Hid (FB w w.heap.size (w.heap.size + 1) (w.heap.size + 2) start most size depth s' u14 its w5) := HF4.out.load hc5 q6 hb5 ⟨q2, q3, q4⟩ (by rw [q1]; exact HF4.out.num) q7
          have HM5 : Hid (s'.ms = its.drop out ∧ out ≤ its.length ∧ its.length ≤ j + 1 ∧ (s'.ms.length : Int) ≤ depth ∧ ∀ xs ∈ its, (xs.length : Int) = size) := by rw [q5]; exact HMS.out
          have HN5 : Hid (s'.n = s.n) := q1
          have HS5 : Hid ((fun w' : World => Row w' (w.heap.size + 2) 32 (pcs (.slice (some ⟨w.heap.size, 0, none⟩) 1 1) (.slice (some ⟨w.heap.size + 1, 0, none⟩) 1 1))) w5) := HF5.out.hp
          clear hb5 q1 q2 q3 q4 q5 q6 q7 hc5 HF2 HB2 e0 e4 hbl HF3 HB3 HF4 HRS HRB HLO HPAR
          refine ⟨_, rfl, HS5.out, ?_⟩
          simp only [Act.put, List.setIfInBounds_toArray, List.set_cons_zero, List.set_cons_succ]
          refine wpAnyH_norm 5 #[true, true, true, true, false, false, false, false, false] (by kernel_rfl) (by kernel_rfl) ?_
          refine wpAnyH_take (i := 4) (oi := ⟨some 200, _, _, _, _, _⟩) (v := .tuple #[.pointer (some ⟨s'.P, 0, none⟩), .int .i64 0]) rfl (by kernel_rfl) (by kernel_rfl) (by kernel_rfl) (fun _ _ _ h => h) (Or.inl ⟨by rfl, fun _ _ => rfl⟩) HS5.out ?_
          simp only [Act.put, List.setIfInBounds_toArray, List.set_cons_zero, List.set_cons_succ]
          refine wpAnyH_take (i := 5) (oi := ⟨some 205, _, _, _, _, _⟩) (v := .pointer (some ⟨s'.P, 0, none⟩)) rfl (by kernel_rfl) (by kernel_rfl) (by kernel_rfl) (fun _ _ _ h => h) (Or.inl ⟨by rfl, fun _ _ => by kernel_rfl⟩) HS5.out ?_
          simp only [Act.put, List.setIfInBounds_toArray, List.set_cons_zero, List.set_cons_succ]
          refine wpAnyH_take (i := 6) (oi := ⟨some 206, _, _, _, _, _⟩) (v := .int .i64 0) rfl (by kernel_rfl) (by kernel_rfl) (by kernel_rfl) (fun _ _ _ h => h) (Or.inl ⟨by rfl, fun _ _ => by kernel_rfl⟩) HS5.out ?_
          simp only [Act.put, List.setIfInBounds_toArray, List.set_cons_zero, List.set_cons_succ]
          refine wpAnyH_take (i := 7) (oi := ⟨some 27, _, _, _, _, _⟩) (v := .pointer (some ⟨s'.P, 0, none⟩)) rfl (by kernel_rfl) (by kernel_rfl) (by kernel_rfl) (fun _ _ _ h => h) (Or.inl ⟨by rfl, fun _ _ => by kernel_rfl⟩) HS5.out ?_
          simp only [Act.put, List.setIfInBounds_toArray, List.set_cons_zero, List.set_cons_succ]
          refine wpAnyH_one (i := 8) (o := ⟨some 28, _, _, _, _, _⟩) (by kernel_rfl) rfl (by rfl) ?_
          refine wp_value (.int .i64 0) (by kernel_rfl) ?_
          refine And.intro HS5.out ?_
          simp only [Act.put, List.setIfInBounds_toArray, List.set_cons_zero, List.set_cons_succ]
          refine wpAnyH_done (by kernel_rfl) ?_ _
          rw [← HN5.out]
          have HF3 := HF5
          have HM3 := HM5
          obtain ⟨bt, hbt, _⟩ := HF3.out.bs
          go_wp2_with (fail)
          refine (count_calls hbt).mono ?_
          rintro e w9 ⟨rfl, rfl⟩
          clear hbt
          go_wp2_with (fail)
          go_roundw
          · exact ⟨j + 1, s', its, out, by omega, by go_num, rfl, rfl, rfl, HF3, HM3⟩
          · simp [intOf]; omega
      have hk77 : (kd == 7) = false := by simpa using hk7
      clear hk7
      have HF3 := HF2
      have HM3 := HMS
      obtain ⟨bt, hbt, _⟩ := HF3.out.bs
      go_wp2_with (fail)
      refine (count_calls hbt).mono ?_
      rintro e w9 ⟨rfl, rfl⟩
      clear hbt
      go_wp2_with (fail)
      go_roundw
      · exact ⟨j + 1, s, its, out, by omega, by go_num, rfl, rfl, rfl, HF3, HM3⟩
      · simp [intOf]; omega
    · as_aux_lemma =>
        obtain rfl : j = os.length := by omega
        have d0 : decide ((os.length : Int) < (os.length : Int)) = false := by simp
        have hits : its.length ≤ 300 := by have := HM.out.2.2.1; omega
        have hout : out ≤ its.length := HM.out.2.1
        obtain ⟨base, hb2, hbw⟩ := HF.out.bs
        obtain ⟨svi, hi1, hi2, hi3⟩ := HF.out.inl
        obtain ⟨B, bc, hiv, hcl⟩ := own_slice hi1
        rw [hi2] at hiv
        subst hiv
        have HCLW := Lib.hid hcl
        have HI2 := Lib.hid hi2
        have HI3 := Lib.hid hi3
        have HXL : Hid (∀ ys ∈ s.ms, (ys.length : Int) = size) := fun ys hy => HM.out.2.2.2.2 ys (by rw [HM.out.1] at hy; exact List.mem_of_mem_drop hy)
        have HST := Lib.hid (state_calls hb2 (fun ys hy => by have := HXL.out ys hy; omega))
        clear hb2 hi1 hi2 hi3 hcl
        go_wp2_with (fail)
        refine HST.out.mono ?_
        rintro e w4 ⟨gS, cS, gB, cB, rS, rB, vL, rfl, hrS, hrB, hlo, hgS, hgB, hc4⟩
        obtain ⟨svl, hl1, hl2, hl3⟩ := hlo.ex
        obtain ⟨AL, cL, hvl, hclL⟩ := own_slice hl1
        rw [hl2] at hvl
        subst hvl
        have HCA : Hid (Ch No w4 (w4.alloc (.cells #[.slice (some ⟨gS, 0, none⟩) 1 cS, .slice none 0 0, .slice (some ⟨gB, 0, none⟩) 1 cB] 36))) := (Ch.refl _ _).alloc _
        have HX : Hid (Row (w4.alloc (.cells #[.slice (some ⟨gS, 0, none⟩) 1 cS, .slice none 0 0, .slice (some ⟨gB, 0, none⟩) 1 cB] 36)) w4.heap.size 36 [.slice (some ⟨gS, 0, none⟩) 1 cS, .slice none 0 0, .slice (some ⟨gB, 0, none⟩) 1 cB]) := Row.new w4 36 _
        have HRS := Lib.hid (hrS.keepNo HCA.out)
        have HRB := Lib.hid (hrB.keepNo HCA.out)
        have HCL := Lib.hid ((HCLW.out.keepNo hc4).keepNo HCA.out)
        have HCLL := Lib.hid (hclL.keepNo HCA.out)
        have HL2 := Lib.hid hl2
        have HL3 : Hid (∀ (i : Nat) (u : Value), svl[i]? = some u → ∃ xs, s.ms[i]? = some xs ∧ Ml (w4.alloc (.cells #[.slice (some ⟨gS, 0, none⟩) 1 cS, .slice none 0 0, .slice (some ⟨gB, 0, none⟩) 1 cB] 36)) u xs) := fun i u hu => by
          obtain ⟨xs, p, q⟩ := hl3 i u hu
          exact ⟨xs, p, q.keepNo HCA.out⟩
        have HC5 : Hid (Ch No w (w4.alloc (.cells #[.slice (some ⟨gS, 0, none⟩) 1 cS, .slice none 0 0, .slice (some ⟨gB, 0, none⟩) 1 cB] 36))) := (HF.out.ch.then_ hc4).then_ HCA.out
        clear hrS hrB hlo hgS hgB hc4 hl1 hl2 hl3 hclL HF HCLW HST
        go_upto_region 48 with (fail)
        generalize w4.alloc (.cells #[.slice (some ⟨gS, 0, none⟩) 1 cS, .slice none 0 0, .slice (some ⟨gB, 0, none⟩) 1 cB] 36) = w5 at *
        generalize w4.heap.size = b31 at *
        have x0 : w5.cell? ⟨b31, 0, none⟩ = some (.slice (some ⟨gS, 0, none⟩) 1 cS) := by rw [HX.out.cell]; rfl
        have x2 : w5.cell? ⟨b31, 2, none⟩ = some (.slice (some ⟨gB, 0, none⟩) 1 cB) := by rw [HX.out.cell]; rfl
        have y0 : w5.cell? ⟨gS, 0, none⟩ = some (.int .i64 s.n) := by rw [HRS.out.cell]; rfl
        have y1 : w5.cell? ⟨gB, 0, none⟩ = some (.slice AL s.ms.length cL) := by rw [HRB.out.cell]; rfl
        have hxl := HX.out.lt
        have hsl := HRS.out.lt
        have hbl := HRB.out.lt
        have hmsl : s.ms.length = its.length - out := by rw [HM.out.1, List.length_drop]
        have HML := Lib.hid hmsl
        have dne : ((s.ms.length : Int) != (its.length : Int) - (out : Int)) = false := by
          rw [hmsl]
          simp
          omega
        clear hmsl
        go_wp2_with (fail)
        go_loopw [32] (fun i wr => ∃ k : Nat, out ≤ k ∧ k ≤ its.length ∧ i = .int .i64 k ∧ Hid (Ch No w5 wr)) (fun i _ => its.length - (intOf i).toNat)
        case atStart => exact ⟨out, Nat.le_refl _, hout, rfl, Ch.refl _ _⟩
        case round =>
          obtain ⟨k, hk0, hk, rfl, HC⟩ := hrel
          by_cases hlt2 : k < its.length
          · have dk : decide ((k : Int) < (its.length : Int)) = true := decide_eq_true (by omega)
            obtain ⟨x, hx⟩ : ∃ x, its[k]? = some x := ⟨_, List.getElem?_eq_getElem hlt2⟩
            have hko : k - out < s.ms.length := by rw [HML.out]; omega
            obtain ⟨u, hu⟩ : ∃ u, svi[k]? = some u := ⟨svi[k]'(by rw [HI2.out]; exact hlt2), List.getElem?_eq_getElem _⟩
            obtain ⟨x2, hx2, hsu⟩ := HI3.out k u hu
            rw [hx] at hx2
            cases hx2
            obtain ⟨v, hv⟩ : ∃ v, svl[k - out]? = some v := ⟨svl[k - out]'(by rw [HL2.out]; exact hko), List.getElem?_eq_getElem _⟩
            obtain ⟨x3, hx3, hmv⟩ := HL3.out (k - out) v hv
            have hx4 : x3 = x := by
              rw [HM.out.1, List.getElem?_drop, show out + (k - out) = k by omega, hx] at hx3
              exact (Option.some.inj hx3).symm
            subst hx4
            obtain ⟨adB, eB, _⟩ := HCL.out k u hu
            subst eB
            obtain ⟨adL, eL, _⟩ := HCLL.out (k - out) v hv
            subst eL
            have HCU : Hid (∀ w', Ch No w5 w' → w'.cell? (adB.add k) = some u) := fun w' hc => by
              obtain ⟨ad', e, hcell⟩ := (HCL.out.keepNo hc) k u hu
              cases e
              exact hcell
            have HCV : Hid (∀ w', Ch No w5 w' → w'.cell? (adL.add (k - out)) = some v) := fun w' hc => by
              obtain ⟨ad', e, hcell⟩ := (HCLL.out.keepNo hc) (k - out) v hv
              cases e
              exact hcell
            have HSU : Hid (∀ w', Ch No w5 w' → Sl w' u x3) := fun w' hc => (hsu.keepNo HC5.out).keepNo hc
            have HSV : Hid (∀ w', Ch No w5 w' → Sl w' v x3) := fun w' hc => (hmv.keepNo hc).sl
            clear hx hx3 hu hv hsu hmv
            go_upto_region 53 with (fail)
            refine wp_region_quiet_tail 13 (by kernel_rfl) (by kernel_rfl) (fun w' => Ch No w5 w') (HC.out.drew) ?_
            simp only [List.take_succ_cons, List.take_zero, List.drop_succ_cons, List.drop_zero]
            refine wpQuiet_value (by rfl) (.pointer (some ⟨b31, 2, none⟩)) (fun _ => by kernel_rfl) ?_
            simp only [Act.put, List.setIfInBounds_toArray, List.set_cons_zero, List.set_cons_succ]
            refine wpQuiet_read (by rfl) (.slice (some ⟨gB, 0, none⟩) 1 cB) (fun w' hw' => exec_load_cell 34 (.tmp 265) rfl ⟨b31, 2, none⟩ rfl _ Try.underlying34 rfl _ (by rw [(HX.out.keepNo hw').cell]; rfl)) ?_
            simp only [Act.put, List.setIfInBounds_toArray, List.set_cons_zero, List.set_cons_succ]
            refine wpQuiet_value (by rfl) (.pointer (some ⟨gB, 0, none⟩)) (fun _ => exec_at0 34 59 (.tmp 266) rfl Try.underlying34 one59 ⟨gB, 0, none⟩ 1 cB rfl (by omega)) ?_
            simp only [Act.put, List.setIfInBounds_toArray, List.set_cons_zero, List.set_cons_succ]
            refine wpQuiet_read (by rfl) (.slice (some adL) s.ms.length cL) (fun w' hw' => exec_load_cell 59 (.tmp 267) rfl ⟨gB, 0, none⟩ rfl _ Try.underlying59 rfl _ (by rw [(HRB.out.keepNo hw').cell]; rfl)) ?_
            simp only [Act.put, List.setIfInBounds_toArray, List.set_cons_zero, List.set_cons_succ]
            refine wpQuiet_value (by rfl) (.int .i64 (k : Int)) (fun _ => rfl) ?_
            simp only [Act.put, List.setIfInBounds_toArray, List.set_cons_zero, List.set_cons_succ]
            refine wpQuiet_value (by rfl) (.int .i64 (out : Int)) (fun _ => rfl) ?_
            simp only [Act.put, List.setIfInBounds_toArray, List.set_cons_zero, List.set_cons_succ]
            refine wpQuiet_value (by rfl) (.int .i64 ((k - out : Nat) : Int)) (fun _ => exec_subI (.tmp 269) (.tmp 270) rfl (k : Int) (out : Int) _ rfl rfl (by omega) (by omega)) ?_
            simp only [Act.put, List.setIfInBounds_toArray, List.set_cons_zero, List.set_cons_succ]
            refine wpQuiet_value (by rfl) (.pointer (some (adL.add (k - out)))) (fun _ => exec_at 59 24 (.tmp 268) (.tmp 271) rfl Try.underlying59 one24 adL s.ms.length cL (k - out) rfl rfl hko) ?_
            simp only [Act.put, List.setIfInBounds_toArray, List.set_cons_zero, List.set_cons_succ]
            refine wpQuiet_read (by rfl) (v) (fun w' hw' => exec_load_cell 24 (.tmp 272) rfl (adL.add (k - out)) rfl _ Try.underlying24 rfl _ (HCV.out w' hw')) ?_
            simp only [Act.put, List.setIfInBounds_toArray, List.set_cons_zero, List.set_cons_succ]
            refine wpQuiet_value (by rfl) (.slice (some adB) its.length bc) (fun _ => rfl) ?_
            simp only [Act.put, List.setIfInBounds_toArray, List.set_cons_zero, List.set_cons_succ]
            refine wpQuiet_value (by rfl) (.int .i64 (k : Int)) (fun _ => rfl) ?_
            simp only [Act.put, List.setIfInBounds_toArray, List.set_cons_zero, List.set_cons_succ]
            refine wpQuiet_value (by rfl) (.pointer (some (adB.add k))) (fun _ => exec_at 59 24 (.tmp 274) (.tmp 275) rfl Try.underlying59 one24 adB its.length bc k rfl rfl hlt2) ?_
            simp only [Act.put, List.setIfInBounds_toArray, List.set_cons_zero, List.set_cons_succ]
            refine wpQuiet_read (by rfl) (u) (fun w' hw' => exec_load_cell 24 (.tmp 276) rfl (adB.add k) rfl _ Try.underlying24 rfl _ (HCU.out w' hw')) ?_
            simp only [Act.put, List.setIfInBounds_toArray, List.set_cons_zero, List.set_cons_succ]
            refine wpQuiet_nil ?_
            intro w6 hw6
            have HC6 := Lib.hid hw6
            clear hw6
            have HSC := Lib.hid (same_self (HSV.out w6 HC6.out) (HSU.out w6 HC6.out))
            go_wp2_with (fail)
            refine HSC.out.mono ?_
            rintro e w7 ⟨rfl, hc7⟩
            have HC7 := Lib.hid (HC6.out.then_ hc7)
            clear hc7
            go_wp2_with (fail)
            go_roundw
            · exact ⟨k + 1, by omega, by omega, by go_num, HC7⟩
            · simp [intOf]; omega
          · obtain rfl : k = its.length := by omega
            have dk : decide ((its.length : Int) < (its.length : Int)) = false := by simp
            go_wp2_with (fail)
            go_ret
            exact ⟨rfl, HC5.out.then_ HC.out⟩
end Go.Proofs.Ytifieahnnklgcaa
