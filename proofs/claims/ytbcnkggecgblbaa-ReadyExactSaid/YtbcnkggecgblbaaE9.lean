/- ReadyExact's walk. -/
import Derived.Test.YtbcnkggecgblbaaB9
set_option linter.unusedVariables false
set_option linter.unusedSimpArgs false
namespace Go.Proofs.Ytbcnkggecgblbaa
open Go.RowKit
theorem size33 : (Try.prog.info? 33).map (·.size) = some 3 := by kernel_rfl
/-- &s[i] of three cells -/
theorem exec_at3 {a : Act} {o : Oper} {w : World} (t e : TypeId) (x y : Operand) (ho : o.op = .indexAddr t x y) (hu : Try.prog.underlying t = some (.slice e)) (hs : (Try.prog.info? e).map (·.size) = some 3) (ad : Addr) (n cap i : Nat) (hx : a.eval x = .slice (some ad) n cap) (hy : a.eval y = .int .i64 (i : Int)) (hi : i < n) :
    (execOp a.eval o).run Try.prog w = .ok (.value (.pointer (some (ad.add (i * 3))))) w := by
  have h1 : (i : Int) < (n : Int) := by omega
  have h2 : decide ((i : Int) < 0) = false := by simp
  obtain ⟨ti, hti, hts⟩ := Option.map_eq_some_iff.1 hs
  unfold execOp
  simp only [ho]
  generalize a.eval = ρ at *
  simp only [hx, hy]
  go_simp
  simp [sizeOf, typeInfo, hti, hts]
/-- a call of the script is read -/
theorem exec_load_op {a : Act} {o : Oper} {w : World} (x : Operand) (ho : o.op = .load 33 x) (b : Addr) (hx : a.eval x = .pointer (some b)) (kd id pri : Int) (hc : Cl w (some b) (OpR.cells ⟨kd, id, pri⟩)) :
    (execOp a.eval o).run Try.prog w = .ok (.value (.agg (OpR.cells ⟨kd, id, pri⟩).toArray)) w := by
  have c0 := hc.first rfl
  have c1 := hc.next 0 rfl
  have c2 := hc.next 1 rfl
  simp only [Nat.reduceAdd] at c0 c1 c2
  clear hc
  unfold execOp
  simp only [ho]
  generalize a.eval = ρ at *
  simp only [hx]
  go_simp
  rfl
theorem exact_bad (n : Int) (S : Option Addr) (sl sc : Nat) (w : World) (h : n < 0 ∨ 65535 < n) :
    Calls Try.prog 3 #[.int .i64 n, .slice S sl sc] w fun e w' => e = .returned (.bool true) ∧ Ch No w w' := by
  go_enter Try.func3, Try.ntmps3
  go_wp2_with (fail)
  refine (new_bad n w h).mono ?_
  rintro e w1 ⟨rfl, rfl⟩
  go_wp2_with (fail)
  refine (rnew_bad n w1 h).mono ?_
  rintro e w2 ⟨rfl, hc⟩
  have HC := Lib.hid hc
  clear hc
  have HR4 : Hid (Row (w2.alloc (.cells (rl 0 (.slice none 0 0) 0).toArray 28)) w2.heap.size 28 (rl 0 (.slice none 0 0) 0)) := Row.new w2 28 _
  have HA4 : Hid (Ch No w2 (w2.alloc (.cells (rl 0 (.slice none 0 0) 0).toArray 28))) := (Ch.refl _ _).alloc _
  have H1 := Lib.hid (rl_one (N := 0) (T := 0) (v := .slice none 0 0) rfl)
  go_wp2_with (((with_reducible refine at_op (o := ⟨none, .store 28 (.tmp 7) (.tmp 20), _, _, _, _⟩) ?_); refine pl_store rfl 28 (.tmp 7) (.tmp 20) rfl (w2.heap.size) rfl 28 (rl 0 (.slice none 0 0) 0) (rl 0 (.slice none 0 0) 0) rfl HR4.out size28 rfl H1.out ?_; intro w6 hr6 hc6; have HR6 := Lib.hid hr6; have HC6 := Lib.hid hc6; clear hr6 hc6))
  go_ret
  exact ⟨rfl, ch_newg (HC.out.then_ HA4.out) HC6.out (HC.out.size)⟩
set_option maxHeartbeats 8000000 in
set_option maxRecDepth 100000 in
theorem exact_ok (n : Int) (S : Option Addr) (os : List OpR) (sc : Nat) (w : World) (h0 : 0 ≤ n) (h1 : n ≤ 65535) (hs : Opl w S os) (hsm : os.length ≤ 9223372036854775807) :
    Calls Try.prog 3 #[.int .i64 n, .slice S os.length sc] w fun e w' => e = .returned (.bool true) ∧ Ch No w w' := by
  have HOS := Lib.hid hs
  clear hs
  go_enter Try.func3, Try.ntmps3
  go_wp2_with (fail)
  refine (new_ok n w h0 h1).mono ?_
  rintro e w1 ⟨rfl, hl1, hc1⟩
  have HL1 := Lib.hid hl1
  have HC1 : Hid (Chl w.heap.size w w1) := Chl.of_no hc1
  clear hl1 hc1
  obtain ⟨p, hp⟩ : ∃ p, p = w.heap.size := ⟨_, rfl⟩
  have HLW : Hid (Ln w.heap.size p n (.slice none 0 0) [] w1) := by rw [hp]; exact HL1.out
  rw [← hp]
  clear HL1 hp
  go_wp2_with (fail)
  refine (rnew_ok n w1 h0 h1).mono ?_
  rintro e w2 ⟨rfl, hc2⟩
  have HL2 := Lib.hid (HLW.out.keepNo hc2)
  have HC2 := Lib.hid (HC1.out.then_ hc2)
  clear hc2 HLW HC1
  have HR3 : Hid (Row (w2.alloc (.cells (rl 0 (.slice none 0 0) 0).toArray 28)) w2.heap.size 28 (rl 0 (.slice none 0 0) 0)) := Row.new w2 28 _
  have HA3 : Hid (Ch No w2 (w2.alloc (.cells (rl 0 (.slice none 0 0) 0).toArray 28))) := (Ch.refl _ _).alloc _
  have H1 := Lib.hid (rl_one (N := n) (T := 0) (v := .slice none 0 0) rfl)
  have HB7 : Hid (w.heap.size ≤ w2.heap.size) := HC2.out.ch.size
  go_upto_region 3 with (((with_reducible refine at_op (o := ⟨none, .store 28 (.tmp 7) (.tmp 20), _, _, _, _⟩) ?_); refine pl_store rfl 28 (.tmp 7) (.tmp 20) rfl (w2.heap.size) rfl 28 (rl 0 (.slice none 0 0) 0) (rl n (.slice none 0 0) 0) rfl HR3.out size28 rfl H1.out ?_; intro w6 hr6 hc6; have HR6 := Lib.hid hr6; have HC6 := Lib.hid hc6; clear hr6 hc6))
  have HL6 := Lib.hid ((HL2.out.keepNo HA3.out).keepR HR3.out HC6.out)
  have HCL6 : Hid (Chl w.heap.size w w6) := chl_new (HC2.out.then_ HA3.out) HC6.out HB7.out HB7.out
  clear HL2 HC2 HC6 HA3 HR3
  generalize w2.heap.size = b7 at *
  go_wp2_with (fail)
  go_loopw [9] (fun i wr => ∃ (j : Nat) (L : List (Int × Int)) (v u : Value) (X M : List Tri) (T : Int), j ≤ os.length ∧ i = .int .i64 j ∧ Hid (0 ≤ T ∧ T ≤ (j : Int)) ∧ Hid (Ln w.heap.size p n v L wr) ∧ Hid (Rf wr u X) ∧ Hid (Row wr b7 28 (rl n u T)) ∧ Hid (Cor L X T M) ∧ Hid (Chl w.heap.size w wr)) (fun i _ => os.length - (intOf i).toNat)
  case atStart => exact ⟨0, [], .slice none 0 0, .slice none 0 0, [], [], 0, Nat.zero_le _, rfl, ⟨by omega, by omega⟩, HL6, Rf.nil _, HR6, Cor.nil 0, HCL6⟩
  case round =>
    clear HL6 HR6 HCL6
    obtain ⟨j, L, v, u, X, M, T, hj, rfl, HTT, HLN, HX, HS, HCO, HC⟩ := hrel
    by_cases hlt : j < os.length
    · have d0 : decide ((j : Int) < (os.length : Int)) = true := by simpa using hlt
      have hji : (j : Int) < (os.length : Int) := by omega
      obtain ⟨ad, ead, hcell⟩ := (HOS.out.keep HC.out.no) j _ (List.getElem?_eq_getElem hlt)
      have HCELL : Hid (∀ w', Opl w' S os → Cl w' (some (ad.add (j * 3))) os[j].cells) := fun w' ho => by
        obtain ⟨ad', e, hc⟩ := ho j _ (List.getElem?_eq_getElem hlt)
        rw [ead] at e
        cases e
        exact hc
      have HEAD := Lib.hid ead
      clear hcell ead
      generalize os[j] = o at *
      obtain ⟨kd, id, pri⟩ := o
      have HTB : Hid (0 ≤ T ∧ T ≤ 9223372036854775806) := by have := HTT.out; exact ⟨by omega, by omega⟩
      go_upto_region 10 with (fail)
      have HLN1 : Hid (Ln w.heap.size p n v L wr.drew) := HLN.out.keepNo (Ch.refl No wr).drew
      have HX1 : Hid (Rf wr.drew u X) := HX.out.keepNo (Ch.refl No wr).drew
      have HS1 : Hid (Row wr.drew b7 28 (rl n u T)) := HS.out
      have HC1 : Hid (Chl w.heap.size w wr.drew) := HC.out.then_ (Ch.refl No wr).drew
      have HS0 : Hid ((fun w' : World => Row w' b7 28 (rl n u T) ∧ Opl w' S os) wr.drew) := ⟨HS1.out, HOS.out.keep HC1.out.no⟩
      have hsp := HEAD.out
      subst hsp
      refine wp_region_held (S := fun w' => Row w' b7 28 (rl n u T) ∧ Opl w' (some ad) os) (by kernel_rfl) ?_
      change wpAnyH _ _ _ _ _ _ _ _ wr.drew
      generalize wr.drew = w1r at *
      refine wpAnyH_take (i := 0) (oi := ⟨some 40, _, _, _, _, _⟩) (v := .pointer (some ⟨p, 0, none⟩)) rfl (by kernel_rfl) (by kernel_rfl) (by kernel_rfl) (fun _ _ _ h => h) (Or.inl ⟨by rfl, fun _ _ => rfl⟩) HS0.out ?_
      simp only [Act.put, List.setIfInBounds_toArray, List.set_cons_zero, List.set_cons_succ]
      refine wpAnyH_take (i := 1) (oi := ⟨some 41, _, _, _, _, _⟩) (v := .agg (rl n u T).toArray) rfl (by kernel_rfl) (by kernel_rfl) (by kernel_rfl) (fun _ _ _ h => h) (Or.inl ⟨by rfl, fun w' hs => exec_load_agg 28 (.tmp 7) rfl b7 rfl 28 _ hs.1 _ Try.underlying28 rfl size28⟩) HS0.out ?_
      simp only [Act.put, List.setIfInBounds_toArray, List.set_cons_zero, List.set_cons_succ]
      refine wpAnyH_take (i := 2) (oi := ⟨some 42, _, _, _, _, _⟩) (v := .slice (some ad) os.length sc) rfl (by kernel_rfl) (by kernel_rfl) (by kernel_rfl) (fun _ _ _ h => h) (Or.inl ⟨by rfl, fun _ _ => rfl⟩) HS0.out ?_
      simp only [Act.put, List.setIfInBounds_toArray, List.set_cons_zero, List.set_cons_succ]
      refine wpAnyH_take (i := 3) (oi := ⟨some 43, _, _, _, _, _⟩) (v := .int .i64 (j : Int)) rfl (by kernel_rfl) (by kernel_rfl) (by kernel_rfl) (fun _ _ _ h => h) (Or.inl ⟨by rfl, fun _ _ => rfl⟩) HS0.out ?_
      simp only [Act.put, List.setIfInBounds_toArray, List.set_cons_zero, List.set_cons_succ]
      refine wpAnyH_take (i := 4) (oi := ⟨some 44, _, _, _, _, _⟩) (v := .pointer (some (ad.add (j * 3)))) rfl (by kernel_rfl) (by kernel_rfl) (by kernel_rfl) (fun _ _ _ h => h) (Or.inl ⟨by rfl, fun w' _ => exec_at3 22 33 (.tmp 42) (.tmp 43) rfl Try.underlying22 size33 ad os.length sc j rfl rfl hlt⟩) HS0.out ?_
      simp only [Act.put, List.setIfInBounds_toArray, List.set_cons_zero, List.set_cons_succ]
      refine wpAnyH_take (i := 5) (oi := ⟨some 45, _, _, _, _, _⟩) (v := .agg (OpR.cells ⟨kd, id, pri⟩).toArray) rfl (by kernel_rfl) (by kernel_rfl) (by kernel_rfl) (fun _ _ _ h => h) (Or.inl ⟨by rfl, fun w' hs => exec_load_op (.tmp 44) rfl (ad.add (j * 3)) rfl kd id pri (HCELL.out w' hs.2)⟩) HS0.out ?_
      simp only [Act.put, List.setIfInBounds_toArray, List.set_cons_zero, List.set_cons_succ]
      refine wpAnyH_two (i := 6) (j := 10) (oi := ⟨some 46, _, _, _, _, _⟩) (oj := ⟨some 10, _, _, _, _, _⟩) (by kernel_rfl) rfl rfl (by rfl) (by rfl) ?_ ?_
      · refine wp_call 7 #[.pointer (some ⟨p, 0, none⟩), .agg (rl n u T).toArray, .agg (OpR.cells ⟨kd, id, pri⟩).toArray] (by kernel_rfl) ((step_calls HLN1.out HX1.out HCO.out HTB.out ⟨kd, id, pri⟩).mono ?_)
        rintro e w4 ⟨v2, u2, L2, X2, M2, T2, rfl, hl4, hx4, hcor4, ht1, ht2, hc4⟩
        have HLN4 := Lib.hid hl4
        have HX4 := Lib.hid hx4
        have HCO5 := Lib.hid hcor4
        have HT2 : Hid (T ≤ T2 ∧ T2 ≤ T + 1) := ⟨ht1, ht2⟩
        have HS4 : Hid (Row w4 b7 28 (rl n u T)) := hc4.row _ _ _ HS1.out (by decide) (by decide)
        have HC4 := Lib.hid (HC1.out.trans hc4)
        have H2 := Lib.hid (rl_one (N := n) (T := T2) hx4.one)
        have HSS4 : Hid ((fun w' : World => Row w' b7 28 (rl n u T) ∧ Opl w' (some ad) os) w4) := ⟨HS4.out, HOS.out.keep HC4.out.no⟩
        clear hl4 hx4 hcor4 ht1 ht2 hc4
        refine ⟨_, rfl, HSS4.out, ?_⟩
        simp only [Act.put, List.setIfInBounds_toArray, List.set_cons_zero, List.set_cons_succ]
        refine wpAnyH_norm 6 #[true, true, true, true, true, true, true, false, false, false, false, false, false] (by kernel_rfl) (by kernel_rfl) ?_
        refine wpAnyH_take (i := 7) (oi := ⟨some 39, _, _, _, _, _⟩) (v := .tuple #[.agg (rl n u2 T2).toArray, .bool true]) rfl (by kernel_rfl) (by kernel_rfl) (by kernel_rfl) (fun _ _ _ h => h) (Or.inl ⟨by rfl, fun _ _ => rfl⟩) HSS4.out ?_
        simp only [Act.put, List.setIfInBounds_toArray, List.set_cons_zero, List.set_cons_succ]
        refine wpAnyH_take (i := 8) (oi := ⟨some 47, _, _, _, _, _⟩) (v := .agg (rl n u2 T2).toArray) rfl (by kernel_rfl) (by kernel_rfl) (by kernel_rfl) (fun _ _ _ h => h) (Or.inl ⟨by rfl, fun _ _ => by kernel_rfl⟩) HSS4.out ?_
        simp only [Act.put, List.setIfInBounds_toArray, List.set_cons_zero, List.set_cons_succ]
        refine wpAnyH_take (i := 9) (oi := ⟨some 48, _, _, _, _, _⟩) (v := .bool true) rfl (by kernel_rfl) (by kernel_rfl) (by kernel_rfl) (fun _ _ _ h => h) (Or.inl ⟨by rfl, fun _ _ => by kernel_rfl⟩) HSS4.out ?_
        simp only [Act.put, List.setIfInBounds_toArray, List.set_cons_zero, List.set_cons_succ]
        have HSS4b : Hid ((fun w' : World => Row w' b7 28 (rl n u T) ∧ Opl w' (some ad) os) (w4.alloc (.cells (rl 0 (.slice none 0 0) 0).toArray 28))) := ⟨HS4.out.alloc _, HSS4.out.2.keep ((Ch.refl No w4).alloc _)⟩
        have HR4 : Hid (Row (w4.alloc (.cells (rl 0 (.slice none 0 0) 0).toArray 28)) w4.heap.size 28 (rl 0 (.slice none 0 0) 0)) := Row.new w4 28 _
        have HA4 : Hid (Ch No w4 (w4.alloc (.cells (rl 0 (.slice none 0 0) 0).toArray 28))) := (Ch.refl _ _).alloc _
        have HG10 : Hid (w.heap.size ≤ w4.heap.size) := HC4.out.ch.size
        refine wpAnyH_one (i := 10) (o := ⟨some 10, _, _, _, _, _⟩) (by kernel_rfl) rfl (by rfl) ?_
        refine wp_value_to (w' := w4.alloc (.cells (rl 0 (.slice none 0 0) 0).toArray 28)) (.pointer (some ⟨w4.heap.size, 0, none⟩)) (by kernel_rfl) ?_
        refine And.intro HSS4b.out ?_
        simp only [Act.put, List.setIfInBounds_toArray, List.set_cons_zero, List.set_cons_succ]
        have HLN4b := Lib.hid (HLN4.out.keepNo HA4.out)
        have HX4b := Lib.hid (HX4.out.keepNo HA4.out)
        have HC4b := Lib.hid (HC4.out.then_ HA4.out)
        have HNEA : Hid (b7 ≠ w4.heap.size) := by show _ ≠ _; have := HS4.out.lt; omega
        generalize w4.alloc (.cells (rl 0 (.slice none 0 0) 0).toArray 28) = w4b at *
        generalize w4.heap.size = b10 at *
        have HALL : Hid ((rl n u2 T2).toArray.all (·.oneCell') = true) := by show _ = _; simpa using H2.out
        have HNE0 : Hid (b7 ≠ b10) := HNEA
        refine wpAnyH_norm 2 #[true, true, true, true, true, true, true, true, true, true, true, false, false] (by kernel_rfl) (by kernel_rfl) ?_
        refine wpAnyH_one (i := 11) (o := ⟨none, _, _, _, _, _⟩) (by kernel_rfl) rfl (by rfl) ?_
        refine wp_store_row 28 (.tmp 10) (.tmp 47) rfl b10 (rl n u2 T2).toArray rfl rfl 28 (rl 0 (.slice none 0 0) 0).toArray HR4.out size28 rfl HALL.out ?_
        have HR5 : Hid (Row (w4b.setRow b10 (rl n u2 T2).toArray) b10 28 (rl n u2 T2)) := HR4.out.setRow _
        have HI5 : Hid (Ch (Is b10) w4b (w4b.setRow b10 (rl n u2 T2).toArray)) := ch_setRow _ _ _
        have HNE : Hid (b7 ≠ b10) := HNE0
        have HS5 : Hid (Row (w4b.setRow b10 (rl n u2 T2).toArray) b7 28 (rl n u T)) := HSS4b.out.1.keepIs HI5.out HNE.out
        have HLN5 := Lib.hid (HLN4b.out.keepR HR4.out HI5.out)
        have HX5 := Lib.hid (HX4b.out.keepIs HR4.out HI5.out)
        have HC5 := Lib.hid (chl_new HC4b.out HI5.out HG10.out HG10.out)
        generalize w4b.setRow b10 (rl n u2 T2).toArray = w5 at *
        refine And.intro ⟨HS5.out, HOS.out.keep HC5.out.no⟩ ?_
        simp only [Act.put, List.setIfInBounds_toArray, List.set_cons_zero, List.set_cons_succ]
        refine wpAnyH_one (i := 12) (o := ⟨some 11, _, _, _, _, _⟩) (by kernel_rfl) rfl (by rfl) ?_
        refine wp_value (.bool true) (by kernel_rfl) ?_
        refine And.intro ⟨HS5.out, HOS.out.keep HC5.out.no⟩ ?_
        simp only [Act.put, List.setIfInBounds_toArray, List.set_cons_zero, List.set_cons_succ]
        refine wpAnyH_done (by kernel_rfl) ?_ _
        go_upto_region 12 with (first | ((with_reducible refine at_op (o := ⟨some 49, .load 28 (.tmp 10), _, _, _, _⟩) ?_); refine pl_load rfl 28 (.tmp 10) rfl (b10) rfl 28 (rl n u2 T2) HR5.out _ Try.underlying28 rfl size28 ?_) | ((with_reducible refine at_op (o := ⟨none, .store 28 (.tmp 7) (.tmp 49), _, _, _, _⟩) ?_); refine pl_store rfl 28 (.tmp 7) (.tmp 49) rfl (b7) rfl 28 (rl n u T) (rl n u2 T2) rfl HS5.out size28 rfl H2.out ?_; intro w6 hr6 hc6; have HR6 := Lib.hid hr6; have HC6 := Lib.hid hc6; clear hr6 hc6))
        have HLN6 := Lib.hid (HLN5.out.keepR HS5.out HC6.out)
        have HX6 := Lib.hid (HX5.out.keepIs HS5.out HC6.out)
        have HCL6 : Hid (Chl w.heap.size w w6) := chl_new HC5.out HC6.out HB7.out HB7.out
        clear HLN5 HX5 HS5 HR5 HC5 HC6
        go_wp2_with ((with_reducible refine at_op (o := ⟨some 54, .load 28 (.tmp 7), _, _, _, _⟩) ?_); refine wpList_load_agg rfl 28 (.tmp 7) rfl b7 rfl 28 (rl n u2 T2) HR6.out _ Try.underlying28 rfl size28 ?_)
        refine (listed_calls HLN6.out HX6.out HCO5.out).mono ?_
        rintro e w7 ⟨rfl, hc7⟩
        have HLN7 := Lib.hid (HLN6.out.keepNo hc7)
        have HX7 := Lib.hid (HX6.out.keepNo hc7)
        have HR7 := Lib.hid (HR6.out.keepNo hc7)
        have HCL7 := Lib.hid (HCL6.out.then_ hc7)
        clear hc7 HLN6 HX6 HR6 HCL6
        go_wp2_with (fail)
        go_roundw
        · exact ⟨j + 1, L2, v2, u2, X2, M2, T2, by omega, by go_num, ⟨by have := HT2.out; have := HTT.out; omega, by have := HT2.out; have := HTT.out; omega⟩, HLN7, HX7, HR7, HCO5, HCL7⟩
        · simp [intOf]; omega
      · have HA1 : Hid (Ch No w1r (w1r.alloc (.cells (rl 0 (.slice none 0 0) 0).toArray 28))) := (Ch.refl _ _).alloc _
        have HR1 : Hid (Row (w1r.alloc (.cells (rl 0 (.slice none 0 0) 0).toArray 28)) w1r.heap.size 28 (rl 0 (.slice none 0 0) 0)) := Row.new w1r 28 _
        have HSSb : Hid ((fun w' : World => Row w' b7 28 (rl n u T) ∧ Opl w' (some ad) os) (w1r.alloc (.cells (rl 0 (.slice none 0 0) 0).toArray 28))) := ⟨HS1.out.alloc _, HS0.out.2.keep HA1.out⟩
        have HG10 : Hid (w.heap.size ≤ w1r.heap.size) := HC1.out.ch.size
        refine wp_value_to (w' := w1r.alloc (.cells (rl 0 (.slice none 0 0) 0).toArray 28)) (.pointer (some ⟨w1r.heap.size, 0, none⟩)) (by kernel_rfl) ?_
        refine And.intro HSSb.out ?_
        simp only [Act.put, List.setIfInBounds_toArray, List.set_cons_zero, List.set_cons_succ]
        have HLNb := Lib.hid (HLN1.out.keepNo HA1.out)
        have HXb := Lib.hid (HX1.out.keepNo HA1.out)
        have HCb := Lib.hid (HC1.out.then_ HA1.out)
        have HSb : Hid (Row _ b7 28 (rl n u T)) := HSSb.out.1
        have HNEB : Hid (b7 ≠ w1r.heap.size) := by show _ ≠ _; have := HS1.out.lt; omega
        generalize w1r.alloc (.cells (rl 0 (.slice none 0 0) 0).toArray 28) = w3 at *
        generalize w1r.heap.size = b10 at *
        refine wpAnyH_norm 6 #[true, true, true, true, true, true, false, false, false, false, true, false, false] (by kernel_rfl) (by kernel_rfl) ?_
        refine wpAnyH_one (i := 6) (o := ⟨some 46, _, _, _, _, _⟩) (by kernel_rfl) rfl (by rfl) ?_
        refine wp_call 7 #[.pointer (some ⟨p, 0, none⟩), .agg (rl n u T).toArray, .agg (OpR.cells ⟨kd, id, pri⟩).toArray] (by kernel_rfl) ((step_calls HLNb.out HXb.out HCO.out HTB.out ⟨kd, id, pri⟩).mono ?_)
        rintro e w4 ⟨v2, u2, L2, X2, M2, T2, rfl, hl4, hx4, hcor4, ht1, ht2, hc4⟩
        have HLN4 := Lib.hid hl4
        have HX4 := Lib.hid hx4
        have HCO5 := Lib.hid hcor4
        have HT2 : Hid (T ≤ T2 ∧ T2 ≤ T + 1) := ⟨ht1, ht2⟩
        have HS4 : Hid (Row w4 b7 28 (rl n u T)) := hc4.row _ _ _ HSb.out (by decide) (by decide)
        have HC4 := Lib.hid (HCb.out.trans hc4)
        have H2 := Lib.hid (rl_one (N := n) (T := T2) hx4.one)
        have HSS4 : Hid ((fun w' : World => Row w' b7 28 (rl n u T) ∧ Opl w' (some ad) os) w4) := ⟨HS4.out, HOS.out.keep HC4.out.no⟩
        have HR4 : Hid (Row w4 b10 28 (rl 0 (.slice none 0 0) 0)) := hc4.row _ _ _ HR1.out (by decide) (by decide)
        clear hl4 hx4 hcor4 ht1 ht2 hc4
        refine ⟨_, rfl, HSS4.out, ?_⟩
        simp only [Act.put, List.setIfInBounds_toArray, List.set_cons_zero, List.set_cons_succ]
        refine wpAnyH_norm 5 #[true, true, true, true, true, true, true, false, false, false, true, false, false] (by kernel_rfl) (by kernel_rfl) ?_
        refine wpAnyH_take (i := 7) (oi := ⟨some 39, _, _, _, _, _⟩) (v := .tuple #[.agg (rl n u2 T2).toArray, .bool true]) rfl (by kernel_rfl) (by kernel_rfl) (by kernel_rfl) (fun _ _ _ h => h) (Or.inl ⟨by rfl, fun _ _ => rfl⟩) HSS4.out ?_
        simp only [Act.put, List.setIfInBounds_toArray, List.set_cons_zero, List.set_cons_succ]
        refine wpAnyH_take (i := 8) (oi := ⟨some 47, _, _, _, _, _⟩) (v := .agg (rl n u2 T2).toArray) rfl (by kernel_rfl) (by kernel_rfl) (by kernel_rfl) (fun _ _ _ h => h) (Or.inl ⟨by rfl, fun _ _ => by kernel_rfl⟩) HSS4.out ?_
        simp only [Act.put, List.setIfInBounds_toArray, List.set_cons_zero, List.set_cons_succ]
        refine wpAnyH_take (i := 9) (oi := ⟨some 48, _, _, _, _, _⟩) (v := .bool true) rfl (by kernel_rfl) (by kernel_rfl) (by kernel_rfl) (fun _ _ _ h => h) (Or.inl ⟨by rfl, fun _ _ => by kernel_rfl⟩) HSS4.out ?_
        simp only [Act.put, List.setIfInBounds_toArray, List.set_cons_zero, List.set_cons_succ]
        have HSS4b := HSS4
        have HLN4b := HLN4
        have HX4b := HX4
        have HC4b := HC4
        obtain ⟨w4b, hw4b⟩ : ∃ w4b, w4b = w4 := ⟨_, rfl⟩
        subst hw4b
        have HALL : Hid ((rl n u2 T2).toArray.all (·.oneCell') = true) := by show _ = _; simpa using H2.out
        have HNE0 : Hid (b7 ≠ b10) := HNEB
        refine wpAnyH_norm 2 #[true, true, true, true, true, true, true, true, true, true, true, false, false] (by kernel_rfl) (by kernel_rfl) ?_
        refine wpAnyH_one (i := 11) (o := ⟨none, _, _, _, _, _⟩) (by kernel_rfl) rfl (by rfl) ?_
        refine wp_store_row 28 (.tmp 10) (.tmp 47) rfl b10 (rl n u2 T2).toArray rfl rfl 28 (rl 0 (.slice none 0 0) 0).toArray HR4.out size28 rfl HALL.out ?_
        have HR5 : Hid (Row (w4b.setRow b10 (rl n u2 T2).toArray) b10 28 (rl n u2 T2)) := HR4.out.setRow _
        have HI5 : Hid (Ch (Is b10) w4b (w4b.setRow b10 (rl n u2 T2).toArray)) := ch_setRow _ _ _
        have HNE : Hid (b7 ≠ b10) := HNE0
        have HS5 : Hid (Row (w4b.setRow b10 (rl n u2 T2).toArray) b7 28 (rl n u T)) := HSS4b.out.1.keepIs HI5.out HNE.out
        have HLN5 := Lib.hid (HLN4b.out.keepR HR4.out HI5.out)
        have HX5 := Lib.hid (HX4b.out.keepIs HR4.out HI5.out)
        have HC5 := Lib.hid (chl_new HC4b.out HI5.out HG10.out HG10.out)
        generalize w4b.setRow b10 (rl n u2 T2).toArray = w5 at *
        refine And.intro ⟨HS5.out, HOS.out.keep HC5.out.no⟩ ?_
        simp only [Act.put, List.setIfInBounds_toArray, List.set_cons_zero, List.set_cons_succ]
        refine wpAnyH_one (i := 12) (o := ⟨some 11, _, _, _, _, _⟩) (by kernel_rfl) rfl (by rfl) ?_
        refine wp_value (.bool true) (by kernel_rfl) ?_
        refine And.intro ⟨HS5.out, HOS.out.keep HC5.out.no⟩ ?_
        simp only [Act.put, List.setIfInBounds_toArray, List.set_cons_zero, List.set_cons_succ]
        refine wpAnyH_done (by kernel_rfl) ?_ _
        go_upto_region 12 with (first | ((with_reducible refine at_op (o := ⟨some 49, .load 28 (.tmp 10), _, _, _, _⟩) ?_); refine pl_load rfl 28 (.tmp 10) rfl (b10) rfl 28 (rl n u2 T2) HR5.out _ Try.underlying28 rfl size28 ?_) | ((with_reducible refine at_op (o := ⟨none, .store 28 (.tmp 7) (.tmp 49), _, _, _, _⟩) ?_); refine pl_store rfl 28 (.tmp 7) (.tmp 49) rfl (b7) rfl 28 (rl n u T) (rl n u2 T2) rfl HS5.out size28 rfl H2.out ?_; intro w6 hr6 hc6; have HR6 := Lib.hid hr6; have HC6 := Lib.hid hc6; clear hr6 hc6))
        have HLN6 := Lib.hid (HLN5.out.keepR HS5.out HC6.out)
        have HX6 := Lib.hid (HX5.out.keepIs HS5.out HC6.out)
        have HCL6 : Hid (Chl w.heap.size w w6) := chl_new HC5.out HC6.out HB7.out HB7.out
        clear HLN5 HX5 HS5 HR5 HC5 HC6
        go_wp2_with ((with_reducible refine at_op (o := ⟨some 54, .load 28 (.tmp 7), _, _, _, _⟩) ?_); refine wpList_load_agg rfl 28 (.tmp 7) rfl b7 rfl 28 (rl n u2 T2) HR6.out _ Try.underlying28 rfl size28 ?_)
        refine (listed_calls HLN6.out HX6.out HCO5.out).mono ?_
        rintro e w7 ⟨rfl, hc7⟩
        have HLN7 := Lib.hid (HLN6.out.keepNo hc7)
        have HX7 := Lib.hid (HX6.out.keepNo hc7)
        have HR7 := Lib.hid (HR6.out.keepNo hc7)
        have HCL7 := Lib.hid (HCL6.out.then_ hc7)
        clear hc7 HLN6 HX6 HR6 HCL6
        go_wp2_with (fail)
        go_roundw
        · exact ⟨j + 1, L2, v2, u2, X2, M2, T2, by omega, by go_num, ⟨by have := HT2.out; have := HTT.out; omega, by have := HT2.out; have := HTT.out; omega⟩, HLN7, HX7, HR7, HCO5, HCL7⟩
        · simp [intOf]; omega
    · obtain rfl : j = os.length := by omega
      have d0 : decide ((os.length : Int) < (os.length : Int)) = false := by simp
      go_wp2_with (((with_reducible refine at_op (o := ⟨some 59, .load 28 (.tmp 7), _, _, _, _⟩) ?_); refine pl_load rfl 28 (.tmp 7) rfl (b7) rfl 28 (rl n u T) HS.out _ Try.underlying28 rfl size28 ?_))
      refine (listed_calls HLN.out HX.out HCO.out).mono ?_
      rintro e w2 ⟨rfl, hc⟩
      have HC2 := Lib.hid (HC.out.no.then_ hc)
      clear hc
      go_wp2_with (fail)
      go_ret
      exact ⟨rfl, HC2.out⟩
end Go.Proofs.Ytbcnkggecgblbaa
