/- ReadyFair's walk. -/
import Derived.Test.YtbcnkggecgblbaaA12
set_option linter.unusedVariables false
set_option linter.unusedSimpArgs false
namespace Go.Proofs.Ytbcnkggecgblbaa
open Go.RowKit
/-- a call of the script: its kind, number and priority -/
structure OpR where
  kind : Int
  id : Int
  pri : Int
def OpR.cells (o : OpR) : List Value := [.int .i64 o.kind, .int .i64 o.id, .int .i64 o.pri]
def Opl (w : World) (S : Option Addr) (os : List OpR) : Prop := ∀ i o, os[i]? = some o → ∃ ad, S = some ad ∧ Cl w (some (ad.add (i * 3))) o.cells
theorem Opl.keep {w w' : World} {S : Option Addr} {os : List OpR} (h : Opl w S os) (hc : Ch No w w') : Opl w' S os := fun i o ho => by
  obtain ⟨ad, e, hcell⟩ := h i o ho
  exact ⟨ad, e, hcell.keepNo hc⟩
theorem Chl.no {w w' : World} (h : Chl w.heap.size w w') : Ch No w w' := h.ch.no (fun k hk hd => by omega)
/-- x + 1 -/
theorem exec_add1 {a : Act} {o : Oper} {w : World} (x : Operand) (ho : o.op = .binOp .add 3 x (.const (.int .i64 1)) 3) (p q : Int) (hx : a.eval x = .int .i64 p) (hq : q = p + 1) (hb : 0 ≤ q ∧ q ≤ 9223372036854775807) :
    (execOp a.eval o).run Try.prog w = .ok (.value (.int .i64 q)) w := by
  have h1 : a.eval (.const (.int .i64 1)) = .int .i64 1 := rfl
  unfold execOp
  simp only [ho, hx, h1]
  go_simp
  rw [IntKind.wrap_i64]
  omega
theorem fair_bad (n : Int) (S : Option Addr) (sl sc : Nat) (w : World) (h : n < 0 ∨ 65535 < n) :
    Calls Try.prog 4 #[.int .i64 n, .slice S sl sc] w fun e w' => e = .returned (.bool true) ∧ Ch No w w' := by
  go_enter Try.func4, Try.ntmps4
  go_wp2_with (fail)
  refine (new_bad n w h).mono ?_
  rintro e w1 ⟨rfl, rfl⟩
  go_wp2_with (fail)
  refine (works_calls w1).mono ?_
  rintro e w2 ⟨rfl, hc⟩
  have HC := Lib.hid hc
  clear hc
  go_wp2_with (fail)
  go_ret
  exact ⟨rfl, HC.out⟩
set_option maxHeartbeats 2000000 in
set_option maxRecDepth 100000 in
theorem fair_ok (n : Int) (S : Option Addr) (os : List OpR) (sc : Nat) (w : World) (h0 : 0 ≤ n) (h1 : n ≤ 65535) (hs : Opl w S os) (hsm : os.length ≤ 9223372036854775807) :
    Calls Try.prog 4 #[.int .i64 n, .slice S os.length sc] w fun e w' => e = .returned (.bool true) ∧ Ch No w w' := by
  have HS := Lib.hid hs
  clear hs
  go_enter Try.func4, Try.ntmps4
  go_wp2_with (fail)
  refine (new_ok n w h0 h1).mono ?_
  rintro e w1 ⟨rfl, hl1, hc1⟩
  have HL1 := Lib.hid hl1
  have HC1 : Hid (Chl w.heap.size w w1) := Chl.of_no hc1
  clear hl1 hc1
  obtain ⟨p, hp⟩ : ∃ p, p = w.heap.size := ⟨_, rfl⟩
  have HLW : Hid (Ln w.heap.size p n (.slice none 0 0) [] w1) := by rw [hp]; exact HL1.out
  rw [← hp]
  clear HL1 hp
  go_wp2_with (fail)
  go_loopw [7] (fun i wr => ∃ (j : Nat) (L : List (Int × Int)) (v : Value), j ≤ os.length ∧ i = .int .i64 j ∧ Hid (Ln w.heap.size p n v L wr) ∧ Hid (Srt L) ∧ Hid (Chl w.heap.size w wr)) (fun i _ => os.length - (intOf i).toNat)
  case atStart => exact ⟨0, [], .slice none 0 0, Nat.zero_le _, rfl, HLW, List.Pairwise.nil, HC1⟩
  case round =>
    clear HLW HC1
    obtain ⟨j, L, v, hj, rfl, HL, HSR, HC⟩ := hrel
    by_cases hlt : j < os.length
    · have d0 : decide ((j : Int) < (os.length : Int)) = true := by simpa using hlt
      have hji : (j : Int) < (os.length : Int) := by omega
      obtain ⟨ad, ead, hcell⟩ := (HS.out.keep HC.out.no) j _ (List.getElem?_eq_getElem hlt)
      subst ead
      generalize os[j] = o at *
      have c0 := hcell.first rfl
      have c1 := hcell.next 0 rfl
      have c2 := hcell.next 1 rfl
      simp only [Nat.reduceAdd] at c1 c2
      clear hcell
      obtain ⟨kd, id, pri⟩ := o
      simp only [] at c0 c1 c2
      go_wp2_with (fail)
      have HA : Hid (Ch No wr (wr.alloc (.cells #[.int .i64 kd, .int .i64 id, .int .i64 pri] 33))) := (Ch.refl _ _).alloc _
      have HB : Hid (Row (wr.alloc (.cells #[.int .i64 kd, .int .i64 id, .int .i64 pri] 33)) wr.heap.size 33 [.int .i64 kd, .int .i64 id, .int .i64 pri]) := Row.new wr 33 _
      refine (list_calls (HL.out.keepNo HA.out)).mono ?_
      rintro e w2 ⟨v2, rfl, ho2, hc2⟩
      have HSM := HL.out.small
      have HO2 : Hid (Ol (wr.alloc (.cells #[.int .i64 kd, .int .i64 id, .int .i64 pri] 33)).heap.size w2 v2 (ids L)) := ⟨ho2, by rw [ids_length]; omega⟩
      have HL2 := Lib.hid ((HL.out.keepNo HA.out).keepNo hc2)
      have HB2 := Lib.hid (HB.out.keepNo hc2)
      have HC2 := Lib.hid ((HC.out.then_ HA.out).then_ hc2)
      generalize (wr.alloc (.cells #[.int .i64 kd, .int .i64 id, .int .i64 pri] 33)).heap.size = bb at *
      clear ho2 hc2 c0 c1 c2 HA HB HL HC
      have e0 : w2.cell? ⟨wr.heap.size, 0, none⟩ = some (.int .i64 kd) := by rw [HB2.out.cell]; rfl
      have e1 : w2.cell? ⟨wr.heap.size, 1, none⟩ = some (.int .i64 id) := by rw [HB2.out.cell]; rfl
      have e2 : w2.cell? ⟨wr.heap.size, 2, none⟩ = some (.int .i64 pri) := by rw [HB2.out.cell]; rfl
      have hb2 := HB2.out.lt
      have hp2 := HL2.out.row.lt
      by_cases hk1 : kd = 1
      · subst hk1
        go_wp2_with (fail)
        by_cases hin : 1 ≤ id ∧ id ≤ n
        · refine (put_ok HL2.out id pri hin.1 hin.2).mono ?_
          rintro e w5 ⟨rfl, ⟨v5, hl5⟩, hc5⟩
          have HG := Lib.hid (good_put pri id L HL2.out.nd HSR.out)
          have HL5 := Lib.hid hl5
          have HC5 := Lib.hid (HC2.out.trans hc5)
          have HO5 := Lib.hid (HO2.out.keepl hc5)
          have HB5 := Lib.hid (hc5.row _ _ _ HB2.out (by decide) (by decide))
          generalize put id pri L = L2 at *
          obtain ⟨D, hD⟩ : ∃ D, D = id := ⟨_, rfl⟩
          subst hD
          clear hl5 hc5 HL2 HO2 HB2 HC2 e0 e1 e2 hb2 hp2
          have hp2 := HL5.out.row.lt
          go_wp2_with (fail)
          refine (list_calls HL5.out).mono ?_
          rintro e w6 ⟨v6, rfl, ho6, hc6⟩
          have HS5 := HL5.out.small
          have HO6 : Hid (Ol w5.heap.size w6 v6 (ids L2)) := ⟨ho6, by rw [ids_length]; omega⟩
          have HL6 := Lib.hid (HL5.out.keepNo hc6)
          have HC6 := Lib.hid (HC5.out.then_ hc6)
          have HO9 := Lib.hid (HO5.out.keepNo hc6)
          have HB6 := Lib.hid (HB5.out.keepNo hc6)
          clear ho6 hc6 HL5 HC5 HO5 HB5
          go_wp2_with (fail)
          refine (where_calls D HO6.out.sl).mono ?_
          rintro e w7 ⟨rfl, rfl⟩
          have HAT := Lib.hid HG.out.at_
          obtain ⟨AT, hat⟩ : ∃ AT, AT = wher (ids L2) D := ⟨_, rfl⟩
          rw [← hat] at HAT ⊢
          have HWA := Lib.hid hat
          clear hat
          go_wp2_with (fail)
          refine (ordered_calls HL6.out HG.out.srt).mono ?_
          rintro e w7 ⟨rfl, hc7⟩
          have HL7 := Lib.hid (HL6.out.keepNo hc7)
          have HC7 := Lib.hid (HC6.out.then_ hc7)
          have HO7 := Lib.hid (HO6.out.keepNo hc7)
          have HP7 := Lib.hid (HO9.out.keepNo hc7)
          have HB7 := Lib.hid (HB6.out.keepNo hc7)
          clear hc7 HL6 HC6 HO6 HO9 HB6
          have e0 : w7.cell? ⟨wr.heap.size, 0, none⟩ = some (.int .i64 1) := by rw [HB7.out.cell]; rfl
          have e2 : w7.cell? ⟨wr.heap.size, 2, none⟩ = some (.int .i64 pri) := by rw [HB7.out.cell]; rfl
          have hb7 := HB7.out.lt
          have hge : decide (0 ≤ AT) = true := by have := HAT.out; simpa using this
          obtain ⟨s, hs⟩ : ∃ s : Nat, AT = (s : Int) := ⟨AT.toNat, by have := of_decide_eq_true hge; omega⟩
          subst hs
          obtain ⟨A6, c6, rfl, hcl6, hl6⟩ := HO7.out.sl
          have HX6 := Lib.hid hcl6
          clear hcl6
          have HSB : Hid ((s : Int) + 1 ≤ 9223372036854775807) := by
            show _ ≤ _
            have h1 := HWA.out
            have h2 : s ≤ 65535 := by
              unfold wher at h1
              cases hf : (ids L2).findIdx? (· == D) with
              | none => rw [hf] at h1; have h1 : (s : Int) = -1 := h1; omega
              | some i =>
                rw [hf] at h1
                obtain ⟨hi, _⟩ := List.findIdx?_eq_some_iff_getElem.1 hf
                rw [ids_length] at hi
                have h1 : (s : Int) = (i : Int) := h1
                omega
            omega
          have hsb := HSB.out
          go_upto_region 26 with (fail)
          by_cases hlt2 : s + 1 < (ids L2).length
          · have d5 : decide ((s : Int) + 1 < ((ids L2).length : Int)) = true := decide_eq_true (by omega)
            obtain ⟨ad6, ea6, _⟩ := cl_rd HX6.out (s + 1) hlt2
            subst ea6
            have HCA : Hid (∀ w', Ch No w7 w' → w'.cell? (ad6.add (s + 1)) = some (.int .i64 (rd (ids L2) (s + 1)))) := fun w' hc => by
              obtain ⟨ad', e, hcell⟩ := cl_rd (HX6.out.keepNo hc) (s + 1) hlt2
              cases e
              exact hcell
            have HPR : Hid (prio (rd (ids L2) (s + 1)) L2 = (prAt L2 (s + 1), true)) := prio_at L2 HL7.out.nd (s + 1) (by rw [← ids_length]; exact hlt2)
            have hlow : decide (pri ≤ prAt L2 (s + 1)) = false := by
              refine decide_eq_false ?_
              have hi : s + 1 < L2.length := by rw [← ids_length]; exact hlt2
              have h1 := HG.out.nxt rfl (L2[s + 1]'hi) (by rw [← HWA.out]; exact List.getElem?_eq_getElem hi)
              unfold prAt
              rw [List.getElem?_eq_getElem hi]
              simp only [Option.map_some, Option.getD_some]
              omega
            go_upto_region 27 with (fail)
            refine wp_region_quiet_tail 13 (by kernel_rfl) (by kernel_rfl) (fun w' => Ch No w7 w') ((Ch.refl _ _).drew) ?_
            simp only [List.take_succ_cons, List.take_zero, List.drop_succ_cons, List.drop_zero]
            refine wpQuiet_value (by rfl) (.pointer (some ⟨p, 0, none⟩)) (fun _ => rfl) ?_
            simp only [Act.put, List.setIfInBounds_toArray, List.set_cons_zero, List.set_cons_succ]
            refine wpQuiet_value (by rfl) (.pointer (some ⟨p, 0, none⟩)) (fun _ => rfl) ?_
            simp only [Act.put, List.setIfInBounds_toArray, List.set_cons_zero, List.set_cons_succ]
            refine wpQuiet_value (by rfl) (.pointer (some ⟨p, 0, none⟩)) (fun _ => by kernel_rfl) ?_
            simp only [Act.put, List.setIfInBounds_toArray, List.set_cons_zero, List.set_cons_succ]
            refine wpQuiet_value (by rfl) (.slice (some ad6) (ids L2).length c6) (fun _ => rfl) ?_
            simp only [Act.put, List.setIfInBounds_toArray, List.set_cons_zero, List.set_cons_succ]
            refine wpQuiet_value (by rfl) (.int .i64 (s : Int)) (fun _ => rfl) ?_
            simp only [Act.put, List.setIfInBounds_toArray, List.set_cons_zero, List.set_cons_succ]
            refine wpQuiet_value (by rfl) (.int .i64 ((s + 1 : Nat) : Int)) (fun w' => exec_add1 (.tmp 146) rfl (s : Int) _ rfl (by omega) (by omega)) ?_
            simp only [Act.put, List.setIfInBounds_toArray, List.set_cons_zero, List.set_cons_succ]
            refine wpQuiet_value (by rfl) (.pointer (some (ad6.add (s + 1)))) (fun w' => exec_at 37 3 (.tmp 145) (.tmp 147) rfl Try.underlying37 one3 ad6 (ids L2).length c6 (s + 1) rfl rfl hlt2) ?_
            simp only [Act.put, List.setIfInBounds_toArray, List.set_cons_zero, List.set_cons_succ]
            refine wpQuiet_read (by rfl) (.int .i64 (rd (ids L2) (s + 1))) (fun w' hw' => exec_load_cell 3 (.tmp 148) rfl (ad6.add (s + 1)) rfl _ Try.underlying3 rfl _ (HCA.out w' hw')) ?_
            simp only [Act.put, List.setIfInBounds_toArray, List.set_cons_zero, List.set_cons_succ]
            refine wpQuiet_call (by rfl) (.tuple #[.int .i64 (prAt L2 (s + 1)), .bool true]) 17 #[.pointer (some ⟨p, 0, none⟩), .int .i64 (rd (ids L2) (s + 1))] (fun _ => by kernel_rfl) (fun w' hw' => (priority_calls (HL7.out.keepNo hw') _).mono fun e w'' h => ⟨by rw [h.1, HPR.out], hw'.then_ h.2⟩) ?_
            simp only [Act.put, List.setIfInBounds_toArray, List.set_cons_zero, List.set_cons_succ]
            refine wpQuiet_value (by rfl) (.tuple #[.int .i64 (prAt L2 (s + 1)), .bool true]) (fun _ => rfl) ?_
            simp only [Act.put, List.setIfInBounds_toArray, List.set_cons_zero, List.set_cons_succ]
            refine wpQuiet_value (by rfl) (.int .i64 (prAt L2 (s + 1))) (fun _ => by kernel_rfl) ?_
            simp only [Act.put, List.setIfInBounds_toArray, List.set_cons_zero, List.set_cons_succ]
            refine wpQuiet_value (by rfl) (.bool true) (fun _ => by kernel_rfl) ?_
            simp only [Act.put, List.setIfInBounds_toArray, List.set_cons_zero, List.set_cons_succ]
            refine wpQuiet_value (by rfl) (.int .i64 (prAt L2 (s + 1))) (fun _ => by kernel_rfl) ?_
            simp only [Act.put, List.setIfInBounds_toArray, List.set_cons_zero, List.set_cons_succ]
            refine wpQuiet_nil ?_
            intro w8 hw8
            have HL8 := Lib.hid (HL7.out.keepNo hw8)
            have HC8 := Lib.hid (HC7.out.then_ hw8)
            have HO8 := Lib.hid (HO7.out.keepNo hw8)
            have HP8 := Lib.hid (HP7.out.keepNo hw8)
            have HB8 := Lib.hid (HB7.out.keepNo hw8)
            clear hw8 e0 e2 hb7
            have e2 : w8.cell? ⟨wr.heap.size, 2, none⟩ = some (.int .i64 pri) := by rw [HB8.out.cell]; rfl
            have hb7 := HB8.out.lt
            refine pl_value rfl (.bool true) (by kernel_rfl) ?_
            simp only [Act.put, List.setIfInBounds_toArray, List.set_cons_zero, List.set_cons_succ]
            go_wp2_with (fail)
            refine (kept_calls D HP8.out.sl HO8.out.sl).mono ?_
            rintro e w9 ⟨rfl, hc9⟩
            have hkp : decide (oth D (ids L) = oth D (ids L2)) = true := decide_eq_true HG.out.kept
            rw [hkp]
            have HL9 := Lib.hid (HL8.out.keepNo hc9)
            have HC9 := Lib.hid (HC8.out.then_ hc9)
            clear hc9 hkp
            go_wp2_with (fail)
            go_roundw
            · exact ⟨j + 1, L2, v5, by omega, by go_num, HL9, HG.out.srt, HC9⟩
            · simp [intOf]; omega
          · have d5 : decide ((s : Int) + 1 < ((ids L2).length : Int)) = false := decide_eq_false (by omega)
            go_wp2_with (fail)
            refine (kept_calls D HP7.out.sl HO7.out.sl).mono ?_
            rintro e w9 ⟨rfl, hc9⟩
            have hkp : decide (oth D (ids L) = oth D (ids L2)) = true := decide_eq_true HG.out.kept
            rw [hkp]
            have HL9 := Lib.hid (HL7.out.keepNo hc9)
            have HC9 := Lib.hid (HC7.out.then_ hc9)
            clear hc9 hkp
            go_wp2_with (fail)
            go_roundw
            · exact ⟨j + 1, L2, v5, by omega, by go_num, HL9, HG.out.srt, HC9⟩
            · simp [intOf]; omega
        · refine (put_bad HL2.out id pri (by omega)).mono ?_
          rintro e w5 ⟨rfl, hc5⟩
          have HG := Lib.hid (good_no pri id L HSR.out)
          have HL5 := Lib.hid (HL2.out.keepNo hc5)
          have HC5 := Lib.hid (HC2.out.then_ hc5)
          have HO5 := Lib.hid (HO2.out.keepNo hc5)
          have HB5 := Lib.hid (HB2.out.keepNo hc5)
          obtain ⟨L2, hL2⟩ : ∃ L2, L2 = L := ⟨_, rfl⟩
          rw [← hL2] at HL5
          have HG : Hid (Good 1 pri L L2 false id) := by rw [hL2]; exact HG
          obtain ⟨v5, hv5⟩ : ∃ v5, v5 = v := ⟨_, rfl⟩
          rw [← hv5] at HL5
          obtain ⟨D, hD⟩ : ∃ D, D = id := ⟨_, rfl⟩
          rw [← hD] at HG
          clear hc5 HL2 HO2 HB2 HC2 e0 e1 e2 hb2 hp2 hL2 hv5
          have hp2 := HL5.out.row.lt
          go_wp2_with (fail)
          rw [← hD]
          clear hD
          refine (list_calls HL5.out).mono ?_
          rintro e w6 ⟨v6, rfl, ho6, hc6⟩
          have HS5 := HL5.out.small
          have HO6 : Hid (Ol w5.heap.size w6 v6 (ids L2)) := ⟨ho6, by rw [ids_length]; omega⟩
          have HL6 := Lib.hid (HL5.out.keepNo hc6)
          have HC6 := Lib.hid (HC5.out.then_ hc6)
          have HO9 := Lib.hid (HO5.out.keepNo hc6)
          have HB6 := Lib.hid (HB5.out.keepNo hc6)
          clear ho6 hc6 HL5 HC5 HO5 HB5
          go_wp2_with (fail)
          refine (where_calls D HO6.out.sl).mono ?_
          rintro e w7 ⟨rfl, rfl⟩
          have HAT := Lib.hid HG.out.at_
          obtain ⟨AT, hat⟩ : ∃ AT, AT = wher (ids L2) D := ⟨_, rfl⟩
          rw [← hat] at HAT ⊢
          have HWA := Lib.hid hat
          clear hat
          go_wp2_with (fail)
          refine (ordered_calls HL6.out HG.out.srt).mono ?_
          rintro e w7 ⟨rfl, hc7⟩
          have HL7 := Lib.hid (HL6.out.keepNo hc7)
          have HC7 := Lib.hid (HC6.out.then_ hc7)
          have HO7 := Lib.hid (HO6.out.keepNo hc7)
          have HP7 := Lib.hid (HO9.out.keepNo hc7)
          have HB7 := Lib.hid (HB6.out.keepNo hc7)
          clear hc7 HL6 HC6 HO6 HO9 HB6
          have e0 : w7.cell? ⟨wr.heap.size, 0, none⟩ = some (.int .i64 1) := by rw [HB7.out.cell]; rfl
          have e2 : w7.cell? ⟨wr.heap.size, 2, none⟩ = some (.int .i64 pri) := by rw [HB7.out.cell]; rfl
          have hb7 := HB7.out.lt
          have hne : decide (0 ≤ AT) = decide (0 ≤ wher (ids L) D) := by have := HAT.out; simpa using this
          have HW8 := Lib.hid (where_calls D HP7.out.sl)
          generalize wher (ids L) D = BT at *
          cases hBT : decide (0 ≤ BT)
          · have hAT : decide (0 ≤ AT) = false := hne.trans hBT
            clear hne
            go_wp2_with (fail)
            refine HW8.out.mono ?_
            rintro e w8 ⟨rfl, rfl⟩
            go_wp2_with (fail)
            refine (kept_calls D HP7.out.sl HO7.out.sl).mono ?_
            rintro e w9 ⟨rfl, hc9⟩
            have hkp : decide (oth D (ids L) = oth D (ids L2)) = true := decide_eq_true HG.out.kept
            rw [hkp]
            have HL9 := Lib.hid (HL7.out.keepNo hc9)
            have HC9 := Lib.hid (HC7.out.then_ hc9)
            clear hc9 hkp
            go_wp2_with (fail)
            go_roundw
            · exact ⟨j + 1, L2, v5, by omega, by go_num, HL9, HG.out.srt, HC9⟩
            · simp [intOf]; omega
          · have hAT : decide (0 ≤ AT) = true := hne.trans hBT
            clear hne
            go_wp2_with (fail)
            refine HW8.out.mono ?_
            rintro e w8 ⟨rfl, rfl⟩
            go_wp2_with (fail)
            refine (kept_calls D HP7.out.sl HO7.out.sl).mono ?_
            rintro e w9 ⟨rfl, hc9⟩
            have hkp : decide (oth D (ids L) = oth D (ids L2)) = true := decide_eq_true HG.out.kept
            rw [hkp]
            have HL9 := Lib.hid (HL7.out.keepNo hc9)
            have HC9 := Lib.hid (HC7.out.then_ hc9)
            clear hc9 hkp
            go_wp2_with (fail)
            go_roundw
            · exact ⟨j + 1, L2, v5, by omega, by go_num, HL9, HG.out.srt, HC9⟩
            · simp [intOf]; omega
      · have hkk : (kd == 1) = false := by simpa using hk1
        have HKN := Lib.hid hk1
        clear hk1
        by_cases hk2 : kd = 2
        · have hk22 : (kd == 2) = true := by simpa using hk2
          clear hk2
          have HRM := fun w' (hc : Ch No w2 w') => remove_calls (HL2.out.keepNo hc) id
          have HRM := Lib.hid HRM
          go_upto_region 15 with (fail)
          refine wp_region_quiet_tail 5 (by kernel_rfl) (by kernel_rfl) (fun w' => Ch No w2 w') ((Ch.refl _ _).drew) ?_
          simp only [List.take_succ_cons, List.take_zero, List.drop_succ_cons, List.drop_zero]
          refine wpQuiet_value (by rfl) (.pointer (some ⟨p, 0, none⟩)) (fun _ => rfl) ?_
          simp only [Act.put, List.setIfInBounds_toArray, List.set_cons_zero, List.set_cons_succ]
          refine wpQuiet_value (by rfl) (.pointer (some ⟨p, 0, none⟩)) (fun _ => rfl) ?_
          simp only [Act.put, List.setIfInBounds_toArray, List.set_cons_zero, List.set_cons_succ]
          refine wpQuiet_value (by rfl) (.pointer (some ⟨p, 0, none⟩)) (fun _ => by kernel_rfl) ?_
          simp only [Act.put, List.setIfInBounds_toArray, List.set_cons_zero, List.set_cons_succ]
          refine wpQuiet_value (by rfl) (.pointer (some ⟨wr.heap.size, 1, none⟩)) (fun _ => by kernel_rfl) ?_
          simp only [Act.put, List.setIfInBounds_toArray, List.set_cons_zero, List.set_cons_succ]
          refine wpQuiet_read (by rfl) (.int .i64 id) (fun w' hw' => exec_load_cell 3 (.tmp 65) rfl ⟨wr.heap.size, 1, none⟩ rfl _ Try.underlying3 rfl _ (by rw [(HB2.out.keepNo hw').cell]; rfl)) ?_
          simp only [Act.put, List.setIfInBounds_toArray, List.set_cons_zero, List.set_cons_succ]
          refine wpQuiet_nil ?_
          intro w4 hw4
          have HL4 := Lib.hid (HL2.out.keepNo hw4)
          have HC4 := Lib.hid (HC2.out.then_ hw4)
          have HO4 := Lib.hid (HO2.out.keepNo hw4)
          have HB4 := Lib.hid (HB2.out.keepNo hw4)
          clear hw4 HRM e0 e1 e2 hb2 hp2 HL2 HC2 HO2 HB2
          go_wp2_with (fail)
          refine (remove_calls HL4.out id).mono ?_
          rintro e w5 ⟨rfl, ⟨v5, hl5⟩, hc5⟩
          have HG := Lib.hid (good_rem kd pri id HKN.out L HL4.out.nd HSR.out)
          have HL5 := Lib.hid hl5
          have HC5 := Lib.hid (HC4.out.trans hc5)
          have HO5 := Lib.hid (HO4.out.keepl hc5)
          have HB5 := Lib.hid (hc5.row _ _ _ HB4.out (by decide) (by decide))
          generalize rem id L = L2 at *
          obtain ⟨D, hD⟩ : ∃ D, D = id := ⟨_, rfl⟩
          subst hD
          clear hl5 hc5 HL4 HC4 HO4 HB4
          have hp2 := HL5.out.row.lt
          go_wp2_with (fail)
          refine (list_calls HL5.out).mono ?_
          rintro e w6 ⟨v6, rfl, ho6, hc6⟩
          have HS5 := HL5.out.small
          have HO6 : Hid (Ol w5.heap.size w6 v6 (ids L2)) := ⟨ho6, by rw [ids_length]; omega⟩
          have HL6 := Lib.hid (HL5.out.keepNo hc6)
          have HC6 := Lib.hid (HC5.out.then_ hc6)
          have HO9 := Lib.hid (HO5.out.keepNo hc6)
          have HB6 := Lib.hid (HB5.out.keepNo hc6)
          clear ho6 hc6 HL5 HC5 HO5 HB5
          go_wp2_with (fail)
          refine (where_calls D HO6.out.sl).mono ?_
          rintro e w7 ⟨rfl, rfl⟩
          have HAT := Lib.hid HG.out.at_
          obtain ⟨AT, hat⟩ : ∃ AT, AT = wher (ids L2) D := ⟨_, rfl⟩
          rw [← hat] at HAT ⊢
          have HWA := Lib.hid hat
          clear hat
          go_wp2_with (fail)
          refine (ordered_calls HL6.out HG.out.srt).mono ?_
          rintro e w7 ⟨rfl, hc7⟩
          have HL7 := Lib.hid (HL6.out.keepNo hc7)
          have HC7 := Lib.hid (HC6.out.then_ hc7)
          have HO7 := Lib.hid (HO6.out.keepNo hc7)
          have HP7 := Lib.hid (HO9.out.keepNo hc7)
          have HB7 := Lib.hid (HB6.out.keepNo hc7)
          clear hc7 HL6 HC6 HO6 HO9 HB6
          have e0 : w7.cell? ⟨wr.heap.size, 0, none⟩ = some (.int .i64 kd) := by rw [HB7.out.cell]; rfl
          have e2 : w7.cell? ⟨wr.heap.size, 2, none⟩ = some (.int .i64 pri) := by rw [HB7.out.cell]; rfl
          have hb7 := HB7.out.lt
          have hge : decide (0 ≤ AT) = false := by rw [HAT.out, decide_eq_false HKN.out]; rfl
          go_wp2_with (fail)
          refine (kept_calls D HP7.out.sl HO7.out.sl).mono ?_
          rintro e w9 ⟨rfl, hc9⟩
          have hkp : decide (oth D (ids L) = oth D (ids L2)) = true := decide_eq_true HG.out.kept
          rw [hkp]
          have HL9 := Lib.hid (HL7.out.keepNo hc9)
          have HC9 := Lib.hid (HC7.out.then_ hc9)
          clear hc9 hkp
          go_wp2_with (fail)
          go_roundw
          · exact ⟨j + 1, L2, v5, by omega, by go_num, HL9, HG.out.srt, HC9⟩
          · simp [intOf]; omega
        · have hk22 : (kd == 2) = false := by simpa using hk2
          clear hk2
          by_cases hk4 : kd = 4
          · have hk44 : (kd == 4) = true := by simpa using hk4
            clear hk4
            have HFI := Lib.hid (first_calls HL2.out)
            have HTA := Lib.hid (take_calls HL2.out)
            have HG0 := Lib.hid (good_take kd pri HKN.out L HL2.out.nd HSR.out)
            go_upto_region 17 with (fail)
            go_wp2_with (fail)
            refine HFI.out.mono ?_
            rintro e w3 ⟨rfl, rfl⟩
            go_wp2_with (fail)
            refine HTA.out.mono ?_
            rintro e w5 ⟨rfl, ⟨v5, hl5⟩, hc5⟩
            have HL5 := Lib.hid hl5
            have HC5 := Lib.hid (HC2.out.trans hc5)
            have HO5 := Lib.hid (HO2.out.keepl hc5)
            have HB5 := Lib.hid (hc5.row _ _ _ HB2.out (by decide) (by decide))
            clear hl5 hc5 HL2 HC2 HO2 HB2 HFI HTA e0 e1 e2 hb2 hp2
            have hp2 := HL5.out.row.lt
            cases L with
            | nil =>
              have HG : Hid (Good kd pri [] ([] : List (Int × Int)).tail false 0) := HG0
              have HL5 : Hid (Ln w.heap.size p n v5 ([] : List (Int × Int)).tail w5) := HL5
              simp only [fst]
              obtain ⟨A9, c9, rfl, hcl9, hl9⟩ := HO5.out.sl
              clear hcl9
              generalize ([] : List (Int × Int)).tail = L2 at *
              have hll : (ids ([] : List (Int × Int))).length = 0 := rfl
              rw [hll] at HO5 ⊢
              clear hll hl9
              go_wp2_with (fail)
              refine (list_calls HL5.out).mono ?_
              rintro e w6 ⟨v6, rfl, ho6, hc6⟩
              have HS5 := HL5.out.small
              have HO6 : Hid (Ol w5.heap.size w6 v6 (ids L2)) := ⟨ho6, by rw [ids_length]; omega⟩
              have HL6 := Lib.hid (HL5.out.keepNo hc6)
              have HC6 := Lib.hid (HC5.out.then_ hc6)
              have HO9 := Lib.hid (HO5.out.keepNo hc6)
              have HB6 := Lib.hid (HB5.out.keepNo hc6)
              clear ho6 hc6 HL5 HC5 HO5 HB5
              go_wp2_with (fail)
              refine (where_calls (0 : Int) HO6.out.sl).mono ?_
              rintro e w7 ⟨rfl, rfl⟩
              have HAT := Lib.hid HG.out.at_
              obtain ⟨AT, hat⟩ : ∃ AT, AT = wher (ids L2) (0 : Int) := ⟨_, rfl⟩
              rw [← hat] at HAT ⊢
              have HWA := Lib.hid hat
              clear hat
              go_wp2_with (fail)
              refine (ordered_calls HL6.out HG.out.srt).mono ?_
              rintro e w7 ⟨rfl, hc7⟩
              have HL7 := Lib.hid (HL6.out.keepNo hc7)
              have HC7 := Lib.hid (HC6.out.then_ hc7)
              have HO7 := Lib.hid (HO6.out.keepNo hc7)
              have HP7 := Lib.hid (HO9.out.keepNo hc7)
              have HB7 := Lib.hid (HB6.out.keepNo hc7)
              clear hc7 HL6 HC6 HO6 HO9 HB6
              have e0 : w7.cell? ⟨wr.heap.size, 0, none⟩ = some (.int .i64 kd) := by rw [HB7.out.cell]; rfl
              have e2 : w7.cell? ⟨wr.heap.size, 2, none⟩ = some (.int .i64 pri) := by rw [HB7.out.cell]; rfl
              have hb7 := HB7.out.lt
              have hge : decide (0 ≤ AT) = false := by rw [HAT.out, decide_eq_false HKN.out]; rfl
              go_wp2_with (fail)
              refine (kept_calls (0 : Int) HP7.out.sl HO7.out.sl).mono ?_
              rintro e w9 ⟨rfl, hc9⟩
              have hkp : decide (oth (0 : Int) (ids ([] : List (Int × Int))) = oth (0 : Int) (ids L2)) = true := decide_eq_true HG.out.kept
              rw [hkp]
              have HL9 := Lib.hid (HL7.out.keepNo hc9)
              have HC9 := Lib.hid (HC7.out.then_ hc9)
              clear hc9 hkp
              go_wp2_with (fail)
              go_roundw
              · exact ⟨j + 1, L2, v5, by omega, by go_num, HL9, HG.out.srt, HC9⟩
              · simp [intOf]; omega
            | cons x L0 =>
              have HG : Hid (Good kd pri (x :: L0) L0 false x.1) := HG0
              have HL5 : Hid (Ln w.heap.size p n v5 L0 w5) := HL5
              simp only [fst]
              obtain ⟨A9, c9, hv9, hcl9, hl9⟩ := HO5.out.sl
              obtain ⟨ad9, rfl⟩ := hcl9.addr (by rw [ints_length]; simp [ids])
              subst hv9
              have hx0 : w5.cell? ad9 = some (.int .i64 x.1) := hcl9.first rfl
              obtain ⟨m9, hm9⟩ : ∃ m9, m9 = (ids (x :: L0)).length := ⟨_, rfl⟩
              have hm90 : decide ((0 : Int) < (m9 : Int)) = true := decide_eq_true (by rw [hm9, ids_length]; simp)
              have hm91 : (0 : Int) < (m9 : Int) := of_decide_eq_true hm90
              rw [← hm9] at HO5 ⊢
              have HM9 := Lib.hid hm9
              clear hm9 hcl9
              obtain ⟨L, hL⟩ : ∃ L : List (Int × Int), L = x :: L0 := ⟨_, rfl⟩
              rw [← hL] at HG HO5 HM9
              clear hL
              generalize L0 = L2 at *
              generalize x.1 = D at *
              go_wp2_with (fail)
              refine (list_calls HL5.out).mono ?_
              rintro e w6 ⟨v6, rfl, ho6, hc6⟩
              have HS5 := HL5.out.small
              have HO6 : Hid (Ol w5.heap.size w6 v6 (ids L2)) := ⟨ho6, by rw [ids_length]; omega⟩
              have HL6 := Lib.hid (HL5.out.keepNo hc6)
              have HC6 := Lib.hid (HC5.out.then_ hc6)
              have HO9 := Lib.hid (HO5.out.keepNo hc6)
              have HB6 := Lib.hid (HB5.out.keepNo hc6)
              clear ho6 hc6 HL5 HC5 HO5 HB5
              go_wp2_with (fail)
              refine (where_calls D HO6.out.sl).mono ?_
              rintro e w7 ⟨rfl, rfl⟩
              have HAT := Lib.hid HG.out.at_
              obtain ⟨AT, hat⟩ : ∃ AT, AT = wher (ids L2) D := ⟨_, rfl⟩
              rw [← hat] at HAT ⊢
              have HWA := Lib.hid hat
              clear hat
              go_wp2_with (fail)
              refine (ordered_calls HL6.out HG.out.srt).mono ?_
              rintro e w7 ⟨rfl, hc7⟩
              have HL7 := Lib.hid (HL6.out.keepNo hc7)
              have HC7 := Lib.hid (HC6.out.then_ hc7)
              have HO7 := Lib.hid (HO6.out.keepNo hc7)
              have HP7 := Lib.hid (HO9.out.keepNo hc7)
              have HB7 := Lib.hid (HB6.out.keepNo hc7)
              clear hc7 HL6 HC6 HO6 HO9 HB6
              have e0 : w7.cell? ⟨wr.heap.size, 0, none⟩ = some (.int .i64 kd) := by rw [HB7.out.cell]; rfl
              have e2 : w7.cell? ⟨wr.heap.size, 2, none⟩ = some (.int .i64 pri) := by rw [HB7.out.cell]; rfl
              have hb7 := HB7.out.lt
              have hge : decide (0 ≤ AT) = false := by rw [HAT.out, decide_eq_false HKN.out]; rfl
              go_wp2_with (fail)
              refine (kept_calls D HP7.out.sl HO7.out.sl).mono ?_
              rintro e w9 ⟨rfl, hc9⟩
              have hkp : decide (oth D (ids L) = oth D (ids L2)) = true := decide_eq_true HG.out.kept
              rw [hkp]
              have HL9 := Lib.hid (HL7.out.keepNo hc9)
              have HC9 := Lib.hid (HC7.out.then_ hc9)
              clear hc9 hkp
              go_wp2_with (fail)
              go_roundw
              · exact ⟨j + 1, L2, v5, by omega, by go_num, HL9, HG.out.srt, HC9⟩
              · simp [intOf]; omega
          · have hk44 : (kd == 4) = false := by simpa using hk4
            clear hk4
            go_wp2_with (fail)
            go_roundw
            · exact ⟨j + 1, L, v, by omega, by go_num, HL2, HSR, HC2⟩
            · simp [intOf]; omega
    · obtain rfl : j = os.length := by omega
      have d0 : decide ((os.length : Int) < (os.length : Int)) = false := by simp
      go_wp2_with (fail)
      refine (works_calls wr).mono ?_
      rintro e w2 ⟨rfl, hc⟩
      have HC2 := Lib.hid (HC.out.no.then_ hc)
      clear hc
      go_wp2_with (fail)
      go_ret
      exact ⟨rfl, HC2.out⟩
end Go.Proofs.Ytbcnkggecgblbaa
