/- MemExact: Shelf.stands, the walk. -/
import Derived.Test.YtbllpojljdhnoaaD11
set_option linter.unusedVariables false
set_option linter.unusedSimpArgs false
namespace Go.Proofs.Ytbllpojljdhnoaa
open Go.RowKit
theorem wpList_append_full {P : Program} {w : World} {ops : Array Oper} {rest : List Oper} {o : Oper} {a : Act} {Q : Exit → Act → World → Prop} (hgd : o.guard = none) (s x : Operand) (t : TypeId)
    (ho : o.op = .call { callee := .builtin .append, args := #[s, x], argTypes := #[t, t] })
    (e : TypeId) (z : Value) (bytes : Nat) (ht : P.underlying t = some (.slice e)) (hinfo : (P.info? e).map (fun i => (i.zero, i.size, i.bytes)) = some (some z, 1, bytes)) (hz : z.cells = #[z])
    (A : Option Addr) (n : Nat) (olds : List Value) (hs : a.eval s = .slice A n n) (hnone : A = none → n = 0) (hlo : olds.length = n) (holds : Cl w A olds) (ad : Addr) (news : List Value) (c : Nat) (hx : a.eval x = .slice (some ad) news.length c) (hp : 0 < news.length)
    (hc : Cl w (some ad) news) (h1 : ∀ u ∈ news, u.oneCell' = true) (hm : n + news.length ≤ maxLen) (hbytes : (n + news.length) * bytes ≤ 140737488355328)
    (h : ∀ v' w', w'.ownsRow w.heap.size e 1 v' (olds ++ news).length (olds ++ news) → w.grownBy w' none → wpList P ops Q rest (a.put o.dst v') w') : wpList P ops Q (o :: rest) a w := by
  obtain ⟨i0, hi, hzz⟩ := Option.map_eq_some_iff.1 hinfo
  simp only [Prod.mk.injEq] at hzz
  obtain ⟨hz0, hz1, hz2⟩ := hzz
  refine wpList_append_grows w hgd s x t ho e i0 z 1 bytes ht hi hz0 hz1 hz2 (by rw [hz]; rfl) (by omega) A n n olds hs (fun e => ⟨hnone e, hnone e⟩) (by omega) (fun b e j u hj => ?_) ad news.length c news hx (by omega) (fun j u hj => ?_) h1 (by omega) hm hbytes (fun v' w' ho hg => ?_)
  · obtain ⟨ad', e', hcell⟩ := holds j u hj
    rw [e] at e'
    cases e'
    exact hcell
  · obtain ⟨ad', e', hcell⟩ := hc j u hj
    cases e'
    exact hcell
  · refine h v' w' ?_ hg
    rw [List.length_append, hlo]
    exact ho
theorem Ch.ge {b : Nat} {w w' : World} (h : Ch No w w') : Ch (Ge b) w w' := h.mono (fun _ _ h => (not_no _ h).elim)
theorem Ch.geT {b : Nat} {w w1 w2 : World} (h : Ch (Ge b) w w1) (k : Ch (Ge b) w1 w2) : Ch (Ge b) w w2 := h.trans k (fun _ _ h => h)
theorem len_set2 (its : List It) (i : Nat) (a : It) : (its.set i a).length = its.length := List.length_set
/-- where the walk stands in the list -/
structure SI (b : Nat) (w wr : World) (p g n : Nat) (its : List It) (vL vW : Value) : Prop where
  sh : Sh b wr p g its vL vW
  len : its.length = n
  ch : Ch (Ge b) w wr
set_option maxHeartbeats 8000000 in
set_option maxRecDepth 100000 in
theorem stands_calls {b : Nat} {w : World} {p g : Nat} {its : List It} {vL vW : Value} (h : Sh b w p g its vL vW) (hs : its.length ≤ 400) :
    Calls Try.prog 28 #[.pointer (some ⟨p, 0, none⟩)] w fun e w' => e = .returned (.bool true) ∧ Ch (Ge b) w w' := by
  obtain ⟨AL, cL, hvL⟩ := own_form h.rl
  obtain ⟨AW, cW, hvW⟩ := own_form h.rw_
  rw [List.length_map] at hvL hvW
  subst hvL hvW
  have HH := Lib.hid (holds_calls h hs)
  have HS := Lib.hid h
  obtain ⟨n, hn⟩ : ∃ n, n = its.length := ⟨_, rfl⟩
  rw [← hn] at HS hs
  have HN := Lib.hid hn
  clear h hn
  go_enter Try.func28, Try.ntmps28
  go_wp2_with (fail)
  refine HH.out.mono ?_
  rintro e w1 ⟨rfl, hc1⟩
  have HI : Hid (SI b w w1 p g n its (.slice AL n cL) (.slice AW n cW)) := ⟨HS.out.keepNo hc1, HN.out.symm, hc1.ge⟩
  clear hc1 HH HS HN
  go_wp2_with (fail)
  go_loopw [3, 4] (fun i k wr => ∃ (j : Nat) (its' : List It), j ≤ n ∧ i = .int .i64 j ∧ Hid (SI b w wr p g n its' (.slice AL n cL) (.slice AW n cW))) (fun i _ _ => n - (intOf i).toNat)
  case atStart => exact ⟨0, its, Nat.zero_le _, rfl, HI⟩
  case round =>
    clear HI
    obtain ⟨j, its', hj, rfl, HI⟩ := hrel
    have q0 : wr.cell? ⟨p, 0, none⟩ = some (.slice AL n cL) := HI.out.sh.row.cell 0
    by_cases hlt : j < n
    · have d0 := decide_lt_t (show (j : Int) < (n : Int) by omega)
      obtain ⟨a, ha⟩ : ∃ a, its'[j]? = some a := ⟨its'[j]'(by have := HI.out.len; omega), List.getElem?_eq_getElem _⟩
      obtain ⟨Al, Au, cu, e1, e2, _⟩ := HI.out.sh.item j a ha
      obtain ⟨m, hm⟩ : ∃ m, m = a.xs.length := ⟨_, rfl⟩
      have hm4 : m ≤ 4096 := by rw [hm]; exact (HI.out.sh.it j a ha).2.2
      obtain ⟨gL, gW, rfl, rfl, hqa, hqb, _, _⟩ := HI.out.sh.at_ j a ha
      have HIJ : Hid (∃ (its2 : List It) (ys : List Int), SI b w wr p g n its2 (.slice (some ⟨gL, 0, none⟩) n cL) (.slice (some ⟨gW, 0, none⟩) n cW) ∧ its2[j]? = some ⟨.slice Al m m, .slice Au m cu, ys⟩ ∧ ys.length = m) := ⟨its', a.xs, HI.out, by rw [ha]; cases a; simp_all, hm.symm⟩
      clear HI ha hqa hqb e1 e2 hm
      go_wp2_with (fail)
      clear q0
      go_loopw [4] (fun k wr => ∃ q : Nat, q ≤ m ∧ k = .int .i64 q ∧ Hid (∃ (its2 : List It) (ys : List Int), SI b w wr p g n its2 (.slice (some ⟨gL, 0, none⟩) n cL) (.slice (some ⟨gW, 0, none⟩) n cW) ∧ its2[j]? = some ⟨.slice Al m m, .slice Au m cu, ys⟩ ∧ ys.length = m)) (fun k _ => m - (intOf k).toNat)
      case atStart => exact ⟨0, Nat.zero_le _, rfl, HIJ⟩
      case round =>
        clear HIJ
        obtain ⟨q, hq, rfl, HIJ⟩ := hrel
        obtain ⟨its2, ys, hi2, hg2, hy2⟩ := HIJ.out
        have HI2 := Lib.hid hi2
        have HG2 := Lib.hid hg2
        have HY2 := Lib.hid hy2
        clear HIJ hi2 hg2 hy2
        have q0 := HI2.out.sh.row.cell 0
        have q1 := HI2.out.sh.row.cell 1
        simp only [List.getElem?_cons_zero, List.getElem?_cons_succ] at q0 q1
        obtain ⟨gL', gW', eL, eW, q2, q3, ⟨LL, hLL⟩, LW, hLW⟩ := HI2.out.sh.at_ j _ HG2.out
        simp only [Option.some.injEq, Addr.mk.injEq, and_true] at eL eW
        subst eL eW
        by_cases hlq : q < m
        · have d1 := decide_lt_t (show (q : Int) < (m : Int) by omega)
          obtain ⟨Al', Au', cu', e1, e2, f⟩ := HI2.out.sh.item j _ HG2.out
          obtain ⟨gl, gu, rfl, rfl, hne, hbl, hbu, hrl, rest, hru⟩ := f (by simp [HY2.out]; omega)
          simp only [Value.slice.injEq] at e1 e2
          obtain ⟨rfl, _, _⟩ := e1
          obtain ⟨rfl, _, _⟩ := e2
          have hqy : q < (ints ys).length := by rw [ints_length, HY2.out]; exact hlq
          have r2 : wr.cell? ⟨gL, j, none⟩ = some (.slice (some ⟨gl, 0, none⟩) m m) := q2
          have r3 : wr.cell? ⟨gl, q, none⟩ = some (ints ys)[q] := by rw [hrl.cell]; exact List.getElem?_eq_getElem hqy
          have r4 : wr.frozen? ⟨gl, q, none⟩ = false := hrl.frozen q
          have HW : Hid ((wr.setCell ⟨gl, q, none⟩ (.int .i64 (-1 - (j : Int)))).cell? ⟨p, 1, none⟩ = some (.slice (some ⟨gW, 0, none⟩) n cW) ∧ (wr.setCell ⟨gl, q, none⟩ (.int .i64 (-1 - (j : Int)))).cell? ⟨gW, j, none⟩ = some (.slice (some ⟨gu, 0, none⟩) m cu) ∧ (wr.setCell ⟨gl, q, none⟩ (.int .i64 (-1 - (j : Int)))).cell? ⟨gu, q, none⟩ = some (ints ys)[q] ∧ (wr.setCell ⟨gl, q, none⟩ (.int .i64 (-1 - (j : Int)))).frozen? ⟨gu, q, none⟩ = false) := by
            have c1 : Ch (Is gl) wr (wr.setCell ⟨gl, q, none⟩ (.int .i64 (-1 - (j : Int)))) := Ch.setCell (D := Is gl) (p := ⟨gl, q, none⟩) (Ch.refl _ wr) (fun _ => rfl) _
            have n1 : ¬ Is gl p := fun e => by
              have e' : p = gl := e
              subst e'
              have := (hrl.eq_ HI2.out.sh.row).1
              cases this
            have n2 : ¬ Is gl gW := fun e => by
              have e' : gW = gl := e
              subst e'
              have := (hrl.eq_ hLW).1
              cases this
            have hru2 := hru.keepIs c1 (Ne.symm hne)
            refine ⟨c1.cell n1 q1, c1.cell n2 q3, ?_, hru2.frozen q⟩
            rw [hru2.cell, List.getElem?_append_left hqy]
            exact List.getElem?_eq_getElem hqy
          have HSET : Hid (Sh b ((wr.setCell ⟨gl, q, none⟩ (.int .i64 (-1 - (j : Int)))).setCell ⟨gu, q, none⟩ (.int .i64 (-1 - (j : Int)))) p g (its2.set j ⟨.slice (some ⟨gl, 0, none⟩) m m, .slice (some ⟨gu, 0, none⟩) m cu, ys.set q (-1 - (j : Int))⟩) (.slice (some ⟨gL, 0, none⟩) n cL) (.slice (some ⟨gW, 0, none⟩) n cW) ∧ Ch (Ge b) wr ((wr.setCell ⟨gl, q, none⟩ (.int .i64 (-1 - (j : Int)))).setCell ⟨gu, q, none⟩ (.int .i64 (-1 - (j : Int))))) :=
            HI2.out.sh.set2 j q _ HG2.out (by show _ = Value.slice _ ys.length _; rw [HY2.out]) (by show _ = Value.slice _ ys.length _; rw [HY2.out]) (by show q < ys.length; rw [HY2.out]; exact hlq) (-1 - (j : Int))
          have hjn : (j : Int) ≤ 400 := by omega
          clear q1 q2 q3 f hrl hru hLL hLW
          go_upto_region 10 with (fail)
          obtain ⟨s1, s2, s3, s4⟩ := HW.out
          generalize wr.setCell ⟨gl, q, none⟩ (.int .i64 (-1 - (j : Int))) = w2 at *
          clear q0 r2 r3 r4 HW
          go_wp2_with (fail)
          refine ⟨⟨q + 1, by omega, by go_num, ⟨_, ys.set q (-1 - (j : Int)), ⟨HSET.out.1, by rw [len_set2]; exact HI2.out.len, HI2.out.ch.geT HSET.out.2⟩, ?_, by rw [List.length_set]; exact HY2.out⟩⟩, by simp [intOf]; omega⟩
          rw [List.getElem?_set_self (by have := HI2.out.len; omega)]
        · obtain rfl : q = m := by omega
          have d1 : decide ((q : Int) < (q : Int)) = false := by simp
          have r2 : wr.cell? ⟨gL, j, none⟩ = some (.slice Al q q) := q2
          clear q1 q2 q3 hLL hLW
          go_wp2_with (fail)
          exact ⟨⟨j + 1, its2, by omega, by go_num, HI2.out⟩, by simp [intOf]; omega⟩
    · obtain rfl : j = n := by omega
      have d0 : decide ((j : Int) < (j : Int)) = false := by simp
      go_wp2_with (fail)
      obtain ⟨its3, hits⟩ : ∃ its3, its3 = its' := ⟨_, rfl⟩
      rw [← hits] at HI
      have HI3 := HI
      clear hits q0 HI
      go_loopw [5, 6, 7, 8] (fun tot i _ _ wx => ∃ (q : Nat) (t : Nat), q ≤ j ∧ i = .int .i64 q ∧ tot = .int .i64 t ∧ 64 * q ≤ t ∧ t ≤ 5000 * q ∧ Hid (Ch No wr wx)) (fun _ i _ _ _ => j - (intOf i).toNat)
      case atStart => exact ⟨0, 0, Nat.zero_le _, rfl, rfl, by omega, by omega, Ch.refl _ _⟩
      case round =>
        revert wr
        intro wo hrel
        obtain ⟨q, t, hq, rfl, rfl, ht1, ht2, HC⟩ := hrel
        have q0 : wo.cell? ⟨p, 0, none⟩ = some (.slice AL j cL) := (HI3.out.sh.keepNo HC.out).row.cell 0
        by_cases hlq : q < j
        · have d1 := decide_lt_t (show (q : Int) < (j : Int) by omega)
          obtain ⟨a, ha⟩ : ∃ a, its3[q]? = some a := ⟨its3[q]'(by have := HI3.out.len; omega), List.getElem?_eq_getElem _⟩
          obtain ⟨Al, Au, cu, e1, e2, _⟩ := (HI3.out.sh.keepNo HC.out).item q a ha
          obtain ⟨ys, hys⟩ : ∃ ys, ys = a.xs := ⟨_, rfl⟩
          obtain ⟨m, hm⟩ : ∃ m, m = ys.length := ⟨_, rfl⟩
          have hm4 : m ≤ 4096 := by rw [hm, hys]; exact (HI3.out.sh.it q a ha).2.2
          rw [← hys, ← hm] at e1
          obtain ⟨gL, gW, rfl, rfl, hqa, _, _, _⟩ := (HI3.out.sh.keepNo HC.out).at_ q a ha
          rw [e1] at hqa
          have HF : Hid (Fl b wo (.slice Al m m) ys) := by show Fl _ _ _ _; rw [← e1, hys]; exact ((HI3.out.sh.keepNo HC.out).it q a ha).1
          have HYL : Hid ((ints ys).length = m) := by show _ = _; rw [ints_length, hm]
          have HNO : Hid (Al = none → m = 0) := fun e => by
            obtain ⟨A', e', f⟩ := HF.out.form
            simp only [Value.slice.injEq] at e'
            rcases Nat.eq_zero_or_pos ys.length with h0 | h0
            · omega
            · obtain ⟨g', e2, _⟩ := f h0
              rw [← e'.1, e] at e2
              cases e2
          have hqn : (q : Int) ≤ 400 := by omega
          clear e1 e2 ha hys hm
          go_wp2_with (fail)
          clear q0 hqa
          go_loopw [7, 8] (fun o k wx => ∃ c : Nat, c ≤ 64 ∧ k = .int .i64 c ∧ Hid (Ch No wo wx) ∧ ((c = 0 ∧ o = .slice Al m m) ∨ (0 < c ∧ ∃ zs, Hid (zs.length = m + c) ∧ Hid (Ol wo.heap.size wx o zs)))) (fun _ k _ => 64 - (intOf k).toNat)
          case atStart => exact ⟨0, by omega, rfl, Ch.refl _ _, .inl ⟨rfl, rfl⟩⟩
          case round =>
            obtain ⟨c, hc, rfl, HCX, hcase⟩ := hrel
            by_cases hlc : c < 64
            · have d2 := decide_lt_t (show (c : Int) < 64 by omega)
              have hc6 : (c : Int) ≤ 64 := by omega
              rcases hcase with ⟨rfl, rfl⟩ | ⟨hpos, zs, HZL0, HZO⟩
              · have HCL : Hid (Cl (wr.alloc (.cells #[Value.int .i64 (5000 + (q : Int))] 2)) Al (ints ys)) := by
                  obtain ⟨A', c', e, hcl, _⟩ := (HF.out.ol.sl.keepNo HCX.out)
                  simp only [Value.slice.injEq] at e
                  rw [e.1]
                  exact hcl.keepNo ((Ch.refl No wr).alloc _)
                have HCN : Hid (Cl (wr.alloc (.cells #[Value.int .i64 (5000 + (q : Int))] 2)) (some ⟨wr.heap.size, 0, none⟩) [Value.int .i64 (5000 + (q : Int))]) := (Row.new wr 2 [Value.int .i64 (5000 + (q : Int))]).cl0
                have HOC : Hid (∀ u ∈ [Value.int .i64 (5000 + (q : Int))], u.oneCell' = true) := by show ∀ u ∈ _, _; simp [Value.oneCell']
                have HMX : Hid (m + [Value.int .i64 (5000 + (q : Int))].length ≤ maxLen) := by show _ ≤ _; unfold maxLen; simp; omega
                have HBY : Hid ((m + [Value.int .i64 (5000 + (q : Int))].length) * 8 ≤ 140737488355328) := by show _ ≤ _; simp; omega
                have HOL : Hid (∀ v1 w2, World.ownsRow w2 (wr.alloc (.cells #[Value.int .i64 (5000 + (q : Int))] 2)).heap.size 2 1 v1 (ints ys ++ [Value.int .i64 (5000 + (q : Int))]).length (ints ys ++ [Value.int .i64 (5000 + (q : Int))]) → Ol wo.heap.size w2 v1 (ys ++ [5000 + (q : Int)]) ∧ (ys ++ [5000 + (q : Int)]).length = m + 1) := fun v1 w2 ho => by
                  have e : ints ys ++ [Value.int .i64 (5000 + (q : Int))] = ints (ys ++ [5000 + (q : Int)]) := by simp [ints]
                  have hl : (ys ++ [5000 + (q : Int)]).length = m + 1 := by have := HYL.out; rw [ints_length] at this; simp [this]
                  rw [e] at ho
                  refine ⟨⟨ownsRow_low ho (by have := HCX.out.size; simp; omega), by omega⟩, hl⟩
                go_wp2_with ((with_reducible refine at_op (o := ⟨some 79, .call { callee := .builtin .append, args := #[.tmp 75, .tmp 78], argTypes := #[22, 22] }, _, _, _, _⟩) ?_); refine wpList_append_full rfl (.tmp 75) (.tmp 78) 22 rfl 2 (.int .i64 0) 8 Try.underlying22 info2 rfl Al m (ints ys) rfl HNO.out HYL.out HCL.out ⟨wr.heap.size, 0, none⟩ [Value.int .i64 (5000 + (q : Int))] 1 rfl (by simp) HCN.out HOC.out HMX.out HBY.out ?_; intro v1 w2 ho2 hg2; have HO2 := Lib.hid (HOL.out v1 w2 ho2); have HC2 : Hid (Ch No wo w2) := (HCX.out.alloc _).then_ ((Ch.of_grownBy hg2).no (fun _ _ h => by cases h)); clear ho2 hg2)
                refine ⟨⟨1, by omega, by go_num, HC2, .inr ⟨by omega, _, HO2.out.2, HO2.out.1⟩⟩, by simp [intOf]⟩
              · have HBY : Hid (((ints zs).length + 1) * 8 ≤ 140737488355328) := by show _ ≤ _; rw [ints_length, HZL0.out]; omega
                have HBS : Hid (wo.heap.size ≤ (wr.alloc (.cells (ints [5000 + (q : Int)]).toArray 2)).heap.size) := ((HCX.out.alloc _).size)
                have HZL : Hid ((zs ++ [5000 + (q : Int)]).length ≤ 10000000) := by show _ ≤ _; rw [List.length_append, HZL0.out]; simp; omega
                go_wp2_with ((with_reducible refine at_op (o := ⟨some 79, .call { callee := .builtin .append, args := #[.tmp 75, .tmp 78], argTypes := #[22, 22] }, _, _, _, _⟩) ?_); refine wpList_append_to rfl (.tmp 75) (.tmp 78) 22 rfl wo.heap.size 2 (.int .i64 0) 8 Try.underlying22 info2 rfl u7 (ints zs) rfl _ _ _ (ints [5000 + (q : Int)]) rfl (HZO.out.1.alloc _) (ints_length _) ((Row.new wr 2 (ints [5000 + (q : Int)])).cl0) (ints_one _) HBY.out (by omega) HBS.out ?_; intro v1 w2 ho2 hg2 hat2; rw [← ints_append] at ho2; have HO2 : Hid (Ol wo.heap.size w2 v1 (zs ++ [5000 + (q : Int)])) := ⟨ho2, HZL.out⟩; have HC2 : Hid (Ch No wo w2) := (grown_no (Nat.le_refl _) (HZO.out.1.alloc _) hg2 (HCX.out.alloc _)); clear ho2 hg2 hat2)
                refine ⟨⟨c + 1, by omega, by go_num, HC2, .inr ⟨by omega, _, by show _ = _; rw [List.length_append, HZL0.out]; rfl, HO2⟩⟩, by simp [intOf]; omega⟩
            · obtain rfl : c = 64 := by omega
              rcases hcase with ⟨h0, _⟩ | ⟨hpos, zs, HZL0, HZO⟩
              · omega
              · obtain ⟨A9, c9, hv⟩ := own_form HZO.out.1
                rw [ints_length, HZL0.out] at hv
                subst hv
                clear HZO
                go_wp2_with (fail)
                refine ⟨⟨q + 1, t + (m + 64), by omega, by go_num, by go_num, by omega, by omega, HC.out.then_ HCX.out⟩, by simp [intOf]; omega⟩
        · obtain rfl : q = j := by omega
          have d1 : decide ((q : Int) < (q : Int)) = false := by simp
          go_upto_region 21 with (fail)
          have HH := Lib.hid (holds_calls (HI3.out.sh.keepNo HC.out) (by have := HI3.out.len; omega))
          have HRT : Hid (∀ w9, Ch No wo w9 → w9.cell? ⟨p, 0, none⟩ = some (.slice AL q cL) ∧ Ch (Ge b) w w9) := fun w9 h9 => ⟨(HI3.out.sh.keepNo (HC.out.then_ h9)).row.cell 0, HI3.out.ch.geT (HC.out.then_ h9).ge⟩
          clear q0
          go_wp2_with (fail)
          refine HH.out.mono ?_
          rintro e w9 ⟨rfl, hc9⟩
          obtain ⟨q0, hge⟩ := HRT.out w9 hc9
          have HGE := Lib.hid hge
          clear hc9 hge
          have d3 : decide (64 * (q : Int) ≤ (t : Int)) = true := decide_le_t (by omega)
          go_wp2_with (fail)
          go_ret
          exact ⟨rfl, HGE.out⟩
end Go.Proofs.Ytbllpojljdhnoaa
