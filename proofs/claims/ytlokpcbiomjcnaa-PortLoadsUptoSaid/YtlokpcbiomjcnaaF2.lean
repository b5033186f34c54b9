/- How ports stand, as lists: what lies where; sameState, of two that stand the same. -/
import Derived.Test.YtlokpcbiomjcnaaF1
import Derived.BigQuiet
set_option linter.unusedVariables false
set_option linter.unusedSimpArgs false
namespace Go.Proofs.Ytlokpcbiomjcnaa
open Go.RowKit
/-- a port's standing -/
structure Ps where
  q : List (List Int)
  has : Bool
  tick : Int
  data : List Int
  lost : Int
/-- cells that hold a standing, its lists lying somewhere -/
def Ste (w : World) (cs : List Value) (s : Ps) : Prop := ∃ Aq ms cq Ad cd, cs = [.slice Aq s.q.length cq, .bool s.has, .int .i64 s.tick, .slice Ad s.data.length cd, .int .i64 s.lost] ∧ ms.length = s.q.length ∧ Cl w Aq ms ∧ (∀ (i : Nat) m xs, ms[i]? = some m → s.q[i]? = some xs → Sl w m xs) ∧ Cl w Ad (ints s.data) ∧ s.q.length ≤ 9223372036854775807 ∧ s.data.length ≤ 9223372036854775807
theorem Ste.keepNo {w w' : World} {cs : List Value} {s : Ps} (h : Ste w cs s) (hc : Ch No w w') : Ste w' cs s := by
  obtain ⟨Aq, ms, cq, Ad, cd, e, h1, h2, h3, h4, h5⟩ := h
  exact ⟨Aq, ms, cq, Ad, cd, e, h1, h2.keepNo hc, fun i m xs hm hx => (h3 i m xs hm hx).keepNo hc, h4.keepNo hc, h5⟩
/-- a list of standings, lying somewhere -/
def Stl (w : World) (v : Value) (ss : List Ps) : Prop := ∃ A cap, v = .slice A ss.length cap ∧ ss.length ≤ 9223372036854775807 ∧ ∀ (i : Nat) s, ss[i]? = some s → ∃ ad cs, A = some ad ∧ Cl w (some (ad.add (i * 5))) cs ∧ Ste w cs s
theorem Stl.keepNo {w w' : World} {v : Value} {ss : List Ps} (h : Stl w v ss) (hc : Ch No w w') : Stl w' v ss := by
  obtain ⟨A, cap, e, h1, h2⟩ := h
  refine ⟨A, cap, e, h1, fun i s hs => ?_⟩
  obtain ⟨ad, cs, a1, a2, a3⟩ := h2 i s hs
  exact ⟨ad, cs, a1, a2.keepNo hc, a3.keepNo hc⟩
/-- one element's cells, for the walk -/
theorem Stl.at_ {w : World} {A : Option Addr} {n cap : Nat} {ss : List Ps} (h : Stl w (.slice A n cap) ss) {i : Nat} {s : Ps} (hs : ss[i]? = some s) : ∃ ad Aq ms cq Ad cd, A = some ad ∧ Cl w (some (ad.add (i * 5))) [.slice Aq s.q.length cq, .bool s.has, .int .i64 s.tick, .slice Ad s.data.length cd, .int .i64 s.lost] ∧ ms.length = s.q.length ∧ Cl w Aq ms ∧ (∀ (i : Nat) m xs, ms[i]? = some m → s.q[i]? = some xs → Sl w m xs) ∧ Cl w Ad (ints s.data) ∧ s.q.length ≤ 9223372036854775807 ∧ s.data.length ≤ 9223372036854775807 := by
  obtain ⟨A', cap', e, h1, h2⟩ := h
  simp at e
  obtain ⟨rfl, _, _⟩ := e
  obtain ⟨ad, cs, a1, a2, Aq, ms, cq, Ad, cd, rfl, r⟩ := h2 i s hs
  exact ⟨ad, Aq, ms, cq, Ad, cd, a1, a2, r⟩
theorem exec_at {a : Act} {o : Oper} {w : World} (t e : TypeId) (x y : Operand) (ho : o.op = .indexAddr t x y) (hu : Try.prog.underlying t = some (.slice e)) (hs : (Try.prog.info? e).map (·.size) = some 1) (ad : Addr) (n cap i : Nat) (hx : a.eval x = .slice (some ad) n cap) (hy : a.eval y = .int .i64 (i : Int)) (hi : i < n) :
    (execOp a.eval o).run Try.prog w = .ok (.value (.pointer (some (ad.add i)))) w := by
  have h1 : (i : Int) < (n : Int) := by omega
  have h2 : decide ((i : Int) < 0) = false := by simp
  obtain ⟨ti, hti, hts⟩ := Option.map_eq_some_iff.1 hs
  unfold execOp
  simp only [ho]
  generalize a.eval = ρ at *
  simp only [hx, hy]
  go_simp
  simp [sizeOf, typeInfo, hti, hts]
theorem size32 : (Try.prog.info? 32).map (·.size) = some 1 := by kernel_rfl
set_option maxHeartbeats 4000000 in
set_option maxRecDepth 100000 in
theorem samestate_self {w : World} {v u : Value} {ss : List Ps} (hv : Stl w v ss) (hu : Stl w u ss) :
    Calls Try.prog 32 #[v, u] w fun e w' => e = .returned (.bool true) ∧ Ch No w w' := by
  obtain ⟨A, ca, rfl, hl, -⟩ := id hv
  obtain ⟨B, cb, rfl, -, -⟩ := id hu
  have HV := Lib.hid hv
  have HU := Lib.hid hu
  obtain ⟨n, hn⟩ : ∃ n, ss.length = n := ⟨_, rfl⟩
  have HN := Lib.hid hn
  rw [hn] at hl ⊢
  rw [hn] at HV HU
  clear hv hu hn
  go_enter Try.func32, Try.ntmps32
  go_wp2_with (fail)
  go_loopw [5] (fun i wr => ∃ k : Nat, k ≤ n ∧ i = .int .i64 k ∧ Hid (Ch No w wr)) (fun i _ => n - (intOf i).toNat)
  case atStart => exact ⟨0, Nat.zero_le _, rfl, Ch.refl _ _⟩
  case round =>
    obtain ⟨k, hk, rfl, HC⟩ := hrel
    by_cases hlt : k < n
    · have e1 : decide ((k : Int) < (n : Int)) = true := by simp; omega
      obtain ⟨s, hs⟩ : ∃ s, ss[k]? = some s := ⟨_, List.getElem?_eq_getElem (by have := HN.out; omega)⟩
      obtain ⟨ad, Aq, ms, cq, Ad, cd, rfl, hx, hml, hq, hqs, hd, hl1, hl2⟩ := (HV.out.keepNo HC.out).at_ hs
      obtain ⟨bd, Bq, ns, dq, Bd, dd, rfl, hy, hnl, hp, hps, he, -, -⟩ := (HU.out.keepNo HC.out).at_ hs
      obtain ⟨q, has, tick, data, lost⟩ := s
      simp only [] at hx hy hml hnl hqs hps hd he hl1 hl2
      have HQ : Hid (Cl wr Aq ms ∧ Cl wr Bq ns ∧ ms.length = q.length ∧ ns.length = q.length) := ⟨hq, hp, hml, hnl⟩
      have HQS := Lib.hid hqs
      have HPS := Lib.hid hps
      obtain ⟨ql, hql⟩ : ∃ l, q.length = l := ⟨_, rfl⟩
      have HQL := Lib.hid hql
      have HSD := Lib.hid (fun (w' : World) (hc : Ch No wr w') => same_calls (w := w') (v := .slice Ad data.length cd) (u := .slice Bd data.length dd) (xs := data) (ys := data) ⟨Ad, cd, rfl, hd.keepNo hc, hl2⟩ ⟨Bd, dd, rfl, he.keepNo hc, hl2⟩)
      simp only [decide_true] at HSD
      obtain ⟨dl, hdl⟩ : ∃ l, data.length = l := ⟨_, rfl⟩
      rw [hdl] at hx hy HSD hl2
      rw [hql] at hx hy hl1
      have a0 := hx.first rfl
      have a1 := hx.next 0 rfl
      have a2 := hx.next 1 rfl
      have a3 := hx.next 2 rfl
      have a4 := hx.next 3 rfl
      have HY := Lib.hid hy
      simp only [Nat.reduceAdd] at a1 a2 a3 a4
      clear hs hx hy hml hnl hq hp hqs hps hd he hql hdl
      go_upto_region 7 with (fail)
      have HA : Hid (Row (wr.alloc (.cells #[.slice Aq ql cq, .bool has, .int .i64 tick, .slice Ad dl cd, .int .i64 lost] 36)) wr.heap.size 36 [.slice Aq ql cq, .bool has, .int .i64 tick, .slice Ad dl cd, .int .i64 lost]) := Row.new wr 36 _
      have HC4 : Hid (Ch No wr (wr.alloc (.cells #[.slice Aq ql cq, .bool has, .int .i64 tick, .slice Ad dl cd, .int .i64 lost] 36))) := (Ch.refl _ _).alloc _
      generalize wr.alloc (.cells #[.slice Aq ql cq, .bool has, .int .i64 tick, .slice Ad dl cd, .int .i64 lost] 36) = w4 at *
      generalize wr.heap.size = P at *
      have hy4 := HY.out.keepNo HC4.out
      have b0 := hy4.first rfl
      have b1 := hy4.next 0 rfl
      have b2 := hy4.next 1 rfl
      have b3 := hy4.next 2 rfl
      have b4 := hy4.next 3 rfl
      simp only [Nat.reduceAdd] at b1 b2 b3 b4
      clear hy4 a0 a1 a2 a3 a4
      go_upto_region 8 with (fail)
      have HA5 := Lib.hid (HA.out.alloc (.cells #[.slice Bq ql dq, .bool has, .int .i64 tick, .slice Bd dl dd, .int .i64 lost] 36))
      have HB5 : Hid (Row (w4.alloc (.cells #[.slice Bq ql dq, .bool has, .int .i64 tick, .slice Bd dl dd, .int .i64 lost] 36)) w4.heap.size 36 [.slice Bq ql dq, .bool has, .int .i64 tick, .slice Bd dl dd, .int .i64 lost]) := Row.new w4 36 _
      have HC5 : Hid (Ch No wr (w4.alloc (.cells #[.slice Bq ql dq, .bool has, .int .i64 tick, .slice Bd dl dd, .int .i64 lost] 36))) := HC4.out.alloc _
      generalize w4.alloc (.cells #[.slice Bq ql dq, .bool has, .int .i64 tick, .slice Bd dl dd, .int .i64 lost] 36) = w5 at *
      generalize w4.heap.size = Q at *
      clear b0 b1 b2 b3 b4 HY HA HC4
      have a0 : w5.cell? ⟨P, 0, none⟩ = some (.slice Aq ql cq) := by rw [HA5.out.cell]; rfl
      have a1 : w5.cell? ⟨P, 1, none⟩ = some (.bool has) := by rw [HA5.out.cell]; rfl
      have a2 : w5.cell? ⟨P, 2, none⟩ = some (.int .i64 tick) := by rw [HA5.out.cell]; rfl
      have a3 : w5.cell? ⟨P, 3, none⟩ = some (.slice Ad dl cd) := by rw [HA5.out.cell]; rfl
      have a4 : w5.cell? ⟨P, 4, none⟩ = some (.int .i64 lost) := by rw [HA5.out.cell]; rfl
      have b0 : w5.cell? ⟨Q, 0, none⟩ = some (.slice Bq ql dq) := by rw [HB5.out.cell]; rfl
      have b1 : w5.cell? ⟨Q, 1, none⟩ = some (.bool has) := by rw [HB5.out.cell]; rfl
      have b2 : w5.cell? ⟨Q, 2, none⟩ = some (.int .i64 tick) := by rw [HB5.out.cell]; rfl
      have b3 : w5.cell? ⟨Q, 3, none⟩ = some (.slice Bd dl dd) := by rw [HB5.out.cell]; rfl
      have b4 : w5.cell? ⟨Q, 4, none⟩ = some (.int .i64 lost) := by rw [HB5.out.cell]; rfl
      have n1 : (lost != lost) = false := by simp
      have n2 : (has != has) = false := by simp
      have n3 : (tick != tick) = false := by simp
      have n4 : ((ql : Int) != (ql : Int)) = false := by simp
      go_wp2_with (fail)
      refine (HSD.out _ HC5.out).mono ?_
      rintro e w6 ⟨rfl, hc6⟩
      have HA6 := Lib.hid (HA5.out.keepNo hc6)
      have HB6 := Lib.hid (HB5.out.keepNo hc6)
      have HC6 := Lib.hid (HC5.out.then_ hc6)
      clear hc6 a0 a1 a2 a3 a4 b0 b1 b2 b3 b4 n1 n2 n3 n4 HA5 HB5 HC5
      have HCW : Hid (Ch No w w6) := HC.out.then_ HC6.out
      have HEL : Hid (∀ j, j < ql → ∃ ga gb A1 c1 A2 c2 l, Aq = some ga ∧ Bq = some gb ∧ ∀ w', Ch No w6 w' → w'.cell? (ga.add j) = some (.slice A1 l c1) ∧ w'.cell? (gb.add j) = some (.slice A2 l c2) ∧ Calls Try.prog 17 #[.slice A1 l c1, .slice A2 l c2] w' fun e w'' => e = .returned (.bool true) ∧ Ch No w' w'') := by
        intro j hj
        obtain ⟨h1, h2, h3, h4⟩ := HQ.out
        obtain ⟨xs, hxs⟩ : ∃ xs, q[j]? = some xs := ⟨_, List.getElem?_eq_getElem (by have := HQL.out; omega)⟩
        obtain ⟨m1, hm1⟩ : ∃ m, ms[j]? = some m := ⟨_, List.getElem?_eq_getElem (by have := HQL.out; omega)⟩
        obtain ⟨m2, hm2⟩ : ∃ m, ns[j]? = some m := ⟨_, List.getElem?_eq_getElem (by have := HQL.out; omega)⟩
        obtain ⟨ga, ea, hca⟩ := h1 j m1 hm1
        obtain ⟨gb, eb, hcb⟩ := h2 j m2 hm2
        have s1 := HQS.out j m1 xs hm1 hxs
        have s2 := HPS.out j m2 xs hm2 hxs
        obtain ⟨A1, c1, e1, hA1, hl1⟩ := id s1
        obtain ⟨A2, c2, e2, hA2, hl2⟩ := id s2
        subst e1 e2
        refine ⟨ga, gb, A1, c1, A2, c2, xs.length, ea, eb, fun w' hc => ⟨(HC6.out.then_ hc).cell (not_no _) hca, (HC6.out.then_ hc).cell (not_no _) hcb, ?_⟩⟩
        have h := same_calls (s1.keepNo (HC6.out.then_ hc)) (s2.keepNo (HC6.out.then_ hc))
        simpa using h
      clear HQ HQS HPS HQL HSD HC HC6
      go_wp2_with (fail)
      go_loopw [8] (fun i wx => ∃ j : Nat, j ≤ ql ∧ i = .int .i64 j ∧ Hid (Ch No w6 wx)) (fun i _ => ql - (intOf i).toNat)
      case atStart => exact ⟨0, Nat.zero_le _, rfl, Ch.refl _ _⟩
      case round =>
        obtain ⟨j, hj, rfl, HI⟩ := hrel
        by_cases hjl : j < ql
        · have e2 : decide ((j : Int) < (ql : Int)) = true := by simp; omega
          obtain ⟨ga, gb, A1, c1, A2, c2, l, rfl, rfl, hall⟩ := HEL.out j hjl
          have HALL := Lib.hid hall
          have a0 : wr.cell? ⟨P, 0, none⟩ = some (.slice (some ga) ql cq) := (HA6.out.keepNo HI.out).cell 0
          clear hall
          go_upto_region 13 with (fail)
          clear a0
          refine wp_region_quiet_tail 11 (by kernel_rfl) (by kernel_rfl) (fun w' => Ch No wr w') ((Ch.refl _ _).drew) ?_
          simp only [List.take_succ_cons, List.take_zero, List.drop_succ_cons, List.drop_zero]
          refine wpQuiet_value (by rfl) (.pointer (some ⟨P, 0, none⟩)) (fun _ => by kernel_rfl) ?_
          simp only [Act.put, List.setIfInBounds_toArray, List.set_cons_zero, List.set_cons_succ]
          refine wpQuiet_read (by rfl) (.slice (some ga) ql cq) (fun w' hw' => exec_load_cell 31 (.tmp 77) rfl ⟨P, 0, none⟩ rfl _ Try.underlying31 rfl _ ((HA6.out.keepNo (HI.out.then_ hw')).cell 0)) ?_
          simp only [Act.put, List.setIfInBounds_toArray, List.set_cons_zero, List.set_cons_succ]
          refine wpQuiet_value (by rfl) (.int .i64 (j : Int)) (fun _ => by kernel_rfl) ?_
          simp only [Act.put, List.setIfInBounds_toArray, List.set_cons_zero, List.set_cons_succ]
          refine wpQuiet_value (by rfl) (.pointer (some (ga.add j))) (fun _ => exec_at 31 32 (.tmp 78) (.tmp 79) rfl Try.underlying31 size32 ga ql cq j rfl rfl hjl) ?_
          simp only [Act.put, List.setIfInBounds_toArray, List.set_cons_zero, List.set_cons_succ]
          refine wpQuiet_read (by rfl) (.slice A1 l c1) (fun w' hw' => exec_load_cell 32 (.tmp 80) rfl (ga.add j) rfl _ Try.underlying32 rfl _ (HALL.out w' (HI.out.then_ hw')).1) ?_
          simp only [Act.put, List.setIfInBounds_toArray, List.set_cons_zero, List.set_cons_succ]
          refine wpQuiet_value (by rfl) (.pointer (some ⟨Q, 0, none⟩)) (fun _ => by kernel_rfl) ?_
          simp only [Act.put, List.setIfInBounds_toArray, List.set_cons_zero, List.set_cons_succ]
          refine wpQuiet_read (by rfl) (.slice (some gb) ql dq) (fun w' hw' => exec_load_cell 31 (.tmp 82) rfl ⟨Q, 0, none⟩ rfl _ Try.underlying31 rfl _ ((HB6.out.keepNo (HI.out.then_ hw')).cell 0)) ?_
          simp only [Act.put, List.setIfInBounds_toArray, List.set_cons_zero, List.set_cons_succ]
          refine wpQuiet_value (by rfl) (.int .i64 (j : Int)) (fun _ => by kernel_rfl) ?_
          simp only [Act.put, List.setIfInBounds_toArray, List.set_cons_zero, List.set_cons_succ]
          refine wpQuiet_value (by rfl) (.pointer (some (gb.add j))) (fun _ => exec_at 31 32 (.tmp 83) (.tmp 84) rfl Try.underlying31 size32 gb ql dq j rfl rfl hjl) ?_
          simp only [Act.put, List.setIfInBounds_toArray, List.set_cons_zero, List.set_cons_succ]
          refine wpQuiet_read (by rfl) (.slice A2 l c2) (fun w' hw' => exec_load_cell 32 (.tmp 85) rfl (gb.add j) rfl _ Try.underlying32 rfl _ (HALL.out w' (HI.out.then_ hw')).2.1) ?_
          simp only [Act.put, List.setIfInBounds_toArray, List.set_cons_zero, List.set_cons_succ]
          refine wpQuiet_call (by rfl) (.bool true) 17 #[.slice A1 l c1, .slice A2 l c2] (fun _ => by kernel_rfl) (fun w' hw' => (HALL.out w' (HI.out.then_ hw')).2.2.mono fun e w'' h => ⟨h.1, hw'.then_ h.2⟩) ?_
          simp only [Act.put, List.setIfInBounds_toArray, List.set_cons_zero, List.set_cons_succ]
          refine wpQuiet_nil ?_
          intro w9 hw9
          have HI9 := Lib.hid (HI.out.then_ hw9)
          clear hw9
          go_wp2_with (fail)
          exact ⟨⟨j + 1, by omega, by go_num, HI9⟩, by simp [intOf]; omega⟩
        · have e2 : decide ((j : Int) < (ql : Int)) = false := by simp; omega
          have a0 : wr.cell? ⟨P, 0, none⟩ = some (.slice Aq ql cq) := (HA6.out.keepNo HI.out).cell 0
          go_wp2_with (fail)
          exact ⟨⟨k + 1, by omega, by go_num, HCW.out.then_ HI.out⟩, by simp [intOf]; omega⟩
    · have e1 : decide ((k : Int) < (n : Int)) = false := by simp; omega
      go_wp2_with (fail)
      exact bodyPost_ret (v := .bool true) (by kernel_rfl) rfl ⟨rfl, HC.out⟩
end Go.Proofs.Ytlokpcbiomjcnaa
