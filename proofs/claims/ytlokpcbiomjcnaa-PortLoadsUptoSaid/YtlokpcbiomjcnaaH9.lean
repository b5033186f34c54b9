/- PortLoads, walked. -/
import Derived.Test.YtlokpcbiomjcnaaH8b
set_option linter.unusedVariables false
set_option linter.unusedSimpArgs false
namespace Go.Proofs.Ytlokpcbiomjcnaa
open Go.RowKit
theorem RLoadP.tuple {w w' : World} {part : Int} {qs : List Pt} {ls : List Ps} {e : Ending} (h : RLoadP w w' part qs ls e) : ∃ A n c ev, e = .returned (.tuple #[.slice A n c, .int .i64 ev]) := by
  rcases h with ⟨h1, h2, h3⟩ | ⟨h1, v', h2, h3, h4⟩
  · exact ⟨_, _, _, _, h2⟩
  · obtain ⟨A, cap, rfl, _⟩ := h3
    exact ⟨_, _, _, _, h2⟩
theorem RLoadP.ch {w w' : World} {part : Int} {qs : List Pt} {ls : List Ps} {e : Ending} (h : RLoadP w w' part qs ls e) : Ch No w w' := by
  rcases h with ⟨h1, h2, h3⟩ | ⟨h1, v', h2, h3, h4⟩
  · exact h3
  · exact h4
theorem own_some2 {w : World} {base n sz : Nat} {e : TypeId} {v : Value} {xs : List Value} (h : w.ownsRow base e sz v n xs) (hn : 0 < n) : ∃ g c, v = .slice (some ⟨g, 0, none⟩) n c := by
  rcases owns_open_sz h with ⟨_, h0⟩ | ⟨g, cap, rest, rfl, _⟩
  · omega
  · exact ⟨_, _, rfl⟩
theorem max63 : maxLen ≤ 9223372036854775807 := by simp [maxLen]
theorem Gv.keepP {w0 wr w' : World} {ss : Nat → Ps} {k P : Nat} {v : Value} {c : Nat → Rp} {LP : List Value} (h : Gv w0 wr ss k v c) (hP : Row wr P 36 LP) (hb : w0.heap.size ≤ P) (hu : ¬ v.ownBlock = some P) (hc : Ch (Is P) wr w') : Gv w0 w' ss k v c :=
  ⟨owns_keepIs h.own hc hu, fun j hj => owns_keepIs (h.q j hj) hc (fun e => own_ne_row (h.q j hj) hP (by decide) e), h.ml, h.mkd.keep hc (far_row hP (by decide)), ch_newg h.ch hc hb⟩
set_option maxHeartbeats 8000000 in
set_option maxRecDepth 100000 in
theorem loads_walk {w : World} {A : Option Addr} {n0 c0 : Nat} {pl0 : List Pt} (hn : n0 = pl0.length) (hn63 : n0 ≤ 9223372036854775807) (hA : Pts w A pl0) (pt : Int) (hp0 : 0 ≤ pt) (hp1 : pt ≤ 255) {v : Value} {ls : List Ps} (hv : Stl w v ls) (hm : Sm ls) (hml : ls.length ≤ 10000000) :
    Calls Try.prog 3 #[.slice A n0 c0, .int .u8 pt, v] w fun e w' => e = .returned (.bool true) ∧ Ch No w w' := by
  have HV := Lib.hid hv
  have HSM := Lib.hid hm
  have HIM := Lib.hid (image_calls (c := c0) hn hn63 hA)
  have HF := Lib.hid (imgPts_fine pl0)
  generalize imgPts pl0 = qs at HF HIM
  obtain ⟨B, cap, rfl, -, -⟩ := id hv
  clear hv hm hA hn
  have hw1 : wrap64 (pt.tmod 5) = pt.tmod 5 := by
    have : pt.tmod 5 = pt % 5 := Int.tmod_eq_emod_of_nonneg hp0
    unfold wrap64
    omega
  go_enter Try.func3, Try.ntmps3
  go_wp2_with (fail)
  refine HIM.out.mono ?_
  rintro e w1 ⟨x, rfl, him, hc1⟩
  obtain ⟨A1, k1, c1, A2, c2, rfl⟩ := him.ports
  have HI1 := Lib.hid him
  have HC1 := Lib.hid hc1
  clear him hc1 HIM
  obtain ⟨n, hn⟩ : ∃ n, qs.length = n := ⟨_, rfl⟩
  have HN := Lib.hid hn
  rw [hn] at HI1 ⊢
  have HX2 : Hid (Row (w1.alloc (.cells #[.slice A1 k1 c1, .slice A2 n c2, .slice none 0 0] 27)) w1.heap.size 27 [.slice A1 k1 c1, .slice A2 n c2, .slice none 0 0]) := Row.new w1 27 _
  have HI2 := Lib.hid (HI1.out.keepNo ((Ch.refl No w1).alloc (.cells #[.slice A1 k1 c1, .slice A2 n c2, .slice none 0 0] 27)))
  have HC2 := Lib.hid (HC1.out.alloc (.cells #[.slice A1 k1 c1, .slice A2 n c2, .slice none 0 0] 27))
  go_upto_region 3 with (fail)
  generalize w1.alloc (.cells #[.slice A1 k1 c1, .slice A2 n c2, .slice none 0 0] 27) = w2 at *
  generalize w1.heap.size = X at *
  generalize pt % 5 = part at *
  obtain ⟨m, hmm⟩ : ∃ m, ls.length = m := ⟨_, rfl⟩
  have HM := Lib.hid hmm
  rw [hmm] at hml HV ⊢
  have HML := Lib.hid hml
  have HRL := Lib.hid (rload_calls HI2.out HF.out part (HV.out.keepNo HC2.out))
  clear hw1 hp0 hp1 hn hmm HI1 HC1
  go_wp2_with (first | ((with_reducible refine at_op (o := ⟨some 27, _, _, _, _, _⟩) ?_); refine pl_load (o := ⟨some 27, _, _, _, _, _⟩) rfl 27 _ rfl X rfl 27 [.slice A1 k1 c1, .slice A2 n c2, .slice none 0 0] HX2.out _ Try.underlying27 rfl size27 ?_))
  refine HRL.out.mono ?_
  intro e w3 hrl
  obtain ⟨Aw, nw, cw, ev, rfl⟩ := hrl.tuple
  have HW3 := Lib.hid hrl
  have HC3 : Hid (Ch No w w3) := HC2.out.then_ hrl.ch
  have HX3 := Lib.hid (HX2.out.keepNo hrl.ch)
  have HI3 := Lib.hid (HI2.out.keepNo hrl.ch)
  have HV3 := Lib.hid (HV.out.keepNo HC3.out)
  clear hrl HRL HX2 HI2 HC2 HV
  obtain ⟨ss, hss⟩ : ∃ ss : Nat → Ps, ss = fun j => (ls[j]?).getD ps0 := ⟨_, rfl⟩
  have HSS : Hid (∀ (j : Nat) s, ls[j]? = some s → ss j = s) := fun j s hj => by rw [hss]; simp only [hj, Option.getD_some]
  clear hss
  go_upto_region 6 with (fail)
  go_loopw [11, 12] (fun v i wr => ∃ (k : Nat) (c : Nat → Rp), k ≤ m ∧ i = .int .i64 k ∧ Hid (Gv w3 wr ss k v c)) (fun _ i _ => m - (intOf i).toNat)
  case atStart => exact ⟨0, _, Nat.zero_le _, rfl, Gv.start ss (Ch.refl _ _)⟩
  case round =>
    obtain ⟨k, c, hk, rfl, HG⟩ := hrel
    obtain ⟨Ag, cg, rfl⟩ := own_slice_len HG.out.own
    by_cases hlt : k < m
    · have e1 := lt_t hlt
      obtain ⟨s, hs⟩ : ∃ s, ls[k]? = some s := ⟨_, List.getElem?_eq_getElem (by have := HM.out; omega)⟩
      have hsk := HSS.out k s hs
      obtain ⟨hsq, hsd, hsm⟩ := HSM.out s (List.mem_of_getElem? hs)
      obtain ⟨ad, Aq, ms0, cq, Ad, cd, rfl, hx, hml0, hq, hqs, hd, hl1, hl2⟩ := HV3.out.at_ hs
      clear hs
      obtain ⟨q, has, tick, data, lost⟩ := s
      simp only [] at hx hml0 hq hqs hd hl1 hl2 hsq hsd hsm
      have HSK := Lib.hid hsk
      have HQS := Lib.hid hqs
      have HQC := Lib.hid hq
      have HM0 := Lib.hid hml0
      have HSMQ := Lib.hid hsm
      obtain ⟨ql, hql⟩ : ∃ l, q.length = l := ⟨_, rfl⟩
      obtain ⟨dl, hdl⟩ : ∃ l, data.length = l := ⟨_, rfl⟩
      have HDS : Hid (Sl wr (.slice Ad dl cd) data) := ⟨Ad, cd, by rw [hdl], hd.keepNo HG.out.ch, by omega⟩
      rw [hql, hdl] at hx
      rw [hql] at hsq
      rw [hdl] at hsd
      have HQL := Lib.hid hql
      have HDL := Lib.hid hdl
      have HCL : Hid (Cl wr (some (ad.add (k * 5))) [.slice Aq ql cq, .bool has, .int .i64 tick, .slice Ad dl cd, .int .i64 lost]) := hx.keepNo HG.out.ch
      clear hx hml0 hq hqs hd hl1 hl2 hsm hsk hql hdl
      have HP5 : Hid (Row (wr.alloc (.cells #[.slice Aq ql cq, .bool has, .int .i64 tick, .slice Ad dl cd, .int .i64 lost] 36)) wr.heap.size 36 [.slice Aq ql cq, .bool has, .int .i64 tick, .slice Ad dl cd, .int .i64 lost]) := Row.new wr 36 _
      have HA5 : Hid (Ch No wr (wr.alloc (.cells #[.slice Aq ql cq, .bool has, .int .i64 tick, .slice Ad dl cd, .int .i64 lost] 36))) := (Ch.refl _ _).alloc _
      have HG5 := Lib.hid (HG.out.keepNo HA5.out)
      have HPN : Hid (w3.heap.size ≤ wr.heap.size) := HG.out.ch.size
      have HPU : Hid (¬ (Value.slice Ag k cg).ownBlock = some wr.heap.size) := fun e => by
        obtain ⟨L, hL⟩ := own_row HG.out.own e
        have := hL.lt
        omega
      go_upto_region 9 with (first | ((with_reducible refine at_op (o := ⟨some 41, _, _, _, _, _⟩) ?_); refine pl_value (o := ⟨some 41, _, _, _, _, _⟩) rfl (.pointer (some (ad.add (k * 5)))) (exec_ats 23 36 5 (.tmp 39) (.tmp 40) rfl Try.underlying23 size36 ad m cap k rfl rfl hlt) ?_) | ((with_reducible refine at_op (o := ⟨some 42, _, _, _, _, _⟩) ?_); refine pl_value (o := ⟨some 42, _, _, _, _, _⟩) rfl (.agg #[.slice Aq ql cq, .bool has, .int .i64 tick, .slice Ad dl cd, .int .i64 lost]) (exec_load_cl 36 (.tmp 41) rfl (ad.add (k * 5)) rfl [.slice Aq ql cq, .bool has, .int .i64 tick, .slice Ad dl cd, .int .i64 lost] _ HCL.out Try.underlying36 rfl size36) ?_))
      have HDS5 : Hid (Sl (wr.alloc (.cells #[.slice Aq ql cq, .bool has, .int .i64 tick, .slice Ad dl cd, .int .i64 lost] 36)) (.slice Ad dl cd) data) := HDS.out.keepNo HA5.out
      generalize wr.alloc (.cells #[.slice Aq ql cq, .bool has, .int .i64 tick, .slice Ad dl cd, .int .i64 lost] 36) = w5 at *
      generalize wr.heap.size = P at *
      clear HCL HA5 HG HDS
      have p3 : w5.cell? ⟨P, 3, none⟩ = some (.slice Ad dl cd) := HP5.out.cell 3
      go_wp2_with (fail)
      refine (marked_sl HDS5.out (by have := HDL.out; omega)).mono ?_
      intro e w6 hmk
      obtain ⟨gd, cd', rfl, hmk6, hc6⟩ := HG5.out.mkd.snoc hmk HG5.out.ch.size (by have := HDL.out; omega)
      rw [HDL.out] at hmk6 ⊢
      have HMK6 := Lib.hid hmk6
      have HG6 := Lib.hid (HG5.out.keepNo hc6)
      have HP6 := Lib.hid (HP5.out.keepNo hc6)
      clear hmk hmk6 hc6 HG5 HP5 HDS5 p3
      have p3 : w6.cell? ⟨P, 3, none⟩ = some (.slice Ad dl cd) := HP6.out.cell 3
      have f3 : w6.frozen? ⟨P, 3, none⟩ = false := HP6.out.frozen 3
      go_upto_region 12 with (fail)
      have HC7 : Hid (Ch (Is P) w6 (w6.setCell ⟨P, 3, none⟩ (.slice (some ⟨gd, 0, none⟩) dl cd'))) := Ch.setCell (D := Is P) (p := ⟨P, 3, none⟩) (Ch.refl _ _) (fun _ => rfl) _
      have HP7 : Hid (Row (w6.setCell ⟨P, 3, none⟩ (.slice (some ⟨gd, 0, none⟩) dl cd')) P 36 [.slice Aq ql cq, .bool has, .int .i64 tick, .slice (some ⟨gd, 0, none⟩) dl cd', .int .i64 lost]) := HP6.out.set_ 3 _
      have HG7 := Lib.hid (HG6.out.keepP HP6.out HPN.out HPU.out HC7.out)
      have HMK7 := Lib.hid (HMK6.out.keep HC7.out (far_row HP6.out (by decide)))
      have HCW7 : Hid (Ch No w3 (w6.setCell ⟨P, 3, none⟩ (.slice (some ⟨gd, 0, none⟩) dl cd'))) := HG7.out.ch
      generalize w6.setCell ⟨P, 3, none⟩ (.slice (some ⟨gd, 0, none⟩) dl cd') = w7 at *
      clear p3 f3 HC7 HP6 HG6 HMK6
      go_loopw [14, 15] (fun u i wx => ∃ ms : List Value, ms.length ≤ ql ∧ i = .int .i64 ms.length ∧ Hid (wx.ownsRow w7.heap.size 32 1 u ms.length ms) ∧ Hid (Mkf wx w3.heap.size (allV c k ++ (Value.slice (some ⟨gd, 0, none⟩) dl cd') :: ms) (allX ss k ++ data :: q.take ms.length) 0) ∧ Hid (Ch No w7 wx)) (fun _ i _ => ql - (intOf i).toNat)
      case atStart => exact ⟨[], Nat.zero_le _, rfl, owns_nil _ _ _ _, HMK7.out, Ch.refl _ _⟩
      case round =>
        clear HMK7
        obtain ⟨ms, hi, rfl, HU, HMK, HC⟩ := hrel
        have p0 : wr.cell? ⟨P, 0, none⟩ = some (.slice Aq ql cq) := (HP7.out.keepNo HC.out).cell 0
        obtain ⟨mn, hmn⟩ : ∃ mn, ms.length = mn := ⟨_, rfl⟩
        rw [hmn] at hi HU HMK ⊢
        have HMN := Lib.hid hmn
        clear hmn
        by_cases hlq : mn < ql
        · have e2 := lt_t hlq
          obtain ⟨mm, hmm⟩ : ∃ mm, ms0[mn]? = some mm := ⟨_, List.getElem?_eq_getElem (by have := HM0.out; have := HQL.out; omega)⟩
          obtain ⟨xs, hxs⟩ : ∃ xs, q[mn]? = some xs := ⟨_, List.getElem?_eq_getElem (by have := HQL.out; omega)⟩
          have hcw := HCW7.out.then_ HC.out
          obtain ⟨aq, rfl, hcq⟩ := (HQC.out.keepNo hcw) mn mm hmm
          obtain ⟨Am, cm, rfl, hcx, hlx⟩ := (HQS.out mn mm xs hmm hxs).keepNo hcw
          have hxl := HSMQ.out xs (List.mem_of_getElem? hxs)
          obtain ⟨xl, hxll⟩ : ∃ l, xs.length = l := ⟨_, rfl⟩
          have HSX : Hid (Sl wr (.slice Am xl cm) xs) := ⟨Am, cm, by rw [hxll], hcx, hlx⟩
          rw [hxll] at hcq hxl
          have HCQ : Hid (wr.cell? (aq.add mn) = some (.slice Am xl cm)) := hcq
          have HXL := Lib.hid hxll
          have HXB := Lib.hid hxl
          have HTK : Hid (q.take (mn + 1) = q.take mn ++ [xs]) := by
            show _ = _
            rw [List.take_add_one, hxs]
            rfl
          clear hmm hxs hcw hcq hcx hlx hxll hxl
          go_wp2_with (first | ((with_reducible refine at_op (o := ⟨some 60, _, _, _, _, _⟩) ?_); refine pl_value (o := ⟨some 60, _, _, _, _, _⟩) rfl (.pointer (some (aq.add mn))) (exec_at 31 32 (.tmp 58) (.tmp 59) rfl Try.underlying31 size32 aq ql cq mn rfl rfl hlq) ?_) | ((with_reducible refine at_op (o := ⟨some 61, _, _, _, _, _⟩) ?_); refine pl_value (o := ⟨some 61, _, _, _, _, _⟩) rfl (.slice Am xl cm) (exec_load_cell 32 (.tmp 60) rfl (aq.add mn) rfl _ Try.underlying32 rfl _ HCQ.out) ?_))
          refine (marked_sl HSX.out (by have := HXL.out; have := HXB.out; omega)).mono ?_
          intro e w8 hmk
          have hb8 : w3.heap.size ≤ wr.heap.size := (HCW7.out.then_ HC.out).size
          obtain ⟨g8, c8, rfl, hmk8, hc8⟩ := HMK.out.snoc hmk hb8 (by have := HXL.out; have := HXB.out; omega)
          rw [HXL.out] at hmk8 ⊢
          rw [List.append_assoc, List.append_assoc, List.cons_append, List.cons_append, ← HTK.out] at hmk8
          have HMK8 := Lib.hid hmk8
          have HC8 := Lib.hid (HC.out.then_ hc8)
          have HU8 := Lib.hid (owns_keepNo HU.out hc8)
          clear hmk hb8 hmk8 hc8 p0
          have HA9 : Hid (Ch No w8 (w8.alloc (.cells #[.slice (some ⟨g8, 0, none⟩) xl c8] 32))) := (Ch.refl _ _).alloc _
          have HU9 : Hid ((w8.alloc (.cells #[.slice (some ⟨g8, 0, none⟩) xl c8] 32)).ownsRow w7.heap.size 32 1 u14 ms.length ms) := by
            have h := owns_keepNo HU8.out HA9.out
            rw [← HMN.out] at h
            exact h
          have HN9 : Hid (Cl (w8.alloc (.cells #[.slice (some ⟨g8, 0, none⟩) xl c8] 32)) (some ⟨w8.heap.size, 0, none⟩) [.slice (some ⟨g8, 0, none⟩) xl c8]) := (Row.new w8 32 _).cl0
          have HO9 : Hid (∀ u ∈ ([.slice (some ⟨g8, 0, none⟩) xl c8] : List Value), u.oneCell' = true) := by
            intro u hu
            simp at hu
            subst hu
            rfl
          have HB9 : Hid ((ms.length + 1) * 24 ≤ 140737488355328) := by
            have := HMN.out
            show _ ≤ _
            omega
          have HZ9 : Hid (0 < 24) := by show _ < _; omega
          have HS9 : Hid (w7.heap.size ≤ (w8.alloc (.cells #[.slice (some ⟨g8, 0, none⟩) xl c8] 32)).heap.size) := (HC8.out.then_ HA9.out).size
          go_upto_region 13 with (at_builtin; refine wpList_append_to rfl (.tmp 56) (.tmp 63) 31 rfl w7.heap.size 32 (.slice none 0 0) 24 Try.underlying31 info31b rfl u14 ms rfl (some ⟨w8.heap.size, 0, none⟩) 1 1 [.slice (some ⟨g8, 0, none⟩) xl c8] rfl HU9.out rfl HN9.out HO9.out HB9.out HZ9.out HS9.out ?_; intro v10 w10 ho hg hat; have HO10 := Lib.hid ho; have HG10 := Lib.hid hg; clear ho hg hat)
          have HC10 : Hid (Ch No w7 w10) := grown_no (Nat.le_refl _) HU9.out HG10.out (HC8.out.then_ HA9.out)
          have HMK10 : Hid (Mkf w10 w3.heap.size (allV c k ++ (Value.slice (some ⟨gd, 0, none⟩) dl cd') :: (ms ++ [Value.slice (some ⟨g8, 0, none⟩) xl c8])) (allX ss k ++ data :: q.take (mn + 1)) 0) := (HMK8.out.keepNo HA9.out).keep (Ch.of_grownBy HG10.out) (far_own HU9.out (by decide))
          have HO10' : Hid (w10.ownsRow w7.heap.size 32 1 v10 (mn + 1) (ms ++ [Value.slice (some ⟨g8, 0, none⟩) xl c8])) := by
            have h := HO10.out
            rw [List.length_append, HMN.out] at h
            exact h
          have HLL : Hid ((ms ++ [Value.slice (some ⟨g8, 0, none⟩) xl c8]).length = mn + 1) := by
            show _ = _
            rw [List.length_append, HMN.out]
            rfl
          clear HO10 HG10 HU9 HN9 HO9 HU8 HMK8 HA9 HC8
          go_wp2_with (fail)
          refine ⟨⟨ms ++ [Value.slice (some ⟨g8, 0, none⟩) xl c8], by rw [HLL.out]; omega, by rw [HLL.out]; go_num, ?_, ?_, HC10⟩, by simp [intOf]; omega⟩
          · rw [HLL.out]
            exact HO10'
          · rw [HLL.out]
            exact HMK10
        · have e2 := lt_f hlq
          obtain rfl : ql = mn := by omega
          obtain ⟨Au, cu, rfl⟩ := own_slice_len HU.out
          have HQT : Hid (q.take ql = q) := by
            show _ = _
            rw [← HQL.out]
            exact List.take_length
          rw [HQT.out] at HMK
          have f0 : wr.frozen? ⟨P, 0, none⟩ = false := (HP7.out.keepNo HC.out).frozen 0
          go_upto_region 16 with (fail)
          have HP8 := Lib.hid (HP7.out.keepNo HC.out)
          have HC9 : Hid (Ch (Is P) wr (wr.setCell ⟨P, 0, none⟩ (.slice Au ql cu))) := Ch.setCell (D := Is P) (p := ⟨P, 0, none⟩) (Ch.refl _ _) (fun _ => rfl) _
          have HP9 : Hid (Row (wr.setCell ⟨P, 0, none⟩ (.slice Au ql cu)) P 36 [.slice Au ql cu, .bool has, .int .i64 tick, .slice (some ⟨gd, 0, none⟩) dl cd', .int .i64 lost]) := HP8.out.set_ 0 _
          have HG9 := Lib.hid ((HG7.out.keepNo HC.out).keepP HP8.out HPN.out HPU.out HC9.out)
          have HMK9 := Lib.hid (HMK.out.keep HC9.out (far_row HP8.out (by decide)))
          have HU9 := Lib.hid (owns_keepIs HU.out HC9.out (fun e => own_ne_row HU.out HP8.out (by decide) e))
          have HBW : Hid (w3.heap.size ≤ w7.heap.size) := HCW7.out.size
          generalize wr.setCell ⟨P, 0, none⟩ (.slice Au ql cu) = w9 at *
          clear p0 f0 HP8 HC9 HMK HU HP7 HG7 HQC HQS
          have HA10 : Hid (Ch No w9 (w9.alloc (.cells #[.slice Au ql cu, .bool has, .int .i64 tick, .slice (some ⟨gd, 0, none⟩) dl cd', .int .i64 lost] 36))) := (Ch.refl _ _).alloc _
          have HG10 := Lib.hid (HG9.out.keepNo HA10.out)
          have HOW : Hid ((w9.alloc (.cells #[.slice Au ql cu, .bool has, .int .i64 tick, .slice (some ⟨gd, 0, none⟩) dl cd', .int .i64 lost] 36)).ownsRow w3.heap.size 36 5 (.slice Ag k cg) k ((List.range k).flatMap fun j => scell (c j) (ss j))) := HG10.out.own
          have HCN : Hid (Cl (w9.alloc (.cells #[.slice Au ql cu, .bool has, .int .i64 tick, .slice (some ⟨gd, 0, none⟩) dl cd', .int .i64 lost] 36)) (some ⟨w9.heap.size, 0, none⟩) [.slice Au ql cu, .bool has, .int .i64 tick, .slice (some ⟨gd, 0, none⟩) dl cd', .int .i64 lost]) := (Row.new w9 36 _).cl0
          have HON : Hid (∀ u ∈ ([.slice Au ql cu, .bool has, .int .i64 tick, .slice (some ⟨gd, 0, none⟩) dl cd', .int .i64 lost] : List Value), u.oneCell' = true) := by
            intro u hu
            simp at hu
            rcases hu with rfl | rfl | rfl | rfl | rfl <;> rfl
          have HZ : Hid (0 < 5) := by show _ < _; omega
          have HB1 : Hid (k + 1 ≤ 140737488355328) := by
            have := HML.out
            show _ ≤ _
            omega
          have HB2 : Hid ((k + 1) * 72 ≤ 140737488355328) := by
            have := HML.out
            show _ ≤ _
            omega
          have HB3 : Hid (w3.heap.size ≤ (w9.alloc (.cells #[.slice Au ql cu, .bool has, .int .i64 tick, .slice (some ⟨gd, 0, none⟩) dl cd', .int .i64 lost] 36)).heap.size) := HG10.out.ch.size
          go_upto_region 7 with (first | ((with_reducible refine at_op (o := ⟨some 68, _, _, _, _, _⟩) ?_); refine pl_load (o := ⟨some 68, _, _, _, _, _⟩) rfl 36 _ rfl P rfl 36 [.slice Au ql cu, .bool has, .int .i64 tick, .slice (some ⟨gd, 0, none⟩) dl cd', .int .i64 lost] HP9.out _ Try.underlying36 rfl size36 ?_) | (at_builtin; refine wpList_append_sz (o := ⟨some 70, _, _, _, _, _⟩) rfl (.tmp 67) (.tmp 69) 23 rfl w3.heap.size 36 (.agg #[.slice none 0 0, .bool false, .int .i64 0, .slice none 0 0, .int .i64 0]) 5 72 Try.underlying23 info36 rfl HZ.out (.slice Ag k cg) k ((List.range k).flatMap fun j => scell (c j) (ss j)) rfl ⟨w9.heap.size, 0, none⟩ 1 1 [.slice Au ql cu, .bool has, .int .i64 tick, .slice (some ⟨gd, 0, none⟩) dl cd', .int .i64 lost] rfl HOW.out rfl HCN.out HON.out HB1.out HB2.out HB3.out ?_; intro v11 w11 ho hg hat; have HO11 := Lib.hid ho; have HG11 := Lib.hid hg; clear ho hg hat))
          have HGK : Hid (Gv w3 w11 ss (k + 1) v11 (fun j => if j = k then ⟨.slice Au ql cu, .slice (some ⟨gd, 0, none⟩) dl cd', ms⟩ else c j)) := by
            have h1 := HSK.out
            refine HG10.out.snoc (vq := .slice Au ql cu) (vd := .slice (some ⟨gd, 0, none⟩) dl cd') (ms := ms) ?_ (by rw [h1, HMN.out, HQL.out]) (by rw [h1]; exact HMK9.out.keepNo HA10.out) (by rw [h1]; exact HO11.out) HG11.out
            have h2 := own_low (owns_keepNo HU9.out HA10.out) HBW.out
            rw [HMN.out]
            exact h2
          clear HO11 HG11 HOW HCN HON HB3 HG10 HA10 HU9 HMK9 HG9 HP9
          go_wp2_with (fail)
          exact ⟨⟨k + 1, _, by omega, by go_num, HGK⟩, by simp [intOf]; omega⟩
    · have e1 := lt_f hlt
      obtain rfl : k = m := by omega
      have HA4 : Hid (Ch No wr (wr.alloc (.cells #[.slice none 0 0, .bool false, .int .i64 0, .slice none 0 0, .int .i64 (-77)] 36))) := (Ch.refl _ _).alloc _
      have HG4 := Lib.hid (HG.out.keepNo HA4.out)
      have HOW : Hid ((wr.alloc (.cells #[.slice none 0 0, .bool false, .int .i64 0, .slice none 0 0, .int .i64 (-77)] 36)).ownsRow w3.heap.size 36 5 (.slice Ag k cg) k ((List.range k).flatMap fun j => scell (c j) (ss j))) := HG4.out.own
      have HCN : Hid (Cl (wr.alloc (.cells #[.slice none 0 0, .bool false, .int .i64 0, .slice none 0 0, .int .i64 (-77)] 36)) (some ⟨wr.heap.size, 0, none⟩) [.slice none 0 0, .bool false, .int .i64 0, .slice none 0 0, .int .i64 (-77)]) := (Row.new wr 36 _).cl0
      have HON : Hid (∀ u ∈ ([.slice none 0 0, .bool false, .int .i64 0, .slice none 0 0, .int .i64 (-77)] : List Value), u.oneCell' = true) := by
        intro u hu
        simp at hu
        rcases hu with rfl | rfl | rfl | rfl | rfl <;> rfl
      have HZ : Hid (0 < 5) := by show _ < _; omega
      have HB1 : Hid (k + 1 ≤ 140737488355328) := by
        have := HML.out
        show _ ≤ _
        omega
      have HB2 : Hid ((k + 1) * 72 ≤ 140737488355328) := by
        have := HML.out
        show _ ≤ _
        omega
      have HB3 : Hid (w3.heap.size ≤ (wr.alloc (.cells #[.slice none 0 0, .bool false, .int .i64 0, .slice none 0 0, .int .i64 (-77)] 36)).heap.size) := HG4.out.ch.size
      go_upto_region 18 with (at_builtin; refine wpList_append_sz (o := ⟨some 74, _, _, _, _, _⟩) rfl (.tmp 71) (.tmp 73) 23 rfl w3.heap.size 36 (.agg #[.slice none 0 0, .bool false, .int .i64 0, .slice none 0 0, .int .i64 0]) 5 72 Try.underlying23 info36 rfl HZ.out (.slice Ag k cg) k ((List.range k).flatMap fun j => scell (c j) (ss j)) rfl ⟨wr.heap.size, 0, none⟩ 1 1 [.slice none 0 0, .bool false, .int .i64 0, .slice none 0 0, .int .i64 (-77)] rfl HOW.out rfl HCN.out HON.out HB1.out HB2.out HB3.out ?_; intro v5 w5 ho hg hat; obtain ⟨gG, cG, rfl⟩ := own_some2 ho (Nat.succ_pos k); obtain ⟨hge, h1, h2, h3, h4⟩ := HG4.out.end_ ho hg; have HGE := Lib.hid hge; have HC5 := Lib.hid h3; have hcg : k ≤ cG := Nat.le_trans (Nat.le_succ k) h1; have HCG := Lib.hid h1; have hcm : cG ≤ 9223372036854775807 := Nat.le_trans h2 max63; clear ho hg hat hge h1 h2 h3 h4)
      clear HA4 HG4 HOW HCN HON HZ HB1 HB2 HB3 HG
      have HX5 := Lib.hid (HX3.out.keepNo HC5.out)
      have HI5 := Lib.hid (HI3.out.keepNo HC5.out)
      have HST := Lib.hid (HGE.out.stl (cap := cG) HM.out (by omega) HSS.out (fun s hs => (HSM.out s hs).1))
      have HLDC := Lib.hid (loaded_calls HI5.out HF.out part HST.out HSM.out)
      have HLOW : Hid (∀ (i x : Nat) v, (allV c k)[i]? = some v → v.ownBlock = some x → x < w5.heap.size) := fun i x v h1 h2 => HGE.out.mkd.lt h1 h2
      go_wp2_with (first | ((with_reducible refine at_op (o := ⟨some 79, _, _, _, _, _⟩) ?_); refine pl_load (o := ⟨some 79, _, _, _, _, _⟩) rfl 27 _ rfl X rfl 27 [.slice A1 k1 c1, .slice A2 n c2, .slice none 0 0] HX5.out _ Try.underlying27 rfl size27 ?_))
      refine HLDC.out.mono ?_
      intro e w6 hlp
      have HGE6 := Lib.hid (HGE.out.keepNo hlp.ch)
      have HC6 := Lib.hid (HC5.out.then_ hlp.ch)
      have HB35 : Hid (w3.heap.size ≤ w5.heap.size) := HC5.out.size
      clear HX5 HI5 HST HLDC HGE HC5 HX3 HI3
      have hcg1 : (k : Int) + 1 ≤ (cG : Int) := by
        have := HCG.out
        omega
      have hk1 : wrap64 ((k : Int) + 1) = (k : Int) + 1 := by unfold wrap64; omega
      have hk2 : ((k : Int) + 1).toNat = k + 1 := by omega
      have hk3 : (0 : Int) ≤ (k : Int) + 1 := by omega
      have hk4 : k < k + 1 := by omega
      have hk5 : k + 1 ≤ cG := HCG.out
      have g4 : w6.cell? ⟨gG, k * 5 + 4, none⟩ = some (.int .i64 (-77)) := HGE6.out.mark
      have hlq := hlp.q
      rcases hlp with ⟨hno, rfl, hch6⟩ | ⟨hok, G, M, f, E, cc, sp, rfl, hpo, hsp, hch6⟩
      · rcases HW3.out with ⟨_, he, _⟩ | ⟨hok, _⟩
        · simp only [Ending.returned.injEq, Value.tuple.injEq, Array.mk.injEq, List.cons.injEq, Value.slice.injEq, Value.int.injEq, true_and, and_true] at he
          obtain ⟨⟨rfl, rfl, rfl⟩, rfl⟩ := he
          have HLQ : Hid (LoadQ w5.heap.size w6 part qs ls (.returned (.tuple #[.pointer none, .int .i64 20]))) := hlq
          clear hlq hch6
          go_upto_region 22 with (fail)
          clear hcg1 hk1 hk2 hk3 hk4 hk5 g4
          have HGE0 : Hid (Ge w6 w3.heap.size gG k ss c (allV c 0).length) := HGE6.out
          go_loopw [18] (fun i wx => ∃ j : Nat, j ≤ k ∧ i = .int .i64 j ∧ Hid (Ge wx w3.heap.size gG k ss c (allV c j).length) ∧ Hid (Ch No w3 wx) ∧ Hid (LoadQ w5.heap.size wx part qs ls (.returned (.tuple #[.pointer none, .int .i64 20])))) (fun i _ => k - (intOf i).toNat)
          case atStart => exact ⟨0, Nat.zero_le _, rfl, HGE0, HC6, HLQ⟩
          case round =>
            clear HGE0 HC6 HLQ HGE6
            obtain ⟨j, hj, rfl, HGE, HC, HLQ⟩ := hrel
            by_cases hlt : j < k
            · have e1 := lt_t hlt
              obtain ⟨s, hs⟩ : ∃ s, ls[j]? = some s := ⟨_, List.getElem?_eq_getElem (by have := HM.out; omega)⟩
              have hsj := HSS.out j s hs
              obtain ⟨hsq, hsd, hsm⟩ := HSM.out s (List.mem_of_getElem? hs)
              obtain ⟨ad, Aq, ms0, cq, Ad, cd, rfl, hx, hml0, hq, hqs, hd, hl1, hl2⟩ := HV3.out.at_ hs
              clear hs
              obtain ⟨q, has, tick, data, lost⟩ := s
              simp only [] at hx hml0 hq hqs hd hl1 hl2 hsq hsd hsm
              have HSJ := Lib.hid hsj
              have HQS := Lib.hid hqs
              have HQC := Lib.hid hq
              have HM0 := Lib.hid hml0
              have HSMQ := Lib.hid hsm
              have hdat : Cl w3 Ad (ints data) := hd
              obtain ⟨ql, hql⟩ : ∃ l, q.length = l := ⟨_, rfl⟩
              obtain ⟨dl, hdl⟩ : ∃ l, data.length = l := ⟨_, rfl⟩
              rw [hql, hdl] at hx
              rw [hql] at hsq
              rw [hdl] at hsd
              have HDAT := Lib.hid hdat
              have HQL := Lib.hid hql
              have HDL := Lib.hid hdl
              have HCL : Hid (Cl w3 (some (ad.add (j * 5))) [.slice Aq ql cq, .bool has, .int .i64 tick, .slice Ad dl cd, .int .i64 lost]) := hx
              have hml := HGE.out.ml j hlt
              rw [hsj] at hml
              have hml' : (c j).ms.length = ql := hml.trans hql
              have hlen := all_len c ss HGE.out.ml (Nat.le_of_lt hlt)
              obtain ⟨Au, cu, hvq⟩ := own_slice_len (HGE.out.q j hlt)
              rw [hml'] at hvq
              have hv0 := allV_at c hlt 0 (Nat.zero_le _)
              have hx0 := allX_at ss hlt 0 (Nat.zero_le _)
              rw [hlen, hsj] at hx0
              obtain ⟨gd, cd', rs, hvd, hgb, hgr, hgc, hgm, hgl, -⟩ := HGE.out.mkd.left hv0 hx0
              rw [hdl] at hvd hgc
              have HLEN := Lib.hid hlen
              have HVQ := Lib.hid hvq
              have HVD := Lib.hid hvd
              have HML' := Lib.hid hml'
              clear hx hml0 hq hqs hd hl1 hl2 hsm hsj hql hdl hdat hml hml' hlen hvq hv0 hx0 hvd hgb hgr hgc hgm hgl
              have HG : Hid (∀ w', Ch No wr w' → w'.cell? ⟨gG, j * 5, none⟩ = some (.slice Au ql cu) ∧ w'.cell? ⟨gG, j * 5 + 1, none⟩ = some (.bool has) ∧ w'.cell? ⟨gG, j * 5 + 2, none⟩ = some (.int .i64 tick) ∧ w'.cell? ⟨gG, j * 5 + 3, none⟩ = some (.slice (some ⟨gd, 0, none⟩) dl cd') ∧ w'.cell? ⟨gG, j * 5 + 4, none⟩ = some (.int .i64 lost)) := fun w' hc => by
                have h0 := (HGE.out.keepNo hc).cell hlt 0 (by decide)
                have h1 := (HGE.out.keepNo hc).cell hlt 1 (by decide)
                have h2 := (HGE.out.keepNo hc).cell hlt 2 (by decide)
                have h3 := (HGE.out.keepNo hc).cell hlt 3 (by decide)
                have h4 := (HGE.out.keepNo hc).cell hlt 4 (by decide)
                rw [HSJ.out] at h0 h1 h2 h3 h4
                simp only [scell, HVQ.out, HVD.out, List.getElem?_cons_succ, List.getElem?_cons_zero, Nat.add_zero] at h0 h1 h2 h3 h4
                exact ⟨h0, h1, h2, h3, h4⟩
              obtain ⟨g0, g1, g2, g3, g4⟩ := HG.out wr (Ch.refl _ _)
              have hclr := HCL.out.keepNo HC.out
              have z0 := hclr.first rfl
              have z1 := hclr.next 0 rfl
              have z2 := hclr.next 1 rfl
              have z3 := hclr.next 2 rfl
              have z4 := hclr.next 3 rfl
              simp only [Nat.reduceAdd] at z1 z2 z3 z4
              clear hclr
              go_upto_region 24 with (fail)
              go_quiet (fail)
              have HC7 : Hid (Ch No wr (wr.drewN nq)) := (Ch.refl _ _).drewN nq
              generalize wr.drewN nq = w7 at *
              clear g0 g1 g2 g3 g4 z0 z1 z2 z3 z4
              obtain ⟨-, -, -, g3, -⟩ := HG.out w7 HC7.out
              have hclr := HCL.out.keepNo (HC.out.then_ HC7.out)
              have z3 := hclr.next 2 rfl
              simp only [Nat.reduceAdd] at z3
              clear hclr
              go_upto_region 25 with (fail)
              go_quiet (fail)
              have HC8 : Hid (Ch No wr (w7.drewN nq)) := HC7.out.drewN nq
              generalize w7.drewN nq = w8 at *
              clear g3 z3
              go_upto_region 27 with (fail)
              have HGC : Hid (∀ w', Ch No w8 w' → w'.cell? ((((⟨gG, 0, none⟩ : Addr).add (j * 5)).add 1).add 2) = some (.slice (some ⟨gd, 0, none⟩) dl cd')) := fun w' hc => by
                rw [add_lit, add_lit, add_lit]
                have h := (HG.out w' (HC8.out.then_ hc)).2.2.2.1
                rw [Nat.zero_add, Nat.add_assoc]
                exact h
              have HSC : Hid (∀ w', Ch No w8 w' → w'.cell? (((ad.add (j * 5)).add 1).add 2) = some (.slice Ad dl cd)) := fun w' hc => by
                obtain ⟨ad', e, h⟩ := (HCL.out.keepNo ((HC.out.then_ HC8.out).then_ hc)) 3 _ rfl
                cases e
                rw [add_add]
                exact h
              refine wp_region_quiet_tail 12 (by kernel_rfl) (by kernel_rfl) (fun w' => Ch No w8 w') ((Ch.refl _ _).drew) ?_
              simp only [List.take_succ_cons, List.take_zero, List.drop_succ_cons, List.drop_zero]
              refine wpQuiet_value (by rfl) (.slice (some ⟨gG, 0, none⟩) k cG) (fun _ => by kernel_rfl) ?_
              simp only [Act.put, List.setIfInBounds_toArray, List.set_cons_zero, List.set_cons_succ]
              refine wpQuiet_value (by rfl) (.int .i64 (j : Int)) (fun _ => by kernel_rfl) ?_
              simp only [Act.put, List.setIfInBounds_toArray, List.set_cons_zero, List.set_cons_succ]
              refine wpQuiet_value (by rfl) (.pointer (some (((⟨gG, 0, none⟩ : Addr).add (j * 5))))) (fun _ => exec_ats 23 36 5 (.tmp 189) (.tmp 190) rfl Try.underlying23 size36 ⟨gG, 0, none⟩ k cG j rfl rfl hlt) ?_
              simp only [Act.put, List.setIfInBounds_toArray, List.set_cons_zero, List.set_cons_succ]
              refine wpQuiet_value (by rfl) (.pointer (some (((⟨gG, 0, none⟩ : Addr).add (j * 5)).add 1))) (fun _ => by kernel_rfl) ?_
              simp only [Act.put, List.setIfInBounds_toArray, List.set_cons_zero, List.set_cons_succ]
              refine wpQuiet_value (by rfl) (.pointer (some ((((⟨gG, 0, none⟩ : Addr).add (j * 5)).add 1).add 2))) (fun _ => by kernel_rfl) ?_
              simp only [Act.put, List.setIfInBounds_toArray, List.set_cons_zero, List.set_cons_succ]
              refine wpQuiet_read (by rfl) (.slice (some ⟨gd, 0, none⟩) dl cd') (fun w' hw' => exec_load_cell 32 (.tmp 193) rfl ((((⟨gG, 0, none⟩ : Addr).add (j * 5)).add 1).add 2) rfl _ Try.underlying32 rfl _ (HGC.out w' hw')) ?_
              simp only [Act.put, List.setIfInBounds_toArray, List.set_cons_zero, List.set_cons_succ]
              refine wpQuiet_value (by rfl) (.slice (some ad) k cap) (fun _ => by kernel_rfl) ?_
              simp only [Act.put, List.setIfInBounds_toArray, List.set_cons_zero, List.set_cons_succ]
              refine wpQuiet_value (by rfl) (.int .i64 (j : Int)) (fun _ => by kernel_rfl) ?_
              simp only [Act.put, List.setIfInBounds_toArray, List.set_cons_zero, List.set_cons_succ]
              refine wpQuiet_value (by rfl) (.pointer (some ((ad.add (j * 5))))) (fun _ => exec_ats 23 36 5 (.tmp 195) (.tmp 196) rfl Try.underlying23 size36 ad k cap j rfl rfl hlt) ?_
              simp only [Act.put, List.setIfInBounds_toArray, List.set_cons_zero, List.set_cons_succ]
              refine wpQuiet_value (by rfl) (.pointer (some ((ad.add (j * 5)).add 1))) (fun _ => by kernel_rfl) ?_
              simp only [Act.put, List.setIfInBounds_toArray, List.set_cons_zero, List.set_cons_succ]
              refine wpQuiet_value (by rfl) (.pointer (some (((ad.add (j * 5)).add 1).add 2))) (fun _ => by kernel_rfl) ?_
              simp only [Act.put, List.setIfInBounds_toArray, List.set_cons_zero, List.set_cons_succ]
              refine wpQuiet_read (by rfl) (.slice Ad dl cd) (fun w' hw' => exec_load_cell 32 (.tmp 199) rfl (((ad.add (j * 5)).add 1).add 2) rfl _ Try.underlying32 rfl _ (HSC.out w' hw')) ?_
              simp only [Act.put, List.setIfInBounds_toArray, List.set_cons_zero, List.set_cons_succ]
              refine wpQuiet_nil ?_
              intro w9 hc9
              have HC9 : Hid (Ch No w3 w9) := (HC.out.then_ HC8.out).then_ hc9
              have HGE9 := Lib.hid (HGE.out.keepNo (HC8.out.then_ hc9))
              have HLQ9 := Lib.hid (HLQ.out.keepNo (HC8.out.then_ hc9))
              clear hc9 HGC HSC HG HC7 HC8 HGE HLQ HC
              obtain ⟨rs9, hn9, hb9, hr9, hk9, hm9, hv9, hge9⟩ := HGE9.out.data hlt HSJ.out HVD.out
              have HB9 := Lib.hid hb9
              have HGX9 := Lib.hid hge9
              have hlow9 : gd < w5.heap.size := HLOW.out _ _ _ hv9 rfl
              have HLW9 := Lib.hid hlow9
              have hleft := left_any (w := w9) (m := dl) (c := cd) (B := Ad) (ys := data) hn9 HDL.out.symm (by have := HDL.out; omega) hk9 hm9 rfl hr9 (HDAT.out.keepNo HC9.out)
              simp only [decide_true] at hleft
              have HLEFT := Lib.hid hleft
              clear hn9 hb9 hr9 hk9 hm9 hv9 hge9 hlow9 hleft
              go_wp2_with (fail)
              refine HLEFT.out.mono ?_
              rintro e w10 ⟨rfl, hc10, -⟩
              have HGE10 := Lib.hid (HGX9.out w10 hc10)
              have HC10 : Hid (Ch No w3 w10) := ch_newg HC9.out hc10 HB9.out
              have HLQ10 := Lib.hid (HLQ9.out.keepLow hc10 HLW9.out)
              clear hc10 HLEFT HGX9 HGE9 HLQ9 HC9 HB9 HLW9
              go_wp2_with (fail)
              go_loopw [19, 20] (fun b i wx => ∃ x : Nat, x ≤ ql ∧ b = .bool true ∧ i = .int .i64 x ∧ Hid (Ge wx w3.heap.size gG k ss c ((allV c j).length + 1 + x)) ∧ Hid (Ch No w3 wx) ∧ Hid (LoadQ w5.heap.size wx part qs ls (.returned (.tuple #[.pointer none, .int .i64 20])))) (fun _ i _ => ql - (intOf i).toNat)
              case atStart => exact ⟨0, Nat.zero_le _, rfl, rfl, HGE10, HC10, HLQ10⟩
              case round =>
                clear HGE10 HC10 HLQ10
                obtain ⟨x, hx, rfl, rfl, HGE, HC, HLQ⟩ := hrel
                have hclr := HCL.out.keepNo HC.out
                have z0 := hclr.first rfl
                clear hclr
                by_cases hlx : x < ql
                · have e2 := lt_t hlx
                  obtain ⟨xs, hxs⟩ : ∃ xs, q[x]? = some xs := ⟨_, List.getElem?_eq_getElem (by have := HQL.out; omega)⟩
                  obtain ⟨mm, hmm⟩ : ∃ mm, ms0[x]? = some mm := ⟨_, List.getElem?_eq_getElem (by have := HM0.out; have := HQL.out; omega)⟩
                  obtain ⟨aq, rfl, hcq⟩ := HQC.out x mm hmm
                  obtain ⟨Am, cm, rfl, hcx, hlx2⟩ := HQS.out x mm xs hmm hxs
                  obtain ⟨gm, cm', rs, hms, hgb, -, -, -, hxl, hvx, -⟩ := HGE.out.list hlt HSJ.out hxs
                  obtain ⟨gu, rfl, -, -⟩ : ∃ gu, Au = some ⟨gu, 0, none⟩ ∧ True ∧ True := by
                    have ho := HGE.out.q j hlt
                    rw [HML'.out, HVQ.out] at ho
                    obtain ⟨g, e, -, -⟩ := own_cell1 ho hms
                    exact ⟨g, e, trivial, trivial⟩
                  obtain ⟨xl, hxll⟩ : ∃ l, xs.length = l := ⟨_, rfl⟩
                  have HQM : Hid (∀ w', Ch No wr w' → w'.cell? ((⟨gu, 0, none⟩ : Addr).add x) = some (.slice (some ⟨gm, 0, none⟩) xl cm')) := fun w' hc => by
                    have ho := (HGE.out.keepNo hc).q j hlt
                    rw [HML'.out, HVQ.out] at ho
                    have h := (own_cell1g ho hms).2
                    rw [hxll] at h
                    rw [add_lit, Nat.zero_add]
                    exact h
                  have HQN : Hid (∀ w', Ch No wr w' → w'.cell? (aq.add x) = some (.slice Am xl cm)) := fun w' hc => by
                    rw [← hxll]
                    exact (HC.out.then_ hc).cell (not_no _) hcq
                  have HGC : Hid (∀ w', Ch No wr w' → w'.cell? (((⟨gG, 0, none⟩ : Addr).add (j * 5)).add 0) = some (.slice (some ⟨gu, 0, none⟩) ql cu)) := fun w' hc => by
                    have h := (HGE.out.keepNo hc).cell hlt 0 (by decide)
                    rw [HSJ.out] at h
                    simp only [scell, HVQ.out, List.getElem?_cons_zero, Nat.add_zero] at h
                    rw [add_lit, add_lit, Nat.zero_add, Nat.add_zero]
                    exact h
                  have HSC : Hid (∀ w', Ch No wr w' → w'.cell? ((ad.add (j * 5)).add 0) = some (.slice (some aq) ql cq)) := fun w' hc => by
                    obtain ⟨ad', e, h⟩ := (HCL.out.keepNo (HC.out.then_ hc)) 0 _ rfl
                    cases e
                    exact h
                  have HXS := Lib.hid hxs
                  have HXL := Lib.hid hxll
                  have HCX : Hid (Cl w3 Am (ints xs)) := hcx
                  have HMS := Lib.hid hms
                  have HXB := Lib.hid hxl
                  have hxl2 := hxl
                  rw [hxll] at hxl2
                  clear hxs hmm hcq hcx hms hgb hxl hvx hxll hlx2
                  go_upto_region 31 with (fail)
                  clear z0
                  refine wp_region_quiet_tail 18 (by kernel_rfl) (by kernel_rfl) (fun w' => Ch No wr w') ((Ch.refl _ _).drew) ?_
                  simp only [List.take_succ_cons, List.take_zero, List.drop_succ_cons, List.drop_zero]
                  refine wpQuiet_value (by rfl) (.bool true) (fun _ => by kernel_rfl) ?_
                  simp only [Act.put, List.setIfInBounds_toArray, List.set_cons_zero, List.set_cons_succ]
                  refine wpQuiet_value (by rfl) (.bool true) (fun _ => by kernel_rfl) ?_
                  simp only [Act.put, List.setIfInBounds_toArray, List.set_cons_zero, List.set_cons_succ]
                  refine wpQuiet_value (by rfl) (.slice (some ⟨gG, 0, none⟩) k cG) (fun _ => by kernel_rfl) ?_
                  simp only [Act.put, List.setIfInBounds_toArray, List.set_cons_zero, List.set_cons_succ]
                  refine wpQuiet_value (by rfl) (.int .i64 (j : Int)) (fun _ => by kernel_rfl) ?_
                  simp only [Act.put, List.setIfInBounds_toArray, List.set_cons_zero, List.set_cons_succ]
                  refine wpQuiet_value (by rfl) (.pointer (some (((⟨gG, 0, none⟩ : Addr).add (j * 5))))) (fun _ => exec_ats 23 36 5 (.tmp 214) (.tmp 215) rfl Try.underlying23 size36 ⟨gG, 0, none⟩ k cG j rfl rfl hlt) ?_
                  simp only [Act.put, List.setIfInBounds_toArray, List.set_cons_zero, List.set_cons_succ]
                  refine wpQuiet_value (by rfl) (.pointer (some (((⟨gG, 0, none⟩ : Addr).add (j * 5)).add 0))) (fun _ => by kernel_rfl) ?_
                  simp only [Act.put, List.setIfInBounds_toArray, List.set_cons_zero, List.set_cons_succ]
                  refine wpQuiet_read (by rfl) (.slice (some ⟨gu, 0, none⟩) ql cu) (fun w' hw' => exec_load_cell 31 (.tmp 217) rfl (((⟨gG, 0, none⟩ : Addr).add (j * 5)).add 0) rfl _ Try.underlying31 rfl _ (HGC.out w' hw')) ?_
                  simp only [Act.put, List.setIfInBounds_toArray, List.set_cons_zero, List.set_cons_succ]
                  refine wpQuiet_value (by rfl) (.int .i64 (x : Int)) (fun _ => by kernel_rfl) ?_
                  simp only [Act.put, List.setIfInBounds_toArray, List.set_cons_zero, List.set_cons_succ]
                  refine wpQuiet_value (by rfl) (.pointer (some ((⟨gu, 0, none⟩ : Addr).add x))) (fun _ => exec_at 31 32 (.tmp 218) (.tmp 219) rfl Try.underlying31 size32 ⟨gu, 0, none⟩ ql cu x rfl rfl hlx) ?_
                  simp only [Act.put, List.setIfInBounds_toArray, List.set_cons_zero, List.set_cons_succ]
                  refine wpQuiet_read (by rfl) (.slice (some ⟨gm, 0, none⟩) xl cm') (fun w' hw' => exec_load_cell 32 (.tmp 220) rfl ((⟨gu, 0, none⟩ : Addr).add x) rfl _ Try.underlying32 rfl _ (HQM.out w' hw')) ?_
                  simp only [Act.put, List.setIfInBounds_toArray, List.set_cons_zero, List.set_cons_succ]
                  refine wpQuiet_value (by rfl) (.slice (some ad) k cap) (fun _ => by kernel_rfl) ?_
                  simp only [Act.put, List.setIfInBounds_toArray, List.set_cons_zero, List.set_cons_succ]
                  refine wpQuiet_value (by rfl) (.int .i64 (j : Int)) (fun _ => by kernel_rfl) ?_
                  simp only [Act.put, List.setIfInBounds_toArray, List.set_cons_zero, List.set_cons_succ]
                  refine wpQuiet_value (by rfl) (.pointer (some ((ad.add (j * 5))))) (fun _ => exec_ats 23 36 5 (.tmp 222) (.tmp 223) rfl Try.underlying23 size36 ad k cap j rfl rfl hlt) ?_
                  simp only [Act.put, List.setIfInBounds_toArray, List.set_cons_zero, List.set_cons_succ]
                  refine wpQuiet_value (by rfl) (.pointer (some ((ad.add (j * 5)).add 0))) (fun _ => by kernel_rfl) ?_
                  simp only [Act.put, List.setIfInBounds_toArray, List.set_cons_zero, List.set_cons_succ]
                  refine wpQuiet_read (by rfl) (.slice (some aq) ql cq) (fun w' hw' => exec_load_cell 31 (.tmp 225) rfl ((ad.add (j * 5)).add 0) rfl _ Try.underlying31 rfl _ (HSC.out w' hw')) ?_
                  simp only [Act.put, List.setIfInBounds_toArray, List.set_cons_zero, List.set_cons_succ]
                  refine wpQuiet_value (by rfl) (.int .i64 (x : Int)) (fun _ => by kernel_rfl) ?_
                  simp only [Act.put, List.setIfInBounds_toArray, List.set_cons_zero, List.set_cons_succ]
                  refine wpQuiet_value (by rfl) (.pointer (some (aq.add x))) (fun _ => exec_at 31 32 (.tmp 226) (.tmp 227) rfl Try.underlying31 size32 aq ql cq x rfl rfl hlx) ?_
                  simp only [Act.put, List.setIfInBounds_toArray, List.set_cons_zero, List.set_cons_succ]
                  refine wpQuiet_read (by rfl) (.slice Am xl cm) (fun w' hw' => exec_load_cell 32 (.tmp 228) rfl (aq.add x) rfl _ Try.underlying32 rfl _ (HQN.out w' hw')) ?_
                  simp only [Act.put, List.setIfInBounds_toArray, List.set_cons_zero, List.set_cons_succ]
                  refine wpQuiet_nil ?_
                  intro w11 hc11
                  have HC11 : Hid (Ch No w3 w11) := HC.out.then_ hc11
                  have HGE11 := Lib.hid (HGE.out.keepNo hc11)
                  have HLQ11 := Lib.hid (HLQ.out.keepNo hc11)
                  clear hc11 HGC HSC HQM HQN HGE HLQ HC
                  obtain ⟨g', c', rs', hms', hb', hr', hk', hm', -, hv', hge'⟩ := HGE11.out.list hlt HSJ.out HXS.out
                  have hms2 := HMS.out
                  rw [hms'] at hms2
                  simp only [Option.some.injEq, Value.slice.injEq, Addr.mk.injEq, and_true] at hms2
                  obtain ⟨rfl, _, rfl⟩ := hms2
                  have HB9 := Lib.hid hb'
                  have HGX9 := Lib.hid hge'
                  have hlow9 : g' < w5.heap.size := HLOW.out _ _ _ hv' rfl
                  have HLW9 := Lib.hid hlow9
                  have hk2 : xl + 70 ≤ c' := by rw [← HXL.out]; exact hk'
                  have hleft := left_any (w := w11) (m := xl) (c := cm) (B := Am) (ys := xs) HXL.out.symm HXL.out.symm HXB.out hk2 hm' rfl hr' (HCX.out.keepNo HC11.out)
                  simp only [decide_true] at hleft
                  have HLEFT := Lib.hid hleft
                  clear hms' hb' hr' hk' hm' hv' hge' hlow9 hleft hk2
                  go_wp2_with (fail)
                  refine HLEFT.out.mono ?_
                  rintro e w12 ⟨rfl, hc12, -⟩
                  have HGE12 := Lib.hid (HGX9.out w12 hc12)
                  have HC12 : Hid (Ch No w3 w12) := ch_newg HC11.out hc12 HB9.out
                  have HLQ12 := Lib.hid (HLQ11.out.keepLow hc12 HLW9.out)
                  clear hc12 HLEFT HGX9 HGE11 HLQ11 HC11 HB9 HLW9
                  go_wp2_with (fail)
                  exact ⟨⟨x + 1, by omega, rfl, by go_num, HGE12, HC12, HLQ12⟩, by simp [intOf]; omega⟩
                · have e2 := lt_f hlx
                  obtain rfl : x = ql := by omega
                  have HGEN := Lib.hid (HGE.out.end_ HML'.out)
                  have hjm := HML.out
                  go_wp2_with (fail)
                  exact ⟨⟨j + 1, by omega, by go_num, HGEN, HC, HLQ⟩, by simp [intOf]; omega⟩
            · have e1 := lt_f hlt
              obtain rfl : j = k := by omega
              go_wp2
              go_ret
              exact ⟨rfl, HC3.out.then_ HC.out⟩
        · exact absurd hok hno
      · rcases HW3.out with ⟨hno, _, _⟩ | ⟨_, v', he, hwl, hcw⟩
        · exact absurd hok hno
        · simp only [Ending.returned.injEq, Value.tuple.injEq, Array.mk.injEq, List.cons.injEq, Value.int.injEq, true_and, and_true] at he
          obtain ⟨rfl, rfl⟩ := he
          have HWL := Lib.hid hwl
          have HSP := Lib.hid hsp
          have HOK := Lib.hid hok
          have HLQ : Hid (LoadQ w5.heap.size w6 part qs ls (.returned (.tuple #[.pointer (some ⟨G, 0, none⟩), .int .i64 0]))) := hlq
          clear hlq hch6
          go_upto_region 22 with (fail)
          clear hcg1 hk1 hk2 hk3 hk4 hk5 g4
          have HGE0 : Hid (Ge w6 w3.heap.size gG k ss c (allV c 0).length) := HGE6.out
          go_loopw [18] (fun i wx => ∃ j : Nat, j ≤ k ∧ i = .int .i64 j ∧ Hid (Ge wx w3.heap.size gG k ss c (allV c j).length) ∧ Hid (Ch No w3 wx) ∧ Hid (LoadQ w5.heap.size wx part qs ls (.returned (.tuple #[.pointer (some ⟨G, 0, none⟩), .int .i64 0])))) (fun i _ => k - (intOf i).toNat)
          case atStart => exact ⟨0, Nat.zero_le _, rfl, HGE0, HC6, HLQ⟩
          case round =>
            clear HGE0 HC6 HLQ HGE6
            obtain ⟨j, hj, rfl, HGE, HC, HLQ⟩ := hrel
            by_cases hlt : j < k
            · have e1 := lt_t hlt
              obtain ⟨s, hs⟩ : ∃ s, ls[j]? = some s := ⟨_, List.getElem?_eq_getElem (by have := HM.out; omega)⟩
              have hsj := HSS.out j s hs
              obtain ⟨hsq, hsd, hsm⟩ := HSM.out s (List.mem_of_getElem? hs)
              obtain ⟨ad, Aq, ms0, cq, Ad, cd, rfl, hx, hml0, hq, hqs, hd, hl1, hl2⟩ := HV3.out.at_ hs
              clear hs
              obtain ⟨q, has, tick, data, lost⟩ := s
              simp only [] at hx hml0 hq hqs hd hl1 hl2 hsq hsd hsm
              have HSJ := Lib.hid hsj
              have HQS := Lib.hid hqs
              have HQC := Lib.hid hq
              have HM0 := Lib.hid hml0
              have HSMQ := Lib.hid hsm
              have hdat : Cl w3 Ad (ints data) := hd
              obtain ⟨ql, hql⟩ : ∃ l, q.length = l := ⟨_, rfl⟩
              obtain ⟨dl, hdl⟩ : ∃ l, data.length = l := ⟨_, rfl⟩
              rw [hql, hdl] at hx
              rw [hql] at hsq
              rw [hdl] at hsd
              have HDAT := Lib.hid hdat
              have HQL := Lib.hid hql
              have HDL := Lib.hid hdl
              have HCL : Hid (Cl w3 (some (ad.add (j * 5))) [.slice Aq ql cq, .bool has, .int .i64 tick, .slice Ad dl cd, .int .i64 lost]) := hx
              have hml := HGE.out.ml j hlt
              rw [hsj] at hml
              have hml' : (c j).ms.length = ql := hml.trans hql
              have hlen := all_len c ss HGE.out.ml (Nat.le_of_lt hlt)
              obtain ⟨Au, cu, hvq⟩ := own_slice_len (HGE.out.q j hlt)
              rw [hml'] at hvq
              have hv0 := allV_at c hlt 0 (Nat.zero_le _)
              have hx0 := allX_at ss hlt 0 (Nat.zero_le _)
              rw [hlen, hsj] at hx0
              obtain ⟨gd, cd', rs, hvd, hgb, hgr, hgc, hgm, hgl, -⟩ := HGE.out.mkd.left hv0 hx0
              rw [hdl] at hvd hgc
              have HLEN := Lib.hid hlen
              have HVQ := Lib.hid hvq
              have HVD := Lib.hid hvd
              have HML' := Lib.hid hml'
              clear hx hml0 hq hqs hd hl1 hl2 hsm hsj hql hdl hdat hml hml' hlen hvq hv0 hx0 hvd hgb hgr hgc hgm hgl
              have HG : Hid (∀ w', Ch No wr w' → w'.cell? ⟨gG, j * 5, none⟩ = some (.slice Au ql cu) ∧ w'.cell? ⟨gG, j * 5 + 1, none⟩ = some (.bool has) ∧ w'.cell? ⟨gG, j * 5 + 2, none⟩ = some (.int .i64 tick) ∧ w'.cell? ⟨gG, j * 5 + 3, none⟩ = some (.slice (some ⟨gd, 0, none⟩) dl cd') ∧ w'.cell? ⟨gG, j * 5 + 4, none⟩ = some (.int .i64 lost)) := fun w' hc => by
                have h0 := (HGE.out.keepNo hc).cell hlt 0 (by decide)
                have h1 := (HGE.out.keepNo hc).cell hlt 1 (by decide)
                have h2 := (HGE.out.keepNo hc).cell hlt 2 (by decide)
                have h3 := (HGE.out.keepNo hc).cell hlt 3 (by decide)
                have h4 := (HGE.out.keepNo hc).cell hlt 4 (by decide)
                rw [HSJ.out] at h0 h1 h2 h3 h4
                simp only [scell, HVQ.out, HVD.out, List.getElem?_cons_succ, List.getElem?_cons_zero, Nat.add_zero] at h0 h1 h2 h3 h4
                exact ⟨h0, h1, h2, h3, h4⟩
              obtain ⟨g0, g1, g2, g3, g4⟩ := HG.out wr (Ch.refl _ _)
              have hclr := HCL.out.keepNo HC.out
              have z0 := hclr.first rfl
              have z1 := hclr.next 0 rfl
              have z2 := hclr.next 1 rfl
              have z3 := hclr.next 2 rfl
              have z4 := hclr.next 3 rfl
              simp only [Nat.reduceAdd] at z1 z2 z3 z4
              clear hclr
              go_upto_region 24 with (fail)
              go_quiet (fail)
              have HC7 : Hid (Ch No wr (wr.drewN nq)) := (Ch.refl _ _).drewN nq
              generalize wr.drewN nq = w7 at *
              clear g0 g1 g2 g3 g4 z0 z1 z2 z3 z4
              obtain ⟨-, -, -, g3, -⟩ := HG.out w7 HC7.out
              have hclr := HCL.out.keepNo (HC.out.then_ HC7.out)
              have z3 := hclr.next 2 rfl
              simp only [Nat.reduceAdd] at z3
              clear hclr
              go_upto_region 25 with (fail)
              go_quiet (fail)
              have HC8 : Hid (Ch No wr (w7.drewN nq)) := HC7.out.drewN nq
              generalize w7.drewN nq = w8 at *
              clear g3 z3
              go_upto_region 27 with (fail)
              have HGC : Hid (∀ w', Ch No w8 w' → w'.cell? ((((⟨gG, 0, none⟩ : Addr).add (j * 5)).add 1).add 2) = some (.slice (some ⟨gd, 0, none⟩) dl cd')) := fun w' hc => by
                rw [add_lit, add_lit, add_lit]
                have h := (HG.out w' (HC8.out.then_ hc)).2.2.2.1
                rw [Nat.zero_add, Nat.add_assoc]
                exact h
              have HSC : Hid (∀ w', Ch No w8 w' → w'.cell? (((ad.add (j * 5)).add 1).add 2) = some (.slice Ad dl cd)) := fun w' hc => by
                obtain ⟨ad', e, h⟩ := (HCL.out.keepNo ((HC.out.then_ HC8.out).then_ hc)) 3 _ rfl
                cases e
                rw [add_add]
                exact h
              refine wp_region_quiet_tail 12 (by kernel_rfl) (by kernel_rfl) (fun w' => Ch No w8 w') ((Ch.refl _ _).drew) ?_
              simp only [List.take_succ_cons, List.take_zero, List.drop_succ_cons, List.drop_zero]
              refine wpQuiet_value (by rfl) (.slice (some ⟨gG, 0, none⟩) k cG) (fun _ => by kernel_rfl) ?_
              simp only [Act.put, List.setIfInBounds_toArray, List.set_cons_zero, List.set_cons_succ]
              refine wpQuiet_value (by rfl) (.int .i64 (j : Int)) (fun _ => by kernel_rfl) ?_
              simp only [Act.put, List.setIfInBounds_toArray, List.set_cons_zero, List.set_cons_succ]
              refine wpQuiet_value (by rfl) (.pointer (some (((⟨gG, 0, none⟩ : Addr).add (j * 5))))) (fun _ => exec_ats 23 36 5 (.tmp 189) (.tmp 190) rfl Try.underlying23 size36 ⟨gG, 0, none⟩ k cG j rfl rfl hlt) ?_
              simp only [Act.put, List.setIfInBounds_toArray, List.set_cons_zero, List.set_cons_succ]
              refine wpQuiet_value (by rfl) (.pointer (some (((⟨gG, 0, none⟩ : Addr).add (j * 5)).add 1))) (fun _ => by kernel_rfl) ?_
              simp only [Act.put, List.setIfInBounds_toArray, List.set_cons_zero, List.set_cons_succ]
              refine wpQuiet_value (by rfl) (.pointer (some ((((⟨gG, 0, none⟩ : Addr).add (j * 5)).add 1).add 2))) (fun _ => by kernel_rfl) ?_
              simp only [Act.put, List.setIfInBounds_toArray, List.set_cons_zero, List.set_cons_succ]
              refine wpQuiet_read (by rfl) (.slice (some ⟨gd, 0, none⟩) dl cd') (fun w' hw' => exec_load_cell 32 (.tmp 193) rfl ((((⟨gG, 0, none⟩ : Addr).add (j * 5)).add 1).add 2) rfl _ Try.underlying32 rfl _ (HGC.out w' hw')) ?_
              simp only [Act.put, List.setIfInBounds_toArray, List.set_cons_zero, List.set_cons_succ]
              refine wpQuiet_value (by rfl) (.slice (some ad) k cap) (fun _ => by kernel_rfl) ?_
              simp only [Act.put, List.setIfInBounds_toArray, List.set_cons_zero, List.set_cons_succ]
              refine wpQuiet_value (by rfl) (.int .i64 (j : Int)) (fun _ => by kernel_rfl) ?_
              simp only [Act.put, List.setIfInBounds_toArray, List.set_cons_zero, List.set_cons_succ]
              refine wpQuiet_value (by rfl) (.pointer (some ((ad.add (j * 5))))) (fun _ => exec_ats 23 36 5 (.tmp 195) (.tmp 196) rfl Try.underlying23 size36 ad k cap j rfl rfl hlt) ?_
              simp only [Act.put, List.setIfInBounds_toArray, List.set_cons_zero, List.set_cons_succ]
              refine wpQuiet_value (by rfl) (.pointer (some ((ad.add (j * 5)).add 1))) (fun _ => by kernel_rfl) ?_
              simp only [Act.put, List.setIfInBounds_toArray, List.set_cons_zero, List.set_cons_succ]
              refine wpQuiet_value (by rfl) (.pointer (some (((ad.add (j * 5)).add 1).add 2))) (fun _ => by kernel_rfl) ?_
              simp only [Act.put, List.setIfInBounds_toArray, List.set_cons_zero, List.set_cons_succ]
              refine wpQuiet_read (by rfl) (.slice Ad dl cd) (fun w' hw' => exec_load_cell 32 (.tmp 199) rfl (((ad.add (j * 5)).add 1).add 2) rfl _ Try.underlying32 rfl _ (HSC.out w' hw')) ?_
              simp only [Act.put, List.setIfInBounds_toArray, List.set_cons_zero, List.set_cons_succ]
              refine wpQuiet_nil ?_
              intro w9 hc9
              have HC9 : Hid (Ch No w3 w9) := (HC.out.then_ HC8.out).then_ hc9
              have HGE9 := Lib.hid (HGE.out.keepNo (HC8.out.then_ hc9))
              have HLQ9 := Lib.hid (HLQ.out.keepNo (HC8.out.then_ hc9))
              clear hc9 HGC HSC HG HC7 HC8 HGE HLQ HC
              obtain ⟨rs9, hn9, hb9, hr9, hk9, hm9, hv9, hge9⟩ := HGE9.out.data hlt HSJ.out HVD.out
              have HB9 := Lib.hid hb9
              have HGX9 := Lib.hid hge9
              have hlow9 : gd < w5.heap.size := HLOW.out _ _ _ hv9 rfl
              have HLW9 := Lib.hid hlow9
              have hleft := left_any (w := w9) (m := dl) (c := cd) (B := Ad) (ys := data) hn9 HDL.out.symm (by have := HDL.out; omega) hk9 hm9 rfl hr9 (HDAT.out.keepNo HC9.out)
              simp only [decide_true] at hleft
              have HLEFT := Lib.hid hleft
              clear hn9 hb9 hr9 hk9 hm9 hv9 hge9 hlow9 hleft
              go_wp2_with (fail)
              refine HLEFT.out.mono ?_
              rintro e w10 ⟨rfl, hc10, -⟩
              have HGE10 := Lib.hid (HGX9.out w10 hc10)
              have HC10 : Hid (Ch No w3 w10) := ch_newg HC9.out hc10 HB9.out
              have HLQ10 := Lib.hid (HLQ9.out.keepLow hc10 HLW9.out)
              clear hc10 HLEFT HGX9 HGE9 HLQ9 HC9 HB9 HLW9
              go_wp2_with (fail)
              go_loopw [19, 20] (fun b i wx => ∃ x : Nat, x ≤ ql ∧ b = .bool true ∧ i = .int .i64 x ∧ Hid (Ge wx w3.heap.size gG k ss c ((allV c j).length + 1 + x)) ∧ Hid (Ch No w3 wx) ∧ Hid (LoadQ w5.heap.size wx part qs ls (.returned (.tuple #[.pointer (some ⟨G, 0, none⟩), .int .i64 0])))) (fun _ i _ => ql - (intOf i).toNat)
              case atStart => exact ⟨0, Nat.zero_le _, rfl, rfl, HGE10, HC10, HLQ10⟩
              case round =>
                clear HGE10 HC10 HLQ10
                obtain ⟨x, hx, rfl, rfl, HGE, HC, HLQ⟩ := hrel
                have hclr := HCL.out.keepNo HC.out
                have z0 := hclr.first rfl
                clear hclr
                by_cases hlx : x < ql
                · have e2 := lt_t hlx
                  obtain ⟨xs, hxs⟩ : ∃ xs, q[x]? = some xs := ⟨_, List.getElem?_eq_getElem (by have := HQL.out; omega)⟩
                  obtain ⟨mm, hmm⟩ : ∃ mm, ms0[x]? = some mm := ⟨_, List.getElem?_eq_getElem (by have := HM0.out; have := HQL.out; omega)⟩
                  obtain ⟨aq, rfl, hcq⟩ := HQC.out x mm hmm
                  obtain ⟨Am, cm, rfl, hcx, hlx2⟩ := HQS.out x mm xs hmm hxs
                  obtain ⟨gm, cm', rs, hms, hgb, -, -, -, hxl, hvx, -⟩ := HGE.out.list hlt HSJ.out hxs
                  obtain ⟨gu, rfl, -, -⟩ : ∃ gu, Au = some ⟨gu, 0, none⟩ ∧ True ∧ True := by
                    have ho := HGE.out.q j hlt
                    rw [HML'.out, HVQ.out] at ho
                    obtain ⟨g, e, -, -⟩ := own_cell1 ho hms
                    exact ⟨g, e, trivial, trivial⟩
                  obtain ⟨xl, hxll⟩ : ∃ l, xs.length = l := ⟨_, rfl⟩
                  have HQM : Hid (∀ w', Ch No wr w' → w'.cell? ((⟨gu, 0, none⟩ : Addr).add x) = some (.slice (some ⟨gm, 0, none⟩) xl cm')) := fun w' hc => by
                    have ho := (HGE.out.keepNo hc).q j hlt
                    rw [HML'.out, HVQ.out] at ho
                    have h := (own_cell1g ho hms).2
                    rw [hxll] at h
                    rw [add_lit, Nat.zero_add]
                    exact h
                  have HQN : Hid (∀ w', Ch No wr w' → w'.cell? (aq.add x) = some (.slice Am xl cm)) := fun w' hc => by
                    rw [← hxll]
                    exact (HC.out.then_ hc).cell (not_no _) hcq
                  have HGC : Hid (∀ w', Ch No wr w' → w'.cell? (((⟨gG, 0, none⟩ : Addr).add (j * 5)).add 0) = some (.slice (some ⟨gu, 0, none⟩) ql cu)) := fun w' hc => by
                    have h := (HGE.out.keepNo hc).cell hlt 0 (by decide)
                    rw [HSJ.out] at h
                    simp only [scell, HVQ.out, List.getElem?_cons_zero, Nat.add_zero] at h
                    rw [add_lit, add_lit, Nat.zero_add, Nat.add_zero]
                    exact h
                  have HSC : Hid (∀ w', Ch No wr w' → w'.cell? ((ad.add (j * 5)).add 0) = some (.slice (some aq) ql cq)) := fun w' hc => by
                    obtain ⟨ad', e, h⟩ := (HCL.out.keepNo (HC.out.then_ hc)) 0 _ rfl
                    cases e
                    exact h
                  have HXS := Lib.hid hxs
                  have HXL := Lib.hid hxll
                  have HCX : Hid (Cl w3 Am (ints xs)) := hcx
                  have HMS := Lib.hid hms
                  have HXB := Lib.hid hxl
                  have hxl2 := hxl
                  rw [hxll] at hxl2
                  clear hxs hmm hcq hcx hms hgb hxl hvx hxll hlx2
                  go_upto_region 31 with (fail)
                  clear z0
                  refine wp_region_quiet_tail 18 (by kernel_rfl) (by kernel_rfl) (fun w' => Ch No wr w') ((Ch.refl _ _).drew) ?_
                  simp only [List.take_succ_cons, List.take_zero, List.drop_succ_cons, List.drop_zero]
                  refine wpQuiet_value (by rfl) (.bool true) (fun _ => by kernel_rfl) ?_
                  simp only [Act.put, List.setIfInBounds_toArray, List.set_cons_zero, List.set_cons_succ]
                  refine wpQuiet_value (by rfl) (.bool true) (fun _ => by kernel_rfl) ?_
                  simp only [Act.put, List.setIfInBounds_toArray, List.set_cons_zero, List.set_cons_succ]
                  refine wpQuiet_value (by rfl) (.slice (some ⟨gG, 0, none⟩) k cG) (fun _ => by kernel_rfl) ?_
                  simp only [Act.put, List.setIfInBounds_toArray, List.set_cons_zero, List.set_cons_succ]
                  refine wpQuiet_value (by rfl) (.int .i64 (j : Int)) (fun _ => by kernel_rfl) ?_
                  simp only [Act.put, List.setIfInBounds_toArray, List.set_cons_zero, List.set_cons_succ]
                  refine wpQuiet_value (by rfl) (.pointer (some (((⟨gG, 0, none⟩ : Addr).add (j * 5))))) (fun _ => exec_ats 23 36 5 (.tmp 214) (.tmp 215) rfl Try.underlying23 size36 ⟨gG, 0, none⟩ k cG j rfl rfl hlt) ?_
                  simp only [Act.put, List.setIfInBounds_toArray, List.set_cons_zero, List.set_cons_succ]
                  refine wpQuiet_value (by rfl) (.pointer (some (((⟨gG, 0, none⟩ : Addr).add (j * 5)).add 0))) (fun _ => by kernel_rfl) ?_
                  simp only [Act.put, List.setIfInBounds_toArray, List.set_cons_zero, List.set_cons_succ]
                  refine wpQuiet_read (by rfl) (.slice (some ⟨gu, 0, none⟩) ql cu) (fun w' hw' => exec_load_cell 31 (.tmp 217) rfl (((⟨gG, 0, none⟩ : Addr).add (j * 5)).add 0) rfl _ Try.underlying31 rfl _ (HGC.out w' hw')) ?_
                  simp only [Act.put, List.setIfInBounds_toArray, List.set_cons_zero, List.set_cons_succ]
                  refine wpQuiet_value (by rfl) (.int .i64 (x : Int)) (fun _ => by kernel_rfl) ?_
                  simp only [Act.put, List.setIfInBounds_toArray, List.set_cons_zero, List.set_cons_succ]
                  refine wpQuiet_value (by rfl) (.pointer (some ((⟨gu, 0, none⟩ : Addr).add x))) (fun _ => exec_at 31 32 (.tmp 218) (.tmp 219) rfl Try.underlying31 size32 ⟨gu, 0, none⟩ ql cu x rfl rfl hlx) ?_
                  simp only [Act.put, List.setIfInBounds_toArray, List.set_cons_zero, List.set_cons_succ]
                  refine wpQuiet_read (by rfl) (.slice (some ⟨gm, 0, none⟩) xl cm') (fun w' hw' => exec_load_cell 32 (.tmp 220) rfl ((⟨gu, 0, none⟩ : Addr).add x) rfl _ Try.underlying32 rfl _ (HQM.out w' hw')) ?_
                  simp only [Act.put, List.setIfInBounds_toArray, List.set_cons_zero, List.set_cons_succ]
                  refine wpQuiet_value (by rfl) (.slice (some ad) k cap) (fun _ => by kernel_rfl) ?_
                  simp only [Act.put, List.setIfInBounds_toArray, List.set_cons_zero, List.set_cons_succ]
                  refine wpQuiet_value (by rfl) (.int .i64 (j : Int)) (fun _ => by kernel_rfl) ?_
                  simp only [Act.put, List.setIfInBounds_toArray, List.set_cons_zero, List.set_cons_succ]
                  refine wpQuiet_value (by rfl) (.pointer (some ((ad.add (j * 5))))) (fun _ => exec_ats 23 36 5 (.tmp 222) (.tmp 223) rfl Try.underlying23 size36 ad k cap j rfl rfl hlt) ?_
                  simp only [Act.put, List.setIfInBounds_toArray, List.set_cons_zero, List.set_cons_succ]
                  refine wpQuiet_value (by rfl) (.pointer (some ((ad.add (j * 5)).add 0))) (fun _ => by kernel_rfl) ?_
                  simp only [Act.put, List.setIfInBounds_toArray, List.set_cons_zero, List.set_cons_succ]
                  refine wpQuiet_read (by rfl) (.slice (some aq) ql cq) (fun w' hw' => exec_load_cell 31 (.tmp 225) rfl ((ad.add (j * 5)).add 0) rfl _ Try.underlying31 rfl _ (HSC.out w' hw')) ?_
                  simp only [Act.put, List.setIfInBounds_toArray, List.set_cons_zero, List.set_cons_succ]
                  refine wpQuiet_value (by rfl) (.int .i64 (x : Int)) (fun _ => by kernel_rfl) ?_
                  simp only [Act.put, List.setIfInBounds_toArray, List.set_cons_zero, List.set_cons_succ]
                  refine wpQuiet_value (by rfl) (.pointer (some (aq.add x))) (fun _ => exec_at 31 32 (.tmp 226) (.tmp 227) rfl Try.underlying31 size32 aq ql cq x rfl rfl hlx) ?_
                  simp only [Act.put, List.setIfInBounds_toArray, List.set_cons_zero, List.set_cons_succ]
                  refine wpQuiet_read (by rfl) (.slice Am xl cm) (fun w' hw' => exec_load_cell 32 (.tmp 228) rfl (aq.add x) rfl _ Try.underlying32 rfl _ (HQN.out w' hw')) ?_
                  simp only [Act.put, List.setIfInBounds_toArray, List.set_cons_zero, List.set_cons_succ]
                  refine wpQuiet_nil ?_
                  intro w11 hc11
                  have HC11 : Hid (Ch No w3 w11) := HC.out.then_ hc11
                  have HGE11 := Lib.hid (HGE.out.keepNo hc11)
                  have HLQ11 := Lib.hid (HLQ.out.keepNo hc11)
                  clear hc11 HGC HSC HQM HQN HGE HLQ HC
                  obtain ⟨g', c', rs', hms', hb', hr', hk', hm', -, hv', hge'⟩ := HGE11.out.list hlt HSJ.out HXS.out
                  have hms2 := HMS.out
                  rw [hms'] at hms2
                  simp only [Option.some.injEq, Value.slice.injEq, Addr.mk.injEq, and_true] at hms2
                  obtain ⟨rfl, _, rfl⟩ := hms2
                  have HB9 := Lib.hid hb'
                  have HGX9 := Lib.hid hge'
                  have hlow9 : g' < w5.heap.size := HLOW.out _ _ _ hv' rfl
                  have HLW9 := Lib.hid hlow9
                  have hk2 : xl + 70 ≤ c' := by rw [← HXL.out]; exact hk'
                  have hleft := left_any (w := w11) (m := xl) (c := cm) (B := Am) (ys := xs) HXL.out.symm HXL.out.symm HXB.out hk2 hm' rfl hr' (HCX.out.keepNo HC11.out)
                  simp only [decide_true] at hleft
                  have HLEFT := Lib.hid hleft
                  clear hms' hb' hr' hk' hm' hv' hge' hlow9 hleft hk2
                  go_wp2_with (fail)
                  refine HLEFT.out.mono ?_
                  rintro e w12 ⟨rfl, hc12, -⟩
                  have HGE12 := Lib.hid (HGX9.out w12 hc12)
                  have HC12 : Hid (Ch No w3 w12) := ch_newg HC11.out hc12 HB9.out
                  have HLQ12 := Lib.hid (HLQ11.out.keepLow hc12 HLW9.out)
                  clear hc12 HLEFT HGX9 HGE11 HLQ11 HC11 HB9 HLW9
                  go_wp2_with (fail)
                  exact ⟨⟨x + 1, by omega, rfl, by go_num, HGE12, HC12, HLQ12⟩, by simp [intOf]; omega⟩
                · have e2 := lt_f hlx
                  obtain rfl : x = ql := by omega
                  have HGEN := Lib.hid (HGE.out.end_ HML'.out)
                  have hjm := HML.out
                  go_wp2_with (fail)
                  exact ⟨⟨j + 1, by omega, by go_num, HGEN, HC, HLQ⟩, by simp [intOf]; omega⟩
            · have e1 := lt_f hlt
              obtain rfl : j = k := by omega
              obtain ⟨M', f', E', cc', sp', hpo', ht'⟩ := HLQ.out.told
              have HTD := Lib.hid (told_calls hpo' (Nat.le_trans HF.out.1 (by decide)) (HWL.out.keepNo HC.out) ht')
              go_wp2_with (fail)
              refine HTD.out.mono ?_
              rintro e w12 ⟨rfl, hc12⟩
              have HC12 : Hid (Ch No w w12) := (HC3.out.then_ HC.out).then_ hc12
              clear hc12
              go_wp2
              go_ret
              exact ⟨rfl, HC12.out⟩
end Go.Proofs.Ytlokpcbiomjcnaa
