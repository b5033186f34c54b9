/- MemExact: memoryPlaced. -/
import Derived.Test.YtbllpojljdhnoaaD13
set_option linter.unusedVariables false
set_option linter.unusedSimpArgs false
namespace Go.Proofs.Ytbllpojljdhnoaa
open Go.RowKit
theorem take_set_succ (M : List Int) (j : Nat) (e : Int) (h : j < M.length) : (M.set j e).take (j + 1) = M.take j ++ [e] := by
  rw [List.take_succ_eq_append_getElem (by rw [List.length_set]; exact h), List.getElem_set_self, List.take_set_of_le (Nat.le_refl j)]
theorem rd_set (M : List Int) (j : Nat) (e : Int) (h : j < M.length) : rd (M.set j e) j = e := by
  rw [rd_at _ _ (by rw [List.length_set]; exact h), List.getElem_set_self]
structure MP (w wr : World) (vm vx vd : Value) (X D : List Int) : Prop where
  m : Ol w.heap.size wr vm X
  x : Ol w.heap.size wr vx X
  d : Ol w.heap.size wr vd D
  md : ∀ k, vm.ownBlock = some k → ¬ vd.ownBlock = some k
  xd : ∀ k, vx.ownBlock = some k → ¬ vd.ownBlock = some k
  ch : Ch No w wr
theorem MP.keepNo {w wr w' : World} {vm vx vd : Value} {X D : List Int} (h : MP w wr vm vx vd X D) (hc : Ch No wr w') : MP w w' vm vx vd X D := ⟨h.m.keepNo hc, h.x.keepNo hc, h.d.keepNo hc, h.md, h.xd, h.ch.then_ hc⟩
theorem Ol.lt {b : Nat} {w : World} {v : Value} {xs : List Int} (h : Ol b w v xs) {k : Nat} (hk : v.ownBlock = some k) : k < w.heap.size := by
  obtain ⟨L, hL⟩ := h.own_row hk
  exact hL.lt
theorem may_all (n : Nat) : may n 0 0 n = true := by unfold may; simp
theorem rdl_all (xs : List Int) : rdl xs 0 xs.length = xs := by
  unfold rdl
  rw [may_all]
  simp
theorem bytes_ok {n : Nat} (h : n ≤ 10000000) : (0 + n) * 8 ≤ 140737488355328 := by omega
theorem ch_own_new {w wr w' : World} {v : Value} {xs : List Int} (hc : Ch No w wr) (h : Ol w.heap.size wr v xs) (k : Ch (OwnB v) wr w') : Ch No w w' := hc.trans k (fun i hi e => by
  have := h.own i e
  omega)
set_option maxHeartbeats 8000000 in
set_option maxRecDepth 100000 in
theorem placedM_calls {w : World} {vw vd : Value} {X D : List Int} (hX : Sl w vw X) (hD : Sl w vd D) (hx : X.length ≤ 4096) (addr : Int) :
    Calls Try.prog 27 #[vw, .int .i64 addr, vd] w fun e w' => e = .returned (.bool true) ∧ Ch No w w' := by
  obtain ⟨A, ca, rfl, hA, hxl⟩ := hX
  obtain ⟨B, cb, rfl, hB, hdl⟩ := hD
  have HA := Lib.hid hA
  have HB := Lib.hid hB
  have HX := Lib.hid hx
  have HXL := Lib.hid hxl
  have HDL := Lib.hid hdl
  have HBX : Hid ((([] : List Value).length + X.length) * 8 ≤ 140737488355328) := by show _ ≤ _; simp; omega
  have HBD : Hid ((([] : List Value).length + D.length) * 8 ≤ 140737488355328) := by show _ ≤ _; simp; omega
  clear hA hB hx
  go_enter Try.func27, Try.ntmps27
  go_upto_region 3 with ((with_reducible refine at_op (o := ⟨some 28, .call { callee := .builtin .append, args := #[.tmp 26, .tmp 27], argTypes := #[22, 22] }, _, _, _, _⟩) ?_); refine wpList_append_to rfl (.tmp 26) (.tmp 27) 22 rfl w.heap.size 2 (.int .i64 0) 8 Try.underlying22 info2 rfl (.slice none 0 0) [] rfl _ _ _ (ints X) rfl (owns_nil _ _ _ _) (ints_length _) HA.out (ints_one _) HBX.out (by omega) (Nat.le_refl _) ?_; intro v1 w1 ho hg hat; rw [List.nil_append] at ho; have HOv1 : Hid (Ol w.heap.size w1 v1 X) := ⟨ho, HXL.out⟩; have HCv1 : Hid (Ch No w w1) := (Ch.of_grownBy hg).no (fun k _ hk => by simp [Value.ownBlock] at hk); clear ho hg hat)
  have HA1 := Lib.hid (HA.out.keepNo HCv1.out)
  go_upto_region 4 with ((with_reducible refine at_op (o := ⟨some 31, .call { callee := .builtin .append, args := #[.tmp 29, .tmp 30], argTypes := #[22, 22] }, _, _, _, _⟩) ?_); refine wpList_append_to rfl (.tmp 29) (.tmp 30) 22 rfl w1.heap.size 2 (.int .i64 0) 8 Try.underlying22 info2 rfl (.slice none 0 0) [] rfl _ _ _ (ints X) rfl (owns_nil _ _ _ _) (ints_length _) HA1.out (ints_one _) HBX.out (by omega) (Nat.le_refl _) ?_; intro v2 w2 ho hg hat; rw [List.nil_append] at ho; have HOv2 : Hid (Ol w1.heap.size w2 v2 X) := ⟨ho, HXL.out⟩; have HCv2 : Hid (Ch No w1 w2) := (Ch.of_grownBy hg).no (fun k _ hk => by simp [Value.ownBlock] at hk); clear ho hg hat)
  have HB1 := Lib.hid ((HB.out.keepNo HCv1.out).keepNo HCv2.out)
  go_upto_region 5 with ((with_reducible refine at_op (o := ⟨some 34, .call { callee := .builtin .append, args := #[.tmp 32, .tmp 33], argTypes := #[22, 22] }, _, _, _, _⟩) ?_); refine wpList_append_to rfl (.tmp 32) (.tmp 33) 22 rfl w2.heap.size 2 (.int .i64 0) 8 Try.underlying22 info2 rfl (.slice none 0 0) [] rfl _ _ _ (ints D) rfl (owns_nil _ _ _ _) (ints_length _) HB1.out (ints_one _) HBD.out (by omega) (Nat.le_refl _) ?_; intro v3 w3 ho hg hat; rw [List.nil_append] at ho; have HOv3 : Hid (Ol w2.heap.size w3 v3 D) := ⟨ho, HDL.out⟩; have HCv3 : Hid (Ch No w2 w3) := (Ch.of_grownBy hg).no (fun k _ hk => by simp [Value.ownBlock] at hk); clear ho hg hat)
  have HM : Hid (MP w w3 v1 v2 v3 X D) := by
    have s1 := HCv1.out.size
    have s2 := HCv2.out.size
    refine ⟨(HOv1.out.keepNo HCv2.out).keepNo HCv3.out, (HOv2.out.keepNo HCv3.out).low s1, HOv3.out.low (by omega), fun k h1 h3 => ?_, fun k h1 h3 => ?_, (HCv1.out.then_ HCv2.out).then_ HCv3.out⟩
    · have := HOv1.out.lt h1
      have := HOv3.out.own k h3
      omega
    · have := HOv2.out.lt h1
      have := HOv3.out.own k h3
      omega
  clear HA HB HA1 HB1 HCv1 HCv2 HCv3 HOv1 HOv2 HOv3
  obtain ⟨n, hn⟩ : ∃ n, n = X.length := ⟨_, rfl⟩
  obtain ⟨dl, hdn⟩ : ∃ dl, dl = D.length := ⟨_, rfl⟩
  obtain ⟨Am, cm, hvm⟩ := own_form HM.out.m.1
  obtain ⟨Ad, cd, hvd⟩ := own_form HM.out.d.1
  rw [ints_length, ← hn] at hvm
  rw [ints_length, ← hdn] at hvd
  subst hvm hvd
  have HN : Hid (X.length = n) := hn.symm
  have HDN : Hid (D.length = dl) := hdn.symm
  have hn4 : n ≤ 4096 := by rw [hn]; exact HX.out
  have hd7 : dl ≤ 10000000 := by rw [hdn]; exact hdl
  clear hn hdn HX HXL HDL HBX HBD hxl hdl
  go_wp2_with (fail)
  go_loopw [8, 10] (fun vx k wr => ∃ (q : Nat) (X D : List Int), q ≤ 2 ∧ k = .int .i64 q ∧ Hid (X.length = n) ∧ Hid (D.length = dl) ∧ Hid (MP w wr (.slice Am n cm) vx (.slice Ad dl cd) X D)) (fun _ k _ => 2 - (intOf k).toNat)
  case atStart => exact ⟨0, X, D, by omega, rfl, HN, HDN, HM⟩
  case round =>
    clear HN HDN HM
    obtain ⟨q, X1, D1, hq, rfl, HN, HDN, HM⟩ := hrel
    by_cases hlt : q < 2
    · have d0 := decide_lt_t (show (q : Int) < 2 by omega)
      go_upto_region 8 with (fail)
      have hnc : n ≤ cm := by
        rcases ol_open HM.out.m with ⟨e, hX0⟩ | ⟨g, cap, rest, e, _, _, hl, _⟩
        · simp only [Value.slice.injEq] at e
          omega
        · simp only [Value.slice.injEq] at e
          omega
      have H18 : Hid (Calls Try.prog 18 #[.slice Am n cm, .int .i64 0, .int .i64 (n : Int)] wr fun e w' => ∃ v', e = .returned (.tuple #[v', .bool true]) ∧ Fl wr.heap.size w' v' X1 ∧ Ch No wr w') := by
        obtain ⟨A', c', e, hcl, hl⟩ := HM.out.m.sl
        simp only [Value.slice.injEq] at e
        obtain ⟨rfl, _, rfl⟩ := e
        have := mread_calls Am cm 0 (X1.length : Int) X1 wr hl (by have := HN.out; omega) hcl
        rw [may_all, rdl_all] at this
        rw [← HN.out]
        exact this
      have HLD : Hid (∃ lv lb, (∀ w', Ch No wr w' → Calls Try.prog 21 #[u8, .int .i64 addr] w' fun e w2 => e = .returned (.tuple #[.int .i64 lv, .bool lb]) ∧ w' = w2) ∧ ∀ w', Ch No wr w' → Calls Try.prog 19 #[.slice Am n cm, .int .i64 addr] w' fun e w2 => e = .returned (.tuple #[.int .i64 lv, .bool lb]) ∧ w' = w2) := ⟨ldv X1 addr, may X1.length 0 addr 1, fun w' hw => rload_calls (HM.out.keepNo hw).x.sl addr, fun w' hw => load_calls (HM.out.keepNo hw).m.sl (fun A c e => by
        simp only [Value.slice.injEq] at e
        have := HN.out
        omega) addr⟩
      obtain ⟨lv, lb, h21, h19⟩ := HLD.out
      have H21 := Lib.hid h21
      have H19 := Lib.hid h19
      clear h21 h19 HLD
      obtain ⟨Y, hY⟩ : ∃ Y, Y = wri X1 0 addr [7] := ⟨_, rfl⟩
      have HYE := Lib.hid hY
      have HYL : Hid (Y.length = n) := by show _ = _; rw [hY, wri_length]; exact HN.out
      obtain ⟨sb, hsb⟩ : ∃ sb, sb = may X1.length 0 addr 1 := ⟨_, rfl⟩
      have HSB := Lib.hid hsb
      clear hY hsb
      go_wp2_with (fail)
      refine H18.out.mono ?_
      rintro e wa ⟨va, rfl, hfa, hca⟩
      have HFA := Lib.hid hfa
      have HCA := Lib.hid hca
      clear hfa hca H18
      go_wp2_with (fail)
      refine (same_self HFA.out.ol.sl (HM.out.keepNo HCA.out).x.sl).mono ?_
      rintro e wb ⟨rfl, hcb⟩
      have HCB := Lib.hid (HCA.out.then_ hcb)
      clear hcb HFA HCA
      go_wp2_with (fail)
      refine (H21.out wb HCB.out).mono ?_
      rintro e w' ⟨rfl, rfl⟩
      go_wp2_with (fail)
      refine (H19.out wb HCB.out).mono ?_
      rintro e w' ⟨rfl, rfl⟩
      have HMB := Lib.hid (HM.out.keepNo HCB.out)
      clear H21 H19 HM HCB
      go_wp2_with (fail)
      refine (rstore_calls HMB.out.x.sl 0 addr 7).mono ?_
      rintro e wc ⟨vy, rfl, hoy, hcc⟩
      rw [← HYE.out] at hoy
      rw [← HSB.out]
      have HOY := Lib.hid hoy
      have HMC := Lib.hid (HMB.out.keepNo hcc)
      have HYM : Hid (∀ k, vy.ownBlock = some k → ¬ (Value.slice Am n cm).ownBlock = some k) := fun k h1 h2 => by
        have := HOY.out.own k h1
        have := HMB.out.m.lt h2
        omega
      clear hoy hcc HMB
      go_wp2_with (fail)
      refine (mstoreO HMC.out.m 0 addr 7).mono ?_
      rintro e wd ⟨rfl, hom, hcd⟩
      rw [← HYE.out] at hom
      rw [← HSB.out]
      have HOM := Lib.hid hom
      have HOY2 := Lib.hid (HOY.out.keepD hcd HYM.out)
      have HOD := Lib.hid (HMC.out.d.keepD hcd (fun k h1 h2 => HMC.out.md k h2 h1))
      have HCD : Hid (Ch No w wd) := ch_own_new HMC.out.ch HMC.out.m hcd
      have HMD := Lib.hid HMC.out.md
      clear hom hcd HOY HMC HYE
      go_wp2_with (fail)
      refine (same_self HOM.out.sl HOY2.out.sl).mono ?_
      rintro e we ⟨rfl, hce⟩
      have HOM3 := Lib.hid (HOM.out.keepNo hce)
      have HOY3 := Lib.hid (HOY2.out.keepNo hce)
      have HOD3 := Lib.hid (HOD.out.keepNo hce)
      have HCE := Lib.hid (HCD.out.then_ hce)
      clear hce HOM HOY2 HOD HCD
      obtain ⟨A9, c9, e9, hcl9, _⟩ := HOD3.out.sl
      simp only [Value.slice.injEq] at e9
      obtain ⟨rfl, -, -⟩ := e9
      have HCL := Lib.hid hcl9
      have HDI : Hid ((ints D1).length = dl) := by show _ = _; rw [ints_length]; exact HDN.out
      have HBD : Hid ((([] : List Value).length + dl) * 8 ≤ 140737488355328) := by show _ ≤ _; simp; omega
      have HDX : Hid (D1.length ≤ 10000000) := by show _ ≤ _; rw [HDN.out]; exact hd7
      clear hcl9
      go_upto_region 19 with ((with_reducible refine at_op (o := ⟨some 96, .call { callee := .builtin .append, args := #[.tmp 94, .tmp 95], argTypes := #[22, 22] }, _, _, _, _⟩) ?_); refine wpList_append_to rfl (.tmp 94) (.tmp 95) 22 rfl we.heap.size 2 (.int .i64 0) 8 Try.underlying22 info2 rfl (.slice none 0 0) [] rfl _ _ _ (ints D1) rfl (owns_nil _ _ _ _) HDI.out HCL.out (ints_one _) HBD.out (by omega) (Nat.le_refl _) ?_; intro vn wf ho hg hat; rw [List.nil_append] at ho; have HOvn : Hid (Ol we.heap.size wf vn D1) := ⟨ho, HDX.out⟩; have HCvn : Hid (Ch No we wf) := (Ch.of_grownBy hg).no (fun k _ hk => by simp [Value.ownBlock] at hk); clear ho hg hat)
      have HOM4 := Lib.hid (HOM3.out.keepNo HCvn.out)
      have HOY4 := Lib.hid (HOY3.out.keepNo HCvn.out)
      have HOD4 := Lib.hid (HOD3.out.keepNo HCvn.out)
      have HCF := Lib.hid (HCE.out.then_ HCvn.out)
      have HNM : Hid (∀ k, vn.ownBlock = some k → ¬ (Value.slice Am n cm).ownBlock = some k) := fun k h1 h2 => by
        have := HOvn.out.own k h1
        have := HOM3.out.lt h2
        omega
      have HND : Hid (∀ k, vn.ownBlock = some k → ¬ (Value.slice Ad dl cd).ownBlock = some k) := fun k h1 h2 => by
        have := HOvn.out.own k h1
        have := HOD3.out.lt h2
        omega
      clear HOM3 HOY3 HOD3 HCE HCvn HCL HBD HDI
      obtain ⟨Z, hZ⟩ : ∃ Z, Z = wri Y 0 addr D1 := ⟨_, rfl⟩
      have HZE := Lib.hid hZ
      have HZL : Hid (Z.length = n) := by show _ = _; rw [hZ, wri_length]; exact HYL.out
      obtain ⟨zb, hzb⟩ : ∃ zb, zb = may Y.length 0 addr D1.length := ⟨_, rfl⟩
      have HZB := Lib.hid hzb
      clear hZ hzb
      go_wp2_with (fail)
      refine (rwrite_calls HOY4.out.sl HOvn.out.sl 0 addr).mono ?_
      rintro e wg ⟨vz, rfl, hoz, hcg⟩
      rw [← HZE.out] at hoz
      rw [← HZB.out]
      have HOZ := Lib.hid hoz
      have HOM5 := Lib.hid (HOM4.out.keepNo hcg)
      have HOD5 := Lib.hid (HOD4.out.keepNo hcg)
      have HON5 := Lib.hid (HOvn.out.keepNo hcg)
      have HCG := Lib.hid (HCF.out.then_ hcg)
      have HZM : Hid (∀ k, vz.ownBlock = some k → ¬ (Value.slice Am n cm).ownBlock = some k) := fun k h1 h2 => by
        have := HOZ.out.own k h1
        have := HOM4.out.lt h2
        omega
      clear hoz hcg HOM4 HOY4 HOD4 HOvn HCF
      go_wp2_with (fail)
      refine (mwriteO HOM5.out HOD5.out.sl 0 addr).mono ?_
      rintro e wh ⟨rfl, hom, hch⟩
      rw [← HZE.out] at hom
      rw [← HZB.out]
      have HOM6 := Lib.hid hom
      have HOZ6 := Lib.hid (HOZ.out.keepD hch HZM.out)
      have HON6 := Lib.hid (HON5.out.keepD hch HNM.out)
      have HOD6 := Lib.hid (HOD5.out.keepD hch (fun k h1 h2 => HMD.out k h2 h1))
      have HCH : Hid (Ch No w wh) := ch_own_new HCG.out HOM5.out hch
      clear hom hch HOM5 HOD5 HON5 HCG HOZ
      go_wp2_with (fail)
      refine (same_self HOM6.out.sl HOZ6.out.sl).mono ?_
      rintro e wi ⟨rfl, hci⟩
      have HOM7 := Lib.hid (HOM6.out.keepNo hci)
      have HON7 := Lib.hid (HON6.out.keepNo hci)
      have HOD7 := Lib.hid (HOD6.out.keepNo hci)
      have HCI := Lib.hid (HCH.out.then_ hci)
      clear hci HOM6 HOZ6 HON6 HOD6 HCH
      go_wp2_with (fail)
      refine (same_self HOD7.out.sl HON7.out.sl).mono ?_
      rintro e wj ⟨rfl, hcj⟩
      have HOM8 := Lib.hid (HOM7.out.keepNo hcj)
      have HOD8 := Lib.hid (HOD7.out.keepNo hcj)
      have HCJ := Lib.hid (HCI.out.then_ hcj)
      clear hcj HOM7 HON7 HOD7 HCI HNM HND HZM HYM HSB HZB HYL HZE
      go_wp2_with (fail)
      go_loopw [8, 24] (fun vx k wr => ∃ (j : Nat) (M : List Int), j ≤ n ∧ k = .int .i64 j ∧ Hid (M.length = n) ∧ Hid (Ol w.heap.size wr (.slice Am n cm) M) ∧ Hid (Ol wj.heap.size wr vx (M.take j)) ∧ Hid (Ol w.heap.size wr (.slice Ad dl cd) D1) ∧ Hid (Ch No w wr) ∧ Hid (wj.heap.size ≤ wr.heap.size)) (fun _ k _ => n - (intOf k).toNat)
      case atStart => exact ⟨0, Z, Nat.zero_le _, rfl, HZL, HOM8, ⟨owns_nil _ _ _ _, by simp⟩, HOD8, HCJ, Nat.le_refl _⟩
      case round =>
        obtain ⟨j, M, hj, rfl, HML, HOM, HOX, HOD, HC, HSZ⟩ := hrel
        by_cases hlj : j < n
        · have d1 := decide_lt_t (show (j : Int) < (n : Int) by omega)
          obtain ⟨gm, c', eM, hbm, hcell, hfr⟩ := HOM.out.at_ j (by rw [HML.out]; exact hlj)
          rw [HML.out] at eM
          simp only [Value.slice.injEq] at eM
          obtain ⟨rfl, -, rfl⟩ := eM
          go_upto_region 28 with (fail)
          have HSET : Hid (∀ e : Int, Ol w.heap.size (wr.setCell ⟨gm, j, none⟩ (.int .i64 e)) (.slice (some ⟨gm, 0, none⟩) n cm) (M.set j e) ∧ Ol wj.heap.size (wr.setCell ⟨gm, j, none⟩ (.int .i64 e)) u8 (M.take j) ∧ Ol w.heap.size (wr.setCell ⟨gm, j, none⟩ (.int .i64 e)) (.slice Ad dl cd) D1 ∧ Ch No w (wr.setCell ⟨gm, j, none⟩ (.int .i64 e)) ∧ wj.heap.size ≤ (wr.setCell ⟨gm, j, none⟩ (.int .i64 e)).heap.size) := fun e => by
            have hc : Ch (Is gm) wr (wr.setCell ⟨gm, j, none⟩ (.int .i64 e)) := Ch.setCell (D := Is gm) (p := ⟨gm, j, none⟩) (Ch.refl _ wr) (fun _ => rfl) _
            have hgl : gm < wj.heap.size := HOM8.out.lt (k := gm) rfl
            refine ⟨HOM.out.set j (by rw [HML.out]; exact hlj) e, HOX.out.keepD hc (fun k hk e => ?_), HOD.out.keepD hc (fun k hk e => ?_), HC.out.setNew hbm, ?_⟩
            · have e' : k = gm := e
              have := HOX.out.own k hk
              omega
            · have e' : k = gm := e
              subst e'
              exact HMD.out k rfl hk
            · have := HSZ.out
              simpa using this
          generalize bits BinOp.xor IntKind.i64 (rd M j) 5 = e
          obtain ⟨k1, k2, k3, k4, k5⟩ := HSET.out e
          have K1 := Lib.hid k1
          have K2 := Lib.hid k2
          have K3 := Lib.hid k3
          have K4 := Lib.hid k4
          have K5 := Lib.hid k5
          clear hcell hfr k1 k2 k3 k4 k5 HSET HOM HOX HOD HC HSZ
          generalize wr.setCell ⟨gm, j, none⟩ (.int .i64 e) = wk at *
          have HML2 : Hid ((M.set j e).length = n) := by show _ = _; rw [List.length_set]; exact HML.out
          have hcell : wk.cell? ⟨gm, j, none⟩ = some (.int .i64 e) := by
            obtain ⟨g', c', eM, _, hcell, _⟩ := K1.out.at_ j (by rw [HML2.out]; exact hlj)
            rw [rd_set _ _ _ (by rw [HML.out]; exact hlj)] at hcell
            simp only [Value.slice.injEq, Option.some.injEq, Addr.mk.injEq, and_true] at eM
            rw [eM.1]
            exact hcell
          have HTL : Hid ((ints (M.take j)).length = j) := by show _ = _; rw [ints_length, List.length_take, HML.out]; omega
          have HBY : Hid (((ints (M.take j)).length + 1) * 8 ≤ 140737488355328) := by show _ ≤ _; rw [HTL.out]; omega
          have HBS : Hid (wj.heap.size ≤ (wk.alloc (.cells (ints [e]).toArray 2)).heap.size) := by have := K5.out; show _ ≤ _; simp; omega
          have HOXA : Hid ((wk.alloc (.cells (ints [e]).toArray 2)).ownsRow wj.heap.size 2 1 u8 (ints (M.take j)).length (ints (M.take j))) := owns_keepNo K2.out.1 ((Ch.refl No wk).alloc _)
          have HEND : Hid (∀ v1 w2, World.ownsRow w2 wj.heap.size 2 1 v1 (ints (M.take j) ++ ints [e]).length (ints (M.take j) ++ ints [e]) → (wk.alloc (.cells (ints [e]).toArray 2)).grownBy w2 u8.ownBlock → Ol w.heap.size w2 (.slice (some ⟨gm, 0, none⟩) n cm) (M.set j e) ∧ Ol wj.heap.size w2 v1 ((M.set j e).take (j + 1)) ∧ Ol w.heap.size w2 (.slice Ad dl cd) D1 ∧ Ch No w w2 ∧ wj.heap.size ≤ w2.heap.size) := fun v1 w2 ho hg => by
            have c1 : Ch No wk (wk.alloc (.cells (ints [e]).toArray 2)) := (Ch.refl No wk).alloc _
            have c2 := Ch.of_grownBy hg
            have hj8 : wj.heap.size ≤ wk.heap.size := K5.out
            have hb8 : w.heap.size ≤ wj.heap.size := HCJ.out.size
            refine ⟨(K1.out.keepNo c1).keepD c2 (fun k hk e2 => ?_), ⟨?_, ?_⟩, (K3.out.keepNo c1).keepD c2 (fun k hk e2 => ?_), ?_, ?_⟩
            · have h1 := K2.out.own k e2
              have h2 : gm = k := by simpa [Value.ownBlock] using hk
              have hgl : gm < wj.heap.size := HOM8.out.lt (k := gm) rfl
              omega
            · rw [← ints_append, ← take_set_succ _ _ _ (by rw [HML.out]; exact hlj)] at ho
              exact ho
            · have h1 := HML2.out
              rw [List.length_take]
              omega
            · have h1 := K2.out.own k e2
              have h2 := HOD8.out.lt hk
              omega
            · exact (K4.out.then_ c1).trans c2 (fun i hi e2 => by have := K2.out.own i e2; omega)
            · have h1 := c1.size
              have h2 := c2.size
              omega
          go_wp2_with ((with_reducible refine at_op (o := ⟨some 143, .call { callee := .builtin .append, args := #[.tmp 137, .tmp 142], argTypes := #[22, 22] }, _, _, _, _⟩) ?_); refine wpList_append_to rfl (.tmp 137) (.tmp 142) 22 rfl wj.heap.size 2 (.int .i64 0) 8 Try.underlying22 info2 rfl u8 (ints (M.take j)) rfl _ _ _ (ints [e]) rfl HOXA.out (ints_length _) ((Row.new wk 2 (ints [e])).cl0) (ints_one _) HBY.out (by omega) HBS.out ?_; intro v1 w2 ho2 hg2 hat2; have HW2 := Lib.hid (HEND.out v1 w2 ho2 hg2); clear ho2 hg2 hat2)
          go_roundw
          · exact ⟨j + 1, M.set j e, by omega, by go_num, HML2, HW2.out.1, HW2.out.2.1, HW2.out.2.2.1, HW2.out.2.2.2.1, HW2.out.2.2.2.2⟩
          · simp [intOf]; omega
        · obtain rfl : j = n := by omega
          have d1 : decide ((j : Int) < (j : Int)) = false := by simp
          have HXD : Hid (∀ k, u8.ownBlock = some k → ¬ (Value.slice Ad dl cd).ownBlock = some k) := fun k h1 h2 => by
            have := HOX.out.own k h1
            have := HOD8.out.lt h2
            omega
          have HBJ : Hid (w.heap.size ≤ wj.heap.size) := HCJ.out.size
          have HMX : Hid (∀ k, (Value.slice Am j cm).ownBlock = some k → ¬ (Value.slice Ad dl cd).ownBlock = some k) := HMD.out
          go_wp2_with (fail)
          go_loopw [25] (fun k wr => ∃ (i : Nat) (D : List Int), i ≤ dl ∧ k = .int .i64 i ∧ Hid (D.length = dl) ∧ Hid (MP w wr (.slice Am j cm) u8 (.slice Ad dl cd) M D)) (fun k _ => dl - (intOf k).toNat)
          case atStart => exact ⟨0, D1, Nat.zero_le _, rfl, HDN, ⟨HOM.out, by have h := HOX.out; rw [List.take_of_length_le (by have := HML.out; omega)] at h; exact h.low HBJ.out, HOD.out, HMX.out, HXD.out, HC.out⟩⟩
          case round =>
            clear HOM HOX HOD HC
            obtain ⟨i, D2, hi, rfl, HDL2, HP⟩ := hrel
            by_cases hli : i < dl
            · have d2 := decide_lt_t (show (i : Int) < (dl : Int) by omega)
              obtain ⟨gd, c', eM, hbd, hcell, hfr⟩ := HP.out.d.at_ i (by rw [HDL2.out]; exact hli)
              rw [HDL2.out] at eM
              simp only [Value.slice.injEq] at eM
              obtain ⟨rfl, -, rfl⟩ := eM
              have HEND : Hid (∀ e : Int, MP w (wr.setCell ⟨gd, i, none⟩ (.int .i64 e)) (.slice Am j cm) u8 (.slice (some ⟨gd, 0, none⟩) dl cd) M (D2.set i e)) := fun e => by
                have hc : Ch (Is gd) wr (wr.setCell ⟨gd, i, none⟩ (.int .i64 e)) := Ch.setCell (D := Is gd) (p := ⟨gd, i, none⟩) (Ch.refl _ wr) (fun _ => rfl) _
                refine ⟨HP.out.m.keepD hc (fun k hk e2 => ?_), HP.out.x.keepD hc (fun k hk e2 => ?_), HP.out.d.set i (by rw [HDL2.out]; exact hli) e, HP.out.md, HP.out.xd, HP.out.ch.setNew hbd⟩
                · have e' : k = gd := e2
                  subst e'
                  exact HP.out.md k hk rfl
                · have e' : k = gd := e2
                  subst e'
                  exact HP.out.xd k hk rfl
              have hdm : (dl : Int) ≤ 10000000 := by omega
              go_wp2_with (fail)
              exact ⟨⟨i + 1, _, by omega, by go_num, by show _ = _; rw [List.length_set]; exact HDL2.out, HEND.out _⟩, by simp [intOf]; omega⟩
            · obtain rfl : i = dl := by omega
              have d2 : decide ((i : Int) < (i : Int)) = false := by simp
              go_wp2_with (fail)
              exact ⟨⟨q + 1, M, D2, by omega, by go_num, HML, HDL2, HP.out⟩, by simp [intOf]; omega⟩
    · have d0 := decide_lt_f (show ¬ (q : Int) < 2 by omega)
      go_wp2_with (fail)
      go_ret
      exact ⟨rfl, HM.out.ch⟩
end Go.Proofs.Ytbllpojljdhnoaa
