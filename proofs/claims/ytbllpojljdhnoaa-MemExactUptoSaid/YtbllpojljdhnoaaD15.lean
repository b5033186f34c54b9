/- MemExact: placed. -/
import Derived.Test.YtbllpojljdhnoaaD14
set_option linter.unusedVariables false
set_option linter.unusedSimpArgs false
namespace Go.Proofs.Ytbllpojljdhnoaa
open Go.RowKit
/-- two lists of one's own that lie apart -/
structure PQ (w wr : World) (vg vt : Value) (G T : List Int) : Prop where
  g : Ol w.heap.size wr vg G
  t : Ol w.heap.size wr vt T
  gt : ∀ k, vg.ownBlock = some k → ¬ vt.ownBlock = some k
  ch : Ch No w wr
theorem PQ.keepNo {w wr w' : World} {vg vt : Value} {G T : List Int} (h : PQ w wr vg vt G T) (hc : Ch No wr w') : PQ w w' vg vt G T := ⟨h.g.keepNo hc, h.t.keepNo hc, h.gt, h.ch.then_ hc⟩
theorem PQ.growG {w wr w2 : World} {vg vt v : Value} {G T : List Int} {e : Int} (h : PQ w wr vg vt G T) (hl : (G ++ [e]).length ≤ 10000000) (ho : w2.ownsRow w.heap.size 2 1 v (ints G ++ ints [e]).length (ints G ++ ints [e])) (hg : (wr.alloc (.cells (ints [e]).toArray 2)).grownBy w2 vg.ownBlock) (hat : v.ownBlock = vg.ownBlock ∨ v.ownBlock = some (wr.alloc (.cells (ints [e]).toArray 2)).heap.size) : PQ w w2 v vt (G ++ [e]) T := by
  have c1 : Ch No wr (wr.alloc (.cells (ints [e]).toArray 2)) := (Ch.refl No wr).alloc _
  have c2 := Ch.of_grownBy hg
  refine ⟨⟨by rw [← ints_append] at ho; exact ho, hl⟩, (h.t.keepNo c1).keepD c2 (fun k hk e2 => h.gt k e2 hk), fun k h1 h2 => ?_, (h.ch.then_ c1).trans c2 (fun i hi e2 => by have := h.g.own i e2; omega)⟩
  rcases hat with e1 | e1
  · rw [e1] at h1
    exact h.gt k h1 h2
  · rw [e1] at h1
    have := h.t.lt h2
    simp at h1
    omega
theorem PQ.swap {w wr : World} {vg vt : Value} {G T : List Int} (h : PQ w wr vg vt G T) : PQ w wr vt vg T G := ⟨h.t, h.g, fun k h1 h2 => h.gt k h2 h1, h.ch⟩
set_option maxHeartbeats 8000000 in
set_option maxRecDepth 100000 in
theorem placed_calls {w : World} {v : Value} {X : List Int} (hX : Sl w v X) (words : Int) :
    Calls Try.prog 17 #[.int .i64 words, v] w fun e w' => e = .returned (.bool true) ∧ Ch No w w' := by
  obtain ⟨A, ca, rfl, hA, hxl⟩ := hX
  have HA := Lib.hid hA
  obtain ⟨n, hn⟩ : ∃ n, n = X.length := ⟨_, rfl⟩
  rw [← hn] at hxl
  have HN : Hid (X.length = n) := hn.symm
  rw [← hn]
  clear hA hn
  go_enter Try.func17, Try.ntmps17
  go_wp2_with (fail)
  go_loopw [5, 6, 7] (fun vg vt k wr => ∃ (j : Nat) (G : List Int), j ≤ n ∧ k = .int .i64 ((n : Int) - 1 - (j : Int)) ∧ Hid (G.length = j) ∧ Hid (PQ w wr vg vt G G)) (fun _ _ k _ => (intOf k + 1).toNat)
  case atStart => exact ⟨0, [], Nat.zero_le _, by simp, rfl, ⟨⟨owns_nil _ _ _ _, by simp⟩, ⟨owns_nil _ _ _ _, by simp⟩, fun k h => by simp [Value.ownBlock] at h, Ch.refl _ _⟩⟩
  case round =>
    obtain ⟨j, G, hj, rfl, HGL, HP⟩ := hrel
    by_cases hlt : j < n
    · obtain ⟨i, hi⟩ : ∃ i : Nat, (n : Int) - 1 - (j : Int) = (i : Int) := ⟨n - 1 - j, by omega⟩
      rw [hi]
      have hin : i < n := by omega
      have d0 := decide_le_t (show (0 : Int) ≤ (i : Int) by omega)
      obtain ⟨ad, ea, hca⟩ := cl_rd (HA.out.keepNo HP.out.ch) i (by rw [HN.out]; exact hin)
      subst ea
      have HI := Lib.hid hi
      clear hi
      have him : (i : Int) ≤ 10000000 := by omega
      have HGL2 : Hid ((G ++ [(wrap64 (rd X i + 1))]).length = j + 1) := by show _ = _; rw [List.length_append, HGL.out]; rfl
      have HGM : Hid ((G ++ [(wrap64 (rd X i + 1))]).length ≤ 10000000) := by show _ ≤ _; rw [HGL2.out]; omega
      have HBY : Hid (((ints G).length + 1) * 8 ≤ 140737488355328) := by show _ ≤ _; rw [ints_length, HGL.out]; omega
      have HBS : Hid (w.heap.size ≤ (wr.alloc (.cells (ints [(wrap64 (rd X i + 1))]).toArray 2)).heap.size) := ((HP.out.ch.alloc _).size)
      have HOW : Hid ((wr.alloc (.cells (ints [(wrap64 (rd X i + 1))]).toArray 2)).ownsRow w.heap.size 2 1 u5 (ints G).length (ints G)) := owns_keepNo HP.out.g.1 ((Ch.refl No wr).alloc _)
      go_upto_region 6 with ((with_reducible refine at_op (o := ⟨some 31, .call { callee := .builtin .append, args := #[.tmp 24, .tmp 30], argTypes := #[22, 22] }, _, _, _, _⟩) ?_); refine wpList_append_to rfl (.tmp 24) (.tmp 30) 22 rfl w.heap.size 2 (.int .i64 0) 8 Try.underlying22 info2 rfl u5 (ints G) rfl _ _ _ (ints [(wrap64 (rd X i + 1))]) rfl HOW.out (ints_length _) ((Row.new wr 2 (ints [(wrap64 (rd X i + 1))])).cl0) (ints_one _) HBY.out (by omega) HBS.out ?_; intro v1 w1 ho2 hg2 hat2; have HP1 := Lib.hid (HP.out.growG HGM.out ho2 hg2 hat2); clear ho2 hg2 hat2)
      have hca : w1.cell? (ad.add i) = some (.int .i64 (rd X i)) := by
        obtain ⟨ad', e', h⟩ := cl_rd (HA.out.keepNo HP1.out.ch) i (by rw [HN.out]; exact hin)
        cases e'
        exact h
      clear HBS HOW
      have HBS : Hid (w.heap.size ≤ (w1.alloc (.cells (ints [(wrap64 (rd X i + 1))]).toArray 2)).heap.size) := ((HP1.out.ch.alloc _).size)
      have HOW : Hid ((w1.alloc (.cells (ints [(wrap64 (rd X i + 1))]).toArray 2)).ownsRow w.heap.size 2 1 u6 (ints G).length (ints G)) := owns_keepNo HP1.out.t.1 ((Ch.refl No w1).alloc _)
      go_wp2_with ((with_reducible refine at_op (o := ⟨some 39, .call { callee := .builtin .append, args := #[.tmp 32, .tmp 38], argTypes := #[22, 22] }, _, _, _, _⟩) ?_); refine wpList_append_to rfl (.tmp 32) (.tmp 38) 22 rfl w.heap.size 2 (.int .i64 0) 8 Try.underlying22 info2 rfl u6 (ints G) rfl _ _ _ (ints [(wrap64 (rd X i + 1))]) rfl HOW.out (ints_length _) ((Row.new w1 2 (ints [(wrap64 (rd X i + 1))])).cl0) (ints_one _) HBY.out (by omega) HBS.out ?_; intro v2 w2 ho2 hg2 hat2; have HP2 := Lib.hid ((HP1.out.swap.growG HGM.out ho2 hg2 hat2).swap); clear ho2 hg2 hat2)
      go_roundw
      · refine ⟨j + 1, G ++ [(wrap64 (rd X i + 1))], by omega, ?_, HGL2, HP2⟩
        have := HI.out
        congr 1
        omega
      · have := HI.out
        simp [intOf]
    · obtain rfl : j = n := by omega
      have d0 : decide ((0 : Int) ≤ (j : Int) - 1 - (j : Int)) = false := decide_le_f (by omega)
      have hb1 : -9223372036854775808 ≤ (j : Int) - 1 - (j : Int) := by omega
      obtain ⟨Ag, cg, hvg⟩ := own_form HP.out.g.1
      rw [ints_length, HGL.out] at hvg
      subst hvg
      go_upto_region 7 with (fail)
      go_wp2_with (fail)
      refine (mnew_calls HP.out.g.sl words).mono ?_
      rintro e wa ⟨va, rfl, hfa, hca⟩
      have HFA := Lib.hid hfa
      have HPA := Lib.hid (HP.out.keepNo hca)
      rw [HGL.out]
      have HAG : Hid (∀ k, va.ownBlock = some k → ¬ (Value.slice Ag j cg).ownBlock = some k) := fun k h1 h2 => by
        have := HFA.out.ol.own k h1
        have := HP.out.g.lt h2
        omega
      have HTV : Hid (∀ k, u6.ownBlock = some k → ¬ (Value.slice Ag j cg).ownBlock = some k) := fun k h1 h2 => HP.out.gt k h2 h1
      have HSZ : Hid (w.heap.size ≤ wr.heap.size) := HP.out.ch.size
      clear hfa hca HP
      go_wp2_with (fail)
      go_loopw [10] (fun k wr => ∃ (i : Nat) (H : List Int), i ≤ j ∧ k = .int .i64 i ∧ Hid (H.length = j) ∧ Hid (H.take i = X.take i) ∧ Hid (Ol w.heap.size wr (.slice Ag j cg) H) ∧ Hid (Fl w.heap.size wr va (newl words G)) ∧ Hid (Ol w.heap.size wr u6 G) ∧ Hid (Ch No w wr)) (fun k _ => j - (intOf k).toNat)
      case atStart => exact ⟨0, G, Nat.zero_le _, rfl, HGL, by show _ = _; simp, HPA.out.g, HFA.out.low HSZ.out, HPA.out.t, HPA.out.ch⟩
      case round =>
        clear HFA HPA
        obtain ⟨i, H, hi, rfl, HHL, HTK, HOG, HFA, HOT, HC⟩ := hrel
        by_cases hli : i < j
        · have d1 := decide_lt_t (show (i : Int) < (j : Int) by omega)
          obtain ⟨gg, c', eM, hbg, hcell, hfr⟩ := HOG.out.at_ i (by rw [HHL.out]; exact hli)
          rw [HHL.out] at eM
          simp only [Value.slice.injEq] at eM
          obtain ⟨rfl, -, rfl⟩ := eM
          obtain ⟨ad, ea, hca⟩ := cl_rd (HA.out.keepNo HC.out) i (by rw [HN.out]; exact hli)
          subst ea
          have hc : Ch (Is gg) wr (wr.setCell ⟨gg, i, none⟩ (.int .i64 (rd X i))) := Ch.setCell (D := Is gg) (p := ⟨gg, i, none⟩) (Ch.refl _ wr) (fun _ => rfl) _
          have K1 := Lib.hid (HOG.out.set i (by rw [HHL.out]; exact hli) (rd X i))
          have K2 := Lib.hid (HFA.out.keepD hc (fun k hk e2 => by
            have e' : k = gg := e2
            subst e'
            exact HAG.out k hk rfl))
          have K3 := Lib.hid (HOT.out.keepD hc (fun k hk e2 => by
            have e' : k = gg := e2
            subst e'
            exact HTV.out k hk rfl))
          have K4 := Lib.hid (HC.out.setNew (j := i) (u := .int .i64 (rd X i)) hbg)
          have K5 : Hid ((H.set i (rd X i)).take (i + 1) = X.take (i + 1)) := by
            show _ = _
            rw [take_set_succ _ _ _ (by rw [HHL.out]; exact hli), List.take_succ_eq_append_getElem (by rw [HN.out]; exact hli), HTK.out, rd_at _ _ (by rw [HN.out]; exact hli)]
          have him : (i : Int) ≤ 10000000 := by omega
          clear hc
          go_wp2_with (fail)
          exact ⟨⟨i + 1, _, by omega, by go_num, by show _ = _; rw [List.length_set]; exact HHL.out, K5, K1, K2, K3, K4⟩, by simp [intOf]; omega⟩
        · obtain rfl : i = j := by omega
          have d1 : decide ((i : Int) < (i : Int)) = false := by simp
          have HHX : Hid (H = X) := by
            have h := HTK.out
            rw [List.take_of_length_le (by rw [HHL.out]; omega), List.take_of_length_le (by rw [HN.out]; omega)] at h
            exact h
          rw [HHX.out] at HOG
          clear HHX HTK HAG HTV HHL
          go_wp2_with (fail)
          refine (mnew_calls HOG.out.sl words).mono ?_
          rintro e wb ⟨vb, rfl, hfb, hcb⟩
          rw [HN.out]
          have HFB := Lib.hid hfb
          have HFA2 := Lib.hid (HFA.out.keepNo hcb)
          have HOT2 := Lib.hid (HOT.out.keepNo hcb)
          have HC2 := Lib.hid (HC.out.then_ hcb)
          clear hfb hcb HFA HOT HC HOG
          go_wp2_with (fail)
          refine (rnew_calls HOT2.out.sl words).mono ?_
          rintro e wc ⟨vx, rfl, hox, hcc⟩
          rw [HGL.out]
          have HOX := Lib.hid hox
          have HFA3 := Lib.hid (HFA2.out.keepNo hcc)
          have HFB3 := Lib.hid (HFB.out.keepNo hcc)
          have HC3 := Lib.hid (HC2.out.then_ hcc)
          have HSX : Hid (Sl wc (.slice A i ca) X) := by
            refine Sl.mk (HA.out.keepNo HC3.out) HN.out.symm (by rw [HN.out]; exact hxl)
          clear hox hcc HFA2 HFB HC2 HOT2
          go_wp2_with (fail)
          refine (rnew_calls HSX.out words).mono ?_
          rintro e wd ⟨vy, rfl, hoy, hcd⟩
          rw [HN.out]
          have HOY := Lib.hid hoy
          have HOX4 := Lib.hid (HOX.out.keepNo hcd)
          have HFA4 := Lib.hid (HFA3.out.keepNo hcd)
          have HFB4 := Lib.hid (HFB3.out.keepNo hcd)
          have HC4 := Lib.hid (HC3.out.then_ hcd)
          clear hoy hcd HFA3 HFB3 HC3 HOX HSX
          go_wp2_with (fail)
          refine (same_self HFA4.out.ol.sl HOX4.out.sl).mono ?_
          rintro e we ⟨rfl, hce⟩
          have HFB5 := Lib.hid (HFB4.out.keepNo hce)
          have HOY5 := Lib.hid (HOY.out.keepNo hce)
          have HC5 := Lib.hid (HC4.out.then_ hce)
          clear hce HFA4 HOX4 HFB4 HOY HC4
          go_wp2_with (fail)
          refine (same_self HFB5.out.ol.sl HOY5.out.sl).mono ?_
          rintro e wf ⟨rfl, hcf⟩
          have HC6 := Lib.hid (HC5.out.then_ hcf)
          clear hcf
          go_wp2_with (fail)
          go_ret
          exact ⟨rfl, HC6.out⟩
end Go.Proofs.Ytbllpojljdhnoaa
