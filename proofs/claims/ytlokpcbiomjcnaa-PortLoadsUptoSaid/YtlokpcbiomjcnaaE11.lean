/- New, walked. -/
import Derived.Test.YtlokpcbiomjcnaaE10
set_option linter.unusedVariables false
set_option linter.unusedSimpArgs false
namespace Go.Proofs.Ytlokpcbiomjcnaa
open Go.RowKit
theorem exec_add1 {a : Act} {o : Oper} {w : World} (x : Operand) (ho : o.op = .binOp .add 3 x (.const (.int .i64 1)) 3) (p q : Int) (hx : a.eval x = .int .i64 p) (hq : q = p + 1) (hb : 0 ≤ q ∧ q ≤ 9223372036854775807) :
    (execOp a.eval o).run Try.prog w = .ok (.value (.int .i64 q)) w := by
  have h1 : a.eval (.const (.int .i64 1)) = .int .i64 1 := rfl
  unfold execOp
  simp only [ho, hx, h1]
  go_simp
  rw [IntKind.wrap_i64]
  omega
theorem NewI.lt {w wr : World} {G M : Nat} {part : Int} {ps : List Pt} {k : Nat} {f : Int → Option Nat} (h : NewI w wr G M part ps k f) {i : Int} {E : Nat} (hi : f i = some E) : E < wr.heap.size := by
  by_cases hx : ∀ (j : Nat) p, j < k → ps[j]? = some p → p.part = part → i ≠ j + 1
  · rw [h.none i hx] at hi
    cases hi
  · obtain ⟨j, hj⟩ := Classical.not_forall.1 hx
    obtain ⟨p, hp⟩ := Classical.not_forall.1 hj
    simp only [ne_eq, Classical.not_imp, Classical.not_not] at hp
    obtain ⟨h1, h2, h3, rfl⟩ := hp
    obtain ⟨E', h4, h5, _⟩ := h.own j p h1 h2 h3
    rw [hi] at h4
    cases h4
    exact h5.lt
set_option maxHeartbeats 4000000 in
set_option maxRecDepth 100000 in
theorem new_walk {w : World} {Av A Ac : Option Addr} {nv cv n c nc cc : Nat} {ps : List Pt} (hn : n = ps.length) (hps : ps.length ≤ 1000) (hA : ∀ k p, ps[k]? = some p → ∃ g, A = some ⟨g, 0, none⟩ ∧ w.rangeAt g (k * 6) p.cells) (part : Int) :
    Calls Try.prog 13 #[.agg #[.slice Av nv cv, .slice A n c, .slice Ac nc cc], .int .i64 part] w fun e w' => ∃ G M f, e = .returned (.pointer (some ⟨G, 0, none⟩)) ∧ NewI w w' G M part ps ps.length f := by
  have HA := Lib.hid hA
  have HN := Lib.hid hn
  have HPS := Lib.hid hps
  have hn' : n ≤ 1000 := by omega
  clear hA hn hps
  have hmm := @run_makeMap Try.prog
  go_enter Try.func13, Try.ntmps13
  go_upto_region 2 with (fail)
  have HI : Hid (NewI w (((w.alloc (.cells #[.slice Av nv cv, .slice A n c, .slice Ac nc cc] 27)).alloc (.map #[] 0)).alloc (.cells #[.map (some (w.heap.size + 1)), .int .i64 n] 92)) (w.heap.size + 1 + 1) (w.heap.size + 1) part ps 0 (fun _ => none)) := by
    have h1 : Ch No w (w.alloc (.cells #[.slice Av nv cv, .slice A n c, .slice Ac nc cc] 27)) := (Ch.refl _ _).alloc _
    have h2 := PM.made (w.alloc (.cells #[.slice Av nv cv, .slice A n c, .slice Ac nc cc] 27))
    have e1 : (w.alloc (.cells #[.slice Av nv cv, .slice A n c, .slice Ac nc cc] 27)).heap.size = w.heap.size + 1 := by simp
    rw [e1] at h2
    refine ⟨?_, h2.keepNo ((Ch.refl _ _).alloc _), fun j p hj => absurd hj (Nat.not_lt_zero j), fun _ _ => rfl, fun i j E h => absurd h (by simp), (h1.alloc _).alloc _, by omega, by omega⟩
    rw [← HN.out]
    exact Row.new_at _ 92 [.map (some (w.heap.size + 1)), .int .i64 n] (by simp)
  have hx0 : (((w.alloc (.cells #[.slice Av nv cv, .slice A n c, .slice Ac nc cc] 27)).alloc (.map #[] 0)).alloc (.cells #[.map (some (w.heap.size + 1)), .int .i64 n] 92)).cell? ⟨w.heap.size, 1, none⟩ = some (.slice A n c) := by
    rw [(((Row.new w 27 [.slice Av nv cv, .slice A n c, .slice Ac nc cc]).alloc _).alloc _).cell]
    rfl
  generalize (((w.alloc (.cells #[.slice Av nv cv, .slice A n c, .slice Ac nc cc] 27)).alloc (.map #[] 0)).alloc (.cells #[.map (some (w.heap.size + 1)), .int .i64 n] 92)) = w3 at *
  generalize w.heap.size + 1 + 1 = G at *
  generalize w.heap.size + 1 = M at *
  generalize w.heap.size = X at hx0 ⊢
  clear hmm
  go_wp2_with (fail)
  clear hx0
  go_loopw [17] (fun i wr => ∃ k : Nat, k ≤ n ∧ i = .int .i64 k ∧ ∃ f, Hid (NewI w wr G M part ps k f)) (fun i _ => n - (intOf i).toNat)
  case atStart => exact ⟨0, Nat.zero_le _, rfl, _, HI⟩
  case round =>
    obtain ⟨k, hk, rfl, f, HK⟩ := hrel
    by_cases hlt : k < n
    · obtain ⟨p, hp⟩ : ∃ p, ps[k]? = some p := ⟨_, List.getElem?_eq_getElem (by have := HN.out; omega)⟩
      obtain ⟨g, rfl, hrg⟩ := HA.out k p hp
      have HP := Lib.hid hp
      have HRG := Lib.hid (hrg)
      have HRW : Hid (wr.rangeAt g (k * 6) [.int .i64 p.part, .int .i64 p.kind, .bool p.out, .int .i64 p.size, .int .i64 p.depth, .int .i64 p.refresh]) := fun j v hj => HK.out.ch.cell (not_no _) (hrg j v hj)
      clear hp hrg
      go_upto_region 5 with (first | ((with_reducible refine at_op (o := ⟨some 21, _, _, _, _, _⟩) ?_); refine wpList_load_mid (op := ⟨some 21, _, _, _, _, _⟩) rfl 46 _ rfl g (k * 6) rfl [.int .i64 p.part, .int .i64 p.kind, .bool p.out, .int .i64 p.size, .int .i64 p.depth, .int .i64 p.refresh] _ HRW.out Try.underlying46 rfl size46 ?_))
      have HR4 : Hid (Row (wr.alloc (.cells #[.int .i64 p.part, .int .i64 p.kind, .bool p.out, .int .i64 p.size, .int .i64 p.depth, .int .i64 p.refresh] 46)) wr.heap.size 46 [.int .i64 p.part, .int .i64 p.kind, .bool p.out, .int .i64 p.size, .int .i64 p.depth, .int .i64 p.refresh]) := Row.new wr 46 [.int .i64 p.part, .int .i64 p.kind, .bool p.out, .int .i64 p.size, .int .i64 p.depth, .int .i64 p.refresh]
      have HK4 := Lib.hid (HK.out.keepNo ((Ch.refl No wr).alloc (.cells #[.int .i64 p.part, .int .i64 p.kind, .bool p.out, .int .i64 p.size, .int .i64 p.depth, .int .i64 p.refresh] 46)))
      generalize wr.alloc (.cells #[.int .i64 p.part, .int .i64 p.kind, .bool p.out, .int .i64 p.size, .int .i64 p.depth, .int .i64 p.refresh] 46) = w4 at *
      generalize wr.heap.size = P at *
      have d0 : w4.cell? ⟨P, 0, none⟩ = some (.int .i64 p.part) := by rw [HR4.out.cell]; rfl
      have hw : wrap64 ((k : Int) + 1) = (k : Int) + 1 := by unfold wrap64; omega
      have HKB : Hid (0 ≤ (k : Int) + 1 ∧ (k : Int) + 1 ≤ 9223372036854775807) := ⟨by omega, by omega⟩
      have HW := Lib.hid hw
      clear hw
      by_cases hpt : p.part = part
      · have hb : (p.part == part) = true := by simp [hpt]
        have HPT := Lib.hid hpt
        clear hpt
        go_upto_region 6 with (fail)
        refine wp_region_held (S := fun w' => w'.cell? ⟨G, 0, none⟩ = some (.map (some M)) ∧ w'.rangeAt P 0 [.int .i64 p.part, .int .i64 p.kind, .bool p.out, .int .i64 p.size, .int .i64 p.depth, .int .i64 p.refresh]) (by kernel_rfl) ?_
        change wpAnyH _ _ _ _ _ _ _ _ w4.drew
        have HK5 := Lib.hid (HK4.out.keepNo (Ch.refl No w4).drew)
        have HR5 : Hid (Row w4.drew P 46 [.int .i64 p.part, .int .i64 p.kind, .bool p.out, .int .i64 p.size, .int .i64 p.depth, .int .i64 p.refresh]) := HR4.out
        clear d0 hb HRW HK HK4 HR4
        generalize w4.drew = w5 at *
        have HS0 : Hid ((fun w' : World => w'.cell? ⟨G, 0, none⟩ = some (.map (some M)) ∧ w'.rangeAt P 0 [.int .i64 p.part, .int .i64 p.kind, .bool p.out, .int .i64 p.size, .int .i64 p.depth, .int .i64 p.refresh]) w5) := by
          refine ⟨?_, row_range HR5.out 0 _ (fun j v hj => by rw [Nat.zero_add]; exact hj)⟩
          rw [HK5.out.row.cell]
          rfl
        refine wpAnyH_take (i := 0) (oi := ⟨some 26, _, _, _, _, _⟩) (v := .pointer (some ⟨G, 0, none⟩)) rfl (by kernel_rfl) (by kernel_rfl) (by kernel_rfl) (fun _ _ _ h => h) (Or.inl ⟨by rfl, fun _ _ => by kernel_rfl⟩) HS0.out ?_
        simp only [Act.put, List.setIfInBounds_toArray, List.set_cons_zero, List.set_cons_succ]
        refine wpAnyH_take (i := 1) (oi := ⟨some 27, _, _, _, _, _⟩) (v := .pointer (some ⟨G, 0, none⟩)) rfl (by kernel_rfl) (by kernel_rfl) (by kernel_rfl) (fun _ _ _ h => h) (Or.inl ⟨by rfl, fun _ _ => by kernel_rfl⟩) HS0.out ?_
        simp only [Act.put, List.setIfInBounds_toArray, List.set_cons_zero, List.set_cons_succ]
        refine wpAnyH_take (i := 2) (oi := ⟨some 28, _, _, _, _, _⟩) (v := .pointer (some ⟨G, 0, none⟩)) rfl (by kernel_rfl) (by kernel_rfl) (by kernel_rfl) (fun _ _ _ h => h) (Or.inl ⟨by rfl, fun _ _ => by kernel_rfl⟩) HS0.out ?_
        simp only [Act.put, List.setIfInBounds_toArray, List.set_cons_zero, List.set_cons_succ]
        refine wpAnyH_take (i := 3) (oi := ⟨some 29, _, _, _, _, _⟩) (v := .map (some M)) rfl (by kernel_rfl) (by kernel_rfl) (by kernel_rfl) (fun _ _ _ h => h) (Or.inl ⟨by rfl, fun w' hs => exec_load_cell 90 (.tmp 28) rfl ⟨G, 0, none⟩ rfl _ Try.underlying90 rfl _ hs.1⟩) HS0.out ?_
        simp only [Act.put, List.setIfInBounds_toArray, List.set_cons_zero, List.set_cons_succ]
        refine wpAnyH_take (i := 4) (oi := ⟨some 30, _, _, _, _, _⟩) (v := .int .i64 k) rfl (by kernel_rfl) (by kernel_rfl) (by kernel_rfl) (fun _ _ _ h => h) (Or.inl ⟨by rfl, fun _ _ => by kernel_rfl⟩) HS0.out ?_
        simp only [Act.put, List.setIfInBounds_toArray, List.set_cons_zero, List.set_cons_succ]
        refine wpAnyH_take (i := 5) (oi := ⟨some 31, _, _, _, _, _⟩) (v := .int .i64 ((k : Int) + 1)) rfl (by kernel_rfl) (by kernel_rfl) (by kernel_rfl) (fun _ _ _ h => h) (Or.inl ⟨by rfl, fun _ _ => exec_add1 (.tmp 30) rfl (k : Int) ((k : Int) + 1) rfl rfl HKB.out⟩) HS0.out ?_
        simp only [Act.put, List.setIfInBounds_toArray, List.set_cons_zero, List.set_cons_succ]
        refine wpAnyH_take (i := 6) (oi := ⟨some 32, _, _, _, _, _⟩) (v := .agg #[.int .i64 p.part, .int .i64 p.kind, .bool p.out, .int .i64 p.size, .int .i64 p.depth, .int .i64 p.refresh]) rfl (by kernel_rfl) (by kernel_rfl) (by kernel_rfl) (fun _ _ _ h => h) (Or.inl ⟨by rfl, fun w' hs => exec_load_mid 46 (.tmp 7) rfl P 0 rfl [.int .i64 p.part, .int .i64 p.kind, .bool p.out, .int .i64 p.size, .int .i64 p.depth, .int .i64 p.refresh] _ hs.2 Try.underlying46 rfl size46⟩) HS0.out ?_
        simp only [Act.put, List.setIfInBounds_toArray, List.set_cons_zero, List.set_cons_succ]
        refine wpAnyH_take (i := 7) (oi := ⟨some 33, _, _, _, _, _⟩) (v := .agg #[.int .i64 p.part, .int .i64 p.kind, .bool p.out, .int .i64 p.size, .int .i64 p.depth, .int .i64 p.refresh, .slice none 0 0, .bool false, .int .i64 0, .slice none 0 0, .int .i64 0]) rfl (by kernel_rfl) (by kernel_rfl) (by kernel_rfl) (fun _ _ _ h => h) (Or.inl ⟨by rfl, fun _ _ => by kernel_rfl⟩) HS0.out ?_
        simp only [Act.put, List.setIfInBounds_toArray, List.set_cons_zero, List.set_cons_succ]
        refine wpAnyH_norm 2 #[true, true, true, true, true, true, true, true, false, false] (by kernel_rfl) (by kernel_rfl) ?_
        refine wpAnyH_one (i := 8) (o := ⟨some 34, _, _, _, _, _⟩) (by kernel_rfl) rfl (by rfl) ?_
        have HE6 : Hid (Row (w5.alloc (.cells #[.int .i64 p.part, .int .i64 p.kind, .bool p.out, .int .i64 p.size, .int .i64 p.depth, .int .i64 p.refresh, .slice none 0 0, .bool false, .int .i64 0, .slice none 0 0, .int .i64 0] 95)) w5.heap.size 95 (fresh p)) := Row.new w5 95 [.int .i64 p.part, .int .i64 p.kind, .bool p.out, .int .i64 p.size, .int .i64 p.depth, .int .i64 p.refresh, .slice none 0 0, .bool false, .int .i64 0, .slice none 0 0, .int .i64 0]
        have HC6 : Hid (Ch No w5 (w5.alloc (.cells #[.int .i64 p.part, .int .i64 p.kind, .bool p.out, .int .i64 p.size, .int .i64 p.depth, .int .i64 p.refresh, .slice none 0 0, .bool false, .int .i64 0, .slice none 0 0, .int .i64 0] 95))) := (Ch.refl _ _).alloc _
        obtain ⟨w6, hw6⟩ : ∃ w6, w6 = w5.alloc (.cells #[.int .i64 p.part, .int .i64 p.kind, .bool p.out, .int .i64 p.size, .int .i64 p.depth, .int .i64 p.refresh, .slice none 0 0, .bool false, .int .i64 0, .slice none 0 0, .int .i64 0] 95) := ⟨_, rfl⟩
        rw [← hw6] at HE6 HC6
        have HK6 := Lib.hid (HK5.out.keepNo HC6.out)
        have HS6 : Hid ((fun w' : World => w'.cell? ⟨G, 0, none⟩ = some (.map (some M)) ∧ w'.rangeAt P 0 [.int .i64 p.part, .int .i64 p.kind, .bool p.out, .int .i64 p.size, .int .i64 p.depth, .int .i64 p.refresh]) w6) := ⟨HC6.out.cell (not_no _) HS0.out.1, fun j v hj => HC6.out.cell (not_no _) (HS0.out.2 j v hj)⟩
        refine wp_value_to (w' := w6) (.pointer (some ⟨w5.heap.size, 0, none⟩)) (by rw [hw6]; kernel_rfl) ?_
        refine And.intro HS6.out ?_
        simp only [Act.put, List.setIfInBounds_toArray, List.set_cons_zero, List.set_cons_succ]
        refine wpAnyH_norm 1 #[true, true, true, true, true, true, true, true, true, false] (by kernel_rfl) (by kernel_rfl) ?_
        refine wpAnyH_one (i := 9) (o := ⟨none, _, _, _, _, _⟩) (by kernel_rfl) rfl (by rfl) ?_
        refine wp_mapput (.tmp 29) (.tmp 31) (.tmp 34) rfl (M := M) rfl ((k : Int) + 1) w5.heap.size rfl rfl HK6.out.map (wf_of (by omega) (by omega)) (by unfold maxLen; omega) ?_
        intro w7 hm7 hc7
        have HK7 : Hid (NewI w w7 G M part ps (k + 1) (upd f ((k : Int) + 1) w5.heap.size)) := HK6.out.put HP.out HPT.out HE6.out (Nat.le_trans HK5.out.ch.size (Nat.le_refl _)) (fun i hi => Nat.lt_irrefl _ (HK5.out.lt hi)) hm7 hc7
        have HPM : Hid (¬ P = M) := pm_row HK5.out.map HR5.out
        have HGM : Hid (¬ G = M) := pm_row HK5.out.map HK5.out.row
        refine And.intro ⟨hc7.cell (a := ⟨G, 0, none⟩) HGM.out HS6.out.1, fun j v hj => hc7.cell (a := ⟨P, 0 + j, none⟩) HPM.out (HS6.out.2 j v hj)⟩ ?_
        simp only [Act.put, List.setIfInBounds_toArray, List.set_cons_zero, List.set_cons_succ]
        refine wpAnyH_done (by kernel_rfl) ?_ _
        clear hm7 hc7 hw6
        go_wp2_with (fail)
        refine ⟨⟨k + 1, by omega, by go_num, _, HK7⟩, by simp [intOf]; omega⟩
      · have hb : (p.part == part) = false := by simp [hpt]
        have HK7 := Lib.hid (HK4.out.skip HP.out hpt)
        clear hpt
        go_wp2_with (fail)
        refine ⟨⟨k + 1, by omega, by go_num, _, HK7⟩, by simp [intOf]; omega⟩
    · go_wp2_with (fail)
      have e : k = ps.length := by have := HN.out; omega
      subst e
      exact bodyPost_ret (v := .pointer (some ⟨G, 0, none⟩)) (by kernel_rfl) rfl ⟨G, M, f, rfl, HK.out⟩
end Go.Proofs.Ytlokpcbiomjcnaa
