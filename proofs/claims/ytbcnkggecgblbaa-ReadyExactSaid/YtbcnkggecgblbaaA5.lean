/- slices.Insert of one, over pairs: no room is left. -/
import Derived.Test.YtbcnkggecgblbaaA4
import Derived.Lib.AppendZerosOnto
set_option linter.unusedVariables false
set_option linter.unusedSimpArgs false
namespace Go.Proofs.Ytbcnkggecgblbaa
open Go.RowKit
theorem grow_list (L : List (Int × Int)) (Z : List Value) (x : Int × Int) (i n : Nat) (hn : n = L.length) (hi : i ≤ n) (hZ : (n + 1 - i) * 2 ≤ Z.length) :
    putL (putL (prs (L.take i) ++ Z) (i * 2) [.int .i64 x.1, .int .i64 x.2]) ((i + 1) * 2) (prs (L.drop i)) = prs (L.take i ++ x :: L.drop i) ++ Z.drop ((n + 1 - i) * 2) := by
  have hd : (prs (L.drop i)).length = (n - i) * 2 := by rw [prs_length, List.length_drop, ← hn]
  have ht : (prs (L.take i)).length = i * 2 := by rw [prs_length, List.length_take, ← hn]; congr 1; omega
  have e0 : prs (L.take i ++ x :: L.drop i) = prs (L.take i) ++ ([.int .i64 x.1, .int .i64 x.2] ++ prs (L.drop i)) := by rw [prs_append]; rfl
  have hl1 : (putL (prs (L.take i) ++ Z) (i * 2) [.int .i64 x.1, .int .i64 x.2]).length = i * 2 + Z.length := by
    rw [putL_eq _ _ _ (by simp [ht]; omega)]
    simp [ht]
    omega
  apply List.ext_getElem?
  intro k
  rw [putL_get _ _ _ _ (by rw [hl1, hd]; omega), putL_get _ _ _ _ (by simp [ht]; omega), e0, hd]
  by_cases h1 : k < i * 2
  · rw [if_neg (by omega), if_neg (by simp; omega), List.getElem?_append_left (by rw [ht]; omega), List.getElem?_append_left (by simp [ht]; omega), List.getElem?_append_left (by rw [ht]; omega)]
  · by_cases h2 : k < i * 2 + 2
    · rw [if_neg (by omega), if_pos (by simp; omega), List.getElem?_append_left (by simp [ht]; omega), List.getElem?_append_right (by rw [ht]; omega), ht, List.getElem?_append_left (by simp; omega)]
    · by_cases h3 : k < (i + 1) * 2 + (n - i) * 2
      · rw [if_pos (by omega), List.getElem?_append_left (by simp [ht, hd]; omega), List.getElem?_append_right (by rw [ht]; omega), ht, List.getElem?_append_right (by simp; omega)]
        congr 1
        simp
        omega
      · rw [if_neg (by omega), if_neg (by simp; omega), List.getElem?_append_right (by rw [ht]; omega), List.getElem?_append_right (by simp [ht, hd]; omega), List.getElem?_drop]
        congr 1
        simp [ht, hd]
        omega
set_option maxHeartbeats 4000000 in
theorem insert_grow (L : List (Int × Int)) (g vb n i : Nat) (w : World) (x : Int × Int) (hn : n = L.length) (hb : n + 1 ≤ 1000000) (hi : i < n)
    (hr : Row w g 62 (prs L)) (hv : Row w vb 62 [.int .i64 x.1, .int .i64 x.2]) :
    Calls Try.prog 29 #[.slice (some ⟨g, 0, none⟩) n n, .int .i64 (i : Int), .slice (some ⟨vb, 0, none⟩) 1 1] w fun e w' => ∃ G R, e = .returned (.slice (some ⟨w.heap.size, 0, none⟩) (n + 1) G) ∧ n + 1 ≤ G ∧ G ≤ maxLen ∧ (n + 1) * 2 + R.length = G * 2 ∧ Row w' w.heap.size 62 (prs (L.take i ++ x :: L.drop i) ++ R) ∧ Ch No w w' := by
  obtain ⟨i0, hi0, hzz⟩ := Option.map_eq_some_iff.1 (show (Try.prog.info? 62).map (fun i => (i.zero, i.size, i.bytes)) = some (some (.agg #[.int .i64 0, .int .i64 0]), 2, 16) by kernel_rfl)
  simp only [Prod.mk.injEq] at hzz
  obtain ⟨hz0, hz1, hz2⟩ := hzz
  have hgw := hr.lt
  have hvw := hv.lt
  have HR := Lib.hid hr
  have HV := Lib.hid hv
  have HN := Lib.hid hn
  clear hr hv hn
  have HL : Hid ((prs L).length = n * 2) := by show _ = _; rw [prs_length, ← HN.out]
  have HD : Hid ((prs (L.drop i)).length = (n - i) * 2) := by show _ = _; rw [prs_length, List.length_drop, ← HN.out]
  have HT : Hid ((prs (L.take i)).length = i * 2) := by show _ = _; rw [prs_length, List.length_take, ← HN.out]; congr 1; omega
  have hold : (Builtin.firstCells i0.size i (.slice (some ⟨g, 0, none⟩) i n)).run Try.prog w.drew = .ok (prs (L.take i)).toArray w.drew := by
    rw [hz1]
    exact run_firstCells_some w.drew 2 i ⟨g, 0, none⟩ i n (prs (L.take i)) HT.out (fun j v hj => by
      rw [add_lit, Nat.zero_add, HR.out.drew.cell, ← hj, prs_take, List.getElem?_take, if_pos (by rw [← HT.out]; exact (List.getElem?_eq_some_iff.1 hj).1)])
  have hgc := grownCap_ge w (n + 1) n 62
  have hgm := grownCap_le_maxLen w (n + 1) n 62 (by unfold maxLen; omega)
  have hrz : ∀ ty, (Builtin.append_ #[41, 3] ty #[.slice (some ⟨g, 0, none⟩) i n, .int .i64 ((n : Int) + 1 - (i : Int))]).run Try.prog w =
      .ok (.slice (some ⟨w.heap.size, 0, none⟩) (n + 1) (grownCap w (n + 1) n 62)) (w.drew.alloc (.cells ((prs (L.take i)).toArray ++ Builtin.zeroCells (Value.agg #[.int .i64 0, .int .i64 0]).cells (n + 1 - i) ++ Builtin.zeroCells (Value.agg #[.int .i64 0, .int .i64 0]).cells (grownCap w (n + 1) n 62 - (n + 1))) 62)) := fun ty => by
    have h := Lib.run_append_grow_zeros w 41 3 ty 62 i0 _ .i64 .i64 Try.underlying41 Try.underlying3 hi0 hz0 (some ⟨g, 0, none⟩) i n (prs (L.take i)) hold (n + 1 - i) (by omega) (by omega) (by omega) (by omega) (by rw [hz2]; omega) (by rw [hz2, show i + (n + 1 - i) = n + 1 by omega]; exact growslice_fits (by omega) (by omega))
    rw [show i + (n + 1 - i) = n + 1 by omega] at h
    rw [show (n : Int) + 1 - (i : Int) = ((n + 1 - i : Nat) : Int) by omega]
    exact h
  generalize grownCap w (n + 1) n 62 = G at *
  obtain ⟨Z, hZ⟩ : ∃ Z, Z = (Builtin.zeroCells (Value.agg #[.int .i64 0, .int .i64 0]).cells (n + 1 - i) ++ Builtin.zeroCells (Value.agg #[.int .i64 0, .int .i64 0]).cells (G - (n + 1))).toList := ⟨_, rfl⟩
  have HZL : Hid (Z.length = (G - i) * 2) := by
    show _ = _
    rw [hZ]
    simp [Builtin.zeroCells, Value.cells]
    omega
  have hrow : (prs (L.take i)).toArray ++ Builtin.zeroCells (Value.agg #[.int .i64 0, .int .i64 0]).cells (n + 1 - i) ++ Builtin.zeroCells (Value.agg #[.int .i64 0, .int .i64 0]).cells (G - (n + 1)) = (prs (L.take i) ++ Z).toArray := by
    rw [hZ]
    simp
  rw [hrow] at hrz
  clear hrow hZ
  have HR1 := Lib.hid ((HR.out.drew).alloc (.cells (prs (L.take i) ++ Z).toArray 62))
  have HV1 := Lib.hid ((HV.out.drew).alloc (.cells (prs (L.take i) ++ Z).toArray 62))
  have HN1 : Hid (Row _ _ _ _) := Row.new w.drew 62 (prs (L.take i) ++ Z)
  have HC1 : Hid (Ch No w _) := ((Ch.refl No w).drew).alloc (.cells (prs (L.take i) ++ Z).toArray 62)
  have HSZ : Hid (w.drew.heap.size = w.heap.size) := rfl
  have hrz := Lib.hid hrz
  generalize w.drew.alloc (.cells (prs (L.take i) ++ Z).toArray 62) = w1 at *
  rw [HSZ.out] at HN1
  have hgt : decide ((n : Int) < (n : Int) + 1) = true := decide_eq_true (by omega)
  have hni : ((i : Int) == (n : Int)) = false := by simp; omega
  have hiI : (i : Int) ≤ (n : Int) := by omega
  have hiG : (i : Int) ≤ ((n + 1 : Nat) : Int) := by omega
  have hG63 : G ≤ 9223372036854775807 := by unfold maxLen at hgm; omega
  have hGi : ¬ (G = i) := by omega
  have hnn : ¬ (n = i) := by omega
  have HGM := Lib.hid hgm
  clear hgm hold
  go_enter Try.func29, Try.ntmps29
  go_upto_region 10 with ((with_reducible refine at_op (o := ⟨some 40, .call { callee := .builtin .append, args := #[.tmp 34, .tmp 39], argTypes := #[41, 3] }, _, _, _, _⟩) ?_); refine pl_append_run w rfl (.tmp 34) (.tmp 39) 41 3 rfl _ _ rfl rfl _ _ (hrz.out _) ?_)
  have HSRC : Hid (∀ j u, [Value.int .i64 x.1, .int .i64 x.2][j]? = some u → w1.cell? ((⟨vb, 0, none⟩ : Addr).add j) = some u) := fun j u hj => by
    rw [add_lit, Nat.zero_add, HV1.out.cell]
    exact hj
  have HFIT : Hid (i * 2 + [Value.int .i64 x.1, .int .i64 x.2].length ≤ (prs (L.take i) ++ Z).length) := by
    show _ ≤ _
    simp [HT.out, HZL.out]
    omega
  have HM : Hid (1 = Nat.min 1 (n + 1 - i)) := (Nat.min_eq_left (by omega)).symm
  have HO : Hid (∀ v ∈ [Value.int .i64 x.1, .int .i64 x.2], v.oneCell' = true) := fun v hv => by
    simp at hv
    rcases hv with rfl | rfl <;> rfl
  go_upto_region 11 with ((with_reducible refine at_op (o := ⟨some 45, .call { callee := .builtin .copy, args := #[.tmp 43, .tmp 44], argTypes := #[41, 41] }, _, _, _, _⟩) ?_); refine pl_copy_run w1 rfl (.tmp 43) (.tmp 44) 41 41 rfl _ _ rfl rfl _ _ (copy_row w1 _ w.heap.size (i * 2) (n + 1 - i) (G - i) ⟨vb, 0, none⟩ 1 1 1 _ [.int .i64 x.1, .int .i64 x.2] HN1.out HM.out rfl HSRC.out HFIT.out HO.out) ?_)
  have HN2 := Lib.hid (HN1.out.setRow (putL (prs (L.take i) ++ Z) (i * 2) [.int .i64 x.1, .int .i64 x.2]))
  have HR2 := Lib.hid (HR1.out.keepIs (ch_setRow w1 w.heap.size (putL (prs (L.take i) ++ Z) (i * 2) [.int .i64 x.1, .int .i64 x.2]).toArray) (by omega))
  have HC2 : Hid (Ch No w _) := ch_newg HC1.out (ch_setRow w1 w.heap.size (putL (prs (L.take i) ++ Z) (i * 2) [.int .i64 x.1, .int .i64 x.2]).toArray) (Nat.le_refl _)
  have HL2 : Hid ((putL (prs (L.take i) ++ Z) (i * 2) [.int .i64 x.1, .int .i64 x.2]).length = G * 2) := by
    show _ = _
    rw [putL_eq _ _ _ HFIT.out]
    simp [HT.out, HZL.out]
    omega
  have HGL := Lib.hid (grow_list L Z x i n HN.out (by omega) (by rw [HZL.out]; omega))
  generalize putL (prs (L.take i) ++ Z) (i * 2) [.int .i64 x.1, .int .i64 x.2] = L2 at *
  generalize w1.setRow w.heap.size L2.toArray = w2 at *
  clear HSRC HFIT HN1 HR1 HV1 HC1 hrz
  refine wp_region_quiet_tail 8 (by kernel_rfl) (by kernel_rfl) (fun w' => Ch No w2 w') ((Ch.refl _ _).drew) ?_
  simp only [List.take_succ_cons, List.take_zero, List.drop_succ_cons, List.drop_zero]
  refine wpQuiet_value (by rfl) (.slice (some ⟨w.heap.size, 0, none⟩) (n + 1) G) (fun _ => rfl) ?_
  simp only [Act.put, List.setIfInBounds_toArray, List.set_cons_zero, List.set_cons_succ]
  refine wpQuiet_value (by rfl) (.int .i64 (i : Int)) (fun _ => rfl) ?_
  simp only [Act.put, List.setIfInBounds_toArray, List.set_cons_zero, List.set_cons_succ]
  refine wpQuiet_value (by rfl) (.int .i64 1) (fun _ => rfl) ?_
  simp only [Act.put, List.setIfInBounds_toArray, List.set_cons_zero, List.set_cons_succ]
  refine wpQuiet_value (by rfl) (.int .i64 ((i + 1 : Nat) : Int)) (fun w' => exec_add (.tmp 47) (.tmp 48) rfl (i : Int) 1 rfl rfl (by omega) (by omega) (by omega)) ?_
  simp only [Act.put, List.setIfInBounds_toArray, List.set_cons_zero, List.set_cons_succ]
  refine wpQuiet_value (by rfl) (.slice (some ⟨w.heap.size, (i + 1) * 2, none⟩) (n - i) (G - (i + 1))) (fun w' => exec_from2 41 62 (.tmp 46) (.tmp 49) rfl Try.underlying41 2 (fun w => by kernel_rfl) w.heap.size (n + 1) G (i + 1) _ _ rfl rfl (by omega) hgc hG63 (by omega) rfl (by omega)) ?_
  simp only [Act.put, List.setIfInBounds_toArray, List.set_cons_zero, List.set_cons_succ]
  refine wpQuiet_value (by rfl) (.slice (some ⟨g, 0, none⟩) n n) (fun _ => rfl) ?_
  simp only [Act.put, List.setIfInBounds_toArray, List.set_cons_zero, List.set_cons_succ]
  refine wpQuiet_value (by rfl) (.int .i64 (i : Int)) (fun _ => rfl) ?_
  simp only [Act.put, List.setIfInBounds_toArray, List.set_cons_zero, List.set_cons_succ]
  refine wpQuiet_value (by rfl) (.slice (some ⟨g, i * 2, none⟩) (n - i) (n - i)) (fun w' => exec_from2 41 62 (.tmp 51) (.tmp 52) rfl Try.underlying41 2 (fun w => by kernel_rfl) g n n i _ _ rfl rfl (by omega) (by omega) (by omega) (by omega) rfl rfl) ?_
  simp only [Act.put, List.setIfInBounds_toArray, List.set_cons_zero, List.set_cons_succ]
  refine wpQuiet_nil ?_
  intro w3 hw3
  have HR3 := Lib.hid (HR2.out.keepNo hw3)
  have HN3 := Lib.hid (HN2.out.keepNo hw3)
  have HC3 := Lib.hid (HC2.out.then_ hw3)
  clear hw3
  have HSRC : Hid (∀ j u, (prs (L.drop i))[j]? = some u → w3.cell? ((⟨g, i * 2, none⟩ : Addr).add j) = some u) := fun j u hj => by
    rw [add_lit, HR3.out.cell, ← hj, prs_drop, List.getElem?_drop]
  have HM3 : Hid (n - i = Nat.min (n - i) (n - i)) := (Nat.min_self _).symm
  have HFIT3 : Hid ((i + 1) * 2 + (prs (L.drop i)).length ≤ L2.length) := by show _ ≤ _; rw [HD.out, HL2.out]; omega
  refine pl_copy_run w3 rfl (.tmp 50) (.tmp 53) 41 41 rfl _ _ rfl rfl _ _ (copy_row w3 _ w.heap.size ((i + 1) * 2) (n - i) (G - (i + 1)) ⟨g, i * 2, none⟩ (n - i) (n - i) (n - i) _ (prs (L.drop i)) HN3.out HM3.out HD.out HSRC.out HFIT3.out (prs_one _)) ?_
  simp only [Act.put, List.setIfInBounds_toArray, List.set_cons_zero, List.set_cons_succ]
  have HN4 := Lib.hid (HN3.out.setRow (putL L2 ((i + 1) * 2) (prs (L.drop i))))
  have HC4 : Hid (Ch No w _) := ch_newg HC3.out (ch_setRow w3 w.heap.size (putL L2 ((i + 1) * 2) (prs (L.drop i))).toArray) (Nat.le_refl _)
  rw [HGL.out] at HN4 HC4 ⊢
  clear HSRC HFIT3 HR3 HN3 HC3
  generalize w3.setRow w.heap.size (prs (L.take i ++ x :: L.drop i) ++ Z.drop ((n + 1 - i) * 2)).toArray = w4 at *
  go_wp2_with (fail)
  exact bodyPost_ret (v := .slice (some ⟨w.heap.size, 0, none⟩) (n + 1) G) (by kernel_rfl) rfl ⟨G, Z.drop ((n + 1 - i) * 2), rfl, hgc, HGM.out, by simp [HZL.out]; omega, HN4.out, HC4.out⟩
/-- the blocks that lie behind a slice -/
def Own (v : Value) : Nat → Prop := fun k => v.ownBlock = some k
theorem own_is (g o n c : Nat) : Own (.slice (some ⟨g, o, none⟩) n c) = Is g := by
  funext k
  simp only [Own, Is, Value.ownBlock, Option.some.injEq, eq_iff_iff]
  exact eq_comm
theorem own_nil (n c : Nat) : Own (.slice none n c) = No := by
  funext k
  simp [Own, No, Value.ownBlock]
theorem owns_mk2 {w : World} {base g n cap : Nat} {e : TypeId} {xs rest : List Value} (hb : base ≤ g) (h : Row w g e (xs ++ rest)) (hx : xs.length = n * 2) (hn : n ≤ cap) (hm : cap ≤ maxLen) (hr : n * 2 + rest.length = cap * 2) :
    w.ownsRow base e 2 (.slice (some ⟨g, 0, none⟩) n cap) n xs :=
  ⟨hx, .inr ⟨g, cap, (xs ++ rest).toArray, rfl, hb, h, hn, hm, by simp [hx, hr], by simp [← hx]⟩⟩
theorem info62a : (Try.prog.info? 62).map (fun i => (i.zero, i.size, i.bytes)) = some (some (.agg #[.int .i64 0, .int .i64 0]), 2, 16) := by kernel_rfl
/-- what Insert leaves -/
def Insd (base n i : Nat) (L : List (Int × Int)) (x : Int × Int) (v : Value) (w : World) (e : Ending) (w' : World) : Prop :=
  ∃ v', e = .returned v' ∧ w'.ownsRow base 62 2 v' (n + 1) (prs (L.take i ++ x :: L.drop i)) ∧ Ch (Own v) w w' ∧ (v'.ownBlock = v.ownBlock ∨ v'.ownBlock = some w.heap.size)
theorem take_all (L : List (Int × Int)) (n : Nat) (hn : n = L.length) (x : Int × Int) : prs (L.take n ++ x :: L.drop n) = prs L ++ [.int .i64 x.1, .int .i64 x.2] := by
  subst hn
  simp [prs_append, prs]
set_option maxHeartbeats 4000000 in
theorem insert_end (L : List (Int × Int)) (base vb n : Nat) (v : Value) (w : World) (x : Int × Int) (hn : n = L.length) (hb : n + 1 ≤ 1000000) (hbase : base ≤ w.heap.size) (hown : w.ownsRow base 62 2 v n (prs L)) (hv : Row w vb 62 [.int .i64 x.1, .int .i64 x.2]) :
    Calls Try.prog 29 #[v, .int .i64 (n : Int), .slice (some ⟨vb, 0, none⟩) 1 1] w (Insd base n n L x v w) := by
  have HO := Lib.hid hown
  have HV := Lib.hid hv
  have HN := Lib.hid hn
  have HON : Hid (∀ u ∈ [Value.int .i64 x.1, .int .i64 x.2], u.oneCell' = true) := fun v hv => by
    simp at hv
    rcases hv with rfl | rfl <;> rfl
  have HF : Hid (∀ e w' v', e = .returned v' → w'.ownsRow base 62 2 v' (n + 1) (prs L ++ [.int .i64 x.1, .int .i64 x.2]) → w.grownBy w' v.ownBlock → (v'.ownBlock = v.ownBlock ∨ v'.ownBlock = some w.heap.size) → Insd base n n L x v w e w') := fun e w' v' he ho hg hor =>
    ⟨v', he, by rw [take_all L n hn]; exact ho, (Ch.of_grownBy hg).mono (fun k _ hk => hk), hor⟩
  clear hv hn
  have hnn : ((n : Int) == (n : Int)) = true := by simp
  rcases owns_open_sz hown with ⟨rfl, h0⟩ | ⟨g, cap, rest, rfl, hbg, hr, hncap, hcm, hlen⟩
  · clear hown
    have hcl : Hid (Cl w (some ⟨vb, 0, none⟩) [.int .i64 x.1, .int .i64 x.2]) := HV.out.cl0
    have h0' : (n : Int) = 0 := by omega
    go_enter Try.func29, Try.ntmps29
    go_wp2_with ((with_reducible refine at_op (o := ⟨some 25, .call { callee := .builtin .append, args := #[.tmp 23, .tmp 24], argTypes := #[41, 41] }, _, _, _, _⟩) ?_); refine wpList_append_sz rfl (.tmp 23) (.tmp 24) 41 rfl base 62 (.agg #[.int .i64 0, .int .i64 0]) 2 16 Try.underlying41 info62a rfl (by omega) _ n (prs L) rfl ⟨vb, 0, none⟩ 1 1 [.int .i64 x.1, .int .i64 x.2] rfl HO.out rfl hcl.out HON.out (by omega) (by omega) hbase ?_; rintro v2 w2 ho2 hg2 hor2; have HG := Lib.hid ho2; have HGR := Lib.hid hg2; have HOR := Lib.hid hor2; clear ho2 hg2 hor2)
    exact bodyPost_ret (v := v2) (by kernel_rfl) rfl (HF.out _ _ _ rfl HG.out HGR.out HOR.out)
  · have hcap63 : cap ≤ 9223372036854775807 := by unfold maxLen at hcm; omega
    clear hown hr hcm
    have hcl : Hid (Cl w (some ⟨vb, 0, none⟩) [.int .i64 x.1, .int .i64 x.2]) := HV.out.cl0
    go_enter Try.func29, Try.ntmps29
    go_wp2_with ((with_reducible refine at_op (o := ⟨some 25, .call { callee := .builtin .append, args := #[.tmp 23, .tmp 24], argTypes := #[41, 41] }, _, _, _, _⟩) ?_); refine wpList_append_sz rfl (.tmp 23) (.tmp 24) 41 rfl base 62 (.agg #[.int .i64 0, .int .i64 0]) 2 16 Try.underlying41 info62a rfl (by omega) _ n (prs L) rfl ⟨vb, 0, none⟩ 1 1 [.int .i64 x.1, .int .i64 x.2] rfl HO.out rfl hcl.out HON.out (by omega) (by omega) hbase ?_; rintro v2 w2 ho2 hg2 hor2; have HG := Lib.hid ho2; have HGR := Lib.hid hg2; have HOR := Lib.hid hor2; clear ho2 hg2 hor2)
    all_goals exact bodyPost_ret (v := v2) (by kernel_rfl) rfl (HF.out _ _ _ rfl HG.out HGR.out HOR.out)
theorem insert_calls (L : List (Int × Int)) (base vb n i : Nat) (v : Value) (w : World) (x : Int × Int) (hn : n = L.length) (hb : n + 1 ≤ 1000000) (hi : i ≤ n) (hbase : base ≤ w.heap.size) (hown : w.ownsRow base 62 2 v n (prs L)) (hv : Row w vb 62 [.int .i64 x.1, .int .i64 x.2]) (hne : ¬ v.ownBlock = some vb) :
    Calls Try.prog 29 #[v, .int .i64 (i : Int), .slice (some ⟨vb, 0, none⟩) 1 1] w (Insd base n i L x v w) := by
  by_cases hin : i = n
  · subst hin
    exact insert_end L base vb i v w x hn hb hbase hown hv
  have hll : (prs (L.take i ++ x :: L.drop i)).length = (n + 1) * 2 := by rw [prs_length]; simp; omega
  rcases owns_open_sz hown with ⟨rfl, h0⟩ | ⟨g, cap, rest, rfl, hbg, hr, hncap, hcm, hlen⟩
  · omega
  · have hvg : vb ≠ g := fun e => hne (by simp [Value.ownBlock, e])
    rw [prs_length, ← hn] at hlen
    by_cases hc : cap = n
    · subst hc
      have : rest = [] := List.eq_nil_of_length_eq_zero (by omega)
      subst this
      rw [List.append_nil] at hr
      refine (insert_grow L g vb cap i w x hn hb (by omega) hr hv).mono ?_
      rintro e w' ⟨G, R, rfl, hG, hGm, hRl, hrow, hch⟩
      exact ⟨_, rfl, owns_mk2 hbase hrow hll hG hGm hRl, hch.mono (fun _ _ h => h.elim), .inr rfl⟩
    · match rest, hlen with
      | [], h => exact absurd h (by simp; omega)
      | [_], h => exact absurd h (by simp; omega)
      | p :: q :: R, h =>
        simp only [List.length_cons] at h
        refine (insert_room L p q R g vb n cap i w x hn hb (by omega) (by omega) hcm hr hv hvg).mono ?_
        rintro e w' ⟨rfl, hrow, hch⟩
        exact ⟨_, rfl, owns_mk2 hbg hrow hll (by omega) hcm (by omega), by rw [own_is]; exact hch, .inl rfl⟩
end Go.Proofs.Ytbcnkggecgblbaa
