/- the law's function 'listed'. -/
import Derived.Test.YtbcnkggecgblbaaB6
set_option linter.unusedVariables false
set_option linter.unusedSimpArgs false
namespace Go.Proofs.Ytbcnkggecgblbaa
open Go.RowKit
/-- the line and the reference's line are one -/
structure Cor (L : List (Int × Int)) (X : List Tri) (T : Int) (M : List Tri) : Prop where
  ord : Ord X M
  eq : L = M.map (fun x => (x.1, x.2.1))
  tm : ∀ x ∈ X, x.2.2 ≤ T
theorem Cor.ids {L : List (Int × Int)} {X M : List Tri} {T : Int} (h : Cor L X T M) : ids3 M = ids L := by
  rw [h.eq]
  simp [ids3, Go.Proofs.Ytbcnkggecgblbaa.ids]
theorem Ln.keepD {D : Nat → Prop} {base p : Nat} {N : Int} {v : Value} {L : List (Int × Int)} {w w' : World} (h : Ln base p N v L w) (hc : Ch D w w') (hp : ¬ D p) (hv : ∀ k, v.ownBlock = some k → ¬ D k) : Ln base p N v L w' :=
  ⟨h.row.keep hc hp, owns_keep h.own hc hv, h.pb, Nat.le_trans h.hb hc.size, h.nd, h.rg, h.hN⟩
/-- blocks of another type are kept where an owned list alone may change -/
theorem row_keepOwn {b n : Nat} {w w' : World} {v : Value} {xs : List Value} (ho : w.ownsRow b 3 1 v n xs) (hc : Ch (Own v) w w') {g : Nat} {t : TypeId} {L : List Value} (hr : Row w g t L) (ht : t ≠ 3) : Row w' g t L :=
  hr.keep hc (fun hk => own_ne_row ho hr ht hk)
theorem Ln.keepOwn {b n base p : Nat} {N : Int} {v u : Value} {L : List (Int × Int)} {w w' : World} {xs : List Value} (h : Ln base p N v L w) (ho : w.ownsRow b 3 1 u n xs) (hc : Ch (Own u) w w') : Ln base p N v L w' :=
  h.keepD hc (own_ne_row ho h.row (by decide)) (fun k hk hd => by
    rcases h.cases with ⟨rfl, _⟩ | ⟨g, cap, rest, rfl, _, hr, _⟩
    · cases hk
    · have : g = k := by simpa [Value.ownBlock] using hk
      subst this
      exact own_ne_row ho hr (by decide) hd)
theorem Ol.keepD {D : Nat → Prop} {b : Nat} {w w' : World} {v : Value} {xs : List Int} (h : Ol b w v xs) (hc : Ch D w w') (hd : ∀ k, v.ownBlock = some k → ¬ D k) : Ol b w' v xs := ⟨owns_keep h.1 hc hd, h.2⟩
theorem Ol.open {b : Nat} {w : World} {v : Value} {xs : List Int} (h : Ol b w v xs) :
    (v = .slice none 0 0 ∧ xs = []) ∨ ∃ g cap rest, v = .slice (some ⟨g, 0, none⟩) xs.length cap ∧ b ≤ g ∧ Row w g 3 (ints xs ++ rest) ∧ xs.length + rest.length = cap ∧ cap ≤ maxLen := by
  rcases owns_open h.1 with ⟨hv, hx⟩ | ⟨g, cap, rest, hv, hb, hr, hl, hm⟩
  · refine .inl ⟨hv, ?_⟩
    apply List.eq_nil_of_length_eq_zero
    rw [← ints_length, hx]
    rfl
  · exact .inr ⟨g, cap, rest, by rw [hv, ints_length], hb, hr, by rw [← hl, ints_length], hm⟩
theorem owns_mk1 {w : World} {base g n cap : Nat} {e : TypeId} {xs rest : List Value} (hb : base ≤ g) (h : Row w g e (xs ++ rest)) (hx : xs.length = n) (hm : cap ≤ maxLen) (hr : n + rest.length = cap) :
    w.ownsRow base e 1 (.slice (some ⟨g, 0, none⟩) n cap) n xs :=
  ⟨by omega, .inr ⟨g, cap, (xs ++ rest).toArray, rfl, hb, h, by omega, hm, by simp; omega, by simp [← hx]⟩⟩
theorem same_self {w : World} {v u : Value} {xs : List Int} (hx : Sl w v xs) (hy : Sl w u xs) :
    Calls Try.prog 25 #[v, u] w fun e w' => e = .returned (.bool true) ∧ Ch No w w' := by
  refine (same_calls hx hy).mono ?_
  rintro e w' ⟨rfl, hd⟩
  exact ⟨by simp, hd.ch⟩
/-- what lasts in 'listed' -/
structure LB (w0 : World) (base p : Nat) (N : Int) (v : Value) (L : List (Int × Int)) (b5 b7 : Nat) (v5 v7 : Value) (w : World) : Prop where
  h5 : Ol b5 w v5 (ids L)
  h7 : Ol b7 w v7 (ids L)
  ln : Ln base p N v L w
  ch : Ch No w0 w
theorem LB.no {w0 : World} {base p : Nat} {N : Int} {v : Value} {L : List (Int × Int)} {b5 b7 : Nat} {v5 v7 : Value} {w w' : World} (h : LB w0 base p N v L b5 b7 v5 v7 w) (hc : Ch No w w') : LB w0 base p N v L b5 b7 v5 v7 w' :=
  ⟨h.h5.keepNo hc, h.h7.keepNo hc, h.ln.keepNo hc, h.ch.then_ hc⟩
set_option maxHeartbeats 8000000 in
theorem listed_calls {base p : Nat} {N T : Int} {v u : Value} {L : List (Int × Int)} {X M : List Tri} {w : World} (h : Ln base p N v L w) (hx : Rf w u X) (hc : Cor L X T M) :
    Calls Try.prog 8 #[.pointer (some ⟨p, 0, none⟩), .agg (rl N u T).toArray] w fun e w' => e = .returned (.bool true) ∧ Ch No w w' := by
  have hsm := h.small
  have HB0 : Hid (Row (w.alloc (.cells (rl N u T).toArray 28)) w.heap.size 28 (rl N u T)) := Row.new w 28 (rl N u T)
  have HC : Hid (Ch No w (w.alloc (.cells (rl N u T).toArray 28))) := (Ch.refl _ _).alloc _
  have HX := Lib.hid (hx.keepNo HC.out)
  have HL := Lib.hid (h.keepNo HC.out)
  have HO := Lib.hid hc.ord
  have HI := Lib.hid hc.ids
  clear h hx hc
  go_enter Try.func8, Try.ntmps8
  go_upto_region 1 with (fail)
  change Code.wp _ _ _ _ (w.alloc (.cells (rl N u T).toArray 28))
  generalize w.alloc (.cells (rl N u T).toArray 28) = w1 at *
  go_wp2_with ((with_reducible refine at_op (o := ⟨some 11, .load 28 (.tmp 3), _, _, _, _⟩) ?_); refine pl_load rfl 28 (.tmp 3) rfl w.heap.size rfl 28 (rl N u T) HB0.out _ Try.underlying28 rfl size28 ?_)
  refine (rlist_calls HX.out HO.out N T).mono ?_
  rintro e w2 ⟨v5, rfl, ho5, hc2⟩
  rw [HI.out] at ho5
  have hil : (ids L).length = L.length := ids_length L
  have HIL := Lib.hid hil
  have h106 : (ids L).length ≤ 1000000 := by omega
  have h655 : (ids L).length ≤ 65535 := by omega
  clear hil
  have H5 : Hid (Ol w1.heap.size w2 v5 (ids L)) := ⟨ho5, h106⟩
  have HL2 := Lib.hid (HL.out.keepNo hc2)
  have HC2 := Lib.hid (HC.out.then_ hc2)
  have HS2 : Hid (w.heap.size ≤ w2.heap.size) := (HC.out.then_ hc2).size
  clear ho5 hc2 HB0 HC HX HL HO HI
  go_wp2_with (fail)
  refine (list_calls HL2.out).mono ?_
  rintro e w3 ⟨v6, rfl, ho6, hc3⟩
  have H6 : Hid (Ol w2.heap.size w3 v6 (ids L)) := ⟨ho6, h106⟩
  have H53 := Lib.hid (H5.out.keepNo hc3)
  have HL3 := Lib.hid (HL2.out.keepNo hc3)
  have HC3 := Lib.hid (HC2.out.then_ hc3)
  have HB5 : Hid (∀ k, v5.ownBlock = some k → k < w2.heap.size) := fun k hk => (H5.out.1.lt k hk).2
  have HW23 := Lib.hid hc3.size
  clear ho6 hc3 HL2 HC2 H5
  go_wp2_with (fail)
  refine (list_calls HL3.out).mono ?_
  rintro e w4 ⟨v7, rfl, ho7, hc4⟩
  have H6B : Hid (∀ k, v6.ownBlock = some k → w2.heap.size ≤ k ∧ k < w3.heap.size) := fun k hk => H6.out.1.lt k hk
  have H64 := Lib.hid (H6.out.keepNo hc4)
  have HLB : Hid (LB w base p N v L w1.heap.size w3.heap.size v5 v7 w4) := ⟨H53.out.keepNo hc4, ⟨ho7, h106⟩, HL3.out.keepNo hc4, HC3.out.then_ hc4⟩
  have HB7 : Hid (∀ k, v7.ownBlock = some k → w3.heap.size ≤ k) := fun k hk => (HLB.out.h7.1.lt k hk).1
  have HW23 : Hid (w2.heap.size ≤ w4.heap.size) := Nat.le_trans HW23.out hc4.size
  clear ho7 hc4 HL3 HC3 H53 H6
  go_wp2_with (fail)
  refine (same_self H64.out.sl HLB.out.h5.sl).mono ?_
  rintro e w5 ⟨rfl, hd5⟩
  have H65 := Lib.hid (H64.out.keepNo hd5)
  have HLB5 := Lib.hid (HLB.out.no hd5)
  have HW23 : Hid (w2.heap.size ≤ w5.heap.size) := Nat.le_trans HW23.out hd5.size
  clear hd5 H64 HLB
  go_wp2_with (fail)
  refine (same_self HLB5.out.h7.sl HLB5.out.h5.sl).mono ?_
  rintro e w6 ⟨rfl, hd6⟩
  have H66 := Lib.hid (H65.out.keepNo hd6)
  have HLB6 := Lib.hid (HLB5.out.no hd6)
  have HW23 : Hid (w2.heap.size ≤ w6.heap.size) := Nat.le_trans HW23.out hd6.size
  clear hd6 H65 HLB5
  go_wp2_with (fail)
  refine (len_calls HLB6.out.ln).mono ?_
  rintro e w7 ⟨rfl, rfl⟩
  obtain ⟨A5, c5, rfl, _⟩ := HLB6.out.h5.sl
  obtain ⟨A6, c6, rfl, _⟩ := H66.out.sl
  have hlen : ((L.length : Int) != ((ids L).length : Int)) = false := by rw [HIL.out]; simp
  have HW27 : Hid (w2.heap.size ≤ w7.heap.size) := HW23
  have HOW : Hid (w7.ownsRow w2.heap.size 3 1 (.slice A6 (ids L).length c6) (ids L).length (ints (ids L))) := by
    have := H66.out.1
    rw [ints_length] at this
    exact this
  go_wp2_with (fail)
  go_loopw [8] (fun i wr => ∃ (j : Nat) (zs : List Int), j ≤ (ids L).length ∧ i = .int .i64 j ∧ Hid (zs.length = (ids L).length) ∧ Hid (wr.ownsRow w2.heap.size 3 1 (.slice A6 (ids L).length c6) (ids L).length (ints zs)) ∧ Hid (Ch (Own (.slice A6 (ids L).length c6)) w7 wr)) (fun i _ => (ids L).length - (intOf i).toNat)
  case atStart => exact ⟨0, ids L, Nat.zero_le _, rfl, rfl, HOW, Ch.refl _ _⟩
  case round =>
    obtain ⟨j, zs, hj, rfl, HZ, HO, HC⟩ := hrel
    by_cases hlt : j < (ids L).length
    · have d0 : decide ((j : Int) < ((ids L).length : Int)) = true := by simpa using hlt
      have hji : (j : Int) < ((ids L).length : Int) := by omega
      rcases owns_open_sz HO.out with ⟨hv, h0⟩ | ⟨g, cap, rest, hv, hb, hr, hn, hm, hl⟩
      · omega
      · cases hv
        have HR := Lib.hid hr
        have hgw := hr.lt
        have hzz : (ints zs).length = (ids L).length := by rw [ints_length, HZ.out]
        have hc1 : (wr.cell? ⟨g, j, none⟩).isSome = true := by
          rw [hr.cell, List.getElem?_append_left (by rw [hzz]; exact hlt)]
          simp [hzz]
          omega
        have hf1 : wr.frozen? ⟨g, j, none⟩ = false := hr.frozen _
        obtain ⟨old, hold⟩ := Option.isSome_iff_exists.1 hc1
        clear hr
        go_wp2_with (fail)
        have hr2 := HR.out.set_ j (.int .i64 (-5))
        have hz2 : (ints zs ++ rest).set j (.int .i64 (-5)) = ints (zs.set j (-5)) ++ rest := by
          rw [List.set_append_left _ _ (by rw [hzz]; exact hlt)]
          simp [ints, List.map_set]
        rw [hz2] at hr2
        refine ⟨⟨j + 1, zs.set j (-5), by omega, by go_num, by rw [List.length_set]; exact HZ, owns_mk1 hb hr2 (by rw [ints_length, List.length_set, HZ.out]) hm (by omega), HC.out.setCell (p := ⟨g, j, none⟩) (fun _ => rfl) _⟩, by simp [intOf]; omega⟩
    · obtain rfl : j = (ids L).length := by omega
      have d0 : decide (((ids L).length : Int) < ((ids L).length : Int)) = false := by simp
      have HLB8 : Hid (LB w base p N v L w1.heap.size w3.heap.size (.slice A5 (ids L).length c5) v7 wr) := by
        refine ⟨HLB6.out.h5.keepD HC.out (fun k hk hd => ?_), HLB6.out.h7.keepD HC.out (fun k hk hd => ?_), HLB6.out.ln.keepOwn HOW.out HC.out, HLB6.out.ch.trans HC.out (fun i hi hd => ?_)⟩
        · have h1 := HB5.out k hk
          have h2 := (H6B.out k hd).1
          omega
        · have h1 := HB7.out k hk
          have h2 := (H6B.out k hd).2
          omega
        · have h2 := (H6B.out i hd).1
          have := HS2.out
          omega
      have HW28 : Hid (w2.heap.size ≤ wr.heap.size) := Nat.le_trans HW27.out HC.out.size
      have HO8 := HO
      have HC8 : Hid (Ch (Own (.slice A6 (ids L).length c6)) wr wr) := Ch.refl _ _
      have HZ8 := HZ
      generalize wr = w8 at *
      clear HO HC HZ H66 HOW HLB6
      go_wp2_with (fail)
      go_loopw [9, 10] (fun o i wr => ∃ (k : Nat) (ys : List Int), k ≤ 64 ∧ i = .int .i64 k ∧ Hid (ys.length = (ids L).length + k) ∧ Hid (wr.ownsRow w2.heap.size 3 1 o (ints ys).length (ints ys)) ∧ Hid (∀ q, o.ownBlock = some q → Own (.slice A6 (ids L).length c6) q ∨ w8.heap.size ≤ q) ∧ Hid (Ch (Own (.slice A6 (ids L).length c6)) w8 wr)) (fun _ i _ => 64 - (intOf i).toNat)
      case atStart => exact ⟨0, zs, Nat.zero_le _, rfl, by rw [Nat.add_zero]; exact HZ8, by rw [ints_length, HZ8.out]; exact HO8.out, fun q hq => .inl hq, HC8⟩
      case round =>
        obtain ⟨k, ys, hk, rfl, HY, HO, HQ, HC⟩ := hrel
        by_cases hlt2 : k < 64
        · have d2 : decide ((k : Int) < 64) = true := decide_eq_true (by omega)
          have HBY : Hid (((ints ys).length + 1) * 8 ≤ 140737488355328) := by show _ ≤ _; rw [ints_length, HY.out]; omega
          have HW2 : Hid (w2.heap.size ≤ w8.heap.size) := HW28
          have HBS : Hid (w2.heap.size ≤ (wr.alloc (.cells (ints [-6]).toArray 3)).heap.size) := Nat.le_trans HW2.out (HC.out.alloc _).size
          have HPX : Hid (ints ys ++ ints [-6] = ints (ys ++ [-6])) := (ints_append _ _).symm
          have HNX : Hid (∀ (v1 : Value) (w9 : World), (wr.alloc (.cells (ints [-6]).toArray 3)).grownBy w9 u9.ownBlock → (v1.ownBlock = u9.ownBlock ∨ v1.ownBlock = some (wr.alloc (.cells (ints [-6]).toArray 3)).heap.size) → Ch (Own (.slice A6 (ids L).length c6)) w8 w9 ∧ Hid (∀ q, v1.ownBlock = some q → Own (.slice A6 (ids L).length c6) q ∨ w8.heap.size ≤ q)) := by
            intro v1 w9 hg hor
            refine ⟨(HC.out.alloc _).trans (Ch.of_grownBy hg) (fun i hi hd => ?_), fun q hq => ?_⟩
            · rcases HQ.out i hd with h | h
              · exact h
              · omega
            · rcases hor with h | h
              · exact HQ.out q (h ▸ hq)
              · right
                rw [h] at hq
                cases hq
                exact (HC.out.alloc _).size
          go_wp2_with ((with_reducible refine at_op (o := ⟨some 52, .call { callee := .builtin .append, args := #[.tmp 50, .tmp 51], argTypes := #[37, 37] }, _, _, _, _⟩) ?_); refine wpList_append_to rfl (.tmp 50) (.tmp 51) 37 rfl w2.heap.size 3 (.int .i64 0) 8 Try.underlying37 info3 rfl u9 (ints ys) rfl _ _ _ (ints [-6]) rfl (HO.out.alloc _) (ints_length _) ((Row.new wr 3 (ints [-6])).cl0) (ints_one _) HBY.out (by omega) HBS.out ?_; intro v1 w9 ho9 hg9 hor9; rw [HPX.out] at ho9; have HO9 := Lib.hid ho9; have HG9 := Lib.hid (HNX.out v1 w9 hg9 hor9); clear ho9 hg9 hor9)
          refine ⟨⟨k + 1, ys ++ [-6], by omega, by go_num, ?_, HO9, HG9.out.2, HG9.out.1⟩, by simp [intOf]; omega⟩
          show _ = _
          rw [List.length_append, HY.out]
          rfl
        · obtain rfl : k = 64 := by omega
          have hLo : Hid (Ol w2.heap.size wr u9 ys) := ⟨HO.out, by rw [HY.out]; omega⟩
          obtain ⟨A9, c9, rfl, _⟩ := hLo.out.sl
          rw [HY.out]
          have HLB9 : Hid (LB w base p N v L w1.heap.size w3.heap.size (.slice A5 (ids L).length c5) v7 wr) := by
            refine ⟨HLB8.out.h5.keepD HC.out (fun k hk hd => ?_), HLB8.out.h7.keepD HC.out (fun k hk hd => ?_), HLB8.out.ln.keepOwn HO8.out HC.out, HLB8.out.ch.trans HC.out (fun i hi hd => ?_)⟩
            · have h1 := HB5.out k hk
              have h2 := (H6B.out k hd).1
              omega
            · have h1 := HB7.out k hk
              have h2 := (H6B.out k hd).2
              omega
            · have h2 := (H6B.out i hd).1
              have := HS2.out
              omega
          have heq : ((((ids L).length + 64 : Nat) : Int) == ((ids L).length : Int) + 64) = true := by simp
          have h64 : ((ids L).length : Int) + 64 ≤ 9223372036854775807 := by omega
          clear HC HO HQ HY HO8 HLB8 HC8 HZ8 hLo
          go_wp2_with (fail)
          refine (same_self HLB9.out.h7.sl HLB9.out.h5.sl).mono ?_
          rintro e w10 ⟨rfl, hd10⟩
          have HLB10 := Lib.hid (HLB9.out.no hd10)
          clear hd10 HLB9
          go_wp2_with (fail)
          refine (list_calls HLB10.out.ln).mono ?_
          rintro e w11 ⟨v11, rfl, ho11, hc11⟩
          have H11 : Hid (Ol w10.heap.size w11 v11 (ids L)) := ⟨ho11, h106⟩
          have HLB11 := Lib.hid (HLB10.out.no hc11)
          clear ho11 hc11 HLB10
          go_wp2_with (fail)
          refine (same_self H11.out.sl HLB11.out.h5.sl).mono ?_
          rintro e w12 ⟨rfl, hd12⟩
          have HC12 := Lib.hid (HLB11.out.ch.then_ hd12)
          clear hd12 HLB11
          go_wp2_with (fail)
          go_ret
          exact ⟨rfl, HC12.out⟩
end Go.Proofs.Ytbcnkggecgblbaa
