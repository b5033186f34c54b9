/- The reference of package mem: Within, Writable, Load, New, Read. -/
import Derived.Test.YtbllpojljdhnoaaM2
import Derived.Test.YtbllpojljdhnoaaP
import Derived.Test.YtbllpojljdhnoaaQ
import Derived.LoopTactic
import Derived.BigQuiet
import Derived.Deep.DeepCutAuto
set_option linter.unusedVariables false
set_option linter.unusedSimpArgs false
namespace Go.Proofs.Ytbllpojljdhnoaa
open Go.RowKit
/-- a list of words that lies somewhere -/
def Sl (w : World) (v : Value) (xs : List Int) : Prop := ∃ A cap, v = .slice A xs.length cap ∧ Cl w A (ints xs) ∧ xs.length ≤ 10000000
theorem Sl.keepNo {w w' : World} {v : Value} {xs : List Int} (h : Sl w v xs) (hc : Ch No w w') : Sl w' v xs := by
  obtain ⟨A, cap, hv, hcl, hl⟩ := h
  exact ⟨A, cap, hv, hcl.keepNo hc, hl⟩
/-- a list of words of one's own -/
def Ol (b : Nat) (w : World) (v : Value) (xs : List Int) : Prop := w.ownsRow b 2 1 v (ints xs).length (ints xs) ∧ xs.length ≤ 10000000
theorem Ol.sl {b : Nat} {w : World} {v : Value} {xs : List Int} (h : Ol b w v xs) : Sl w v xs := by
  rcases owns_open h.1 with ⟨hv, hx⟩ | ⟨g, cap, rest, hv, hb, hr, hl, hm⟩
  · have : xs = [] := by
      apply List.eq_nil_of_length_eq_zero
      rw [← ints_length, hx]
      rfl
    subst this
    exact ⟨none, 0, hv, by exact Cl.nil _ _, h.2⟩
  · rw [ints_length] at hv
    exact ⟨_, cap, hv, row_cl hr, h.2⟩
theorem Ol.keepD {D : Nat → Prop} {b : Nat} {w w' : World} {v : Value} {xs : List Int} (h : Ol b w v xs) (hc : Ch D w w') (hd : ∀ k, v.ownBlock = some k → ¬ D k) : Ol b w' v xs := ⟨owns_keep h.1 hc hd, h.2⟩
theorem Ol.keepNo {b : Nat} {w w' : World} {v : Value} {xs : List Int} (h : Ol b w v xs) (hc : Ch No w w') : Ol b w' v xs := h.keepD hc (fun _ _ => not_no _)
theorem same_calls {w : World} {v u : Value} {xs ys : List Int} (hx : Sl w v xs) (hy : Sl w u ys) :
    Calls Try.prog 14 #[v, u] w fun e w' => e = .returned (.bool (decide (xs = ys))) ∧ Ch No w w' := by
  obtain ⟨A, c, rfl, hA, hl⟩ := hx
  obtain ⟨B, d, rfl, hB, hm⟩ := hy
  by_cases h : xs.length = ys.length
  · refine (same_eq A B c d xs ys w (by omega) h hA hB).mono ?_
    rintro e w' ⟨rfl, hd⟩
    exact ⟨rfl, hd.ch⟩
  · refine (same_len A B c d _ _ w (by omega) (by omega) h).mono ?_
    rintro e w' ⟨rfl, hd⟩
    exact ⟨by rw [decide_eq_false (fun e => h (by rw [e]))], hd.ch⟩
theorem same_self {w : World} {v u : Value} {xs : List Int} (hx : Sl w v xs) (hy : Sl w u xs) :
    Calls Try.prog 14 #[v, u] w fun e w' => e = .returned (.bool true) ∧ Ch No w w' := by
  refine (same_calls hx hy).mono ?_
  rintro e w' ⟨rfl, hd⟩
  exact ⟨by simp, hd⟩
theorem rwithin (words addr n : Int) (w : World) (hw : words ≤ 9223372036854775807) (hw0 : -9223372036854775808 ≤ words) :
    Calls Try.prog 29 #[.int .i64 words, .int .i64 addr, .int .i64 n] w fun e w' => e = .returned (.bool (may words 0 addr n)) ∧ w = w' := by
  go_enter Try.func29, Try.ntmps29
  go_wp2
  all_goals go_ret
  all_goals refine ⟨?_, rfl⟩
  all_goals congr 2
  all_goals (unfold may; simp [*]; try omega)
theorem may_and (words fixed addr n : Int) : may words fixed addr n = (may words 0 addr n && decide (fixed ≤ addr)) := by
  unfold may
  cases h1 : decide (0 ≤ words) <;> cases h2 : decide (0 ≤ n) <;> cases h3 : decide (n ≤ words) <;> cases h4 : decide (0 ≤ addr) <;> cases h5 : decide (fixed ≤ addr) <;> cases h6 : decide (addr ≤ words - n) <;> rfl
theorem rwritable (words fixed addr n : Int) (w : World) (hw : words ≤ 9223372036854775807) (hw0 : -9223372036854775808 ≤ words) :
    Calls Try.prog 25 #[.int .i64 words, .int .i64 fixed, .int .i64 addr, .int .i64 n] w fun e w' => e = .returned (.bool (may words fixed addr n)) ∧ w = w' := by
  rw [may_and]
  have H := Lib.hid (rwithin words addr n w hw hw0)
  cases hm : may words 0 addr n
  · rw [hm] at H
    go_enter Try.func25, Try.ntmps25
    go_wp2_with (fail)
    refine H.out.mono ?_
    rintro e w' ⟨rfl, rfl⟩
    go_wp2_with (fail)
    go_ret
    exact ⟨rfl, rfl⟩
  · rw [hm] at H
    go_enter Try.func25, Try.ntmps25
    go_wp2_with (fail)
    refine H.out.mono ?_
    rintro e w' ⟨rfl, rfl⟩
    go_wp2_with (fail)
    go_ret
    exact ⟨by simp, rfl⟩
/-- what Load answers -/
def ldv (xs : List Int) (addr : Int) : Int := if may xs.length 0 addr 1 then xs.getD addr.toNat 0 else 0
theorem load_calls {w : World} {v : Value} {xs : List Int} (h : Sl w v xs) (hc : ∀ A c, v = .slice A xs.length c → xs.length ≤ c) (addr : Int) :
    Calls Try.prog 19 #[v, .int .i64 addr] w fun e w' => e = .returned (.tuple #[.int .i64 (ldv xs addr), .bool (may xs.length 0 addr 1)]) ∧ w = w' := by
  obtain ⟨A, cap, rfl, hcl, hl⟩ := h
  unfold ldv
  cases hm : may xs.length 0 addr 1
  · exact load_no A _ cap addr w (by omega) hm
  · exact load_yes A cap addr xs w (by omega) (hc A cap rfl) hm hcl
theorem rload_calls {w : World} {v : Value} {xs : List Int} (h : Sl w v xs) (addr : Int) :
    Calls Try.prog 21 #[v, .int .i64 addr] w fun e w' => e = .returned (.tuple #[.int .i64 (ldv xs addr), .bool (may xs.length 0 addr 1)]) ∧ w = w' := by
  obtain ⟨A, cap, rfl, hcl, hl⟩ := h
  have H := Lib.hid (rwithin xs.length addr 1 w (by omega) (by omega))
  unfold ldv
  cases hm : may xs.length 0 addr 1
  · rw [hm] at H
    go_enter Try.func21, Try.ntmps21
    go_wp2_with (fail)
    refine H.out.mono ?_
    rintro e w' ⟨rfl, rfl⟩
    go_wp2_with (fail)
    exact bodyPost_ret (v := .tuple #[.int .i64 0, .bool false]) (by kernel_rfl) rfl ⟨rfl, rfl⟩
  · rw [hm] at H
    have hy := may_yes hm
    obtain ⟨an, rfl⟩ := Int.eq_ofNat_of_zero_le hy.2.2.2.1
    have hlt : an < xs.length := by omega
    obtain ⟨ad, rfl, hcell⟩ := cl_rd hcl an hlt
    have hai : ((an : Nat) : Int) < (xs.length : Int) := by omega
    clear hm hy hcl
    go_enter Try.func21, Try.ntmps21
    go_wp2_with (fail)
    refine H.out.mono ?_
    rintro e w' ⟨rfl, rfl⟩
    go_wp2_with (fail)
    exact bodyPost_ret (v := .tuple #[.int .i64 (rd xs an), .bool true]) (by kernel_rfl) rfl ⟨by simp [rd, hlt], rfl⟩
/-- what Read answers -/
def rdl (xs : List Int) (addr n : Int) : List Int := if may xs.length 0 addr n then (xs.drop addr.toNat).take n.toNat else []
set_option maxHeartbeats 4000000 in
theorem rread_calls {w : World} {v : Value} {xs : List Int} (h : Sl w v xs) (addr n : Int) :
    Calls Try.prog 23 #[v, .int .i64 addr, .int .i64 n] w fun e w' => ∃ v', e = .returned (.tuple #[v', .bool (may xs.length 0 addr n)]) ∧ Ol w.heap.size w' v' (rdl xs addr n) ∧ Ch No w w' := by
  obtain ⟨A, cap, rfl, hcl, hl⟩ := h
  have H := Lib.hid (rwithin xs.length addr n w (by omega) (by omega))
  unfold rdl
  cases hm : may xs.length 0 addr n
  · rw [hm] at H
    go_enter Try.func23, Try.ntmps23
    go_wp2_with (fail)
    refine H.out.mono ?_
    rintro e w' ⟨rfl, rfl⟩
    go_wp2_with (fail)
    exact bodyPost_ret (v := .tuple #[.slice none 0 0, .bool false]) (by kernel_rfl) rfl ⟨.slice none 0 0, rfl, ⟨by exact owns_nil _ _ _ _, by simp⟩, Ch.refl _ _⟩
  · rw [hm] at H
    have hy := may_yes hm
    obtain ⟨an, rfl⟩ := Int.eq_ofNat_of_zero_le hy.2.2.2.1
    obtain ⟨m, rfl⟩ := Int.eq_ofNat_of_zero_le hy.2.1
    have hle : an + m ≤ xs.length := by omega
    obtain ⟨L, hL⟩ : ∃ L, L = (xs.drop ((an : Int)).toNat).take ((m : Int)).toNat := ⟨_, rfl⟩
    have hLl : L.length = m := by rw [hL]; simp; omega
    have HLG : Hid (∀ j, j < m → rd L j = rd xs (an + j)) := fun j hj => by
      rw [hL, Int.toNat_natCast, Int.toNat_natCast, rd_take _ _ _ hj, rd_drop]
    have HLL := Lib.hid hLl
    have HLE := Lib.hid hL
    have HCL := Lib.hid hcl
    rw [if_pos rfl, ← hL]
    clear hm hy hcl hL hLl
    go_enter Try.func23, Try.ntmps23
    go_wp2_with (fail)
    refine H.out.mono ?_
    rintro e w' ⟨rfl, rfl⟩
    go_wp2_with (fail)
    go_loopw [8, 9] (fun o i wr => ∃ j : Nat, j ≤ m ∧ i = .int .i64 j ∧ Hid (wr.ownsRow w.heap.size 2 1 o (ints (L.take j)).length (ints (L.take j))) ∧ Hid (Ch No w wr)) (fun _ i _ => m - (intOf i).toNat)
    case atStart => exact ⟨0, Nat.zero_le _, rfl, by exact owns_nil _ _ _ _, Ch.refl _ _⟩
    case round =>
      obtain ⟨j, hj, rfl, HO, HC⟩ := hrel
      by_cases hlt : j < m
      · have d0 : decide ((j : Int) < (m : Int)) = true := by simpa using hlt
        obtain ⟨ad, ea, hca⟩ := cl_rd (HCL.out.keepNo HC.out) (an + j) (by omega)
        subst ea
        have hs1 : (an : Int) + (j : Int) = ((an + j : Nat) : Int) := by omega
        have hca2 : wr.cell? (ad.add (an + j)) = some (.int .i64 (rd L j)) := by rw [HLG.out j hlt]; exact hca
        have hb1 : (0 : Int) ≤ (an : Int) + (j : Int) := by omega
        have hb2 : (an : Int) + (j : Int) < (xs.length : Int) := by omega
        have hb3 : (an : Int) + (j : Int) ≤ 9223372036854775807 := by omega
        have HTK : Hid (L.take (j + 1) = L.take j ++ [rd L j]) := by
          show _ = _
          have h1 := HLL.out
          rw [List.take_succ_eq_append_getElem (by omega), rd_at _ _ (by omega)]
        have HLT : Hid ((ints (L.take j)).length = j) := by show _ = _; have h1 := HLL.out; rw [ints_length, List.length_take]; omega
        have HBY : Hid (((ints (L.take j)).length + 1) * 8 ≤ 140737488355328) := by show _ ≤ _; rw [HLT.out]; omega
        have HBS : Hid (w.heap.size ≤ (wr.alloc (.cells (ints [rd L j]).toArray 2)).heap.size) := ((HC.out.alloc _).size)
        clear hs1 hca
        go_wp2_with ((with_reducible refine at_op (o := ⟨some 29, .call { callee := .builtin .append, args := #[.tmp 21, .tmp 28], argTypes := #[22, 22] }, _, _, _, _⟩) ?_); refine wpList_append_to rfl (.tmp 21) (.tmp 28) 22 rfl w.heap.size 2 (.int .i64 0) 8 Try.underlying22 info2 rfl u8 (ints (L.take j)) rfl _ _ _ (ints [rd L j]) rfl (HO.out.alloc _) (ints_length _) ((Row.new wr 2 (ints [rd L j])).cl0) (ints_one _) HBY.out (by omega) HBS.out ?_; intro v1 w2 ho2 hg2 hat2; rw [← ints_append, ← HTK.out] at ho2; have HO2 := Lib.hid ho2; have HC2 : Hid (Ch No w w2) := (grown_no (Nat.le_refl _) (HO.out.alloc _) hg2 (HC.out.alloc _)); clear ho2 hg2 hat2)
        go_roundw
        · exact ⟨j + 1, by omega, by go_num, HO2, HC2⟩
        · simp [intOf]; omega
      · obtain rfl : j = m := by omega
        have d0 : decide ((j : Int) < (j : Int)) = false := by simp
        rw [List.take_of_length_le (by have := HLL.out; omega)] at HO
        go_wp2_with (fail)
        exact bodyPost_ret (v := .tuple #[u8, .bool true]) (by kernel_rfl) rfl ⟨u8, rfl, ⟨HO.out, by have := HLL.out; omega⟩, HC.out⟩
end Go.Proofs.Ytbllpojljdhnoaa
