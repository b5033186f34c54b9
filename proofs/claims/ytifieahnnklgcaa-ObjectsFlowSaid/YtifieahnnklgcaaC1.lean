/- slices.Clone (at []int64, at [][]int64, at nil), objects.at, SameWords. -/
import Derived.Test.YtifieahnnklgcaaProg
import Derived.Test.YtifieahnnklgcaaK
import Derived.Test.YtifieahnnklgcaaP
import Derived.Test.YtifieahnnklgcaaQ
import Derived.LoopTactic
import Derived.BigQuiet
import Derived.Deep.DeepCutAuto
set_option linter.unusedVariables false
set_option linter.unusedSimpArgs false
namespace Go.Proofs.Ytifieahnnklgcaa
open Go.RowKit
theorem info2 : (Try.prog.info? 2).map (fun i => (i.zero, i.size, i.bytes)) = some (some (.int .i64 0), 1, 8) := by kernel_rfl
theorem info24 : (Try.prog.info? 24).map (fun i => (i.zero, i.size, i.bytes)) = some (some (.slice none 0 0), 1, 24) := by kernel_rfl
/-- a list of numbers that lies somewhere -/
def Sl (w : World) (v : Value) (xs : List Int) : Prop := ∃ A cap, v = .slice A xs.length cap ∧ Cl w A (ints xs) ∧ xs.length ≤ 9223372036854775807
theorem Sl.keepNo {w w' : World} {v : Value} {xs : List Int} (h : Sl w v xs) (hc : Ch No w w') : Sl w' v xs := by
  obtain ⟨A, cap, hv, hcl, hl⟩ := h
  exact ⟨A, cap, hv, hcl.keepNo hc, hl⟩
/-- a message in memory of its own -/
def Ml (w : World) (v : Value) (xs : List Int) : Prop := (∃ b, w.ownsRow b 2 1 v (ints xs).length (ints xs)) ∧ xs.length ≤ 1000000
theorem Ml.sl {w : World} {v : Value} {xs : List Int} (h : Ml w v xs) : Sl w v xs := by
  obtain ⟨⟨b, h⟩, hl⟩ := h
  rcases owns_open h with ⟨hv, hx⟩ | ⟨g, cap, rest, hv, hb, hr, _, hm⟩
  · have : xs = [] := by
      apply List.eq_nil_of_length_eq_zero
      rw [← ints_length, hx]
      rfl
    subst this
    exact ⟨none, 0, hv, by exact Cl.nil _ _, by omega⟩
  · rw [ints_length] at hv
    exact ⟨_, cap, hv, row_cl hr, by omega⟩
theorem Ml.other {w w' : World} {v : Value} {xs : List Int} (h : Ml w v xs) (hk : ∀ g L, Row w g 2 L → Row w' g 2 L) : Ml w' v xs := by
  obtain ⟨⟨b, h⟩, hl⟩ := h
  refine ⟨⟨b, h.1, ?_⟩, hl⟩
  rcases h.2 with hn | ⟨g, cap, cur, hv, hb, hg, rest⟩
  · exact .inl hn
  · refine .inr ⟨g, cap, cur, hv, hb, ?_, rest⟩
    have hr : Row w g 2 cur.toList := by unfold Row; simpa using hg
    have := hk g _ hr
    unfold Row at this
    simpa using this
theorem Ml.keepNo {w w' : World} {v : Value} {xs : List Int} (h : Ml w v xs) (hc : Ch No w w') : Ml w' v xs := h.other (fun g L hr => hr.keepNo hc)
theorem own_one {w : World} {base : Nat} {e : TypeId} {size n : Nat} {v : Value} {xs : List Value} (h : w.ownsRow base e size v n xs) : v.oneCell' = true := by
  rcases owns_open_sz h with ⟨rfl, _⟩ | ⟨_, _, _, rfl, _⟩ <;> rfl
theorem Ml.one {w : World} {v : Value} {xs : List Int} (h : Ml w v xs) : v.oneCell' = true := own_one h.1.choose_spec
theorem clone_nil_31 (w : World) : Calls Try.prog 31 #[.slice none 0 0] w fun e w' => e = .returned (.slice none 0 0) ∧ w' = w := by
  have q29 : ∀ (w : World) (a : Option Addr) (n c n' c' : Nat), (binOp .eql 29 (.slice a n c) (.slice none n' c')).run Try.prog w = .ok (.bool a.isNone) w := fun w a n c n' c' => Lib.run_eql_slice_nil w _ _ a n c n' c' Try.underlying29
  go_enter Try.func31, Try.ntmps31
  go_wp2
  go_ret
  exact ⟨rfl, rfl⟩
set_option maxHeartbeats 2000000 in
theorem clone_32 (A : Option Addr) (xs : List Int) (cap : Nat) (hl : xs.length ≤ 1000000) (w : World) (hx : Cl w A (ints xs)) :
    Calls Try.prog 32 #[.slice A xs.length cap] w fun e w' => ∃ v', e = .returned v' ∧ w'.ownsRow w.heap.size 2 1 v' (ints xs).length (ints xs) ∧ Ch No w w' := by
  have q24 : ∀ (w : World) (a : Option Addr) (n c n' c' : Nat), (binOp .eql 24 (.slice a n c) (.slice none n' c')).run Try.prog w = .ok (.bool a.isNone) w := fun w a n c n' c' => Lib.run_eql_slice_nil w _ _ a n c n' c' Try.underlying24
  cases A with
  | none =>
    have h0 : xs = [] := by
      cases xs with
      | nil => rfl
      | cons x xs =>
        obtain ⟨ad, e, _⟩ := hx 0 (.int .i64 x) rfl
        cases e
    subst h0
    clear hx hl
    go_enter Try.func32, Try.ntmps32
    go_wp2
    go_ret
    exact ⟨_, rfl, owns_nil _ _ _ _, Ch.refl _ _⟩
  | some ad =>
    have HX := Lib.hid hx
    have HL := Lib.hid hl
    clear hx hl
    have HO : Hid ((w.alloc (.cells #[] 2)).ownsRow w.heap.size 2 1 (.slice (some ⟨w.heap.size, 0, none⟩) 0 0) ([] : List Value).length []) := World.ownsRow_made w #[] 0 (Nat.le_refl _) (Nat.zero_le _) rfl
    have HB : Hid ((([] : List Value).length + xs.length) * 8 ≤ 140737488355328) := by
      show _ ≤ _
      have := HL.out
      simp
      omega
    go_enter Try.func32, Try.ntmps32
    go_wp2_with (at_builtin; refine wpList_append_to rfl (.tmp 5) (.tmp 6) 24 rfl w.heap.size 2 (.int .i64 0) 8 Try.underlying24 info2 rfl _ [] rfl _ _ _ (ints xs) rfl HO.out (ints_length _) (HX.out.keepNo ((Ch.refl No w).alloc _)) (ints_one _) HB.out (by omega) (by simp) ?_; intro v1 w1 ho1 hg1 hat1; have HO1 := Lib.hid ho1; have HC1 : Hid (Ch No w w1) := grown_no (Nat.le_refl _) HO.out hg1 ((Ch.refl No w).alloc _); clear ho1 hg1 hat1)
    go_ret
    exact ⟨_, rfl, by simpa using HO1.out, HC1.out⟩
theorem clone_ml {w : World} {v : Value} {xs : List Int} (h : Sl w v xs) (hl : xs.length ≤ 1000000) :
    Calls Try.prog 32 #[v] w fun e w' => ∃ v', e = .returned v' ∧ Ml w' v' xs ∧ Ch No w w' := by
  obtain ⟨A, cap, rfl, hc, _⟩ := h
  refine (clone_32 A xs cap hl w hc).mono ?_
  rintro e w' ⟨v', rfl, ho, hch⟩
  exact ⟨v', rfl, ⟨⟨_, ho⟩, hl⟩, hch⟩
set_option maxHeartbeats 2000000 in
theorem clone_47 (ad : Addr) (vs : List Value) (cap : Nat) (hl : vs.length ≤ 1000000) (h1 : ∀ u ∈ vs, u.oneCell' = true) (w : World) (hx : Cl w (some ad) vs) :
    Calls Try.prog 47 #[.slice (some ad) vs.length cap] w fun e w' => ∃ v', e = .returned v' ∧ w'.ownsRow w.heap.size 24 1 v' vs.length vs ∧ Ch No w w' := by
  have q59 : ∀ (w : World) (a : Option Addr) (n c n' c' : Nat), (binOp .eql 59 (.slice a n c) (.slice none n' c')).run Try.prog w = .ok (.bool a.isNone) w := fun w a n c n' c' => Lib.run_eql_slice_nil w _ _ a n c n' c' Try.underlying59
  have HX := Lib.hid hx
  have HL := Lib.hid hl
  have H1 := Lib.hid h1
  clear hx hl h1
  have HO : Hid ((w.alloc (.cells #[] 24)).ownsRow w.heap.size 24 1 (.slice (some ⟨w.heap.size, 0, none⟩) 0 0) ([] : List Value).length []) := World.ownsRow_made w #[] 0 (Nat.le_refl _) (Nat.zero_le _) rfl
  have HB : Hid ((([] : List Value).length + vs.length) * 24 ≤ 140737488355328) := by
    show _ ≤ _
    have := HL.out
    simp
    omega
  go_enter Try.func47, Try.ntmps47
  go_wp2_with (at_builtin; refine wpList_append_to rfl (.tmp 5) (.tmp 6) 59 rfl w.heap.size 24 (.slice none 0 0) 24 Try.underlying59 info24 rfl _ [] rfl _ _ _ vs rfl HO.out rfl (HX.out.keepNo ((Ch.refl No w).alloc _)) H1.out HB.out (by omega) (by simp) ?_; intro v1 w1 ho1 hg1 hat1; have HO1 := Lib.hid ho1; have HC1 : Hid (Ch No w w1) := grown_no (Nat.le_refl _) HO.out hg1 ((Ch.refl No w).alloc _); clear ho1 hg1 hat1)
  go_ret
  exact ⟨_, rfl, by simpa using HO1.out, HC1.out⟩
theorem at_33 (g c : Nat) (w : World) : Calls Try.prog 33 #[.slice (some ⟨g, 0, none⟩) 1 c, .int .i64 1] w fun e w' => e = .returned (.tuple #[.pointer (some ⟨g, 0, none⟩), .int .i64 0]) ∧ w' = w := by
  go_enter Try.func33, Try.ntmps33
  go_wp2_with (fail)
  exact bodyPost_ret (v := .tuple #[.pointer (some ⟨g, 0, none⟩), .int .i64 0]) (by kernel_rfl) rfl ⟨rfl, rfl⟩
theorem at_34 (g c : Nat) (w : World) : Calls Try.prog 34 #[.slice (some ⟨g, 0, none⟩) 1 c, .int .i64 1] w fun e w' => e = .returned (.tuple #[.pointer (some ⟨g, 0, none⟩), .int .i64 0]) ∧ w' = w := by
  go_enter Try.func34, Try.ntmps34
  go_wp2_with (fail)
  exact bodyPost_ret (v := .tuple #[.pointer (some ⟨g, 0, none⟩), .int .i64 0]) (by kernel_rfl) rfl ⟨rfl, rfl⟩
theorem cl_drewN {w : World} {A : Option Addr} {vs : List Value} (h : Cl w A vs) (n : Nat) : Cl (w.drewN n) A vs := h
theorem same_len (A B : Option Addr) (c d n m : Nat) (w : World) (hn : n ≤ 9223372036854775807) (hm : m ≤ 9223372036854775807) (h : n ≠ m) :
    Calls Try.prog 23 #[.slice A n c, .slice B m d] w fun e w' => e = .returned (.bool false) ∧ Dr w w' := by
  have h1 : ((n : Int) != (m : Int)) = true := by rw [bne_iff_ne]; omega
  clear h
  go_enter Try.func23, Try.ntmps23
  go_wp2
  go_ret
  exact ⟨rfl, Dr.refl _⟩

theorem same_eq (A B : Option Addr) (c d : Nat) (xs ys : List Int) (w : World) (hn : xs.length ≤ 9223372036854775807) (hl : xs.length = ys.length) (hx : Cl w A (ints xs)) (hy : Cl w B (ints ys)) :
    Calls Try.prog 23 #[.slice A xs.length c, .slice B ys.length d] w fun e w' => e = .returned (.bool (decide (xs = ys))) ∧ Dr w w' := by
  have HX := Lib.hid hx
  have HY := Lib.hid hy
  have HL := Lib.hid hl
  have h1 : ((xs.length : Int) != (ys.length : Int)) = false := by rw [hl]; simp
  have hm : ys.length ≤ 9223372036854775807 := by omega
  have hle : xs.length ≤ ys.length := by omega
  clear hx hy hl
  go_enter Try.func23, Try.ntmps23
  go_wp2
  go_loopw [5] (fun i wr => ∃ k : Nat, k ≤ xs.length ∧ i = .int .i64 k ∧ Dr w wr ∧ Hid (xs.take k = ys.take k)) (fun i _ => xs.length - (intOf i).toNat)
  case atStart => exact ⟨0, Nat.zero_le _, rfl, Dr.refl _, by show _ = _; simp⟩
  case round =>
    obtain ⟨k, hk, rfl, hdr, hpre⟩ := hrel
    obtain ⟨q, rfl⟩ := hdr
    by_cases hlt : k < xs.length
    · obtain ⟨ad, ea, hca⟩ := cl_rd HX.out k hlt
      obtain ⟨bd, eb, hcb⟩ := cl_rd HY.out k (by omega)
      subst ea eb
      by_cases hne : rd xs k = rd ys k
      · have ht : (rd xs k != rd ys k) = false := by rw [hne]; simp
        have HNE := Lib.hid hne
        clear hne
        go_wp2
        go_quiet (fail)
        go_wp2
        refine ⟨⟨k + 1, by omega, by go_num, Dr.step w _, ?_⟩, by simp [intOf]; omega⟩
        show _ = _
        rw [List.take_succ_eq_append_getElem hlt, List.take_succ_eq_append_getElem (by omega), hpre.out]
        have h2 := HNE.out
        rw [rd_at _ _ hlt, rd_at _ _ (by omega)] at h2
        rw [h2]
      · have ht : (rd xs k != rd ys k) = true := by rw [bne_iff_ne]; exact hne
        have HNE := Lib.hid hne
        clear hne
        go_wp2
        go_quiet (fail)
        go_wp2
        go_ret
        refine ⟨?_, (Dr.step w _).more _⟩
        have : ¬ xs = ys := fun e => HNE.out (by rw [e])
        simp [this]
    · go_wp2
      go_ret
      refine ⟨?_, Dr.step w _⟩
      have h2 := hpre.out
      rw [List.take_of_length_le (by omega), List.take_of_length_le (by have := HL.out; omega)] at h2
      simp [h2]

theorem same_calls {w : World} {v u : Value} {xs ys : List Int} (hx : Sl w v xs) (hy : Sl w u ys) :
    Calls Try.prog 23 #[v, u] w fun e w' => e = .returned (.bool (decide (xs = ys))) ∧ Ch No w w' := by
  obtain ⟨A, c, rfl, hA, hl⟩ := hx
  obtain ⟨B, d, rfl, hB, hm⟩ := hy
  by_cases h : xs.length = ys.length
  · refine (same_eq A B c d xs ys w hl h hA hB).mono ?_
    rintro e w' ⟨rfl, hd⟩
    exact ⟨rfl, hd.ch⟩
  · refine (same_len A B c d _ _ w hl hm h).mono ?_
    rintro e w' ⟨rfl, hd⟩
    exact ⟨by rw [decide_eq_false (fun e => h (by rw [e]))], hd.ch⟩
end Go.Proofs.Ytifieahnnklgcaa
