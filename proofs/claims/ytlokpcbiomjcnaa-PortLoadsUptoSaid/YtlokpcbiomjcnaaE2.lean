/- Clone, same, may; a port's Own and queue. -/
import Derived.Test.YtlokpcbiomjcnaaE1
import Derived.LoopTactic
import Derived.Deep.DeepCutAuto
set_option linter.unusedVariables false
set_option linter.unusedSimpArgs false
namespace Go.Proofs.Ytlokpcbiomjcnaa
open Go.RowKit
theorem info2 : (Try.prog.info? 2).map (fun i => (i.zero, i.size, i.bytes)) = some (some (.int .i64 0), 1, 8) := by kernel_rfl
theorem info32 : (Try.prog.info? 32).map (fun i => (i.zero, i.size, i.bytes)) = some (some (.slice none 0 0), 1, 24) := by kernel_rfl
/-- a list of numbers that lies somewhere -/
def Sl (w : World) (v : Value) (xs : List Int) : Prop := ∃ A cap, v = .slice A xs.length cap ∧ Cl w A (ints xs) ∧ xs.length ≤ 9223372036854775807
theorem Sl.keepNo {w w' : World} {v : Value} {xs : List Int} (h : Sl w v xs) (hc : Ch No w w') : Sl w' v xs := by
  obtain ⟨A, cap, hv, hcl, hl⟩ := h
  exact ⟨A, cap, hv, hcl.keepNo hc, hl⟩
theorem own_one {w : World} {base : Nat} {e : TypeId} {size n : Nat} {v : Value} {xs : List Value} (h : w.ownsRow base e size v n xs) : v.oneCell' = true := by
  rcases owns_open_sz h with ⟨rfl, _⟩ | ⟨_, _, _, rfl, _⟩ <;> rfl
set_option maxHeartbeats 2000000 in
theorem clone_36 (A : Option Addr) (xs : List Int) (cap : Nat) (hl : xs.length ≤ 10000000) (w : World) (hx : Cl w A (ints xs)) :
    Calls Try.prog 36 #[.slice A xs.length cap] w fun e w' => ∃ v', e = .returned v' ∧ w'.ownsRow w.heap.size 2 1 v' (ints xs).length (ints xs) ∧ Ch No w w' := by
  have q32 : ∀ (w : World) (a : Option Addr) (n c n' c' : Nat), (binOp .eql 32 (.slice a n c) (.slice none n' c')).run Try.prog w = .ok (.bool a.isNone) w := fun w a n c n' c' => Lib.run_eql_slice_nil w _ _ a n c n' c' Try.underlying32
  cases A with
  | none =>
    have h0 : xs = [] := by
      cases xs with
      | nil => rfl
      | cons x xs =>
        obtain ⟨ad, e, _⟩ := hx 0 (.int .i64 x) rfl
        cases e
    subst h0
    clear hx hl
    go_enter Try.func36, Try.ntmps36
    go_wp2
    go_ret
    exact ⟨_, rfl, owns_nil _ _ _ _, Ch.refl _ _⟩
  | some ad =>
    have HX := Lib.hid hx
    have HL := Lib.hid hl
    clear hx hl
    have HO : Hid ((w.alloc (.cells #[] 2)).ownsRow w.heap.size 2 1 (.slice (some ⟨w.heap.size, 0, none⟩) 0 0) ([] : List Value).length []) := World.ownsRow_made w #[] 0 (Nat.le_refl _) (Nat.zero_le _) rfl
    have HB : Hid ((([] : List Value).length + xs.length) * 8 ≤ 140737488355328) := by
      show _ ≤ _
      have := HL.out
      simp
      omega
    go_enter Try.func36, Try.ntmps36
    go_wp2_with (at_builtin; refine wpList_append_to rfl (.tmp 5) (.tmp 6) 32 rfl w.heap.size 2 (.int .i64 0) 8 Try.underlying32 info2 rfl _ [] rfl _ _ _ (ints xs) rfl HO.out (ints_length _) (HX.out.keepNo ((Ch.refl No w).alloc _)) (ints_one _) HB.out (by omega) (by simp) ?_; intro v1 w1 ho1 hg1 hat1; have HO1 := Lib.hid ho1; have HC1 : Hid (Ch No w w1) := grown_no (Nat.le_refl _) HO.out hg1 ((Ch.refl No w).alloc _); clear ho1 hg1 hat1)
    go_ret
    exact ⟨_, rfl, by simpa using HO1.out, HC1.out⟩
theorem same_len (A B : Option Addr) (c d n m : Nat) (w : World) (hn : n ≤ 9223372036854775807) (hm : m ≤ 9223372036854775807) (h : n ≠ m) :
    Calls Try.prog 17 #[.slice A n c, .slice B m d] w fun e w' => e = .returned (.bool false) ∧ Dr w w' := by
  have h1 : ((n : Int) != (m : Int)) = true := by rw [bne_iff_ne]; omega
  clear h
  go_enter Try.func17, Try.ntmps17
  go_wp2
  go_ret
  exact ⟨rfl, Dr.refl _⟩

theorem same_eq (A B : Option Addr) (c d : Nat) (xs ys : List Int) (w : World) (hn : xs.length ≤ 9223372036854775807) (hl : xs.length = ys.length) (hx : Cl w A (ints xs)) (hy : Cl w B (ints ys)) :
    Calls Try.prog 17 #[.slice A xs.length c, .slice B ys.length d] w fun e w' => e = .returned (.bool (decide (xs = ys))) ∧ Dr w w' := by
  have HX := Lib.hid hx
  have HY := Lib.hid hy
  have HL := Lib.hid hl
  have h1 : ((xs.length : Int) != (ys.length : Int)) = false := by rw [hl]; simp
  have hm : ys.length ≤ 9223372036854775807 := by omega
  have hle : xs.length ≤ ys.length := by omega
  clear hx hy hl
  go_enter Try.func17, Try.ntmps17
  go_wp2
  go_loopw [5] (fun i wr => ∃ k : Nat, k ≤ xs.length ∧ i = .int .i64 k ∧ Dr w wr ∧ Hid (xs.take k = ys.take k)) (fun i _ => xs.length - (intOf i).toNat)
  case atStart => exact ⟨0, Nat.zero_le _, rfl, Dr.refl _, by show _ = _; simp⟩
  case round =>
    obtain ⟨k, hk, rfl, hdr, hpre⟩ := hrel
    obtain ⟨q, rfl⟩ := hdr
    by_cases hlt : k < xs.length
    · obtain ⟨ad, ea, hca⟩ := cl_rd HX.out k hlt
      obtain ⟨bd, eb, hcb⟩ := cl_rd HY.out k (by omega)
      subst ea eb
      by_cases hne : rd xs k = rd ys k
      · have ht : (rd xs k != rd ys k) = false := by rw [hne]; simp
        have HNE := Lib.hid hne
        clear hne
        go_wp2
        go_quiet (fail)
        go_wp2
        refine ⟨⟨k + 1, by omega, by go_num, Dr.step w _, ?_⟩, by simp [intOf]; omega⟩
        show _ = _
        rw [List.take_succ_eq_append_getElem hlt, List.take_succ_eq_append_getElem (by omega), hpre.out]
        have h2 := HNE.out
        rw [rd_at _ _ hlt, rd_at _ _ (by omega)] at h2
        rw [h2]
      · have ht : (rd xs k != rd ys k) = true := by rw [bne_iff_ne]; exact hne
        have HNE := Lib.hid hne
        clear hne
        go_wp2
        go_quiet (fail)
        go_wp2
        go_ret
        refine ⟨?_, (Dr.step w _).more _⟩
        have : ¬ xs = ys := fun e => HNE.out (by rw [e])
        simp [this]
    · go_wp2
      go_ret
      refine ⟨?_, Dr.step w _⟩
      have h2 := hpre.out
      rw [List.take_of_length_le (by omega), List.take_of_length_le (by have := HL.out; omega)] at h2
      simp [h2]

theorem same_calls {w : World} {v u : Value} {xs ys : List Int} (hx : Sl w v xs) (hy : Sl w u ys) :
    Calls Try.prog 17 #[v, u] w fun e w' => e = .returned (.bool (decide (xs = ys))) ∧ Ch No w w' := by
  obtain ⟨A, c, rfl, hA, hl⟩ := hx
  obtain ⟨B, d, rfl, hB, hm⟩ := hy
  by_cases h : xs.length = ys.length
  · refine (same_eq A B c d xs ys w hl h hA hB).mono ?_
    rintro e w' ⟨rfl, hd⟩
    exact ⟨rfl, hd.ch⟩
  · refine (same_len A B c d _ _ w hl hm h).mono ?_
    rintro e w' ⟨rfl, hd⟩
    exact ⟨by rw [decide_eq_false (fun e => h (by rw [e]))], hd.ch⟩
theorem may_35 (now : Int) (w : World) : Calls Try.prog 35 #[.int .i64 now] w fun e w' => e = .returned (.bool (decide (0 ≤ now ∧ now < 1099511627776))) ∧ Ch No w w' := by
  by_cases h0 : 0 ≤ now
  · by_cases h1 : now < 1099511627776
    · have e1 : decide (0 ≤ now ∧ now < 1099511627776) = true := by simp [h0, h1]
      rw [e1]
      go_enter Try.func35, Try.ntmps35
      go_wp2
      go_ret
      exact ⟨rfl, Ch.refl _ _⟩
    · have e1 : decide (0 ≤ now ∧ now < 1099511627776) = false := by simp [h0, h1]
      rw [e1]
      go_enter Try.func35, Try.ntmps35
      go_wp2
      go_ret
      exact ⟨rfl, Ch.refl _ _⟩
  · have e1 : decide (0 ≤ now ∧ now < 1099511627776) = false := by simp [h0]
    rw [e1]
    go_enter Try.func35, Try.ntmps35
    go_wp2
    go_ret
    exact ⟨rfl, Ch.refl _ _⟩
/-- a port, as its image has it -/
structure Pt where
  part : Int
  kind : Int
  out : Bool
  size : Int
  depth : Int
  refresh : Int
def Pt.cells (p : Pt) : List Value := [.int .i64 p.part, .int .i64 p.kind, .bool p.out, .int .i64 p.size, .int .i64 p.depth, .int .i64 p.refresh]
/-- the cells of an end -/
def ecells (p : Pt) (vq : Value) (has : Bool) (tick : Int) (vd : Value) (lost : Int) : List Value := [.int .i64 p.part, .int .i64 p.kind, .bool p.out, .int .i64 p.size, .int .i64 p.depth, .int .i64 p.refresh, vq, .bool has, .int .i64 tick, vd, .int .i64 lost]
theorem own_none {w : World} {G M n : Nat} {f : Int → Option Nat} {m : Int} (hG : Row w G 92 [.map (some M), .int .i64 m]) (hM : PM w M n f) (i : Int) (hi : (Lit.int .i64 i).wf = true) (hf : f i = none) (kind : Int) (out : Bool) :
    Calls Try.prog 34 #[.pointer (some ⟨G, 0, none⟩), .int .i64 i, .int .i64 kind, .bool out] w fun e w' => e = .returned (.bool false) ∧ Ch No w w' := by
  have hl := hM.look i hi
  rw [hf] at hl
  have hc : w.cell? ⟨G, 0, none⟩ = some (.map (some M)) := by rw [hG.cell]; rfl
  clear hG hM hf
  simp only [ptrOf, Option.isSome] at hl
  go_enter Try.func34, Try.ntmps34
  go_wp2
  go_ret
  exact ⟨rfl, Ch.refl _ _⟩
theorem own_some {w : World} {G M n E : Nat} {f : Int → Option Nat} {m : Int} (hG : Row w G 92 [.map (some M), .int .i64 m]) (hM : PM w M n f) (i : Int) (hi : (Lit.int .i64 i).wf = true) (hf : f i = some E) {p : Pt} {vq vd : Value} {has : Bool} {tick lost : Int} (hE : Row w E 95 (ecells p vq has tick vd lost)) (kind : Int) (out : Bool) :
    Calls Try.prog 34 #[.pointer (some ⟨G, 0, none⟩), .int .i64 i, .int .i64 kind, .bool out] w fun e w' => e = .returned (.bool (p.kind == kind && p.out == out)) ∧ Ch No w w' := by
  have hl := hM.look i hi
  rw [hf] at hl
  have hc : w.cell? ⟨G, 0, none⟩ = some (.map (some M)) := by rw [hG.cell]; rfl
  have hk : w.cell? ⟨E, 1, none⟩ = some (.int .i64 p.kind) := by rw [hE.cell]; rfl
  have ho : w.cell? ⟨E, 2, none⟩ = some (.bool p.out) := by rw [hE.cell]; rfl
  clear hG hM hf hE
  simp only [ptrOf, Option.isSome] at hl
  obtain ⟨b1, hb1⟩ : ∃ b, (p.kind == kind) = b := ⟨_, rfl⟩
  rw [hb1]
  obtain ⟨k0, hk0⟩ : ∃ k, k = p.kind := ⟨_, rfl⟩
  rw [← hk0] at hb1 hk
  clear hk0
  cases b1
  all_goals
    go_enter Try.func34, Try.ntmps34
    go_wp2
    go_ret
    exact ⟨by simp, Ch.refl _ _⟩
end Go.Proofs.Ytlokpcbiomjcnaa
