/- the set's calls: Count, Down, Up, Put, Get. -/
import Derived.Test.YtifieahnnklgcaaC1
set_option linter.unusedVariables false
set_option linter.unusedSimpArgs false
namespace Go.Proofs.Ytifieahnnklgcaa
open Go.RowKit
/-- a set of one semaphore and one buffer -/
structure SetR where
  P : Nat
  gs : Nat
  cs : Nat
  gb : Nat
  cb : Nat
  rs : List Value
  rb : List Value
  n : Int
  most : Int
  dep : Int
  siz : Int
  vl : Value
  sv : List Value
  ms : List (List Int)
structure Bs (base : Nat) (s : SetR) (w : World) : Prop where
  row : Row w s.P 82 [.slice (some ⟨s.gs, 0, none⟩) 1 s.cs, .slice none 0 0, .slice (some ⟨s.gb, 0, none⟩) 1 s.cb]
  sem : Row w s.gs 84 (.int .i64 s.n :: .int .i64 s.most :: s.rs)
  buf : Row w s.gb 90 (s.vl :: .int .i64 s.dep :: .int .i64 s.siz :: s.rb)
  own : w.ownsRow base 24 1 s.vl s.sv.length s.sv
  msg : ∀ (i : Nat) (v : Value), s.sv[i]? = some v → ∃ xs, s.ms[i]? = some xs ∧ Ml w v xs
  len : s.sv.length = s.ms.length
  bP : base ≤ s.P
  bs : base ≤ s.gs
  bb : base ≤ s.gb
  hb : base ≤ w.heap.size
  small : s.ms.length ≤ 1000
theorem Bs.keepNo {base : Nat} {s : SetR} {w w' : World} (h : Bs base s w) (hc : Ch No w w') : Bs base s w' :=
  ⟨h.row.keepNo hc, h.sem.keepNo hc, h.buf.keepNo hc, owns_keepNo h.own hc, fun i v hv => by
    obtain ⟨xs, h1, h2⟩ := h.msg i v hv
    exact ⟨xs, h1, h2.keepNo hc⟩, h.len, h.bP, h.bs, h.bb, Nat.le_trans h.hb hc.size, h.small⟩
theorem row_ne {w : World} {g g' : Nat} {t t' : TypeId} {L L' : List Value} (h : Row w g t L) (h' : Row w g' t' L') (ht : t ≠ t') : g ≠ g' := fun e => by
  subst e
  exact ht (h.eq_ h').1
/-- the blocks of a set that a call may change -/
def Ds (s : SetR) : Nat → Prop := fun k => k = s.P ∨ k = s.gs ∨ k = s.gb ∨ s.vl.ownBlock = some k
theorem Bs.vl1 {base : Nat} {s : SetR} {w : World} (h : Bs base s w) : s.vl.oneCell' = true := own_one h.own
/-- rows of other types are kept -/
theorem Bs.rowK {base : Nat} {s : SetR} {w w' : World} (h : Bs base s w) (hc : Ch (Ds s) w w') {g : Nat} {t : TypeId} {L : List Value} (hr : Row w g t L) (h1 : t ≠ 82) (h2 : t ≠ 84) (h3 : t ≠ 90) (h4 : t ≠ 24) : Row w' g t L :=
  hr.keep hc (fun hk => by
    rcases hk with rfl | rfl | rfl | hk
    · exact h1 (hr.eq_ h.row).1
    · exact h2 (hr.eq_ h.sem).1
    · exact h3 (hr.eq_ h.buf).1
    · exact own_ne_row h.own hr h4 hk)
theorem count_calls {base : Nat} {s : SetR} {w : World} (h : Bs base s w) :
    Calls Try.prog 24 #[.pointer (some ⟨s.P, 0, none⟩), .int .i64 1] w fun e w' => e = .returned (.tuple #[.int .i64 s.n, .int .i64 0]) ∧ w' = w := by
  have hp := h.row.lt
  have hg := h.sem.lt
  have c0 : w.cell? ⟨s.P, 0, none⟩ = some (.slice (some ⟨s.gs, 0, none⟩) 1 s.cs) := by rw [h.row.cell]; rfl
  have c1 : w.cell? ⟨s.gs, 0, none⟩ = some (.int .i64 s.n) := by rw [h.sem.cell]; rfl
  clear h
  go_enter Try.func24, Try.ntmps24
  go_wp2_with (fail)
  refine (at_33 s.gs s.cs w).mono ?_
  rintro e w2 ⟨rfl, rfl⟩
  go_wp2_with (fail)
  exact bodyPost_ret (v := .tuple #[.int .i64 s.n, .int .i64 0]) (by kernel_rfl) rfl ⟨rfl, rfl⟩
/-- the set behind a change of the semaphore's number -/
theorem Bs.setN {base : Nat} {s : SetR} {w : World} (h : Bs base s w) (m : Int) : Bs base { s with n := m } (w.setCell ⟨s.gs, 0, none⟩ (.int .i64 m)) := by
  have hc : Ch (Is s.gs) w (w.setCell ⟨s.gs, 0, none⟩ (.int .i64 m)) := (Ch.refl _ w).setCell (p := ⟨s.gs, 0, none⟩) (fun _ => is_self _) _
  refine ⟨h.row.keepIs hc (row_ne h.row h.sem (by decide)), h.sem.set_ 0 _, h.buf.keepIs hc (row_ne h.buf h.sem (by decide)), owns_keepIs h.own hc (own_ne_row h.own h.sem (by decide)), fun i v hv => ?_, h.len, h.bP, h.bs, h.bb, Nat.le_trans h.hb hc.size, h.small⟩
  obtain ⟨xs, h1, h2⟩ := h.msg i v hv
  exact ⟨xs, h1, h2.other (fun g L hr => hr.keepIs hc (row_ne hr h.sem (by decide)))⟩
theorem down_calls {base : Nat} {s : SetR} {w : World} (h : Bs base s w) (hn : 0 ≤ s.n ∧ s.n ≤ s.most ∧ s.most ≤ 9223372036854775807) :
    Calls Try.prog 19 #[.pointer (some ⟨s.P, 0, none⟩), .int .i64 1] w fun e w' => e = .returned (.tuple #[.bool (decide (0 < s.n)), .int .i64 0]) ∧ Bs base { s with n := if 0 < s.n then s.n - 1 else s.n } w' ∧ Ch (Ds s) w w' := by
  have hp := h.row.lt
  have hg := h.sem.lt
  have c0 : w.cell? ⟨s.P, 0, none⟩ = some (.slice (some ⟨s.gs, 0, none⟩) 1 s.cs) := by rw [h.row.cell]; rfl
  have c1 : w.cell? ⟨s.gs, 0, none⟩ = some (.int .i64 s.n) := by rw [h.sem.cell]; rfl
  have f1 : w.frozen? ⟨s.gs, 0, none⟩ = false := h.sem.frozen _
  have HB := Lib.hid h
  clear h
  by_cases h0 : 0 < s.n
  · have d0 : decide (s.n ≤ 0) = false := decide_eq_false (by omega)
    rw [if_pos h0, decide_eq_true h0]
    go_enter Try.func19, Try.ntmps19
    go_wp2_with (fail)
    refine (at_33 s.gs s.cs w).mono ?_
    rintro e w2 ⟨rfl, rfl⟩
    go_wp2_with (fail)
    refine bodyPost_ret (v := .tuple #[.bool true, .int .i64 0]) (by kernel_rfl) rfl ⟨rfl, HB.out.setN _, (Ch.refl _ _).setCell (p := ⟨s.gs, 0, none⟩) (fun _ => .inr (.inl rfl)) _⟩
  · have d0 : decide (s.n ≤ 0) = true := decide_eq_true (by omega)
    rw [if_neg h0, decide_eq_false h0]
    go_enter Try.func19, Try.ntmps19
    go_wp2_with (fail)
    refine (at_33 s.gs s.cs w).mono ?_
    rintro e w2 ⟨rfl, rfl⟩
    go_wp2_with (fail)
    exact bodyPost_ret (v := .tuple #[.bool false, .int .i64 0]) (by kernel_rfl) rfl ⟨rfl, HB.out, Ch.refl _ _⟩
theorem up_calls {base : Nat} {s : SetR} {w : World} (h : Bs base s w) (hn : 0 ≤ s.n ∧ s.n ≤ s.most ∧ s.most ≤ 9223372036854775807) :
    Calls Try.prog 20 #[.pointer (some ⟨s.P, 0, none⟩), .int .i64 1] w fun e w' => e = .returned (.tuple #[.bool (decide (s.n < s.most)), .int .i64 0]) ∧ Bs base { s with n := if s.n < s.most then s.n + 1 else s.n } w' ∧ Ch (Ds s) w w' := by
  have hp := h.row.lt
  have hg := h.sem.lt
  have c0 : w.cell? ⟨s.P, 0, none⟩ = some (.slice (some ⟨s.gs, 0, none⟩) 1 s.cs) := by rw [h.row.cell]; rfl
  have c1 : w.cell? ⟨s.gs, 0, none⟩ = some (.int .i64 s.n) := by rw [h.sem.cell]; rfl
  have c2 : w.cell? ⟨s.gs, 1, none⟩ = some (.int .i64 s.most) := by rw [h.sem.cell]; rfl
  have f1 : w.frozen? ⟨s.gs, 0, none⟩ = false := h.sem.frozen _
  have HB := Lib.hid h
  clear h
  by_cases h0 : s.n < s.most
  · have d0 : decide (s.most ≤ s.n) = false := decide_eq_false (by omega)
    rw [if_pos h0, decide_eq_true h0]
    go_enter Try.func20, Try.ntmps20
    go_wp2_with (fail)
    refine (at_33 s.gs s.cs w).mono ?_
    rintro e w2 ⟨rfl, rfl⟩
    go_upto_region 2 with (fail)
    go_quiet (fail)
    go_wp2_with (fail)
    refine bodyPost_ret (v := .tuple #[.bool true, .int .i64 0]) (by kernel_rfl) rfl ⟨rfl, (HB.out.keepNo ((Ch.refl No w2).drewN _)).setN _, ((Ch.refl _ w2).drewN _).setCell (p := ⟨s.gs, 0, none⟩) (fun _ => .inr (.inl rfl)) _⟩
  · have d0 : decide (s.most ≤ s.n) = true := decide_eq_true (by omega)
    rw [if_neg h0, decide_eq_false h0]
    go_enter Try.func20, Try.ntmps20
    go_wp2_with (fail)
    refine (at_33 s.gs s.cs w).mono ?_
    rintro e w2 ⟨rfl, rfl⟩
    go_upto_region 2 with (fail)
    go_quiet (fail)
    go_wp2_with (fail)
    exact bodyPost_ret (v := .tuple #[.bool false, .int .i64 0]) (by kernel_rfl) rfl ⟨rfl, HB.out.keepNo ((Ch.refl _ _).drewN _), (Ch.refl _ _).drewN _⟩
end Go.Proofs.Ytifieahnnklgcaa
