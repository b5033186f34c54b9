/- The effect of an instruction: its cells; places; the memory's calls; quotients. -/
import Derived.Test.YtellmlffkgfeiaaDoorC1
import Derived.Test.YtellmlffkgfeiaaDoorK
import Derived.Test.YtellmlffkgfeiaaDoorQ
import Derived.LoopTactic
set_option linter.unusedVariables false
set_option linter.unusedSimpArgs false
namespace Go.Proofs.YtellmlffkgfeiaaDoor
open Go.RowKit

/-- an effect -/
structure Eff where
  r : Nat → Int
  pc : Int
  st : Bool
  addr : Int
  val : Int
  fault : Int
  call : Int
/-- a register set -/
def upd (r : Nat → Int) (a : Nat) (v : Int) : Nat → Int := fun i => if i = a then v else r i
def Eff.reg (e : Eff) (a : Nat) (v : Int) : Eff := { e with r := upd e.r a v }
def regCells (r : Nat → Int) : List Value := (List.range 16).map fun (i : Nat) => Value.int .i64 (r i)
def effCells (e : Eff) : List Value := regCells e.r ++ [.int .i64 e.pc, .bool e.st, .int .i64 e.addr, .int .i64 e.val, .int .i64 e.fault, .int .i64 e.call]
theorem regCells_length (r : Nat → Int) : (regCells r).length = 16 := by simp [regCells]
theorem effCells_length (e : Eff) : (effCells e).length = 22 := by simp [effCells, regCells_length]
theorem regCells_get (r : Nat → Int) (i : Nat) (h : i < 16) : (regCells r)[i]? = some (.int .i64 (r i)) := by simp [regCells, h]
theorem eff_get (e : Eff) (i : Nat) (h : i < 16) : (effCells e)[i]? = some (.int .i64 (e.r i)) := by
  unfold effCells
  rw [List.getElem?_append_left (by rw [regCells_length]; exact h), regCells_get _ _ h]
theorem eff_rest (e : Eff) (i : Nat) : (effCells e)[16 + i]? = [Value.int .i64 e.pc, .bool e.st, .int .i64 e.addr, .int .i64 e.val, .int .i64 e.fault, .int .i64 e.call][i]? := by
  unfold effCells
  rw [List.getElem?_append_right (by rw [regCells_length]; omega), regCells_length]
  congr 1
  omega
theorem eff_one (e : Eff) : ∀ v ∈ effCells e, v.oneCell' = true := by
  intro v hv
  simp [effCells, regCells] at hv
  rcases hv with ⟨i, _, rfl⟩ | rfl | rfl | rfl | rfl | rfl | rfl <;> rfl
theorem regCells_set (r : Nat → Int) (a : Nat) (v : Int) : (regCells r).set a (.int .i64 v) = regCells (upd r a v) := by
  apply List.ext_getElem?
  intro i
  rw [List.getElem?_set]
  simp only [regCells, List.length_map, List.length_range]
  rcases Nat.lt_or_ge i 16 with h | h
  · by_cases e : a = i
    · subst e
      simp [h, upd]
    · simp [e, h, upd, Ne.symm e]
  · by_cases e : a = i
    · subst e
      simp [Nat.not_lt.2 h]
    · simp [e, Nat.not_lt.2 h]
theorem eff_set_reg (e : Eff) (a : Nat) (h : a < 16) (v : Int) : (effCells e).set a (.int .i64 v) = effCells (e.reg a v) := by
  unfold effCells
  rw [List.set_append_left _ _ (by rw [regCells_length]; exact h), regCells_set]
  rfl
theorem eff_set_pc (e : Eff) (v : Int) : (effCells e).set 16 (.int .i64 v) = effCells { e with pc := v } := by
  unfold effCells
  rw [List.set_append_right _ _ (by rw [regCells_length]; omega), regCells_length]
  rfl
theorem eff_set_st (e : Eff) (v : Bool) : (effCells e).set 17 (.bool v) = effCells { e with st := v } := by
  unfold effCells
  rw [List.set_append_right _ _ (by rw [regCells_length]; omega), regCells_length]
  rfl
theorem eff_set_addr (e : Eff) (v : Int) : (effCells e).set 18 (.int .i64 v) = effCells { e with addr := v } := by
  unfold effCells
  rw [List.set_append_right _ _ (by rw [regCells_length]; omega), regCells_length]
  rfl
theorem eff_set_val (e : Eff) (v : Int) : (effCells e).set 19 (.int .i64 v) = effCells { e with val := v } := by
  unfold effCells
  rw [List.set_append_right _ _ (by rw [regCells_length]; omega), regCells_length]
  rfl
theorem eff_set_fault (e : Eff) (v : Int) : (effCells e).set 20 (.int .i64 v) = effCells { e with fault := v } := by
  unfold effCells
  rw [List.set_append_right _ _ (by rw [regCells_length]; omega), regCells_length]
  rfl
theorem eff_set_call (e : Eff) (v : Int) : (effCells e).set 21 (.int .i64 v) = effCells { e with call := v } := by
  unfold effCells
  rw [List.set_append_right _ _ (by rw [regCells_length]; omega), regCells_length]
  rfl
theorem row_reg {w : World} {g : Nat} {e : Eff} (h : Row w g 30 (effCells e)) (i : Nat) (hi : i < 16) : w.cell? ⟨g, i, none⟩ = some (.int .i64 (e.r i)) := by rw [h.cell, eff_get e i hi]
theorem row_rest {w : World} {g : Nat} {e : Eff} (h : Row w g 30 (effCells e)) (i : Nat) : w.cell? ⟨g, 16 + i, none⟩ = [Value.int .i64 e.pc, .bool e.st, .int .i64 e.addr, .int .i64 e.val, .int .i64 e.fault, .int .i64 e.call][i]? := by rw [h.cell, eff_rest]

/-- a place brought in -/
def inn (len : Nat) (n : Int) : Int := if n < 0 ∨ (len : Int) < n then len else n
theorem to_calls (A : Option Addr) (len cap : Nat) (hl : len ≤ 9223372036854775807) (m : Value) (fixed n : Int) (w : World) :
    Calls Tryd.prog 25 #[.agg #[.slice A len cap, m, .int .i64 fixed], .int .i64 n] w fun e w' => e = .returned (.int .i64 (inn len n)) ∧ Ch No w w' := by
  go_enter Tryd.func25, Tryd.ntmps25
  go_wp2
  all_goals go_ret
  all_goals refine ⟨ret_i64 (by unfold inn; simp; omega), (by repeat (first | exact Ch.refl _ _ | apply Ch.drewN | apply Ch.drew | apply Ch.alloc))⟩

/-! the memory's calls -/
def may (words fixed addr n : Int) : Bool := decide (0 ≤ words) && decide (0 ≤ n) && decide (n ≤ words) && decide (0 ≤ addr) && decide (fixed ≤ addr) && decide (addr ≤ words - n)
theorem may_yes {words fixed addr n : Int} (h : may words fixed addr n = true) : 0 ≤ words ∧ 0 ≤ n ∧ n ≤ words ∧ 0 ≤ addr ∧ fixed ≤ addr ∧ addr ≤ words - n := by
  unfold may at h
  simp at h
  omega
theorem writable (words fixed addr n : Int) (w : World) (hw : words ≤ 9223372036854775807) (hw0 : -9223372036854775808 ≤ words) :
    Calls Tryd.prog 76 #[.int .i64 words, .int .i64 fixed, .int .i64 addr, .int .i64 n] w fun e w' => e = .returned (.bool (may words fixed addr n)) ∧ w = w' := by
  go_enter Tryd.func76, Tryd.ntmps76
  go_wp2
  all_goals go_ret
  all_goals refine ⟨?_, rfl⟩
  all_goals congr 2
  all_goals (unfold may; simp [*]; try omega)
theorem piece_no (A : Option Addr) (len cap : Nat) (addr n : Int) (w : World) (hl : len ≤ 9223372036854775807) (h : may len 0 addr n = false) :
    Calls Tryd.prog 86 #[.slice A len cap, .int .i64 addr, .int .i64 n] w fun e w' => e = .returned (.tuple #[.slice none 0 0, .bool false]) ∧ w = w' := by
  have H := Lib.hid h
  clear h
  go_enter Tryd.func86, Tryd.ntmps86
  go_wp2_with (go_at_call 76; refine (writable _ _ _ _ _ (by omega) (by omega)).mono ?_; rintro e w' ⟨rfl, rfl⟩; rw [H.out])
  all_goals go_ret2
  all_goals exact ⟨rfl, rfl⟩
theorem piece_yes (ad : Addr) (len cap : Nat) (addr : Int) (w : World) (hl : len ≤ 9223372036854775807) (hc : len ≤ cap) (h : may len 0 addr 1 = true) :
    Calls Tryd.prog 86 #[.slice (some ad) len cap, .int .i64 addr, .int .i64 1] w fun e w' => e = .returned (.tuple #[.slice (some (ad.add addr.toNat)) 1 1, .bool true]) ∧ w = w' := by
  have h' := may_yes h
  have H := Lib.hid h
  clear h
  obtain ⟨_, h1, h2, h3, _, h4⟩ := h'
  go_enter Tryd.func86, Tryd.ntmps86
  go_wp2_with (go_at_call 76; refine (writable _ _ _ _ _ (by omega) (by omega)).mono ?_; rintro e w' ⟨rfl, rfl⟩; rw [H.out])
  all_goals go_ret2
  all_goals first
    | (exfalso; omega)
    | (have e1 : (addr + 1).toNat - addr.toNat = 1 := by omega
       exact ⟨by simp [e1], rfl⟩)
theorem load_no (A : Option Addr) (len cap : Nat) (addr : Int) (w : World) (hl : len ≤ 9223372036854775807) (h : may len 0 addr 1 = false) :
    Calls Tryd.prog 75 #[.slice A len cap, .int .i64 addr] w fun e w' => e = .returned (.tuple #[.int .i64 0, .bool false]) ∧ w = w' := by
  go_enter Tryd.func75, Tryd.ntmps75
  go_wp2_with (go_at_call 86; refine (piece_no _ _ _ _ _ _ hl h).mono ?_; rintro e w' ⟨rfl, rfl⟩)
  go_ret2
  exact ⟨rfl, rfl⟩
theorem load_yes (A : Option Addr) (cap : Nat) (addr : Int) (xs : List Int) (w : World) (hl : xs.length ≤ 9223372036854775807) (hc : xs.length ≤ cap) (h : may xs.length 0 addr 1 = true) (hx : Cl w A (ints xs)) :
    Calls Tryd.prog 75 #[.slice A xs.length cap, .int .i64 addr] w fun e w' => e = .returned (.tuple #[.int .i64 (rd xs addr.toNat), .bool true]) ∧ w = w' := by
  have hy := may_yes h
  obtain ⟨ad, rfl, hcell⟩ := cl_rd hx addr.toNat (by omega)
  have H := Lib.hid h
  clear h hx hy
  have HP := Lib.hid (piece_yes ad xs.length cap addr w hl hc H.out)
  go_enter Tryd.func75, Tryd.ntmps75
  go_wp2_with (go_at_call 86; refine HP.out.mono ?_; rintro e w' ⟨rfl, rfl⟩)
  go_ret2
  exact ⟨rfl, rfl⟩

/-! quotient and rest -/
def Fdiv (b c : Int) : Int := wrap64 (b / c)
def Fmod (b c : Int) : Int := b % c
theorem rest_bound (b c : Int) (hc : c ≠ 0) : -(c.natAbs : Int) < b.tmod c ∧ b.tmod c < (c.natAbs : Int) := by
  rcases Int.lt_or_gt_of_ne hc with h | h
  · have h1 := Int.tmod_lt_of_pos b (show 0 < -c by omega)
    have h2 := Int.lt_tmod_of_pos b (show 0 < -c by omega)
    rw [Int.tmod_neg] at h1 h2
    omega
  · have h1 := Int.tmod_lt_of_pos b h
    have h2 := Int.lt_tmod_of_pos b h
    omega
theorem ediv_is {b c q r : Int} (hc : c ≠ 0) (he : q * c + r = b) (h0 : 0 ≤ r) (h1 : r < (c.natAbs : Int)) : b / c = q ∧ b % c = r := by
  rcases Int.lt_or_gt_of_ne hc with h | h
  · have := (Int.ediv_emod_unique (a := b) (b := -c) (r := r) (q := -q) (by omega)).2 ⟨by rw [← he, Int.neg_mul_neg, Int.mul_comm]; omega, h0, by omega⟩
    rw [Int.ediv_neg, Int.emod_neg] at this
    omega
  · exact (Int.ediv_emod_unique (a := b) (b := c) (r := r) (q := q) h).2 ⟨by rw [← he, Int.mul_comm]; omega, h0, by omega⟩
theorem quo_up (b c : Int) (hc : 0 < c) (h : b.tmod c < 0) : b / c = b.tdiv c - 1 ∧ b % c = b.tmod c + c := by
  have h0 := Int.tdiv_mul_add_tmod b c
  have hb := rest_bound b c (by omega)
  exact ediv_is (by omega) (by rw [Int.sub_mul]; omega) (by omega) (by omega)
theorem quo_down (b c : Int) (hc : c < 0) (h : b.tmod c < 0) : b / c = b.tdiv c + 1 ∧ b % c = b.tmod c - c := by
  have h0 := Int.tdiv_mul_add_tmod b c
  have hb := rest_bound b c (by omega)
  exact ediv_is (by omega) (by rw [Int.add_mul]; omega) (by omega) (by omega)
theorem quo_same (b c : Int) (hc : c ≠ 0) (h : 0 ≤ b.tmod c) : b / c = b.tdiv c ∧ b % c = b.tmod c := by
  have h0 := Int.tdiv_mul_add_tmod b c
  have hb := rest_bound b c hc
  exact ediv_is hc h0 h (by omega)
theorem wrap_sub (x y : Int) : wrap64 (wrap64 x - y) = wrap64 (x - y) := by unfold wrap64; omega
theorem wrap_add (x y : Int) : wrap64 (wrap64 x + y) = wrap64 (x + y) := by unfold wrap64; omega
theorem ret_i64i64 {a b c d : Int} (h : a = b) (h' : c = d) : Ending.returned (.tuple #[.int .i64 a, .int .i64 c]) = .returned (.tuple #[.int .i64 b, .int .i64 d]) := by rw [h, h']
set_option maxHeartbeats 1000000 in
theorem quotient (b c : Int) (hb : In64 b) (hcc : In64 c) (hc : c ≠ 0) (w : World) :
    Calls Tryd.prog 79 #[.int .i64 b, .int .i64 c] w fun e w' => e = .returned (.tuple #[.int .i64 (Fdiv b c), .int .i64 (Fmod b c)]) ∧ Dr w w' := by
  have b0 : (c == 0) = false := by simpa using hc
  have HB := Lib.hid (rest_bound b c hc)
  have HN := Lib.hid hc
  unfold In64 at hb hcc
  obtain ⟨h1, h2⟩ := hb
  obtain ⟨h3, h4⟩ := hcc
  unfold Fdiv Fmod
  go_enter Tryd.func79, Tryd.ntmps79
  go_wp2
  go_quiet (fail)
  by_cases hn : b.tmod c < 0
  · by_cases hp : 0 < c
    · have hq := Lib.hid (quo_up b c hp hn)
      go_wp2
      go_ret2
      have hb := HB.out
      refine ⟨ret_i64i64 (by rw [hq.out.1, wrap_sub]) (by rw [hq.out.2]; exact wrap_in ⟨by omega, by omega⟩), Dr.step _ _⟩
    · have hp' : c < 0 := by have := HN.out; omega
      have hq := Lib.hid (quo_down b c hp' hn)
      go_wp2
      go_ret2
      have hb := HB.out
      refine ⟨ret_i64i64 (by rw [hq.out.1, wrap_add]) (by rw [hq.out.2]; exact wrap_in ⟨by omega, by omega⟩), Dr.step _ _⟩
  · have hn' : 0 ≤ b.tmod c := by omega
    have hq := Lib.hid (quo_same b c HN.out hn')
    go_wp2
    go_ret2
    refine ⟨ret_i64i64 (by rw [hq.out.1]) (by rw [hq.out.2]), Dr.step _ _⟩
end Go.Proofs.YtellmlffkgfeiaaDoor
