/- A queue as a slice (anywhere in its block): one more laid behind; the walk of Push. -/
import Derived.Test.YtlokpcbiomjcnaaE7
import Derived.ArgAppend
import Derived.Lib.AppendZerosOnto
set_option linter.unusedVariables false
set_option linter.unusedSimpArgs false
namespace Go.Proofs.Ytlokpcbiomjcnaa
open Go.RowKit
/-- a slice of one-cell elements of type 32, in whatever place of its block -/
def Qv (w : World) (v : Value) (ms : List Value) : Prop := ∃ A c, v = .slice A ms.length c ∧ ms.length ≤ c ∧ c ≤ maxLen ∧
  (c = 0 ∨ ∃ g off L, A = some ⟨g, off, none⟩ ∧ Row w g 32 L ∧ off + c ≤ L.length ∧ ∀ (j : Nat) m, ms[j]? = some m → L[off + j]? = some m)
/-- its block, if it has one -/
def qblk : Value → Option Nat
  | .slice (some a) _ c => if c = 0 then none else some a.block
  | _ => none
theorem Qv.nil (w : World) : Qv w (.slice none 0 0) [] := ⟨none, 0, rfl, Nat.le_refl _, by unfold maxLen; omega, .inl rfl⟩
theorem Qv.row {w : World} {v : Value} {ms : List Value} (h : Qv w v ms) {k : Nat} (hk : qblk v = some k) : ∃ L, Row w k 32 L := by
  obtain ⟨A, c, rfl, h1, h2, h3⟩ := h
  rcases h3 with rfl | ⟨g, off, L, rfl, hr, _, _⟩
  · cases A <;> simp [qblk] at hk
  · simp [qblk] at hk
    obtain ⟨_, rfl⟩ := hk
    exact ⟨L, hr⟩
theorem Qv.keep {D : Nat → Prop} {w w' : World} {v : Value} {ms : List Value} (h : Qv w v ms) (hc : Ch D w w') (hd : ∀ k, qblk v = some k → ¬ D k) : Qv w' v ms := by
  obtain ⟨A, c, rfl, h1, h2, h3⟩ := h
  refine ⟨A, c, rfl, h1, h2, ?_⟩
  by_cases h0 : c = 0
  · exact .inl h0
  · rcases h3 with h3 | ⟨g, off, L, rfl, hr, hf, hm⟩
    · exact absurd h3 h0
    · exact .inr ⟨g, off, L, rfl, hr.keep hc (hd g (by simp [qblk, h0])), hf, hm⟩
theorem Qv.keepNo {w w' : World} {v : Value} {ms : List Value} (h : Qv w v ms) (hc : Ch No w w') : Qv w' v ms := h.keep hc (fun _ _ => not_no _)
theorem Qv.of_owns {w : World} {b : Nat} {v : Value} {ms : List Value} (h : w.ownsRow b 32 1 v ms.length ms) : Qv w v ms := by
  rcases owns_open h with ⟨rfl, rfl⟩ | ⟨g, cap, rest, rfl, _, hr, hl, hm⟩
  · exact Qv.nil w
  · refine ⟨_, cap, rfl, by omega, hm, .inr ⟨g, 0, _, rfl, hr, by simp; omega, fun j m hj => ?_⟩⟩
    rw [Nat.zero_add, List.getElem?_append_left (List.getElem?_eq_some_iff.1 hj).1]
    exact hj
theorem qblk_own {w : World} {b n : Nat} {v : Value} {ms : List Value} (h : w.ownsRow b 32 1 v n ms) {k : Nat} (hk : qblk v = some k) : v.ownBlock = some k := by
  rcases owns_open_sz h with ⟨rfl, _⟩ | ⟨g, cap, rest, rfl, _⟩
  · simp [qblk] at hk
  · simp [qblk] at hk
    simp [Value.ownBlock, hk.2]
/-- what holds behind an append to a queue -/
structure Qa (w w' : World) (v v' : Value) (ms : List Value) (m : Value) : Prop where
  q : Qv w' v' (ms ++ [m])
  ch : Ch (fun k => qblk v = some k) w w'
  blk : ∀ k, qblk v' = some k → qblk v = some k ∨ w.heap.size ≤ k
theorem qappend {w : World} {v : Value} {ms : List Value} (h : Qv w v ms) (ty : TypeId) {B : Nat} {m : Value} (hB : Row w B 32 [m]) (h1 : m.oneCell' = true) (hl : ms.length < 10000000) :
    ∃ v' w', (Builtin.append_ #[31, 31] ty #[v, .slice (some ⟨B, 0, none⟩) 1 1]).run Try.prog w = .ok v' w' ∧ Qa w w' v v' ms m := by
  obtain ⟨i0, hi, hzz⟩ := Option.map_eq_some_iff.1 info32
  simp only [Prod.mk.injEq] at hzz
  obtain ⟨hz0, hz1, hz2⟩ := hzz
  have hnews : ∀ j u, [m][j]? = some u → w.cell? ((⟨B, 0, none⟩ : Addr).add j) = some u := fun j u hj => by
    rw [add_lit, hB.cell, Nat.zero_add]
    exact hj
  have hone : ∀ u ∈ [m], u.oneCell' = true := fun u hu => by
    obtain rfl : u = m := by simpa using hu
    exact h1
  obtain ⟨A, c, rfl, hlc, hcm, hc⟩ := h
  by_cases h0 : c = 0
  · subst h0
    have hms : ms = [] := List.eq_nil_of_length_eq_zero (by omega)
    subst hms
    cases A with
    | none =>
      have hown : w.ownsRow w.heap.size 32 1 (.slice none 0 0) ([] : List Value).length [] := owns_nil _ _ _ _
      obtain ⟨v', w', hr, h2, h3, h4⟩ := run_append_to (P := Try.prog) w w.heap.size 31 ty 32 (.slice none 0 0) 24 Try.underlying31 info32 rfl (.slice none 0 0) [] hown (some ⟨B, 0, none⟩) 1 1 [m] rfl (fun j u hj => ⟨_, rfl, hnews j u hj⟩) hone (by simp) (by omega) (Nat.le_refl _)
      exact ⟨v', w', hr, Qv.of_owns h2, (Ch.of_grownBy h3).mono (fun k _ hk => by simp [Value.ownBlock] at hk), fun k hk => .inr (own_base_ h2 k (qblk_own h2 hk))⟩
    | some a =>
      obtain ⟨v', w', hr, h2, h3⟩ := run_append_arg_grows (P := Try.prog) w 31 ty 32 i0 (.slice none 0 0) 1 24 Try.underlying31 hi hz0 hz1 hz2 rfl (by omega) a 0 0 [] rfl (by simp) ⟨B, 0, none⟩ 1 1 [m] rfl hnews (by omega) (by unfold maxLen; omega) (by omega)
      exact ⟨v', w', hr, Qv.of_owns h2, (Ch.of_grownBy h3).mono (fun k _ hk => by simp at hk), fun k hk => .inr (own_base_ h2 k (qblk_own h2 hk))⟩
  · rcases hc with hc | ⟨g, off, L, rfl, hr, hf, hm⟩
    · exact absurd hc h0
    · by_cases hroom : ms.length + 1 ≤ c
      · have hrun := run_append_room_cells (P := Try.prog) w 31 ty 32 i0 Try.underlying31 hi g off ms.length c ⟨B, 0, none⟩ 1 1 [m] (by rw [hz1]; rfl) hnews hone hroom (fun j hj => by
          obtain rfl : j = 0 := by simpa using hj
          rw [hr.cell, hz1, Nat.mul_one, List.getElem?_eq_getElem (by omega)]
          rfl) (fun j _ => hr.frozen _)
        rw [hz1, Nat.mul_one] at hrun
        have e : w.setCells g (off + ms.length) [m] = w.setCell ⟨g, off + ms.length, none⟩ m := rfl
        rw [e] at hrun
        have hlen : (ms ++ [m]).length = ms.length + 1 := by simp
        refine ⟨_, _, hrun, ⟨some ⟨g, off, none⟩, c, by rw [hlen], by omega, hcm, .inr ⟨g, off, _, rfl, hr.set_ (off + ms.length) m, by simpa using hf, fun j u hj => ?_⟩⟩, Ch.setCell (Ch.refl _ _) (fun _ => by simp [qblk, h0]) _, fun k hk => .inl ?_⟩
        · rw [List.getElem?_set]
          by_cases hjl : j = ms.length
          · subst hjl
            rw [if_pos rfl, if_pos (by omega)]
            simpa using hj
          · rw [if_neg (by omega)]
            have hj2 : j < (ms ++ [m]).length := (List.getElem?_eq_some_iff.1 hj).1
            rw [List.getElem?_append_left (by omega)] at hj
            exact hm j u hj
        · simpa [qblk, h0] using hk
      · obtain ⟨v', w', hrun, h2, h3⟩ := run_append_arg_grows (P := Try.prog) w 31 ty 32 i0 (.slice none 0 0) 1 24 Try.underlying31 hi hz0 hz1 hz2 rfl (by omega) ⟨g, off, none⟩ ms.length c ms (by simp) (fun j u hj => by
          rw [add_lit, hr.cell]
          exact hm j u hj) ⟨B, 0, none⟩ 1 1 [m] rfl hnews (by omega) (by unfold maxLen; omega) (by omega)
        have hlen : (ms ++ [m]).length = ms.length + 1 := by simp
        rw [← hlen] at h2
        exact ⟨v', w', hrun, Qv.of_owns h2, (Ch.of_grownBy h3).mono (fun k _ hk => by simp at hk), fun k hk => .inr (own_base_ h2 k (qblk_own h2 hk))⟩
end Go.Proofs.Ytlokpcbiomjcnaa
