/- What an instruction does hangs on it, the registers and the word that it reads alone. -/
import Derived.Test.YtellmlffkgfeiaaDoorOM
set_option linter.unusedVariables false
set_option linter.unusedSimpArgs false
namespace Go.Proofs.YtellmlffkgfeiaaDoor
open Go.RowKit
section
variable {α : Type}
/-- the element at i: of another list, but where told -/
def pick (p : Int) (xs ys : List α) (i : Nat) : Option α := if (i : Int) ≠ p ∧ i < ys.length then ys[i]? else xs[i]?
def mixTo (p : Int) (xs ys : List α) (k : Nat) : List α := (List.range k).filterMap (pick p xs ys)
theorem mixTo_zero (p : Int) (xs ys : List α) : mixTo p xs ys 0 = [] := rfl
theorem mixTo_succ {p : Int} {xs ys : List α} {k : Nat} {x : α} (h : pick p xs ys k = some x) : mixTo p xs ys (k + 1) = mixTo p xs ys k ++ [x] := by
  unfold mixTo
  rw [List.range_succ, List.filterMap_append]
  simp [h]
theorem pick_some (p : Int) (xs ys : List α) {i : Nat} (h : i < xs.length) : ∃ x, pick p xs ys i = some x := by
  unfold pick
  split
  · rename_i hc
    exact ⟨_, List.getElem?_eq_getElem hc.2⟩
  · exact ⟨_, List.getElem?_eq_getElem h⟩
theorem mixTo_length (p : Int) (xs ys : List α) : ∀ k, k ≤ xs.length → (mixTo p xs ys k).length = k
  | 0, _ => rfl
  | k + 1, h => by
    obtain ⟨x, hx⟩ := pick_some p xs ys (i := k) (by omega)
    rw [mixTo_succ hx, List.length_append, mixTo_length p xs ys k (by omega)]
    rfl
theorem mixTo_get (p : Int) (xs ys : List α) : ∀ k, k ≤ xs.length → ∀ i, i < k → (mixTo p xs ys k)[i]? = pick p xs ys i
  | 0, _, i, hi => by omega
  | k + 1, h, i, hi => by
    obtain ⟨x, hx⟩ := pick_some p xs ys (i := k) (by omega)
    have hl := mixTo_length p xs ys k (by omega)
    rw [mixTo_succ hx]
    rcases Nat.lt_or_ge i k with hk | hk
    · rw [List.getElem?_append_left (by omega), mixTo_get p xs ys k (by omega) i hk]
    · obtain rfl : i = k := by omega
      rw [List.getElem?_append_right (by omega), hl, hx]
      simp
theorem mixTo_all {Q : α → Prop} {p : Int} {xs ys : List α} (hx : ∀ x ∈ xs, Q x) (hy : ∀ x ∈ ys, Q x) (k : Nat) : ∀ x ∈ mixTo p xs ys k, Q x := by
  intro x h
  unfold mixTo at h
  rw [List.mem_filterMap] at h
  obtain ⟨i, _, hi⟩ := h
  unfold pick at hi
  split at hi
  · exact hy x (List.mem_of_getElem? hi)
  · exact hx x (List.mem_of_getElem? hi)
theorem mixTo_at {p : Int} {xs ys : List α} (hp : 0 ≤ p) (h : p.toNat < xs.length) : (mixTo p xs ys xs.length)[p.toNat]? = xs[p.toNat]? := by
  rw [mixTo_get p xs ys _ (Nat.le_refl _) _ h]
  unfold pick
  rw [if_neg]
  omega
end
theorem doF_other (op a b c : Nat) (n : Int) (len : Nat) (xs ys : List Int) (f : Int) (E : Eff) (h5 : op ≠ 5) (hl : ys.length = xs.length) : doF op a b c n len ys f E = doF op a b c n len xs f E := by
  by_cases h6 : op = 6
  · subst h6
    simp only [doF, hl]
  · unfold doF
    split <;> first | rfl | omega | contradiction | (split <;> first | rfl | contradiction)
theorem stepF_hangs (cs ds : List Ins) (xs ys : List Int) (fixed : Int) (r : Nat → Int) (pc : Int) (hl : ds.length = cs.length) (hx : 0 ≤ pc → ds[pc.toNat]? = cs[pc.toNat]?) (hm : ys.length = xs.length)
    (hw : ∀ x, 0 ≤ pc → cs[pc.toNat]? = some x → x.legal = true → x.op = 5 → may xs.length 0 (Fadd (r x.b) x.n) 1 = true → rd ys (Fadd (r x.b) x.n).toNat = rd xs (Fadd (r x.b) x.n).toNat) :
    stepF ds ys fixed r pc = stepF cs xs fixed r pc := by
  unfold stepF
  rw [hl]
  by_cases h0 : pc < 0
  · rw [if_pos h0, if_pos h0]
  · rw [if_neg h0, if_neg h0, hx (by omega)]
    cases hc : cs[pc.toNat]? with
    | none => rfl
    | some x =>
      simp only []
      unfold insF
      cases hleg : x.legal with
      | false => rfl
      | true =>
        simp only [if_true]
        rw [hm]
        by_cases h5 : x.op = 5
        · rw [h5]
          simp only [doF, hm]
          by_cases hmay : may xs.length 0 (Fadd (r x.b) x.n) 1 = true
          · have := hw x (by omega) hc hleg h5 hmay
            show (if may xs.length 0 (Fadd (r x.b) x.n) 1 = true then _ else _) = if may xs.length 0 (Fadd (r x.b) x.n) 1 = true then _ else _
            rw [if_pos hmay, if_pos hmay]
            show Eff.reg _ _ (rd ys (Fadd (r x.b) x.n).toNat) = Eff.reg _ _ (rd xs (Fadd (r x.b) x.n).toNat)
            rw [this]
          · show (if may xs.length 0 (Fadd (r x.b) x.n) 1 = true then _ else _) = if may xs.length 0 (Fadd (r x.b) x.n) 1 = true then _ else _
            rw [if_neg hmay, if_neg hmay]
        · exact doF_other _ _ _ _ _ _ _ _ _ _ h5 hm
/-- the word that is read -/
def readF (cs : List Ins) (r : Nat → Int) (pc : Int) : Int :=
  if pc < 0 then -1 else match cs[pc.toNat]? with
    | some x => if x.op = 5 ∧ x.b < 16 then Fadd (r x.b) x.n else -1
    | none => -1
theorem stepF_mix (cs ds : List Ins) (xs ys : List Int) (fixed : Int) (r : Nat → Int) (pc : Int) :
    stepF (mixTo pc cs ds cs.length) (mixTo (readF cs r pc) xs ys xs.length) fixed r pc = stepF cs xs fixed r pc := by
  have hl := mixTo_length pc cs ds _ (Nat.le_refl _)
  refine stepF_hangs _ _ _ _ _ _ _ hl (fun h0 => ?_) (mixTo_length _ _ _ _ (Nat.le_refl _)) (fun x h0 hx hleg h5 hmay => ?_)
  · rcases Nat.lt_or_ge pc.toNat cs.length with h | h
    · exact mixTo_at h0 h
    · rw [List.getElem?_eq_none (by omega), List.getElem?_eq_none h]
  · have hr : readF cs r pc = Fadd (r x.b) x.n := by
      unfold readF
      rw [if_neg (by omega), hx]
      simp only []
      rw [if_pos ⟨h5, (legal_regs (show legal x.op x.a x.b x.c x.n = true from hleg)).2.2.2.1⟩]
    rw [hr]
    have hm : 0 ≤ Fadd (r x.b) x.n ∧ Fadd (r x.b) x.n < xs.length := by
      unfold may at hmay
      simp at hmay
      omega
    simp only [rd, List.getD_eq_getElem?_getD]
    rw [mixTo_at hm.1 (by omega)]
theorem mixTo_push {p : Int} {cs ds : List Ins} {k : Nat} {x : Ins} (h : pick p cs ds k = some x) : codeCells (mixTo p cs ds (k + 1)) = codeCells (mixTo p cs ds k) ++ x.cells := by
  rw [mixTo_succ h]
  simp [codeCells]
end Go.Proofs.YtellmlffkgfeiaaDoor
