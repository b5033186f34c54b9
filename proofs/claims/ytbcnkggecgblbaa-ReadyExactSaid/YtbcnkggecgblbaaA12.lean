/- plain laws of a line. -/
import Derived.Test.YtbcnkggecgblbaaA11
set_option linter.unusedVariables false
set_option linter.unusedSimpArgs false
namespace Go.Proofs.Ytbcnkggecgblbaa
open Go.RowKit
theorem wher_mem (xs : List Int) (d : Int) : decide (0 ≤ wher xs d) = decide (d ∈ xs) := by
  unfold wher
  cases h : xs.findIdx? (· == d) with
  | none =>
    have : d ∉ xs := fun hm => by
      have := List.findIdx?_eq_none_iff.1 h d hm
      simp at this
    simp [this]
  | some i =>
    have : d ∈ xs := by
      obtain ⟨hi, he, _⟩ := List.findIdx?_eq_some_iff_getElem.1 h
      have he : xs[i] = d := by simpa using he
      rw [← he]
      exact List.getElem_mem hi
    simp [this]
theorem rem_srt (id : Int) (L : List (Int × Int)) (h : Srt L) : Srt (rem id L) := h.sublist (rem_sub id L)
theorem spot_le (pri : Int) (M : List (Int × Int)) : spot pri M ≤ M.length := by
  unfold spot
  cases hf : M.findIdx? (fun x => decide (x.2 < pri)) with
  | none => exact Nat.le_refl _
  | some i => exact Nat.le_of_lt (find_some hf).choose_spec.2.2
theorem spot_before (pri : Int) (M : List (Int × Int)) (j : Nat) (x : Int × Int) (hj : j < spot pri M) (hx : M[j]? = some x) : pri ≤ x.2 := by
  unfold spot at hj
  cases hf : M.findIdx? (fun x => decide (x.2 < pri)) with
  | none =>
    have := List.findIdx?_eq_none_iff.1 hf x (List.mem_of_getElem? hx)
    simpa using this
  | some i =>
    rw [hf] at hj
    obtain ⟨hi, _, hb⟩ := List.findIdx?_eq_some_iff_getElem.1 hf
    have h1 := hb j hj
    obtain ⟨hjl, rfl⟩ := List.getElem?_eq_some_iff.1 hx
    simpa using h1
theorem spot_at (pri : Int) (M : List (Int × Int)) (x : Int × Int) (hx : M[spot pri M]? = some x) : x.2 < pri := by
  unfold spot at hx
  cases hf : M.findIdx? (fun x => decide (x.2 < pri)) with
  | none => rw [hf] at hx; simp at hx
  | some i =>
    rw [hf] at hx
    obtain ⟨hi, h1, _⟩ := List.findIdx?_eq_some_iff_getElem.1 hf
    obtain ⟨_, rfl⟩ := List.getElem?_eq_some_iff.1 hx
    simpa using h1
theorem spot_from (pri : Int) (M : List (Int × Int)) (hs : Srt M) (x : Int × Int) (hx : x ∈ M.drop (spot pri M)) : x.2 < pri := by
  obtain ⟨k, hk⟩ := List.getElem?_of_mem hx
  rw [List.getElem?_drop] at hk
  obtain ⟨hkl, rfl⟩ := List.getElem?_eq_some_iff.1 hk
  have h0 := spot_at pri M (M[spot pri M]'(by omega)) (List.getElem?_eq_getElem _)
  by_cases e : k = 0
  · subst e
    exact h0
  · have := List.pairwise_iff_getElem.1 hs (spot pri M) (spot pri M + k) (by omega) hkl (by omega)
    omega
theorem ins_srt (id pri : Int) (M : List (Int × Int)) (hs : Srt M) : Srt (M.take (spot pri M) ++ (id, pri) :: M.drop (spot pri M)) := by
  unfold Srt
  rw [List.pairwise_append]
  refine ⟨hs.sublist (List.take_sublist _ _), ?_, ?_⟩
  · rw [List.pairwise_cons]
    exact ⟨fun x hx => Int.le_of_lt (spot_from pri M hs x hx), hs.sublist (List.drop_sublist _ _)⟩
  · intro x hx y hy
    obtain ⟨k, hk⟩ := List.getElem?_of_mem hx
    rw [List.getElem?_take] at hk
    split at hk
    · rename_i hlt
      have h1 := spot_before pri M k x hlt hk
      rcases List.mem_cons.1 hy with rfl | hy
      · exact h1
      · have := spot_from pri M hs y hy
        omega
    · cases hk
theorem oth_app (d : Int) (xs ys : List Int) : oth d (xs ++ ys) = oth d xs ++ oth d ys := by simp [oth]
theorem oth_rem (d : Int) : ∀ (L : List (Int × Int)), (L.map (·.1)).Nodup → oth d (ids (rem d L)) = oth d (ids L)
  | [], _ => rfl
  | x :: L, h => by
    rw [rem_cons]
    rw [List.map_cons, List.nodup_cons] at h
    by_cases e : x.1 = d
    · rw [if_pos e]
      simp [ids, oth, e]
    · rw [if_neg e]
      have ih := oth_rem d L h.2
      simp only [ids, oth, List.map_cons, List.filter_cons] at ih ⊢
      rw [ih]
theorem oth_ins (d pri : Int) (M : List (Int × Int)) (k : Nat) : oth d (ids (M.take k ++ (d, pri) :: M.drop k)) = oth d (ids M) := by
  have e : ids (M.take k ++ (d, pri) :: M.drop k) = (ids M).take k ++ (d :: (ids M).drop k) := by simp [ids, List.map_take, List.map_drop]
  rw [e, oth_app]
  have e2 : oth d (d :: (ids M).drop k) = oth d ((ids M).drop k) := by simp [oth]
  rw [e2, ← oth_app, List.take_append_drop]
/-- what the law asks behind a call -/
structure Good (k pri : Int) (L L' : List (Int × Int)) (b : Bool) (d : Int) : Prop where
  srt : Srt L'
  at_ : decide (0 ≤ wher (ids L') d) = (b || (decide (k = 1) && decide (0 ≤ wher (ids L) d)))
  at0 : b = true → 0 ≤ wher (ids L') d
  nxt : b = true → ∀ x, L'[(wher (ids L') d).toNat + 1]? = some x → x.2 < pri
  kept : oth d (ids L) = oth d (ids L')
theorem ids_mem (L : List (Int × Int)) (d : Int) (h : ∀ x ∈ L, x.1 ≠ d) : d ∉ ids L := fun hm => by
  obtain ⟨x, hx, he⟩ := List.mem_map.1 hm
  exact h x hx he
theorem wher_put (id pri : Int) (L : List (Int × Int)) (hn : (L.map (·.1)).Nodup) : wher (ids (put id pri L)) id = (spot pri (rem id L) : Int) := by
  have hno := ids_mem _ _ (rem_not id L hn)
  unfold put
  generalize rem id L = M at *
  have e : ids (M.take (spot pri M) ++ (id, pri) :: M.drop (spot pri M)) = (ids M).take (spot pri M) ++ (id :: (ids M).drop (spot pri M)) := by simp [ids, List.map_take, List.map_drop]
  have hl : ((ids M).take (spot pri M)).length = spot pri M := by
    have := spot_le pri M
    rw [List.length_take, ids_length]
    omega
  rw [e]
  unfold wher
  rw [List.findIdx?_append, List.findIdx?_eq_none_iff.2 (fun y hy => by
    have : y ≠ id := fun e => hno (e ▸ List.mem_of_mem_take hy)
    simpa using this), List.findIdx?_cons]
  simp [hl]
theorem good_put (pri id : Int) (L : List (Int × Int)) (hn : (L.map (·.1)).Nodup) (hs : Srt L) : Good 1 pri L (put id pri L) true id := by
  have hw := wher_put id pri L hn
  refine ⟨ins_srt id pri _ (rem_srt id L hs), by rw [hw]; simp, fun _ => by rw [hw]; omega, fun _ x hx => ?_, ?_⟩
  · rw [hw] at hx
    simp only [Int.toNat_natCast] at hx
    unfold put at hx
    have hl : ((rem id L).take (spot pri (rem id L))).length = spot pri (rem id L) := by
      have := spot_le pri (rem id L)
      rw [List.length_take]
      omega
    rw [List.getElem?_append_right (by omega), hl, show spot pri (rem id L) + 1 - spot pri (rem id L) = 0 + 1 by omega, List.getElem?_cons_succ, List.getElem?_drop] at hx
    exact spot_at pri _ x hx
  · unfold put
    rw [oth_ins, oth_rem id L hn]
theorem good_no (pri d : Int) (L : List (Int × Int)) (hs : Srt L) : Good 1 pri L L false d :=
  ⟨hs, by simp, fun h => (by cases h), fun h => (by cases h), rfl⟩
theorem good_rem (k pri id : Int) (hk : k ≠ 1) (L : List (Int × Int)) (hn : (L.map (·.1)).Nodup) (hs : Srt L) : Good k pri L (rem id L) false id :=
  ⟨rem_srt id L hs, by rw [wher_mem, decide_eq_false (ids_mem _ _ (rem_not id L hn))]; simp [hk], fun h => (by cases h), fun h => (by cases h), (oth_rem id L hn).symm⟩
theorem rem_fst (x : Int × Int) (L : List (Int × Int)) : rem x.1 (x :: L) = L := by rw [rem_cons, if_pos rfl]
theorem good_take (k pri : Int) (hk : k ≠ 1) (L : List (Int × Int)) (hn : (L.map (·.1)).Nodup) (hs : Srt L) : Good k pri L L.tail false (fst L).1 := by
  cases L with
  | nil => exact good_rem k pri 0 hk [] hn hs
  | cons x L =>
    have := good_rem k pri x.1 hk (x :: L) hn hs
    rw [rem_fst] at this
    exact this
end Go.Proofs.Ytbcnkggecgblbaa
