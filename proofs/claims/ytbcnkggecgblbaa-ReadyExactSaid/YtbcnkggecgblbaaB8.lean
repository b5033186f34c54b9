/- plain laws: the line and the reference's line go together. -/
import Derived.Test.YtbcnkggecgblbaaB7
set_option linter.unusedVariables false
set_option linter.unusedSimpArgs false
namespace Go.Proofs.Ytbcnkggecgblbaa
open Go.RowKit
def pr2 (x : Tri) : Int × Int := (x.1, x.2.1)
theorem rem_map (id : Int) : ∀ (M : List Tri), (M.map (·.1)).Nodup → rem id (M.map pr2) = (wo id M).map pr2
  | [], _ => rfl
  | x :: M, h => by
    rw [List.map_cons, List.nodup_cons] at h
    rw [List.map_cons, rem_cons]
    by_cases e : x.1 = id
    · have hno : ∀ y ∈ M, y.1 ≠ id := fun y hy he => h.1 (List.mem_map.2 ⟨y, hy, he.trans e.symm⟩)
      have h1 := wo_ne id M hno
      have h2 : wo id (x :: M) = M := by
        unfold wo at h1 ⊢
        rw [List.filter_cons]
        simpa [e] using h1
      rw [if_pos (show (pr2 x).1 = id from e), h2]
    · have h2 : wo id (x :: M) = x :: wo id M := by
        unfold wo
        rw [List.filter_cons]
        simp [e]
      rw [if_neg (show ¬ (pr2 x).1 = id from e), h2, List.map_cons, rem_map id M h.2]
theorem Ord.ndM {X M : List Tri} (h : Ord X M) : (M.map (·.1)).Nodup := (h.pm.map _).nodup_iff.2 h.nd
theorem Ord.wo' {X M : List Tri} (h : Ord X M) (id : Int) : Ord (wo id X) (wo id M) :=
  ⟨h.pm.filter _, h.srt.sublist List.filter_sublist, h.nd.sublist (List.Sublist.map _ List.filter_sublist)⟩
theorem Cor.nil (T : Int) : Cor [] [] T [] := ⟨⟨List.Perm.refl _, List.Pairwise.nil, List.Pairwise.nil⟩, rfl, fun x hx => by cases hx⟩
theorem Cor.eq' {L : List (Int × Int)} {X M : List Tri} {T : Int} (h : Cor L X T M) : L = M.map pr2 := h.eq
theorem Cor.rem' {L : List (Int × Int)} {X M : List Tri} {T : Int} (h : Cor L X T M) (id : Int) : Cor (rem id L) (wo id X) T (wo id M) :=
  ⟨h.ord.wo' id, by rw [h.eq', rem_map id M h.ord.ndM]; rfl, fun x hx => h.tm x ((List.mem_filter.1 hx).1)⟩
theorem Cor.fst' {L : List (Int × Int)} {X M : List Tri} {T : Int} (h : Cor L X T M) : fst L = hd3 M := by
  rw [h.eq]
  cases M <;> rfl
theorem Cor.take' {L : List (Int × Int)} {X M X' : List Tri} {T : Int} (h : Cor L X T M) (ho : Ord X' M.tail) : Cor L.tail X' T M.tail :=
  ⟨ho, by rw [h.eq, List.map_tail], fun x hx => h.tm x (h.ord.pm.mem_iff.1 (List.mem_of_mem_tail (ho.pm.mem_iff.2 hx)))⟩
theorem Cor.put' {L : List (Int × Int)} {X M : List Tri} {T : Int} (h : Cor L X T M) (id pri : Int) :
    ∃ M', Cor (put id pri L) (wo id X ++ [(id, pri, T + 1)]) (T + 1) M' := by
  have hr := h.rem' id
  have hs : Srt (rem id L) := by
    rw [hr.eq]
    unfold Srt
    rw [List.pairwise_map]
    exact hr.ord.srt.imp (fun {x y} hb => by
      unfold Beat at hb
      show y.2.1 ≤ x.2.1
      omega)
  obtain ⟨s, hsp⟩ : ∃ s, s = spot pri (rem id L) := ⟨_, rfl⟩
  refine ⟨(wo id M).take s ++ (id, pri, T + 1) :: (wo id M).drop s, ⟨?_, ?_, ?_⟩, ?_, ?_⟩
  · have h1 := List.perm_middle (a := (id, pri, T + 1)) (l₁ := (wo id M).take s) (l₂ := (wo id M).drop s)
    rw [List.take_append_drop] at h1
    exact h1.trans ((List.Perm.cons _ hr.ord.pm).trans (List.perm_append_singleton _ _).symm)
  · rw [List.pairwise_append, List.pairwise_cons]
    refine ⟨hr.ord.srt.sublist (List.take_sublist _ _), ⟨fun y hy => ?_, hr.ord.srt.sublist (List.drop_sublist _ _)⟩, fun x hx y hy => ?_⟩
    · have h1 := spot_from pri (rem id L) hs (pr2 y) (by
        rw [← hsp, hr.eq', ← List.map_drop]
        exact List.mem_map.2 ⟨y, hy, rfl⟩)
      exact .inl h1
    · have hxm : x ∈ wo id M := List.mem_of_mem_take hx
      obtain ⟨k, hk⟩ := List.getElem?_of_mem hx
      rw [List.getElem?_take] at hk
      split at hk
      · rename_i hlt
        have h1 := spot_before pri (rem id L) k (pr2 x) (by omega) (by
          rw [hr.eq', List.getElem?_map, hk]
          rfl)
        have h1 : pri ≤ x.2.1 := h1
        have h2 := hr.tm x (hr.ord.pm.mem_iff.1 hxm)
        rcases List.mem_cons.1 hy with rfl | hy
        · unfold Beat
          simp only
          omega
        · have h3 := spot_from pri (rem id L) hs (pr2 y) (by
            rw [← hsp, hr.eq', ← List.map_drop]
            exact List.mem_map.2 ⟨y, hy, rfl⟩)
          have h3 : y.2.1 < pri := h3
          unfold Beat
          omega
      · cases hk
  · rw [List.map_append, List.nodup_append]
    refine ⟨hr.ord.nd, by simp, fun a ha b hb => ?_⟩
    obtain ⟨x, hx, rfl⟩ := List.mem_map.1 ha
    simp at hb
    subst hb
    have := (List.mem_filter.1 hx).2
    simpa using this
  · unfold Go.Proofs.Ytbcnkggecgblbaa.put
    rw [← hsp, hr.eq, List.map_append, List.map_cons, List.map_take, List.map_drop]
  · intro x hx
    rcases List.mem_append.1 hx with hx | hx
    · have := hr.tm x hx
      omega
    · simp at hx
      subst hx
      exact Int.le_refl _
theorem Cor.len' {L : List (Int × Int)} {X M : List Tri} {T : Int} (h : Cor L X T M) : X.length = L.length := by
  rw [h.eq, List.length_map, h.ord.pm.length_eq]
theorem Cor.has' {L : List (Int × Int)} {X M : List Tri} {T : Int} (h : Cor L X T M) (id : Int) : has id L = ((X.length : Int) != ((wo id X).length : Int)) := by
  have h1 := (h.rem' id).len'
  have h2 := h.len'
  have h3 : has id L = (L.length != (rem id L).length) := by
    unfold Go.Proofs.Ytbcnkggecgblbaa.has Go.Proofs.Ytbcnkggecgblbaa.rem
    cases hf : L.findIdx? (fun x => x.1 == id) with
    | none => simp
    | some i =>
      obtain ⟨_, _, _, hi⟩ := find_some hf
      simp only [Option.isSome_some, List.length_eraseIdx, if_pos hi]
      symm
      rw [bne_iff_ne]
      omega
  rw [h3, h1, h2]
  rw [Bool.eq_iff_iff, bne_iff_ne, bne_iff_ne]
  omega
theorem prio_mem {L : List (Int × Int)} (hn : (L.map (·.1)).Nodup) {id p : Int} (h : (id, p) ∈ L) : prio id L = (p, true) := by
  obtain ⟨i, hi⟩ := List.getElem?_of_mem h
  have hl := (List.getElem?_eq_some_iff.1 hi).1
  have h1 := prio_at L hn i hl
  rw [rd_ids L i _ hi] at h1
  rw [h1]
  unfold prAt
  rw [hi]
  rfl
theorem prio_no {L : List (Int × Int)} {id : Int} (h : ∀ x ∈ L, x.1 ≠ id) : prio id L = (0, false) := by
  unfold prio
  rw [List.findIdx?_eq_none_iff.2 (fun x hx => by simpa using h x hx)]
theorem Cor.prio' {L : List (Int × Int)} {X M : List Tri} {T : Int} (h : Cor L X T M) (id : Int) : prio id L = rpr id X := by
  have hn : (L.map (·.1)).Nodup := by
    have e : L.map (·.1) = M.map (·.1) := by rw [h.eq, List.map_map]; rfl
    rw [e]
    exact h.ord.ndM
  unfold rpr
  cases hf : X.findIdx? (fun x => x.1 == id) with
  | none =>
    refine prio_no (fun x hx he => ?_)
    rw [h.eq] at hx
    obtain ⟨y, hy, rfl⟩ := List.mem_map.1 hx
    have := List.findIdx?_eq_none_iff.1 hf y (h.ord.pm.mem_iff.1 hy)
    simp at this
    exact this he
  | some i =>
    obtain ⟨hi, he, _⟩ := List.findIdx?_eq_some_iff_getElem.1 hf
    have he : X[i].1 = id := by simpa using he
    dsimp only
    rw [List.getElem?_eq_getElem hi]
    refine prio_mem hn ?_
    rw [h.eq]
    exact List.mem_map.2 ⟨X[i], h.ord.pm.mem_iff.2 (List.getElem_mem hi), by rw [he]; rfl⟩
end Go.Proofs.Ytbcnkggecgblbaa
