/- The standings that were lent, one list at a time. -/
import Derived.Test.YtlokpcbiomjcnaaH8
set_option linter.unusedVariables false
set_option linter.unusedSimpArgs false
namespace Go.Proofs.Ytlokpcbiomjcnaa
open Go.RowKit
theorem LoadQ.keepNo {b : Nat} {w1 w' : World} {part : Int} {qs : List Pt} {ls : List Ps} {e : Ending} (h : LoadQ b w1 part qs ls e) (hc : Ch No w1 w') : LoadQ b w' part qs ls e := by
  rcases h with ⟨h1, h2⟩ | ⟨h1, G, M, f, E, c, ss, h2, h3, h4⟩
  · exact .inl ⟨h1, h2⟩
  · exact .inr ⟨h1, G, M, f, E, c, ss, h2, h3.keepNo hc, h4⟩
theorem Ge.data {w : World} {b gG m j : Nat} {ss : Nat → Ps} {c : Nat → Rp} (h : Ge w b gG m ss c (allV c j).length) (hj : j < m) {q : List (List Int)} {has : Bool} {tick lost : Int} {data : List Int} (hs : ss j = ⟨q, has, tick, data, lost⟩) {g n cap : Nat} (hv : (c j).vd = .slice (some ⟨g, 0, none⟩) n cap) :
    ∃ rest, n = data.length ∧ b ≤ g ∧ Row w g 2 (ints (data ++ marks 70) ++ rest) ∧ n + 70 ≤ cap ∧ cap ≤ maxLen ∧ (allV c m)[(allV c j).length + 0]? = some (.slice (some ⟨g, 0, none⟩) n cap) ∧ ∀ w', Ch (Is g) w w' → Ge w' b gG m ss c ((allV c j).length + 1 + 0) := by
  have hlen := all_len c ss h.ml (Nat.le_of_lt hj)
  have hv0 := allV_at c hj 0 (Nat.zero_le _)
  have hx0 := allX_at ss hj 0 (Nat.zero_le _)
  rw [hlen, hs] at hx0
  obtain ⟨g', cap', rest, e, hb, hr, h1, h2, h3, hk⟩ := h.mkd.left hv0 hx0
  rw [hv] at e
  simp only [Value.slice.injEq, Option.some.injEq, Addr.mk.injEq, and_true] at e
  obtain ⟨rfl, rfl, rfl⟩ := e
  exact ⟨rest, rfl, hb, hr, h1, h2, by rw [hv0]; exact congrArg some hv, fun w' hc => h.left hr hc (hk w' hc)⟩
theorem Ge.list {w : World} {b gG m j i : Nat} {ss : Nat → Ps} {c : Nat → Rp} (h : Ge w b gG m ss c ((allV c j).length + 1 + i)) (hj : j < m) {q : List (List Int)} {has : Bool} {tick lost : Int} {data xs : List Int} (hs : ss j = ⟨q, has, tick, data, lost⟩) (hx : q[i]? = some xs) :
    ∃ g cap rest, (c j).ms[i]? = some (.slice (some ⟨g, 0, none⟩) xs.length cap) ∧ b ≤ g ∧ Row w g 2 (ints (xs ++ marks 70) ++ rest) ∧ xs.length + 70 ≤ cap ∧ cap ≤ maxLen ∧ xs.length ≤ 10000000 ∧ (allV c m)[(allV c j).length + 1 + i]? = some (.slice (some ⟨g, 0, none⟩) xs.length cap) ∧ ∀ w', Ch (Is g) w w' → Ge w' b gG m ss c ((allV c j).length + 1 + (i + 1)) := by
  have hlen := all_len c ss h.ml (Nat.le_of_lt hj)
  have hml := h.ml j hj
  rw [hs] at hml
  have hi : i < q.length := (List.getElem?_eq_some_iff.1 hx).1
  have hv0 := allV_at c hj (i + 1) (by rw [hml]; exact hi)
  have hx0 := allX_at ss hj (i + 1) (by rw [hs]; exact hi)
  rw [hlen, hs] at hx0
  simp only [List.getElem?_cons_succ] at hv0 hx0
  rw [show (allV c j).length + (i + 1) = (allV c j).length + 1 + i by omega] at hv0 hx0
  obtain ⟨v, hv⟩ : ∃ v, (c j).ms[i]? = some v := ⟨_, List.getElem?_eq_getElem (by rw [hml]; exact hi)⟩
  obtain ⟨g, cap, rest, rfl, hb, hr, h1, h2, h3, hk⟩ := h.mkd.left (hv0.trans hv) (hx0.trans hx)
  exact ⟨g, cap, rest, hv, hb, hr, h1, h2, h3, hv0.trans hv, fun w' hc => h.left hr hc (hk w' hc)⟩
theorem Ge.end_ {w : World} {b gG m j n : Nat} {ss : Nat → Ps} {c : Nat → Rp} (h : Ge w b gG m ss c ((allV c j).length + 1 + n)) (hn : (c j).ms.length = n) : Ge w b gG m ss c (allV c (j + 1)).length := by
  rw [allV_succ, List.length_append, List.length_cons, hn, show (allV c j).length + (n + 1) = (allV c j).length + 1 + n by omega]
  exact h
/-- what the document's Load answers is what the ports tell then -/
theorem tells_new {part : Int} {qs : List Pt} {ls : List Ps} {sp : Nat → Ps} (hok : Ok part qs ls) (hsp : ∀ (j : Nat) p s, qs[j]? = some p → p.part = part → ls[j]? = some s → sp j = usedS p.kind s) : Tells part qs sp (newL part qs ls) := by
  refine ⟨by simp [newL, hok.1], fun j p hp => ?_⟩
  have hj : j < ls.length := by
    have := (List.getElem?_eq_some_iff.1 hp).1
    have := hok.1
    omega
  obtain ⟨s, hs⟩ : ∃ s, ls[j]? = some s := ⟨_, List.getElem?_eq_getElem hj⟩
  rw [newL_get hp hs, newS]
  by_cases e : p.part = part
  · rw [if_pos e, if_pos e, hsp j p s hp e hs]
  · rw [if_neg e, if_neg e]
theorem LoadQ.told {b : Nat} {w : World} {part : Int} {qs : List Pt} {ls : List Ps} {G : Nat} (h : LoadQ b w part qs ls (.returned (.tuple #[.pointer (some ⟨G, 0, none⟩), .int .i64 0]))) : ∃ M f E c ss, Po b w G M f part qs E c ss ∧ Tells part qs ss (newL part qs ls) := by
  rcases h with ⟨h1, h2⟩ | ⟨h1, G', M, f, E, c, ss, h2, h3, h4⟩
  · simp at h2
  · simp only [Ending.returned.injEq, Value.tuple.injEq, Array.mk.injEq, List.cons.injEq, Value.pointer.injEq, Option.some.injEq, Addr.mk.injEq, and_true] at h2
    subst h2
    exact ⟨M, f, E, c, ss, h3, tells_new h1 h4⟩
end Go.Proofs.Ytlokpcbiomjcnaa
