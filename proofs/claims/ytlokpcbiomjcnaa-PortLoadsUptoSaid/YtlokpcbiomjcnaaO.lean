/- Arguments opened: from the reading of a value as data to its cells, type by type, whatever the depth. -/
import Derived.Test.YtlokpcbiomjcnaaK
import Derived.ProofKit
import Derived.OpenShut
set_option linter.unusedVariables false
set_option linter.unusedSimpArgs false
namespace Go.Proofs.Ytlokpcbiomjcnaa
open Go.ChangeShapes Go.WideShapes Go.ChangeAt Go.RowKit

section
variable {H : Type} {enc : TypeId × Value → H} {P : Program} {W : World}
/-- the cells cs read as the datum d of type t -/
def Tr (enc : TypeId × Value → H) (P : Program) (W : World) (t : TypeId) (cs : List Value) (d : DataW H) : Prop := ∃ hd fuel ps, DataW.trod enc P W 0 (fun _ => true) hd fuel t cs = some (d, ps)
theorem tr_of {t : TypeId} {v : Value} {d : DataW H} {ps : List MemPlace} (h : DataW.Trod enc P W 0 (fun _ => true) true t v d ps) : Tr enc P W t v.cells.toList d := by
  obtain ⟨fuel, hf⟩ := h
  exact ⟨true, fuel, ps, hf⟩
theorem tr_int {t : TypeId} {k : IntKind} {cs : List Value} {d : DataW H} (ht : P.underlying t = some (.int k)) (h : Tr enc P W t cs d) : ∃ n, cs = [.int k n] ∧ d = .lit (.int k n) ∧ (Lit.int k n).wf = true := by
  obtain ⟨hd, fuel, ps, hf⟩ := h
  obtain ⟨n, h1, h2, h3⟩ := DataW.trod_int ht hf
  simp only [Prod.mk.injEq] at h2
  exact ⟨n, h1, h2.1, h3⟩
theorem tr_bool {t : TypeId} {cs : List Value} {d : DataW H} (ht : P.underlying t = some .bool) (h : Tr enc P W t cs d) : ∃ b, cs = [.bool b] ∧ d = .lit (.bool b) := by
  obtain ⟨hd, fuel, ps, hf⟩ := h
  obtain ⟨n, h1, h2⟩ := DataW.trod_bool ht hf
  simp only [Prod.mk.injEq] at h2
  exact ⟨n, h1, h2.1⟩
theorem tr_string {t : TypeId} {cs : List Value} {d : DataW H} (ht : P.underlying t = some .string) (h : Tr enc P W t cs d) : ∃ s : ByteArray, cs = [.string s] ∧ d = .lit (.string s.data.toList) ∧ s.size ≤ maxLen := by
  obtain ⟨hd, fuel, ps, hf⟩ := h
  obtain ⟨s, h1, h2, h3⟩ := DataW.trod_string ht hf
  simp only [Prod.mk.injEq] at h2
  exact ⟨s, h1, h2.1, h3⟩
theorem tr_slice {t e : TypeId} {c : Nat} {cs : List Value} {d : DataW H} (ht : P.underlying t = some (.slice e)) (hc : P.cellsOf e = c) (h : Tr enc P W t cs d) :
    ∃ (A : Option Addr) (ess : List (List Value)) (ds : List (DataW H)) (cap : Nat), cs = [.slice A ess.length cap] ∧ ess.length ≤ cap ∧ cap ≤ maxLen ∧ ds.length = ess.length ∧
      (∀ (i : Nat) (es : List Value), ess[i]? = some es → es.length = c ∧ ∃ d' : DataW H, ds[i]? = some d' ∧ Tr enc P W e es d') ∧ (∀ (i j : Nat) (v : Value) (es : List Value), ess[i]? = some es → es[j]? = some v → ∃ ad, A = some ad ∧ W.cell? (ad.add (i * c + j)) = some v) ∧
      ((d = .nil ∧ ds = []) ∨ ∃ sp, d = .slice ds sp) := by
  subst hc
  obtain ⟨hd, fuel, ps, hf⟩ := h
  rcases DataW.trod_slice ht hf with ⟨rfl, hx⟩ | ⟨a, len, cap, elems, rest, n, _, rfl, hx, hb, hl, hm, hlen, hel, _, _⟩
  · simp only [Prod.mk.injEq] at hx
    exact ⟨none, [], [], 0, rfl, by simp, by simp, rfl, by simp, by simp, .inl ⟨hx.1, rfl⟩⟩
  · simp only [Prod.mk.injEq] at hx
    have hall : ∀ i, i < len → ∃ es, W.cells? 0 (a.add (i * P.cellsOf e)) (P.cellsOf e) = some es ∧ ∃ y, elems[i]? = some y ∧ DataW.trod enc P W 0 (fun _ => true) hd n e es = some y := by
      intro i hi
      have h1 := hel i hi
      rw [List.getElem?_eq_getElem (by omega)] at h1
      obtain ⟨es, h2, h3⟩ := Option.bind_eq_some_iff.1 h1
      exact ⟨es, h2, _, List.getElem?_eq_getElem (by omega), h3⟩
    have hcollect : ∀ m, m ≤ len → ∃ ess : List (List Value), ess.length = m ∧ ∀ i es, ess[i]? = some es → W.cells? 0 (a.add (i * P.cellsOf e)) (P.cellsOf e) = some es ∧ ∃ y, elems[i]? = some y ∧ DataW.trod enc P W 0 (fun _ => true) hd n e es = some y := by
      intro m
      induction m with
      | zero => exact fun _ => ⟨[], rfl, by simp⟩
      | succ m ih =>
        intro hm'
        obtain ⟨ess, h1, h2⟩ := ih (by omega)
        obtain ⟨es, h3⟩ := hall m (by omega)
        refine ⟨ess ++ [es], by simp [h1], fun i es' hi => ?_⟩
        rcases Nat.lt_or_ge i ess.length with h | h
        · rw [List.getElem?_append_left h] at hi
          exact h2 i es' hi
        · rw [List.getElem?_append_right h] at hi
          have : i = m := by
            rcases Nat.eq_zero_or_pos (i - ess.length) with h0 | h0
            · omega
            · rw [List.getElem?_eq_none (by simp; omega)] at hi
              cases hi
          subst this
          have he : es' = es := by
            rw [show i - ess.length = 0 by omega] at hi
            simpa using hi.symm
          subst he
          exact h3
    obtain ⟨ess, h1, h2⟩ := hcollect len (Nat.le_refl _)
    subst h1
    refine ⟨some a, ess, elems.map (·.1), cap, rfl, hl, hm, by simp [hlen], fun i es hi => ?_, fun i j v es hi hj => ?_, .inr ⟨_, hx.1⟩⟩
    · obtain ⟨h3, y, h4, h5⟩ := h2 i es hi
      exact ⟨(World.cells?_some h3).2.1, y.1, by simp [h4], hd, n, y.2, h5⟩
    · obtain ⟨h3, _⟩ := h2 i es hi
      obtain ⟨_, h5, h6⟩ := World.cells?_some h3
      have hj' : j < P.cellsOf e := by
        rw [← h5]
        exact (List.getElem?_eq_some_iff.1 hj).1
      refine ⟨a, rfl, ?_⟩
      rw [← add_add, h6 j hj', hj]
theorem tr_struct {t : TypeId} {fs : Array Field} {cs : List Value} {d : DataW H} (ht : P.underlying t = some (.struct fs)) (h : Tr enc P W t cs d) :
    ∃ ds : List (DataW H), d = .agg ds ∧ cs.length = P.cellsOf t ∧ ds.length = fs.size ∧ ∀ (j : Nat) (f : Field), fs[j]? = some f → ∃ d' : DataW H, ds[j]? = some d' ∧ Tr enc P W f.type ((cs.drop f.offset).take (P.cellsOf f.type)) d' := by
  obtain ⟨hd, fuel, ps, hf⟩ := h
  obtain ⟨xs, n, _, hx, hlen, hxs, hel⟩ := DataW.trod_struct ht hf
  simp only [Prod.mk.injEq] at hx
  refine ⟨xs.map (·.1), hx.1, hlen, by simp [hxs], fun j f hj => ?_⟩
  have hjl : j < xs.length := by
    rw [hxs]
    exact (Array.getElem?_eq_some_iff.1 hj).1
  have h1 := hel j f hj
  rw [List.getElem?_eq_getElem hjl] at h1
  exact ⟨xs[j].1, by simp [hjl], hd, n, xs[j].2, h1⟩
/-- a field of one cell -/
theorem tr_field {t : TypeId} {cs : List Value} {o n : Nat} {c : Value} {d : DataW H} (h : Tr enc P W t ((cs.drop o).take n) d) (hn : n = 1) (hc : cs[o]? = some c) : Tr enc P W t [c] d := by
  subst hn
  have hlt : o < cs.length := (List.getElem?_eq_some_iff.1 hc).1
  have e : (cs.drop o).take 1 = [c] := by
    rw [List.drop_eq_getElem_cons hlt]
    have : cs[o] = c := (List.getElem?_eq_some_iff.1 hc).2
    simp [this]
  rw [e] at h
  exact h
theorem tr_array {t e : TypeId} {n : Nat} {cs : List Value} {d : DataW H} (ht : P.underlying t = some (.array n e)) (h : Tr enc P W t cs d) :
    ∃ ds : List (DataW H), d = .agg ds ∧ cs.length = P.cellsOf t ∧ ds.length = n ∧ ∀ (j : Nat), j < n → ∃ d' : DataW H, ds[j]? = some d' ∧ Tr enc P W e ((cs.drop (j * P.cellsOf e)).take (P.cellsOf e)) d' := by
  obtain ⟨hd, fuel, ps, hf⟩ := h
  obtain ⟨xs, m, _, hx, hlen, hxs, hel⟩ := DataW.trod_array ht hf
  simp only [Prod.mk.injEq] at hx
  refine ⟨xs.map (·.1), hx.1, hlen, by simp [hxs], fun j hj => ?_⟩
  have hjl : j < xs.length := by omega
  have h1 := hel j hj
  rw [List.getElem?_eq_getElem hjl] at h1
  exact ⟨xs[j].1, by simp [hjl], hd, m, xs[j].2, h1⟩

/-- elements, each in a form of its own -/
theorem tr_list {α : Type} (cells : α → List Value) (Q : α → DataW H → Prop) : ∀ (ess : List (List Value)) (ds : List (DataW H)), ds.length = ess.length →
    (∀ (i : Nat) (es : List Value), ess[i]? = some es → ∃ d' : DataW H, ds[i]? = some d' ∧ ∃ a, es = cells a ∧ Q a d') → ∃ as : List α, ess = as.map cells ∧ ∀ (i : Nat) (a : α), as[i]? = some a → ∃ d' : DataW H, ds[i]? = some d' ∧ Q a d'
  | [], _, _, _ => ⟨[], rfl, by simp⟩
  | es :: ess, [], hl, _ => by simp at hl
  | es :: ess, d :: ds, hl, h => by
    obtain ⟨d', h1, a, h2, h3⟩ := h 0 es (by simp)
    obtain ⟨as, h4, h5⟩ := tr_list cells Q ess ds (by simpa using hl) (fun i es' hi => h (i + 1) es' (by simpa using hi))
    refine ⟨a :: as, by simp [h2, h4], fun i b hi => ?_⟩
    cases i with
    | zero =>
      simp at hi
      subst hi
      exact ⟨d', h1, h3⟩
    | succ i => exact h5 i b (by simpa using hi)

/-- a slice of whole numbers -/
theorem tr_ints {t e : TypeId} {cs : List Value} {d : DataW H} (ht : P.underlying t = some (.slice e)) (he : P.underlying e = some (.int .i64)) (hc : P.cellsOf e = 1) (h : Tr enc P W t cs d) :
    ∃ (A : Option Addr) (xs : List Int) (cap : Nat), cs = [.slice A xs.length cap] ∧ xs.length ≤ cap ∧ cap ≤ maxLen ∧ Cl W A (ints xs) ∧ (∀ n ∈ xs, (Lit.int .i64 n).wf = true) ∧
      ((d = .nil ∧ xs = []) ∨ ∃ sp, d = .slice (lits .i64 xs) sp) := by
  obtain ⟨A, ess, ds, cap, h1, h2, h3, h4, h5, h6, h7⟩ := tr_slice ht hc h
  obtain ⟨xs, hxs, hd⟩ := tr_list (fun x : Int => [Value.int .i64 x]) (fun x d' => d' = .lit (.int .i64 x) ∧ (Lit.int .i64 x).wf = true) ess ds h4 (fun i es hi => by
    obtain ⟨_, d', hd', htr⟩ := h5 i es hi
    obtain ⟨n, hn1, hn2, hn3⟩ := tr_int he htr
    exact ⟨d', hd', n, hn1, hn2, hn3⟩)
  subst hxs
  simp only [List.length_map] at h1 h2 h4
  refine ⟨A, xs, cap, h1, h2, h3, fun j v hj => ?_, fun n hn => ?_, ?_⟩
  · simp only [ints, List.getElem?_map, Option.map_eq_some_iff] at hj
    obtain ⟨x, hx, rfl⟩ := hj
    obtain ⟨ad, ha, hcell⟩ := h6 j 0 (.int .i64 x) [.int .i64 x] (by simp [hx]) (by simp)
    exact ⟨ad, ha, by simpa using hcell⟩
  · obtain ⟨i, hi⟩ := List.getElem?_of_mem hn
    obtain ⟨_, _, _, hw⟩ := hd i n hi
    exact hw
  · have hds : ds = lits .i64 xs := by
      apply List.ext_getElem?
      intro i
      rcases Nat.lt_or_ge i xs.length with hlt | hge
      · obtain ⟨d', hd1, hd2, _⟩ := hd i _ (List.getElem?_eq_getElem hlt)
        rw [hd1, hd2]
        simp [lits, hlt]
      · rw [List.getElem?_eq_none (by omega), List.getElem?_eq_none (by simp [lits]; omega)]
    rcases h7 with ⟨h8, h9⟩ | ⟨sp, h8⟩
    · refine .inl ⟨h8, ?_⟩
      subst h9
      exact List.eq_nil_of_length_eq_zero (by simpa using h4.symm)
    · exact .inr ⟨sp, by rw [← hds]; exact h8⟩
theorem wf_i64 {n : Int} (h : (Lit.int .i64 n).wf = true) : -9223372036854775808 ≤ n ∧ n ≤ 9223372036854775807 := by
  simpa [Lit.wf, IntKind.min, IntKind.max, IntKind.signed, IntKind.bits] using h
end
end Go.Proofs.Ytlokpcbiomjcnaa
