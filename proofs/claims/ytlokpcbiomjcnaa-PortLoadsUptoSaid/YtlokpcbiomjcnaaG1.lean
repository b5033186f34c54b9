/- How a partition's ports stand, each list in memory of its own: what every call keeps. -/
import Derived.Test.YtlokpcbiomjcnaaF9
set_option linter.unusedVariables false
set_option linter.unusedSimpArgs false
namespace Go.Proofs.Ytlokpcbiomjcnaa
open Go.RowKit
theorem exec_sub1 {a : Act} {o : Oper} {w : World} (x : Operand) (ho : o.op = .binOp .sub 3 x (.const (.int .i64 1)) 3) (p q : Int) (hx : a.eval x = .int .i64 p) (hq : q = p - 1) (hb : 0 ≤ q ∧ q ≤ 9223372036854775807) :
    (execOp a.eval o).run Try.prog w = .ok (.value (.int .i64 q)) w := by
  have h1 : a.eval (.const (.int .i64 1)) = .int .i64 1 := rfl
  unfold execOp
  simp only [ho, hx, h1]
  go_simp
  rw [IntKind.wrap_i64]
  omega
/-- one element's place in a list of elements of s cells -/
theorem exec_ats {a : Act} {o : Oper} {w : World} (t e : TypeId) (s : Nat) (x y : Operand) (ho : o.op = .indexAddr t x y) (hu : Try.prog.underlying t = some (.slice e)) (hs : (Try.prog.info? e).map (·.size) = some s) (ad : Addr) (n cap i : Nat) (hx : a.eval x = .slice (some ad) n cap) (hy : a.eval y = .int .i64 (i : Int)) (hi : i < n) :
    (execOp a.eval o).run Try.prog w = .ok (.value (.pointer (some (ad.add (i * s))))) w := by
  have h1 : (i : Int) < (n : Int) := by omega
  have h2 : decide ((i : Int) < 0) = false := by simp
  obtain ⟨ti, hti, hts⟩ := Option.map_eq_some_iff.1 hs
  unfold execOp
  simp only [ho]
  generalize a.eval = ρ at *
  simp only [hx, hy]
  go_simp
  simp [sizeOf, typeInfo, hti, hts]
/-- a whole struct is read, wherever it lies -/
theorem exec_load_cl {a : Act} {o : Oper} {w : World} (ty : TypeId) (x : Operand) (ho : o.op = .load ty x) (ad : Addr) (hx : a.eval x = .pointer (some ad)) (cs : List Value) (d : TypeDesc) (hc : Cl w (some ad) cs)
    (hu : Try.prog.underlying ty = some d) (hd : d.isRow = true) (hi : (Try.prog.info? ty).map (·.size) = some cs.length) : (execOp a.eval o).run Try.prog w = .ok (.value (.agg cs.toArray)) w := by
  have hl : (loadCells ad cs.length).run Try.prog w = .ok cs.toArray w := run_loadCells_list (P := Try.prog) w ad cs (fun j v hv => by
    obtain ⟨ad', e, h⟩ := hc j v hv
    cases e
    exact h)
  obtain ⟨i, hq, hs⟩ := Option.map_eq_some_iff.1 hi
  have hagg : (isAgg ty).run Try.prog w = .ok true w := by
    unfold isAgg
    rw [Sem.run_bind, run_underlying hu w]
    cases d <;> first | rfl | cases hd
  unfold execOp
  simp [ho, hx, Instr.loadAt, Instr.sureAddr, loadVar, Sem.run_bind, Sem.run_pure, hagg, sizeOf, typeInfo, hq, hs, hl]
/-- queues and lists, no two of which share memory -/
structure Mm (w : World) (b : Nat) (c : Nat → Rp) (ss : Nat → Ps) : Prop where
  q : ∀ j, Qv w (c j).vq (c j).ms
  qb : ∀ j k, qblk (c j).vq = some k → b ≤ k
  sep : ∀ j, Sep w b ((c j).vd :: (c j).ms) ((ss j).data :: (ss j).q)
  dq : ∀ i j k, qblk (c i).vq = some k → qblk (c j).vq = some k → i = j
  ds : ∀ (i j a b : Nat) v u k, i ≠ j → ((c i).vd :: (c i).ms)[a]? = some v → ((c j).vd :: (c j).ms)[b]? = some u → v.ownBlock = some k → ¬ u.ownBlock = some k
theorem Mm.keep {D : Nat → Prop} {w w' : World} {b : Nat} {c : Nat → Rp} {ss : Nat → Ps} (h : Mm w b c ss) (hc : Ch D w w') (h2 : Far w D 2) (h32 : Far w D 32) : Mm w' b c ss :=
  ⟨fun j => (h.q j).keep hc (fun k hk => by
    obtain ⟨L, hL⟩ := (h.q j).row hk
    exact h32 k L hL), h.qb, fun j => (h.sep j).keep hc h2, h.dq, h.ds⟩
theorem Mm.keepNo {w w' : World} {b : Nat} {c : Nat → Rp} {ss : Nat → Ps} (h : Mm w b c ss) (hc : Ch No w w') : Mm w' b c ss := h.keep hc (fun _ _ _ => not_no _) (fun _ _ _ => not_no _)
theorem Mm.start (w : World) (b : Nat) : Mm w b (fun _ => rp0) (fun _ => ps0) :=
  ⟨fun j => Qv.nil w, fun j k hk => by simp [rp0, qblk] at hk, fun j => Sep.zero w _, fun i j k hk => by simp [rp0, qblk] at hk, fun i j a b v u k hij hv hu hk => by
    have ha := (List.getElem?_eq_some_iff.1 hv).1
    simp [rp0] at ha
    subst ha
    simp [rp0] at hv
    subst hv
    simp [Value.ownBlock] at hk⟩
/-- one more has memory -/
theorem Mm.fill {D : Nat → Prop} {w w1 w2 : World} {b0 : Nat} {c : Nat → Rp} {ss : Nat → Ps} (h : Mm w b0 c ss) {j : Nat} {vq vd : Value} {ms : List Value} {s : Ps} (hb0 : b0 ≤ w.heap.size) (hcp : Cpy w w1 vq vd ms s) (hc2 : Ch D w1 w2) (h2 : Far w1 D 2) (h32 : Far w1 D 32) :
    Mm w2 b0 (fun i => if i = j then ⟨vq, vd, ms⟩ else c i) (fun i => if i = j then s else ss i) := by
  have h1 : Mm w1 b0 c ss := h.keepNo hcp.ch
  have hltq : ∀ i k, qblk (c i).vq = some k → k < w.heap.size := fun i k hk => by
    obtain ⟨L, hL⟩ := (h.q i).row hk
    exact hL.lt
  have hlts : ∀ (i a : Nat) v k, ((c i).vd :: (c i).ms)[a]? = some v → v.ownBlock = some k → k < w.heap.size := fun i a v k hv hk => by
    have ha : a < ((ss i).data :: (ss i).q).length := by
      rw [← (h.sep i).len]
      exact (List.getElem?_eq_some_iff.1 hv).1
    obtain ⟨L, hL⟩ := own_row ((h.sep i).own a v _ hv (List.getElem?_eq_getElem ha)).1 hk
    exact hL.lt
  have hnew : ∀ (a : Nat) v k, (vd :: ms)[a]? = some v → v.ownBlock = some k → w.heap.size ≤ k := fun a v k hv hk => by
    have ha : a < (s.data :: s.q).length := by
      rw [← hcp.sep.len]
      exact (List.getElem?_eq_some_iff.1 hv).1
    exact own_base_ (hcp.sep.own a v _ hv (List.getElem?_eq_getElem ha)).1 k hk
  have keepQ : ∀ v ms', Qv w1 v ms' → Qv w2 v ms' := fun v ms' hq => hq.keep hc2 (fun k hk he => by
    obtain ⟨L, hL⟩ := hq.row hk
    exact h32 k L hL he)
  refine ⟨fun i => ?_, fun i k hk => ?_, fun i => ?_, fun a b k ha hb => ?_, fun a b x y v u k hab hv hu hk => ?_⟩
  · by_cases e : i = j
    · simp only [if_pos e]
      exact keepQ _ _ hcp.q
    · simp only [if_neg e]
      exact keepQ _ _ (h1.q i)
  · by_cases e : i = j
    · simp only [if_pos e] at hk
      exact Nat.le_trans hb0 (hcp.qb k hk)
    · simp only [if_neg e] at hk
      exact h.qb i k hk
  · by_cases e : i = j
    · simp only [if_pos e]
      exact (hcp.sep.low hb0).keep hc2 h2
    · simp only [if_neg e]
      exact (h1.sep i).keep hc2 h2
  · by_cases ea : a = j
    · by_cases eb : b = j
      · rw [ea, eb]
      · simp only [if_pos ea] at ha
        simp only [if_neg eb] at hb
        have g1 := hcp.qb k ha
        have g2 := hltq b k hb
        omega
    · simp only [if_neg ea] at ha
      by_cases eb : b = j
      · simp only [if_pos eb] at hb
        have g1 := hcp.qb k hb
        have g2 := hltq a k ha
        omega
      · simp only [if_neg eb] at hb
        exact h.dq a b k ha hb
  · by_cases ea : a = j
    · by_cases eb : b = j
      · exact absurd (ea.trans eb.symm) hab
      · simp only [if_pos ea] at hv
        simp only [if_neg eb] at hu
        intro he
        have g1 := hnew x v k hv hk
        have g2 := hlts b y u k hu he
        omega
    · simp only [if_neg ea] at hv
      by_cases eb : b = j
      · simp only [if_pos eb] at hu
        intro he
        have g1 := hnew y u k hu he
        have g2 := hlts a x v k hv hk
        omega
      · simp only [if_neg eb] at hu
        exact h.ds a b x y v u k hab hv hu hk

theorem Cpy.then_ {w w' w'' : World} {vq vd : Value} {ms : List Value} {s : Ps} (h : Cpy w w' vq vd ms s) (hc : Ch No w' w'') : Cpy w w'' vq vd ms s := ⟨h.q.keepNo hc, h.qb, h.sep.keepNo hc, h.ch.then_ hc⟩
theorem Cpy.later {w0 w w' : World} {vq vd : Value} {ms : List Value} {s : Ps} (h : Cpy w w' vq vd ms s) (hc : Ch No w0 w) : Cpy w0 w' vq vd ms s := ⟨h.q, fun k hk => Nat.le_trans hc.size (h.qb k hk), h.sep.low hc.size, hc.then_ h.ch⟩
theorem Sep.head {w : World} {b : Nat} {v : Value} {vs : List Value} {x : List Int} {xs : List (List Int)} (h : Sep w b (v :: vs) (x :: xs)) : Sep w b [v] [x] := by
  refine ⟨rfl, fun i u y hu hy => ?_, fun i j u u' k hij hu hu' => ?_⟩
  · have hi := (List.getElem?_eq_some_iff.1 hu).1
    simp at hi
    subst hi
    exact h.own 0 u y (by simpa using hu) (by simpa using hy)
  · have hi := (List.getElem?_eq_some_iff.1 hu).1
    have hj := (List.getElem?_eq_some_iff.1 hu').1
    simp at hi hj
    omega
theorem Sep.unhead {w : World} {b : Nat} {v : Value} {vs : List Value} {x : List Int} {xs : List (List Int)} (h : Sep w b (v :: vs) (x :: xs)) : Sep w b (.slice none 0 0 :: vs) ([] :: xs) := by
  refine ⟨by have := h.len; simpa using this, fun i u y hu hy => ?_, fun i j u u' k hij hu hu' hk => ?_⟩
  · cases i with
    | zero =>
      simp at hu hy
      subst hu hy
      exact ⟨owns_nil _ _ _ _, by simp⟩
    | succ i => exact h.own (i + 1) u y (by simpa using hu) (by simpa using hy)
  · cases i with
    | zero =>
      simp at hu
      subst hu
      simp [Value.ownBlock] at hk
    | succ i =>
      cases j with
      | zero =>
        simp at hu'
        subst hu'
        simp [Value.ownBlock]
      | succ j => exact h.dis (i + 1) (j + 1) u u' k hij (by simpa using hu) (by simpa using hu') hk
/-- what of a copy is used -/
theorem Cpy.used {w w' : World} {vq vd : Value} {ms : List Value} {s : Ps} (h : Cpy w w' vq vd ms s) (kind : Int) : Cpy w w' (if kind = 0 then .slice none 0 0 else vq) (if kind = 1 ∨ s.has = false then .slice none 0 0 else vd) (if kind = 0 then [] else ms) (usedS kind s) := by
  have hs : Sep w' w.heap.size ((if kind = 1 ∨ s.has = false then .slice none 0 0 else vd) :: ms) ((if kind = 1 ∨ s.has = false then [] else s.data) :: s.q) := by
    by_cases e : kind = 1 ∨ s.has = false
    · rw [if_pos e, if_pos e]
      exact h.sep.unhead
    · rw [if_neg e, if_neg e]
      exact h.sep
  by_cases e : kind = 0
  · simp only [usedS, if_pos e]
    exact ⟨Qv.nil w', fun k hk => by simp [qblk] at hk, hs.head, h.ch⟩
  · simp only [usedS, if_neg e]
    exact ⟨h.q, h.qb, hs, h.ch⟩
/-- the ports of a partition, as they stand -/
structure Po (b : Nat) (w : World) (G M : Nat) (f : Int → Option Nat) (part : Int) (qs : List Pt) (E : Nat → Nat) (c : Nat → Rp) (ss : Nat → Ps) : Prop where
  hG : Row w G 92 [.map (some M), .int .i64 qs.length]
  hM : PM w M qs.length f
  gb : b ≤ G
  mb : b ≤ M
  ends : ∀ (j : Nat) p, qs[j]? = some p → p.part = part → f (j + 1) = some (E j) ∧ Row w (E j) 95 (ecells p (c j).vq (ss j).has (ss j).tick (c j).vd (ss j).lost) ∧ b ≤ E j
  none_ : ∀ i : Int, (∀ (j : Nat) p, qs[j]? = some p → p.part = part → i ≠ j + 1) → f i = none
  inj : ∀ (i j : Int) e, f i = some e → f j = some e → i = j
  mm : Mm w b c ss
  ql : ∀ j, (ss j).q.length ≤ 10000000
theorem Po.keep {D : Nat → Prop} {b : Nat} {w w' : World} {G M : Nat} {f : Int → Option Nat} {part : Int} {qs : List Pt} {E : Nat → Nat} {c : Nat → Rp} {ss : Nat → Ps} (h : Po b w G M f part qs E c ss) (hc : Ch D w w') (hr : ∀ k t L, Row w k t L → ¬ D k) (hM : ¬ D M) : Po b w' G M f part qs E c ss where
  hG := h.hG.keep hc (hr _ _ _ h.hG)
  hM := h.hM.keep hc hM
  gb := h.gb
  mb := h.mb
  ends := fun j p hp he => by
    obtain ⟨h1, h2, h3⟩ := h.ends j p hp he
    exact ⟨h1, h2.keep hc (hr _ _ _ h2), h3⟩
  none_ := h.none_
  inj := h.inj
  mm := h.mm.keep hc (fun k L hk => hr k _ L hk) (fun k L hk => hr k _ L hk)
  ql := h.ql
theorem Po.keepNo {b : Nat} {w w' : World} {G M : Nat} {f : Int → Option Nat} {part : Int} {qs : List Pt} {E : Nat → Nat} {c : Nat → Rp} {ss : Nat → Ps} (h : Po b w G M f part qs E c ss) (hc : Ch No w w') : Po b w' G M f part qs E c ss := h.keep hc (fun _ _ _ _ => not_no _) (not_no _)
/-- for reading -/
theorem Po.pn {b : Nat} {w : World} {G M : Nat} {f : Int → Option Nat} {part : Int} {qs : List Pt} {E : Nat → Nat} {c : Nat → Rp} {ss : Nat → Ps} (h : Po b w G M f part qs E c ss) : Pn w G M f part qs (fun j => ⟨E j, (c j).vq, (c j).vd, (c j).ms, ss j⟩) where
  hG := h.hG
  hM := h.hM
  ends := fun j p hp he => by
    obtain ⟨h1, h2, h3⟩ := h.ends j p hp he
    have hs := h.mm.sep j
    have hd := hs.own 0 _ _ rfl rfl
    refine ⟨h1, h2, h.mm.q j, by have := hs.len; simpa using this, fun i m xs hm hx => ?_, sl_own hd.1 (Nat.le_trans hd.2 (by decide)), hd.2, h.ql j⟩
    have ho := hs.own (i + 1) m xs (by simpa using hm) (by simpa using hx)
    exact ⟨sl_own ho.1 (Nat.le_trans ho.2 (by decide)), ho.2⟩
  none_ := h.none_
/-- one port is written anew -/
theorem Po.fill {b : Nat} {w w1 w2 : World} {G M : Nat} {f : Int → Option Nat} {part : Int} {qs : List Pt} {E : Nat → Nat} {c : Nat → Rp} {ss : Nat → Ps} (h : Po b w G M f part qs E c ss) {j : Nat} {p : Pt} (hp : qs[j]? = some p) (he : p.part = part) (hb : b ≤ w.heap.size) {vq vd : Value} {ms : List Value} {s : Ps} (hcp : Cpy w w1 vq vd ms s) (hc : Ch (Is (E j)) w1 w2)
    (hr : Row w2 (E j) 95 (ecells p vq s.has s.tick vd s.lost)) (hl : s.q.length ≤ 10000000) :
    Po b w2 G M f part qs E (fun i => if i = j then ⟨vq, vd, ms⟩ else c i) (fun i => if i = j then s else ss i) := by
  have h1 := h.keepNo hcp.ch
  obtain ⟨e1, e2, e3⟩ := h1.ends j p hp he
  have far : ∀ t : TypeId, t ≠ 95 → ∀ k L, Row w1 k t L → ¬ Is (E j) k := fun t ht k L hk hd => by
    have e : k = E j := hd
    subst e
    exact ht (hk.eq_ e2).1
  refine ⟨h1.hG.keep hc (far 92 (by decide) _ _ h1.hG), h1.hM.keep hc (fun hd => pm_row h1.hM e2 (show E j = M from (show M = E j from hd).symm)), h.gb, h.mb, fun i q hq hqe => ?_, h.none_, h.inj, h.mm.fill hb hcp hc (fun k L hk => far 2 (by decide) k L hk) (fun k L hk => far 32 (by decide) k L hk), fun i => ?_⟩
  · obtain ⟨g1, g2, g3⟩ := h1.ends i q hq hqe
    by_cases e : i = j
    · subst e
      rw [hp] at hq
      cases hq
      simp only [if_true]
      exact ⟨g1, hr, g3⟩
    · simp only [if_neg e]
      refine ⟨g1, g2.keep hc (fun hd => e ?_), g3⟩
      have e' : E i = E j := hd
      rw [e'] at g1
      have := h.inj _ _ _ g1 e1
      omega
  · by_cases e : i = j
    · simp only [if_pos e]
      exact hl
    · simp only [if_neg e]
      exact h.ql i
end Go.Proofs.Ytlokpcbiomjcnaa
