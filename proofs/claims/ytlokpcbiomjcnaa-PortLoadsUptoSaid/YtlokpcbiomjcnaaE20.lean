/- marked; the calls on a partition's ports, as contracts on how all of them stand. -/
import Derived.Test.YtlokpcbiomjcnaaE19
set_option linter.unusedVariables false
set_option linter.unusedSimpArgs false
namespace Go.Proofs.Ytlokpcbiomjcnaa
open Go.RowKit
def marks (k : Nat) : List Int := List.replicate k (-77)
theorem marks_length (k : Nat) : (marks k).length = k := by simp [marks]
theorem marks_succ (k : Nat) : marks (k + 1) = marks k ++ [-77] := by simp [marks, List.replicate_succ']
/-- what marked answers: new memory that begins with the words, 70 marks behind them -/
def IsMarked (w : World) (xs : List Int) (e : Ending) (w' : World) : Prop :=
  ∃ g cap rest, e = .returned (.slice (some ⟨g, 0, none⟩) xs.length cap) ∧ Row w' g 2 (ints (xs ++ marks 70) ++ rest) ∧ xs.length + 70 + rest.length = cap ∧ cap ≤ maxLen ∧ w.heap.size ≤ g ∧ Ch No w w'
set_option maxHeartbeats 2000000 in
theorem marked_any (A : Option Addr) (c : Nat) (xs : List Int) (w : World) (hn : xs.length ≤ 1000000000) (hx : Cl w A (ints xs)) :
    Calls Try.prog 9 #[.slice A xs.length c] w (IsMarked w xs) := by
  have HX := Lib.hid hx
  clear hx
  go_enter Try.func9, Try.ntmps9
  go_wp2_with (at_builtin; refine wpList_append_to rfl (.tmp 5) (.tmp 6) 32 rfl w.heap.size 2 (.int .i64 0) 8 Try.underlying32 info2 rfl (.slice none 0 0) [] rfl _ _ _ (ints xs) rfl (owns_nil _ _ _ _) (ints_length xs) HX.out (ints_one xs) (by simp; omega) (by omega) (Nat.le_refl _) ?_; intro v1 w1 ho1 hg1 hat1; rw [List.nil_append] at ho1; have HO1 := Lib.hid ho1; have HC1 : Hid (Ch No w w1) := (Ch.of_grownBy hg1).no (fun k _ hk => by simp [Value.ownBlock] at hk); clear ho1 hg1 hat1)
  go_loopw [3, 4] (fun v i wr => ∃ k : Nat, k ≤ 70 ∧ i = .int .i64 k ∧ Hid (wr.ownsRow w.heap.size 2 1 v (ints (xs ++ marks k)).length (ints (xs ++ marks k))) ∧ Hid (Ch No w wr)) (fun _ i _ => 70 - (intOf i).toNat)
  case atStart => exact ⟨0, by omega, rfl, by simpa [marks] using HO1, HC1⟩
  case round =>
    clear HO1 HC1
    obtain ⟨k, hk, rfl, HO, HC⟩ := hrel
    by_cases hlt : k < 70
    · have HL : Hid ((ints (xs ++ marks k)).length = xs.length + k) := by show _ = _; simp [ints_length, marks_length]
      go_wp2_with (at_builtin; refine wpList_append_to rfl (.tmp 12) (.tmp 13) 32 rfl w.heap.size 2 (.int .i64 0) 8 Try.underlying32 info2 rfl u3 (ints (xs ++ marks k)) rfl _ _ _ (ints [-77]) rfl (HO.out.alloc _) (ints_length _) ((Row.new wr 2 (ints [-77])).cl0) (ints_one _) (by rw [HL.out]; omega) (by omega) (by have := HC.out.size; simp; omega) ?_; intro v1 w1 ho1 hg1 hat1; have HO1 := Lib.hid ho1; have HG1 := Lib.hid hg1; clear ho1 hg1 hat1)
      refine ⟨⟨k + 1, by omega, by go_num, ?_, ?_⟩, by simp [intOf]; omega⟩
      · have := HO1.out
        rw [← ints_append, List.append_assoc, ← marks_succ] at this
        exact this
      · have h1 : Ch No w (wr.alloc (.cells #[.int .i64 (-77)] 2)) := HC.out.alloc _
        refine h1.trans (Ch.of_grownBy HG1.out) (fun i hi he => ?_)
        rcases owns_open HO.out with ⟨hv, _⟩ | ⟨g, cap, rest, hv, hg, _⟩
        · rw [hv] at he
          simp [Value.ownBlock] at he
        · rw [hv] at he
          simp [Value.ownBlock] at he
          omega
    · obtain rfl : k = 70 := by omega
      rcases owns_open HO.out with ⟨hv, hnil⟩ | ⟨g, cap, rest, hv, hg, hr, hcl, hm⟩
      · have := congrArg List.length hnil
        simp [ints_length, marks_length] at this
      · simp only [ints_length, List.length_append, marks_length] at hv hcl
        subst hv
        have HR := Lib.hid hr
        clear hr HO
        go_wp2
        go_ret
        exact ⟨g, cap, rest, rfl, HR.out, hcl, hm, hg, HC.out⟩
theorem marked_sl {w : World} {v : Value} {xs : List Int} (h : Sl w v xs) (hn : xs.length ≤ 1000000000) : Calls Try.prog 9 #[v] w (IsMarked w xs) := by
  obtain ⟨A, c, rfl, hA, _⟩ := h
  exact marked_any A c xs w hn hA
/-- the bounds that an image's ports are within -/
def Fine (ps : List Pt) : Prop := ps.length ≤ 64 ∧ ∀ p ∈ ps, 1 ≤ p.size ∧ p.size ≤ 16 ∧ p.depth ≤ 64 ∧ (p.kind = 0 ∨ p.kind = 1) ∧ (p.kind = 1 → 1 ≤ p.depth) ∧ (p.part = 1 ∨ p.part = 2) ∧ 0 ≤ p.refresh
theorem imgPts_fine (ps : List Pt) : Fine (imgPts ps) := by
  refine ⟨by simp [imgPts]; omega, fun p hp => ?_⟩
  simp only [imgPts, List.mem_map] at hp
  obtain ⟨p, _, rfl⟩ := hp
  have h1 : 0 ≤ andI p.size 15 ∧ andI p.size 15 ≤ 15 := and_le p.size 15 (by decide)
  have h2 : 0 ≤ andI p.kind 1 ∧ andI p.kind 1 ≤ 1 := and_le p.kind 1 (by decide)
  have h3 : 0 ≤ andI p.depth 63 ∧ andI p.depth 63 ≤ 63 := and_le p.depth 63 (by decide)
  have h4 : 0 ≤ andI p.part 1 ∧ andI p.part 1 ≤ 1 := and_le p.part 1 (by decide)
  have h5 : 0 ≤ andI p.refresh 1099511627775 ∧ andI p.refresh 1099511627775 ≤ 1099511627775 := and_le p.refresh 1099511627775 (by decide)
  show 1 ≤ 1 + andI p.size 15 ∧ 1 + andI p.size 15 ≤ 16 ∧ (if andI p.kind 1 = 1 then 1 + andI p.depth 63 else 0) ≤ 64 ∧ (andI p.kind 1 = 0 ∨ andI p.kind 1 = 1) ∧ (andI p.kind 1 = 1 → 1 ≤ (if andI p.kind 1 = 1 then 1 + andI p.depth 63 else 0)) ∧ (1 + andI p.part 1 = 1 ∨ 1 + andI p.part 1 = 2) ∧ 0 ≤ (if andI p.kind 1 = 1 then 0 else if p.out = true then 0 else andI p.refresh 1099511627775)
  refine ⟨by omega, by omega, ?_, by omega, fun h => ?_, by omega, ?_⟩
  · split <;> omega
  · rw [if_pos h]
    omega
  · split
    · omega
    · split
      · omega
      · omega
section
variable {w0 w : World} {X G M gW gL : Nat} {vp vx : Value} {f : Int → Option Nat} {part : Int} {ps : List Pt} {st : Nat → PoS}
/-- no port of one's own has this number -/
def NotOwn (ps : List Pt) (part port : Int) : Prop := ∀ (j : Nat) p, ps[j]? = some p → p.part = part → port ≠ j + 1
theorem Pi.queue_not (h : Pi w0 w X G M gW gL vp vx f part ps st) {port : Int} (hi : (Lit.int .i64 port).wf = true) (hn : NotOwn ps part port) :
    Calls Try.prog 37 #[.pointer (some ⟨G, 0, none⟩), .int .i64 port] w fun e w' => e = .returned (.tuple #[.pointer none, .int .i64 107]) ∧ Ch No w w' :=
  queue_none h.hG h.hM port hi (h.none_ port hn)
theorem Pi.queueOther (h : Pi w0 w X G M gW gL vp vx f part ps st) (hf : Fine ps) {j : Nat} {p : Pt} (hp : ps[j]? = some p) (he : p.part = part) (hk : ¬ p.kind = 1) :
    Calls Try.prog 37 #[.pointer (some ⟨G, 0, none⟩), .int .i64 (j + 1)] w fun e w' => e = .returned (.tuple #[.pointer none, .int .i64 107]) ∧ Ch No w w' := by
  have hat := h.at_ hp he (by have := hf.1; omega)
  exact queue_other hat.hG hat.hM _ hat.hi hat.hf hat.hE hk
theorem Pi.push_yes (h : Pi w0 w X G M gW gL vp vx f part ps st) (hf : Fine ps) {j : Nat} {p : Pt} (hp : ps[j]? = some p) (he : p.part = part) (hk : p.kind = 1) {v : Value} {xs : List Int} (hv : Sl w v xs) (hsz : (xs.length : Int) = p.size) (hroom : ((st j).q.length : Int) < p.depth) :
    Calls Try.prog 18 #[.pointer (some ⟨G, 0, none⟩), .int .i64 (j + 1), v] w fun e w' => e = .returned (.tuple #[.bool true, .int .i64 0]) ∧ ∃ vq' m, Pi w0 w' X G M gW gL vp vx f part ps (updS st j { st j with vq := vq', ms := (st j).ms ++ [m], q := (st j).q ++ [xs] }) ∧ Ch (Dq (st j).E (st j).vq) w w' := by
  have hat := h.at_ hp he (by have := hf.1; omega)
  obtain ⟨b1, b2, b3, b4, b5, b6, b7⟩ := hf.2 p (List.mem_of_getElem? hp)
  obtain ⟨h1, h2, h3, h4, h5⟩ := h.ends j p hp he
  have hq := h.qv j
  have hl := (h.mq j).1
  have hq' := hq
  obtain ⟨Aq, cq, hvq, _⟩ := hq'
  have hE := hat.hE
  rw [hvq] at hE hq
  refine (push_ok hat.hG hat.hM _ hat.hi hat.hf hE hk hv (by omega) hsz (by omega) hq (by omega)).mono ?_
  rintro e w' ⟨rfl, hp'⟩
  rw [← hvq] at hp' hq
  obtain ⟨vq', m', hat', hq', hm', hc, hb⟩ := hat.push hq hp'
  have hms : Mss w' (st j).ms (st j).q := (h.mq j).keep hc (dq_far h2 hq (by decide) (by decide))
  have hmg : Mg w' m' xs := Mg.of_owns hm' (by omega) (by omega)
  refine ⟨rfl, vq', m', ?_, hc⟩
  exact h.port hp he (has' := (st j).has) (tick' := (st j).tick) (vd' := (st j).vd) (lost' := (st j).lost) hat' hq' (hms.snoc hmg) hc hb h4 h5
theorem Pi.pushArg (h : Pi w0 w X G M gW gL vp vx f part ps st) (hf : Fine ps) {j : Nat} {p : Pt} (hp : ps[j]? = some p) (he : p.part = part) (hk : p.kind = 1) {v : Value} {xs : List Int} (hv : Sl w v xs) (hsz : ¬ (xs.length : Int) = p.size) :
    Calls Try.prog 18 #[.pointer (some ⟨G, 0, none⟩), .int .i64 (j + 1), v] w fun e w' => e = .returned (.tuple #[.bool false, .int .i64 2]) ∧ Ch No w w' := by
  have hat := h.at_ hp he (by have := hf.1; omega)
  obtain ⟨A, c, rfl, _, hl⟩ := hv
  exact push_arg hat.hG hat.hM _ hat.hi hat.hf hat.hE hk A xs.length c hl hsz
theorem Pi.pushFull (h : Pi w0 w X G M gW gL vp vx f part ps st) (hf : Fine ps) {j : Nat} {p : Pt} (hp : ps[j]? = some p) (he : p.part = part) (hk : p.kind = 1) {v : Value} {xs : List Int} (hv : Sl w v xs) (hsz : (xs.length : Int) = p.size) (hfull : ¬ ((st j).q.length : Int) < p.depth) :
    Calls Try.prog 18 #[.pointer (some ⟨G, 0, none⟩), .int .i64 (j + 1), v] w fun e w' => e = .returned (.tuple #[.bool false, .int .i64 0]) ∧ Ch No w w' := by
  have hat := h.at_ hp he (by have := hf.1; omega)
  obtain ⟨A, c, rfl, _, hl⟩ := hv
  obtain ⟨Aq, cq, hvq, _⟩ := h.qv j
  have hE := hat.hE
  rw [hvq] at hE
  have hml := (h.mq j).1
  exact push_full hat.hG hat.hM _ hat.hi hat.hf hE hk A xs.length c hl hsz (by omega)
theorem Pi.popEmpty (h : Pi w0 w X G M gW gL vp vx f part ps st) (hf : Fine ps) {j : Nat} {p : Pt} (hp : ps[j]? = some p) (he : p.part = part) (hk : p.kind = 1) (hq : (st j).q = []) :
    Calls Try.prog 19 #[.pointer (some ⟨G, 0, none⟩), .int .i64 (j + 1)] w fun e w' => e = .returned (.tuple #[.slice none 0 0, .bool false, .int .i64 0]) ∧ Ch No w w' := by
  have hat := h.at_ hp he (by have := hf.1; omega)
  obtain ⟨Aq, cq, hvq, _⟩ := h.qv j
  have hml := (h.mq j).1
  rw [hq] at hml
  have h0 : (st j).ms.length = 0 := hml
  have hE := hat.hE
  rw [hvq, h0] at hE
  exact pop_empty hat.hG hat.hM _ hat.hi hat.hf hE hk
theorem Pi.pop_yes (h : Pi w0 w X G M gW gL vp vx f part ps st) (hf : Fine ps) {j : Nat} {p : Pt} (hp : ps[j]? = some p) (he : p.part = part) (hk : p.kind = 1) {xs : List Int} {q' : List (List Int)} (hq : (st j).q = xs :: q') :
    Calls Try.prog 19 #[.pointer (some ⟨G, 0, none⟩), .int .i64 (j + 1)] w fun e w' => ∃ m, e = .returned (.tuple #[m, .bool true, .int .i64 0]) ∧ Mg w' m xs ∧ Ch (Dq (st j).E (st j).vq) w w' ∧ ∃ vq' ms', Pi w0 w' X G M gW gL vp vx f part ps (updS st j { st j with vq := vq', ms := ms', q := q' }) := by
  have hat := h.at_ hp he (by have := hf.1; omega)
  obtain ⟨h1, h2, h3, h4, h5⟩ := h.ends j p hp he
  have hms := h.mq j
  have hqv := h.qv j
  rw [hq] at hms
  obtain ⟨m, ms', hmm⟩ : ∃ m ms', (st j).ms = m :: ms' := by
    cases hh : (st j).ms with
    | nil =>
      rw [hh] at hms
      have := hms.1
      simp at this
    | cons a b => exact ⟨a, b, rfl⟩
  rw [hmm] at hms hqv
  obtain ⟨hms', hmg⟩ := hms.tail
  obtain ⟨g, cap, rest, em, hrm, hln⟩ := hmg
  refine (pop_one hat hk hqv ⟨_, _, _, em⟩).mono ?_
  rintro e w' ⟨rfl, vq', hat', hq', hc, hb⟩
  have hcD : Ch (Dq (st j).E (st j).vq) w w' := hc.mono (fun k _ hk => .inl hk)
  have far := dq_far h2 (h.qv j) (t := 2) (by decide) (by decide)
  refine ⟨m, rfl, ⟨g, cap, rest, em, hrm.keep hcD (far _ _ hrm), hln⟩, hcD, vq', ms', ?_⟩
  exact h.port hp he (has' := (st j).has) (tick' := (st j).tick) (vd' := (st j).vd) (lost' := (st j).lost) hat' hq' (hms'.keep hcD far) hcD (fun k hk => .inl (hb k hk)) h4 h5
theorem Pi.lose_yes (h : Pi w0 w X G M gW gL vp vx f part ps st) (hf : Fine ps) {j : Nat} {p : Pt} (hp : ps[j]? = some p) (he : p.part = part) (hk : p.kind = 1 ∧ p.out = false) :
    Calls Try.prog 20 #[.pointer (some ⟨G, 0, none⟩), .int .i64 (j + 1)] w fun e w' => e = .returned (.int .i64 0) ∧ Pi w0 w' X G M gW gL vp vx f part ps (updS st j { st j with lost := wrap64 ((st j).lost + 1) }) ∧ Ch (Dq (st j).E (st j).vq) w w' := by
  have hat := h.at_ hp he (by have := hf.1; omega)
  obtain ⟨h1, h2, h3, h4, h5⟩ := h.ends j p hp he
  refine (lose_ok hat.hG hat.hM _ hat.hi hat.hf hat.hE hk).mono ?_
  rintro e w' ⟨rfl, hE, hc⟩
  have hcD : Ch (Dq (st j).E (st j).vq) w w' := hc.mono (fun k _ hk => .inl hk)
  have far := fun (t : TypeId) (h1 : t ≠ 95) (h3 : t ≠ 32) => dq_far h2 (h.qv j) (t := t) h1 h3
  have hqv := h.qv j
  refine ⟨rfl, ?_, hcD⟩
  have hM' := hat.hM.keep hc (fun e => pm_row hat.hM h2 e.symm)
  exact h.port hp he (vq' := (st j).vq) (has' := (st j).has) (tick' := (st j).tick) (vd' := (st j).vd) (ms' := (st j).ms) (q' := (st j).q) ⟨hat.hG.keepIs hc (row_ne hat.hG h2 (by decide)), hM', hat.hi, hat.hf, hE⟩ (hqv.keep hc (fun k hk he => hqv.ne_row h2 (by decide) (he ▸ hk))) ((h.mq j).keep hcD (far 2 (by decide) (by decide))) hcD (fun k hk => .inl hk) h4 h5
theorem Pi.own_not (h : Pi w0 w X G M gW gL vp vx f part ps st) {port : Int} (hi : (Lit.int .i64 port).wf = true) (hn : NotOwn ps part port) (kind : Int) (out : Bool) :
    Calls Try.prog 34 #[.pointer (some ⟨G, 0, none⟩), .int .i64 port, .int .i64 kind, .bool out] w fun e w' => e = .returned (.bool false) ∧ Ch No w w' :=
  own_none h.hG h.hM port hi (h.none_ port hn) kind out
theorem Pi.own_is (h : Pi w0 w X G M gW gL vp vx f part ps st) (hf : Fine ps) {j : Nat} {p : Pt} (hp : ps[j]? = some p) (he : p.part = part) (kind : Int) (out : Bool) :
    Calls Try.prog 34 #[.pointer (some ⟨G, 0, none⟩), .int .i64 (j + 1), .int .i64 kind, .bool out] w fun e w' => e = .returned (.bool (p.kind == kind && p.out == out)) ∧ Ch No w w' := by
  have hat := h.at_ hp he (by have := hf.1; omega)
  exact own_some hat.hG hat.hM _ hat.hi hat.hf hat.hE kind out
/-- nothing of what PortInOrder looks at has turned -/
def Alike (st st' : Nat → PoS) : Prop := ∀ i, (st' i).q = (st i).q ∧ (st' i).r = (st i).r ∧ (st' i).lost = (st i).lost ∧ (st' i).los = (st i).los
theorem Alike.refl (st : Nat → PoS) : Alike st st := fun _ => ⟨rfl, rfl, rfl, rfl⟩
theorem Pi.set_any (h : Pi w0 w X G M gW gL vp vx f part ps st) (hf : Fine ps) {port : Int} (hi : (Lit.int .i64 port).wf = true) {v : Value} {xs : List Int} (hv : Sl w v xs) (now : Int) :
    Calls Try.prog 15 #[.pointer (some ⟨G, 0, none⟩), .int .i64 port, v, .int .i64 now] w fun e w' => ∃ err st', e = .returned (.int .i64 err) ∧ Pi w0 w' X G M gW gL vp vx f part ps st' ∧ Alike st st' ∧ (err = 0 → ∃ (j : Nat) (p : Pt), ps[j]? = some p ∧ p.part = part ∧ port = j + 1 ∧ p.kind = 0) ∧ (∀ g L, Row w g 57 L → Row w' g 57 L) := by
  by_cases hn : NotOwn ps part port
  · refine (set_port port now v (h.own_not hi hn 0 false)).mono ?_
    rintro e w' ⟨rfl, hc⟩
    exact ⟨107, st, rfl, h.keepNo hc, Alike.refl _, (fun h => absurd h (by decide)), fun g L hg => hg.keepNo hc⟩
  · obtain ⟨j, hj⟩ := Classical.not_forall.1 hn
    obtain ⟨p, hp⟩ := Classical.not_forall.1 hj
    simp only [ne_eq, Classical.not_imp, Classical.not_not] at hp
    obtain ⟨hp, he, rfl⟩ := hp
    have hat := h.at_ hp he (by have := hf.1; omega)
    obtain ⟨b1, b2, b3, b4, b5, b6, b7⟩ := hf.2 p (List.mem_of_getElem? hp)
    obtain ⟨h1, h2, h3, h4, h5⟩ := h.ends j p hp he
    by_cases hk : p.kind = 0 ∧ p.out = false
    · by_cases hc : (xs.length : Int) = p.size ∧ mayB now = true
      · refine (set_ok hat.hG hat.hM _ hat.hi hat.hf hat.hE hk hv (by omega) now hc.1 hc.2).mono ?_
        rintro e w' ⟨rfl, vd', hE, hch, hd'⟩
        have hcD : Ch (Dq (st j).E (st j).vq) w w' := hch.mono (fun k _ hk => .inl hk)
        have hqv := h.qv j
        have hM' := hat.hM.keep hch (fun e => pm_row hat.hM h2 e.symm)
        refine ⟨0, _, rfl, h.port hp he (vq' := (st j).vq) (has' := true) (tick' := now) (vd' := vd') (lost' := (st j).lost) (ms' := (st j).ms) (q' := (st j).q) ⟨hat.hG.keepIs hch (row_ne hat.hG h2 (by decide)), hM', hat.hi, hat.hf, hE⟩ (hqv.keep hch (fun k hk he => hqv.ne_row h2 (by decide) (he ▸ hk))) ((h.mq j).keep hcD (dq_far h2 hqv (by decide) (by decide))) hcD (fun k hk => .inl hk) (fun e1 => by rw [hk.1] at e1; cases e1) (own_slice hd'), fun i => ?_, fun _ => ⟨j, p, hp, he, rfl, hk.1⟩, fun g L hg => hg.keepIs hch (row_ne hg h2 (by decide))⟩
        by_cases e : i = j
        · subst e
          rw [updS_self]
          exact ⟨rfl, rfl, rfl, rfl⟩
        · rw [updS_other _ _ e]
          exact ⟨rfl, rfl, rfl, rfl⟩
      · obtain ⟨A, c, rfl, hA, hl⟩ := hv
        refine (set_arg hat.hG hat.hM _ hat.hi hat.hf hat.hE hk A xs.length c hl now hc).mono ?_
        rintro e w' ⟨rfl, hch⟩
        exact ⟨2, st, rfl, h.keepNo hch, Alike.refl _, (fun h => absurd h (by decide)), fun g L hg => hg.keepNo hch⟩
    · have ho := h.own_is hf hp he 0 false
      rw [show (p.kind == 0 && p.out == false) = false by
        cases hb : (p.kind == 0 && p.out == false)
        · rfl
        · simp at hb
          exact absurd hb hk] at ho
      refine (set_port _ now v ho).mono ?_
      rintro e w' ⟨rfl, hc⟩
      exact ⟨107, st, rfl, h.keepNo hc, Alike.refl _, (fun h => absurd h (by decide)), fun g L hg => hg.keepNo hc⟩
theorem Pi.count_is (h : Pi w0 w X G M gW gL vp vx f part ps st) (hf : Fine ps) {j : Nat} {p : Pt} (hp : ps[j]? = some p) (he : p.part = part) (hk : p.kind = 1) :
    Calls Try.prog 21 #[.pointer (some ⟨G, 0, none⟩), .int .i64 (j + 1)] w fun e w' => e = .returned (.tuple #[.int .i64 ((st j).q.length : Nat), .int .i64 (st j).lost, .int .i64 0]) ∧ Ch No w w' := by
  have hat := h.at_ hp he (by have := hf.1; omega)
  obtain ⟨h1, h2, h3, h4, h5⟩ := h.ends j p hp he
  obtain ⟨Aq, cq, hvq, _⟩ := h.qv j
  have hE := hat.hE
  rw [hvq, h4 hk] at hE
  rw [← (h.mq j).1]
  exact count_queue hat.hG hat.hM _ hat.hi hat.hf hE
end
end Go.Proofs.Ytlokpcbiomjcnaa
