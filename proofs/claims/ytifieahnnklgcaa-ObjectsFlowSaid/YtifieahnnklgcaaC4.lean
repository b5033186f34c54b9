/- the set's Put and Get, walked. -/
import Derived.Test.YtifieahnnklgcaaC3
set_option linter.unusedVariables false
set_option linter.unusedSimpArgs false
namespace Go.Proofs.Ytifieahnnklgcaa
open Go.RowKit
theorem wpAnyH_norm {P : Program} {md : Region.Mode} {ops : Array Oper} {Q : Exit → Act → World → Prop} {S : World → Prop} {fuel : Nat} {listed : Array Bool} {a : Act} {w : World} (fuel' : Nat) (listed' : Array Bool) (hl : listed = listed') (hf : fuel = fuel')
    (h : wpAnyH P md ops Q S fuel' listed' a w) : wpAnyH P md ops Q S fuel listed a w := by
  subst hl hf
  exact h
/-- s[n:], as an operation of a region's head (the pointer stays where no room is left) -/
theorem exec_from {P : Program} {a : Act} {o : Oper} {w : World} (t e : TypeId) (x y : Operand) (ho : o.op = .slice t x (some y) none none) (hu : P.underlying t = some (.slice e)) (s : Nat) (hs : ∀ w, (sizeOf e).run P w = .ok s w) (g L cap n : Nat) (hx : a.eval x = .slice (some ⟨g, 0, none⟩) L cap) (hy : a.eval y = .int .i64 (n : Int)) (hn : n ≤ L) (hlc : L ≤ cap) (h63 : cap ≤ 9223372036854775807) :
    (execOp a.eval o).run P w = .ok (.value (.slice (some ⟨g, if cap = n then 0 else n * s, none⟩) (L - n) (cap - n))) w := by
  have hnn : (n : Int) ≤ (cap : Int) := by omega
  have hnl : (n : Int) ≤ (L : Int) := by omega
  have h0 : (0 : Int) ≤ (n : Int) := by omega
  unfold execOp
  simp only [ho]
  generalize a.eval = ρ at *
  simp only [Option.map_some, Option.map_none, hx, hy]
  go_simp
  all_goals (split <;> simp_all)
theorem exec_from1 {P : Program} {a : Act} {o : Oper} {w : World} (t e : TypeId) (x y : Operand) (ho : o.op = .slice t x (some y) none none) (hu : P.underlying t = some (.slice e)) (s : Nat) (hs : ∀ w, (sizeOf e).run P w = .ok s w) (g L cap n of len : Nat) (hx : a.eval x = .slice (some ⟨g, 0, none⟩) L cap) (hy : a.eval y = .int .i64 (n : Int)) (hn : n ≤ L) (hlc : L ≤ cap) (h63 : cap ≤ 9223372036854775807) (hof : of = if cap = n then 0 else n * s) (hlen : len = L - n) :
    (execOp a.eval o).run P w = .ok (.value (.slice (some ⟨g, of, none⟩) len (cap - n))) w := by
  rw [hof, hlen]
  exact exec_from t e x y ho hu s hs g L cap n hx hy hn hlc h63
theorem one24 : (Try.prog.info? 24).map (·.size) = some 1 := by kernel_rfl
/-- &s[0], as an operation of a region's head -/
theorem exec_at0 {a : Act} {o : Oper} {w : World} (t e : TypeId) (x : Operand) (ho : o.op = .indexAddr t x (.const (.int .i64 0))) (hu : Try.prog.underlying t = some (.slice e)) (hs : (Try.prog.info? e).map (·.size) = some 1) (ad : Addr) (n cap : Nat) (hx : a.eval x = .slice (some ad) n cap) (hi : 0 < n) :
    (execOp a.eval o).run Try.prog w = .ok (.value (.pointer (some ad))) w := by
  have h1 : (0 : Int) < (n : Int) := by omega
  obtain ⟨ti, hti, hts⟩ := Option.map_eq_some_iff.1 hs
  have hy : a.eval (.const (.int .i64 0)) = .int .i64 0 := rfl
  unfold execOp
  simp only [ho]
  generalize a.eval = ρ at *
  simp only [hx, hy]
  go_simp
  simp [sizeOf, typeInfo, hti, hts]
/-- one cell is written, at an operation of a drawn region -/
theorem wp_store_cell {o : Oper} {a : Act} {w : World} {K : Act → World → Prop} {Q : Exit → Act → World → Prop} (ty : TypeId) (x y : Operand) (ho : o.op = .store ty x y)
    (g off : Nat) (v : Value) (hx : a.eval x = .pointer (some ⟨g, off, none⟩)) (hy : a.eval y = v) (h1 : v.oneCell' = true) (hi : (Try.prog.info? ty).map (·.size) = some 1)
    (hc : (w.cell? ⟨g, off, none⟩).isSome = true) (hf : w.frozen? ⟨g, off, none⟩ = false)
    (h : K (a.put o.dst undef) (w.setCell ⟨g, off, none⟩ v)) : o.wp Try.prog a w K Q := by
  have hcs : v.cells = #[v] := by cases v <;> first | rfl | cases h1
  have hst := run_storeCells_cells (P := Try.prog) g off [v] 0 w (fun j hj => by
    obtain rfl : j = 0 := by simpa using hj
    simpa using hc) (fun j hj => by
    obtain rfl : j = 0 := by simpa using hj
    simpa using hf) (fun u hu => by
    obtain rfl : u = v := by simpa using hu
    exact h1)
  simp only [Nat.add_zero] at hst
  obtain ⟨i, hq, hs⟩ := Option.map_eq_some_iff.1 hi
  have hsv : (storeVar ty ⟨g, off, none⟩ v).run Try.prog w = .ok () (w.setCells g off [v]) := by
    simp [storeVar, sizeOf, typeInfo, hq, hcs, hs, hst]
  unfold Oper.wp execOp
  simp only [ho, hx, hy, Instr.storeAt, Instr.sureAddr, Sem.run_bind, Sem.run_pure, Result.andThen_ok, hsv]
  exact h
theorem put_ne {s : SetR} {vl' u : Value} {xs : List Int} (h : { s with vl := vl', sv := s.sv ++ [u], ms := s.ms ++ [xs] } = s) : False := by
  have := congrArg (fun s => s.ms.length) h
  simp at this
theorem put_bad {base : Nat} {s : SetR} {w : World} (h : Bs base s w) (v : Value) (xs : List Int) (hx : Sl w v xs) (hl : (xs.length : Int) ≠ s.siz) :
    Calls Try.prog 21 #[.pointer (some ⟨s.P, 0, none⟩), .int .i64 1, v] w fun e w' => e = .returned (.tuple #[.bool false, .int .i64 2]) ∧ w' = w := by
  obtain ⟨A, c, rfl, _⟩ := hx
  have hp := h.row.lt
  have hg := h.buf.lt
  have c0 : w.cell? ⟨s.P, 2, none⟩ = some (.slice (some ⟨s.gb, 0, none⟩) 1 s.cb) := by rw [h.row.cell]; rfl
  have c1 : w.cell? ⟨s.gb, 2, none⟩ = some (.int .i64 s.siz) := by rw [h.buf.cell]; rfl
  have d0 : ((xs.length : Int) != s.siz) = true := by rw [bne_iff_ne]; exact hl
  clear h
  go_enter Try.func21, Try.ntmps21
  go_wp2_with (fail)
  refine (at_34 s.gb s.cb w).mono ?_
  rintro e w2 ⟨rfl, rfl⟩
  go_wp2_with (fail)
  exact bodyPost_ret (v := .tuple #[.bool false, .int .i64 2]) (by kernel_rfl) rfl ⟨rfl, rfl⟩
/-- what Put leaves -/
def PutP (base : Nat) (s : SetR) (xs : List Int) (w : World) (e : Ending) (w' : World) : Prop :=
  e = .returned (.tuple #[.bool (decide ((s.ms.length : Int) < s.dep)), .int .i64 0]) ∧ (∃ s', Bs base s' w' ∧ (s' = s ∨ ∃ vl' u, s' = { s with vl := vl', sv := s.sv ++ [u], ms := s.ms ++ [xs] } ∧ (s.ms.length : Int) < s.dep) ∧ (s' = s → ¬ (s.ms.length : Int) < s.dep) ∧ From w s.vl s'.vl) ∧ Ch (Ds s) w w'
set_option maxHeartbeats 4000000 in
theorem put_calls {base : Nat} {s : SetR} {w : World} (h : Bs base s w) (v : Value) (xs : List Int) (hx : Sl w v xs) (hl : (xs.length : Int) = s.siz) (hs : s.siz ≤ 1000000) (hd : s.dep ≤ 900) :
    Calls Try.prog 21 #[.pointer (some ⟨s.P, 0, none⟩), .int .i64 1, v] w (PutP base s xs w) := by
  obtain ⟨A, c, rfl, hcl, hl63⟩ := hx
  have hp := h.row.lt
  have hg := h.buf.lt
  have c0 : w.cell? ⟨s.P, 2, none⟩ = some (.slice (some ⟨s.gb, 0, none⟩) 1 s.cb) := by rw [h.row.cell]; rfl
  have c1 : w.cell? ⟨s.gb, 2, none⟩ = some (.int .i64 s.siz) := by rw [h.buf.cell]; rfl
  have d0 : ((xs.length : Int) != s.siz) = false := by rw [hl]; simp
  have HB := Lib.hid h
  have HX : Hid (Sl w (.slice A xs.length c) xs) := ⟨A, c, rfl, hcl, hl63⟩
  have HXL : Hid (xs.length ≤ 1000000) := by show _ ≤ _; omega
  clear h hcl hl
  go_enter Try.func21, Try.ntmps21
  go_wp2_with (fail)
  refine (at_34 s.gb s.cb w).mono ?_
  rintro e w2 ⟨rfl, rfl⟩
  go_upto_region 4 with (fail)
  have HS0 : Hid ((fun _ : World => True) w2.drew) := trivial
  refine wp_region_held (S := fun _ => True) (by kernel_rfl) ?_
  change wpAnyH _ _ _ _ _ _ _ _ w2.drew
  have HC1 : Hid (Ch No w2 w2.drew) := (Ch.refl _ _).drew
  have HSZ : Hid (w2.drew.heap.size = w2.heap.size) := rfl
  generalize w2.drew = w3 at *
  refine wpAnyH_take (i := 0) (oi := ⟨some 30, _, _, _, _, _⟩) (v := .pointer (some ⟨s.gb, 0, none⟩)) rfl (by kernel_rfl) (by kernel_rfl) (by kernel_rfl) (fun _ _ _ h => h) (Or.inl ⟨by rfl, fun _ _ => rfl⟩) HS0.out ?_
  simp only [Act.put, List.setIfInBounds_toArray, List.set_cons_zero, List.set_cons_succ]
  refine wpAnyH_take (i := 1) (oi := ⟨some 31, _, _, _, _, _⟩) (v := .pointer (some ⟨s.gb, 0, none⟩)) rfl (by kernel_rfl) (by kernel_rfl) (by kernel_rfl) (fun _ _ _ h => h) (Or.inl ⟨by rfl, fun _ _ => rfl⟩) HS0.out ?_
  simp only [Act.put, List.setIfInBounds_toArray, List.set_cons_zero, List.set_cons_succ]
  refine wpAnyH_take (i := 2) (oi := ⟨some 32, _, _, _, _, _⟩) (v := .pointer (some ⟨s.gb, 0, none⟩)) rfl (by kernel_rfl) (by kernel_rfl) (by kernel_rfl) (fun _ _ _ h => h) (Or.inl ⟨by rfl, fun _ _ => by kernel_rfl⟩) HS0.out ?_
  simp only [Act.put, List.setIfInBounds_toArray, List.set_cons_zero, List.set_cons_succ]
  refine wpAnyH_take (i := 3) (oi := ⟨some 33, _, _, _, _, _⟩) (v := .slice A xs.length c) rfl (by kernel_rfl) (by kernel_rfl) (by kernel_rfl) (fun _ _ _ h => h) (Or.inl ⟨by rfl, fun _ _ => rfl⟩) HS0.out ?_
  simp only [Act.put, List.setIfInBounds_toArray, List.set_cons_zero, List.set_cons_succ]
  refine wpAnyH_one (i := 4) (o := ⟨some 34, _, _, _, _, _⟩) (by kernel_rfl) rfl (by rfl) ?_
  refine wp_call 32 #[.slice A xs.length c] (by kernel_rfl) ((clone_ml (HX.out.keepNo HC1.out) HXL.out).mono ?_)
  rintro e w4 ⟨v4, rfl, hm4, hc4⟩
  have HM4 := Lib.hid hm4
  have HB4 := Lib.hid ((HB.out.keepNo HC1.out).keepNo hc4)
  have HC4 := Lib.hid (HC1.out.then_ hc4)
  clear hm4 hc4
  refine ⟨_, rfl, trivial, ?_⟩
  simp only [Act.put, List.setIfInBounds_toArray, List.set_cons_zero, List.set_cons_succ]
  refine wpAnyH_norm 3 #[true, true, true, true, true, false, false, false] (by kernel_rfl) (by kernel_rfl) ?_
  refine wpAnyH_one (i := 5) (o := ⟨some 35, _, _, _, _, _⟩) (by kernel_rfl) rfl (by rfl) ?_
  by_cases hd2 : (s.ms.length : Int) < s.dep
  · have hs2 : s.ms.length + 1 ≤ 1000 := by omega
    have HD : Hid (decide ((s.ms.length : Int) < s.dep) = true) := decide_eq_true hd2
    refine wp_call 35 #[.pointer (some ⟨s.gb, 0, none⟩), v4] (by kernel_rfl) ((put35_yes HB4.out v4 xs HM4.out hd2 hs2).mono ?_)
    rintro e w5 ⟨rfl, ⟨vl', hb5, hfr⟩, hc5⟩
    have HDD := Lib.hid hd2
    have HB5 := Lib.hid hb5
    have HF5 : Hid (From w2 s.vl vl') := fun k hk => by
      rcases hfr k hk with h | h
      · exact .inl h
      · have := HC4.out.size
        exact .inr (by omega)
    have HC5 : Hid (Ch (Ds s) w2 w5) := (HC4.out.mono (fun _ _ h => h.elim)).trans hc5 (fun _ _ h => h)
    clear hb5 hfr hc5 hd2
    refine ⟨_, rfl, trivial, ?_⟩
    simp only [Act.put, List.setIfInBounds_toArray, List.set_cons_zero, List.set_cons_succ]
    refine wpAnyH_one (i := 6) (o := ⟨some 6, _, _, _, _, _⟩) (by kernel_rfl) rfl (by rfl) ?_
    refine wp_value (.bool true) (by kernel_rfl) ?_
    refine And.intro trivial ?_
    simp only [Act.put, List.setIfInBounds_toArray, List.set_cons_zero, List.set_cons_succ]
    refine wpAnyH_one (i := 7) (o := ⟨some 7, _, _, _, _, _⟩) (by kernel_rfl) rfl (by rfl) ?_
    refine wp_value (.int .i64 0) (by kernel_rfl) ?_
    refine And.intro trivial ?_
    simp only [Act.put, List.setIfInBounds_toArray, List.set_cons_zero, List.set_cons_succ]
    refine wpAnyH_done (by kernel_rfl) ?_ _
    go_wp2_with (fail)
    exact bodyPost_ret (v := .tuple #[.bool true, .int .i64 0]) (by kernel_rfl) rfl ⟨by rw [HD.out], ⟨_, HB5.out, .inr ⟨vl', v4, rfl, HDD.out⟩, fun e => (put_ne e).elim, HF5.out⟩, HC5.out⟩
  · have HD : Hid (decide ((s.ms.length : Int) < s.dep) = false) := decide_eq_false hd2
    refine wp_call 35 #[.pointer (some ⟨s.gb, 0, none⟩), v4] (by kernel_rfl) ((put35_no HB4.out v4 (by omega)).mono ?_)
    rintro e w5 ⟨rfl, hc5⟩
    have HDD := Lib.hid hd2
    have HB5 := Lib.hid (HB4.out.keepNo hc5)
    have HC5 : Hid (Ch (Ds s) w2 w5) := (HC4.out.then_ hc5).mono (fun _ _ h => h.elim)
    clear hc5 hd2
    refine ⟨_, rfl, trivial, ?_⟩
    simp only [Act.put, List.setIfInBounds_toArray, List.set_cons_zero, List.set_cons_succ]
    refine wpAnyH_one (i := 6) (o := ⟨some 6, _, _, _, _, _⟩) (by kernel_rfl) rfl (by rfl) ?_
    refine wp_value (.bool false) (by kernel_rfl) ?_
    refine And.intro trivial ?_
    simp only [Act.put, List.setIfInBounds_toArray, List.set_cons_zero, List.set_cons_succ]
    refine wpAnyH_one (i := 7) (o := ⟨some 7, _, _, _, _, _⟩) (by kernel_rfl) rfl (by rfl) ?_
    refine wp_value (.int .i64 0) (by kernel_rfl) ?_
    refine And.intro trivial ?_
    simp only [Act.put, List.setIfInBounds_toArray, List.set_cons_zero, List.set_cons_succ]
    refine wpAnyH_done (by kernel_rfl) ?_ _
    go_wp2_with (fail)
    exact bodyPost_ret (v := .tuple #[.bool false, .int .i64 0]) (by kernel_rfl) rfl ⟨by rw [HD.out], ⟨s, HB5.out, .inl rfl, fun _ => Int.not_lt.2 HDD.out, fun k hk => .inl hk⟩, HC5.out⟩
theorem clone47_at {w : World} {ad : Addr} {vs : List Value} {n cap : Nat} (hn : n = vs.length) (hx : Cl w (some ad) vs) (hl : n ≤ 1000000) (h1 : ∀ u ∈ vs, u.oneCell' = true) :
    Calls Try.prog 47 #[.slice (some ad) n cap] w fun e w' => ∃ v', e = .returned v' ∧ w'.ownsRow w.heap.size 24 1 v' n vs ∧ Ch No w w' := by
  subst hn
  exact clone_47 ad vs cap hl h1 w hx
theorem get_S {base g : Nat} {s : SetR} {v v4 : Value} {w4 : World} (h : Bs base s w4) (hs : w4.cell? ⟨g, 0, none⟩ = some v) (hg : g ≠ s.gb) : (w4.setCell ⟨s.gb, 0, none⟩ v4).cell? ⟨g, 0, none⟩ = some v := by
  have hc : Ch (Is s.gb) w4 (w4.setCell ⟨s.gb, 0, none⟩ v4) := (Ch.refl _ _).setCell (p := ⟨s.gb, 0, none⟩) (fun _ => is_self _) _
  exact hc.cell (fun e => hg e) hs
theorem get_fin {base n : Nat} {s : SetR} {w w3 w4 : World} {v v4 : Value} {sv' : List Value} {xs : List Int} {ms' : List (List Int)} (h : Bs base s w) (h4 : Bs base s w4) (hc : Ch No w w4) (ho : w4.ownsRow w3.heap.size 24 1 v4 n sv') (hv : s.sv = v :: sv') (hm : s.ms = xs :: ms') (hsz : w.heap.size = w3.heap.size) (hn : n = sv'.length) :
    (∃ vl', Bs base { s with vl := vl', sv := sv', ms := ms' } (w4.setCell ⟨s.gb, 0, none⟩ v4) ∧ From w s.vl vl') ∧ Ch (Ds s) w (w4.setCell ⟨s.gb, 0, none⟩ v4) := by
  subst hn
  have hlen := h.len
  have hsm := h.small
  rw [hv, hm] at hlen
  rw [hm] at hsm
  simp only [List.length_cons] at hlen hsm
  have ho' : w4.ownsRow base 24 1 v4 sv'.length sv' := by
    refine ⟨ho.1, ?_⟩
    rcases ho.2 with hn | ⟨g, cap, cur, e1, e2, e3⟩
    · exact .inl hn
    · exact .inr ⟨g, cap, cur, e1, by have := h.hb; omega, e3⟩
  refine ⟨⟨v4, h4.setL v4 sv' ms' ho' (fun i u hu => ?_) (by omega) (by omega), fun k hk => .inr (by have := (ho.lt k hk).1; omega)⟩, (hc.mono (fun _ _ h => h.elim)).setCell (p := ⟨s.gb, 0, none⟩) (fun _ => .inr (.inr (.inl rfl))) _⟩
  have := h4.msg (i + 1) u (by rw [hv]; simpa using hu)
  rw [hm] at this
  simpa using this
theorem get36_no {base : Nat} {s : SetR} {w : World} (h : Bs base s w) (hm : s.ms = []) :
    Calls Try.prog 36 #[.pointer (some ⟨s.gb, 0, none⟩)] w fun e w' => e = .returned (.tuple #[.slice none 0 0, .bool false]) ∧ w' = w := by
  obtain ⟨A, c, hv, _⟩ := own_slice h.own
  have hp := h.buf.lt
  have c0 : w.cell? ⟨s.gb, 0, none⟩ = some (.slice A s.sv.length c) := by rw [h.buf.cell, ← hv]; rfl
  have hl : s.sv.length = 0 := by rw [h.len, hm]; rfl
  rw [hl] at c0
  clear h hv
  go_enter Try.func36, Try.ntmps36
  go_wp2_with (fail)
  exact bodyPost_ret (v := .tuple #[.slice none 0 0, .bool false]) (by kernel_rfl) rfl ⟨rfl, rfl⟩
set_option maxHeartbeats 8000000 in
set_option maxRecDepth 100000 in
theorem get36_yes {base : Nat} {s : SetR} {w : World} (h : Bs base s w) (v : Value) (sv' : List Value) (xs : List Int) (ms' : List (List Int)) (hv : s.sv = v :: sv') (hm : s.ms = xs :: ms') :
    Calls Try.prog 36 #[.pointer (some ⟨s.gb, 0, none⟩)] w fun e w' => e = .returned (.tuple #[v, .bool true]) ∧ (∃ vl', Bs base { s with vl := vl', sv := sv', ms := ms' } w' ∧ From w s.vl vl') ∧ Ch (Ds s) w w' := by
  have hsl := h.own
  rcases owns_open_sz hsl with ⟨_, h0⟩ | ⟨g, c, rest, hvl, hbg, hr, hncap, hcm, hll⟩
  · rw [hv] at h0
    cases h0
  clear hsl
  have hp := h.buf.lt
  obtain ⟨n, hn⟩ : ∃ n, n = sv'.length := ⟨_, rfl⟩
  have hsn : s.sv.length = n + 1 := by rw [hv, hn]; rfl
  rw [hsn] at hvl hncap
  rw [hv] at hr hll
  have c0 : w.cell? ⟨s.gb, 0, none⟩ = some (.slice (some ⟨g, 0, none⟩) (n + 1) c) := by rw [h.buf.cell, ← hvl]; rfl
  have cv : w.cell? ⟨g, 0, none⟩ = some v := by rw [hr.cell]; rfl
  have hc63 : c ≤ 9223372036854775807 := by unfold maxLen at hcm; omega
  have hlen := h.len
  have hsm := h.small
  have HB := Lib.hid h
  have HR := Lib.hid hr
  have HN := Lib.hid hn
  have HV := Lib.hid hv
  have HM := Lib.hid hm
  have hv1 : v.oneCell' = true := by
    obtain ⟨xs, _, h2⟩ := h.msg 0 v (by rw [hv]; rfl)
    exact h2.one
  have HS1 : Hid (∀ u ∈ sv', u.oneCell' = true) := fun u hu => by
    obtain ⟨i, hi⟩ := List.getElem?_of_mem hu
    obtain ⟨xs, _, h2⟩ := h.msg (i + 1) u (by rw [hv]; simpa using hi)
    exact h2.one
  have hn1000 : n ≤ 1000 := by rw [hsn] at hlen; omega
  have HVL := Lib.hid hvl
  have HGB : g ≠ s.gb := row_ne hr h.buf (by decide)
  obtain ⟨of, hof⟩ : ∃ of : Nat, of = if c = 1 then 0 else 1 * 1 := ⟨_, rfl⟩
  have HOF := Lib.hid hof
  have HCL : Hid (∀ w', Ch No w w' → Cl w' (some ⟨g, of, none⟩) sv') := fun w' hc => by
    intro j u hj
    refine ⟨_, rfl, ?_⟩
    have hj' := (List.getElem?_eq_some_iff.1 hj).1
    rw [add_lit, (HR.out.keepNo hc).cell, HOF.out, if_neg (by have := HN.out; omega), Nat.mul_one, List.getElem?_append_left (by simp; omega), Nat.add_comm, List.getElem?_cons_succ]
    exact hj
  have hne0 : (((n + 1 : Nat) : Int) == 0) = false := by simp; omega
  clear h hr hn hv hm hlen hof hvl hll
  go_enter Try.func36, Try.ntmps36
  go_upto_region 4 with (fail)
  have HS0 : Hid ((fun w' : World => w'.cell? ⟨g, 0, none⟩ = some v) w.drew) := cv
  refine wp_region_held (S := fun w' => w'.cell? ⟨g, 0, none⟩ = some v) (by kernel_rfl) ?_
  change wpAnyH _ _ _ _ _ _ _ _ w.drew
  have HC1 : Hid (Ch No w w.drew) := (Ch.refl _ _).drew
  have HSZ : Hid (w.drew.heap.size = w.heap.size) := rfl
  have HB1 := Lib.hid (HB.out.keepNo HC1.out)
  have HC01 : Hid (w.drew.cell? ⟨s.gb, 0, none⟩ = some (.slice (some ⟨g, 0, none⟩) (n + 1) c)) := c0
  generalize w.drew = w3 at *
  refine wpAnyH_take (i := 0) (oi := ⟨some 12, _, _, _, _, _⟩) (v := .pointer (some ⟨s.gb, 0, none⟩)) rfl (by kernel_rfl) (by kernel_rfl) (by kernel_rfl) (fun _ _ _ h => h) (Or.inl ⟨by rfl, fun _ _ => rfl⟩) HS0.out ?_
  simp only [Act.put, List.setIfInBounds_toArray, List.set_cons_zero, List.set_cons_succ]
  refine wpAnyH_take (i := 1) (oi := ⟨some 13, _, _, _, _, _⟩) (v := .pointer (some ⟨s.gb, 0, none⟩)) rfl (by kernel_rfl) (by kernel_rfl) (by kernel_rfl) (fun _ _ _ h => h) (Or.inl ⟨by rfl, fun _ _ => rfl⟩) HS0.out ?_
  simp only [Act.put, List.setIfInBounds_toArray, List.set_cons_zero, List.set_cons_succ]
  refine wpAnyH_take (i := 2) (oi := ⟨some 14, _, _, _, _, _⟩) (v := .pointer (some ⟨s.gb, 0, none⟩)) rfl (by kernel_rfl) (by kernel_rfl) (by kernel_rfl) (fun _ _ _ h => h) (Or.inl ⟨by rfl, fun _ _ => rfl⟩) HS0.out ?_
  simp only [Act.put, List.setIfInBounds_toArray, List.set_cons_zero, List.set_cons_succ]
  refine wpAnyH_take (i := 3) (oi := ⟨some 15, _, _, _, _, _⟩) (v := .pointer (some ⟨s.gb, 0, none⟩)) rfl (by kernel_rfl) (by kernel_rfl) (by kernel_rfl) (fun _ _ _ h => h) (Or.inl ⟨by rfl, fun _ _ => by kernel_rfl⟩) HS0.out ?_
  simp only [Act.put, List.setIfInBounds_toArray, List.set_cons_zero, List.set_cons_succ]
  refine wpAnyH_take (i := 7) (oi := ⟨some 19, _, _, _, _, _⟩) (v := .pointer (some ⟨s.gb, 0, none⟩)) rfl (by kernel_rfl) (by kernel_rfl) (by kernel_rfl) (fun _ _ _ h => h) (Or.inl ⟨by rfl, fun _ _ => rfl⟩) HS0.out ?_
  simp only [Act.put, List.setIfInBounds_toArray, List.set_cons_zero, List.set_cons_succ]
  refine wpAnyH_take (i := 8) (oi := ⟨some 20, _, _, _, _, _⟩) (v := .pointer (some ⟨s.gb, 0, none⟩)) rfl (by kernel_rfl) (by kernel_rfl) (by kernel_rfl) (fun _ _ _ h => h) (Or.inl ⟨by rfl, fun _ _ => rfl⟩) HS0.out ?_
  simp only [Act.put, List.setIfInBounds_toArray, List.set_cons_zero, List.set_cons_succ]
  refine wpAnyH_take (i := 9) (oi := ⟨some 21, _, _, _, _, _⟩) (v := .pointer (some ⟨s.gb, 0, none⟩)) rfl (by kernel_rfl) (by kernel_rfl) (by kernel_rfl) (fun _ _ _ h => h) (Or.inl ⟨by rfl, fun _ _ => by kernel_rfl⟩) HS0.out ?_
  simp only [Act.put, List.setIfInBounds_toArray, List.set_cons_zero, List.set_cons_succ]
  refine wpAnyH_norm 10 #[true, true, true, true, false, false, false, true, true, true, false, false, false, false, false, false, false] (by kernel_rfl) (by kernel_rfl) ?_
  refine wpAnyH_two (i := 4) (j := 10) (oi := ⟨some 16, _, _, _, _, _⟩) (oj := ⟨some 22, _, _, _, _, _⟩) (by kernel_rfl) rfl rfl (by rfl) (by rfl) ?_ ?_
  · refine wp_value (.slice (some ⟨g, 0, none⟩) (n + 1) c) (exec_load_cell 59 (.tmp 15) rfl ⟨s.gb, 0, none⟩ rfl _ Try.underlying59 rfl _ HC01.out) ?_
    refine And.intro HS0.out ?_
    simp only [Act.put, List.setIfInBounds_toArray, List.set_cons_zero, List.set_cons_succ]
    refine wpAnyH_take (i := 5) (oi := ⟨some 17, _, _, _, _, _⟩) (v := .pointer (some ⟨g, 0, none⟩)) rfl (by kernel_rfl) (by kernel_rfl) (by kernel_rfl) (fun _ _ _ h => h) (Or.inl ⟨by rfl, fun w' _ => exec_at0 59 24 (.tmp 16) rfl Try.underlying59 one24 ⟨g, 0, none⟩ (n + 1) c rfl (by omega)⟩) HS0.out ?_
    simp only [Act.put, List.setIfInBounds_toArray, List.set_cons_zero, List.set_cons_succ]
    refine wpAnyH_take (i := 6) (oi := ⟨some 18, _, _, _, _, _⟩) (v := v) rfl (by kernel_rfl) (by kernel_rfl) (by kernel_rfl) (fun _ _ _ h => h) (Or.inl ⟨by rfl, fun w' hs => exec_load_cell 24 (.tmp 17) rfl ⟨g, 0, none⟩ rfl _ Try.underlying24 rfl _ hs⟩) HS0.out ?_
    simp only [Act.put, List.setIfInBounds_toArray, List.set_cons_zero, List.set_cons_succ]
    refine wpAnyH_one (i := 10) (o := ⟨some 22, _, _, _, _, _⟩) (by kernel_rfl) rfl (by rfl) ?_
    refine wp_value (.slice (some ⟨g, 0, none⟩) (n + 1) c) (exec_load_cell 59 (.tmp 21) rfl ⟨s.gb, 0, none⟩ rfl _ Try.underlying59 rfl _ HC01.out) ?_
    refine And.intro HS0.out ?_
    simp only [Act.put, List.setIfInBounds_toArray, List.set_cons_zero, List.set_cons_succ]
    refine wpAnyH_take (i := 11) (oi := ⟨some 23, _, _, _, _, _⟩) (v := .slice (some ⟨g, of, none⟩) n (c - 1)) rfl (by kernel_rfl) (by kernel_rfl) (by kernel_rfl) (fun _ _ _ h => h) (Or.inl ⟨by rfl, fun w' _ => exec_from1 59 24 (.tmp 22) (.const (.int .i64 1)) rfl Try.underlying59 1 (fun w => by kernel_rfl) g (n + 1) c 1 of n rfl rfl (by omega) (by omega) hc63 HOF.out rfl⟩) HS0.out ?_
    simp only [Act.put, List.setIfInBounds_toArray, List.set_cons_zero, List.set_cons_succ]
    refine wpAnyH_one (i := 12) (o := ⟨some 24, _, _, _, _, _⟩) (by kernel_rfl) rfl (by rfl) ?_
    refine wp_call 47 #[.slice (some ⟨g, of, none⟩) n (c - 1)] (by kernel_rfl) ((clone47_at HN.out (HCL.out w3 HC1.out) (by omega) HS1.out).mono ?_)
    rintro e w4 ⟨v4, rfl, ho4, hc4⟩
    have HO4 := Lib.hid ho4
    have HB4 := Lib.hid (HB1.out.keepNo hc4)
    have HC4 := Lib.hid (HC1.out.then_ hc4)
    have HS4 : Hid ((fun w' : World => w'.cell? ⟨g, 0, none⟩ = some v) w4) := hc4.cell (not_no _) HS0.out
    have HC04 : Hid (w4.cell? ⟨s.gb, 0, none⟩ = some (.slice (some ⟨g, 0, none⟩) (n + 1) c)) := hc4.cell (not_no _) HC01.out
    clear ho4 hc4
    refine ⟨_, rfl, HS4.out, ?_⟩
    simp only [Act.put, List.setIfInBounds_toArray, List.set_cons_zero, List.set_cons_succ]
    refine wpAnyH_norm 4 #[true, true, true, true, true, true, true, true, true, true, true, true, true, false, false, false, false] (by kernel_rfl) (by kernel_rfl) ?_
    refine wpAnyH_one (i := 13) (o := ⟨some 4, _, _, _, _, _⟩) (by kernel_rfl) rfl (by rfl) ?_
    refine wp_value v (by kernel_rfl) ?_
    refine And.intro HS4.out ?_
    simp only [Act.put, List.setIfInBounds_toArray, List.set_cons_zero, List.set_cons_succ]
    refine wpAnyH_one (i := 14) (o := ⟨some 25, _, _, _, _, _⟩) (by kernel_rfl) rfl (by rfl) ?_
    refine wp_value (.pointer (some ⟨s.gb, 0, none⟩)) (by kernel_rfl) ?_
    refine And.intro HS4.out ?_
    simp only [Act.put, List.setIfInBounds_toArray, List.set_cons_zero, List.set_cons_succ]
    refine wpAnyH_one (i := 15) (o := ⟨some 26, _, _, _, _, _⟩) (by kernel_rfl) rfl (by rfl) ?_
    refine wp_value (.pointer (some ⟨s.gb, 0, none⟩)) (by kernel_rfl) ?_
    refine And.intro HS4.out ?_
    simp only [Act.put, List.setIfInBounds_toArray, List.set_cons_zero, List.set_cons_succ]
    refine wpAnyH_one (i := 16) (o := ⟨none, _, _, _, _, _⟩) (by kernel_rfl) rfl (by rfl) ?_
    have hs4 : (w4.cell? ⟨s.gb, 0, none⟩).isSome = true := by rw [HC04.out]; rfl
    have hf4 : w4.frozen? ⟨s.gb, 0, none⟩ = false := HB4.out.buf.frozen _
    have hv4 := own_one HO4.out
    refine wp_store_cell 59 (.tmp 26) (.tmp 24) rfl s.gb 0 v4 rfl rfl hv4 size59 hs4 hf4 ?_
    refine And.intro (get_S HB4.out HS4.out HGB) ?_
    simp only [Act.put, List.setIfInBounds_toArray, List.set_cons_zero, List.set_cons_succ]
    refine wpAnyH_done (by kernel_rfl) ?_ _
    have HFIN := Lib.hid (get_fin HB.out HB4.out HC4.out HO4.out HV.out HM.out (by have := HSZ.out; omega) (by have := HN.out; omega))
    generalize w4.setCell ⟨s.gb, 0, none⟩ v4 = w6 at *
    go_wp2_with (fail)
    exact bodyPost_ret (v := .tuple #[v, .bool true]) (by kernel_rfl) rfl ⟨rfl, HFIN.out.1, HFIN.out.2⟩
  · refine wp_value (.slice (some ⟨g, 0, none⟩) (n + 1) c) (exec_load_cell 59 (.tmp 21) rfl ⟨s.gb, 0, none⟩ rfl _ Try.underlying59 rfl _ HC01.out) ?_
    refine And.intro HS0.out ?_
    simp only [Act.put, List.setIfInBounds_toArray, List.set_cons_zero, List.set_cons_succ]
    refine wpAnyH_take (i := 11) (oi := ⟨some 23, _, _, _, _, _⟩) (v := .slice (some ⟨g, of, none⟩) n (c - 1)) rfl (by kernel_rfl) (by kernel_rfl) (by kernel_rfl) (fun _ _ _ h => h) (Or.inl ⟨by rfl, fun w' _ => exec_from1 59 24 (.tmp 22) (.const (.int .i64 1)) rfl Try.underlying59 1 (fun w => by kernel_rfl) g (n + 1) c 1 of n rfl rfl (by omega) (by omega) hc63 HOF.out rfl⟩) HS0.out ?_
    simp only [Act.put, List.setIfInBounds_toArray, List.set_cons_zero, List.set_cons_succ]
    refine wpAnyH_norm 8 #[true, true, true, true, false, false, false, true, true, true, true, true, false, false, false, false, false] (by kernel_rfl) (by kernel_rfl) ?_
    refine wpAnyH_two (i := 4) (j := 12) (oi := ⟨some 16, _, _, _, _, _⟩) (oj := ⟨some 24, _, _, _, _, _⟩) (by kernel_rfl) rfl rfl (by rfl) (by rfl) ?_ ?_
    · refine wp_value (.slice (some ⟨g, 0, none⟩) (n + 1) c) (exec_load_cell 59 (.tmp 15) rfl ⟨s.gb, 0, none⟩ rfl _ Try.underlying59 rfl _ HC01.out) ?_
      refine And.intro HS0.out ?_
      simp only [Act.put, List.setIfInBounds_toArray, List.set_cons_zero, List.set_cons_succ]
      refine wpAnyH_take (i := 5) (oi := ⟨some 17, _, _, _, _, _⟩) (v := .pointer (some ⟨g, 0, none⟩)) rfl (by kernel_rfl) (by kernel_rfl) (by kernel_rfl) (fun _ _ _ h => h) (Or.inl ⟨by rfl, fun w' _ => exec_at0 59 24 (.tmp 16) rfl Try.underlying59 one24 ⟨g, 0, none⟩ (n + 1) c rfl (by omega)⟩) HS0.out ?_
      simp only [Act.put, List.setIfInBounds_toArray, List.set_cons_zero, List.set_cons_succ]
      refine wpAnyH_take (i := 6) (oi := ⟨some 18, _, _, _, _, _⟩) (v := v) rfl (by kernel_rfl) (by kernel_rfl) (by kernel_rfl) (fun _ _ _ h => h) (Or.inl ⟨by rfl, fun w' hs => exec_load_cell 24 (.tmp 17) rfl ⟨g, 0, none⟩ rfl _ Try.underlying24 rfl _ hs⟩) HS0.out ?_
      simp only [Act.put, List.setIfInBounds_toArray, List.set_cons_zero, List.set_cons_succ]
      refine wpAnyH_one (i := 12) (o := ⟨some 24, _, _, _, _, _⟩) (by kernel_rfl) rfl (by rfl) ?_
      refine wp_call 47 #[.slice (some ⟨g, of, none⟩) n (c - 1)] (by kernel_rfl) ((clone47_at HN.out (HCL.out w3 HC1.out) (by omega) HS1.out).mono ?_)
      rintro e w4 ⟨v4, rfl, ho4, hc4⟩
      have HO4 := Lib.hid ho4
      have HB4 := Lib.hid (HB1.out.keepNo hc4)
      have HC4 := Lib.hid (HC1.out.then_ hc4)
      have HS4 : Hid ((fun w' : World => w'.cell? ⟨g, 0, none⟩ = some v) w4) := hc4.cell (not_no _) HS0.out
      have HC04 : Hid (w4.cell? ⟨s.gb, 0, none⟩ = some (.slice (some ⟨g, 0, none⟩) (n + 1) c)) := hc4.cell (not_no _) HC01.out
      clear ho4 hc4
      refine ⟨_, rfl, HS4.out, ?_⟩
      simp only [Act.put, List.setIfInBounds_toArray, List.set_cons_zero, List.set_cons_succ]
      refine wpAnyH_norm 4 #[true, true, true, true, true, true, true, true, true, true, true, true, true, false, false, false, false] (by kernel_rfl) (by kernel_rfl) ?_
      refine wpAnyH_one (i := 13) (o := ⟨some 4, _, _, _, _, _⟩) (by kernel_rfl) rfl (by rfl) ?_
      refine wp_value v (by kernel_rfl) ?_
      refine And.intro HS4.out ?_
      simp only [Act.put, List.setIfInBounds_toArray, List.set_cons_zero, List.set_cons_succ]
      refine wpAnyH_one (i := 14) (o := ⟨some 25, _, _, _, _, _⟩) (by kernel_rfl) rfl (by rfl) ?_
      refine wp_value (.pointer (some ⟨s.gb, 0, none⟩)) (by kernel_rfl) ?_
      refine And.intro HS4.out ?_
      simp only [Act.put, List.setIfInBounds_toArray, List.set_cons_zero, List.set_cons_succ]
      refine wpAnyH_one (i := 15) (o := ⟨some 26, _, _, _, _, _⟩) (by kernel_rfl) rfl (by rfl) ?_
      refine wp_value (.pointer (some ⟨s.gb, 0, none⟩)) (by kernel_rfl) ?_
      refine And.intro HS4.out ?_
      simp only [Act.put, List.setIfInBounds_toArray, List.set_cons_zero, List.set_cons_succ]
      refine wpAnyH_one (i := 16) (o := ⟨none, _, _, _, _, _⟩) (by kernel_rfl) rfl (by rfl) ?_
      have hs4 : (w4.cell? ⟨s.gb, 0, none⟩).isSome = true := by rw [HC04.out]; rfl
      have hf4 : w4.frozen? ⟨s.gb, 0, none⟩ = false := HB4.out.buf.frozen _
      have hv4 := own_one HO4.out
      refine wp_store_cell 59 (.tmp 26) (.tmp 24) rfl s.gb 0 v4 rfl rfl hv4 size59 hs4 hf4 ?_
      refine And.intro (get_S HB4.out HS4.out HGB) ?_
      simp only [Act.put, List.setIfInBounds_toArray, List.set_cons_zero, List.set_cons_succ]
      refine wpAnyH_done (by kernel_rfl) ?_ _
      have HFIN := Lib.hid (get_fin HB.out HB4.out HC4.out HO4.out HV.out HM.out (by have := HSZ.out; omega) (by have := HN.out; omega))
      generalize w4.setCell ⟨s.gb, 0, none⟩ v4 = w6 at *
      go_wp2_with (fail)
      exact bodyPost_ret (v := .tuple #[v, .bool true]) (by kernel_rfl) rfl ⟨rfl, HFIN.out.1, HFIN.out.2⟩
    · refine wp_call 47 #[.slice (some ⟨g, of, none⟩) n (c - 1)] (by kernel_rfl) ((clone47_at HN.out (HCL.out w3 HC1.out) (by omega) HS1.out).mono ?_)
      rintro e w4 ⟨v4, rfl, ho4, hc4⟩
      have HO4 := Lib.hid ho4
      have HB4 := Lib.hid (HB1.out.keepNo hc4)
      have HC4 := Lib.hid (HC1.out.then_ hc4)
      have HS4 : Hid ((fun w' : World => w'.cell? ⟨g, 0, none⟩ = some v) w4) := hc4.cell (not_no _) HS0.out
      have HC04 : Hid (w4.cell? ⟨s.gb, 0, none⟩ = some (.slice (some ⟨g, 0, none⟩) (n + 1) c)) := hc4.cell (not_no _) HC01.out
      clear ho4 hc4
      refine ⟨_, rfl, HS4.out, ?_⟩
      simp only [Act.put, List.setIfInBounds_toArray, List.set_cons_zero, List.set_cons_succ]
      refine wpAnyH_one (i := 4) (o := ⟨some 16, _, _, _, _, _⟩) (by kernel_rfl) rfl (by rfl) ?_
      refine wp_value (.slice (some ⟨g, 0, none⟩) (n + 1) c) (exec_load_cell 59 (.tmp 15) rfl ⟨s.gb, 0, none⟩ rfl _ Try.underlying59 rfl _ HC04.out) ?_
      refine And.intro HS4.out ?_
      simp only [Act.put, List.setIfInBounds_toArray, List.set_cons_zero, List.set_cons_succ]
      refine wpAnyH_take (i := 5) (oi := ⟨some 17, _, _, _, _, _⟩) (v := .pointer (some ⟨g, 0, none⟩)) rfl (by kernel_rfl) (by kernel_rfl) (by kernel_rfl) (fun _ _ _ h => h) (Or.inl ⟨by rfl, fun w' _ => exec_at0 59 24 (.tmp 16) rfl Try.underlying59 one24 ⟨g, 0, none⟩ (n + 1) c rfl (by omega)⟩) HS4.out ?_
      simp only [Act.put, List.setIfInBounds_toArray, List.set_cons_zero, List.set_cons_succ]
      refine wpAnyH_take (i := 6) (oi := ⟨some 18, _, _, _, _, _⟩) (v := v) rfl (by kernel_rfl) (by kernel_rfl) (by kernel_rfl) (fun _ _ _ h => h) (Or.inl ⟨by rfl, fun w' hs => exec_load_cell 24 (.tmp 17) rfl ⟨g, 0, none⟩ rfl _ Try.underlying24 rfl _ hs⟩) HS4.out ?_
      simp only [Act.put, List.setIfInBounds_toArray, List.set_cons_zero, List.set_cons_succ]
      refine wpAnyH_norm 4 #[true, true, true, true, true, true, true, true, true, true, true, true, true, false, false, false, false] (by kernel_rfl) (by kernel_rfl) ?_
      refine wpAnyH_one (i := 13) (o := ⟨some 4, _, _, _, _, _⟩) (by kernel_rfl) rfl (by rfl) ?_
      refine wp_value v (by kernel_rfl) ?_
      refine And.intro HS4.out ?_
      simp only [Act.put, List.setIfInBounds_toArray, List.set_cons_zero, List.set_cons_succ]
      refine wpAnyH_one (i := 14) (o := ⟨some 25, _, _, _, _, _⟩) (by kernel_rfl) rfl (by rfl) ?_
      refine wp_value (.pointer (some ⟨s.gb, 0, none⟩)) (by kernel_rfl) ?_
      refine And.intro HS4.out ?_
      simp only [Act.put, List.setIfInBounds_toArray, List.set_cons_zero, List.set_cons_succ]
      refine wpAnyH_one (i := 15) (o := ⟨some 26, _, _, _, _, _⟩) (by kernel_rfl) rfl (by rfl) ?_
      refine wp_value (.pointer (some ⟨s.gb, 0, none⟩)) (by kernel_rfl) ?_
      refine And.intro HS4.out ?_
      simp only [Act.put, List.setIfInBounds_toArray, List.set_cons_zero, List.set_cons_succ]
      refine wpAnyH_one (i := 16) (o := ⟨none, _, _, _, _, _⟩) (by kernel_rfl) rfl (by rfl) ?_
      have hs4 : (w4.cell? ⟨s.gb, 0, none⟩).isSome = true := by rw [HC04.out]; rfl
      have hf4 : w4.frozen? ⟨s.gb, 0, none⟩ = false := HB4.out.buf.frozen _
      have hv4 := own_one HO4.out
      refine wp_store_cell 59 (.tmp 26) (.tmp 24) rfl s.gb 0 v4 rfl rfl hv4 size59 hs4 hf4 ?_
      refine And.intro (get_S HB4.out HS4.out HGB) ?_
      simp only [Act.put, List.setIfInBounds_toArray, List.set_cons_zero, List.set_cons_succ]
      refine wpAnyH_done (by kernel_rfl) ?_ _
      have HFIN := Lib.hid (get_fin HB.out HB4.out HC4.out HO4.out HV.out HM.out (by have := HSZ.out; omega) (by have := HN.out; omega))
      generalize w4.setCell ⟨s.gb, 0, none⟩ v4 = w6 at *
      go_wp2_with (fail)
      exact bodyPost_ret (v := .tuple #[v, .bool true]) (by kernel_rfl) rfl ⟨rfl, HFIN.out.1, HFIN.out.2⟩
theorem get_no {base : Nat} {s : SetR} {w : World} (h : Bs base s w) (hm : s.ms = []) :
    Calls Try.prog 22 #[.pointer (some ⟨s.P, 0, none⟩), .int .i64 1] w fun e w' => e = .returned (.tuple #[.slice none 0 0, .bool false, .int .i64 0]) ∧ w' = w := by
  have hp := h.row.lt
  have hg := h.buf.lt
  have c0 : w.cell? ⟨s.P, 2, none⟩ = some (.slice (some ⟨s.gb, 0, none⟩) 1 s.cb) := by rw [h.row.cell]; rfl
  have HB := Lib.hid h
  clear h
  go_enter Try.func22, Try.ntmps22
  go_wp2_with (fail)
  refine (at_34 s.gb s.cb w).mono ?_
  rintro e w2 ⟨rfl, rfl⟩
  go_wp2_with (fail)
  refine (get36_no HB.out hm).mono ?_
  rintro e w2 ⟨rfl, rfl⟩
  go_wp2_with (fail)
  exact bodyPost_ret (v := .tuple #[.slice none 0 0, .bool false, .int .i64 0]) (by kernel_rfl) rfl ⟨rfl, rfl⟩
theorem get_yes {base : Nat} {s : SetR} {w : World} (h : Bs base s w) (v : Value) (sv' : List Value) (xs : List Int) (ms' : List (List Int)) (hv : s.sv = v :: sv') (hm : s.ms = xs :: ms') :
    Calls Try.prog 22 #[.pointer (some ⟨s.P, 0, none⟩), .int .i64 1] w fun e w' => e = .returned (.tuple #[v, .bool true, .int .i64 0]) ∧ (∃ vl', Bs base { s with vl := vl', sv := sv', ms := ms' } w' ∧ From w s.vl vl') ∧ Ch (Ds s) w w' := by
  have hp := h.row.lt
  have hg := h.buf.lt
  have c0 : w.cell? ⟨s.P, 2, none⟩ = some (.slice (some ⟨s.gb, 0, none⟩) 1 s.cb) := by rw [h.row.cell]; rfl
  have HB := Lib.hid h
  clear h
  go_enter Try.func22, Try.ntmps22
  go_wp2_with (fail)
  refine (at_34 s.gb s.cb w).mono ?_
  rintro e w2 ⟨rfl, rfl⟩
  go_wp2_with (fail)
  refine (get36_yes HB.out v sv' xs ms' hv hm).mono ?_
  rintro e w3 ⟨rfl, h3, hc3⟩
  have H3 := Lib.hid h3
  have HC3 := Lib.hid hc3
  clear h3 hc3
  go_wp2_with (fail)
  exact bodyPost_ret (v := .tuple #[v, .bool true, .int .i64 0]) (by kernel_rfl) rfl ⟨rfl, H3.out, HC3.out⟩
end Go.Proofs.Ytifieahnnklgcaa
