/- MemExact: Shelf.keep. -/
import Derived.Test.YtbllpojljdhnoaaD8
set_option linter.unusedVariables false
set_option linter.unusedSimpArgs false
namespace Go.Proofs.Ytbllpojljdhnoaa
open Go.RowKit
theorem own_form {b : Nat} {w : World} {e : TypeId} {v : Value} {vs : List Value} (h : w.ownsRow b e 1 v vs.length vs) : ∃ A c, v = .slice A vs.length c := by
  rcases owns_open h with ⟨hv, hx⟩ | ⟨g, cap, rest, hv, _⟩
  · exact ⟨none, 0, by rw [hv, hx]; rfl⟩
  · exact ⟨_, _, hv⟩
theorem ownsRow_low {b c : Nat} {w : World} {e : TypeId} {v : Value} {vs : List Value} (h : w.ownsRow b e 1 v vs.length vs) (hbc : c ≤ b) : w.ownsRow c e 1 v vs.length vs := by
  rcases owns_open h with ⟨hv, hx⟩ | ⟨g, cap, rest, hv, hb, hr, hl, hm⟩
  · rw [hv, hx]
    exact owns_nil _ _ _ _
  · rw [hv, ← hl]
    exact owns_mk (by omega) hr (by omega)
theorem Fl.low {b c : Nat} {w : World} {v : Value} {xs : List Int} (h : Fl b w v xs) (hbc : c ≤ b) : Fl c w v xs :=
  ⟨h.1.imp_right fun ⟨g, hg, r⟩ => ⟨g, by omega, r⟩, h.2⟩
theorem Sg.rowL {b : Nat} {w w2 : World} {p g : Nat} {ls us : List Value} {its : List It} {vL vW l : Value} (h : Sg b w p g ls us its vL vW) (hg : (w.alloc (.cells #[l] 22)).grownBy w2 vL.ownBlock) : Row w2 p 46 [vL, vW] := by
  have hc1 : Ch No w (w.alloc (.cells #[l] 22)) := (Ch.refl No w).alloc _
  have h1 := h.keepNo hc1
  exact h1.row.keep (Ch.of_grownBy hg) (fun e => by
    obtain ⟨L, hL⟩ := own_row22 h1.rl e
    have := (hL.eq_ h1.row).1
    cases this)
theorem Sg.rowW {b : Nat} {w w2 : World} {p g : Nat} {ls us : List Value} {its : List It} {vL vW l : Value} (h : Sg b w p g ls us its vL vW) (hg : (w.alloc (.cells #[l] 22)).grownBy w2 vW.ownBlock) : Row w2 p 46 [vL, vW] := by
  have hc1 : Ch No w (w.alloc (.cells #[l] 22)) := (Ch.refl No w).alloc _
  have h1 := h.keepNo hc1
  exact h1.row.keep (Ch.of_grownBy hg) (fun e => by
    obtain ⟨L, hL⟩ := own_row22 h1.rw_ e
    have := (hL.eq_ h1.row).1
    cases this)
theorem ch_fresh {b : Nat} {w w1 w3 : World} (h : Ch No w w1) (h2 : Ch (NT b w1) w1 w3) : Ch (NT b w) w w3 := Ch.nt (h.mono (fun _ _ h => (not_no _ h).elim)) h2
set_option maxHeartbeats 4000000 in
set_option maxRecDepth 100000 in
theorem keep_calls {b b1 : Nat} {w : World} {p g : Nat} {its : List It} {vL vW l v : Value} {xs : List Int} (h : Sh b w p g its vL vW) (hs : its.length ≤ 400) (hl : Fl b1 w l xs) (hx : xs.length ≤ 4096) (hb1 : b ≤ b1)
    (hnew : ∀ k, l.ownBlock = some k → k ≠ g ∧ ∀ (i : Nat) a, its[i]? = some a → ¬ a.l.ownBlock = some k ∧ ¬ a.u.ownBlock = some k) (hv : Sl w v xs) (hg : g < w.heap.size) (hb : b ≤ w.heap.size) :
    Calls Try.prog 26 #[.pointer (some ⟨p, 0, none⟩), l, v] w fun e w' => ∃ its' vL' vW', e = .returned (.tuple #[]) ∧ Sh b w' p g its' vL' vW' ∧ its'.length ≤ 400 ∧ Ch (NT b w) w w' ∧ ∀ (i : Nat) a k, its'[i]? = some a → (a.l.ownBlock = some k ∨ a.u.ownBlock = some k) → l.ownBlock = some k ∨ w.heap.size ≤ k ∨ ∃ (i' : Nat) (a' : It), its[i']? = some a' ∧ (a'.l.ownBlock = some k ∨ a'.u.ownBlock = some k) := by
  have p0 : w.cell? ⟨p, 0, none⟩ = some vL := h.row.cell 0
  have p1 : w.cell? ⟨p, 1, none⟩ = some vW := h.row.cell 1
  obtain ⟨AL, cL, hvL⟩ := own_form h.rl
  rw [List.length_map] at hvL
  obtain ⟨A, c, rfl, hcl, hxl⟩ := hv
  obtain ⟨Al, rfl, _⟩ := hl.form
  by_cases hlt : its.length < 400
  · have d0 := decide_lt_t (show (its.length : Int) < 400 by omega)
    have HS := Lib.hid h
    have HL := Lib.hid hl
    have HN := Lib.hid hnew
    have HCL := Lib.hid hcl
    subst hvL
    clear h hl hnew hcl
    go_enter Try.func26, Try.ntmps26
    go_upto_region 3 with ((with_reducible refine at_op (o := ⟨some 15, .call { callee := .builtin .append, args := #[.tmp 13, .tmp 14], argTypes := #[22, 22] }, _, _, _, _⟩) ?_); refine wpList_append_to rfl (.tmp 13) (.tmp 14) 22 rfl w.heap.size 2 (.int .i64 0) 8 Try.underlying22 info2 rfl (.slice none 0 0) [] rfl _ _ _ (ints xs) rfl (owns_nil _ _ _ _) (ints_length xs) HCL.out (ints_one xs) (by simp; omega) (by omega) (Nat.le_refl _) ?_; intro v1 w1 ho1 hg1 hat1; rw [List.nil_append] at ho1; have HO1 : Hid (Ol w.heap.size w1 v1 xs) := ⟨ho1, by omega⟩; have HC1 : Hid (Ch No w w1) := (Ch.of_grownBy hg1).no (fun k _ hk => by simp [Value.ownBlock] at hk); clear ho1 hg1 hat1)
    obtain ⟨A1, c1, rfl, _, _⟩ := HO1.out.sl
    have HS1 := Lib.hid (HS.out.keepNo HC1.out)
    have HL1 := Lib.hid (HL.out.keepNo HC1.out)
    have q0 : w1.cell? ⟨p, 0, none⟩ = some (.slice AL its.length cL) := HS1.out.row.cell 0
    have q1 : w1.cell? ⟨p, 1, none⟩ = some vW := HS1.out.row.cell 1
    have HPUSH : Hid (Sg b w1 p g (its.map (·.l)) (its.map (·.u)) (its ++ [⟨.slice Al xs.length xs.length, .slice A1 xs.length c1, xs⟩]) (.slice AL its.length cL) vW) := by
      refine HS1.out.push (HL1.out.low hb1) (HO1.out.low hb) hx HN.out (fun k hk => ?_)
      have hk1 := HO1.out.own k hk
      refine ⟨by omega, fun e => ?_, fun i a hi => ⟨fun e => ?_, fun e => ?_⟩⟩
      · obtain ⟨L, hL⟩ := HL.out.ol.own_row e
        have := hL.lt
        omega
      · obtain ⟨L, hL⟩ := HS.out.two i a k hi (.inl e)
        have := hL.lt
        omega
      · obtain ⟨L, hL⟩ := HS.out.two i a k hi (.inr e)
        have := hL.lt
        omega
    obtain ⟨ls, hls⟩ : ∃ ls, ls = its.map (·.l) := ⟨_, rfl⟩
    obtain ⟨us, hus⟩ : ∃ us, us = its.map (·.u) := ⟨_, rfl⟩
    have HLS := Lib.hid hls
    have HUS := Lib.hid hus
    have HLN : Hid (ls.length = its.length) := by show _ = _; rw [hls, List.length_map]
    rw [← hls, ← hus] at HPUSH
    have HBL : Hid ((ls.length + 1) * 24 ≤ 140737488355328) := by show _ ≤ _; rw [HLN.out]; omega
    have HBS : Hid (b ≤ (w1.alloc (.cells #[.slice Al xs.length xs.length] 22)).heap.size) := by have := HC1.out.size; show _ ≤ _; simp; omega
    have HOC : Hid (∀ u ∈ [Value.slice Al xs.length xs.length], u.oneCell' = true) := by show ∀ u ∈ _, _; simp [Value.oneCell']
    have HRL : Hid ((w1.alloc (.cells #[.slice Al xs.length xs.length] 22)).ownsRow b 22 1 (.slice AL its.length cL) ls.length ls) := owns_keepNo HPUSH.out.rl ((Ch.refl No w1).alloc _)
    have HCLN : Hid (Cl (w1.alloc (.cells #[.slice Al xs.length xs.length] 22)) (some ⟨w1.heap.size, 0, none⟩) [.slice Al xs.length xs.length]) := (Row.new w1 22 [.slice Al xs.length xs.length]).cl0
    clear p0 p1 HS HL HN HL1 hls hus
    go_upto_region 4 with ((with_reducible refine at_op (o := ⟨some 23, .call { callee := .builtin .append, args := #[.tmp 20, .tmp 22], argTypes := #[44, 44] }, _, _, _, _⟩) ?_); refine wpList_append_to rfl (.tmp 20) (.tmp 22) 44 rfl b 22 (.slice none 0 0) 24 Try.underlying44 info22 rfl (.slice AL its.length cL) ls rfl (some ⟨w1.heap.size, 0, none⟩) 1 1 [.slice Al xs.length xs.length] rfl HRL.out rfl HCLN.out HOC.out HBL.out (by omega) HBS.out ?_; intro v2 w2 ho2 hg2 hat2; obtain ⟨A2, c2, rfl⟩ := own_form ho2; have HP2 := Lib.hid (HPUSH.out.pushL ho2 hg2 hat2); have r2 := HPUSH.out.rowL hg2; have s0 : w2.cell? ⟨p, 0, none⟩ = some (.slice AL its.length cL) := r2.cell 0; have f0 := r2.frozen 0; clear ho2 hg2 hat2 r2)
    obtain ⟨hp3, hc3⟩ := HP2.out
    have HP3 := Lib.hid hp3
    have HC3 := Lib.hid hc3
    rw [show (ls ++ [Value.slice Al xs.length xs.length]).length = ls.length + 1 by simp] at *
    clear hp3 hc3 HP2 s0 f0 q0 q1 HRL HCLN HPUSH HBL HBS HOC
    generalize w2.setCell ⟨p, 0, none⟩ (.slice A2 (ls.length + 1) c2) = w3 at *
    have q0 : w3.cell? ⟨p, 0, none⟩ = some (.slice A2 (ls.length + 1) c2) := HP3.out.row.cell 0
    have q1 : w3.cell? ⟨p, 1, none⟩ = some vW := HP3.out.row.cell 1
    have HUN : Hid (us.length = its.length) := by show _ = _; rw [HUS.out, List.length_map]
    have HBL : Hid ((us.length + 1) * 24 ≤ 140737488355328) := by show _ ≤ _; rw [HUN.out]; omega
    have HBS : Hid (b ≤ (w3.alloc (.cells #[.slice A1 xs.length c1] 22)).heap.size) := by have := HC1.out.size; have := HC3.out.size; show _ ≤ _; simp; omega
    have HOC : Hid (∀ u ∈ [Value.slice A1 xs.length c1], u.oneCell' = true) := by show ∀ u ∈ _, _; simp [Value.oneCell']
    have HRL : Hid ((w3.alloc (.cells #[.slice A1 xs.length c1] 22)).ownsRow b 22 1 vW us.length us) := owns_keepNo HP3.out.rw_ ((Ch.refl No w3).alloc _)
    have HCLN : Hid (Cl (w3.alloc (.cells #[.slice A1 xs.length c1] 22)) (some ⟨w3.heap.size, 0, none⟩) [.slice A1 xs.length c1]) := (Row.new w3 22 [.slice A1 xs.length c1]).cl0
    go_wp2_with ((with_reducible refine at_op (o := ⟨some 33, .call { callee := .builtin .append, args := #[.tmp 30, .tmp 32], argTypes := #[44, 44] }, _, _, _, _⟩) ?_); refine wpList_append_to rfl (.tmp 30) (.tmp 32) 44 rfl b 22 (.slice none 0 0) 24 Try.underlying44 info22 rfl vW us rfl (some ⟨w3.heap.size, 0, none⟩) 1 1 [.slice A1 xs.length c1] rfl HRL.out rfl HCLN.out HOC.out HBL.out (by omega) HBS.out ?_; intro v4 w4 ho4 hg4 hat4; obtain ⟨A4, c4, rfl⟩ := own_form ho4; have HP4 := Lib.hid (HP3.out.pushW ho4 hg4 hat4); have r4 := HP3.out.rowW hg4; have s0 : w4.cell? ⟨p, 1, none⟩ = some vW := r4.cell 1; have f0 := r4.frozen 1; clear ho4 hg4 hat4 r4)
    go_end0
    have hf := HP4.out
    rw [show (us ++ [Value.slice A1 xs.length c1]).length = us.length + 1 by simp] at hf
    refine ⟨its ++ [⟨.slice Al xs.length xs.length, .slice A1 xs.length c1, xs⟩], .slice A2 (ls.length + 1) c2, .slice A4 (us.length + 1) c4, rfl, ?_, ?_, ch_fresh HC1.out (Ch.nt HC3.out hf.2), fun i a k hi hk => ?_⟩
    · unfold Sh
      rw [List.map_append, List.map_append, ← HLS.out, ← HUS.out]
      exact hf.1
    · rw [List.length_append, List.length_singleton]
      omega
    · rw [List.getElem?_append] at hi
      split at hi
      · exact .inr (.inr ⟨i, a, hi, hk⟩)
      · have h3 := List.mem_of_getElem? hi
        simp at h3
        subst h3
        rcases hk with hk | hk
        · exact .inl hk
        · exact .inr (.inl (HO1.out.own k hk))
  · have d0 := decide_lt_f (show ¬ (its.length : Int) < 400 by omega)
    have HS := Lib.hid h
    subst hvL
    clear h hl hnew hcl
    go_enter Try.func26, Try.ntmps26
    go_wp2_with (fail)
    go_end0
    exact ⟨its, _, _, rfl, HS.out, hs, Ch.refl _ _, fun i a k hi hk => .inr (.inr ⟨i, a, hi, hk⟩)⟩
end Go.Proofs.Ytbllpojljdhnoaa
