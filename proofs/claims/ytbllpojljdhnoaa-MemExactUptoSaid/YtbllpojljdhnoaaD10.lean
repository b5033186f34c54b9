/- MemExact: Shelf.holds. -/
import Derived.Test.YtbllpojljdhnoaaD9
set_option linter.unusedVariables false
set_option linter.unusedSimpArgs false
namespace Go.Proofs.Ytbllpojljdhnoaa
open Go.RowKit
theorem one22 : (Try.prog.info? 22).map (·.size) = some 1 := by kernel_rfl
/-- &s[i], as an operation of a region's head -/
theorem exec_at {a : Act} {o : Oper} {w : World} (t e : TypeId) (x y : Operand) (ho : o.op = .indexAddr t x y) (hu : Try.prog.underlying t = some (.slice e)) (hs : (Try.prog.info? e).map (·.size) = some 1) (ad : Addr) (n cap i : Nat) (hx : a.eval x = .slice (some ad) n cap) (hy : a.eval y = .int .i64 (i : Int)) (hi : i < n) :
    (execOp a.eval o).run Try.prog w = .ok (.value (.pointer (some (ad.add i)))) w := by
  have h1 : (i : Int) < (n : Int) := by omega
  have h2 : decide ((i : Int) < 0) = false := by simp
  obtain ⟨ti, hti, hts⟩ := Option.map_eq_some_iff.1 hs
  unfold execOp
  simp only [ho]
  generalize a.eval = ρ at *
  simp only [hx, hy]
  go_simp
  simp [sizeOf, typeInfo, hti, hts]
theorem exec_at0' {a : Act} {o : Oper} {w : World} (t e : TypeId) (x y : Operand) (ho : o.op = .indexAddr t x y) (hu : Try.prog.underlying t = some (.slice e)) (hs : (Try.prog.info? e).map (·.size) = some 1) (g n cap i : Nat) (hx : a.eval x = .slice (some ⟨g, 0, none⟩) n cap) (hy : a.eval y = .int .i64 (i : Int)) (hi : i < n) :
    (execOp a.eval o).run Try.prog w = .ok (.value (.pointer (some ⟨g, i, none⟩))) w := by
  have := exec_at (w := w) t e x y ho hu hs ⟨g, 0, none⟩ n cap i hx hy hi
  rw [add_lit, Nat.zero_add] at this
  exact this
/-- an element of a list of lists -/
theorem own_at {b : Nat} {w : World} {v : Value} {vs : List Value} (h : w.ownsRow b 22 1 v vs.length vs) (i : Nat) (x : Value) (hi : vs[i]? = some x) : ∃ g c, v = .slice (some ⟨g, 0, none⟩) vs.length c ∧ w.cell? ⟨g, i, none⟩ = some x := by
  have hlt : i < vs.length := by
    rcases Nat.lt_or_ge i vs.length with h | h
    · exact h
    · rw [List.getElem?_eq_none h] at hi
      cases hi
  rcases owns_open h with ⟨hv, hx⟩ | ⟨g, cap, rest, hv, hb, hr, hl, hm⟩
  · rw [hx] at hi
    simp at hi
  · refine ⟨g, cap, hv, ?_⟩
    rw [hr.cell, List.getElem?_append_left hlt, hi]
set_option maxHeartbeats 4000000 in
set_option maxRecDepth 100000 in
theorem holds_calls {b : Nat} {w : World} {p g : Nat} {its : List It} {vL vW : Value} (h : Sh b w p g its vL vW) (hs : its.length ≤ 400) :
    Calls Try.prog 30 #[.pointer (some ⟨p, 0, none⟩)] w fun e w' => e = .returned (.bool true) ∧ Ch No w w' := by
  obtain ⟨AL, cL, hvL⟩ := own_form h.rl
  rw [List.length_map] at hvL
  subst hvL
  have HS := Lib.hid h
  clear h
  go_enter Try.func30, Try.ntmps30
  go_wp2_with (fail)
  go_loopw [3] (fun i wr => ∃ j : Nat, j ≤ its.length ∧ i = .int .i64 j ∧ Hid (Ch No w wr)) (fun i _ => its.length - (intOf i).toNat)
  case atStart => exact ⟨0, Nat.zero_le _, rfl, Ch.refl _ _⟩
  case round =>
    obtain ⟨j, hj, rfl, HC⟩ := hrel
    have HSr := Lib.hid (HS.out.keepNo HC.out)
    have q0 : wr.cell? ⟨p, 0, none⟩ = some (.slice AL its.length cL) := HSr.out.row.cell 0
    by_cases hlt : j < its.length
    · have d0 := decide_lt_t (show (j : Int) < (its.length : Int) by omega)
      obtain ⟨a, ha⟩ : ∃ a, its[j]? = some a := ⟨its[j], List.getElem?_eq_getElem hlt⟩
      go_upto_region 4 with (fail)
      have HC0 : ∀ w', Ch No wr w' → Sg b w' p g (its.map (·.l)) (its.map (·.u)) its (.slice AL its.length cL) vW := fun w' hw => HSr.out.keepNo hw
      obtain ⟨gL, cL', eL, _⟩ := own_at HSr.out.rl j a.l (by simp [ha])
      obtain ⟨gW, cW, eW, _⟩ := own_at HSr.out.rw_ j a.u (by simp [ha])
      simp only [Value.slice.injEq] at eL
      obtain ⟨rfl, _, rfl⟩ := eL
      rw [List.length_map] at eW
      have HEL : Hid (∀ w', Ch No wr w' → w'.cell? ⟨gL, j, none⟩ = some a.l) := fun w' hw => by
        obtain ⟨g', c', e', hc⟩ := own_at (HC0 w' hw).rl j a.l (by simp [ha])
        simp only [Value.slice.injEq, Option.some.injEq, Addr.mk.injEq] at e'
        rw [e'.1.1]
        exact hc
      have HEW : Hid (∀ w', Ch No wr w' → w'.cell? ⟨gW, j, none⟩ = some a.u) := fun w' hw => by
        obtain ⟨g', c', e', hc⟩ := own_at (HC0 w' hw).rw_ j a.u (by simp [ha])
        rw [eW] at e'
        simp only [Value.slice.injEq, Option.some.injEq, Addr.mk.injEq] at e'
        rw [e'.1.1]
        exact hc
      subst eW
      have HSM : Hid (∀ w', Ch No wr w' → Calls Try.prog 14 #[a.l, a.u] w' fun e w'' => e = .returned (.bool true) ∧ Ch No w' w'') := fun w' hw => same_self ((HC0 w' hw).it j a ha).1.ol.sl ((HC0 w' hw).it j a ha).2.1.sl
      refine wp_region_quiet_tail 15 (by kernel_rfl) (by kernel_rfl) (fun w' => Ch No wr w') ((Ch.refl _ _).drew) ?_
      simp only [List.take_succ_cons, List.take_zero, List.drop_succ_cons, List.drop_zero]
      refine wpQuiet_value (by rfl) (.pointer (some ⟨p, 0, none⟩)) (fun _ => rfl) ?_
      simp only [Act.put, List.setIfInBounds_toArray, List.set_cons_zero, List.set_cons_succ]
      refine wpQuiet_value (by rfl) (.pointer (some ⟨p, 0, none⟩)) (fun _ => by kernel_rfl) ?_
      simp only [Act.put, List.setIfInBounds_toArray, List.set_cons_zero, List.set_cons_succ]
      refine wpQuiet_value (by rfl) (.pointer (some ⟨p, 0, none⟩)) (fun _ => by kernel_rfl) ?_
      simp only [Act.put, List.setIfInBounds_toArray, List.set_cons_zero, List.set_cons_succ]
      refine wpQuiet_read (by rfl) (.slice (some ⟨gL, 0, none⟩) its.length cL) (fun w' hw' => exec_load_cell 44 (.tmp 15) rfl ⟨p, 0, none⟩ rfl _ Try.underlying44 rfl _ ((HSr.out.keepNo hw').row.cell 0)) ?_
      simp only [Act.put, List.setIfInBounds_toArray, List.set_cons_zero, List.set_cons_succ]
      refine wpQuiet_value (by rfl) (.int .i64 (j : Int)) (fun _ => rfl) ?_
      simp only [Act.put, List.setIfInBounds_toArray, List.set_cons_zero, List.set_cons_succ]
      refine wpQuiet_value (by rfl) (.pointer (some ⟨gL, j, none⟩)) (fun _ => exec_at0' 44 22 (.tmp 16) (.tmp 17) rfl Try.underlying44 one22 gL its.length cL j rfl rfl hlt) ?_
      simp only [Act.put, List.setIfInBounds_toArray, List.set_cons_zero, List.set_cons_succ]
      refine wpQuiet_read (by rfl) (a.l) (fun w' hw' => exec_load_cell 22 (.tmp 18) rfl ⟨gL, j, none⟩ rfl _ Try.underlying22 rfl _ (HEL.out w' hw')) ?_
      simp only [Act.put, List.setIfInBounds_toArray, List.set_cons_zero, List.set_cons_succ]
      refine wpQuiet_value (by rfl) (.pointer (some ⟨p, 0, none⟩)) (fun _ => rfl) ?_
      simp only [Act.put, List.setIfInBounds_toArray, List.set_cons_zero, List.set_cons_succ]
      refine wpQuiet_value (by rfl) (.pointer (some ⟨p, 0, none⟩)) (fun _ => by kernel_rfl) ?_
      simp only [Act.put, List.setIfInBounds_toArray, List.set_cons_zero, List.set_cons_succ]
      refine wpQuiet_value (by rfl) (.pointer (some ⟨p, 1, none⟩)) (fun _ => by kernel_rfl) ?_
      simp only [Act.put, List.setIfInBounds_toArray, List.set_cons_zero, List.set_cons_succ]
      refine wpQuiet_read (by rfl) (.slice (some ⟨gW, 0, none⟩) its.length cW) (fun w' hw' => exec_load_cell 44 (.tmp 22) rfl ⟨p, 1, none⟩ rfl _ Try.underlying44 rfl _ ((HSr.out.keepNo hw').row.cell 1)) ?_
      simp only [Act.put, List.setIfInBounds_toArray, List.set_cons_zero, List.set_cons_succ]
      refine wpQuiet_value (by rfl) (.int .i64 (j : Int)) (fun _ => rfl) ?_
      simp only [Act.put, List.setIfInBounds_toArray, List.set_cons_zero, List.set_cons_succ]
      refine wpQuiet_value (by rfl) (.pointer (some ⟨gW, j, none⟩)) (fun _ => exec_at0' 44 22 (.tmp 23) (.tmp 24) rfl Try.underlying44 one22 gW its.length cW j rfl rfl hlt) ?_
      simp only [Act.put, List.setIfInBounds_toArray, List.set_cons_zero, List.set_cons_succ]
      refine wpQuiet_read (by rfl) (a.u) (fun w' hw' => exec_load_cell 22 (.tmp 25) rfl ⟨gW, j, none⟩ rfl _ Try.underlying22 rfl _ (HEW.out w' hw')) ?_
      simp only [Act.put, List.setIfInBounds_toArray, List.set_cons_zero, List.set_cons_succ]
      refine wpQuiet_call (by rfl) (.bool true) 14 #[a.l, a.u] (fun _ => by kernel_rfl) (fun w' hw' => (HSM.out w' hw').mono fun e w'' h => ⟨h.1, hw'.then_ h.2⟩) ?_
      simp only [Act.put, List.setIfInBounds_toArray, List.set_cons_zero, List.set_cons_succ]
      refine wpQuiet_nil ?_
      intro w2 hw2
      have HC2 := Lib.hid (HC.out.then_ hw2)
      clear hw2
      go_wp2_with (fail)
      exact ⟨⟨j + 1, by omega, by go_num, HC2⟩, by simp [intOf]; omega⟩
    · obtain rfl : j = its.length := by omega
      have d0 : decide ((its.length : Int) < (its.length : Int)) = false := by simp
      go_wp2_with (fail)
      go_ret
      exact ⟨rfl, HC.out⟩
end Go.Proofs.Ytbllpojljdhnoaa
