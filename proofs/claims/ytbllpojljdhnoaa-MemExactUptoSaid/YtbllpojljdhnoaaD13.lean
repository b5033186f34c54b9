/- MemExact: mem's Store and Write on a list of one's own. -/
import Derived.Test.YtbllpojljdhnoaaD12
set_option linter.unusedVariables false
set_option linter.unusedSimpArgs false
namespace Go.Proofs.Ytbllpojljdhnoaa
open Go.RowKit
theorem pl_value_to {ops : Array Oper} {rest : List Oper} {o : Oper} {a : Act} {Q : Exit → Act → World → Prop} {w w' : World} (hgd : o.guard = none) (v : Value)
    (hv : (execOp a.eval o).run Try.prog w = .ok (.value v) w') (h : wpList Try.prog ops Q rest (a.put o.dst v) w') : wpList Try.prog ops Q (o :: rest) a w := by
  refine wpList_plain hgd fun K hK => ?_
  unfold Oper.wp
  rw [hv]
  exact hK _ _ h
theorem copy_nil_22 (w : World) (ty : TypeId) (B : Option Addr) (c : Nat) : (Builtin.copy_ #[22, 22] ty #[.slice none 0 0, .slice B 0 c]).run Try.prog w = .ok (.int .i64 0) w := by
  obtain ⟨i, hi⟩ := Option.isSome_iff_exists.1 (show (Try.prog.info? 2).isSome = true by kernel_rfl)
  cases B <;> simp [Builtin.copy_, run_underlying Try.underlying22, Builtin.lenOf, Builtin.firstCells, sizeOf, typeInfo, hi, storeCells, goInt, loadCells, loadCellsFrom]
theorem exec_copy {a : Act} {o : Oper} {w w' : World} (d s : Operand) (t : TypeId) (ho : o.op = .call { callee := .builtin .copy, args := #[d, s], argTypes := #[t, t] }) (v u v' : Value) (hd : a.eval d = v) (hs : a.eval s = u) (hr : ∀ ty, (Builtin.copy_ #[t, t] ty #[v, u]).run Try.prog w = .ok v' w') :
    (execOp a.eval o).run Try.prog w = .ok (.value v') w' := by
  unfold execOp
  simp only [ho, resolve, invoke, builtin, Sem.run_bind, Sem.run_pure, Result.andThen_ok, List.map_toArray, List.map_cons, List.map_nil, hd, hs, hr]
/-- nothing is written into no memory -/
theorem write_nil (B : Option Addr) (c : Nat) (fixed addr : Int) (w : World) (h : may 0 fixed addr 0 = true) :
    Calls Try.prog 9 #[.slice none 0 0, .int .i64 fixed, .int .i64 addr, .slice B 0 c] w fun e w' => e = .returned (.bool true) ∧ w = w' := by
  have H0 := Lib.hid (may_zero h)
  have H := Lib.hid h
  clear h
  go_enter Try.func9, Try.ntmps9
  go_upto_region 3 with (go_at_call 11; refine (writable _ _ _ _ _ (by omega) (by omega)).mono ?_; rintro e w' ⟨rfl, rfl⟩; rw [H.out])
  go_wp2_with (first | (go_at_call 20; refine (piece_yes none 0 0 addr 0 _ (by omega) (by omega) H0.out).mono ?_; rintro e w' ⟨rfl, rfl⟩; simp only [at_, if_pos]) | ((with_reducible refine at_op (o := ⟨some 29, .call { callee := .builtin .copy, args := #[.tmp 27, .tmp 28], argTypes := #[22, 22] }, _, _, _, _⟩) ?_); refine pl_value_to (w' := w) rfl (.int .i64 0) (exec_copy (.tmp 27) (.tmp 28) 22 rfl _ _ _ rfl rfl (fun ty => copy_nil_22 w ty B c)) ?_))
  go_ret
  exact ⟨rfl, rfl⟩
theorem ol_open {b : Nat} {w : World} {v : Value} {xs : List Int} (h : Ol b w v xs) : (v = .slice none 0 0 ∧ xs = []) ∨ ∃ g cap rest, v = .slice (some ⟨g, 0, none⟩) xs.length cap ∧ b ≤ g ∧ Row w g 2 (ints xs ++ rest) ∧ xs.length + rest.length = cap ∧ cap ≤ maxLen := by
  rcases owns_open h.1 with ⟨hv, hx⟩ | ⟨g, cap, rest, hv, hb, hr, hl, hm⟩
  · refine .inl ⟨hv, ?_⟩
    apply List.eq_nil_of_length_eq_zero
    rw [← ints_length, hx]
    rfl
  · rw [ints_length] at hv hl
    exact .inr ⟨g, cap, rest, hv, hb, hr, hl, hm⟩
theorem ol_mk {b g cap : Nat} {w : World} {xs : List Int} {rest : List Value} {n : Nat} (hb : b ≤ g) (h : Row w g 2 (ints xs ++ rest)) (hl : xs.length + rest.length = cap) (hm : cap ≤ maxLen) (hs : xs.length ≤ 10000000) (hn : n = xs.length) : Ol b w (.slice (some ⟨g, 0, none⟩) n cap) xs := by
  subst hn
  refine ⟨?_, hs⟩
  have := owns_mk hb h (by rw [ints_length]; omega)
  rw [ints_length] at this
  rw [ints_length, ← hl]
  exact this
/-- changes what v lies in alone -/
def OwnB (v : Value) (k : Nat) : Prop := v.ownBlock = some k
theorem mwriteO {b : Nat} {w : World} {v u : Value} {X ys : List Int} (h : Ol b w v X) (hy : Sl w u ys) (fixed addr : Int) :
    Calls Try.prog 9 #[v, .int .i64 fixed, .int .i64 addr, u] w fun e w' => e = .returned (.bool (may X.length fixed addr ys.length)) ∧ Ol b w' v (wri X fixed addr ys) ∧ Ch (OwnB v) w w' := by
  rcases ol_open h with ⟨rfl, rfl⟩ | ⟨g, cap, rest, rfl, hb, hr, hl, hm⟩
  · obtain ⟨B, c, rfl, hB, hyl⟩ := hy
    cases hma : may ([] : List Int).length fixed addr ys.length
    · refine (write_no none B 0 0 ys.length c fixed addr w (by omega) hma).mono ?_
      rintro e w' ⟨rfl, rfl⟩
      refine ⟨rfl, ?_, Ch.refl _ _⟩
      rw [wri, hma]
      exact h
    · have hy0 : ys.length = 0 := by
        have := may_yes hma
        simp at this
        omega
      have hy1 : ys = [] := List.eq_nil_of_length_eq_zero hy0
      subst hy1
      refine (write_nil B c fixed addr w hma).mono ?_
      rintro e w' ⟨rfl, rfl⟩
      refine ⟨rfl, ?_, Ch.refl _ _⟩
      have e1 : wri [] fixed addr [] = [] := by
        apply List.eq_nil_of_length_eq_zero
        rw [wri_length]
        rfl
      rw [e1]
      exact h
  · have hr0 : Row w g 2 (ints (X ++ []) ++ rest) := by rw [List.append_nil]; exact hr
    refine (mwrite_calls g X.length cap X [] rest u ys fixed addr w h.2 (by omega) rfl hr0 hy).mono ?_
    rintro e w' ⟨rfl, hr', hc⟩
    rw [List.append_nil] at hr'
    refine ⟨rfl, ol_mk hb hr' (by rw [wri_length]; exact hl) hm (by rw [wri_length]; exact h.2) (wri_length _ _ _ _).symm, hc.mono (fun k _ e => ?_)⟩
    have e' : k = g := e
    subst e'
    rfl
theorem mstoreO {b : Nat} {w : World} {v : Value} {X : List Int} (h : Ol b w v X) (fixed addr x : Int) :
    Calls Try.prog 10 #[v, .int .i64 fixed, .int .i64 addr, .int .i64 x] w fun e w' => e = .returned (.bool (may X.length fixed addr 1)) ∧ Ol b w' v (wri X fixed addr [x]) ∧ Ch (OwnB v) w w' := by
  rcases ol_open h with ⟨rfl, rfl⟩ | ⟨g, cap, rest, rfl, hb, hr, hl, hm⟩
  · have hma : may ([] : List Int).length fixed addr 1 = false := by
      cases hma : may ([] : List Int).length fixed addr 1
      · rfl
      · have := may_yes hma
        simp at this
    refine (store_no none 0 0 fixed addr x w (by omega) hma).mono ?_
    rintro e w' ⟨rfl, hc⟩
    refine ⟨by rw [hma], ?_, hc.mono (fun _ _ h => (not_no _ h).elim)⟩
    have e1 : wri [] fixed addr [x] = [] := by
      apply List.eq_nil_of_length_eq_zero
      rw [wri_length]
      rfl
    rw [e1]
    exact h.keepNo hc
  · have hr0 : Row w g 2 (ints (X ++ []) ++ rest) := by rw [List.append_nil]; exact hr
    refine (mstore_calls g X.length cap X [] rest x fixed addr w h.2 (by omega) rfl hr0).mono ?_
    rintro e w' ⟨rfl, hr', hc⟩
    rw [List.append_nil] at hr'
    refine ⟨rfl, ol_mk hb hr' (by rw [wri_length]; exact hl) hm (by rw [wri_length]; exact h.2) (wri_length _ _ _ _).symm, hc.mono (fun k _ e => ?_)⟩
    have e' : k = g := e
    subst e'
    rfl
theorem Ol.at_ {b : Nat} {w : World} {v : Value} {xs : List Int} (h : Ol b w v xs) (j : Nat) (hj : j < xs.length) : ∃ g c, v = .slice (some ⟨g, 0, none⟩) xs.length c ∧ b ≤ g ∧ w.cell? ⟨g, j, none⟩ = some (.int .i64 (rd xs j)) ∧ w.frozen? ⟨g, j, none⟩ = false := by
  rcases ol_open h with ⟨rfl, rfl⟩ | ⟨g, cap, rest, rfl, hb, hr, hl, hm⟩
  · simp at hj
  · refine ⟨g, cap, rfl, hb, ?_, hr.frozen j⟩
    rw [hr.cell, List.getElem?_append_left (by rw [ints_length]; exact hj)]
    rw [rd_at _ _ hj]
    exact ints_get xs j hj
theorem Ol.set {b g n c : Nat} {w : World} {xs : List Int} (h : Ol b w (.slice (some ⟨g, 0, none⟩) n c) xs) (j : Nat) (hj : j < xs.length) (x : Int) : Ol b (w.setCell ⟨g, j, none⟩ (.int .i64 x)) (.slice (some ⟨g, 0, none⟩) n c) (xs.set j x) := by
  rcases ol_open h with ⟨e, rfl⟩ | ⟨g', cap, rest, e, hb, hr, hl, hm⟩
  · cases e
  · simp only [Value.slice.injEq, Option.some.injEq, Addr.mk.injEq, and_true] at e
    obtain ⟨rfl, rfl, rfl⟩ := e
    have hr' := hr.set_ j (.int .i64 x)
    rw [List.set_append_left _ _ (by rw [ints_length]; exact hj)] at hr'
    have e2 : (ints xs).set j (.int .i64 x) = ints (xs.set j x) := by simp [ints, List.map_set]
    rw [e2] at hr'
    exact ol_mk hb hr' (by rw [List.length_set]; exact hl) hm (by rw [List.length_set]; exact h.2) (by rw [List.length_set])
end Go.Proofs.Ytbllpojljdhnoaa
