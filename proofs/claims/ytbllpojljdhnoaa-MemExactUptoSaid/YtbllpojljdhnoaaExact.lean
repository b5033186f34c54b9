/- MemExact holds for every input of a size that any machine bears (bulk at most 1048576): a memory of any words, every call on it in every order, and every word behind each of them are as the document has them; all arguments are left as they were. -/
import Derived.Test.YtbllpojljdhnoaaD17
import Derived.Test.YtbllpojljdhnoaaOp
import Derived.Test.YtbllpojljdhnoaaRows
set_option linter.unusedVariables false
set_option linter.unusedSimpArgs false
namespace Go.Proofs.Ytbllpojljdhnoaa
open Go.ChangeShapes Go.WideShapes Go.ChangeAt Go.RowKit
section
variable {H : Type} {enc : TypeId × Value → H} {W : World} {P : Program}
theorem bulk_pos (d : DataW H) : 1 ≤ Rows.uptoBulk d := by
  cases d <;> try simp [Rows.uptoBulk]
  rename_i l
  cases l <;> simp [Rows.uptoBulk]
theorem bulk_len : ∀ ds : List (DataW H), ds.length ≤ Rows.uptoBulkAll ds
  | [] => Nat.le_refl _
  | d :: ds => by
    have := bulk_len ds
    have := bulk_pos d
    simp only [List.length_cons, Rows.uptoBulkAll]
    omega
theorem bulk_at : ∀ (ds : List (DataW H)) (i : Nat) (d : DataW H), ds[i]? = some d → Rows.uptoBulk d ≤ Rows.uptoBulkAll ds
  | [], i, d, h => by simp at h
  | e :: ds, 0, d, h => by
    simp at h
    subst h
    simp only [Rows.uptoBulkAll]
    omega
  | e :: ds, i + 1, d, h => by
    have := bulk_at ds i d (by simpa using h)
    simp only [Rows.uptoBulkAll]
    omega
theorem slice_bulk {t e : TypeId} {c : Nat} {d : DataW H} {A : Option Addr} {n cap : Nat} (ht : P.underlying t = some (.slice e)) (hc : P.cellsOf e = c) (h : Tr enc P W t [.slice A n cap] d) : n ≤ Rows.uptoBulk d := by
  obtain ⟨A', ess, ds, cap', h1, h2, h3, h4, h5, h6, h7⟩ := tr_slice ht hc h
  simp only [List.cons.injEq, Value.slice.injEq, and_true] at h1
  rw [h1.2.1, ← h4]
  rcases h7 with ⟨_, rfl⟩ | ⟨sp, rfl⟩
  · simp
  · have := bulk_len ds
    simp only [Rows.uptoBulk]
    omega
theorem small_all {ds gs : List (DataW H)} (h : Rows.uptoSmall H (ds ++ gs) = true) : Rows.uptoBulkAll (ds ++ gs) ≤ 1048576 := by simpa [Rows.uptoSmall] using h
theorem tr_op2 {cs : List Value} {d : DataW H} (h : Tr enc Try.prog W 29 cs d) : ∃ o : OpR, cs = o.cells ∧ o.Ok W ∧ o.data.length ≤ Rows.uptoBulk d := by
  obtain ⟨ds, rfl, hlen, hds, hf⟩ := tr_struct Try.underlying29 h
  rw [cells29'] at hlen
  match cs, hlen with
  | [c0, c1, c2, c3, c4, c5], _ =>
    obtain ⟨e0, _, h0⟩ := hf 0 _ rfl
    obtain ⟨e1, _, h1⟩ := hf 1 _ rfl
    obtain ⟨e2, _, h2⟩ := hf 2 _ rfl
    obtain ⟨e3, _, h3⟩ := hf 3 _ rfl
    obtain ⟨e4, _, h4⟩ := hf 4 _ rfl
    obtain ⟨e5, k5, h5⟩ := hf 5 _ rfl
    have h0 := tr_field h0 cells3' rfl
    have h1 := tr_field h1 cells3' rfl
    have h2 := tr_field h2 cells2' rfl
    have h3 := tr_field h3 cells3' rfl
    have h4 := tr_field h4 cells2' rfl
    have h5 := tr_field h5 cells22' rfl
    obtain ⟨n0, q0, _, w0⟩ := tr_int Try.underlying3 h0
    obtain ⟨n1, q1, _, w1⟩ := tr_int Try.underlying3 h1
    obtain ⟨n2, q2, _, w2⟩ := tr_int Try.underlying2 h2
    obtain ⟨n3, q3, _, w3⟩ := tr_int Try.underlying3 h3
    obtain ⟨n4, q4, _, w4⟩ := tr_int Try.underlying2 h4
    obtain ⟨A, xs, cap, q5, hc1, hc2, hc3, _, _⟩ := tr_ints Try.underlying22 Try.underlying2 cells2' h5
    simp only [List.cons.injEq, and_true] at q0 q1 q2 q3 q4 q5
    have b5 : xs.length ≤ Rows.uptoBulk e5 := slice_bulk Try.underlying22 cells2' (by rw [q5] at h5; exact h5)
    have b6 := bulk_at ds 5 e5 k5
    subst q0 q1 q2 q3 q4 q5
    exact ⟨⟨n0, n1, n2, n3, n4, A, xs, cap⟩, rfl, ⟨wf_i64 w2, wf_i64 w4, wf_i64 w3, hc1, hc2, hc3⟩, by simp only [Rows.uptoBulk]; show xs.length ≤ _; omega⟩
theorem tr_ops2 {cs : List Value} {d : DataW H} (h : Tr enc Try.prog W 23 cs d) : ∃ (S : Option Addr) (os : List OpR) (cap : Nat), cs = [.slice S os.length cap] ∧ os.length ≤ cap ∧ cap ≤ maxLen ∧ Ops W S os ∧ ∀ o ∈ os, o.data.length ≤ Rows.uptoBulk d := by
  obtain ⟨S, ess, ds, cap, h1, h2, h3, h4, h5, h6, h7⟩ := tr_slice Try.underlying23 cells29' h
  obtain ⟨os, hos, hd⟩ := tr_list (fun o : OpR => o.cells) (fun o d' => o.Ok W ∧ o.data.length ≤ Rows.uptoBulk d') ess ds h4 (fun i es hi => by
    obtain ⟨_, d', hd', htr⟩ := h5 i es hi
    obtain ⟨o, ho1, ho2, ho3⟩ := tr_op2 htr
    exact ⟨d', hd', o, ho1, ho2, ho3⟩)
  subst hos
  simp only [List.length_map] at h1 h2 h4
  refine ⟨S, os, cap, h1, h2, h3, fun i o ho => ?_, fun o ho => ?_⟩
  case refine_2 =>
    obtain ⟨i, hi⟩ := List.getElem?_of_mem ho
    obtain ⟨d', hd1, _, hd2⟩ := hd i o hi
    have hb := bulk_at ds i d' hd1
    rcases h7 with ⟨_, hn⟩ | ⟨sp, hn⟩
    · rw [hn] at hd1
      simp at hd1
    · rw [hn]
      simp only [Rows.uptoBulk]
      omega
  obtain ⟨d', _, hok, _⟩ := hd i o ho
  have hes : (os.map fun o : OpR => o.cells)[i]? = some o.cells := by simp [ho]
  obtain ⟨ad, ha, _⟩ := h6 i 0 _ _ hes rfl
  refine ⟨hok, ad, ha, fun j v hj => ?_⟩
  obtain ⟨ad', ha', hc⟩ := h6 i j v _ hes hj
  rw [ha] at ha'
  cases ha'
  exact ⟨_, rfl, by rw [add_add]; exact hc⟩
end
theorem exact_row (H : Type) (enc : TypeId × Value → H) (W : World) (base : Nat) (args : Array Value) (ds gs : List (DataW H)) (before : List MemPlace)
    (hval0 : ∀ (j : Nat) t v, Try.f4.params[j]? = some t → args[j]? = some v → Value.okWide Try.prog W .any base t v)
    (hW : DataW.Whole enc Try.prog Try.f4.params.toList Rows.memExactSpec.vars false W args.toList ds gs before) (hk : Rows.uptoSmall H (ds ++ gs) = true) :
    Calls Try.prog 4 args W fun e W' => ∃ v, e = .returned v ∧ Rows.memExactSpec.post enc Try.prog Try.f4 false true false false W args v W' := by
  have hval : ∀ (j : Nat) t v, Try.f4.params[j]? = some t → args[j]? = some v → Value.okWide Try.prog W .any base t v := hval0
  have hW' := hW
  obtain ⟨p, q, hA0, hV, rfl, _, _⟩ := hW
  have hA : DataW.TrodAll enc Try.prog W 0 (fun _ => true) true Try.f4.params.toList args.toList ds p := hA0
  rw [Try.params4] at hA hval
  obtain ⟨v0, v1, v2, d0, d1, d2, p0, p1, p2, hargs, rfl, rfl, h0, h1, h2⟩ := trodAll_three hA
  obtain rfl : args = #[v0, v1, v2] := by cases args; simp_all
  obtain ⟨rfl, _⟩ := trodVars_none hV
  obtain ⟨x0, rfl, rfl, rfl, w0⟩ := open_int Try.underlying3 (hval 0 3 v0 rfl rfl) h0
  obtain ⟨a1, l1, k1, rfl⟩ := okWide_slice Try.underlying22 (hval 1 22 v1 rfl rfl)
  have hb1 := slice_bulk (t := 22) Try.underlying22 cells2' (show Tr enc Try.prog W 22 [.slice a1 l1 k1] d1 from tr_of h1)
  obtain ⟨A, xs, cap, e1, hc, hm, hx, _, _⟩ := tr_ints Try.underlying22 Try.underlying2 cells2' (tr_of h1)
  obtain ⟨a3, l3, k3, rfl⟩ := okWide_slice Try.underlying23 (hval 2 23 v2 rfl rfl)
  obtain ⟨S, sc, scap, e3, hc3, hm3, hs, hb3⟩ := tr_ops2 (tr_of h2)
  have hsm := small_all hk
  have hb4 := bulk_at ([.lit (.int .i64 x0), d1, d2] ++ []) 1 d1 rfl
  have hb5 := bulk_at ([.lit (.int .i64 x0), d1, d2] ++ []) 2 d2 rfl
  have hle : l1 = xs.length := by
    simp only [Value.cells, List.cons.injEq, Value.slice.injEq, and_true] at e1
    exact e1.2.1
  have hxl : xs.length ≤ 10000000 := by
    rw [← hle]
    exact Nat.le_trans hb1 (Nat.le_trans hb4 (Nat.le_trans hsm (by decide)))
  have hsl : sc.length ≤ 9223372036854775807 := by unfold maxLen at hm3; omega
  have hdl : ∀ o ∈ sc, o.data.length ≤ 10000000 := fun o ho => Nat.le_trans (hb3 o ho) (Nat.le_trans hb5 (Nat.le_trans hsm (by decide)))
  simp only [Value.cells, List.cons.injEq, and_true] at e1 e3
  rw [e1, e3] at hW' ⊢
  refine (exact_calls ⟨A, cap, rfl, hx, hxl⟩ x0 hs hsl hdl).mono fun e W' ⟨he, hch⟩ => ?_
  subst he
  exact ⟨_, rfl, post_law laidOut' (fun t ht => readable t (by rw [Try.params4] at ht; simp at ht; rcases ht with rfl | rfl | rfl <;> simp)) rfl Try.underlying4 rfl hW' rfl rfl rfl hch⟩
set_option maxRecDepth 100000 in
theorem exact_lifted (os : Os) (started : os.Started) (H : Type) (enc : TypeId × Value → H) (F : Stop.Interp) :
    ReturnsInHanded {} Try.checked os 4 .any ((Rows.OpenSpec.upto Rows.memExactSpec).pre6 enc Try.prog Try.f4 Rows.memExactUptoRow.domain false) (((Rows.OpenSpec.upto Rows.memExactSpec).at F).post enc Try.prog Try.f4 false true false false) := by
  refine returnsInHanded_of_cond (C := Try.checked) (s := Rows.OpenSpec.upto Rows.memExactSpec) (k := Rows.uptoSmall) rfl own' started (by kernel_rfl) Try.func4
    (OpenSpec.witness (enc := enc) (C := Try.checked) (s := Rows.OpenSpec.upto Rows.memExactSpec) (k := Rows.uptoSmall) rfl false ⟨#[], #[.int .i64 0, .slice none 0 0, .slice none 0 0], []⟩ 8 (by kernel_rfl) (by kernel_rfl) (by kernel_rfl)
      (x := ([.lit (.int .i64 0), .nil, .nil], [], [])) (by kernel_rfl) rfl (by kernel_rfl)) ?_
  intro W base args ds gs before hval hW _ hk _
  exact exact_row H enc W base args ds gs before hval hW hk
theorem memExact_upto : Rows.MemExactUptoSaid :=
  OpenClaim.holds_of_cond 4 Try.f4 rfl rfl rfl rfl rfl rfl rfl ⟨rfl, rfl, rfl, rfl, rfl⟩ rfl rfl rfl rfl rfl (by kernel_rfl) Try.func4 (by kernel_rfl)
    (of_decide_eq_true (by kernel_rfl)) (by unfold Func.isWrapper; first | (rw [if_pos (by decide +kernel)]; kernel_rfl) | (rw [if_neg (by decide +kernel)]; exact ⟨rfl, rfl⟩))
    (fun os started H enc _ F => exact_lifted os started H enc F)
end Go.Proofs.Ytbllpojljdhnoaa
