/- A script, opened: the calls that its cells read as; what the rows of this seat share. -/
import Derived.Test.YtbllpojljdhnoaaKe
import Derived.Test.YtbllpojljdhnoaaL
import Derived.Test.YtbllpojljdhnoaaO
set_option linter.unusedVariables false
set_option linter.unusedSimpArgs false
namespace Go.Proofs.Ytbllpojljdhnoaa
open Go.ChangeShapes Go.WideShapes Go.ChangeAt Go.RowKit

theorem cells2' : Try.prog.cellsOf 2 = 1 := by kernel_rfl
theorem cells3' : Try.prog.cellsOf 3 = 1 := by kernel_rfl
theorem cells22' : Try.prog.cellsOf 22 = 1 := by kernel_rfl
theorem cells29' : Try.prog.cellsOf 29 = 6 := by kernel_rfl
section
variable {H : Type} {enc : TypeId × Value → H} {W : World}
theorem tr_op {cs : List Value} {d : DataW H} (h : Tr enc Try.prog W 29 cs d) : ∃ o : OpR, cs = o.cells ∧ o.Ok W := by
  obtain ⟨ds, rfl, hlen, hds, hf⟩ := tr_struct Try.underlying29 h
  rw [cells29'] at hlen
  match cs, hlen with
  | [c0, c1, c2, c3, c4, c5], _ =>
    obtain ⟨e0, _, h0⟩ := hf 0 _ rfl
    obtain ⟨e1, _, h1⟩ := hf 1 _ rfl
    obtain ⟨e2, _, h2⟩ := hf 2 _ rfl
    obtain ⟨e3, _, h3⟩ := hf 3 _ rfl
    obtain ⟨e4, _, h4⟩ := hf 4 _ rfl
    obtain ⟨e5, _, h5⟩ := hf 5 _ rfl
    have h0 := tr_field h0 cells3' rfl
    have h1 := tr_field h1 cells3' rfl
    have h2 := tr_field h2 cells2' rfl
    have h3 := tr_field h3 cells3' rfl
    have h4 := tr_field h4 cells2' rfl
    have h5 := tr_field h5 cells22' rfl
    obtain ⟨n0, q0, _, w0⟩ := tr_int Try.underlying3 h0
    obtain ⟨n1, q1, _, w1⟩ := tr_int Try.underlying3 h1
    obtain ⟨n2, q2, _, w2⟩ := tr_int Try.underlying2 h2
    obtain ⟨n3, q3, _, w3⟩ := tr_int Try.underlying3 h3
    obtain ⟨n4, q4, _, w4⟩ := tr_int Try.underlying2 h4
    obtain ⟨A, xs, cap, q5, hc1, hc2, hc3, _, _⟩ := tr_ints Try.underlying22 Try.underlying2 cells2' h5
    simp only [List.cons.injEq, and_true] at q0 q1 q2 q3 q4 q5
    subst q0 q1 q2 q3 q4 q5
    exact ⟨⟨n0, n1, n2, n3, n4, A, xs, cap⟩, rfl, ⟨wf_i64 w2, wf_i64 w4, wf_i64 w3, hc1, hc2, hc3⟩⟩
theorem tr_ops {cs : List Value} {d : DataW H} (h : Tr enc Try.prog W 23 cs d) : ∃ (S : Option Addr) (os : List OpR) (cap : Nat), cs = [.slice S os.length cap] ∧ os.length ≤ cap ∧ cap ≤ maxLen ∧ Ops W S os := by
  obtain ⟨S, ess, ds, cap, h1, h2, h3, h4, h5, h6, h7⟩ := tr_slice Try.underlying23 cells29' h
  obtain ⟨os, hos, hd⟩ := tr_list (fun o : OpR => o.cells) (fun o d' => o.Ok W) ess ds h4 (fun i es hi => by
    obtain ⟨_, d', hd', htr⟩ := h5 i es hi
    obtain ⟨o, ho1, ho2⟩ := tr_op htr
    exact ⟨d', hd', o, ho1, ho2⟩)
  subst hos
  simp only [List.length_map] at h1 h2 h4
  refine ⟨S, os, cap, h1, h2, h3, fun i o ho => ?_⟩
  obtain ⟨d', _, hok⟩ := hd i o ho
  have hes : (os.map fun o : OpR => o.cells)[i]? = some o.cells := by simp [ho]
  obtain ⟨ad, ha, _⟩ := h6 i 0 _ _ hes rfl
  refine ⟨hok, ad, ha, fun j v hj => ?_⟩
  obtain ⟨ad', ha', hc⟩ := h6 i j v _ hes hj
  rw [ha] at ha'
  cases ha'
  exact ⟨_, rfl, by rw [add_add]; exact hc⟩
end
theorem own' : ownKnob Try.prog.godebug = none := by kernel_rfl
theorem laidOut' : laidOutB Try.prog = true := by kernel_rfl
theorem readable : ∀ t ∈ [2, 3, 22, 23], Try.prog.readableRec t = true ∧ t < Try.prog.types.size := by
  intro t ht
  simp at ht
  rcases ht with rfl | rfl | rfl | rfl
  · exact ⟨by kernel_rfl, of_decide_eq_true (by kernel_rfl)⟩
  · exact ⟨by kernel_rfl, of_decide_eq_true (by kernel_rfl)⟩
  · exact ⟨by kernel_rfl, of_decide_eq_true (by kernel_rfl)⟩
  · exact ⟨by kernel_rfl, of_decide_eq_true (by kernel_rfl)⟩
end Go.Proofs.Ytbllpojljdhnoaa
