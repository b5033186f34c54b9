/- Ports and scripts, opened: what their cells read as. -/
import Derived.Test.YtlokpcbiomjcnaaLast
import Derived.Test.YtlokpcbiomjcnaaE21
set_option linter.unusedVariables false
set_option linter.unusedSimpArgs false
namespace Go.Proofs.Ytlokpcbiomjcnaa
open Go.ChangeShapes Go.WideShapes Go.ChangeAt Go.RowKit
theorem cells3' : Try.prog.cellsOf 3 = 1 := by kernel_rfl
theorem cells4' : Try.prog.cellsOf 4 = 1 := by kernel_rfl
theorem cells32' : Try.prog.cellsOf 32 = 1 := by kernel_rfl
theorem cells46' : Try.prog.cellsOf 46 = 6 := by kernel_rfl
theorem cells57' : Try.prog.cellsOf 57 = 6 := by kernel_rfl
section
variable {H : Type} {enc : TypeId × Value → H} {W : World}
set_option maxRecDepth 100000 in
theorem tr_port {cs : List Value} {d : DataW H} (h : Tr enc Try.prog W 46 cs d) : ∃ p : Pt, cs = p.cells := by
  obtain ⟨ds, rfl, hlen, hds, hf⟩ := tr_struct Try.underlying46 h
  rw [cells46'] at hlen
  match cs, hlen with
  | [c0, c1, c2, c3, c4, c5], _ =>
    obtain ⟨e0, _, h0⟩ := hf 0 _ rfl
    obtain ⟨e1, _, h1⟩ := hf 1 _ rfl
    obtain ⟨e2, _, h2⟩ := hf 2 _ rfl
    obtain ⟨e3, _, h3⟩ := hf 3 _ rfl
    obtain ⟨e4, _, h4⟩ := hf 4 _ rfl
    obtain ⟨e5, _, h5⟩ := hf 5 _ rfl
    obtain ⟨n0, q0, _, w0⟩ := tr_int Try.underlying3 (tr_field h0 cells3' rfl)
    obtain ⟨n1, q1, _, w1⟩ := tr_int Try.underlying3 (tr_field h1 cells3' rfl)
    obtain ⟨b2, q2, _⟩ := tr_bool Try.underlying4 (tr_field h2 cells4' rfl)
    obtain ⟨n3, q3, _, w3⟩ := tr_int Try.underlying3 (tr_field h3 cells3' rfl)
    obtain ⟨n4, q4, _, w4⟩ := tr_int Try.underlying3 (tr_field h4 cells3' rfl)
    obtain ⟨n5, q5, _, w5⟩ := tr_int Try.underlying3 (tr_field h5 cells3' rfl)
    simp only [List.cons.injEq, and_true] at q0 q1 q2 q3 q4 q5
    subst q0 q1 q2 q3 q4 q5
    exact ⟨⟨n0, n1, b2, n3, n4, n5⟩, rfl⟩
theorem tr_pts {cs : List Value} {d : DataW H} (h : Tr enc Try.prog W 22 cs d) : ∃ (A : Option Addr) (ps : List Pt) (cap : Nat), cs = [.slice A ps.length cap] ∧ ps.length ≤ cap ∧ cap ≤ maxLen ∧ Pts W A ps := by
  obtain ⟨S, ess, ds, cap, h1, h2, h3, h4, h5, h6, h7⟩ := tr_slice Try.underlying22 cells46' h
  obtain ⟨ps, hos, hd⟩ := tr_list (fun p : Pt => p.cells) (fun _ _ => True) ess ds h4 (fun i es hi => by
    obtain ⟨_, d', hd', htr⟩ := h5 i es hi
    obtain ⟨p, hp⟩ := tr_port htr
    exact ⟨d', hd', p, hp, trivial⟩)
  subst hos
  simp only [List.length_map] at h1 h2 h4
  refine ⟨S, ps, cap, h1, h2, h3, fun i p hp => ?_⟩
  have hes : (ps.map fun p : Pt => p.cells)[i]? = some p.cells := by simp [hp]
  obtain ⟨ad, ha, _⟩ := h6 i 0 _ _ hes rfl
  refine ⟨ad, ha, fun j v hj => ?_⟩
  obtain ⟨ad', ha', hc⟩ := h6 i j v _ hes hj
  rw [ha] at ha'
  cases ha'
  exact ⟨_, rfl, by rw [add_add]; exact hc⟩
set_option maxRecDepth 100000 in
theorem tr_op {cs : List Value} {d : DataW H} (h : Tr enc Try.prog W 57 cs d) : ∃ o : OpR, cs = o.cells ∧ o.Ok W := by
  obtain ⟨ds, rfl, hlen, hds, hf⟩ := tr_struct Try.underlying57 h
  rw [cells57'] at hlen
  match cs, hlen with
  | [c0, c1, c2, c3, c4, c5], _ =>
    obtain ⟨e0, _, h0⟩ := hf 0 _ rfl
    obtain ⟨e1, _, h1⟩ := hf 1 _ rfl
    obtain ⟨e2, _, h2⟩ := hf 2 _ rfl
    obtain ⟨e3, _, h3⟩ := hf 3 _ rfl
    obtain ⟨e4, _, h4⟩ := hf 4 _ rfl
    obtain ⟨e5, _, h5⟩ := hf 5 _ rfl
    obtain ⟨n0, q0, _, w0⟩ := tr_int Try.underlying3 (tr_field h0 cells3' rfl)
    obtain ⟨n1, q1, _, w1⟩ := tr_int Try.underlying3 (tr_field h1 cells3' rfl)
    obtain ⟨A, xs, cap, q2, hc1, hc2, hc3, _, _⟩ := tr_ints Try.underlying32 Try.underlying2 cells2' (tr_field h2 cells32' rfl)
    obtain ⟨n3, q3, _, w3⟩ := tr_int Try.underlying3 (tr_field h3 cells3' rfl)
    obtain ⟨n4, q4, _, w4⟩ := tr_int Try.underlying3 (tr_field h4 cells3' rfl)
    obtain ⟨b5, q5, _⟩ := tr_bool Try.underlying4 (tr_field h5 cells4' rfl)
    simp only [List.cons.injEq, and_true] at q0 q1 q2 q3 q4 q5
    subst q0 q1 q2 q3 q4 q5
    exact ⟨⟨n0, n1, A, xs, cap, n3, n4, b5⟩, rfl, ⟨wf_i64 w0, wf_i64 w1, wf_i64 w3, wf_i64 w4, hc1, hc2, hc3⟩⟩
theorem tr_ops {cs : List Value} {d : DataW H} (h : Tr enc Try.prog W 53 cs d) : ∃ (S : Option Addr) (os : List OpR) (cap : Nat), cs = [.slice S os.length cap] ∧ os.length ≤ cap ∧ cap ≤ maxLen ∧ Ops W S os := by
  obtain ⟨S, ess, ds, cap, h1, h2, h3, h4, h5, h6, h7⟩ := tr_slice Try.underlying53 cells57' h
  obtain ⟨os, hos, hd⟩ := tr_list (fun o : OpR => o.cells) (fun o d' => o.Ok W) ess ds h4 (fun i es hi => by
    obtain ⟨_, d', hd', htr⟩ := h5 i es hi
    obtain ⟨o, ho1, ho2⟩ := tr_op htr
    exact ⟨d', hd', o, ho1, ho2⟩)
  subst hos
  simp only [List.length_map] at h1 h2 h4
  refine ⟨S, os, cap, h1, h2, h3, fun i o ho => ?_⟩
  obtain ⟨d', _, hok⟩ := hd i o ho
  have hes : (os.map fun o : OpR => o.cells)[i]? = some o.cells := by simp [ho]
  obtain ⟨ad, ha, _⟩ := h6 i 0 _ _ hes rfl
  refine ⟨hok, ad, ha, fun j v hj => ?_⟩
  obtain ⟨ad', ha', hc⟩ := h6 i j v _ hes hj
  rw [ha] at ha'
  cases ha'
  exact ⟨_, rfl, by rw [add_add]; exact hc⟩
end
theorem readable2 : ∀ t ∈ [22, 5, 53], Try.prog.readableRec t = true ∧ t < Try.prog.types.size := by
  intro t ht
  simp at ht
  rcases ht with rfl | rfl | rfl
  · exact ⟨by kernel_rfl, of_decide_eq_true (by kernel_rfl)⟩
  · exact ⟨by kernel_rfl, of_decide_eq_true (by kernel_rfl)⟩
  · exact ⟨by kernel_rfl, of_decide_eq_true (by kernel_rfl)⟩
end Go.Proofs.Ytlokpcbiomjcnaa
