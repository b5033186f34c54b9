/- A script, opened: the calls that its cells read as; what the rows of this seat share. -/
import Derived.Test.YtifieahnnklgcaaC9
import Derived.Test.YtifieahnnklgcaaL
import Derived.Test.YtifieahnnklgcaaO
set_option linter.unusedVariables false
set_option linter.unusedSimpArgs false
namespace Go.Proofs.Ytifieahnnklgcaa
open Go.ChangeShapes Go.WideShapes Go.ChangeAt Go.RowKit
theorem cells2' : Try.prog.cellsOf 2 = 1 := by kernel_rfl
theorem cells3' : Try.prog.cellsOf 3 = 1 := by kernel_rfl
theorem cells4' : Try.prog.cellsOf 4 = 1 := by kernel_rfl
theorem cells24' : Try.prog.cellsOf 24 = 1 := by kernel_rfl
theorem cells61' : Try.prog.cellsOf 61 = 5 := by kernel_rfl
section
variable {H : Type} {enc : TypeId × Value → H} {W : World}
set_option maxRecDepth 100000 in
theorem tr_op {cs : List Value} {d : DataW H} (h : Tr enc Try.prog W 61 cs d) : ∃ o : OpR, cs = o.cells ∧ Cl W o.A (ints o.xs) ∧ o.xs.length ≤ 9223372036854775807 := by
  obtain ⟨ds, rfl, hlen, hds, hf⟩ := tr_struct Try.underlying61 h
  rw [cells61'] at hlen
  match cs, hlen with
  | [c0, c1, c2, c3, c4], _ =>
    obtain ⟨e0, _, h0⟩ := hf 0 _ rfl
    obtain ⟨e1, _, h1⟩ := hf 1 _ rfl
    obtain ⟨e2, _, h2⟩ := hf 2 _ rfl
    obtain ⟨e3, _, h3⟩ := hf 3 _ rfl
    obtain ⟨e4, _, h4⟩ := hf 4 _ rfl
    have h0 := tr_field h0 cells3' rfl
    have h1 := tr_field h1 cells4' rfl
    have h2 := tr_field h2 cells3' rfl
    have h3 := tr_field h3 cells4' rfl
    have h4 := tr_field h4 cells24' rfl
    obtain ⟨n0, q0, _, w0⟩ := tr_int Try.underlying3 h0
    obtain ⟨b1, q1, _⟩ := tr_bool Try.underlying4 h1
    obtain ⟨n2, q2, _, w2⟩ := tr_int Try.underlying3 h2
    obtain ⟨b3, q3, _⟩ := tr_bool Try.underlying4 h3
    obtain ⟨A, xs, cap, q4, hc1, hc2, hc3, _, _⟩ := tr_ints Try.underlying24 Try.underlying2 cells2' h4
    simp only [List.cons.injEq, and_true] at q0 q1 q2 q3 q4
    subst q0 q1 q2 q3 q4
    exact ⟨⟨n0, b1, n2, b3, A, xs, cap⟩, rfl, hc3, by unfold maxLen at hc2; show xs.length ≤ _; omega⟩
theorem tr_ops {cs : List Value} {d : DataW H} (h : Tr enc Try.prog W 53 cs d) : ∃ (S : Option Addr) (os : List OpR) (cap : Nat), cs = [.slice S os.length cap] ∧ os.length ≤ cap ∧ cap ≤ maxLen ∧ Opl W S os := by
  obtain ⟨S, ess, ds, cap, h1, h2, h3, h4, h5, h6, h7⟩ := tr_slice Try.underlying53 cells61' h
  obtain ⟨os, hos, hd⟩ := tr_list (fun o : OpR => o.cells) (fun o d' => Cl W o.A (ints o.xs) ∧ o.xs.length ≤ 9223372036854775807) ess ds h4 (fun i es hi => by
    obtain ⟨_, d', hd', htr⟩ := h5 i es hi
    obtain ⟨o, ho1, ho2⟩ := tr_op htr
    exact ⟨d', hd', o, ho1, ho2⟩)
  subst hos
  simp only [List.length_map] at h1 h2 h4
  refine ⟨S, os, cap, h1, h2, h3, fun i o ho => ?_⟩
  obtain ⟨d', _, hok⟩ := hd i o ho
  have hes : (os.map fun o : OpR => o.cells)[i]? = some o.cells := by simp [ho]
  obtain ⟨ad, ha, _⟩ := h6 i 0 _ _ hes rfl
  refine ⟨⟨ad, ha, fun j v hj => ?_⟩, hok.1, hok.2⟩
  obtain ⟨ad', ha', hc⟩ := h6 i j v _ hes hj
  rw [ha] at ha'
  cases ha'
  exact ⟨_, rfl, by rw [add_add]; exact hc⟩
end
theorem trodAll_five {H : Type} {enc : TypeId × Value → H} {P : Program} {w : World} {base : Nat} {spare : Nat → Bool} {held : Bool} {t t' t'' t3 t4 : TypeId} {args : Array Value} {ds : List (DataW H)} {ps : List MemPlace} (h : DataW.TrodAll enc P w base spare held [t, t', t'', t3, t4] args.toList ds ps) :
    ∃ v v' v'' v3 v4 d d' d'' d3 d4 p p' p'' p3 p4, args = #[v, v', v'', v3, v4] ∧ ds = [d, d', d'', d3, d4] ∧ ps = p ++ p' ++ p'' ++ p3 ++ p4 ∧ DataW.Trod enc P w base spare held t v d p ∧ DataW.Trod enc P w base spare held t' v' d' p' ∧ DataW.Trod enc P w base spare held t'' v'' d'' p'' ∧ DataW.Trod enc P w base spare held t3 v3 d3 p3 ∧ DataW.Trod enc P w base spare held t4 v4 d4 p4 := by
  obtain ⟨v, vs, d, ds', p, q, hargs, rfl, rfl, hd, hrest⟩ := trodAll_cons h
  obtain ⟨v', vs', d', ds'', p', q', rfl, rfl, rfl, hd', hrest'⟩ := trodAll_cons hrest
  obtain ⟨v'', vs'', d'', ds''', p'', q'', rfl, rfl, rfl, hd'', hrest''⟩ := trodAll_cons hrest'
  obtain ⟨v3, vs3, d3, ds3, p3, q3, rfl, rfl, rfl, hd3, hrest3⟩ := trodAll_cons hrest''
  obtain ⟨v4, vs4, d4, ds4, p4, q4, rfl, rfl, rfl, hd4, hrest4⟩ := trodAll_cons hrest3
  obtain ⟨rfl, rfl, rfl⟩ := trodAll_nil hrest4
  exact ⟨v, v', v'', v3, v4, d, d', d'', d3, d4, p, p', p'', p3, p4, by cases args; simp_all, rfl, by simp, hd, hd', hd'', hd3, hd4⟩
theorem own' : ownKnob Try.prog.godebug = none := by kernel_rfl
theorem laidOut' : laidOutB Try.prog = true := by kernel_rfl
theorem readable : ∀ t ∈ [3, 53], Try.prog.readableRec t = true ∧ t < Try.prog.types.size := by
  intro t ht
  simp at ht
  rcases ht with rfl | rfl
  · exact ⟨by kernel_rfl, of_decide_eq_true (by kernel_rfl)⟩
  · exact ⟨by kernel_rfl, of_decide_eq_true (by kernel_rfl)⟩
end Go.Proofs.Ytifieahnnklgcaa
