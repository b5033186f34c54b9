/- ObjectsFlow holds, for every input: what comes out of a buffer is what was put in, in that order, each once, and what is left is there still; a semaphore's number is what was given less what was taken; the arguments are left as they were. -/
import Derived.Test.YtifieahnnklgcaaOp
set_option linter.unusedVariables false
set_option linter.unusedSimpArgs false
namespace Go.Proofs.Ytifieahnnklgcaa
open Go.ChangeShapes Go.WideShapes Go.ChangeAt Go.RowKit
theorem flow_any (size depth start most : Int) (S : Option Addr) (os : List OpR) (sc : Nat) (w : World) (hs : Opl w S os) (hsm : os.length ≤ 9223372036854775807) (hm : most ≤ 9223372036854775807) :
    Calls Try.prog 4 #[.int .i64 size, .int .i64 depth, .int .i64 start, .int .i64 most, .slice S os.length sc] w fun e w' => e = .returned (.bool true) ∧ Ch No w w' := by
  by_cases h : size < 0 ∨ 64 < size ∨ depth < 0 ∨ 64 < depth ∨ most < 1 ∨ start < 0 ∨ most < start ∨ 300 < os.length
  · refine (flow_out size depth start most S os.length sc w hsm h).mono ?_
    rintro e w' ⟨rfl, rfl⟩
    exact ⟨rfl, Ch.refl _ _⟩
  · exact flow_in size depth start most S os sc w hs (by omega) (by omega) (by omega) (by omega) (by omega)
set_option maxRecDepth 100000 in
theorem objectsFlow_lifted (os : Os) (started : os.Started) (H : Type) (enc : TypeId × Value → H) :
    ReturnsInHanded {} Try.checked os 4 .any (Rows.objectsFlowSpec.pre6 enc Try.prog Try.f4 Rows.objectsFlowRow.domain false) (Rows.objectsFlowSpec.post enc Try.prog Try.f4 false true false false) := by
  refine returnsInHanded_of_change_sized (C := Try.checked) own' started (by kernel_rfl) Try.func4
    (ChangeSpec.witness6 (enc := enc) (C := Try.checked) false ⟨#[], #[.int .i64 0, .int .i64 0, .int .i64 0, .int .i64 0, .slice none 0 0], []⟩ 8 (by kernel_rfl) (by kernel_rfl) (by kernel_rfl) (by kernel_rfl)) ?_
  intro W base args ds gs before hval0 hW _ _ _
  have hval : ∀ (j : Nat) t v, Try.f4.params[j]? = some t → args[j]? = some v → Value.okWide Try.prog W .any base t v := hval0
  have hW' := hW
  obtain ⟨p, q, hA0, hV, rfl, _, _⟩ := hW
  have hA : DataW.TrodAll enc Try.prog W 0 (fun _ => true) true Try.f4.params.toList args.toList ds p := hA0
  rw [Try.params4] at hA hval
  obtain ⟨v0, v1, v2, v3, v4, d0, d1, d2, d3, d4, p0, p1, p2, p3, p4, hargs, rfl, rfl, h0, h1, h2, h3, h4⟩ := trodAll_five hA
  obtain rfl : args = #[v0, v1, v2, v3, v4] := by cases args; simp_all
  obtain ⟨rfl, _⟩ := trodVars_none hV
  obtain ⟨x0, rfl, rfl, rfl, w0⟩ := open_int Try.underlying3 (hval 0 3 v0 rfl rfl) h0
  obtain ⟨x1, rfl, rfl, rfl, w1⟩ := open_int Try.underlying3 (hval 1 3 v1 rfl rfl) h1
  obtain ⟨x2, rfl, rfl, rfl, w2⟩ := open_int Try.underlying3 (hval 2 3 v2 rfl rfl) h2
  obtain ⟨x3, rfl, rfl, rfl, w3⟩ := open_int Try.underlying3 (hval 3 3 v3 rfl rfl) h3
  obtain ⟨a4, l4, k4, rfl⟩ := okWide_slice Try.underlying53 (hval 4 53 v4 rfl rfl)
  obtain ⟨S, sc, scap, e4, hc4, hm4, hs⟩ := tr_ops (tr_of h4)
  simp only [Value.cells, List.cons.injEq, and_true] at e4
  rw [e4] at hW' ⊢
  have hsl : sc.length ≤ 9223372036854775807 := by unfold maxLen at hm4; omega
  refine (flow_any x0 x1 x2 x3 S sc scap W hs hsl (wf_i64 w3).2).mono fun e W' ⟨he, hch⟩ => ?_
  subst he
  exact ⟨_, rfl, post_law laidOut' (fun t ht => readable t (by rw [Try.params4] at ht; simp at ht; rcases ht with rfl | rfl | rfl | rfl | rfl <;> simp)) rfl Try.underlying4 rfl hW' rfl rfl rfl hch⟩

theorem objectsFlow_holds : Rows.ObjectsFlowSaid :=
  OpenClaim.holds_of_wide 4 Try.f4 rfl rfl rfl rfl rfl rfl rfl ⟨rfl, rfl, rfl, rfl, rfl⟩ rfl rfl rfl rfl rfl (by kernel_rfl) Try.func4 (by kernel_rfl)
    (of_decide_eq_true (by kernel_rfl)) (by unfold Func.isWrapper; first | (rw [if_pos (by decide +kernel)]; kernel_rfl) | (rw [if_neg (by decide +kernel)]; exact ⟨rfl, rfl⟩))
    (fun os started H enc _ => objectsFlow_lifted os started H enc)
end Go.Proofs.Ytifieahnnklgcaa
