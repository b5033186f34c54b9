/- ReadyExact holds, for every input: along any script of calls the line answers as the document's line does, and its whole list is the document's behind each call; the arguments are left as they were. -/
import Derived.Test.YtbcnkggecgblbaaOp
import Derived.Test.YtbcnkggecgblbaaE9
set_option linter.unusedVariables false
set_option linter.unusedSimpArgs false
namespace Go.Proofs.Ytbcnkggecgblbaa
open Go.ChangeShapes Go.WideShapes Go.ChangeAt Go.RowKit
theorem exact_any (n : Int) (S : Option Addr) (os : List OpR) (sc : Nat) (w : World) (hs : Opl w S os) (hsm : os.length ≤ maxLen) :
    Calls Try.prog 3 #[.int .i64 n, .slice S os.length sc] w fun e w' => e = .returned (.bool true) ∧ Ch No w w' := by
  by_cases h : n < 0 ∨ 65535 < n
  · exact exact_bad n S os.length sc w h
  · exact exact_ok n S os sc w (by omega) (by omega) hs (by unfold maxLen at hsm; omega)
set_option maxRecDepth 100000 in
theorem readyExact_lifted (os : Os) (started : os.Started) (H : Type) (enc : TypeId × Value → H) :
    ReturnsInHanded {} Try.checked os 3 .any (Rows.readyExactSpec.pre6 enc Try.prog Try.f3 Rows.readyExactRow.domain false) (Rows.readyExactSpec.post enc Try.prog Try.f3 false true false false) := by
  refine returnsInHanded_of_change_sized (C := Try.checked) own' started (by kernel_rfl) Try.func3
    (ChangeSpec.witness6 (enc := enc) (C := Try.checked) false ⟨#[], #[.int .i64 0, .slice none 0 0], []⟩ 8 (by kernel_rfl) (by kernel_rfl) (by kernel_rfl) (by kernel_rfl)) ?_
  intro W base args ds gs before hval0 hW _ _ _
  have hval : ∀ (j : Nat) t v, Try.f3.params[j]? = some t → args[j]? = some v → Value.okWide Try.prog W .any base t v := hval0
  have hW' := hW
  obtain ⟨p, q, hA0, hV, rfl, _, _⟩ := hW
  have hA : DataW.TrodAll enc Try.prog W 0 (fun _ => true) true Try.f3.params.toList args.toList ds p := hA0
  rw [Try.params3] at hA hval
  obtain ⟨v0, v1, d0, d1, p0, p1, hargs, rfl, rfl, h0, h1⟩ := trodAll_two hA
  obtain rfl : args = #[v0, v1] := by cases args; simp_all
  obtain ⟨rfl, _⟩ := trodVars_none hV
  obtain ⟨x0, rfl, rfl, rfl, w0⟩ := open_int Try.underlying3 (hval 0 3 v0 rfl rfl) h0
  obtain ⟨a1, l1, k1, rfl⟩ := okWide_slice Try.underlying22 (hval 1 22 v1 rfl rfl)
  obtain ⟨S, sc, scap, e3, hc3, hm3, hs⟩ := tr_ops (tr_of h1)
  simp only [Value.cells, List.cons.injEq, and_true] at e3
  rw [e3] at hW' ⊢
  have hsl : sc.length ≤ maxLen := by omega
  refine (exact_any x0 S sc scap W hs hsl).mono fun e W' ⟨he, hch⟩ => ?_
  subst he
  exact ⟨_, rfl, post_law laidOut' (fun t ht => readable t (by rw [Try.params3] at ht; simp at ht; rcases ht with rfl | rfl <;> simp)) rfl Try.underlying4 rfl hW' rfl rfl rfl hch⟩

theorem readyExact_holds : Rows.ReadyExactSaid :=
  OpenClaim.holds_of_wide 3 Try.f3 rfl rfl rfl rfl rfl rfl rfl ⟨rfl, rfl, rfl, rfl, rfl⟩ rfl rfl rfl rfl rfl (by kernel_rfl) Try.func3 (by kernel_rfl)
    (of_decide_eq_true (by kernel_rfl)) (by unfold Func.isWrapper; first | (rw [if_pos (by decide +kernel)]; kernel_rfl) | (rw [if_neg (by decide +kernel)]; exact ⟨rfl, rfl⟩))
    (fun os started H enc _ => readyExact_lifted os started H enc)
end Go.Proofs.Ytbcnkggecgblbaa
