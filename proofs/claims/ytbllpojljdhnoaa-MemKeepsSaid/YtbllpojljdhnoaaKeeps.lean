/- MemKeeps holds, for every input: whatever Store and Write are called with, the words below fixed stay, a call that answers false changes nothing, one that answers true has changed just the words that it names to what it was handed; all arguments are left as they were. -/
import Derived.Test.YtbllpojljdhnoaaOp
set_option linter.unusedVariables false
set_option linter.unusedSimpArgs false
namespace Go.Proofs.Ytbllpojljdhnoaa
open Go.ChangeShapes Go.WideShapes Go.ChangeAt Go.RowKit

theorem keeps_any (words fixed : Int) (A S : Option Addr) (cap sc : Nat) (xs : List Int) (os : List OpR) (w : World) (hl : xs.length ≤ 9223372036854775807) (hx : Cl w A (ints xs)) (hs : Ops w S os) (hsm : os.length ≤ 9223372036854775807) :
    Calls Try.prog 3 #[.int .i64 words, .slice A xs.length cap, .int .i64 fixed, .slice S os.length sc] w fun e w' => e = .returned (.bool true) ∧ Ch No w w' := by
  by_cases h : words < 0 ∨ 4096 < words ∨ words < xs.length
  · exact keeps_1 words fixed A S xs.length cap os.length sc w hl h
  · obtain ⟨m, rfl⟩ := Int.eq_ofNat_of_zero_le (show 0 ≤ words by omega)
    exact keeps_2 m fixed A S cap sc xs os w (by omega) (by omega) hx hs hsm

set_option maxRecDepth 100000 in
theorem keeps_lifted (os : Os) (started : os.Started) (H : Type) (enc : TypeId × Value → H) :
    ReturnsInHanded {} Try.checked os 3 .any (Rows.memKeepsSpec.pre6 enc Try.prog Try.f3 Rows.memKeepsRow.domain false) (Rows.memKeepsSpec.post enc Try.prog Try.f3 false true false false) := by
  refine returnsInHanded_of_change_sized (C := Try.checked) own' started (by kernel_rfl) Try.func3
    (ChangeSpec.witness6 (enc := enc) (C := Try.checked) false ⟨#[], #[.int .i64 0, .slice none 0 0, .int .i64 0, .slice none 0 0], []⟩ 8 (by kernel_rfl) (by kernel_rfl) (by kernel_rfl) (by kernel_rfl)) ?_
  intro W base args ds gs before hval0 hW _ _ _
  have hval : ∀ (j : Nat) t v, Try.f3.params[j]? = some t → args[j]? = some v → Value.okWide Try.prog W .any base t v := hval0
  have hW' := hW
  obtain ⟨p, q, hA0, hV, rfl, _, _⟩ := hW
  have hA : DataW.TrodAll enc Try.prog W 0 (fun _ => true) true Try.f3.params.toList args.toList ds p := hA0
  rw [Try.params3] at hA hval
  obtain ⟨v0, v1, v2, v3, d0, d1, d2, d3, p0, p1, p2, p3, hargs, rfl, rfl, h0, h1, h2, h3⟩ := trodAll_four hA
  obtain rfl : args = #[v0, v1, v2, v3] := by cases args; simp_all
  obtain ⟨rfl, _⟩ := trodVars_none hV
  obtain ⟨x0, rfl, rfl, rfl, w0⟩ := open_int Try.underlying3 (hval 0 3 v0 rfl rfl) h0
  obtain ⟨a1, l1, k1, rfl⟩ := okWide_slice Try.underlying22 (hval 1 22 v1 rfl rfl)
  obtain ⟨A, xs, cap, e1, hc, hm, hx, _, _⟩ := tr_ints Try.underlying22 Try.underlying2 cells2' (tr_of h1)
  obtain ⟨x2, rfl, rfl, rfl, w2⟩ := open_int Try.underlying3 (hval 2 3 v2 rfl rfl) h2
  obtain ⟨a3, l3, k3, rfl⟩ := okWide_slice Try.underlying23 (hval 3 23 v3 rfl rfl)
  obtain ⟨S, sc, scap, e3, hc3, hm3, hs⟩ := tr_ops (tr_of h3)
  simp only [Value.cells, List.cons.injEq, and_true] at e1 e3
  rw [e1, e3] at hW' ⊢
  have hxl : xs.length ≤ 9223372036854775807 := by unfold maxLen at hm; omega
  have hsl : sc.length ≤ 9223372036854775807 := by unfold maxLen at hm3; omega
  refine (keeps_any x0 x2 A S cap scap xs sc W hxl hx hs hsl).mono fun e W' ⟨he, hch⟩ => ?_
  subst he
  exact ⟨_, rfl, post_law laidOut' (fun t ht => readable t (by rw [Try.params3] at ht; simp at ht; rcases ht with rfl | rfl | rfl | rfl <;> simp)) rfl Try.underlying4 rfl hW' rfl rfl rfl hch⟩

theorem memKeeps_holds : Rows.MemKeepsSaid :=
  OpenClaim.holds_of_wide 3 Try.f3 rfl rfl rfl rfl rfl rfl rfl ⟨rfl, rfl, rfl, rfl, rfl⟩ rfl rfl rfl rfl rfl (by kernel_rfl) Try.func3 (by kernel_rfl)
    (of_decide_eq_true (by kernel_rfl)) (by unfold Func.isWrapper; first | (rw [if_pos (by decide +kernel)]; kernel_rfl) | (rw [if_neg (by decide +kernel)]; exact ⟨rfl, rfl⟩))
    (fun os started H enc _ => keeps_lifted os started H enc)
end Go.Proofs.Ytbllpojljdhnoaa
