/- PortInOrder holds, for every input: of any script of Push, Pop, Lose and Set on the ports of a partition of any image, each queue gives out what was laid in, in order, each message once; Push is taken just if fewer than Depth messages wait; Count is how many wait, and how many were lost; the other ports are not touched; all arguments are left as they were. -/
import Derived.Test.YtlokpcbiomjcnaaOp
import Derived.Test.YtlokpcbiomjcnaaE27
set_option linter.unusedVariables false
set_option linter.unusedSimpArgs false
namespace Go.Proofs.Ytlokpcbiomjcnaa
open Go.ChangeShapes Go.WideShapes Go.ChangeAt Go.RowKit
set_option maxRecDepth 100000 in
theorem order_lifted (os : Os) (started : os.Started) (H : Type) (enc : TypeId × Value → H) :
    ReturnsInHanded {} Try.checked os 5 .any (Rows.portInOrderSpec.pre6 enc Try.prog Try.f5 Rows.portInOrderRow.domain false) (Rows.portInOrderSpec.post enc Try.prog Try.f5 false true false false) := by
  refine returnsInHanded_of_change_sized (C := Try.checked) own' started (by kernel_rfl) Try.func5
    (ChangeSpec.witness6 (enc := enc) (C := Try.checked) false ⟨#[], #[.slice none 0 0, .int .u8 0, .slice none 0 0], []⟩ 8 (by kernel_rfl) (by kernel_rfl) (by kernel_rfl) (by kernel_rfl)) ?_
  intro W base args ds gs before hval0 hW _ _ _
  have hval : ∀ (j : Nat) t v, Try.f5.params[j]? = some t → args[j]? = some v → Value.okWide Try.prog W .any base t v := hval0
  have hW' := hW
  obtain ⟨p, q, hA0, hV, rfl, _, _⟩ := hW
  have hA : DataW.TrodAll enc Try.prog W 0 (fun _ => true) true Try.f5.params.toList args.toList ds p := hA0
  rw [Try.params5] at hA hval
  obtain ⟨v0, v1, v2, d0, d1, d2, p0, p1, p2, hargs, rfl, rfl, h0, h1, h2⟩ := trodAll_three hA
  obtain rfl : args = #[v0, v1, v2] := by cases args; simp_all
  obtain ⟨rfl, _⟩ := trodVars_none hV
  obtain ⟨a0, l0, k0, rfl⟩ := okWide_slice Try.underlying22 (hval 0 22 v0 rfl rfl)
  obtain ⟨A, ps, cap, e0, hc0, hm0, hp⟩ := tr_pts (tr_of h0)
  obtain ⟨x1, rfl, rfl, rfl, w1⟩ := open_int Try.underlying5 (hval 1 5 v1 rfl rfl) h1
  obtain ⟨a2, l2, k2, rfl⟩ := okWide_slice Try.underlying53 (hval 2 53 v2 rfl rfl)
  obtain ⟨S, sc, scap, e2, hc2, hm2, hs⟩ := tr_ops (tr_of h2)
  simp only [Value.cells, List.cons.injEq, and_true] at e0 e2
  rw [e0, e2] at hW' ⊢
  have hpl : ps.length ≤ 9223372036854775807 := by unfold maxLen at hm0; omega
  have hsl : sc.length ≤ 9223372036854775807 := by unfold maxLen at hm2; omega
  obtain ⟨b0, b1⟩ := wf_u8 w1
  refine (inorder_walk (c := cap) (sc := scap) rfl hpl hp x1 b0 b1 hs hsl).mono fun e W' ⟨he, hch⟩ => ?_
  subst he
  exact ⟨_, rfl, post_law laidOut' (fun t ht => readable2 t (by rw [Try.params5] at ht; simp at ht; rcases ht with rfl | rfl | rfl <;> simp)) rfl Try.underlying4 rfl hW' rfl rfl rfl hch⟩
theorem portInOrder_holds : Rows.PortInOrderSaid :=
  OpenClaim.holds_of_wide 5 Try.f5 rfl rfl rfl rfl rfl rfl rfl ⟨rfl, rfl, rfl, rfl, rfl⟩ rfl rfl rfl rfl rfl (by kernel_rfl) Try.func5 (by kernel_rfl)
    (of_decide_eq_true (by kernel_rfl)) (by unfold Func.isWrapper; first | (rw [if_pos (by decide +kernel)]; kernel_rfl) | (rw [if_neg (by decide +kernel)]; exact ⟨rfl, rfl⟩))
    (fun os started H enc _ => order_lifted os started H enc)
end Go.Proofs.Ytlokpcbiomjcnaa
