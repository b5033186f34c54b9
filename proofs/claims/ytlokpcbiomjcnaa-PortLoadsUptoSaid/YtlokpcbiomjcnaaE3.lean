/- A port's queue, Last, Set: each branch by itself. -/
import Derived.Test.YtlokpcbiomjcnaaE2
import Derived.Deep.MidRow
import Derived.Deep.RegionWith
import Derived.Deep.DrawnRows
set_option linter.unusedVariables false
set_option linter.unusedSimpArgs false
namespace Go.Proofs.Ytlokpcbiomjcnaa
open Go.RowKit
theorem queue_none {w : World} {G M n : Nat} {f : Int → Option Nat} {m : Int} (hG : Row w G 92 [.map (some M), .int .i64 m]) (hM : PM w M n f) (i : Int) (hi : (Lit.int .i64 i).wf = true) (hf : f i = none) :
    Calls Try.prog 37 #[.pointer (some ⟨G, 0, none⟩), .int .i64 i] w fun e w' => e = .returned (.tuple #[.pointer none, .int .i64 107]) ∧ Ch No w w' := by
  have H1 := Lib.hid (fun (w' : World) (h : Ch No w w') => own_none (hG.keepNo h) (hM.keepNo h) i hi hf 1 false)
  have H2 := Lib.hid (fun (w' : World) (h : Ch No w w') => own_none (hG.keepNo h) (hM.keepNo h) i hi hf 1 true)
  clear hG hM hf hi
  go_enter Try.func37, Try.ntmps37
  go_wp2_with (fail)
  refine (H1.out _ (Ch.refl _ _)).mono ?_
  rintro e w1 ⟨rfl, hc1⟩
  have HC1 := Lib.hid hc1
  clear hc1
  go_wp2_with (fail)
  refine (H2.out _ HC1.out).mono ?_
  rintro e w2 ⟨rfl, hc2⟩
  have HC2 := Lib.hid (HC1.out.then_ hc2)
  clear hc2
  go_wp2_with (fail)
  exact bodyPost_ret (v := .tuple #[.pointer none, .int .i64 107]) (by kernel_rfl) rfl ⟨rfl, HC2.out⟩
theorem queue_other {w : World} {G M n E : Nat} {f : Int → Option Nat} {m : Int} (hG : Row w G 92 [.map (some M), .int .i64 m]) (hM : PM w M n f) (i : Int) (hi : (Lit.int .i64 i).wf = true) (hf : f i = some E) {p : Pt} {vq vd : Value} {has : Bool} {tick lost : Int} (hE : Row w E 95 (ecells p vq has tick vd lost)) (hk : ¬ p.kind = 1) :
    Calls Try.prog 37 #[.pointer (some ⟨G, 0, none⟩), .int .i64 i] w fun e w' => e = .returned (.tuple #[.pointer none, .int .i64 107]) ∧ Ch No w w' := by
  have e0 : ∀ b, (p.kind == 1 && p.out == b) = false := fun b => by simp [hk]
  have H1 := Lib.hid (fun (w' : World) (h : Ch No w w') => own_some (hG.keepNo h) (hM.keepNo h) i hi hf (hE.keepNo h) 1 false)
  have H2 := Lib.hid (fun (w' : World) (h : Ch No w w') => own_some (hG.keepNo h) (hM.keepNo h) i hi hf (hE.keepNo h) 1 true)
  simp only [e0] at H1 H2
  clear hG hM hf hi hE hk e0
  go_enter Try.func37, Try.ntmps37
  go_wp2_with (fail)
  refine (H1.out _ (Ch.refl _ _)).mono ?_
  rintro e w1 ⟨rfl, hc1⟩
  have HC1 := Lib.hid hc1
  clear hc1
  go_wp2_with (fail)
  refine (H2.out _ HC1.out).mono ?_
  rintro e w2 ⟨rfl, hc2⟩
  have HC2 := Lib.hid (HC1.out.then_ hc2)
  clear hc2
  go_wp2_with (fail)
  exact bodyPost_ret (v := .tuple #[.pointer none, .int .i64 107]) (by kernel_rfl) rfl ⟨rfl, HC2.out⟩
theorem queue_own {w : World} {G M n E : Nat} {f : Int → Option Nat} {m : Int} (hG : Row w G 92 [.map (some M), .int .i64 m]) (hM : PM w M n f) (i : Int) (hi : (Lit.int .i64 i).wf = true) (hf : f i = some E) {p : Pt} {vq vd : Value} {has : Bool} {tick lost : Int} (hE : Row w E 95 (ecells p vq has tick vd lost)) (hk : p.kind = 1) :
    Calls Try.prog 37 #[.pointer (some ⟨G, 0, none⟩), .int .i64 i] w fun e w' => e = .returned (.tuple #[.pointer (some ⟨E, 0, none⟩), .int .i64 0]) ∧ Ch No w w' := by
  have HL : Hid (∀ w' : World, Ch No w w' → w'.cell? ⟨G, 0, none⟩ = some (.map (some M)) ∧ (Instr.lookup 90 (.map (some M)) (.int .i64 i) false).run Try.prog w' = .ok (.pointer (some ⟨E, 0, none⟩)) w') := fun w' h => by
    have h1 := (hM.keepNo h).look1 i hi
    rw [hf] at h1
    exact ⟨by rw [(hG.keepNo h).cell]; rfl, h1⟩
  obtain ⟨o, ho⟩ : ∃ o, p.out = o := ⟨_, rfl⟩
  cases o with
  | false =>
    have e0 : (p.kind == 1 && p.out == false) = true := by simp [hk, ho]
    have H1 := Lib.hid (fun (w' : World) (h : Ch No w w') => own_some (hG.keepNo h) (hM.keepNo h) i hi hf (hE.keepNo h) 1 false)
    rw [e0] at H1
    clear hG hM hf hi hE hk e0 ho
    go_enter Try.func37, Try.ntmps37
    go_wp2_with (fail)
    refine (H1.out _ (Ch.refl _ _)).mono ?_
    rintro e w1 ⟨rfl, hc1⟩
    obtain ⟨c1, c2⟩ := HL.out _ hc1
    have HC1 := Lib.hid hc1
    clear hc1
    go_wp2_with (fail)
    exact bodyPost_ret (v := .tuple #[.pointer (some ⟨E, 0, none⟩), .int .i64 0]) (by kernel_rfl) rfl ⟨rfl, HC1.out⟩
  | true =>
    have e0 : (p.kind == 1 && p.out == false) = false := by simp [hk, ho]
    have e1 : (p.kind == 1 && p.out == true) = true := by simp [hk, ho]
    have H1 := Lib.hid (fun (w' : World) (h : Ch No w w') => own_some (hG.keepNo h) (hM.keepNo h) i hi hf (hE.keepNo h) 1 false)
    have H2 := Lib.hid (fun (w' : World) (h : Ch No w w') => own_some (hG.keepNo h) (hM.keepNo h) i hi hf (hE.keepNo h) 1 true)
    rw [e0] at H1
    rw [e1] at H2
    clear hG hM hf hi hE hk e0 e1 ho
    go_enter Try.func37, Try.ntmps37
    go_wp2_with (fail)
    refine (H1.out _ (Ch.refl _ _)).mono ?_
    rintro e w1 ⟨rfl, hc1⟩
    have HC1 := Lib.hid hc1
    clear hc1
    go_wp2_with (fail)
    refine (H2.out _ HC1.out).mono ?_
    rintro e w2 ⟨rfl, hc2⟩
    have HC2 := Lib.hid (HC1.out.then_ hc2)
    obtain ⟨c1, c2⟩ := HL.out _ HC2.out
    clear hc2
    go_wp2_with (fail)
    exact bodyPost_ret (v := .tuple #[.pointer (some ⟨E, 0, none⟩), .int .i64 0]) (by kernel_rfl) rfl ⟨rfl, HC2.out⟩
end Go.Proofs.Ytlokpcbiomjcnaa
