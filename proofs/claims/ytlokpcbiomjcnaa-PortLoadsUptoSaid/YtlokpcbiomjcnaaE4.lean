/- A port's Last, Set, Count, Lose: each branch by itself. -/
import Derived.Test.YtlokpcbiomjcnaaE3
set_option linter.unusedVariables false
set_option linter.unusedSimpArgs false
namespace Go.Proofs.Ytlokpcbiomjcnaa
open Go.RowKit
def mayB (now : Int) : Bool := decide (0 ≤ now ∧ now < 1099511627776)
/-- Last, not one's own sampling in port -/
theorem last_port {w : World} {G : Nat} (i now : Int) (h : Calls Try.prog 34 #[.pointer (some ⟨G, 0, none⟩), .int .i64 i, .int .i64 0, .bool false] w fun e w' => e = .returned (.bool false) ∧ Ch No w w') :
    Calls Try.prog 14 #[.pointer (some ⟨G, 0, none⟩), .int .i64 i, .int .i64 now] w fun e w' => e = .returned (.tuple #[.slice none 0 0, .int .i64 0, .bool false, .int .i64 107]) ∧ Ch No w w' := by
  have H := Lib.hid h
  clear h
  go_enter Try.func14, Try.ntmps14
  go_wp2_with (fail)
  refine H.out.mono ?_
  rintro e w1 ⟨rfl, hc1⟩
  have HC1 := Lib.hid hc1
  clear hc1
  go_wp2_with (fail)
  exact bodyPost_ret (v := .tuple #[.slice none 0 0, .int .i64 0, .bool false, .int .i64 107]) (by kernel_rfl) rfl ⟨rfl, HC1.out⟩
theorem set_port {w : World} {G : Nat} (i now : Int) (v : Value) (h : Calls Try.prog 34 #[.pointer (some ⟨G, 0, none⟩), .int .i64 i, .int .i64 0, .bool false] w fun e w' => e = .returned (.bool false) ∧ Ch No w w') :
    Calls Try.prog 15 #[.pointer (some ⟨G, 0, none⟩), .int .i64 i, v, .int .i64 now] w fun e w' => e = .returned (.int .i64 107) ∧ Ch No w w' := by
  have H := Lib.hid h
  clear h
  go_enter Try.func15, Try.ntmps15
  go_wp2_with (fail)
  refine H.out.mono ?_
  rintro e w1 ⟨rfl, hc1⟩
  have HC1 := Lib.hid hc1
  clear hc1
  go_wp2_with (fail)
  exact bodyPost_ret (v := .int .i64 107) (by kernel_rfl) rfl ⟨rfl, HC1.out⟩
theorem lose_port {w : World} {G : Nat} (i : Int) (h : Calls Try.prog 34 #[.pointer (some ⟨G, 0, none⟩), .int .i64 i, .int .i64 1, .bool false] w fun e w' => e = .returned (.bool false) ∧ Ch No w w') :
    Calls Try.prog 20 #[.pointer (some ⟨G, 0, none⟩), .int .i64 i] w fun e w' => e = .returned (.int .i64 107) ∧ Ch No w w' := by
  have H := Lib.hid h
  clear h
  go_enter Try.func20, Try.ntmps20
  go_wp2_with (fail)
  refine H.out.mono ?_
  rintro e w1 ⟨rfl, hc1⟩
  have HC1 := Lib.hid hc1
  clear hc1
  go_wp2_with (fail)
  exact bodyPost_ret (v := .int .i64 107) (by kernel_rfl) rfl ⟨rfl, HC1.out⟩
/-- what is read of an end, in any later world that leaves it -/
theorem end_facts {w : World} {G M n E : Nat} {f : Int → Option Nat} {m : Int} (hG : Row w G 92 [.map (some M), .int .i64 m]) (hM : PM w M n f) (i : Int) (hi : (Lit.int .i64 i).wf = true) (hf : f i = some E) {p : Pt} {vq vd : Value} {has : Bool} {tick lost : Int} (hE : Row w E 95 (ecells p vq has tick vd lost)) :
    ∀ w' : World, Ch No w w' → w'.cell? ⟨G, 0, none⟩ = some (.map (some M)) ∧ (Instr.lookup 90 (.map (some M)) (.int .i64 i) false).run Try.prog w' = .ok (.pointer (some ⟨E, 0, none⟩)) w' ∧
      w'.cell? ⟨E, 3, none⟩ = some (.int .i64 p.size) ∧ w'.cell? ⟨E, 4, none⟩ = some (.int .i64 p.depth) ∧ w'.cell? ⟨E, 5, none⟩ = some (.int .i64 p.refresh) ∧ w'.cell? ⟨E, 6, none⟩ = some vq ∧ w'.cell? ⟨E, 7, none⟩ = some (.bool has) ∧ w'.cell? ⟨E, 8, none⟩ = some (.int .i64 tick) ∧ w'.cell? ⟨E, 9, none⟩ = some vd ∧ w'.cell? ⟨E, 10, none⟩ = some (.int .i64 lost) := fun w' h => by
  have h1 := (hM.keepNo h).look1 i hi
  rw [hf] at h1
  have hE' := hE.keepNo h
  refine ⟨by rw [(hG.keepNo h).cell]; rfl, h1, ?_⟩
  simp only [hE'.cell]
  exact ⟨rfl, rfl, rfl, rfl, rfl, rfl, rfl, rfl⟩
theorem set_arg {w : World} {G M n E : Nat} {f : Int → Option Nat} {m : Int} (hG : Row w G 92 [.map (some M), .int .i64 m]) (hM : PM w M n f) (i : Int) (hi : (Lit.int .i64 i).wf = true) (hf : f i = some E) {p : Pt} {vq vd : Value} {has : Bool} {tick lost : Int} (hE : Row w E 95 (ecells p vq has tick vd lost))
    (hp : p.kind = 0 ∧ p.out = false) (A : Option Addr) (l c : Nat) (hl : l ≤ 9223372036854775807) (now : Int) (h : ¬ ((l : Int) = p.size ∧ mayB now = true)) :
    Calls Try.prog 15 #[.pointer (some ⟨G, 0, none⟩), .int .i64 i, .slice A l c, .int .i64 now] w fun e w' => e = .returned (.int .i64 2) ∧ Ch No w w' := by
  have e1 : (p.kind == 0 && p.out == false) = true := by simp [hp]
  have H1 := Lib.hid (own_some hG hM i hi hf hE 0 false)
  rw [e1] at H1
  have HF := Lib.hid (end_facts hG hM i hi hf hE)
  obtain ⟨s, hs⟩ : ∃ s, p.size = s := ⟨_, rfl⟩
  rw [hs] at HF h
  clear hG hM hf hi hE hp e1 hs
  by_cases hsz : (l : Int) = s
  · have hmy : mayB now = false := by
      cases hh : mayB now
      · rfl
      · exact absurd ⟨hsz, hh⟩ h
    have H2 := Lib.hid (may_35 now)
    rw [show decide (0 ≤ now ∧ now < 1099511627776) = false from hmy] at H2
    have hne : ((l : Int) != s) = false := by simp [hsz]
    clear hmy h hsz
    go_enter Try.func15, Try.ntmps15
    go_wp2_with (fail)
    refine H1.out.mono ?_
    rintro e w1 ⟨rfl, hc1⟩
    obtain ⟨c1, c2, c3, -, -, -, -, -, -, -⟩ := HF.out _ hc1
    have HC1 := Lib.hid hc1
    clear hc1
    go_wp2_with (fail)
    refine (H2.out _).mono ?_
    rintro e w2 ⟨rfl, hc2⟩
    have HC2 := Lib.hid (HC1.out.then_ hc2)
    clear hc2
    go_wp2_with (fail)
    exact bodyPost_ret (v := .int .i64 2) (by kernel_rfl) rfl ⟨rfl, HC2.out⟩
  · have hne : ((l : Int) != s) = true := by simp [hsz]
    clear h hsz
    go_enter Try.func15, Try.ntmps15
    go_wp2_with (fail)
    refine H1.out.mono ?_
    rintro e w1 ⟨rfl, hc1⟩
    obtain ⟨c1, c2, c3, -, -, -, -, -, -, -⟩ := HF.out _ hc1
    have HC1 := Lib.hid hc1
    clear hc1
    go_wp2_with (fail)
    exact bodyPost_ret (v := .int .i64 2) (by kernel_rfl) rfl ⟨rfl, HC1.out⟩
end Go.Proofs.Ytlokpcbiomjcnaa
