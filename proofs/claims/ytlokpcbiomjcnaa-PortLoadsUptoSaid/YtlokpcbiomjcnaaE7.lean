/- A port's Count, Lose, Pop. -/
import Derived.Test.YtlokpcbiomjcnaaE6
set_option linter.unusedVariables false
set_option linter.unusedSimpArgs false
namespace Go.Proofs.Ytlokpcbiomjcnaa
open Go.RowKit
theorem count_none {w : World} {G M n : Nat} {f : Int → Option Nat} {m : Int} (hG : Row w G 92 [.map (some M), .int .i64 m]) (hM : PM w M n f) (i : Int) (hi : (Lit.int .i64 i).wf = true) (hf : f i = none) :
    Calls Try.prog 21 #[.pointer (some ⟨G, 0, none⟩), .int .i64 i] w fun e w' => e = .returned (.tuple #[.int .i64 0, .int .i64 0, .int .i64 107]) ∧ Ch No w w' := by
  have hl := hM.look i hi
  rw [hf] at hl
  have hc : w.cell? ⟨G, 0, none⟩ = some (.map (some M)) := by rw [hG.cell]; rfl
  clear hG hM hf
  simp only [ptrOf, Option.isSome] at hl
  go_enter Try.func21, Try.ntmps21
  go_wp2_with (fail)
  exact bodyPost_ret (v := .tuple #[.int .i64 0, .int .i64 0, .int .i64 107]) (by kernel_rfl) rfl ⟨rfl, Ch.refl _ _⟩
theorem count_has {w : World} {G M n E : Nat} {f : Int → Option Nat} {m : Int} (hG : Row w G 92 [.map (some M), .int .i64 m]) (hM : PM w M n f) (i : Int) (hi : (Lit.int .i64 i).wf = true) (hf : f i = some E) {p : Pt} {vq vd : Value} {tick lost : Int} (hE : Row w E 95 (ecells p vq true tick vd lost)) :
    Calls Try.prog 21 #[.pointer (some ⟨G, 0, none⟩), .int .i64 i] w fun e w' => e = .returned (.tuple #[.int .i64 1, .int .i64 lost, .int .i64 0]) ∧ Ch No w w' := by
  have hl := hM.look i hi
  rw [hf] at hl
  obtain ⟨c1, -, -, -, -, c6, c7, -, -, c10⟩ := end_facts hG hM i hi hf hE w (Ch.refl _ _)
  clear hG hM hf hE
  simp only [ptrOf, Option.isSome] at hl
  go_enter Try.func21, Try.ntmps21
  go_wp2_with (fail)
  go_quiet (fail)
  go_wp2_with (fail)
  exact bodyPost_ret (v := .tuple #[.int .i64 1, .int .i64 lost, .int .i64 0]) (by kernel_rfl) rfl ⟨rfl, (Dr.step _ _).ch⟩
theorem count_queue {w : World} {G M n E : Nat} {f : Int → Option Nat} {m : Int} (hG : Row w G 92 [.map (some M), .int .i64 m]) (hM : PM w M n f) (i : Int) (hi : (Lit.int .i64 i).wf = true) (hf : f i = some E) {p : Pt} {A : Option Addr} {k c : Nat} {vd : Value} {tick lost : Int} (hE : Row w E 95 (ecells p (.slice A k c) false tick vd lost)) :
    Calls Try.prog 21 #[.pointer (some ⟨G, 0, none⟩), .int .i64 i] w fun e w' => e = .returned (.tuple #[.int .i64 k, .int .i64 lost, .int .i64 0]) ∧ Ch No w w' := by
  have hl := hM.look i hi
  rw [hf] at hl
  obtain ⟨c1, -, -, -, -, c6, c7, -, -, c10⟩ := end_facts hG hM i hi hf hE w (Ch.refl _ _)
  clear hG hM hf hE
  simp only [ptrOf, Option.isSome] at hl
  go_enter Try.func21, Try.ntmps21
  go_wp2_with (fail)
  go_quiet (fail)
  go_wp2_with (fail)
  exact bodyPost_ret (v := .tuple #[.int .i64 k, .int .i64 lost, .int .i64 0]) (by kernel_rfl) rfl ⟨rfl, (Dr.step _ _).ch⟩
theorem lose_ok {w : World} {G M n E : Nat} {f : Int → Option Nat} {m : Int} (hG : Row w G 92 [.map (some M), .int .i64 m]) (hM : PM w M n f) (i : Int) (hi : (Lit.int .i64 i).wf = true) (hf : f i = some E) {p : Pt} {vq vd : Value} {has : Bool} {tick lost : Int} (hE : Row w E 95 (ecells p vq has tick vd lost))
    (hp : p.kind = 1 ∧ p.out = false) :
    Calls Try.prog 20 #[.pointer (some ⟨G, 0, none⟩), .int .i64 i] w fun e w' => e = .returned (.int .i64 0) ∧ Row w' E 95 (ecells p vq has tick vd (wrap64 (lost + 1))) ∧ Ch (Is E) w w' := by
  have e1 : (p.kind == 1 && p.out == false) = true := by simp [hp]
  have H1 := Lib.hid (own_some hG hM i hi hf hE 1 false)
  rw [e1] at H1
  have HF := Lib.hid (end_facts hG hM i hi hf hE)
  have HE := Lib.hid hE
  clear hG hM hf hi hE hp e1
  go_enter Try.func20, Try.ntmps20
  go_wp2_with (fail)
  refine H1.out.mono ?_
  rintro e w1 ⟨rfl, hc1⟩
  obtain ⟨c1, c2, -, -, -, -, -, -, -, c10⟩ := HF.out _ hc1
  have HC1 := Lib.hid hc1
  have HE1 := Lib.hid (HE.out.keepNo hc1)
  have f10 : w1.frozen? ⟨E, 10, none⟩ = false := HE1.out.frozen _
  clear hc1
  go_wp2_with (fail)
  refine bodyPost_ret (v := .int .i64 0) (by kernel_rfl) rfl ⟨rfl, ?_, ?_⟩
  · have := HE1.out.set_ 10 (.int .i64 (wrap64 (lost + 1)))
    simpa [ecells] using this
  · exact (HC1.out.mono (fun _ _ h => h.elim)).trans (D' := Is E) (Ch.setCell (D := Is E) (p := ⟨E, 10, none⟩) (Ch.refl _ _) (fun _ => rfl) _) (fun _ _ h => h)
theorem pop_port {w : World} {G : Nat} (i : Int) (h : Calls Try.prog 37 #[.pointer (some ⟨G, 0, none⟩), .int .i64 i] w fun e w' => e = .returned (.tuple #[.pointer none, .int .i64 107]) ∧ Ch No w w') :
    Calls Try.prog 19 #[.pointer (some ⟨G, 0, none⟩), .int .i64 i] w fun e w' => e = .returned (.tuple #[.slice none 0 0, .bool false, .int .i64 107]) ∧ Ch No w w' := by
  have H := Lib.hid h
  clear h
  go_enter Try.func19, Try.ntmps19
  go_wp2_with (fail)
  refine H.out.mono ?_
  rintro e w1 ⟨rfl, hc1⟩
  have HC1 := Lib.hid hc1
  clear hc1
  go_wp2_with (fail)
  exact bodyPost_ret (v := .tuple #[.slice none 0 0, .bool false, .int .i64 107]) (by kernel_rfl) rfl ⟨rfl, HC1.out⟩
theorem pop_empty {w : World} {G M n E : Nat} {f : Int → Option Nat} {m : Int} (hG : Row w G 92 [.map (some M), .int .i64 m]) (hM : PM w M n f) (i : Int) (hi : (Lit.int .i64 i).wf = true) (hf : f i = some E) {p : Pt} {A : Option Addr} {c : Nat} {vd : Value} {has : Bool} {tick lost : Int} (hE : Row w E 95 (ecells p (.slice A 0 c) has tick vd lost)) (hp : p.kind = 1) :
    Calls Try.prog 19 #[.pointer (some ⟨G, 0, none⟩), .int .i64 i] w fun e w' => e = .returned (.tuple #[.slice none 0 0, .bool false, .int .i64 0]) ∧ Ch No w w' := by
  have H := Lib.hid (queue_own hG hM i hi hf hE hp)
  have HF := Lib.hid (end_facts hG hM i hi hf hE)
  clear hG hM hf hi hE hp
  go_enter Try.func19, Try.ntmps19
  go_wp2_with (fail)
  refine H.out.mono ?_
  rintro e w1 ⟨rfl, hc1⟩
  obtain ⟨c1, c2, -, -, -, c6, -, -, -, -⟩ := HF.out _ hc1
  have HC1 := Lib.hid hc1
  clear hc1
  go_wp2_with (fail)
  exact bodyPost_ret (v := .tuple #[.slice none 0 0, .bool false, .int .i64 0]) (by kernel_rfl) rfl ⟨rfl, HC1.out⟩
set_option maxRecDepth 100000 in
theorem pop_ok {w : World} {G M n E : Nat} {f : Int → Option Nat} {m : Int} (hG : Row w G 92 [.map (some M), .int .i64 m]) (hM : PM w M n f) (i : Int) (hi : (Lit.int .i64 i).wf = true) (hf : f i = some E) {p : Pt} {g off k c : Nat} {vd : Value} {has : Bool} {tick lost : Int} (hE : Row w E 95 (ecells p (.slice (some ⟨g, off, none⟩) (k + 1) c) has tick vd lost)) (hp : p.kind = 1) (hkc : k + 1 ≤ c) (hc : c ≤ maxLen)
    {A1 : Option Addr} {k1 c1' : Nat} (hm : w.cell? ⟨g, off, none⟩ = some (.slice A1 k1 c1')) :
    Calls Try.prog 19 #[.pointer (some ⟨G, 0, none⟩), .int .i64 i] w fun e w' => e = .returned (.tuple #[.slice A1 k1 c1', .bool true, .int .i64 0]) ∧ (∃ off', (1 < c → off' = off + 1) ∧ Row w' E 95 (ecells p (.slice (some ⟨g, off', none⟩) k (c - 1)) has tick vd lost)) ∧ Ch (Is E) w w' := by
  have H := Lib.hid (queue_own hG hM i hi hf hE hp)
  have HF := Lib.hid (end_facts hG hM i hi hf hE)
  have HE := Lib.hid hE
  have HM : Hid (∀ w' : World, Ch No w w' → w'.cell? ⟨g, off, none⟩ = some (.slice A1 k1 c1')) := fun w' h => h.cell (a := ⟨g, off, none⟩) (not_no _) hm
  have hc6 : c ≤ 9223372036854775807 := by unfold maxLen at hc; omega
  clear hG hM hf hi hE hp hm hc
  go_enter Try.func19, Try.ntmps19
  go_wp2_with (fail)
  refine H.out.mono ?_
  rintro e w1 ⟨rfl, hc1⟩
  obtain ⟨c1, c2, -, -, -, c6, -, -, -, -⟩ := HF.out _ hc1
  have HC1 := Lib.hid hc1
  have HE1 := Lib.hid (HE.out.keepNo hc1)
  have f6 : w1.frozen? ⟨E, 6, none⟩ = false := HE1.out.frozen _
  have hm1 := HM.out _ hc1
  clear hc1
  go_wp2_with (fail)
  case inr =>
    refine bodyPost_ret (v := .tuple #[.slice A1 k1 c1', .bool true, .int .i64 0]) (by kernel_rfl) rfl ⟨rfl, ⟨off + 1, fun h => rfl, ?_⟩, ?_⟩
    · have := HE1.out.set_ 6 (.slice (some ⟨g, off + 1, none⟩) k (c - 1))
      simpa [ecells] using this
    · exact (HC1.out.mono (fun _ _ h => h.elim)).trans (D' := Is E) (Ch.setCell (D := Is E) (p := ⟨E, 6, none⟩) (Ch.refl _ _) (fun _ => rfl) _) (fun _ _ h => h)
  case inl =>
    refine bodyPost_ret (v := .tuple #[.slice A1 k1 c1', .bool true, .int .i64 0]) (by kernel_rfl) rfl ⟨rfl, ⟨off, ?_⟩, ?_⟩
    · have := HE1.out.set_ 6 (.slice (some ⟨g, off, none⟩) k 0)
      simpa [ecells] using this
    · exact (HC1.out.mono (fun _ _ h => h.elim)).trans (D' := Is E) (Ch.setCell (D := Is E) (p := ⟨E, 6, none⟩) (Ch.refl _ _) (fun _ => rfl) _) (fun _ _ h => h)
end Go.Proofs.Ytlokpcbiomjcnaa
