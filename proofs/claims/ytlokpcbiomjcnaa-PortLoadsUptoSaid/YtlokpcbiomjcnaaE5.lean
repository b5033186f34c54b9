/- A port's Set that is taken, Last that tells, Count, Lose. -/
import Derived.Test.YtlokpcbiomjcnaaE4
set_option linter.unusedVariables false
set_option linter.unusedSimpArgs false
namespace Go.Proofs.Ytlokpcbiomjcnaa
open Go.RowKit
theorem own_slice {w : World} {base : Nat} {e : TypeId} {size n : Nat} {v : Value} {xs : List Value} (h : w.ownsRow base e size v n xs) : ∃ A k c, v = .slice A k c := by
  rcases owns_open_sz h with ⟨rfl, _⟩ | ⟨_, _, _, rfl, _⟩
  · exact ⟨_, _, _, rfl⟩
  · exact ⟨_, _, _, rfl⟩
theorem size34 : (Try.prog.info? 34).map (·.size) = some 3 := by kernel_rfl
theorem size95 : (Try.prog.info? 95).map (·.size) = some 11 := by kernel_rfl
set_option maxRecDepth 100000 in
theorem set_ok {w : World} {G M n E : Nat} {f : Int → Option Nat} {m : Int} (hG : Row w G 92 [.map (some M), .int .i64 m]) (hM : PM w M n f) (i : Int) (hi : (Lit.int .i64 i).wf = true) (hf : f i = some E) {p : Pt} {vq vd : Value} {has : Bool} {tick lost : Int} (hE : Row w E 95 (ecells p vq has tick vd lost))
    (hp : p.kind = 0 ∧ p.out = false) {v : Value} {xs : List Int} (hv : Sl w v xs) (hxl : xs.length ≤ 10000000) (now : Int) (hsz : (xs.length : Int) = p.size) (hmy : mayB now = true) :
    Calls Try.prog 15 #[.pointer (some ⟨G, 0, none⟩), .int .i64 i, v, .int .i64 now] w fun e w' => e = .returned (.int .i64 0) ∧ ∃ vd', Row w' E 95 (ecells p vq true now vd' lost) ∧ Ch (Is E) w w' ∧ w'.ownsRow w.heap.size 2 1 vd' (ints xs).length (ints xs) := by
  obtain ⟨A, c, rfl, hA, hl⟩ := hv
  have e1 : (p.kind == 0 && p.out == false) = true := by simp [hp]
  have H1 := Lib.hid (own_some hG hM i hi hf hE 0 false)
  rw [e1] at H1
  have H2 := Lib.hid (may_35 now)
  rw [show decide (0 ≤ now ∧ now < 1099511627776) = true from hmy] at H2
  have HF := Lib.hid (end_facts hG hM i hi hf hE)
  have H3 := Lib.hid (fun (w' : World) (h : Ch No w w') => clone_36 A xs c hxl w' (hA.keepNo h))
  have HE := Lib.hid hE
  have HLT := Lib.hid hE.lt
  have hne : ((xs.length : Int) != p.size) = false := by simp [hsz]
  generalize hsp : p.size = s at hne
  rw [hsp] at HF
  clear hG hM hf hi hE hp e1 hsp hsz hmy hA
  obtain ⟨l0, hl0⟩ : ∃ l, xs.length = l := ⟨_, rfl⟩
  rw [hl0] at hne hl H3 ⊢
  have HXL := Lib.hid hl0
  clear hl0 hxl
  go_enter Try.func15, Try.ntmps15
  go_wp2_with (fail)
  refine H1.out.mono ?_
  rintro e w1 ⟨rfl, hc1⟩
  obtain ⟨c1, c2, c3, -, -, -, -, -, -, -⟩ := HF.out _ hc1
  have HC1 := Lib.hid hc1
  clear hc1
  go_wp2_with (fail)
  refine (H2.out _).mono ?_
  rintro e w2 ⟨rfl, hc2⟩
  have HC2 := Lib.hid (HC1.out.then_ hc2)
  clear hc2
  go_wp2_with (fail)
  refine (H3.out _ HC2.out).mono ?_
  rintro e w3 ⟨v', rfl, ho, hc3⟩
  have HC3 := Lib.hid (HC2.out.then_ hc3)
  have HO := Lib.hid ho
  have HSZ := Lib.hid HC2.out.size
  have H1C : Hid (∀ u ∈ [Value.bool true, .int .i64 now, v'], u.oneCell' = true) := by
    intro u hu
    have hone := own_one ho
    simp at hu
    rcases hu with rfl | rfl | rfl
    · rfl
    · rfl
    · exact hone
  obtain ⟨A', k', c', rfl⟩ := own_slice ho
  clear ho hc3
  have HFT : Hid (7 + [Value.bool true, .int .i64 now, .slice A' k' c'].length ≤ (ecells p vq has tick vd lost).length) := by show 10 ≤ 11; omega
  have HE3 := Lib.hid (HE.out.keepNo HC3.out)
  go_wp2_with (first | ((with_reducible refine at_op (o := ⟨none, .store 34 (.tmp 40) (.tmp 37), _, _, _, _⟩) ?_); refine pl_store_mid (o := ⟨none, .store 34 (.tmp 40) (.tmp 37), _, _, _, _⟩) rfl 34 (.tmp 40) (.tmp 37) rfl E 7 rfl 95 (ecells p vq has tick vd lost) [.bool true, .int .i64 now, .slice A' k' c'] rfl HE3.out HFT.out size34 H1C.out ?_; intro w4 hr4 hc4; have HR4 := Lib.hid hr4; have HC4 := Lib.hid hc4; clear hr4 hc4))
  refine bodyPost_ret (v := .int .i64 0) (by kernel_rfl) rfl ⟨rfl, _, HR4.out, (HC3.out.mono (D' := Is E) (fun _ _ h => h.elim)).trans HC4.out (fun _ _ h => h), ?_⟩
  have ho2 := HO.out
  have hb : ∀ k, (Value.slice A' k' c').ownBlock = some k → ¬ Is E k := fun k hk he => by
    have h1 := own_base_ ho2 k hk
    have h2 := HLT.out
    have h3 := HSZ.out
    have h4 : k = E := he
    omega
  have h5 := owns_keep ho2 HC4.out hb
  refine ⟨h5.1, ?_⟩
  rcases h5.2 with hn | ⟨g, cap, cur, q1, q2, q3⟩
  · exact .inl hn
  · exact .inr ⟨g, cap, cur, q1, Nat.le_trans HSZ.out q2, q3⟩
end Go.Proofs.Ytlokpcbiomjcnaa
