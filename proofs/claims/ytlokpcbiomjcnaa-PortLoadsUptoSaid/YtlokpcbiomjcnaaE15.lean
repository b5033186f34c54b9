/- Calls on one port, as contracts: Push and Pop on a queue, whatever else lies about. -/
import Derived.Test.YtlokpcbiomjcnaaE14
set_option linter.unusedVariables false
set_option linter.unusedSimpArgs false
namespace Go.Proofs.Ytlokpcbiomjcnaa
open Go.RowKit
/-- what a call on a port may write: its end, its queue's block -/
def Dq (E : Nat) (vq : Value) : Nat → Prop := fun k => k = E ∨ qblk vq = some k
theorem Qv.ne_row {w : World} {v : Value} {ms : List Value} (h : Qv w v ms) {g : Nat} {t : TypeId} {L : List Value} (hr : Row w g t L) (ht : t ≠ 32) : ¬ qblk v = some g := fun he => by
  obtain ⟨L', hL⟩ := h.row he
  exact ht (hr.eq_ hL).1
theorem Qv.ne_map {w : World} {v : Value} {ms : List Value} (h : Qv w v ms) {M n : Nat} {f : Int → Option Nat} (hm : PM w M n f) : ¬ qblk v = some M := fun he => by
  obtain ⟨L', hL⟩ := h.row he
  exact pm_row hm hL rfl
theorem At.push {w w' : World} {G M n : Nat} {m : Int} {f : Int → Option Nat} {i : Int} {E : Nat} {p : Pt} {vq : Value} {has : Bool} {tick : Int} {vd : Value} {lost : Int} {ms : List Value} {xs : List Int} (h : At w G M n m f i E p vq has tick vd lost) (hq : Qv w vq ms) (hp : PushP w E p vq has tick vd lost xs ms w') :
    ∃ vq' m', At w' G M n m f i E p vq' has tick vd lost ∧ Qv w' vq' (ms ++ [m']) ∧ w'.ownsRow w.heap.size 2 1 m' (ints xs).length (ints xs) ∧ Ch (Dq E vq) w w' ∧ ∀ k, qblk vq' = some k → qblk vq = some k ∨ w.heap.size ≤ k := by
  obtain ⟨w1, w2, w3, m', vq', h1, h2, h3, h4, h5, h6⟩ := hp
  have hlt := h.hE.lt
  have hc2 : Ch No w w2 := h1.then_ h3
  have hq2 := hq.keepNo hc2
  have hG2 := h.hG.keepNo hc2
  have hM2 := h.hM.keepNo hc2
  have hE2 := h.hE.keepNo hc2
  have hE3 := hE2.keep h4.ch (hq2.ne_row hE2 (by decide))
  have hG3 := hG2.keep h4.ch (hq2.ne_row hG2 (by decide))
  have hM3 := hM2.keep h4.ch (hq2.ne_map hM2)
  have hq3 := h4.q
  have hm3 : w3.ownsRow w.heap.size 2 1 m' (ints xs).length (ints xs) := owns_keep h2 h4.ch (fun k hk he => by
    obtain ⟨L, hL⟩ := hq2.row he
    obtain ⟨L', hL'⟩ := own_row h2 hk
    exact absurd (hL.eq_ hL').1 (by decide))
  refine ⟨vq', m', ⟨hG3.keepIs h6 (row_ne hG3 hE3 (by decide)), hM3.keep h6 (fun e => pm_row hM3 hE3 e.symm), h.hi, h.hf, h5⟩, hq3.keep h6 (fun k hk he => hq3.ne_row hE3 (by decide) (he ▸ hk)), owns_keep hm3 h6 (fun k hk he => ?_), ?_, fun k hk => ?_⟩
  · obtain ⟨L', hL'⟩ := own_row hm3 hk
    have e : k = E := he
    subst e
    exact absurd (hL'.eq_ hE3).1 (by decide)
  · refine (hc2.mono (D' := Dq E vq) (fun k _ h => h.elim)).trans (D' := Dq E vq) ((h4.ch.mono (fun k _ hk => .inr hk)).trans (D' := Is E) h6 (fun k _ hk => .inl hk)) (fun k _ hk => hk)
  · rcases h4.blk k hk with h | h
    · exact .inl h
    · exact .inr (Nat.le_trans hc2.size h)
/-- a queue's head -/
theorem Qv.head {w : World} {v m : Value} {ms : List Value} (h : Qv w v (m :: ms)) : ∃ g off c, v = .slice (some ⟨g, off, none⟩) (ms.length + 1) c ∧ ms.length + 1 ≤ c ∧ c ≤ maxLen ∧ w.cell? ⟨g, off, none⟩ = some m ∧
    ∀ off', (1 < c → off' = off + 1) → Qv w (.slice (some ⟨g, off', none⟩) ms.length (c - 1)) ms := by
  obtain ⟨A, c, rfl, hl, hm, h3⟩ := h
  simp only [List.length_cons] at hl
  rcases h3 with h0 | ⟨g, off, L, rfl, hr, hf, hc⟩
  · omega
  · refine ⟨g, off, c, rfl, hl, hm, ?_, fun off' ho => ⟨_, c - 1, rfl, by omega, by omega, ?_⟩⟩
    · rw [hr.cell]
      have := hc 0 m rfl
      simpa using this
    · by_cases h1 : 1 < c
      · obtain rfl := ho h1
        refine .inr ⟨g, off + 1, L, rfl, hr, by omega, fun j u hj => ?_⟩
        have := hc (j + 1) u (by simpa using hj)
        rw [show off + 1 + j = off + (j + 1) by omega]
        exact this
      · exact .inl (by omega)
theorem pop_one {w : World} {G M n : Nat} {mx : Int} {f : Int → Option Nat} {i : Int} {E : Nat} {p : Pt} {vq : Value} {has : Bool} {tick : Int} {vd : Value} {lost : Int} {ms : List Value} {m : Value} (h : At w G M n mx f i E p vq has tick vd lost) (hp : p.kind = 1) (hq : Qv w vq (m :: ms)) (hm : ∃ A k c, m = .slice A k c) :
    Calls Try.prog 19 #[.pointer (some ⟨G, 0, none⟩), .int .i64 i] w fun e w' => e = .returned (.tuple #[m, .bool true, .int .i64 0]) ∧ ∃ vq', At w' G M n mx f i E p vq' has tick vd lost ∧ Qv w' vq' ms ∧ Ch (Is E) w w' ∧ ∀ k, qblk vq' = some k → qblk vq = some k := by
  obtain ⟨A, k, c, rfl⟩ := hm
  obtain ⟨g, off, cq, rfl, hk, hcm, hcell, hnext⟩ := hq.head
  refine (pop_ok h.hG h.hM i h.hi h.hf h.hE hp hk hcm hcell).mono ?_
  rintro e w' ⟨rfl, ⟨off', ho, hE'⟩, hc⟩
  have hEm := pm_row h.hM h.hE
  have hq' := hnext off' ho
  refine ⟨rfl, _, ⟨h.hG.keepIs hc (row_ne h.hG h.hE (by decide)), h.hM.keep hc (fun e => hEm e.symm), h.hi, h.hf, hE'⟩, hq'.keep hc (fun k hk he => hq'.ne_row h.hE (by decide) (he ▸ hk)), hc, fun k hk => ?_⟩
  have h0 : ¬ cq = 0 := by omega
  by_cases h1 : cq - 1 = 0
  · simp [qblk, h1] at hk
  · simp [qblk, h1] at hk
    simp [qblk, h0, hk]
end Go.Proofs.Ytlokpcbiomjcnaa
