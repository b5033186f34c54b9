/- Set and Last on a sampling port, as contracts. -/
import Derived.Test.YtlokpcbiomjcnaaE16
set_option linter.unusedVariables false
set_option linter.unusedSimpArgs false
namespace Go.Proofs.Ytlokpcbiomjcnaa
open Go.RowKit
/-- a port's sample: what its cells hold -/
structure Smp where
  has : Bool
  tick : Int
  data : List Int
/-- a sampling port, its sample's words in memory of their own -/
def Sp (w : World) (G M n : Nat) (m : Int) (f : Int → Option Nat) (i : Int) (E : Nat) (p : Pt) (vq : Value) (lost : Int) (s : Smp) : Prop := ∃ b vd, At w G M n m f i E p vq s.has s.tick vd lost ∧ w.ownsRow b 2 1 vd (ints s.data).length (ints s.data) ∧ 0 ≤ s.tick ∧ s.data.length ≤ 10000000
theorem Sp.keepNo {w w' : World} {G M n : Nat} {m : Int} {f : Int → Option Nat} {i : Int} {E : Nat} {p : Pt} {vq : Value} {lost : Int} {s : Smp} (h : Sp w G M n m f i E p vq lost s) (hc : Ch No w w') : Sp w' G M n m f i E p vq lost s := by
  obtain ⟨b, vd, h1, h2, h3, h4⟩ := h
  exact ⟨b, vd, h1.keepNo hc, owns_keepNo h2 hc, h3, h4⟩
/-- what Set leaves -/
def setS (p : Pt) (s : Smp) (xs : List Int) (now : Int) : Smp := if (xs.length : Int) = p.size ∧ mayB now = true then ⟨true, now, xs⟩ else s
def setE (p : Pt) (xs : List Int) (now : Int) : Int := if (xs.length : Int) = p.size ∧ mayB now = true then 0 else 2
theorem set_one {w : World} {G M n : Nat} {m : Int} {f : Int → Option Nat} {i : Int} {E : Nat} {p : Pt} {vq : Value} {lost : Int} {s : Smp} (h : Sp w G M n m f i E p vq lost s) (hp : p.kind = 0 ∧ p.out = false) (hsz : p.size ≤ 10000000) {v : Value} {xs : List Int} (hv : Sl w v xs) (now : Int) :
    Calls Try.prog 15 #[.pointer (some ⟨G, 0, none⟩), .int .i64 i, v, .int .i64 now] w fun e w' => e = .returned (.int .i64 (setE p xs now)) ∧ Sp w' G M n m f i E p vq lost (setS p s xs now) ∧ Ch (Is E) w w' := by
  obtain ⟨b, vd, hat, hd, ht, hdl⟩ := h
  unfold setE setS
  by_cases hc : (xs.length : Int) = p.size ∧ mayB now = true
  · rw [if_pos hc, if_pos hc]
    refine (set_ok hat.hG hat.hM i hat.hi hat.hf hat.hE hp hv (by omega) now hc.1 hc.2).mono ?_
    rintro e w' ⟨rfl, vd', hE, hch, hd'⟩
    have hm := pm_row hat.hM hat.hE
    have h0 : 0 ≤ now := by
      have := hc.2
      simp [mayB] at this
      exact this.1
    exact ⟨rfl, ⟨_, vd', hat.set hch (row_ne hat.hG hat.hE (by decide)) (fun e => hm e.symm) hE, hd', h0, by show xs.length ≤ _; omega⟩, hch⟩
  · rw [if_neg hc, if_neg hc]
    obtain ⟨A, c, rfl, hA, hl⟩ := hv
    refine (set_arg hat.hG hat.hM i hat.hi hat.hf hat.hE hp A xs.length c hl now hc).mono ?_
    rintro e w' ⟨rfl, hch⟩
    exact ⟨rfl, ⟨b, vd, hat.keepNo hch, owns_keepNo hd hch, ht, hdl⟩, hch.mono (fun _ _ h => h.elim)⟩
/-- what Last tells -/
def lastR (p : Pt) (s : Smp) (now : Int) : List Int × Int × Bool × Int :=
  if ¬ (mayB now = true ∧ ¬ (s.has = true ∧ now < s.tick)) then ([], 0, false, 2) else if s.has = true then (s.data, now - s.tick, decide (now - s.tick ≤ p.refresh), 0) else ([], 0, false, 0)
theorem last_one {w : World} {G M n : Nat} {m : Int} {f : Int → Option Nat} {i : Int} {E : Nat} {p : Pt} {vq : Value} {lost : Int} {s : Smp} (h : Sp w G M n m f i E p vq lost s) (hp : p.kind = 0 ∧ p.out = false) (now : Int) :
    Calls Try.prog 14 #[.pointer (some ⟨G, 0, none⟩), .int .i64 i, .int .i64 now] w fun e w' => ∃ v, e = .returned (.tuple #[v, .int .i64 (lastR p s now).2.1, .bool (lastR p s now).2.2.1, .int .i64 (lastR p s now).2.2.2]) ∧ w'.ownsRow w.heap.size 2 1 v (ints (lastR p s now).1).length (ints (lastR p s now).1) ∧ Ch No w w' := by
  obtain ⟨b, vd, hat, hd, ht, hdl⟩ := h
  have hsl : Sl w vd s.data := sl_own hd (by omega)
  obtain ⟨A, c, rfl, hA, hl⟩ := hsl
  obtain ⟨has, tick, data⟩ := s
  simp only [] at *
  unfold lastR
  simp only []
  cases has with
  | false =>
    cases hmy : mayB now with
    | false =>
      refine (last_may_false hat.hG hat.hM i hat.hi hat.hf hat.hE hp now hmy).mono ?_
      rintro e w' ⟨rfl, hch⟩
      rw [if_pos (by simp)]
      exact ⟨_, rfl, owns_nil _ _ _ _, hch⟩
    | true =>
      refine (last_none hat.hG hat.hM i hat.hi hat.hf hat.hE hp now hmy).mono ?_
      rintro e w' ⟨rfl, hch⟩
      rw [if_neg (by simp), if_neg (by simp)]
      exact ⟨_, rfl, owns_nil _ _ _ _, hch⟩
  | true =>
    cases hmy : mayB now with
    | false =>
      refine (last_may_true hat.hG hat.hM i hat.hi hat.hf hat.hE hp now hmy).mono ?_
      rintro e w' ⟨rfl, hch⟩
      rw [if_pos (by simp)]
      exact ⟨_, rfl, owns_nil _ _ _ _, hch⟩
    | true =>
      by_cases hlt : now < tick
      · refine (last_young hat.hG hat.hM i hat.hi hat.hf hat.hE hp now hmy hlt).mono ?_
        rintro e w' ⟨rfl, hch⟩
        rw [if_pos (by simp [hlt])]
        exact ⟨_, rfl, owns_nil _ _ _ _, hch⟩
      · refine (last_ok hat.hG hat.hM i hat.hi hat.hf hat.hE hp now hmy (by omega) ht rfl hA hdl).mono ?_
        rintro e w' ⟨v, rfl, ho, hch⟩
        rw [if_neg (by simp; omega), if_pos rfl]
        exact ⟨v, rfl, ho, hch⟩
end Go.Proofs.Ytlokpcbiomjcnaa
