/- works: a message laid into a queue, and taken out again. -/
import Derived.Test.YtlokpcbiomjcnaaE13
set_option linter.unusedVariables false
set_option linter.unusedSimpArgs false
namespace Go.Proofs.Ytlokpcbiomjcnaa
open Go.RowKit
/-- an image, as a value: its ports -/
def Im (b : Nat) (w : World) (x : Value) (qs : List Pt) : Prop := ∃ vp v cs, x = .agg #[vp, v, .slice none 0 0] ∧ w.ownsRow b 46 6 v qs.length (pcells qs) ∧ w.ownsRow b 84 21 vp 3 (pparts cs 3) ∧ Cps b w cs 3
theorem Im.keepNo {b : Nat} {w w' : World} {x : Value} {qs : List Pt} (h : Im b w x qs) (hc : Ch No w w') : Im b w' x qs := by
  obtain ⟨vp, v, cs, rfl, h1, h2, h3⟩ := h
  exact ⟨vp, v, cs, rfl, owns_keepNo h1 hc, owns_keepNo h2 hc, h3.keepNo hc⟩
theorem Im.slices {b : Nat} {w : World} {x : Value} {qs : List Pt} (h : Im b w x qs) : ∃ A1 k1 c1 A2 k2 c2, x = .agg #[.slice A1 k1 c1, .slice A2 k2 c2, .slice none 0 0] := by
  obtain ⟨vp, v, cs, rfl, h1, h2, h3⟩ := h
  obtain ⟨A1, k1, c1, rfl⟩ := own_slice h2
  obtain ⟨A2, k2, c2, rfl⟩ := own_slice h1
  exact ⟨_, _, _, _, _, _, rfl⟩
theorem image_calls {w : World} {A : Option Addr} {n c : Nat} {ps : List Pt} (hn : n = ps.length) (hn63 : n ≤ 9223372036854775807) (hA : Pts w A ps) :
    Calls Try.prog 7 #[.slice A n c] w fun e w' => ∃ x, e = .returned x ∧ Im w.heap.size w' x (imgPts ps) ∧ Ch No w w' := by
  refine (image_walk hn hn63 hA).mono ?_
  rintro e w' ⟨vp, v, cs, rfl, h1, h2, h3, hc⟩
  exact ⟨_, rfl, ⟨vp, v, cs, rfl, h1, h2, h3⟩, hc⟩
theorem new_calls {b : Nat} {w : World} {x : Value} {qs : List Pt} (h : Im b w x qs) (hq : qs.length ≤ 1000) (part : Int) :
    Calls Try.prog 13 #[x, .int .i64 part] w fun e w' => ∃ G M f, e = .returned (.pointer (some ⟨G, 0, none⟩)) ∧ NewI w w' G M part qs qs.length f := by
  obtain ⟨vp, v, cs, rfl, h1, h2, h3⟩ := h
  obtain ⟨Av, nv, cv, rfl⟩ := own_slice h2
  rcases owns_open_sz h1 with ⟨rfl, h0⟩ | ⟨g, cap, rest, rfl, _, hr, _⟩
  · exact new_walk h0.symm hq (fun k p hk => by
      have := (List.getElem?_eq_some_iff.1 hk).1
      omega) part
  · exact new_walk rfl hq (fun k p hk => ⟨g, rfl, pcells_range hr hk⟩) part
/-- the ports of a partition, as the first call on them finds them: what is asked of a port -/
structure At (w : World) (G M n : Nat) (m : Int) (f : Int → Option Nat) (i : Int) (E : Nat) (p : Pt) (vq : Value) (has : Bool) (tick : Int) (vd : Value) (lost : Int) : Prop where
  hG : Row w G 92 [.map (some M), .int .i64 m]
  hM : PM w M n f
  hi : (Lit.int .i64 i).wf = true
  hf : f i = some E
  hE : Row w E 95 (ecells p vq has tick vd lost)
theorem At.keepNo {w w' : World} {G M n : Nat} {m : Int} {f : Int → Option Nat} {i : Int} {E : Nat} {p : Pt} {vq : Value} {has : Bool} {tick : Int} {vd : Value} {lost : Int} (h : At w G M n m f i E p vq has tick vd lost) (hc : Ch No w w') : At w' G M n m f i E p vq has tick vd lost :=
  ⟨h.hG.keepNo hc, h.hM.keepNo hc, h.hi, h.hf, h.hE.keepNo hc⟩
/-- its end is written anew -/
theorem At.set {w w' : World} {G M n : Nat} {m : Int} {f : Int → Option Nat} {i : Int} {E : Nat} {p : Pt} {vq vq' : Value} {has has' : Bool} {tick tick' : Int} {vd vd' : Value} {lost lost' : Int} (h : At w G M n m f i E p vq has tick vd lost) {D : Nat → Prop} (hc : Ch D w w') (hG : ¬ D G) (hM : ¬ D M) (hE : Row w' E 95 (ecells p vq' has' tick' vd' lost')) : At w' G M n m f i E p vq' has' tick' vd' lost' :=
  ⟨h.hG.keep hc hG, h.hM.keep hc hM, h.hi, h.hf, hE⟩
end Go.Proofs.Ytlokpcbiomjcnaa
