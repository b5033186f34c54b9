/- MemExact: mem's calls and the reference's on one memory. -/
import Derived.Test.YtbllpojljdhnoaaD2
import Derived.Test.YtbllpojljdhnoaaKe
set_option linter.unusedVariables false
set_option linter.unusedSimpArgs false
namespace Go.Proofs.Ytbllpojljdhnoaa
open Go.RowKit
/-- a list of one's own that fills its block -/
def Fl (b : Nat) (w : World) (v : Value) (xs : List Int) : Prop := ((v = .slice none 0 0 ∧ xs = []) ∨ ∃ g, b ≤ g ∧ v = .slice (some ⟨g, 0, none⟩) xs.length xs.length ∧ Row w g 2 (ints xs)) ∧ xs.length ≤ 10000000
theorem Fl.ol {b : Nat} {w : World} {v : Value} {xs : List Int} (h : Fl b w v xs) : Ol b w v xs := by
  obtain ⟨⟨rfl, rfl⟩ | ⟨g, hg, rfl, hr⟩, hl⟩ := h
  · exact ⟨owns_nil _ _ _ _, hl⟩
  · refine ⟨?_, hl⟩
    have := owns_mk (rest := []) hg (by simpa using hr) (by rw [ints_length]; unfold maxLen; simp; omega)
    simpa [ints_length] using this
theorem Fl.keepD {D : Nat → Prop} {b : Nat} {w w' : World} {v : Value} {xs : List Int} (h : Fl b w v xs) (hc : Ch D w w') (hd : ∀ k, v.ownBlock = some k → ¬ D k) : Fl b w' v xs := by
  obtain ⟨⟨rfl, rfl⟩ | ⟨g, hg, rfl, hr⟩, hl⟩ := h
  · exact ⟨.inl ⟨rfl, rfl⟩, hl⟩
  · exact ⟨.inr ⟨g, hg, rfl, hr.keep hc (hd g rfl)⟩, hl⟩
theorem Fl.keepNo {b : Nat} {w w' : World} {v : Value} {xs : List Int} (h : Fl b w v xs) (hc : Ch No w w') : Fl b w' v xs := h.keepD hc (fun _ _ => not_no _)
theorem Ol.own {b : Nat} {w : World} {v : Value} {xs : List Int} (h : Ol b w v xs) (k : Nat) (hk : v.ownBlock = some k) : b ≤ k := own_base_ h.1 k hk
/-- mem.New -/
theorem mnew_calls {w : World} {v : Value} {xs : List Int} (h : Sl w v xs) (words : Int) :
    Calls Try.prog 6 #[.int .i64 words, v] w fun e w' => ∃ v', e = .returned (.tuple #[v', .bool (mayN words xs.length)]) ∧ Fl w.heap.size w' v' (newl words xs) ∧ Ch No w w' := by
  obtain ⟨A, cap, rfl, hcl, hl⟩ := h
  unfold newl
  cases hma : mayN words xs.length
  · refine (new_no words A xs.length cap w (by omega) (mayN_no hma)).mono ?_
    rintro e w' ⟨rfl, rfl⟩
    exact ⟨_, rfl, ⟨.inl ⟨rfl, rfl⟩, by simp⟩, Ch.refl _ _⟩
  · have hn := mayN_yes hma
    refine (new_at words A cap xs w hn.1 hn.2.1 hn.2.2 hcl).mono ?_
    rintro e w' ⟨g, rfl, hg, hr, hc⟩
    have hlen : (xs ++ List.replicate (words.toNat - xs.length) 0).length = words.toNat := by simp; omega
    rw [if_pos rfl]
    exact ⟨_, rfl, ⟨.inr ⟨g, hg, by rw [hlen], hr⟩, by omega⟩, hc⟩
/-- mem.Read -/
theorem mread_calls (A : Option Addr) (cap : Nat) (addr n : Int) (xs : List Int) (w : World) (hl : xs.length ≤ 10000000) (hc : xs.length ≤ cap) (hx : Cl w A (ints xs)) :
    Calls Try.prog 18 #[.slice A xs.length cap, .int .i64 addr, .int .i64 n] w fun e w' => ∃ v', e = .returned (.tuple #[v', .bool (may xs.length 0 addr n)]) ∧ Fl w.heap.size w' v' (rdl xs addr n) ∧ Ch No w w' := by
  unfold rdl
  cases hma : may xs.length 0 addr n
  · refine (read_no A xs.length cap addr n w (by omega) hma).mono ?_
    rintro e w' ⟨rfl, rfl⟩
    exact ⟨_, rfl, ⟨.inl ⟨rfl, rfl⟩, by simp⟩, Ch.refl _ _⟩
  · have hy := may_yes hma
    refine (read_at A cap addr n xs w (by omega) hc hma hx (by omega)).mono ?_
    rintro e w' ⟨g, rfl, hg, hr, hc⟩
    have hlen : ((xs.drop addr.toNat).take n.toNat).length = n.toNat := len_at xs addr n hy.2.1 hy.2.2.2.1 (by omega)
    rw [if_pos rfl]
    exact ⟨_, rfl, ⟨.inr ⟨g, hg, by rw [hlen], hr⟩, by omega⟩, hc⟩
/-- mem.Write on a row that begins with the memory's words -/
theorem mwrite_calls (g len cap : Nat) (X M : List Int) (rest : List Value) (u : Value) (ys : List Int) (fixed addr : Int) (w : World) (hl : X.length ≤ 10000000) (hc : X.length ≤ cap) (hn : len = X.length)
    (hr : Row w g 2 (ints (X ++ M) ++ rest)) (hy : Sl w u ys) :
    Calls Try.prog 9 #[.slice (some ⟨g, 0, none⟩) len cap, .int .i64 fixed, .int .i64 addr, u] w fun e w' => e = .returned (.bool (may X.length fixed addr ys.length)) ∧ Row w' g 2 (ints (wri X fixed addr ys ++ M) ++ rest) ∧ Ch (Is g) w w' := by
  subst hn
  obtain ⟨B, c, rfl, hB, hyl⟩ := hy
  unfold wri
  cases hma : may X.length fixed addr ys.length
  · refine (write_no _ B X.length cap ys.length c fixed addr w (by omega) hma).mono ?_
    rintro e w' ⟨rfl, rfl⟩
    exact ⟨rfl, hr, Ch.refl _ _⟩
  · have hy := may_yes hma
    refine (write_yes g X.length cap c B fixed addr _ ys w (by omega) hc (by simp [ints_length]; omega) hma hr hB).mono ?_
    rintro e w' ⟨rfl, hr', hc'⟩
    rw [splice_all _ _ _ _ _ (by omega)] at hr'
    exact ⟨rfl, hr', hc'⟩
theorem mstore_calls (g len cap : Nat) (X M : List Int) (rest : List Value) (x fixed addr : Int) (w : World) (hl : X.length ≤ 10000000) (hc : X.length ≤ cap) (hn : len = X.length)
    (hr : Row w g 2 (ints (X ++ M) ++ rest)) :
    Calls Try.prog 10 #[.slice (some ⟨g, 0, none⟩) len cap, .int .i64 fixed, .int .i64 addr, .int .i64 x] w fun e w' => e = .returned (.bool (may X.length fixed addr 1)) ∧ Row w' g 2 (ints (wri X fixed addr [x] ++ M) ++ rest) ∧ Ch (Is g) w w' := by
  subst hn
  unfold wri
  cases hma : may X.length fixed addr 1
  · refine (store_no _ X.length cap fixed addr x w (by omega) hma).mono ?_
    rintro e w' ⟨rfl, hc'⟩
    exact ⟨rfl, hr.keepNo hc', hc'.mono (fun _ _ h => (not_no _ h).elim)⟩
  · have hy := may_yes hma
    refine (store_yes g X.length cap fixed addr x _ w (by omega) hc (by simp [ints_length]; omega) hma hr).mono ?_
    rintro e w' ⟨rfl, hr', hc'⟩
    rw [splice_all _ _ _ _ _ (by simp; omega)] at hr'
    exact ⟨rfl, hr', hc'⟩
end Go.Proofs.Ytbllpojljdhnoaa
