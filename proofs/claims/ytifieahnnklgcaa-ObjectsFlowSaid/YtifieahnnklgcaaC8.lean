/- ObjectsFlow: what lasts along the script. -/
import Derived.Test.YtifieahnnklgcaaC7
set_option linter.unusedVariables false
set_option linter.unusedSimpArgs false
namespace Go.Proofs.Ytifieahnnklgcaa
open Go.RowKit
/-- a partition with these two lists -/
def pcs (vS vB : Value) : List Value :=
  [.int .i64 0, .int .i64 0, .int .i64 0, .int .i64 0, .int .i64 0, .int .i64 0, .slice none 0 0, .slice none 0 0, .slice none 0 0, .int .i64 0, .int .i64 0, .int .i64 0, .int .i64 0, .int .i64 0, .int .i64 0, .int .i64 0, .int .i64 0, .int .i64 0, vS, .slice none 0 0, vB]
theorem pcs_one (g1 c1 g2 c2 : Nat) : ∀ u ∈ pcs (.slice (some ⟨g1, 0, none⟩) 1 c1) (.slice (some ⟨g2, 0, none⟩) 1 c2), u.oneCell' = true := by
  intro u hu
  simp [pcs] at hu
  rcases hu with rfl | rfl | rfl | rfl | rfl | rfl <;> rfl
theorem exec_build32 {a : Act} {o : Oper} {w : World} (x y : Operand) (ho : o.op = .build 32 #[(8, x), (10, y)]) (g1 g2 : Nat) (hx : a.eval x = .slice (some ⟨g1, 0, none⟩) 1 1) (hy : a.eval y = .slice (some ⟨g2, 0, none⟩) 1 1) :
    (execOp a.eval o).run Try.prog w = .ok (.value (.agg (pcs (.slice (some ⟨g1, 0, none⟩) 1 1) (.slice (some ⟨g2, 0, none⟩) 1 1)).toArray)) w := by
  unfold execOp
  simp only [ho]
  generalize a.eval = ρ at *
  simp only [List.map_toArray, List.map_cons, List.map_nil, hx, hy]
  kernel_rfl
/-- a call of the script -/
structure OpR where
  kind : Int
  second : Bool
  number : Int
  up : Bool
  A : Option Addr
  xs : List Int
  cap : Nat
def OpR.cells (o : OpR) : List Value := [.int .i64 o.kind, .bool o.second, .int .i64 o.number, .bool o.up, .slice o.A o.xs.length o.cap]
def Opl (w : World) (S : Option Addr) (os : List OpR) : Prop := ∀ (i : Nat) (o : OpR), os[i]? = some o → (∃ ad, S = some ad ∧ Cl w (some (ad.add (i * 5))) o.cells) ∧ Cl w o.A (ints o.xs) ∧ o.xs.length ≤ 9223372036854775807
theorem Opl.keep {w w' : World} {S : Option Addr} {os : List OpR} (h : Opl w S os) (hc : Ch No w w') : Opl w' S os := fun i o ho => by
  obtain ⟨⟨ad, e, hcell⟩, h2, h3⟩ := h i o ho
  exact ⟨⟨ad, e, hcell.keepNo hc⟩, h2.keepNo hc, h3⟩
/-- what lasts -/
structure FB (w : World) (g1 g2 b11 : Nat) (start most size dep : Int) (s : SetR) (iv : Value) (its : List (List Int)) (w' : World) : Prop where
  bs : ∃ base, Bs base s w' ∧ w.heap.size ≤ base
  par : s.most = most ∧ s.dep = dep ∧ s.siz = size
  num : 0 ≤ s.n ∧ s.n ≤ most
  inl : ∃ svi : List Value, w'.ownsRow w.heap.size 24 1 iv svi.length svi ∧ svi.length = its.length ∧ ∀ (i : Nat) (u : Value), svi[i]? = some u → ∃ xs, its[i]? = some xs ∧ Sl w u xs
  dj : ∀ k, iv.ownBlock = some k → ¬ s.vl.ownBlock = some k
  hp : Row w' b11 32 (pcs (.slice (some ⟨g1, 0, none⟩) 1 1) (.slice (some ⟨g2, 0, none⟩) 1 1))
  ha : Row w' g1 55 [.int .i64 start, .int .i64 most]
  hq : Row w' g2 57 [.int .i64 size, .int .i64 dep]
  ch : Ch No w w'
section
variable {w w1 w2 : World} {g1 g2 b11 : Nat} {start most size dep : Int} {s s' : SetR} {iv : Value} {its : List (List Int)}
theorem FB.no (h : FB w g1 g2 b11 start most size dep s iv its w1) (hc : Ch No w1 w2) : FB w g1 g2 b11 start most size dep s iv its w2 := by
  obtain ⟨base, hb, hw⟩ := h.bs
  obtain ⟨svi, a, b, c⟩ := h.inl
  exact ⟨⟨base, hb.keepNo hc, hw⟩, h.par, h.num, ⟨svi, owns_keepNo a hc, b, c⟩, h.dj, h.hp.keepNo hc, h.ha.keepNo hc, h.hq.keepNo hc, h.ch.then_ hc⟩
theorem FB.next (h : FB w g1 g2 b11 start most size dep s iv its w1) (hc : Ch (Ds s) w1 w2) {base : Nat} (hw : w.heap.size ≤ base) (hb1 : Bs base s w1) (hb : Bs base s' w2) (hpar : s'.most = s.most ∧ s'.dep = s.dep ∧ s'.siz = s.siz) (hn : 0 ≤ s'.n ∧ s'.n ≤ most) (hf : From w1 s.vl s'.vl) : FB w g1 g2 b11 start most size dep s' iv its w2 := by
  obtain ⟨svi, a, b, c⟩ := h.inl
  refine ⟨⟨base, hb, hw⟩, ⟨hpar.1.trans h.par.1, hpar.2.1.trans h.par.2.1, hpar.2.2.trans h.par.2.2⟩, hn, ⟨svi, owns_keep a hc (fun k hk hd => ?_), b, c⟩, fun k hk hd => ?_, hb1.rowK hc h.hp (by decide) (by decide) (by decide) (by decide), hb1.rowK hc h.ha (by decide) (by decide) (by decide) (by decide), hb1.rowK hc h.hq (by decide) (by decide) (by decide) (by decide), h.ch.trans hc (fun i hi hd => ?_)⟩
  · rcases hd with rfl | rfl | rfl | hd
    · exact own_ne_row a hb1.row (by decide) hk
    · exact own_ne_row a hb1.sem (by decide) hk
    · exact own_ne_row a hb1.buf (by decide) hk
    · exact h.dj k hk hd
  · rcases hf k hd with h1 | h1
    · exact h.dj k hk h1
    · have := (a.lt k hk).2
      omega
  · rcases hd with rfl | rfl | rfl | hd
    · have := hb1.bP; omega
    · have := hb1.bs; omega
    · have := hb1.bb; omega
    · have := own_base_ hb1.own i hd; omega
theorem FB.load (h : FB w g1 g2 b11 start most size dep s iv its w1) (hc : Ch No w1 w2) {base : Nat} (hw : w1.heap.size ≤ base) (hb : Bs base s' w2) (hpar : s'.most = most ∧ s'.dep = dep ∧ s'.siz = size) (hn : 0 ≤ s'.n ∧ s'.n ≤ most) (hf : ∀ k, s'.vl.ownBlock = some k → w1.heap.size ≤ k) : FB w g1 g2 b11 start most size dep s' iv its w2 := by
  obtain ⟨svi, a, b, c⟩ := h.inl
  refine ⟨⟨base, hb, Nat.le_trans h.ch.size hw⟩, hpar, hn, ⟨svi, owns_keepNo a hc, b, c⟩, fun k hk hd => ?_, h.hp.keepNo hc, h.ha.keepNo hc, h.hq.keepNo hc, h.ch.then_ hc⟩
  have := (a.lt k hk).2
  have := hf k hd
  omega
/-- one more message is noted -/
theorem FB.grow (h : FB w g1 g2 b11 start most size dep s iv its w1) {svi : List Value} {u v' : Value} {xs : List Int} (a : w1.ownsRow w.heap.size 24 1 iv svi.length svi) (b : svi.length = its.length) (c : ∀ (i : Nat) (u : Value), svi[i]? = some u → ∃ xs, its[i]? = some xs ∧ Sl w u xs) (hu : Sl w u xs) (hca : Ch No w1 w2) {w3 : World}
    (ho : w3.ownsRow w.heap.size 24 1 v' (svi ++ [u]).length (svi ++ [u])) (hg : w2.grownBy w3 iv.ownBlock) (hor : v'.ownBlock = iv.ownBlock ∨ v'.ownBlock = some w2.heap.size) : FB w g1 g2 b11 start most size dep s v' (its ++ [xs]) w3 := by
  have h2 := h.no hca
  have a2 := owns_keepNo a hca
  have hcg := Ch.of_grownBy hg
  have hall : ∀ {g : Nat} {t : TypeId} {L : List Value}, Row w2 g t L → t ≠ 24 → Row w3 g t L := fun hr ht => hr.keep hcg (fun hk => own_ne_row a2 hr ht hk)
  obtain ⟨base, hb, hw⟩ := h2.bs
  refine ⟨⟨base, ⟨hall hb.row (by decide), hall hb.sem (by decide), hall hb.buf (by decide), owns_keep hb.own hcg (fun k hk hd => h.dj k hd hk), fun i v hv => ?_, hb.len, hb.bP, hb.bs, hb.bb, Nat.le_trans hb.hb hcg.size, hb.small⟩, hw⟩, h.par, h.num, ⟨svi ++ [u], ho, by simp [b], fun i v hv => ?_⟩, fun k hk hd => ?_, hall h2.hp (by decide), hall h2.ha (by decide), hall h2.hq (by decide), grown_no (Nat.le_refl _) a2 hg h2.ch⟩
  · obtain ⟨xs, p, q⟩ := hb.msg i v hv
    exact ⟨xs, p, q.other (fun g L hr => hall hr (by decide))⟩
  · by_cases hi : i < svi.length
    · rw [List.getElem?_append_left hi] at hv
      obtain ⟨ys, p, q⟩ := c i v hv
      exact ⟨ys, by rw [List.getElem?_append_left (by omega)]; exact p, q⟩
    · rw [List.getElem?_append_right (by omega)] at hv
      obtain ⟨hi0, rfl⟩ := List.getElem?_eq_some_iff.1 hv
      have hi0' : i - svi.length = 0 := by simpa using hi0
      exact ⟨xs, by rw [List.getElem?_append_right (by omega), show i - its.length = 0 by omega]; rfl, by simpa [hi0'] using hu⟩
  · rcases hor with e | e
    · exact h.dj k (e ▸ hk) hd
    · rw [e] at hk
      cases hk
      have := (hb.own.lt _ hd).2
      omega
end
end Go.Proofs.Ytifieahnnklgcaa
