/- Small laws over any program: worlds that differ in some blocks alone ('Ch'), blocks that are known whole ('Row'), cells that are read ('Cl'); copy, append and make in these words. No conditions of the seat's. -/
import Derived.WalkKit
import Derived.WalkSpells
import Derived.WalkLawsBesides
import Derived.BigQuiet
import Derived.Deep.QuietTactic
import Derived.Deep.LoopGhost
import Derived.Lib.Hide
import Derived.Maps.AppendAt
import Derived.Laws.CopyOwn
import Derived.Laws.OwnMore
set_option linter.unusedVariables false
set_option linter.unusedSimpArgs false
namespace Go.Proofs.Ytlokpcbiomjcnaa
open Go.RowKit

/-! ### worlds -/
/-- w' is w but in the blocks D and in new ones. -/
structure Ch (D : Nat → Prop) (w w' : World) : Prop where
  os : w'.os = w.os
  tape : w'.tape = w.tape
  output : w'.output = w.output
  size : w.heap.size ≤ w'.heap.size
  block : ∀ k, k < w.heap.size → ¬ D k → w'.heap[k]? = w.heap[k]?
/-- no block -/
def No : Nat → Prop := fun _ => False
/-- the block g -/
def Is (g : Nat) : Nat → Prop := fun k => k = g
theorem not_no (k : Nat) : ¬ No k := fun h => h
theorem is_self (g : Nat) : Is g g := rfl
theorem Ch.refl (D : Nat → Prop) (w : World) : Ch D w w := ⟨rfl, rfl, rfl, Nat.le_refl _, fun _ _ _ => rfl⟩
theorem Ch.mono {D D' : Nat → Prop} {w w' : World} (h : Ch D w w') (hd : ∀ k, k < w.heap.size → D k → D' k) : Ch D' w w' :=
  ⟨h.os, h.tape, h.output, h.size, fun k hk hn => h.block k hk (fun hd' => hn (hd k hk hd'))⟩
theorem Ch.trans {D D' : Nat → Prop} {a b c : World} (h : Ch D a b) (k : Ch D' b c) (hd : ∀ i, i < a.heap.size → D' i → D i) : Ch D a c :=
  ⟨k.os.trans h.os, k.tape.trans h.tape, k.output.trans h.output, Nat.le_trans h.size k.size,
   fun i hi hn => (k.block i (Nat.lt_of_lt_of_le hi h.size) (fun hd' => hn (hd i hi hd'))).trans (h.block i hi hn)⟩
theorem Ch.then_ {D : Nat → Prop} {a b c : World} (h : Ch D a b) (k : Ch No b c) : Ch D a c := h.trans k (fun _ _ hd => hd.elim)
theorem Ch.drew {D : Nat → Prop} {a w : World} (h : Ch D a w) : Ch D a w.drew := ⟨h.os, h.tape, h.output, h.size, h.block⟩
theorem Ch.drewN {D : Nat → Prop} {a w : World} (h : Ch D a w) (n : Nat) : Ch D a (w.drewN n) := ⟨h.os, h.tape, h.output, h.size, h.block⟩
theorem Ch.undrew {D : Nat → Prop} {a w : World} (h : Ch D a.drew w) : Ch D a w := ⟨h.os, h.tape, h.output, h.size, h.block⟩
theorem Ch.undrewN {D : Nat → Prop} {a w : World} {n : Nat} (h : Ch D (a.drewN n) w) : Ch D a w := ⟨h.os, h.tape, h.output, h.size, h.block⟩
theorem Ch.alloc {D : Nat → Prop} {a w : World} (h : Ch D a w) (o : Obj) : Ch D a (w.alloc o) :=
  h.trans (D' := No) ⟨rfl, rfl, rfl, by simp, fun k hk _ => Below.heap_alloc w o k hk⟩ (fun _ _ hd => hd.elim)
theorem Ch.setCell {D : Nat → Prop} {a w : World} (h : Ch D a w) {p : Addr} (hp : p.block < a.heap.size → D p.block) (u : Value) : Ch D a (w.setCell p u) :=
  h.trans (D' := Is p.block) ⟨rfl, rfl, rfl, by simp, fun k hk hn => Below.heap_setCell w p u k (fun e => hn e)⟩ (fun i hi hd => by cases hd; exact hp hi)
theorem Ch.of_grownBy {w w' : World} {row : Option Nat} (h : w.grownBy w' row) : Ch (fun k => row = some k) w w' :=
  ⟨h.os, h.tape, h.output, h.size, fun k hk hn => h.block k hk (fun e => hn e.symm)⟩
theorem Ch.below {w w' : World} (h : Ch No w w') : Below w.heap.size w w' := ⟨h.os, h.tape, h.output, h.size, fun k hk => h.block k hk (not_no k)⟩
theorem Ch.of_below {w w' : World} (h : Below w.heap.size w w') : Ch No w w' := ⟨h.os, h.tape, h.output, h.size, fun k hk _ => h.block k hk⟩
/-- all old cells and marks are as before: rules for the walk -/
theorem Ch.cells {w w' : World} (h : Ch No w w') : (∀ b o, b < w.heap.size → w'.cell? ⟨b, o, none⟩ = w.cell? ⟨b, o, none⟩) ∧ (∀ b o, b < w.heap.size → w'.frozen? ⟨b, o, none⟩ = w.frozen? ⟨b, o, none⟩) :=
  ⟨fun b o hb => h.below.cell (p := ⟨b, o, none⟩) hb, fun b o hb => h.below.frozen (p := ⟨b, o, none⟩) hb⟩
theorem Ch.no {D : Nat → Prop} {w w' : World} (h : Ch D w w') (hd : ∀ k, k < w.heap.size → ¬ D k) : Ch No w w' := h.mono (fun k hk hk' => (hd k hk hk').elim)
theorem Ch.cell {D : Nat → Prop} {w w' : World} (h : Ch D w w') {a : Addr} {v : Value} (hd : ¬ D a.block) (hc : w.cell? a = some v) : w'.cell? a = some v :=
  (World.cell?_of_block (h.block a.block (World.block_lt_of_cell? w a hc) hd)).trans hc
/-- only draws -/
def Dr (w w' : World) : Prop := ∃ n, w' = w.drewN n
theorem Dr.refl (w : World) : Dr w w := ⟨0, rfl⟩
theorem Dr.step (w : World) (n : Nat) : Dr w (w.drewN n) := ⟨n, rfl⟩
theorem Dr.more {w w' : World} (h : Dr w w') (n : Nat) : Dr w (w'.drewN n) := by
  obtain ⟨m, rfl⟩ := h
  exact ⟨m + n, World.drewN_drewN ..⟩
theorem Dr.drew {w w' : World} (h : Dr w w') : Dr w w'.drew := h.more 1
theorem Dr.ch {w w' : World} (h : Dr w w') : Ch No w w' := by
  obtain ⟨m, rfl⟩ := h
  exact (Ch.refl No w).drewN m

/-! ### blocks that are known whole -/
/-- block g holds just these cells, of elements of type t -/
def Row (w : World) (g : Nat) (t : TypeId) (L : List Value) : Prop := w.heap[g]? = some (.cells L.toArray t (0, 0))
theorem Row.lt {w : World} {g : Nat} {t : TypeId} {L : List Value} (h : Row w g t L) : g < w.heap.size := (Array.getElem?_eq_some_iff.1 h).1
theorem Row.keep {D : Nat → Prop} {w w' : World} {g : Nat} {t : TypeId} {L : List Value} (h : Row w g t L) (hc : Ch D w w') (hd : ¬ D g) : Row w' g t L := (hc.block g h.lt hd).trans h
theorem Row.keepNo {w w' : World} {g : Nat} {t : TypeId} {L : List Value} (h : Row w g t L) (hc : Ch No w w') : Row w' g t L := h.keep hc (not_no g)
theorem Row.keepIs {w w' : World} {g g' : Nat} {t : TypeId} {L : List Value} (h : Row w g t L) (hc : Ch (Is g') w w') (hd : g ≠ g') : Row w' g t L := h.keep hc hd
theorem Row.cell {w : World} {g : Nat} {t : TypeId} {L : List Value} (h : Row w g t L) (i : Nat) : w.cell? ⟨g, i, none⟩ = L[i]? := by
  have := cell_of_row w g i L.toArray t (0, 0) h
  simpa using this
theorem Row.frozen {w : World} {g : Nat} {t : TypeId} {L : List Value} (h : Row w g t L) (i : Nat) : w.frozen? ⟨g, i, none⟩ = false := frozen_of_row w g i L.toArray t h
theorem Row.new (w : World) (t : TypeId) (L : List Value) : Row (w.alloc (.cells L.toArray t)) w.heap.size t L := heap_alloc_new w _
theorem Row.new_at (w : World) (t : TypeId) (L : List Value) {g : Nat} (hg : g = w.heap.size) : Row (w.alloc (.cells L.toArray t)) g t L := by subst hg; exact Row.new w t L
theorem Row.new_ (w : World) (t : TypeId) (A : Array Value) : Row (w.alloc (.cells A t)) w.heap.size t A.toList := by
  have := heap_alloc_new w (.cells A t (0, 0))
  unfold Row
  simpa using this
theorem Row.alloc {w : World} {g : Nat} {t : TypeId} {L : List Value} (h : Row w g t L) (o : Obj) : Row (w.alloc o) g t L := h.keepNo ((Ch.refl No w).alloc o)
theorem Row.drew {w : World} {g : Nat} {t : TypeId} {L : List Value} (h : Row w g t L) : Row w.drew g t L := h
theorem Row.drewN {w : World} {g : Nat} {t : TypeId} {L : List Value} (h : Row w g t L) (n : Nat) : Row (w.drewN n) g t L := h
theorem Row.set_ {w : World} {g : Nat} {t : TypeId} {L : List Value} (h : Row w g t L) (i : Nat) (u : Value) : Row (w.setCell ⟨g, i, none⟩ u) g t (L.set i u) := by
  have := heap_setCell_same w g i L.toArray t u h
  unfold Row
  simpa using this
theorem Row.setOther {w : World} {g : Nat} {t : TypeId} {L : List Value} (h : Row w g t L) {p : Addr} (hp : g ≠ p.block) (u : Value) : Row (w.setCell p u) g t L :=
  (Below.heap_setCell w p u g hp).trans h
theorem Row.eq_ {w : World} {g : Nat} {t t' : TypeId} {L L' : List Value} (h : Row w g t L) (h' : Row w g t' L') : t = t' ∧ L = L' := by
  unfold Row at h h'
  rw [h] at h'
  simp at h'
  exact ⟨h'.2, h'.1⟩

/-! ### cells that are read -/
/-- from the address A on lie these cells -/
def Cl (w : World) (A : Option Addr) (vs : List Value) : Prop := ∀ j v, vs[j]? = some v → ∃ ad, A = some ad ∧ w.cell? (ad.add j) = some v
theorem Cl.nil (w : World) (A : Option Addr) : Cl w A [] := fun j v h => by simp at h
theorem Cl.keep {D : Nat → Prop} {w w' : World} {A : Option Addr} {vs : List Value} (h : Cl w A vs) (hc : Ch D w w') (hd : ∀ ad, A = some ad → ¬ D ad.block) : Cl w' A vs := fun j v hj => by
  obtain ⟨ad, e, hcell⟩ := h j v hj
  refine ⟨ad, e, hc.cell ?_ hcell⟩
  have : (ad.add j).block = ad.block := by unfold Addr.add; split <;> rfl
  rw [this]
  exact hd ad e
theorem Cl.keepNo {w w' : World} {A : Option Addr} {vs : List Value} (h : Cl w A vs) (hc : Ch No w w') : Cl w' A vs := h.keep hc (fun _ _ => not_no _)
theorem Cl.take {w : World} {A : Option Addr} {vs : List Value} (h : Cl w A vs) (n : Nat) : Cl w A (vs.take n) := fun j v hj => by
  rw [List.getElem?_take] at hj
  split at hj
  · exact h j v hj
  · cases hj
theorem add_lit (g o j : Nat) : (⟨g, o, none⟩ : Addr).add j = ⟨g, o + j, none⟩ := by unfold Addr.add; split <;> simp_all
theorem add_add (a : Addr) (i j : Nat) : (a.add i).add j = a.add (i + j) := by
  unfold Addr.add
  by_cases h1 : i = 0
  · subst h1; simp
  · by_cases h2 : j = 0
    · subst h2; simp
    · rw [if_neg h1, if_neg h2, if_neg (by omega)]
      simp [Nat.add_assoc]
theorem add_zero (a : Addr) : a.add 0 = a := by simp [Addr.add]
theorem Row.cl {w : World} {g : Nat} {t : TypeId} {L : List Value} (h : Row w g t L) (o : Nat) : Cl w (some ⟨g, o, none⟩) (L.drop o) := fun j v hj => by
  refine ⟨_, rfl, ?_⟩
  rw [add_lit, h.cell]
  simpa using hj
theorem Row.cl0 {w : World} {g : Nat} {t : TypeId} {L : List Value} (h : Row w g t L) : Cl w (some ⟨g, 0, none⟩) L := by simpa using h.cl 0
theorem Cl.at_ {w : World} {ad : Addr} {vs : List Value} (h : Cl w (some ad) vs) {j : Nat} (hj : j < vs.length) : w.cell? (ad.add j) = some vs[j] := by
  obtain ⟨ad', e, hc⟩ := h j _ (List.getElem?_eq_getElem hj)
  cases e
  exact hc
theorem Cl.addr {w : World} {A : Option Addr} {vs : List Value} (h : Cl w A vs) (hp : 0 < vs.length) : ∃ ad, A = some ad := by
  obtain ⟨ad, e, _⟩ := h 0 _ (List.getElem?_eq_getElem hp)
  exact ⟨ad, e⟩
theorem Cl.drop {w : World} {ad : Addr} {vs : List Value} (h : Cl w (some ad) vs) (i : Nat) : Cl w (some (ad.add i)) (vs.drop i) := fun j v hj => by
  refine ⟨_, rfl, ?_⟩
  rw [List.getElem?_drop] at hj
  obtain ⟨ad', e, hc⟩ := h (i + j) v hj
  cases e
  rw [add_add]
  exact hc

/-- the cells from an address on, in the walk's own spelling -/
theorem Cl.first {w : World} {b : Addr} {vs : List Value} {v : Value} (h : Cl w (some b) vs) (hv : vs[0]? = some v) : w.cell? b = some v := by
  obtain ⟨ad, e, hc⟩ := h 0 v hv
  cases e
  rwa [add_zero] at hc
theorem Cl.next {w : World} {b : Addr} {vs : List Value} {v : Value} (h : Cl w (some b) vs) (j : Nat) (hv : vs[j + 1]? = some v) : w.cell? ⟨b.block, b.off + (j + 1), none⟩ = some v := by
  obtain ⟨ad, e, hc⟩ := h (j + 1) v hv
  cases e
  unfold Addr.add at hc
  rwa [if_neg (by omega)] at hc

/-! ### whole numbers as cells -/
def ints (xs : List Int) : List Value := xs.map (Value.int .i64)
theorem ints_length (xs : List Int) : (ints xs).length = xs.length := by simp [ints]
theorem ints_append (xs ys : List Int) : ints (xs ++ ys) = ints xs ++ ints ys := by simp [ints]
theorem ints_take (xs : List Int) (n : Nat) : (ints xs).take n = ints (xs.take n) := by simp [ints]
theorem ints_drop (xs : List Int) (n : Nat) : (ints xs).drop n = ints (xs.drop n) := by simp [ints]
theorem ints_get (xs : List Int) (i : Nat) (h : i < xs.length) : (ints xs)[i]? = some (.int .i64 xs[i]) := by simp [ints, h]
theorem ints_one (xs : List Int) : ∀ v ∈ ints xs, v.oneCell' = true := by
  intro v hv
  simp only [ints, List.mem_map] at hv
  obtain ⟨x, _, rfl⟩ := hv
  rfl
/-- the k-th number; 0 beyond the end (a name of its own: the walk leaves it as it is) -/
def rd (xs : List Int) (k : Nat) : Int := xs.getD k 0
theorem rd_at (xs : List Int) (k : Nat) (h : k < xs.length) : rd xs k = xs[k] := by simp [rd, h]
theorem rd_ext {xs ys : List Int} (hl : xs.length = ys.length) (h : ∀ k, k < xs.length → rd xs k = rd ys k) : xs = ys :=
  List.ext_getElem hl fun k h1 h2 => by
    have := h k h1
    rw [rd_at _ _ h1, rd_at _ _ h2] at this
    exact this
theorem rd_take (xs : List Int) (n k : Nat) (h : k < n) : rd (xs.take n) k = rd xs k := by simp [rd, List.getElem?_take, h]
theorem rd_drop (xs : List Int) (n k : Nat) : rd (xs.drop n) k = rd xs (n + k) := by simp [rd]
theorem rd_left (xs ys : List Int) (k : Nat) (h : k < xs.length) : rd (xs ++ ys) k = rd xs k := by simp [rd, List.getElem?_append_left h]
theorem rd_right (xs ys : List Int) (k : Nat) : rd (xs ++ ys) (xs.length + k) = rd ys k := by simp [rd, List.getElem?_append_right]
theorem ints_get_rd (xs : List Int) (k : Nat) (h : k < xs.length) : (ints xs)[k]? = some (.int .i64 (rd xs k)) := by rw [ints_get xs k h, rd_at xs k h]
theorem cl_rd {w : World} {A : Option Addr} {xs : List Int} (h : Cl w A (ints xs)) (k : Nat) (hk : k < xs.length) : ∃ ad, A = some ad ∧ w.cell? (ad.add k) = some (.int .i64 (rd xs k)) := by
  obtain ⟨ad, e, hc⟩ := h k _ (ints_get_rd xs k hk)
  exact ⟨ad, e, hc⟩
theorem row_rd {w : World} {g : Nat} {t : TypeId} {xs : List Int} {rest : List Value} (h : Row w g t (ints xs ++ rest)) (k : Nat) (hk : k < xs.length) : w.cell? ⟨g, k, none⟩ = some (.int .i64 (rd xs k)) := by
  rw [h.cell, List.getElem?_append_left (by rw [ints_length]; exact hk), ints_get_rd xs k hk]
theorem ints_inj {xs ys : List Int} (h : ints xs = ints ys) : xs = ys := by
  unfold ints at h
  exact List.map_inj_right (fun a b e => by simpa using e) |>.1 h

/-! ### copy -/
theorem splice_nil {α : Type} (L : List α) (o : Nat) : splice L o [] = L := by simp [splice]
theorem Row.setRow {w : World} {g : Nat} {t : TypeId} {L : List Value} (h : Row w g t L) (L' : List Value) : Row (w.setRow g L'.toArray) g t L' := setRow_heap w g _ _ t _ h
theorem ch_setRow (w : World) (g : Nat) (cs : Array Value) : Ch (Is g) w (w.setRow g cs) := ⟨rfl, rfl, rfl, by simp [World.setRow], fun k _ hn => setRow_other w g k cs hn⟩
/-- copy onto a block that is known whole, from whatever cells (the same block's, too: all is read first) -/
theorem wpList_copy_to {P : Program} {w : World} {ops : Array Oper} {rest : List Oper} {o : Oper} {a : Act} {Q : Exit → Act → World → Prop} (hgd : o.guard = none) (d s : Operand) (dT sT : TypeId)
    (ho : o.op = .call { callee := .builtin .copy, args := #[d, s], argTypes := #[dT, sT] }) (elem : TypeId) (hu : P.underlying dT = some (.slice elem)) (hsz : (P.info? elem).map (·.size) = some 1)
    (dp sp : Option Addr) (dLen dCap sLen sCap : Nat) (hd : a.eval d = .slice dp dLen dCap) (hs : a.eval s = .slice sp sLen sCap)
    (g off : Nat) (L : List Value) (t : TypeId) (hg : Row w g t L) (cs : List Value) (hn : cs.length = Nat.min sLen dLen)
    (hpos : 0 < cs.length → dp = some ⟨g, off, none⟩) (hsrc : Cl w sp cs)
    (hfit : off + cs.length ≤ L.length) (h1 : ∀ v ∈ cs, v.oneCell' = true)
    (h : ∀ w', Row w' g t (splice L off cs) → Ch (Is g) w w' → wpList P ops Q rest (a.put o.dst (goInt cs.length)) w') :
    wpList P ops Q (o :: rest) a w := by
  by_cases h0 : cs.length = 0
  · obtain rfl : cs = [] := List.eq_nil_of_length_eq_zero h0
    refine wpList_copy_nothing hgd d s dT sT ho elem hu hsz dp sp dLen dCap sLen sCap hd hs (by simpa using hn.symm) ?_
    exact h w (by rw [splice_nil]; exact hg) (Ch.refl _ w)
  · obtain rfl := hpos (by omega)
    obtain ⟨ad, rfl⟩ := hsrc.addr (by omega)
    refine wpList_copy_own hgd d s dT sT ho elem hu hsz g off dLen dCap ad sLen sCap hd hs L.toArray t hg cs hn (fun j v hj => by
      obtain ⟨ad', e, hc⟩ := hsrc j v hj
      cases e
      exact hc) (by simpa using hfit) h1 ?_
    have e : (L.toArray.toList.take off ++ (cs ++ L.toArray.toList.drop (off + cs.length))).toArray = (splice L off cs).toArray := by simp [splice]
    rw [e]
    exact h _ (hg.setRow _) (ch_setRow w g _)

/-! ### whole structs and arrays, by value -/
theorem wpList_want {P : Program} {ops : Array Oper} {rest : List Oper} {o : Oper} {a : Act} {Q : Exit → Act → World → Prop} {w : World} (hw : Region.wanted o (yielded ops a.tmps) = true)
    (h : ∀ K : Act → World → Prop, (∀ a w, wpList P ops Q rest a w → K a w) → o.wp P a w K Q) : wpList P ops Q (o :: rest) a w := by
  unfold wpList
  rw [if_pos hw]
  exact .inl (h _ (fun _ _ h => h))
/-- a whole struct or array is read -/
theorem wpList_load_agg {P : Program} {ops : Array Oper} {rest : List Oper} {o : Oper} {a : Act} {Q : Exit → Act → World → Prop} {w : World} (hw : Region.wanted o (yielded ops a.tmps) = true) (ty : TypeId) (x : Operand) (ho : o.op = .load ty x)
    (g : Nat) (hx : a.eval x = .pointer (some ⟨g, 0, none⟩)) (t : TypeId) (L : List Value) (hr : Row w g t L) (d : TypeDesc)
    (hu : P.underlying ty = some d) (hd : (match d with | .struct _ | .array _ _ => true | _ => false) = true) (hi : (P.info? ty).map (·.size) = some L.length)
    (h : wpList P ops Q rest (a.put o.dst (.agg L.toArray)) w) : wpList P ops Q (o :: rest) a w :=
  wpList_want hw fun _ hK => wp_load_row ty x ho g hx t L.toArray (0, 0) d hr hu hd (by simpa using hi) (hK _ _ h)
/-- a whole struct or array is written over a block that is known whole -/
theorem wpList_store_agg {P : Program} {ops : Array Oper} {rest : List Oper} {o : Oper} {a : Act} {Q : Exit → Act → World → Prop} {w : World} (hw : Region.wanted o (yielded ops a.tmps) = true) (ty : TypeId) (x y : Operand) (ho : o.op = .store ty x y)
    (g : Nat) (hx : a.eval x = .pointer (some ⟨g, 0, none⟩)) (t : TypeId) (L L' : List Value) (hy : a.eval y = .agg L'.toArray) (hr : Row w g t L) (hi : (P.info? ty).map (·.size) = some L'.length) (hl : L'.length = L.length) (h1 : ∀ v ∈ L', v.oneCell' = true)
    (h : ∀ w', Row w' g t L' → Ch (Is g) w w' → wpList P ops Q rest (a.put o.dst undef) w') : wpList P ops Q (o :: rest) a w :=
  wpList_want hw fun _ hK => by
    refine wp_store_row ty x y ho g L'.toArray hx hy t L.toArray hr (by simpa using hi) (by simp [hl]) (by simpa using h1) ?_
    exact hK _ _ (h _ (hr.setRow _) (ch_setRow w g _))
/-- the result that lies in a block -/
theorem results_row {P : Program} {fn : Func} {p : Tmp} {ty : TypeId} (h : fn.results = #[.cell p ty]) (tmps : Array Value) (w : World) (g : Nat) (t : TypeId) (L : List Value) (d : TypeDesc)
    (hp : tmps.getD p undef = .pointer (some ⟨g, 0, none⟩)) (hr : Row w g t L)
    (hu : P.underlying ty = some d) (hd : (match d with | .struct _ | .array _ _ => true | _ => false) = true) (hi : (P.info? ty).map (·.size) = some L.length) :
    (results fn tmps).run P w = .ok (.agg L.toArray) w :=
  results_cell_row h tmps w g t L.toArray (0, 0) d hp hr hu hd (by simpa using hi)

/-! ### make -/
/-- make([]T, n) of one-cell elements, laid ahead of the walk -/
theorem run_make_one {P : Program} (t e : TypeId) (z : Value) (bytes : Nat) (ht : P.underlying t = some (.slice e)) (hinfo : (P.info? e).map (fun i => (i.zero, i.size, i.bytes)) = some (some z, 1, bytes)) (hz : z.cells = #[z]) (n : Int) (h0 : 0 ≤ n) (hn : n.toNat * bytes ≤ 281474976710656) (h63 : n ≤ 9223372036854775807) :
    ∀ W : World, (Instr.makeSlice t (.int .i64 n) (.int .i64 n)).run P W = .ok (.slice (some ⟨W.heap.size, 0, none⟩) n.toNat n.toNat) (W.alloc (.cells (List.replicate n.toNat z).toArray e)) := by
  intro W
  obtain ⟨i0, hi, hzz⟩ := Option.map_eq_some_iff.1 hinfo
  simp only [Prod.mk.injEq] at hzz
  obtain ⟨hz0, hz1, hz2⟩ := hzz
  have hb : n * (bytes : Int) ≤ 281474976710656 := by
    have e1 : n = (n.toNat : Int) := (Int.toNat_of_nonneg h0).symm
    rw [e1, ← Int.natCast_mul]
    omega
  have h := run_make (P := P) W t e i0 z ht hi hz0 .i64 .i64 n n h0 (Int.le_refl _) (by rw [hz2, Int.mul_comm]; exact hb) h63
  rw [h, hz1, Nat.mul_one, hz]
  have e1 : madeCells #[z] n.toNat = (List.replicate n.toNat z).toArray := by
    apply Array.toList_inj.1
    rw [toList_madeCells_one]
  rw [e1]

/-! ### append -/
/-- what append gives: the slice (of one-cell elements) -/
theorem run_append_to {P : Program} (w : World) (base : Nat) (t ty e : TypeId) (z : Value) (bytes : Nat) (ht : P.underlying t = some (.slice e)) (hinfo : (P.info? e).map (fun i => (i.zero, i.size, i.bytes)) = some (some z, 1, bytes)) (hz : z.cells = #[z])
    (v : Value) (xs : List Value) (hown : w.ownsRow base e 1 v xs.length xs)
    (A : Option Addr) (m c : Nat) (news : List Value) (hl : news.length = m) (hnews : Cl w A news) (h1 : ∀ u ∈ news, u.oneCell' = true)
    (hbytes : (xs.length + m) * bytes ≤ 140737488355328) (hb0 : 0 < bytes) (hbase : base ≤ w.heap.size) :
    ∃ v' w', (Builtin.append_ #[t, t] ty #[v, .slice A m c]).run P w = .ok v' w' ∧ w'.ownsRow base e 1 v' (xs ++ news).length (xs ++ news) ∧ w.grownBy w' v.ownBlock ∧ (v'.ownBlock = v.ownBlock ∨ v'.ownBlock = some w.heap.size) := by
  obtain ⟨i0, hi, hzz⟩ := Option.map_eq_some_iff.1 hinfo
  simp only [Prod.mk.injEq] at hzz
  obtain ⟨hz0, hz1, hz2⟩ := hzz
  have hlen : xs.length + m ≤ 140737488355328 := Nat.le_trans (Nat.le_mul_of_pos_right _ hb0) hbytes
  have hcell : ∀ (ad : Addr), A = some ad → ∀ j u, news[j]? = some u → w.cell? (ad.add j) = some u := fun ad e j u hj => by
    obtain ⟨ad', e', hc⟩ := hnews j u hj
    rw [e] at e'
    cases e'
    exact hc
  cases A with
  | some ad =>
    obtain ⟨v', w', hr, h2, h3, _, h5⟩ := run_append_own_at (P := P) w base t ty e i0 z 1 bytes ht hi hz0 hz1 hz2 (by rw [hz]; rfl) (by omega) v xs.length xs hown ad m c news (by omega) (hcell ad rfl) h1 (by simp only [maxLen]; omega) hbytes hbase
    refine ⟨v', w', hr, ?_, h3, h5⟩
    rw [List.length_append, hl]
    exact h2
  | none =>
    have hm : news = [] := by
      cases hn : news with
      | nil => rfl
      | cons a r =>
        obtain ⟨ad, e, _⟩ := hnews 0 a (by simp [hn])
        cases e
    subst hm
    have h0 : m = 0 := by simpa using hl.symm
    subst h0
    have hr : (Builtin.append_ #[t, t] ty #[v, .slice none 0 c]).run P w = .ok v w := by
      rcases hown.2 with ⟨rfl, hx⟩ | ⟨g, cap, cur, rfl, _, _, hnc, _⟩
      · simp [Builtin.append_, run_underlying ht, sizeOf, typeInfo, hi, Builtin.lenOf, Builtin.firstCells]
      · simp [Builtin.append_, run_underlying ht, sizeOf, typeInfo, hi, Builtin.lenOf, Builtin.firstCells, hnc, storeCells]
    exact ⟨v, w, hr, by simpa using hown, World.grownBy.refl w _, .inl rfl⟩

theorem wpList_append_to {P : Program} {w : World} {ops : Array Oper} {rest : List Oper} {o : Oper} {a : Act} {Q : Exit → Act → World → Prop} (hgd : o.guard = none) (s x : Operand) (t : TypeId)
    (ho : o.op = .call { callee := .builtin .append, args := #[s, x], argTypes := #[t, t] })
    (base : Nat) (e : TypeId) (z : Value) (bytes : Nat) (ht : P.underlying t = some (.slice e)) (hinfo : (P.info? e).map (fun i => (i.zero, i.size, i.bytes)) = some (some z, 1, bytes)) (hz : z.cells = #[z])
    (v : Value) (xs : List Value) (hs : a.eval s = v) (A : Option Addr) (m c : Nat) (news : List Value) (hx : a.eval x = .slice A m c) (hown : w.ownsRow base e 1 v xs.length xs)
    (hl : news.length = m) (hnews : Cl w A news) (h1 : ∀ u ∈ news, u.oneCell' = true)
    (hbytes : (xs.length + m) * bytes ≤ 140737488355328) (hb0 : 0 < bytes) (hbase : base ≤ w.heap.size)
    (h : ∀ v' w', w'.ownsRow base e 1 v' (xs ++ news).length (xs ++ news) → w.grownBy w' v.ownBlock → (v'.ownBlock = v.ownBlock ∨ v'.ownBlock = some w.heap.size) → wpList P ops Q rest (a.put o.dst v') w') : wpList P ops Q (o :: rest) a w := by
  obtain ⟨v', w', hr, h2, h3, h4⟩ := run_append_to (P := P) w base t o.type e z bytes ht hinfo hz v xs hown A m c news hl hnews h1 hbytes hb0 hbase
  refine wpList_plain hgd fun K hK => ?_
  unfold Oper.wp execOp
  simp only [ho, resolve, invoke, builtin, Sem.run_bind, Sem.run_pure, Result.andThen_ok, List.map_toArray, List.map_cons, List.map_nil, hs, hx, hr]
  exact hK _ _ (h v' w' h2 h3 h4)
/-- append of elements of any number of cells -/
theorem wpList_append_sz {P : Program} {w : World} {ops : Array Oper} {rest : List Oper} {o : Oper} {a : Act} {Q : Exit → Act → World → Prop} (hgd : o.guard = none) (s x : Operand) (t : TypeId)
    (ho : o.op = .call { callee := .builtin .append, args := #[s, x], argTypes := #[t, t] })
    (base : Nat) (e : TypeId) (z : Value) (size bytes : Nat) (ht : P.underlying t = some (.slice e)) (hinfo : (P.info? e).map (fun i => (i.zero, i.size, i.bytes)) = some (some z, size, bytes)) (hz : z.cells.size = size) (hsz : 0 < size)
    (v : Value) (n : Nat) (xs : List Value) (hs : a.eval s = v) (ad : Addr) (m c : Nat) (news : List Value) (hx : a.eval x = .slice (some ad) m c) (hown : w.ownsRow base e size v n xs)
    (hl : news.length = m * size) (hnews : Cl w (some ad) news) (h1 : ∀ u ∈ news, u.oneCell' = true)
    (hm : n + m ≤ 140737488355328) (hbytes : (n + m) * bytes ≤ 140737488355328) (hbase : base ≤ w.heap.size)
    (h : ∀ v' w', w'.ownsRow base e size v' (n + m) (xs ++ news) → w.grownBy w' v.ownBlock → (v'.ownBlock = v.ownBlock ∨ v'.ownBlock = some w.heap.size) → wpList P ops Q rest (a.put o.dst v') w') : wpList P ops Q (o :: rest) a w := by
  obtain ⟨i0, hi, hzz⟩ := Option.map_eq_some_iff.1 hinfo
  simp only [Prod.mk.injEq] at hzz
  obtain ⟨hz0, hz1, hz2⟩ := hzz
  obtain ⟨v', w', hr, h2, h3, _, h5⟩ := run_append_own_at (P := P) w base t o.type e i0 z size bytes ht hi hz0 hz1 hz2 hz hsz v n xs hown ad m c news hl (fun j u hj => by
    obtain ⟨ad', e', hc⟩ := hnews j u hj
    cases e'
    exact hc) h1 (by simp only [maxLen]; omega) hbytes hbase
  refine wpList_plain hgd fun K hK => ?_
  unfold Oper.wp execOp
  simp only [ho, resolve, invoke, builtin, Sem.run_bind, Sem.run_pure, Result.andThen_ok, List.map_toArray, List.map_cons, List.map_nil, hs, hx, hr]
  exact hK _ _ (h v' w' h2 h3 h5)
/-- an owned row, opened -/
theorem owns_open_sz {w : World} {base : Nat} {e : TypeId} {size n : Nat} {v : Value} {xs : List Value} (h : w.ownsRow base e size v n xs) :
    (v = .slice none 0 0 ∧ n = 0) ∨ ∃ g cap rest, v = .slice (some ⟨g, 0, none⟩) n cap ∧ base ≤ g ∧ Row w g e (xs ++ rest) ∧ n ≤ cap ∧ cap ≤ maxLen ∧ xs.length + rest.length = cap * size := by
  rcases h.2 with ⟨hv, h0⟩ | ⟨g, cap, cur, hv, hb, hg, hn, hm, hc, ht⟩
  · exact .inl ⟨hv, h0⟩
  · refine .inr ⟨g, cap, cur.toList.drop (n * size), hv, hb, ?_, hn, hm, ?_⟩
    · unfold Row
      have : xs ++ cur.toList.drop (n * size) = cur.toList := by
        conv => rhs; rw [← List.take_append_drop (n * size) cur.toList]
        rw [ht]
      rw [this]
      simpa using hg
    · have hle : n * size ≤ cap * size := Nat.mul_le_mul_right _ hn
      rw [h.1]
      simp
      omega
/-- a block of another type is not the row's own -/
theorem own_ne_row {w : World} {base : Nat} {e : TypeId} {size n : Nat} {v : Value} {xs : List Value} (h : w.ownsRow base e size v n xs) {g : Nat} {t : TypeId} {L : List Value} (hr : Row w g t L) (hne : t ≠ e) : ¬ v.ownBlock = some g := by
  rcases owns_open_sz h with ⟨hv, _⟩ | ⟨g', cap, rest, hv, _, hr', _⟩
  · subst hv
    simp [Value.ownBlock]
  · subst hv
    intro he
    have : g' = g := by simpa [Value.ownBlock] using he
    subst this
    exact hne (hr.eq_ hr').1
theorem own_base_ {w : World} {base : Nat} {e : TypeId} {size n : Nat} {v : Value} {xs : List Value} (h : w.ownsRow base e size v n xs) (k : Nat) (hk : v.ownBlock = some k) : base ≤ k := by
  rcases owns_open_sz h with ⟨hv, _⟩ | ⟨g', cap, rest, hv, hb, _⟩
  · subst hv
    simp [Value.ownBlock] at hk
  · subst hv
    have : g' = k := by simpa [Value.ownBlock] using hk
    omega
theorem owns_nil (w : World) (base : Nat) (e : TypeId) (size : Nat) : w.ownsRow base e size (.slice none 0 0) ([] : List Value).length [] := ⟨by simp, .inl ⟨rfl, rfl⟩⟩
/-- an owned row (of one-cell elements), opened -/
theorem owns_open {w : World} {base : Nat} {e : TypeId} {v : Value} {xs : List Value} (h : w.ownsRow base e 1 v xs.length xs) :
    (v = .slice none 0 0 ∧ xs = []) ∨ ∃ g cap rest, v = .slice (some ⟨g, 0, none⟩) xs.length cap ∧ base ≤ g ∧ Row w g e (xs ++ rest) ∧ xs.length + rest.length = cap ∧ cap ≤ maxLen := by
  rcases h.2 with ⟨hv, h0⟩ | ⟨g, cap, cur, hv, hb, hg, hn, hm, hc, ht⟩
  · exact .inl ⟨hv, List.eq_nil_of_length_eq_zero h0⟩
  · refine .inr ⟨g, cap, cur.toList.drop xs.length, hv, hb, ?_, ?_, hm⟩
    · unfold Row
      have : xs ++ cur.toList.drop xs.length = cur.toList := by
        conv => rhs; rw [← List.take_append_drop xs.length cur.toList]
        rw [show cur.toList.take xs.length = xs by simpa using ht]
      rw [this]
      simpa using hg
    · simp
      omega
theorem owns_mk {w : World} {base g : Nat} {e : TypeId} {xs rest : List Value} (hb : base ≤ g) (h : Row w g e (xs ++ rest)) (hm : xs.length + rest.length ≤ maxLen) :
    w.ownsRow base e 1 (.slice (some ⟨g, 0, none⟩) xs.length (xs.length + rest.length)) xs.length xs :=
  ⟨by simp, .inr ⟨g, _, (xs ++ rest).toArray, rfl, hb, h, by omega, hm, by simp, by simp⟩⟩
end Go.Proofs.Ytlokpcbiomjcnaa
