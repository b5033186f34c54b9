/- lent, walked. -/
import Derived.Test.YtlokpcbiomjcnaaH3
import Derived.Great.BuildSlice
set_option linter.unusedVariables false
set_option linter.unusedSimpArgs false
namespace Go.Proofs.Ytlokpcbiomjcnaa
open Go.RowKit
theorem size84 : (Try.prog.info? 84).map (·.size) = some 21 := by kernel_rfl
theorem size75 : (Try.prog.info? 75).map (·.size) = some 1 := by kernel_rfl
def mark74 : List Value := [.int .u8 0, .int .u8 0, .int .u8 0, .int .u8 0, .int .i32 (-77)]
def mark77 : List Value := [.int .i64 (-77), .int .i64 0, .int .i64 0, .int .i64 0, .int .i64 0, .bool false]
def mark84 : List Value := [.int .i64 0, .int .i64 0, .int .i64 0, .int .i64 0, .int .i64 (-77), .int .i64 0, .slice none 0 0, .slice none 0 0, .slice none 0 0, .int .i64 0, .int .i64 0, .int .i64 0, .int .i64 0, .int .i64 0, .int .i64 0, .int .i64 0, .int .i64 0, .int .i64 0, .slice none 0 0, .slice none 0 0, .slice none 0 0]
def mark46 : List Value := [.int .i64 0, .int .i64 0, .bool false, .int .i64 (-77), .int .i64 0, .int .i64 0]
/-- where a lent partition's lists lie -/
structure Ds where
  gc : Nat
  cc : Nat
  gp : Nat
  cp : Nat
def lcell (i : Int) (d : Ds) : List Value := [.int .i64 8, .int .i64 1, .int .i64 i, .int .i64 (i + 1), .int .i64 0, .int .i64 0, .slice none 0 0, .slice (some ⟨d.gc, 0, none⟩) 1 d.cc, .slice (some ⟨d.gp, 0, none⟩) 1 d.cp, .int .i64 0, .int .i64 0, .int .i64 0, .int .i64 0, .int .i64 0, .int .i64 0, .int .i64 0, .int .i64 0, .int .i64 0, .slice none 0 0, .slice none 0 0, .slice none 0 0]
theorem lcell_one (i : Int) (d : Ds) : ∀ u ∈ lcell i d, u.oneCell' = true := by
  intro u hu
  simp [lcell] at hu
  rcases hu with rfl | rfl | rfl | rfl | rfl | rfl | rfl | rfl | rfl | rfl <;> rfl
def lparts (ds : Nat → Ds) (k : Nat) : List Value := (List.range k).flatMap fun i : Nat => lcell (i : Int) (ds i)
theorem lparts_succ (ds : Nat → Ds) (k : Nat) : lparts ds (k + 1) = lparts ds k ++ lcell k (ds k) := by simp [lparts, List.range_succ]
theorem lparts_ext {ds es : Nat → Ds} {k : Nat} (h : ∀ i, i < k → ds i = es i) : lparts ds k = lparts es k := by
  simp only [lparts, List.flatMap_def]
  congr 1
  apply List.map_congr_left
  intro i hi
  rw [h i (List.mem_range.1 hi)]
theorem flat21_len (f : Nat → List Value) (n : Nat) (hf : ∀ a, (f a).length = 21) : ((List.range n).flatMap f).length = n * 21 := by
  induction n with
  | zero => rfl
  | succ n ih =>
    rw [List.range_succ, List.flatMap_append, List.length_append, ih]
    simp [hf]
    omega
theorem flat21 (f : Nat → List Value) (n : Nat) (hf : ∀ a, (f a).length = 21) (i : Nat) (hi : i < n * 21) : ((List.range n).flatMap f)[i]? = (f (i / 21))[i % 21]? := by
  induction n with
  | zero => omega
  | succ n ih =>
    have hl := flat21_len f n hf
    rw [List.range_succ, List.flatMap_append]
    by_cases h : i < n * 21
    · rw [List.getElem?_append_left (by omega), ih h]
    · rw [List.getElem?_append_right (by omega), hl, show i / 21 = n by omega, show i % 21 = i - n * 21 by omega]
      simp
theorem pparts_at {w : World} {g : Nat} {cs : Nat → Nat × Nat} {n : Nat} {rest : List Value} (h : Row w g 84 (pparts cs n ++ rest)) {k : Nat} (hk : k < n) : w.rangeAt g (k * 21) (pcell k (cs k).1 (cs k).2) := fun i v hi => by
  have hi21 : i < 21 := (List.getElem?_eq_some_iff.1 hi).1
  have hl : (pparts cs n).length = n * 21 := flat21_len _ n (fun _ => rfl)
  rw [h.cell, List.getElem?_append_left (by omega), pparts, flat21 _ n (fun _ => rfl) _ (by omega)]
  rw [show (k * 21 + i) / 21 = k by omega, show (k * 21 + i) % 21 = i by omega]
  exact hi
theorem lparts_at {w : World} {g : Nat} {ds : Nat → Ds} {n : Nat} {rest : List Value} (h : Row w g 84 (lparts ds n ++ rest)) {k : Nat} (hk : k < n) : w.rangeAt g (k * 21) (lcell k (ds k)) := fun i v hi => by
  have hi21 : i < 21 := (List.getElem?_eq_some_iff.1 hi).1
  have hl : (lparts ds n).length = n * 21 := flat21_len _ n (fun _ => rfl)
  rw [h.cell, List.getElem?_append_left (by omega), lparts, flat21 _ n (fun _ => rfl) _ (by omega)]
  rw [show (k * 21 + i) / 21 = k by omega, show (k * 21 + i) % 21 = i by omega]
  exact hi
/-- the codes and procs of the first k lent partitions, a mark behind each -/
def Lcs (b : Nat) (w : World) (ds : Nat → Ds) (k : Nat) : Prop := ∀ i, i < k → (∃ r, Row w (ds i).gc 74 (instr0 ++ mark74 ++ r)) ∧ (∃ r, Row w (ds i).gp 77 (proc0 ++ mark77 ++ r)) ∧ b ≤ (ds i).gc ∧ b ≤ (ds i).gp ∧ 2 ≤ (ds i).cc ∧ 2 ≤ (ds i).cp ∧ (ds i).cc ≤ maxLen ∧ (ds i).cp ≤ maxLen
theorem Lcs.keep {D : Nat → Prop} {b : Nat} {w w' : World} {ds : Nat → Ds} {k : Nat} (h : Lcs b w ds k) (hc : Ch D w w') (h74 : Far w D 74) (h77 : Far w D 77) : Lcs b w' ds k := fun i hi => by
  obtain ⟨⟨r1, h1⟩, ⟨r2, h2⟩, h3⟩ := h i hi
  exact ⟨⟨r1, h1.keep hc (h74 _ _ h1)⟩, ⟨r2, h2.keep hc (h77 _ _ h2)⟩, h3⟩
theorem Lcs.keepNo {b : Nat} {w w' : World} {ds : Nat → Ds} {k : Nat} (h : Lcs b w ds k) (hc : Ch No w w') : Lcs b w' ds k := h.keep hc (fun _ _ _ => not_no _) (fun _ _ _ => not_no _)
theorem far_row {w : World} {P : Nat} {t u : TypeId} {L : List Value} (h : Row w P t L) (hn : u ≠ t) : Far w (Is P) u := fun g M hM hd => by
  have e : g = P := hd
  subst e
  exact hn (hM.eq_ h).1
def z27 : List Value := [.slice none 0 0, .slice none 0 0, .slice none 0 0]
/-- what lasts in lent's loop -/
structure LtI (w wr : World) (X R Y : Nat) (vx : List Value) (uy u : Value) (n : Nat) (L : List Value) (ds : Nat → Ds) (k : Nat) : Prop where
  x : Row wr X 27 vx
  r : Row wr R 27 [.slice none 0 0, .slice none 0 0, .slice none 0 0]
  y : Row wr Y 27 [uy, .slice none 0 0, .slice none 0 0]
  own : wr.ownsRow w.heap.size 84 21 u n L
  cs : Lcs w.heap.size wr ds k
  ch : Ch No w wr
theorem LtI.keepNo {w wr w' : World} {X R Y : Nat} {vx : List Value} {uy u : Value} {n : Nat} {L : List Value} {ds : Nat → Ds} {k : Nat} (h : LtI w wr X R Y vx uy u n L ds k) (hc : Ch No wr w') : LtI w w' X R Y vx uy u n L ds k :=
  ⟨h.x.keepNo hc, h.r.keepNo hc, h.y.keepNo hc, owns_keepNo h.own hc, h.cs.keepNo hc, h.ch.then_ hc⟩
/-- a new row of parts is written -/
theorem LtI.keepP {w wr w' : World} {X R Y P : Nat} {vx LP : List Value} {uy u : Value} {n : Nat} {L : List Value} {ds : Nat → Ds} {k : Nat} (h : LtI w wr X R Y vx uy u n L ds k) (hP : Row wr P 84 LP) (hb : w.heap.size ≤ P) (hu : ¬ u.ownBlock = some P) (hc : Ch (Is P) wr w') : LtI w w' X R Y vx uy u n L ds k :=
  ⟨h.x.keepIs hc (row_ne h.x hP (by decide)), h.r.keepIs hc (row_ne h.r hP (by decide)), h.y.keepIs hc (row_ne h.y hP (by decide)), owns_keepIs h.own hc hu, h.cs.keep hc (far_row hP (by decide)) (far_row hP (by decide)), ch_newg h.ch hc hb⟩
theorem far_own {w : World} {b n s : Nat} {t e : TypeId} {v : Value} {L : List Value} (h : w.ownsRow b e s v n L) (hn : t ≠ e) : Far w (fun k => v.ownBlock = some k) t := fun g M hM hd => own_ne_row h hM hn hd
theorem LtI.grow {w wr w' : World} {X R Y : Nat} {vx : List Value} {uy u u' : Value} {n n' : Nat} {L L' : List Value} {ds : Nat → Ds} {k : Nat} (h : LtI w wr X R Y vx uy u n L ds k) (ho : w'.ownsRow w.heap.size 84 21 u' n' L') (hg : wr.grownBy w' u.ownBlock) : LtI w w' X R Y vx uy u' n' L' ds k :=
  have hc := Ch.of_grownBy hg
  ⟨h.x.keep hc (far_own h.own (by decide) _ _ h.x), h.r.keep hc (far_own h.own (by decide) _ _ h.r), h.y.keep hc (far_own h.own (by decide) _ _ h.y), ho, h.cs.keep hc (far_own h.own (by decide)) (far_own h.own (by decide)), grown_no (Nat.le_refl _) h.own hg h.ch⟩
theorem LtI.put {w wr : World} {X R Y : Nat} {vx : List Value} {uy u : Value} {n : Nat} {L : List Value} {ds : Nat → Ds} {k : Nat} (h : LtI w wr X R Y vx uy u n L ds k) (hX : X ≠ Y) (hR : R ≠ Y) (hb : w.heap.size ≤ Y) : LtI w (wr.setCell ⟨Y, 0, none⟩ u) X R Y vx u u n L ds k :=
  have hc : Ch (Is Y) wr (wr.setCell ⟨Y, 0, none⟩ u) := Ch.setCell (D := Is Y) (p := ⟨Y, 0, none⟩) (Ch.refl _ _) (fun _ => rfl) _
  ⟨h.x.keepIs hc hX, h.r.keepIs hc hR, h.y.set_ 0 u, owns_keepIs h.own hc (fun e => own_ne_row h.own h.y (by decide) e), h.cs.keep hc (far_row h.y (by decide)) (far_row h.y (by decide)), ch_newg h.ch hc hb⟩
theorem LtI.more {w wr : World} {X R Y : Nat} {vx : List Value} {uy u : Value} {n : Nat} {L : List Value} {ds : Nat → Ds} {k : Nat} (h : LtI w wr X R Y vx uy u n L ds k) {d : Ds} (h1 : ∃ r, Row wr d.gc 74 (instr0 ++ mark74 ++ r)) (h2 : ∃ r, Row wr d.gp 77 (proc0 ++ mark77 ++ r)) (h3 : w.heap.size ≤ d.gc) (h4 : w.heap.size ≤ d.gp) (h5 : 2 ≤ d.cc) (h6 : 2 ≤ d.cp) (h7 : d.cc ≤ maxLen) (h8 : d.cp ≤ maxLen) :
    LtI w wr X R Y vx uy u n L (fun i => if i = k then d else ds i) (k + 1) :=
  ⟨h.x, h.r, h.y, h.own, fun i hi => by
    by_cases e : i = k
    · simp only [if_pos e]
      exact ⟨h1, h2, h3, h4, h5, h6, h7, h8⟩
    · simp only [if_neg e]
      exact h.cs i (by omega), h.ch⟩
/-- what lasts at its end -/
structure LtE (w wr : World) (X R Y : Nat) (vx : List Value) (gP cP : Nat) (uy u : Value) (n : Nat) (L : List Value) (ds : Nat → Ds) : Prop where
  x : Row wr X 27 vx
  r : Row wr R 27 [.slice none 0 0, .slice none 0 0, .slice none 0 0]
  y : Row wr Y 27 [.slice (some ⟨gP, 0, none⟩) 3 cP, uy, .slice none 0 0]
  parts : ∃ r, Row wr gP 84 (lparts ds 3 ++ mark84 ++ r)
  pb : w.heap.size ≤ gP
  pc : 4 ≤ cP ∧ cP ≤ maxLen
  own : wr.ownsRow w.heap.size 46 6 u n L
  cs : Lcs w.heap.size wr ds 3
  ch : Ch No w wr
theorem LtE.keepNo {w wr w' : World} {X R Y gP cP : Nat} {vx : List Value} {uy u : Value} {n : Nat} {L : List Value} {ds : Nat → Ds} (h : LtE w wr X R Y vx gP cP uy u n L ds) (hc : Ch No wr w') : LtE w w' X R Y vx gP cP uy u n L ds := by
  obtain ⟨r, hp⟩ := h.parts
  exact ⟨h.x.keepNo hc, h.r.keepNo hc, h.y.keepNo hc, ⟨r, hp.keepNo hc⟩, h.pb, h.pc, owns_keepNo h.own hc, h.cs.keepNo hc, h.ch.then_ hc⟩
theorem LtE.grow {w wr w' : World} {X R Y gP cP : Nat} {vx : List Value} {uy u u' : Value} {n n' : Nat} {L L' : List Value} {ds : Nat → Ds} (h : LtE w wr X R Y vx gP cP uy u n L ds) (ho : w'.ownsRow w.heap.size 46 6 u' n' L') (hg : wr.grownBy w' u.ownBlock) : LtE w w' X R Y vx gP cP uy u' n' L' ds := by
  obtain ⟨r, hp⟩ := h.parts
  have hc := Ch.of_grownBy hg
  exact ⟨h.x.keep hc (far_own h.own (by decide) _ _ h.x), h.r.keep hc (far_own h.own (by decide) _ _ h.r), h.y.keep hc (far_own h.own (by decide) _ _ h.y), ⟨r, hp.keep hc (far_own h.own (by decide) _ _ hp)⟩, h.pb, h.pc, ho, h.cs.keep hc (far_own h.own (by decide)) (far_own h.own (by decide)), grown_no (Nat.le_refl _) h.own hg h.ch⟩
/-- the ports' list is laid down -/
theorem LtE.put {w wr : World} {X R Y gP cP : Nat} {vx : List Value} {uy u : Value} {n : Nat} {L : List Value} {ds : Nat → Ds} (h : LtE w wr X R Y vx gP cP uy u n L ds) (hX : X ≠ Y) (hR : R ≠ Y) (hb : w.heap.size ≤ Y) (v : Value) : LtE w (wr.setCell ⟨Y, 1, none⟩ v) X R Y vx gP cP v u n L ds := by
  obtain ⟨r, hp⟩ := h.parts
  have hc : Ch (Is Y) wr (wr.setCell ⟨Y, 1, none⟩ v) := Ch.setCell (D := Is Y) (p := ⟨Y, 1, none⟩) (Ch.refl _ _) (fun _ => rfl) _
  exact ⟨h.x.keepIs hc hX, h.r.keepIs hc hR, h.y.set_ 1 v, ⟨r, hp.keepIs hc (row_ne hp h.y (by decide))⟩, h.pb, h.pc, owns_keepIs h.own hc (fun e => own_ne_row h.own h.y (by decide) e), h.cs.keep hc (far_row h.y (by decide)) (far_row h.y (by decide)), ch_newg h.ch hc hb⟩
/-- the parts' list, a mark behind it, is laid down -/
theorem LtI.end_ {w wr : World} {X R Y gP cP : Nat} {vx : List Value} {uy : Value} {ds : Nat → Ds} (h : LtI w wr X R Y vx uy (.slice (some ⟨gP, 0, none⟩) 4 cP) 4 (lparts ds 3 ++ mark84) ds 3) (hX : X ≠ Y) (hR : R ≠ Y) (hb : w.heap.size ≤ Y) : LtE w (wr.setCell ⟨Y, 0, none⟩ (.slice (some ⟨gP, 0, none⟩) 3 cP)) X R Y vx gP cP (.slice none 0 0) (.slice none 0 0) 0 [] ds := by
  have hc : Ch (Is Y) wr (wr.setCell ⟨Y, 0, none⟩ (.slice (some ⟨gP, 0, none⟩) 3 cP)) := Ch.setCell (D := Is Y) (p := ⟨Y, 0, none⟩) (Ch.refl _ _) (fun _ => rfl) _
  rcases owns_open_sz h.own with ⟨hv, _⟩ | ⟨g, cap, rest, hv, hb2, hr, hnc, hcm, _⟩
  · cases hv
  · simp only [Value.slice.injEq, Option.some.injEq, Addr.mk.injEq, and_true] at hv
    obtain ⟨rfl, _, rfl⟩ := hv
    exact ⟨h.x.keepIs hc hX, h.r.keepIs hc hR, h.y.set_ 0 _, ⟨rest, hr.keepIs hc (row_ne hr h.y (by decide))⟩, hb2, ⟨hnc, hcm⟩, owns_nil _ _ _ _, h.cs.keep hc (far_row h.y (by decide)) (far_row h.y (by decide)), ch_newg h.ch hc hb⟩
/-- an image that was lent -/
structure Lent (b : Nat) (w : World) (gP cP gQ cQ : Nat) (qs : List Pt) (ds : Nat → Ds) : Prop where
  parts : ∃ r, Row w gP 84 (lparts ds 3 ++ mark84 ++ r)
  ports : ∃ r, Row w gQ 46 (pcells qs ++ mark46 ++ r)
  pb : b ≤ gP
  qb : b ≤ gQ
  pc : 4 ≤ cP ∧ cP ≤ maxLen
  qc : qs.length + 1 ≤ cQ ∧ cQ ≤ maxLen
  cs : Lcs b w ds 3
theorem Lent.keepNo {b : Nat} {w w' : World} {gP cP gQ cQ : Nat} {qs : List Pt} {ds : Nat → Ds} (h : Lent b w gP cP gQ cQ qs ds) (hc : Ch No w w') : Lent b w' gP cP gQ cQ qs ds := by
  obtain ⟨r, hp⟩ := h.parts
  obtain ⟨s, hq⟩ := h.ports
  exact ⟨⟨r, hp.keepNo hc⟩, ⟨s, hq.keepNo hc⟩, h.pb, h.qb, h.pc, h.qc, h.cs.keepNo hc⟩
theorem foldl_set (l : List Value) : ∀ (k : Nat) (cs : Array Value), k + l.length ≤ cs.size → ((l.zipIdx k).foldl (fun cs (x : Value × Nat) => cs.setIfInBounds (0 + x.2) x.1) cs).toList = cs.toList.take k ++ l ++ cs.toList.drop (k + l.length)
  | k, cs => by
    induction l generalizing k cs with
    | nil => simp
    | cons a l ih =>
      intro h
      simp only [List.length_cons] at h
      simp only [List.zipIdx_cons, List.foldl_cons]
      rw [ih (k + 1) _ (by simp; omega)]
      simp only [Nat.zero_add, Array.toList_setIfInBounds]
      have hk : k < cs.toList.length := by simp; omega
      rw [List.take_set, List.drop_set]
      have e1 : ¬ (k < k + 1 + l.length) = False := by simp; omega
      rw [if_pos (by omega)]
      have e2 : (cs.toList.take (k + 1)).set k a = cs.toList.take k ++ [a] := by
        rw [List.take_succ_eq_append_getElem hk, List.set_append_right _ _ (by simp; omega)]
        simp only [List.length_take, Array.length_toList]
        rw [show k - min k cs.size = 0 by simp at hk; omega]
        rfl
      rw [e2]
      simp only [List.length_cons, List.append_assoc, List.cons_append, List.nil_append]
      rw [show k + (l.length + 1) = k + 1 + l.length by omega]
theorem fill_row (cells : Array Value) (pc : List Value) (size : Nat) (hz : cells.size = size) (h : pc.length = size) : Instr.fill (fun i => some (i * size, size)) cells [(0, .agg pc.toArray)] = some pc.toArray := by
  have e : (Value.agg pc.toArray).cells = pc.toArray := rfl
  unfold Instr.fill
  simp only [e, Nat.zero_mul]
  rw [if_neg (by simp [h, hz])]
  unfold Instr.fill
  congr 1
  apply Array.ext'
  have := foldl_set pc 0 cells (by omega)
  simp only [List.take_zero, List.nil_append] at this
  rw [show 0 + pc.length = pc.length from Nat.zero_add _] at this
  rw [← Array.foldl_toList]
  simp only [Array.toList_zipIdx]
  rw [this]
  simp [h, hz]
/-- a list of one whole struct -/
theorem wpList_buildRow {ops : Array Oper} {rest : List Oper} {o : Oper} {a : Act} {w : World} {Q : Exit → Act → World → Prop} (hg : o.guard = none) (t e : TypeId) (x : Operand) (ho : o.op = .buildSlice t 1 #[(0, x)]) (z : Value) (size bytes : Nat)
    (hu : Try.prog.underlying t = some (.slice e)) (hinfo : (Try.prog.info? e).map (fun i => (i.zero, i.size, i.bytes)) = some (some z, size, bytes)) (hsz : 0 < size) (hsm : size ≤ 1000) (pc : List Value) (hx : a.eval x = .agg pc.toArray) (hl : pc.length = size)
    (h : wpList Try.prog ops Q rest (a.put o.dst (.slice (some ⟨w.heap.size, 0, none⟩) 1 1)) (w.alloc (.cells pc.toArray e))) : wpList Try.prog ops Q (o :: rest) a w := by
  obtain ⟨i0, hi, hzz⟩ := Option.map_eq_some_iff.1 hinfo
  simp only [Prod.mk.injEq] at hzz
  obtain ⟨hz0, rfl, hz2⟩ := hzz
  refine wpList_buildSlice hg t e 1 #[(0, x)] ho pc.toArray i0 z hu hi hz0 (by omega) (by omega) ?_ h
  simp only [List.map_toArray, List.map_cons, List.map_nil, hx]
  exact fill_row _ pc _ (by simp) hl
/-- a list of one whole struct, as one operation -/
theorem wp_buildRow {o : Oper} {a : Act} {w : World} {K : Act → World → Prop} {Q : Exit → Act → World → Prop} (t e : TypeId) (x : Operand) (ho : o.op = .buildSlice t 1 #[(0, x)]) (z : Value) (size bytes : Nat)
    (hu : Try.prog.underlying t = some (.slice e)) (hinfo : (Try.prog.info? e).map (fun i => (i.zero, i.size, i.bytes)) = some (some z, size, bytes)) (hsz : 0 < size) (hsm : size ≤ 1000) (pc : List Value) (hx : a.eval x = .agg pc.toArray) (hl : pc.length = size)
    (h : K (a.put o.dst (.slice (some ⟨w.heap.size, 0, none⟩) 1 1)) (w.alloc (.cells pc.toArray e))) : o.wp Try.prog a w K Q := by
  obtain ⟨i0, hi, hzz⟩ := Option.map_eq_some_iff.1 hinfo
  simp only [Prod.mk.injEq] at hzz
  obtain ⟨hz0, rfl, hz2⟩ := hzz
  refine wp_buildSlice t e 1 #[(0, x)] ho pc.toArray i0 z hu hi hz0 (by omega) (by omega) ?_ h
  simp only [List.map_toArray, List.map_cons, List.map_nil, hx]
  exact fill_row _ pc _ (by simp) hl
theorem run_append_any (w : World) (base : Nat) (t ty e : TypeId) (z : Value) (size bytes : Nat) (ht : Try.prog.underlying t = some (.slice e)) (hinfo : (Try.prog.info? e).map (fun i => (i.zero, i.size, i.bytes)) = some (some z, size, bytes)) (hz : z.cells.size = size) (hsz : 0 < size)
    (v : Value) (n : Nat) (xs : List Value) (hown : w.ownsRow base e size v n xs) (ad : Addr) (m c : Nat) (news : List Value) (hl : news.length = m * size) (hnews : Cl w (some ad) news) (h1 : ∀ u ∈ news, u.oneCell' = true)
    (hm : n + m ≤ 140737488355328) (hbytes : (n + m) * bytes ≤ 140737488355328) (hbase : base ≤ w.heap.size) :
    ∃ v' w', (Builtin.append_ #[t, t] ty #[v, .slice (some ad) m c]).run Try.prog w = .ok v' w' ∧ w'.ownsRow base e size v' (n + m) (xs ++ news) ∧ w.grownBy w' v.ownBlock := by
  obtain ⟨i0, hi, hzz⟩ := Option.map_eq_some_iff.1 hinfo
  simp only [Prod.mk.injEq] at hzz
  obtain ⟨hz0, hz1, hz2⟩ := hzz
  obtain ⟨v', w', hr, h2, h3, _, _⟩ := run_append_own_at (P := Try.prog) w base t ty e i0 z size bytes ht hi hz0 hz1 hz2 hz hsz v n xs hown ad m c news hl (fun j u hj => by
    obtain ⟨ad', e', hc⟩ := hnews j u hj
    cases e'
    exact hc) h1 (by simp only [maxLen]; omega) hbytes hbase
  exact ⟨v', w', hr, h2, h3⟩
theorem sizes_of (e : TypeId) (s : Nat) (h : (Try.prog.info? e).map (·.size) = some s) : ∀ w, (sizeOf e).run Try.prog w = .ok s w := by
  intro w
  obtain ⟨i, hi, hs⟩ := Option.map_eq_some_iff.1 h
  simp [sizeOf, typeInfo, hi, hs]
theorem size24 : (Try.prog.info? 24).map (·.size) = some 1 := by kernel_rfl
theorem size22 : (Try.prog.info? 22).map (·.size) = some 1 := by kernel_rfl
theorem own_cl {w : World} {base s n c : Nat} {e : TypeId} {A : Option Addr} {xs : List Value} (h : w.ownsRow base e s (.slice A n c) n xs) (hs : xs.length = n * s) : Cl w A xs := fun j u hj => by
  have hlt := (List.getElem?_eq_some_iff.1 hj).1
  rcases owns_open_sz h with ⟨hv, h0⟩ | ⟨g, cap, rest, hv, hb, hr, _⟩
  · subst h0
    omega
  · simp only [Value.slice.injEq] at hv
    obtain ⟨rfl, _, _⟩ := hv
    refine ⟨_, rfl, ?_⟩
    rw [add_lit, hr.cell, Nat.zero_add, List.getElem?_append_left hlt]
    exact hj
end Go.Proofs.Ytlokpcbiomjcnaa
