/- turned: code and memory made others where they lie. -/
import Derived.Test.YtellmlffkgfeiaaDoorV11
import Derived.Deep.MidRow
import Derived.Deep.CutBlock
set_option linter.unusedVariables false
set_option linter.unusedSimpArgs false
namespace Go.Proofs.YtellmlffkgfeiaaDoor
open Go.RowKit
/-! several cells of a block stored -/
def putL : List Value → Nat → List Value → List Value
  | L, _, [] => L
  | L, o, v :: r => putL (L.set o v) (o + 1) r
theorem row_setCells {g : Nat} {t : TypeId} : ∀ (vs : List Value) (o : Nat) (w : World) (L : List Value), Row w g t L → Row (w.setCells g o vs) g t (putL L o vs)
  | [], _, _, _, h => h
  | v :: r, o, w, L, h => row_setCells r (o + 1) _ _ (h.set_ o v)
theorem ch_setCells {g : Nat} : ∀ (vs : List Value) (o : Nat) (w : World), Ch (Is g) w (w.setCells g o vs)
  | [], _, w => Ch.refl _ w
  | v :: r, o, w => ((Ch.refl (Is g) w).setCell (p := ⟨g, o, none⟩) (fun _ => is_self g) v).trans (ch_setCells r (o + 1) _) (fun _ _ h => h)
theorem putL_get : ∀ (vs : List Value) (L : List Value) (o i : Nat), o + vs.length ≤ L.length → (putL L o vs)[i]? = if o ≤ i ∧ i < o + vs.length then vs[i - o]? else L[i]?
  | [], L, o, i, _ => by
    rw [if_neg (by simp only [List.length_nil]; omega)]
    rfl
  | v :: r, L, o, i, h => by
    simp only [List.length_cons] at h
    show (putL (L.set o v) (o + 1) r)[i]? = _
    rw [putL_get r (L.set o v) (o + 1) i (by rw [List.length_set]; omega)]
    simp only [List.length_cons]
    by_cases h1 : i = o
    · subst h1
      rw [if_neg (by omega), if_pos (by omega), List.getElem?_set_self (by omega)]
      simp
    · by_cases h2 : o + 1 ≤ i ∧ i < o + 1 + r.length
      · rw [if_pos h2, if_pos (by omega), show i - o = (i - (o + 1)) + 1 by omega]
        simp
      · rw [if_neg h2, if_neg (by omega), List.getElem?_set_ne (by omega)]
theorem putL_code (cs : List Ins) (rest : List Value) (k : Nat) (x : Ins) (hk : k < cs.length) : putL (codeCells cs ++ rest) (k * 5) x.cells = codeCells (cs.set k x) ++ rest := by
  have hl := codeCells_length cs
  have hl2 := codeCells_length (cs.set k x)
  rw [List.length_set] at hl2
  have hx : x.cells.length = 5 := rfl
  apply List.ext_getElem?
  intro i
  rw [putL_get _ _ _ _ (by rw [List.length_append, hl, hx]; omega), hx]
  rcases Nat.lt_or_ge i (cs.length * 5) with hi | hi
  · rw [List.getElem?_append_left (l₁ := codeCells cs) (by omega), List.getElem?_append_left (l₁ := codeCells (cs.set k x)) (by omega)]
    have hq : i / 5 < cs.length := by omega
    have e1 : (codeCells (cs.set k x))[i]? = ((cs.set k x)[i / 5]'(by rw [List.length_set]; exact hq)).cells[i % 5]? := by
      have := codeCells_get (cs.set k x) (i / 5) (i % 5) _ (List.getElem?_eq_getElem (by rw [List.length_set]; exact hq)) (by omega)
      rwa [show i / 5 * 5 + i % 5 = i by omega] at this
    have e2 : (codeCells cs)[i]? = (cs[i / 5]).cells[i % 5]? := by
      have := codeCells_get cs (i / 5) (i % 5) _ (List.getElem?_eq_getElem hq) (by omega)
      rwa [show i / 5 * 5 + i % 5 = i by omega] at this
    rw [e1]
    by_cases hc : i / 5 = k
    · rw [if_pos (by omega)]
      have : (cs.set k x)[i / 5]'(by rw [List.length_set]; exact hq) = x := by
        simp [List.getElem_set, hc]
      rw [this, show i - k * 5 = i % 5 by omega]
    · rw [if_neg (by omega), e2]
      have : (cs.set k x)[i / 5]'(by rw [List.length_set]; exact hq) = cs[i / 5] := by
        rw [List.getElem_set_ne (by omega)]
      rw [this]
  · rw [if_neg (by omega), List.getElem?_append_right (by omega), List.getElem?_append_right (by omega), hl, hl2]
/-- append of nothing to nothing -/
theorem wpList_append_nil {w : World} {ops : Array Oper} {rest : List Oper} {o : Oper} {a : Act} {Q : Exit → Act → World → Prop} (hgd : o.guard = none) (s x : Operand) (t : TypeId)
    (ho : o.op = .call { callee := .builtin .append, args := #[s, x], argTypes := #[t, t] })
    (e : TypeId) (z : Value) (size bytes : Nat) (ht : Tryd.prog.underlying t = some (.slice e)) (hinfo : (Tryd.prog.info? e).map (fun i => (i.zero, i.size, i.bytes)) = some (some z, size, bytes))
    (c : Nat) (hs : a.eval s = .slice none 0 0) (hx : a.eval x = .slice none 0 c)
    (h : wpList Tryd.prog ops Q rest (a.put o.dst (.slice none 0 0)) w) : wpList Tryd.prog ops Q (o :: rest) a w := by
  obtain ⟨i0, hi, hzz⟩ := Option.map_eq_some_iff.1 hinfo
  have hr : (Builtin.append_ #[t, t] o.type #[.slice none 0 0, .slice none 0 c]).run Tryd.prog w = .ok (.slice none 0 0) w := by
    simp [Builtin.append_, run_underlying ht, sizeOf, typeInfo, hi, Builtin.lenOf, Builtin.firstCells]
  refine wpList_plain hgd fun K hK => ?_
  unfold Oper.wp execOp
  simp only [ho, resolve, invoke, builtin, Sem.run_bind, Sem.run_pure, Result.andThen_ok, List.map_toArray, List.map_cons, List.map_nil, hs, hx, hr]
  exact hK _ _ h
def mw (k : Nat) : List Int := List.replicate k 777
def mi (k : Nat) : List Ins := List.replicate k ⟨77, 0, 0, 0, 0⟩
theorem mw_succ (k : Nat) : mw (k + 1) = mw k ++ [777] := List.replicate_succ'
theorem mi_succ (k : Nat) : mi (k + 1) = mi k ++ [⟨77, 0, 0, 0, 0⟩] := List.replicate_succ'
theorem codeCells_append (cs ds : List Ins) : codeCells (cs ++ ds) = codeCells cs ++ codeCells ds := by simp [codeCells]
theorem code_one (cs : List Ins) : ∀ v ∈ codeCells cs, v.oneCell' = true := by
  intro v hv
  simp only [codeCells, List.mem_flatMap] at hv
  obtain ⟨x, _, hv⟩ := hv
  exact cells_one x v hv
set_option maxHeartbeats 2000000 in
theorem words_11 (A : Option Addr) (c : Nat) (xs : List Int) (w : World) (hn : xs.length ≤ 1048576) (hx : Cl w A (ints xs)) :
    Calls Tryd.prog 11 #[.slice A xs.length c] w fun e w' => ∃ g cap rest, e = .returned (.slice (some ⟨g, 0, none⟩) (xs.length + 64) cap) ∧ Row w' g 2 (ints (xs ++ mw 64) ++ rest) ∧ xs.length + 64 ≤ cap ∧ cap ≤ maxLen ∧ w.heap.size ≤ g ∧ Ch No w w' := by
  have HX := Lib.hid hx
  clear hx
  go_enter Tryd.func11, Tryd.ntmps11
  go_wp2_with (at_builtin; refine wpList_append_to rfl (.tmp 5) (.tmp 6) 23 rfl w.heap.size 2 (.int .i64 0) 8 Tryd.underlying23 info2 rfl (.slice none 0 0) [] rfl _ _ _ (ints xs) rfl (owns_nil _ _ _ _) (ints_length xs) HX.out (ints_one xs) (by simp; omega) (by omega) (Nat.le_refl _) ?_; intro v1 w1 ho1 hg1 hat1; rw [List.nil_append] at ho1; have HO1 := Lib.hid ho1; have HC1 : Hid (Ch No w w1) := (Ch.of_grownBy hg1).no (fun k _ hk => by simp [Value.ownBlock] at hk); clear ho1 hg1 hat1)
  go_loopw [3, 4] (fun v i wr => ∃ k : Nat, k ≤ 64 ∧ i = .int .i64 k ∧ Hid (wr.ownsRow w.heap.size 2 1 v (ints (xs ++ mw k)).length (ints (xs ++ mw k))) ∧ Hid (Ch No w wr)) (fun _ i _ => 64 - (intOf i).toNat)
  case atStart => exact ⟨0, by omega, rfl, by simpa [mw] using HO1, HC1⟩
  case round =>
    clear HO1 HC1
    obtain ⟨k, hk, rfl, HO, HC⟩ := hrel
    have HL : Hid ((ints (xs ++ mw k)).length = xs.length + k) := by show _ = _; simp [ints_length, mw]
    by_cases hlt : k < 64
    · go_wp2_with (at_builtin; refine wpList_append_to rfl (.tmp 12) (.tmp 13) 23 rfl w.heap.size 2 (.int .i64 0) 8 Tryd.underlying23 info2 rfl u3 (ints (xs ++ mw k)) rfl _ _ _ (ints [777]) rfl (HO.out.alloc _) (ints_length _) ((Row.new wr 2 (ints [777])).cl0) (ints_one _) (by rw [HL.out]; omega) (by omega) (by have := HC.out.size; simp; omega) ?_; intro v1 w1 ho1 hg1 hat1; have HO1 := Lib.hid ho1; have HC1 : Hid (Ch No w w1) := grown_no (Nat.le_refl _) (HO.out.alloc _) hg1 (HC.out.alloc _); clear ho1 hg1 hat1)
      refine ⟨⟨k + 1, by omega, by go_num, ?_, HC1⟩, by simp [intOf]; omega⟩
      have := HO1.out
      rw [← ints_append, List.append_assoc, ← mw_succ] at this
      exact this
    · obtain rfl : k = 64 := by omega
      rcases owns_open HO.out with ⟨hv, hnil⟩ | ⟨g, cap, rest, hv, hg, hr, hcl, hm⟩
      · have := congrArg List.length hnil
        rw [HL.out, List.length_nil] at this
        omega
      · rw [HL.out] at hv hcl
        subst hv
        have HR := Lib.hid hr
        clear hr HO
        go_wp2
        go_ret
        exact ⟨g, cap, rest, rfl, HR.out, by omega, hm, hg, HC.out⟩
set_option maxHeartbeats 2000000 in
theorem instrs_10 (A : Option Addr) (c : Nat) (cs : List Ins) (w : World) (hn : cs.length ≤ 1048576) (hx : Cl w A (codeCells cs)) (hA : A = none → cs = []) :
    Calls Tryd.prog 10 #[.slice A cs.length c] w fun e w' => ∃ g cap rest, e = .returned (.slice (some ⟨g, 0, none⟩) (cs.length + 64) cap) ∧ Row w' g 45 (codeCells (cs ++ mi 64) ++ rest) ∧ cs.length + 64 ≤ cap ∧ cap ≤ maxLen ∧ w.heap.size ≤ g ∧ Ch No w w' := by
  have HX := Lib.hid hx
  clear hx
  have main : ∀ (v1 : Value) (w1 : World), w1.ownsRow w.heap.size 45 5 v1 cs.length (codeCells cs) → Ch No w w1 → True := fun _ _ _ _ => trivial
  clear main
  cases A with
  | none =>
    obtain rfl := hA rfl
    go_enter Tryd.func10, Tryd.ntmps10
    go_wp2_with (at_builtin; refine wpList_append_nil rfl (.tmp 5) (.tmp 6) 22 rfl 45 _ 5 8 Tryd.underlying22 info45 c rfl rfl ?_)
    go_loopw [3, 4] (fun v i wr => ∃ k : Nat, k ≤ 64 ∧ i = .int .i64 k ∧ Hid (wr.ownsRow w.heap.size 45 5 v k (codeCells (mi k))) ∧ Hid (Ch No w wr)) (fun _ i _ => 64 - (intOf i).toNat)
    case atStart => exact ⟨0, by omega, rfl, World.ownsRow_nil _ _ _ _, Ch.refl _ _⟩
    case round =>
      obtain ⟨k, hk, rfl, HO, HC⟩ := hrel
      by_cases hlt : k < 64
      · go_wp2_with (at_builtin; refine wpList_append_sz rfl (.tmp 12) (.tmp 14) 22 rfl w.heap.size 45 (.agg #[.int .u8 0, .int .u8 0, .int .u8 0, .int .u8 0, .int .i32 0]) 5 8 Tryd.underlying22 info45 rfl (by omega) u3 k (codeCells (mi k)) rfl ⟨wr.heap.size, 0, none⟩ 1 1 (codeCells [⟨77, 0, 0, 0, 0⟩]) rfl (HO.out.alloc _) rfl ((Row.new wr 45 (codeCells [⟨77, 0, 0, 0, 0⟩])).cl0) (code_one _) (by omega) (by omega) (by have := HC.out.size; simp; omega) ?_; intro v1 w1 ho1 hg1 hat1; have HO1 := Lib.hid ho1; have HC1 : Hid (Ch No w w1) := grown_no (Nat.le_refl _) (HO.out.alloc _) hg1 (HC.out.alloc _); clear ho1 hg1 hat1)
        refine ⟨⟨k + 1, by omega, by go_num, ?_, HC1⟩, by simp [intOf]; omega⟩
        have := HO1.out
        rw [← codeCells_append, ← mi_succ] at this
        exact this
      · obtain rfl : k = 64 := by omega
        rcases owns_open_sz HO.out with ⟨hv, h0⟩ | ⟨g, cap, rest, hv, hg, hr, hcn, hm, hcl⟩
        · omega
        · subst hv
          have HR := Lib.hid hr
          clear hr HO
          go_wp2
          go_ret
          exact ⟨g, cap, rest, rfl, HR.out, hcn, hm, hg, HC.out⟩
  | some ad =>
    clear hA
    go_enter Tryd.func10, Tryd.ntmps10
    go_wp2_with (at_builtin; refine wpList_append_sz rfl (.tmp 5) (.tmp 6) 22 rfl w.heap.size 45 (.agg #[.int .u8 0, .int .u8 0, .int .u8 0, .int .u8 0, .int .i32 0]) 5 8 Tryd.underlying22 info45 rfl (by omega) (.slice none 0 0) 0 [] rfl ad cs.length c (codeCells cs) rfl (World.ownsRow_nil _ _ _ _) (codeCells_length cs) HX.out (code_one cs) (by omega) (by omega) (Nat.le_refl _) ?_; intro v1 w1 ho1 hg1 hat1; rw [List.nil_append, Nat.zero_add] at ho1; have HO1 := Lib.hid ho1; have HC1 : Hid (Ch No w w1) := (Ch.of_grownBy hg1).no (fun k _ hk => by simp [Value.ownBlock] at hk); clear ho1 hg1 hat1)
    go_loopw [3, 4] (fun v i wr => ∃ k : Nat, k ≤ 64 ∧ i = .int .i64 k ∧ Hid (wr.ownsRow w.heap.size 45 5 v (cs.length + k) (codeCells (cs ++ mi k))) ∧ Hid (Ch No w wr)) (fun _ i _ => 64 - (intOf i).toNat)
    case atStart => exact ⟨0, by omega, rfl, by simpa [mi] using HO1, HC1⟩
    case round =>
      clear HO1 HC1
      obtain ⟨k, hk, rfl, HO, HC⟩ := hrel
      by_cases hlt : k < 64
      · go_wp2_with (at_builtin; refine wpList_append_sz rfl (.tmp 12) (.tmp 14) 22 rfl w.heap.size 45 (.agg #[.int .u8 0, .int .u8 0, .int .u8 0, .int .u8 0, .int .i32 0]) 5 8 Tryd.underlying22 info45 rfl (by omega) u3 (cs.length + k) (codeCells (cs ++ mi k)) rfl ⟨wr.heap.size, 0, none⟩ 1 1 (codeCells [⟨77, 0, 0, 0, 0⟩]) rfl (HO.out.alloc _) rfl ((Row.new wr 45 (codeCells [⟨77, 0, 0, 0, 0⟩])).cl0) (code_one _) (by omega) (by omega) (by have := HC.out.size; simp; omega) ?_; intro v1 w1 ho1 hg1 hat1; have HO1 := Lib.hid ho1; have HC1 : Hid (Ch No w w1) := grown_no (Nat.le_refl _) (HO.out.alloc _) hg1 (HC.out.alloc _); clear ho1 hg1 hat1)
        refine ⟨⟨k + 1, by omega, by go_num, ?_, HC1⟩, by simp [intOf]; omega⟩
        have := HO1.out
        rw [← codeCells_append, List.append_assoc, ← mi_succ] at this
        exact this
      · obtain rfl : k = 64 := by omega
        rcases owns_open_sz HO.out with ⟨hv, h0⟩ | ⟨g, cap, rest, hv, hg, hr, hcn, hm, hcl⟩
        · omega
        · subst hv
          have HR := Lib.hid hr
          clear hr HO
          go_wp2
          go_ret
          exact ⟨g, cap, rest, rfl, HR.out, hcn, hm, hg, HC.out⟩

open Go.RowKit
set_option maxHeartbeats 4000000 in
theorem same_code (A B : Option Addr) (c d : Nat) (cs : List Ins) (n m : Nat) (hnx : n = cs.length) (hmx : m = cs.length) (w : World) (hn : cs.length ≤ 9223372036854775807) (hx : Cl w A (codeCells cs)) (hy : Cl w B (codeCells cs)) :
    Calls Tryd.prog 15 #[.slice A n c, .slice B m d] w fun e w' => e = .returned (.bool true) ∧ Ch No w w' := by
  subst hnx
  subst hmx
  have HX := Lib.hid hx
  have HY := Lib.hid hy
  have h1 : ((cs.length : Int) != (cs.length : Int)) = false := by simp
  clear hx hy
  go_enter Tryd.func15, Tryd.ntmps15
  go_wp2
  go_loopw [5] (fun i wr => ∃ k : Nat, k ≤ cs.length ∧ i = .int .i64 k ∧ Dr w wr) (fun i _ => cs.length - (intOf i).toNat)
  case atStart => exact ⟨0, Nat.zero_le _, rfl, Dr.refl _⟩
  case round =>
    obtain ⟨k, hk, rfl, hdr⟩ := hrel
    obtain ⟨q, rfl⟩ := hdr
    by_cases hlt : k < cs.length
    · have hxx : cs[k]? = some cs[k] := List.getElem?_eq_getElem hlt
      obtain ⟨ad, ea, hca⟩ := code_at HX.out hxx
      obtain ⟨bd, eb, hcb⟩ := code_at HY.out hxx
      subst ea eb
      generalize cs[k] = x at *
      have key : ∀ (p : Addr), (∀ W, Ch No w W → ∀ j : Nat, j < 5 → W.cell? ((p.add (k * 5)).add j) = x.cells[j]?) → w.cell? (p.add (k * 5)) = some (.int .u8 x.op) ∧ w.cell? ⟨(p.add (k * 5)).block, (p.add (k * 5)).off + 1, none⟩ = some (.int .u8 x.a) ∧ w.cell? ⟨(p.add (k * 5)).block, (p.add (k * 5)).off + 2, none⟩ = some (.int .u8 x.b) ∧ w.cell? ⟨(p.add (k * 5)).block, (p.add (k * 5)).off + 3, none⟩ = some (.int .u8 x.c) ∧ w.cell? ⟨(p.add (k * 5)).block, (p.add (k * 5)).off + 4, none⟩ = some (.int .i32 x.n) := by
        intro p hp
        have h := hp w (Ch.refl _ _)
        have h0 := h 0 (by omega)
        have h1 := h 1 (by omega)
        have h2 := h 2 (by omega)
        have h3 := h 3 (by omega)
        have h4 := h 4 (by omega)
        rw [add_zero] at h0
        rw [addr_add] at h1 h2 h3 h4
        exact ⟨h0, h1, h2, h3, h4⟩
      obtain ⟨i0, i1, i2, i3, i4⟩ := key ad hca
      obtain ⟨j0, j1, j2, j3, j4⟩ := key bd hcb
      have k1 : (k : Int) < (cs.length : Int) := by omega
      have k2 : (0 : Int) ≤ (k : Int) := by omega
      clear key hca hcb hxx
      generalize hp : ad.add (k * 5) = p at *
      generalize hr : bd.add (k * 5) = r at *
      go_wp2
      go_quiet (fail)
      go_wp2
      exact ⟨⟨k + 1, by omega, by go_num, Dr.step w _⟩, by simp [intOf]; omega⟩
    · go_wp2
      go_ret
      exact ⟨rfl, (Ch.refl No w).drewN q⟩

open Go.RowKit
theorem row_range {w : World} {g : Nat} {t : TypeId} {L : List Value} (h : Row w g t L) (o : Nat) (vs : List Value) (hv : ∀ j v, vs[j]? = some v → L[o + j]? = some v) : w.rangeAt g o vs := fun j v hj => by rw [h.cell]; exact hv j v hj
theorem code_range {w : World} {g : Nat} {cs : List Ins} {rest : List Value} (h : Row w g 45 (codeCells cs ++ rest)) {k : Nat} {x : Ins} (hx : cs[k]? = some x) : w.rangeAt g (k * 5) x.cells := by
  refine row_range h _ _ (fun j v hj => ?_)
  have hk : k < cs.length := (List.getElem?_eq_some_iff.1 hx).1
  have hj5 : j < 5 := (List.getElem?_eq_some_iff.1 hj).1
  rw [List.getElem?_append_left (by rw [codeCells_length]; omega), codeCells_get cs k j x hx hj5, hj]
/-- several cells of a block that is known whole are written -/
theorem pl_store_mid {P : Program} {ops : Array Oper} {rest : List Oper} {o : Oper} {a : Act} {Q : Exit → Act → World → Prop} {w : World} (hgd : o.guard = none) (ty : TypeId) (x y : Operand) (ho : o.op = .store ty x y)
    (g off : Nat) (hx : a.eval x = .pointer (some ⟨g, off, none⟩)) (t : TypeId) (L vs : List Value) (hy : a.eval y = .agg vs.toArray) (hr : Row w g t L) (hfit : off + vs.length ≤ L.length) (hi : (P.info? ty).map (·.size) = some vs.length) (h1 : ∀ v ∈ vs, v.oneCell' = true)
    (h : ∀ w', Row w' g t (putL L off vs) → Ch (Is g) w w' → wpList P ops Q rest (a.put o.dst undef) w') : wpList P ops Q (o :: rest) a w := by
  refine wpList_store_mid hgd ty x y ho g off vs.toArray hx hy (fun j hj => ?_) (by simpa using hi) (all_oneCell_toArray h1) ?_
  · have hj' : j < vs.length := by simpa using hj
    refine ⟨?_, hr.frozen _⟩
    rw [hr.cell, List.getElem?_eq_getElem (by omega)]
    rfl
  · have e : vs.toArray.toList = vs := by simp
    rw [e]
    exact h _ (row_setCells vs off w L hr) (ch_setCells vs off w)
def Is2 (g h : Nat) : Nat → Prop := fun k => k = g ∨ k = h
theorem ch_is2l {g h : Nat} {w w1 w2 : World} (a : Ch (Is2 g h) w w1) (b : Ch (Is g) w1 w2) : Ch (Is2 g h) w w2 := a.trans b (fun _ _ e => .inl e)
theorem ch_is2r {g h : Nat} {w w1 w2 : World} (a : Ch (Is2 g h) w w1) (b : Ch (Is h) w1 w2) : Ch (Is2 g h) w w2 := a.trans b (fun _ _ e => .inr e)
theorem ch_new2 {D : Nat → Prop} {w w1 w2 : World} {g : Nat} (a : Ch D w w1) (b : Ch (Is g) w1 w2) (hg : w.heap.size ≤ g) : Ch D w w2 := a.trans b (fun i hi he => by cases he; omega)
/-- what turned leaves -/
def Turned (gc gm : Nat) (n m : Nat) (R1 R2 : List Value) (w : World) (e : Ending) (w' : World) : Prop :=
  ∃ (cs' : List Ins) (xs' : List Int), e = .returned (.tuple #[]) ∧ cs'.length = n ∧ (∀ x ∈ cs', x.ok) ∧ xs'.length = m ∧ (∀ x ∈ xs', In64 x) ∧ Row w' gc 45 (codeCells cs' ++ R1) ∧ Row w' gm 2 (ints xs' ++ R2) ∧ Ch (Is2 gc gm) w w'
theorem ins0_one : ∀ v ∈ (⟨0, 0, 0, 0, 0⟩ : Ins).cells, v.oneCell' = true := cells_one _
set_option maxRecDepth 100000 in
set_option maxHeartbeats 4000000 in
theorem turned_16 (gc c1 gm c2 : Nat) (cs : List Ins) (xs : List Int) (R1 R2 : List Value) (w : World) (hn : cs.length ≤ 1048576) (hm : xs.length ≤ 1048576) (hc1 : cs.length ≤ c1) (hc2 : xs.length ≤ c2) (hok : ∀ x ∈ cs, x.ok) (hin : ∀ x ∈ xs, In64 x) (hr1 : Row w gc 45 (codeCells cs ++ R1)) (hr2 : Row w gm 2 (ints xs ++ R2)) :
    Calls Tryd.prog 16 #[.slice (some ⟨gc, 0, none⟩) cs.length c1, .slice (some ⟨gm, 0, none⟩) xs.length c2] w (Turned gc gm cs.length xs.length R1 R2 w) := by
  have HR1 := Lib.hid hr1
  have HR2 := Lib.hid hr2
  have HOK := Lib.hid hok
  have HIN := Lib.hid hin
  have HNE : Hid (gc ≠ gm) := fun e => absurd (hr1.eq_ (e ▸ hr2)).1 (by decide)
  obtain ⟨hf, hfd⟩ : ∃ hf : Nat, hf = cs.length / 2 := ⟨_, rfl⟩
  have hdiv : ((cs.length : Int)).tdiv 2 = (hf : Int) := by rw [hfd]; rfl
  have hdiv' : ((cs.length : Int)) / 2 = (hf : Int) := by omega
  have hfb : hf * 2 ≤ cs.length := by omega
  clear hfd
  have H0 := Lib.hid (fun W : World => Row.new W 45 (⟨0, 0, 0, 0, 0⟩ : Ins).cells)
  clear hr1 hr2 hok hin
  go_enter Tryd.func16, Tryd.ntmps16
  go_upto_block 0 with (fail)
  go_cut [4, 5] from 7 to 36 (fun v v5 wx => ∃ cs' : List Ins, Hid (cs'.length = cs.length ∧ ∀ x ∈ cs', x.ok) ∧ Hid (Row wx gc 45 (codeCells cs' ++ R1)) ∧ Hid (Row wx gm 2 (ints xs ++ R2)) ∧ Hid (Ch (Is2 gc gm) w wx))
  case first =>
    go_wp2_with (fail)
    go_loopw [4] (fun i wr => ∃ (k : Nat) (cs' : List Ins), k ≤ hf ∧ i = .int .i64 k ∧ Hid (cs'.length = cs.length ∧ ∀ x ∈ cs', x.ok) ∧ Hid (Row wr gc 45 (codeCells cs' ++ R1)) ∧ Hid (Row wr gm 2 (ints xs ++ R2)) ∧ Hid (Ch (Is2 gc gm) w wr)) (fun i _ => hf - (intOf i).toNat)
    case atStart => exact ⟨0, cs, by omega, rfl, ⟨rfl, HOK.out⟩, by exact HR1, by exact HR2, Ch.refl _ _⟩
    case round =>
      obtain ⟨k, cs', hk, rfl, HL, HA, HB, HC⟩ := hrel
      by_cases hlt : k < hf
      · have hlt1 : (k : Int) < (hf : Int) := by omega
        obtain ⟨q, hq⟩ : ∃ q, q = cs.length - 1 - k := ⟨_, rfl⟩
        have hqi : (cs.length : Int) - 1 - (k : Int) = (q : Int) := by omega
        have hqi' : (cs.length : Int) - (1 + (k : Int)) = (q : Int) := by omega
        have hq0 : q < cs.length := by omega
        have hk0 : k < cs.length := by omega
        have k1 : (k : Int) < (cs.length : Int) := by omega
        have q1 : (q : Int) < (cs.length : Int) := by omega
        have k2 : (0 : Int) ≤ (k : Int) := by omega
        have q2 : (0 : Int) ≤ (q : Int) := by omega
        have hxk : cs'[k]? = some (cs'[k]'(by rw [HL.out.1]; exact hk0)) := List.getElem?_eq_getElem _
        have hxq : cs'[q]? = some (cs'[q]'(by rw [HL.out.1]; exact hq0)) := List.getElem?_eq_getElem _
        have hox := HL.out.2 _ (List.mem_of_getElem? hxk)
        have hoy := HL.out.2 _ (List.mem_of_getElem? hxq)
        generalize cs'[k]'(by rw [HL.out.1]; exact hk0) = x at *
        generalize cs'[q]'(by rw [HL.out.1]; exact hq0) = y at *
        have HXK := Lib.hid (code_range HA.out hxk)
        have HXQ := Lib.hid hxq
        have HOX := Lib.hid hox
        have HOY := Lib.hid hoy
        have HKL : Hid (k < cs'.length ∧ q < cs'.length) := ⟨by rw [HL.out.1]; exact hk0, by rw [HL.out.1]; exact hq0⟩
        have HF1 : Hid (k * 5 + y.cells.length ≤ (codeCells cs' ++ R1).length) := by show _ ≤ _; rw [List.length_append, codeCells_length]; show k * 5 + 5 ≤ _; have := HKL.out; omega
        have HF2 : Hid (q * 5 + x.cells.length ≤ (codeCells (cs'.set k y) ++ R1).length) := by show _ ≤ _; rw [List.length_append, codeCells_length, List.length_set]; show q * 5 + 5 ≤ _; have := HKL.out; omega
        have hlr : gc < wr.heap.size := HA.out.lt
        have hlm : gm < wr.heap.size := HB.out.lt
        have HNN : Hid (¬ gc = wr.heap.size ∧ ¬ gm = wr.heap.size ∧ ¬ wr.heap.size = gc) := ⟨by omega, by omega, by omega⟩
        have HNEW := Lib.hid (H0.out wr)
        clear hxk hxq hox hoy hq
        go_upto_region 4 with (first | ((with_reducible refine at_op (o := ⟨some 17, _, _, _, _, _⟩) ?_); refine wpList_load_mid (op := ⟨some 17, _, _, _, _, _⟩) rfl 45 _ rfl gc (k * 5) rfl x.cells _ HXK.out Tryd.underlying45 rfl size45 ?_) | ((with_reducible refine at_op (o := ⟨none, .store 45 (.tmp 5) (.tmp 17), _, _, _, _⟩) ?_); refine pl_store (o := ⟨none, .store 45 (.tmp 5) (.tmp 17), _, _, _, _⟩) rfl 45 (.tmp 5) (.tmp 17) rfl wr.heap.size rfl 45 (⟨0, 0, 0, 0, 0⟩ : Ins).cells x.cells rfl HNEW.out size45 rfl (cells_one _) ?_; intro w4 hr4 hc4; have HX4 := Lib.hid hr4; have HCX := Lib.hid hc4; clear hr4 hc4))
        have HA4 := Lib.hid ((HA.out.alloc _).keepIs HCX.out HNN.out.1)
        have HB4 := Lib.hid ((HB.out.alloc _).keepIs HCX.out HNN.out.2.1)
        have HC4 : Hid (Ch (Is2 gc gm) w w4) := ch_new2 (HC.out.alloc _) HCX.out HC.out.size
        have HXQ4 := Lib.hid (code_range HA4.out HXQ.out)
        clear HCX HXK HXQ HA HB HC
        go_upto_region 5 with (first | ((with_reducible refine at_op (o := ⟨some 27, _, _, _, _, _⟩) ?_); refine wpList_load_mid (op := ⟨some 27, _, _, _, _, _⟩) rfl 45 _ rfl gc (q * 5) rfl y.cells _ HXQ4.out Tryd.underlying45 rfl size45 ?_) | ((with_reducible refine at_op (o := ⟨none, .store 45 (.tmp 28) (.tmp 27), _, _, _, _⟩) ?_); refine pl_store_mid (o := ⟨none, .store 45 (.tmp 28) (.tmp 27), _, _, _, _⟩) rfl 45 (.tmp 28) (.tmp 27) rfl gc (k * 5) rfl 45 (codeCells cs' ++ R1) y.cells rfl HA4.out HF1.out size45 (cells_one _) ?_; intro w5 hr5 hc5; have HA5 := Lib.hid hr5; have HCY := Lib.hid hc5; clear hr5 hc5))
        have hA5 := HA5.out
        rw [putL_code _ _ _ _ HKL.out.1] at hA5
        have HA5' := Lib.hid hA5
        have HB5 := Lib.hid (HB4.out.keepIs HCY.out (fun e => HNE.out e.symm))
        have HX5 := Lib.hid (HX4.out.keepIs HCY.out HNN.out.2.2)
        have HC5 := Lib.hid (ch_is2l HC4.out HCY.out)
        clear HCY HX4 HA4 HB4 HC4 HA5 hA5 HXQ4
        go_wp2_with (first | ((with_reducible refine at_op (o := ⟨some 35, _, _, _, _, _⟩) ?_); refine pl_load (o := ⟨some 35, _, _, _, _, _⟩) rfl 45 _ rfl wr.heap.size rfl 45 x.cells HX5.out _ Tryd.underlying45 rfl size45 ?_) | ((with_reducible refine at_op (o := ⟨none, .store 45 (.tmp 36) (.tmp 35), _, _, _, _⟩) ?_); refine pl_store_mid (o := ⟨none, .store 45 (.tmp 36) (.tmp 35), _, _, _, _⟩) rfl 45 (.tmp 36) (.tmp 35) rfl gc (q * 5) rfl 45 (codeCells (cs'.set k y) ++ R1) x.cells rfl HA5'.out HF2.out size45 (cells_one _) ?_; intro w6 hr6 hc6; have HA6 := Lib.hid hr6; have HCZ := Lib.hid hc6; clear hr6 hc6))
        go_roundw
        case rel =>
          refine ⟨k + 1, (cs'.set k y).set q x, by omega, by go_num, ⟨by rw [List.length_set, List.length_set]; exact HL.out.1, ?_⟩, ?_, HB5.out.keepIs HCZ.out (fun e => HNE.out e.symm), ch_is2l HC5.out HCZ.out⟩
          · intro z hz
            rcases List.mem_or_eq_of_mem_set hz with h1 | rfl
            · rcases List.mem_or_eq_of_mem_set h1 with h2 | rfl
              · exact HL.out.2 z h2
              · exact HOY.out
            · exact HOX.out
          · have h := HA6.out
            rw [putL_code _ _ _ _ (by rw [List.length_set]; exact HKL.out.2)] at h
            exact h
        case measure => simp [intOf]; omega
      · have hlt1 : ¬ (k : Int) < (hf : Int) := by omega
        go_wp2_with (fail)
        go_meet
        case rel => exact ⟨cs', HL, HA, HB, HC⟩
  case rest =>
    obtain ⟨cs', HL, HA, HB, HC⟩ := hcut
    generalize wc = w7 at *
    go_wp2_with (fail)
    go_loopw [6] (fun i wr => ∃ (k : Nat) (ys : List Int), k ≤ xs.length ∧ i = .int .i64 k ∧ Hid (ys.length = xs.length ∧ ∀ x ∈ ys, In64 x) ∧ Hid (Row wr gc 45 (codeCells cs' ++ R1)) ∧ Hid (Row wr gm 2 (ints ys ++ R2)) ∧ Hid (Ch (Is2 gc gm) w wr)) (fun i _ => xs.length - (intOf i).toNat)
    case atStart => exact ⟨0, xs, by omega, rfl, ⟨rfl, HIN.out⟩, by exact HA, by exact HB, by exact HC⟩
    case round =>
      clear HA HB HC
      obtain ⟨k, ys, hk, rfl, HY, HA, HB, HC⟩ := hrel
      by_cases hlt : k < xs.length
      · have k1 : (k : Int) < (xs.length : Int) := by omega
        have k2 : (0 : Int) ≤ (k : Int) := by omega
        have hky : k < ys.length := by rw [HY.out.1]; exact hlt
        have c0 : wr.cell? ⟨gm, k, none⟩ = some (.int .i64 (rd ys k)) := row_rd HB.out k hky
        have f0 : wr.frozen? ⟨gm, k, none⟩ = false := HB.out.frozen k
        have hb : In64 (rd ys k) := in_rd HY.out.2 k
        unfold In64 at hb
        obtain ⟨b1, b2⟩ := hb
        go_wp2_with (fail)
        go_roundw
        case rel =>
          refine ⟨k + 1, ys.set k (-1 - rd ys k), by omega, by go_num, ⟨by rw [List.length_set]; exact HY.out.1, ?_⟩, HA.out.setOther HNE.out _, ?_, HC.out.setCell (fun _ => .inr rfl) _⟩
          · intro z hz
            rcases List.mem_or_eq_of_mem_set hz with h1 | rfl
            · exact HY.out.2 z h1
            · unfold In64; omega
          · have h := HB.out.set_ k (.int .i64 (-1 - rd ys k))
            rw [set_ints _ _ _ hky] at h
            exact h
        case measure => simp [intOf]; omega
      · go_wp2_with (fail)
        go_end0
        exact ⟨cs', ys, rfl, HL.out.1, HL.out.2, HY.out.1, HY.out.2, HA.out, HB.out, HC.out⟩
end Go.Proofs.YtellmlffkgfeiaaDoor
