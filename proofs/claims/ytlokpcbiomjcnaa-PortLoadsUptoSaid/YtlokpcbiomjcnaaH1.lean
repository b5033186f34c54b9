/- Lists in memory of their own: written full, and grown. -/
import Derived.Test.YtlokpcbiomjcnaaG3
set_option linter.unusedVariables false
set_option linter.unusedSimpArgs false
namespace Go.Proofs.Ytlokpcbiomjcnaa
open Go.RowKit
/-- append of elements of one cell: what the row held before stays -/
theorem wpList_append_keep {P : Program} {w : World} {ops : Array Oper} {rest : List Oper} {o : Oper} {a : Act} {Q : Exit → Act → World → Prop} (hgd : o.guard = none) (s x : Operand) (t : TypeId)
    (ho : o.op = .call { callee := .builtin .append, args := #[s, x], argTypes := #[t, t] })
    (base : Nat) (e : TypeId) (z : Value) (bytes : Nat) (ht : P.underlying t = some (.slice e)) (hinfo : (P.info? e).map (fun i => (i.zero, i.size, i.bytes)) = some (some z, 1, bytes)) (hz : z.cells.size = 1)
    (v : Value) (n : Nat) (xs : List Value) (hs : a.eval s = v) (ad : Addr) (news : List Value) (c : Nat) (hx : a.eval x = .slice (some ad) news.length c) (hown : w.ownsRow base e 1 v n xs)
    (hnews : Cl w (some ad) news) (h1 : ∀ u ∈ news, u.oneCell' = true)
    (hm : n + news.length ≤ 140737488355328) (hbytes : (n + news.length) * bytes ≤ 140737488355328) (hbase : base ≤ w.heap.size)
    (h : ∀ v' w', w'.ownsRow base e 1 v' (n + news.length) (xs ++ news) → w.grownBy w' v.ownBlock → (v'.ownBlock = v.ownBlock ∨ ∀ k, v'.ownBlock = some k → w.heap.size ≤ k) → (∀ g L, v.ownBlock = some g → Row w g e L → ∃ L', Row w' g e L' ∧ L'.length = L.length ∧ L'.take n = L.take n) → wpList P ops Q rest (a.put o.dst v') w') : wpList P ops Q (o :: rest) a w := by
  obtain ⟨i0, hi, hzz⟩ := Option.map_eq_some_iff.1 hinfo
  simp only [Prod.mk.injEq] at hzz
  obtain ⟨hz0, hz1, hz2⟩ := hzz
  rcases owns_open_sz hown with ⟨rfl, rfl⟩ | ⟨g, cap, rs, rfl, hb, hr, hnc, hcm, hlen⟩
  · refine wpList_append_sz hgd s x t ho base e z 1 bytes ht hinfo hz (by decide) _ 0 xs hs ad news.length c news hx hown (by simp) hnews h1 hm hbytes hbase ?_
    intro v' w' ho' hg' hat
    refine h v' w' ho' hg' ?_ (fun g L hg => by simp [Value.ownBlock] at hg)
    rcases hat with h' | h'
    · exact .inl h'
    · exact .inr (fun k hk => by rw [h'] at hk; cases hk; exact Nat.le_refl _)
  · have hxl : xs.length = n := by have := hown.1; omega
    by_cases hroom : n + news.length ≤ cap
    · have hfit : n * i0.size + news.length ≤ (xs ++ rs).toArray.size := by
        simp only [List.size_toArray, List.length_append, hz1]
        omega
      have hrun := run_append_room (P := P) w t o.type e i0 ht hi g n cap (xs ++ rs).toArray hr ad news.length c news (by rw [hz1]; omega) (fun j u hj => by
        obtain ⟨ad', e', hc⟩ := hnews j u hj
        cases e'
        exact hc) h1 hroom hfit
      have hcur : ((xs ++ rs).toArray.toList.take (n * i0.size) ++ news ++ (xs ++ rs).toArray.toList.drop (n * i0.size + news.length)) = xs ++ news ++ rs.drop news.length := by
        rw [hz1, Nat.mul_one]
        have e1 : (xs ++ rs).take n = xs := by rw [← hxl]; exact List.take_left
        have e2 : (xs ++ rs).drop (n + news.length) = rs.drop news.length := by rw [← hxl, ← List.drop_drop, List.drop_left]
        simp only [List.toList_toArray] at *
        rw [e1, e2]
      rw [hcur] at hrun
      have hrow : Row (w.setRow g (xs ++ news ++ rs.drop news.length).toArray) g e (xs ++ news ++ rs.drop news.length) := setRow_heap w g _ _ e _ hr
      have hnl : (rs.drop news.length).length = rs.length - news.length := List.length_drop
      refine wpList_plain hgd fun K hK => ?_
      unfold Oper.wp execOp
      simp only [ho, resolve, invoke, builtin, Sem.run_bind, Sem.run_pure, Result.andThen_ok, List.map_toArray, List.map_cons, List.map_nil, hs, hx, hrun]
      refine hK _ _ (h _ _ ⟨by simp [hxl], .inr ⟨g, cap, _, rfl, hb, hrow, hroom, hcm, ?_, ?_⟩⟩ ⟨rfl, rfl, rfl, by simp [World.setRow], fun k _ hk => setRow_other w g k _ (fun e => hk (by simp [Value.ownBlock, e]))⟩ (.inl rfl) ?_)
      · simp only [List.size_toArray, List.length_append, hnl]
        omega
      · simp only [List.toList_toArray]
        rw [Nat.mul_one, show n + news.length = (xs ++ news).length by simp [hxl]]
        exact List.take_left
      · intro g' L hg' hL
        cases hg'
        obtain ⟨_, rfl⟩ := hr.eq_ hL
        refine ⟨_, hrow, ?_, ?_⟩
        · simp only [List.length_append, hnl]
          omega
        · rw [List.append_assoc, ← hxl, List.take_left, List.take_left]
    · refine wpList_append_grows w hgd s x t ho e i0 z 1 bytes ht hi hz0 hz1 hz2 hz (by decide) (some ⟨g, 0, none⟩) n cap xs hs (fun e => by cases e) (by omega) (fun b e j u hj => ?_) ad news.length c news hx (by omega) (fun j u hj => ?_) h1 (by omega) (by simp only [maxLen]; omega) hbytes (fun v' w' ho' hg' => ?_)
      · cases e
        rw [add_lit, Nat.zero_add, hr.cell, List.getElem?_append_left (List.getElem?_eq_some_iff.1 hj).1]
        exact hj
      · obtain ⟨ad', e', hc⟩ := hnews j u hj
        cases e'
        exact hc
      · have hc : Ch No w w' := (Ch.of_grownBy hg').mono (fun i _ h => by cases h)
        refine h v' w' (own_low ho' hbase) ⟨hg'.os, hg'.tape, hg'.output, hg'.size, fun k hk _ => hg'.block k hk (by simp)⟩ (.inr (fun k hk => own_base_ ho' k hk)) (fun g' L hg hL => ⟨L, hL.keepNo hc, rfl, rfl⟩)
/-- two families of lists, one behind the other -/
theorem Sep.append {w : World} {b : Nat} {vs us : List Value} {xss yss : List (List Int)} (h : Sep w b vs xss) (k : Sep w b us yss) (hd : ∀ v u x, v ∈ vs → u ∈ us → v.ownBlock = some x → ¬ u.ownBlock = some x) : Sep w b (vs ++ us) (xss ++ yss) where
  len := by simp [h.len, k.len]
  own := fun i v xs hv hx => by
    by_cases hi : i < vs.length
    · rw [List.getElem?_append_left hi] at hv
      rw [List.getElem?_append_left (by rw [← h.len]; exact hi)] at hx
      exact h.own i v xs hv hx
    · rw [List.getElem?_append_right (by omega)] at hv
      rw [List.getElem?_append_right (by rw [← h.len]; omega), ← h.len] at hx
      exact k.own _ v xs hv hx
  dis := fun i j v u x hij hv hu hx => by
    by_cases hi : i < vs.length
    · rw [List.getElem?_append_left hi] at hv
      by_cases hj : j < vs.length
      · rw [List.getElem?_append_left hj] at hu
        exact h.dis i j v u x hij hv hu hx
      · rw [List.getElem?_append_right (by omega)] at hu
        exact hd v u x (List.mem_of_getElem? hv) (List.mem_of_getElem? hu) hx
    · rw [List.getElem?_append_right (by omega)] at hv
      by_cases hj : j < vs.length
      · rw [List.getElem?_append_left hj] at hu
        exact fun hu' => hd u v x (List.mem_of_getElem? hu) (List.mem_of_getElem? hv) hu' hx
      · rw [List.getElem?_append_right (by omega)] at hu
        exact k.dis _ _ v u x (by omega) hv hu hx
/-- all lists of the first k standings -/
def allV (c : Nat → Rp) (k : Nat) : List Value := (List.range k).flatMap fun j => (c j).vd :: (c j).ms
def allX (ss : Nat → Ps) (k : Nat) : List (List Int) := (List.range k).flatMap fun j => (ss j).data :: (ss j).q
theorem allV_succ (c : Nat → Rp) (k : Nat) : allV c (k + 1) = allV c k ++ (c k).vd :: (c k).ms := by simp [allV, List.range_succ]
theorem allX_succ (ss : Nat → Ps) (k : Nat) : allX ss (k + 1) = allX ss k ++ (ss k).data :: (ss k).q := by simp [allX, List.range_succ]
theorem SO.all {w0 w : World} {gO n : Nat} {c : Nat → Rp} {ss : Nat → Ps} (h : SO w0 w gO n c ss) (k : Nat) : Sep w w0.heap.size (allV c k) (allX ss k) := by
  induction k with
  | zero => exact Sep.nil _ _
  | succ k ih =>
    rw [allV_succ, allX_succ]
    refine ih.append (h.sep k) (fun v u x hv hu hx => ?_)
    obtain ⟨j, hj, hvj⟩ := List.mem_flatMap.1 hv
    have hjk := List.mem_range.1 hj
    obtain ⟨a, ha⟩ := List.mem_iff_getElem?.1 hvj
    obtain ⟨b, hb⟩ := List.mem_iff_getElem?.1 hu
    exact h.ds j k a b v u x (by omega) ha hb hx
theorem allV_len (c : Nat → Rp) (k : Nat) (h : ∀ j, j < k → (c j).ms.length ≤ 10000000) : (allV c k).length ≤ k * 10000001 := by
  induction k with
  | zero => simp [allV]
  | succ k ih =>
    rw [allV_succ]
    have := h k (Nat.lt_succ_self k)
    have := ih (fun j hj => h j (by omega))
    simp only [List.length_append, List.length_cons]
    omega
/-- a list's word is written anew -/
theorem Sep.set {w : World} {b : Nat} {vs : List Value} {xss : List (List Int)} (h : Sep w b vs xss) {i q g n cap : Nat} {xs : List Int} (hv : vs[i]? = some (.slice (some ⟨g, 0, none⟩) n cap)) (hx : xss[i]? = some xs) (hq : q < xs.length) (z : Int) :
    Sep (w.setCell ⟨g, q, none⟩ (.int .i64 z)) b vs (xss.set i (xs.set q z)) ∧ Ch (Is g) w (w.setCell ⟨g, q, none⟩ (.int .i64 z)) ∧ b ≤ g := by
  have hc : Ch (Is g) w (w.setCell ⟨g, q, none⟩ (.int .i64 z)) := Ch.setCell (D := Is g) (p := ⟨g, q, none⟩) (Ch.refl _ w) (fun _ => rfl) _
  have ho := h.own i _ _ hv hx
  have hbg : b ≤ g := own_base_ ho.1 g rfl
  refine ⟨⟨by simp [h.len], fun j u ys hu hy => ?_, h.dis⟩, hc, hbg⟩
  by_cases e : j = i
  · subst e
    rw [hv] at hu
    cases hu
    rw [List.getElem?_set_self (List.getElem?_eq_some_iff.1 hx).1] at hy
    cases hy
    rcases owns_open_sz ho.1 with ⟨h0, _⟩ | ⟨g', cap', rest, e', hb, hr, hnc, hcm, hl⟩
    · cases h0
    · simp only [Value.slice.injEq, Option.some.injEq, Addr.mk.injEq, and_true] at e'
      obtain ⟨rfl, rfl, rfl⟩ := e'
      have hrow : Row (w.setCell ⟨g, q, none⟩ (.int .i64 z)) g 2 (ints (xs.set q z) ++ rest) := by
        have h2 := hr.set_ q (.int .i64 z)
        have e2 : (ints xs ++ rest).set q (.int .i64 z) = ints (xs.set q z) ++ rest := by
          rw [List.set_append_left _ _ (by rw [ints_length]; exact hq), show ints (xs.set q z) = (ints xs).set q (.int .i64 z) by simp [ints, List.map_set]]
        rw [e2] at h2
        exact h2
      refine ⟨⟨by simp, .inr ⟨g, cap, _, by simp [ints_length], hb, hrow, by simpa [ints_length] using hnc, hcm, ?_, ?_⟩⟩, by rw [List.length_set]; exact ho.2⟩
      · simp only [List.size_toArray, List.length_append, ints_length, List.length_set] at hl ⊢
        omega
      · simp only [List.toList_toArray, Nat.mul_one]
        exact List.take_left
  · rw [List.getElem?_set_ne (Ne.symm e)] at hy
    refine ⟨owns_keepIs (h.own j u ys hu hy).1 hc (fun hk => ?_), (h.own j u ys hu hy).2⟩
    exact h.dis j i u _ g e hu hv hk rfl
/-- the first i lists hold their marks, and the next one's first k words -/
def Wn (w : World) (b : Nat) (vs : List Value) (len : Nat → Nat) (i k : Nat) : Prop := ∃ xss, Sep w b vs xss ∧ (∀ (j : Nat) xs, xss[j]? = some xs → xs.length = len j) ∧ ∀ (j : Nat) xs (q : Nat), xss[j]? = some xs → (j < i ∨ (j = i ∧ q < k)) → q < xs.length → xs[q]? = some (-1000 - (j : Int))
theorem Wn.start {w : World} {b : Nat} {vs : List Value} {xss : List (List Int)} (h : Sep w b vs xss) : Wn w b vs (fun j => (xss[j]?.getD []).length) 0 0 :=
  ⟨xss, h, fun j xs hx => by simp only [hx, Option.getD_some], fun j xs q _ hj => by omega⟩
theorem Wn.next {w : World} {b : Nat} {vs : List Value} {len : Nat → Nat} {i k : Nat} (h : Wn w b vs len i k) (hk : len i ≤ k) : Wn w b vs len (i + 1) 0 := by
  obtain ⟨xss, h1, h2, h3⟩ := h
  refine ⟨xss, h1, h2, fun j xs q hx hj hq => h3 j xs q hx ?_ hq⟩
  have := h2 j xs hx
  rcases hj with hj | hj
  · by_cases e : j = i
    · subst e
      exact .inr ⟨rfl, by omega⟩
    · exact .inl (by omega)
  · omega
theorem Wn.keepNo {w w' : World} {b : Nat} {vs : List Value} {len : Nat → Nat} {i k : Nat} (h : Wn w b vs len i k) (hc : Ch No w w') : Wn w' b vs len i k := by
  obtain ⟨xss, h1, h2⟩ := h
  exact ⟨xss, h1.keepNo hc, h2⟩
/-- where a list lies -/
theorem Wn.at_ {w : World} {b : Nat} {vs : List Value} {len : Nat → Nat} {i k j : Nat} (h : Wn w b vs len i k) (hj : j < vs.length) : ∃ A cap, vs[j]? = some (.slice A (len j) cap) ∧ len j ≤ 10000000 ∧ ∀ q, q < len j → ∃ g y, A = some ⟨g, 0, none⟩ ∧ b ≤ g ∧ w.cell? ⟨g, q, none⟩ = some (.int .i64 y) ∧ w.frozen? ⟨g, q, none⟩ = false ∧ (j < i ∨ (j = i ∧ q < k) → y = -1000 - (j : Int)) := by
  obtain ⟨xss, h1, h2, h3⟩ := h
  obtain ⟨v, hv⟩ : ∃ v, vs[j]? = some v := ⟨_, List.getElem?_eq_getElem hj⟩
  obtain ⟨xs, hx⟩ : ∃ xs, xss[j]? = some xs := ⟨_, List.getElem?_eq_getElem (by rw [← h1.len]; exact hj)⟩
  have ho := h1.own j v xs hv hx
  have hl := h2 j xs hx
  rcases owns_open_sz ho.1 with ⟨rfl, h0⟩ | ⟨g, cap, rest, rfl, hb, hr, hnc, hcm, _⟩
  · rw [ints_length] at h0
    refine ⟨none, 0, by rw [hv, ← hl, h0], by rw [← hl]; exact ho.2, fun q hq => by omega⟩
  · refine ⟨_, cap, by rw [hv, ints_length, hl], by rw [← hl]; exact ho.2, fun q hq => ⟨g, (xs[q]?).getD 0, rfl, hb, ?_, hr.frozen q, fun hd => ?_⟩⟩
    · rw [hr.cell, List.getElem?_append_left (by rw [ints_length, hl]; exact hq), List.getElem?_eq_getElem (by rw [ints_length, hl]; exact hq)]
      simp [ints, List.getElem?_eq_getElem (show q < xs.length by omega)]
    · rw [h3 j xs q hx hd (by omega)]
      rfl
/-- one more word bears the mark -/
theorem Wn.set {w : World} {b : Nat} {vs : List Value} {len : Nat → Nat} {i k g cap : Nat} (h : Wn w b vs len i k) (hv : vs[i]? = some (.slice (some ⟨g, 0, none⟩) (len i) cap)) (hk : k < len i) :
    Wn (w.setCell ⟨g, k, none⟩ (.int .i64 (-1000 - (i : Int)))) b vs len i (k + 1) ∧ Ch (Is g) w (w.setCell ⟨g, k, none⟩ (.int .i64 (-1000 - (i : Int)))) := by
  obtain ⟨xss, h1, h2, h3⟩ := h
  obtain ⟨xs, hx⟩ : ∃ xs, xss[i]? = some xs := ⟨_, List.getElem?_eq_getElem (by rw [← h1.len]; exact (List.getElem?_eq_some_iff.1 hv).1)⟩
  have hl := h2 i xs hx
  obtain ⟨g1, g2, g3⟩ := h1.set hv hx (q := k) (by omega) (-1000 - (i : Int))
  refine ⟨⟨_, g1, fun j ys hy => ?_, fun j ys q hy hd hq => ?_⟩, g2⟩
  · by_cases e : j = i
    · subst e
      rw [List.getElem?_set_self (List.getElem?_eq_some_iff.1 hx).1] at hy
      cases hy
      rw [List.length_set]
      exact hl
    · rw [List.getElem?_set_ne (Ne.symm e)] at hy
      exact h2 j ys hy
  · by_cases e : j = i
    · subst e
      rw [List.getElem?_set_self (List.getElem?_eq_some_iff.1 hx).1] at hy
      cases hy
      rw [List.length_set] at hq
      by_cases e : q = k
      · subst e
        exact List.getElem?_set_self hq
      · rw [List.getElem?_set_ne (Ne.symm e)]
        exact h3 j xs q hx (by omega) hq
    · rw [List.getElem?_set_ne (Ne.symm e)] at hy
      exact h3 j ys q hy (by omega) hq
/-- a list that grows upon one of the lists: either in its row, behind it, or in new memory -/
structure Lg (w0 wr : World) (b : Nat) (vs : List Value) (xss : List (List Int)) (i : Nat) (v : Value) (n : Nat) : Prop where
  sep : Sep wr b vs xss
  own : ∃ ys, wr.ownsRow b 2 1 v n ys
  blk : ∃ u xs, vs[i]? = some u ∧ xss[i]? = some xs ∧ xs.length ≤ n ∧ (v.ownBlock = u.ownBlock ∨ ∀ k, v.ownBlock = some k → w0.heap.size ≤ k)
  ch : w0.heap.size ≤ wr.heap.size
theorem Sep.lt {w : World} {b : Nat} {vs : List Value} {xss : List (List Int)} (h : Sep w b vs xss) {i k : Nat} {v : Value} (hv : vs[i]? = some v) (hk : v.ownBlock = some k) : k < w.heap.size := by
  obtain ⟨xs, hx⟩ : ∃ xs, xss[i]? = some xs := ⟨_, List.getElem?_eq_getElem (by rw [← h.len]; exact (List.getElem?_eq_some_iff.1 hv).1)⟩
  obtain ⟨L, hL⟩ := own_row (h.own i v xs hv hx).1 hk
  exact hL.lt
theorem Lg.start {w : World} {b : Nat} {vs : List Value} {xss : List (List Int)} (h : Sep w b vs xss) {i : Nat} {v : Value} {xs : List Int} (hv : vs[i]? = some v) (hx : xss[i]? = some xs) : Lg w w b vs xss i v xs.length := by
  have ho := (h.own i v xs hv hx).1
  rw [ints_length] at ho
  exact ⟨h, ⟨_, ho⟩, ⟨v, xs, hv, hx, Nat.le_refl _, .inl rfl⟩, Nat.le_refl _⟩
theorem Lg.keepNo {w0 w w' : World} {b : Nat} {vs : List Value} {xss : List (List Int)} {i n : Nat} {v : Value} (h : Lg w0 w b vs xss i v n) (hc : Ch No w w') : Lg w0 w' b vs xss i v n := by
  obtain ⟨ys, ho⟩ := h.own
  exact ⟨h.sep.keepNo hc, ⟨ys, owns_keepNo ho hc⟩, h.blk, Nat.le_trans h.ch hc.size⟩
/-- one more word behind it -/
theorem Lg.snoc {w0 w w9 : World} {b : Nat} {vs : List Value} {xss : List (List Int)} {i n m : Nat} {v v9 : Value} {ys : List Value} (h : Lg w0 w b vs xss i v n) (hlow : ∀ (j k : Nat) u, vs[j]? = some u → u.ownBlock = some k → k < w0.heap.size)
    (ho : w9.ownsRow b 2 1 v9 (n + m) ys) (hg : w.grownBy w9 v.ownBlock) (hat : v9.ownBlock = v.ownBlock ∨ ∀ k, v9.ownBlock = some k → w.heap.size ≤ k) (hrow : ∀ g L, v.ownBlock = some g → Row w g 2 L → ∃ L', Row w9 g 2 L' ∧ L'.length = L.length ∧ L'.take n = L.take n) :
    Lg w0 w9 b vs xss i v9 (n + m) ∧ ∀ D : Nat → Prop, (∀ k, (∃ u, vs[i]? = some u ∧ u.ownBlock = some k) → D k) → ∀ wb, Ch D wb w → wb.heap.size ≤ w0.heap.size → Ch D wb w9 := by
  obtain ⟨u, xs, hu, hx, hl, hb⟩ := h.blk
  have hc := Ch.of_grownBy hg
  refine ⟨⟨⟨h.sep.len, fun j u2 xs2 h1 h2 => ?_, h.sep.dis⟩, ⟨_, ho⟩, ⟨u, xs, hu, hx, by omega, ?_⟩, Nat.le_trans h.ch hg.size⟩, fun D hD wb hwb hs => hwb.trans hc (fun k hk he => ?_)⟩
  · have ho2 := h.sep.own j u2 xs2 h1 h2
    refine ⟨?_, ho2.2⟩
    by_cases e : ∃ k, v.ownBlock = some k ∧ u2.ownBlock = some k
    · obtain ⟨k, e1, e2⟩ := e
      have hk := hlow j k u2 h1 e2
      have hji : j = i := Classical.byContradiction fun hne => by
        rcases hb with hb | hb
        · rw [e1] at hb
          exact h.sep.dis j i u2 u k hne h1 hu e2 hb.symm
        · have := hb k e1
          omega
      subst hji
      rw [hu] at h1
      cases h1
      rw [hx] at h2
      cases h2
      rcases owns_open_sz ho2.1 with ⟨rfl, h0⟩ | ⟨g, cap, rest, rfl, hbg, hr, hnc, hcm, hle⟩
      · cases e2
      · cases e2
        obtain ⟨L', hL', hll, ht⟩ := hrow _ _ e1 hr
        refine ⟨by simp, .inr ⟨g, cap, L'.toArray, rfl, hbg, hL', hnc, hcm, ?_, ?_⟩⟩
        · simp only [List.size_toArray, hll, List.length_append]
          omega
        · simp only [List.toList_toArray, Nat.mul_one, ints_length]
          have e3 : L'.take xs.length = (L'.take n).take xs.length := by rw [List.take_take, Nat.min_eq_left hl]
          rw [e3, ht, List.take_take, Nat.min_eq_left hl, ← ints_length xs]
          exact List.take_left
    · refine owns_keep ho2.1 hc (fun k hk he => e ⟨k, ?_, hk⟩)
      exact he
  · rcases hat with h' | h'
    · rw [h']
      exact hb
    · exact .inr (fun k hk => Nat.le_trans h.ch (h' k hk))
  · rcases hb with hb | hb
    · exact hD k ⟨u, hu, by rw [← hb]; exact he⟩
    · have := hb k he
      omega
end Go.Proofs.Ytlokpcbiomjcnaa
