/- Lists that marked made, standings made of them. -/
import Derived.Test.YtlokpcbiomjcnaaH7
set_option linter.unusedVariables false
set_option linter.unusedSimpArgs false
namespace Go.Proofs.Ytlokpcbiomjcnaa
open Go.RowKit
set_option maxHeartbeats 4000000 in
set_option maxRecDepth 100000 in
theorem left_any {w : World} {g cap n m c : Nat} {B : Option Addr} {xs ys : List Int} {rest : List Value} (hn : n = xs.length) (hm : m = ys.length) (hl : xs.length ≤ 10000000) (hcap : n + 70 ≤ cap) (hcm : cap ≤ maxLen) (hlen : n = m)
    (hr : Row w g 2 (ints (xs ++ marks 70) ++ rest)) (hy : Cl w B (ints ys)) :
    Calls Try.prog 11 #[.slice (some ⟨g, 0, none⟩) n cap, .slice B m c] w fun e w' => e = .returned (.bool (decide (xs = ys))) ∧ Ch (Is g) w w' ∧ ∃ L, Row w' g 2 L ∧ L.length = (ints (xs ++ marks 70) ++ rest).length := by
  have HR := Lib.hid hr
  have HN := Lib.hid hn
  have HSX : Hid (Sl w (.slice (some ⟨g, 0, none⟩) n cap) xs) := by
    refine ⟨_, cap, by rw [hn], ?_, by omega⟩
    have h1 := hr
    rw [ints_append, List.append_assoc] at h1
    exact row_cl h1
  have HSY : Hid (Sl w (.slice B m c) ys) := ⟨B, c, by rw [hm], hy, by omega⟩
  have HSAME := Lib.hid (same_calls HSX.out HSY.out)
  have hn6 : n ≤ 10000000 := by omega
  have hc63 : cap ≤ 9223372036854775807 := by unfold maxLen at hcm; omega
  subst hlen
  clear hr hy hn hm hl hcm
  generalize decide (xs = ys) = bb at *
  go_enter Try.func11, Try.ntmps11
  go_wp2_with (fail)
  refine HSAME.out.mono ?_
  rintro e w1 ⟨rfl, hc1⟩
  have HC1 := Lib.hid hc1
  have HR1 := Lib.hid (HR.out.keepNo hc1)
  clear hc1
  go_upto_region 6 with (fail)
  have hk70 : wrap64 ((n : Int) + 70) = (n : Int) + 70 := by unfold wrap64; omega
  have e70 : ((n : Int) + 70).toNat = n + 70 := by omega
  go_loopw [6, 7] (fun b i wr => ∃ k : Nat, n ≤ k ∧ k ≤ n + 70 ∧ i = .int .i64 k ∧ b = .bool bb ∧ wr = w1) (fun _ i _ => n + 70 - (intOf i).toNat)
  case atStart => exact ⟨n, Nat.le_refl _, by omega, rfl, rfl, rfl⟩
  case round =>
    obtain ⟨k, hk1, hk2, rfl, rfl, hwr⟩ := hrel
    have hwr' := hwr.symm
    subst hwr'
    by_cases hlt : k < n + 70
    · have c0 : w1.cell? ⟨g, k, none⟩ = some (.int .i64 (-77)) := by
        rw [row_rd HR1.out k (by rw [List.length_append, marks_length, ← HN.out]; exact hlt), rd_marks xs k (by rw [← HN.out]; exact hk1) (by rw [← HN.out]; exact hlt)]
      have e1 : decide ((k : Int) < (n : Int) + 70) = true := by simp; omega
      cases bb with
      | true =>
        go_wp2_with (fail)
        exact ⟨⟨k + 1, by omega, by omega, by go_num, rfl, trivial⟩, by simp [intOf]; omega⟩
      | false =>
        go_wp2_with (fail)
        exact ⟨⟨k + 1, by omega, by omega, by go_num, rfl, trivial⟩, by simp [intOf]; omega⟩
    · have e1 : decide ((k : Int) < (n : Int) + 70) = false := by simp; omega
      have HI : Hid (∃ L, Row w1 g 2 L ∧ L.length = (ints (xs ++ marks 70) ++ rest).length ∧ Ch (Is g) w w1) := ⟨_, HR1.out, rfl, HC1.out.mono (fun _ _ h => h.elim)⟩
      have HLL : Hid (n + 70 ≤ (ints (xs ++ marks 70) ++ rest).length) := by
        show _ ≤ _
        rw [List.length_append, ints_length, List.length_append, marks_length, ← HN.out]
        omega
      go_wp2_with (fail)
      go_loopw [8] (fun i wr => ∃ k : Nat, k ≤ n + 70 ∧ i = .int .i64 k ∧ Hid (∃ L, Row wr g 2 L ∧ L.length = (ints (xs ++ marks 70) ++ rest).length ∧ Ch (Is g) w wr)) (fun i _ => n + 70 - (intOf i).toNat)
      case atStart => exact ⟨0, Nat.zero_le _, rfl, HI⟩
      case round =>
        clear HI
        obtain ⟨j, hj, rfl, HI⟩ := hrel
        by_cases hjl : j < n + 70
        · have e2 : decide ((j : Int) < (n : Int) + 70) = true := by simp; omega
          obtain ⟨L, hL, hLl, hLc⟩ := HI.out
          have hjL : j < L.length := by have := HLL.out; omega
          have d0 : (wr.cell? ⟨g, j, none⟩).isSome = true := by
            rw [hL.cell, List.getElem?_eq_getElem hjL]
            rfl
          obtain ⟨u, hu⟩ := Option.isSome_iff_exists.1 d0
          have f0 : wr.frozen? ⟨g, j, none⟩ = false := hL.frozen _
          have HX : Hid (∃ L, Row (wr.setCell ⟨g, j, none⟩ (.int .i64 (-78))) g 2 L ∧ L.length = (ints (xs ++ marks 70) ++ rest).length ∧ Ch (Is g) w (wr.setCell ⟨g, j, none⟩ (.int .i64 (-78)))) := ⟨_, hL.set_ j _, by rw [List.length_set]; exact hLl, hLc.setCell (p := ⟨g, j, none⟩) (fun _ => rfl) _⟩
          clear hL hLl hLc hjL d0
          go_wp2_with (fail)
          exact ⟨⟨j + 1, by omega, by go_num, HX⟩, by simp [intOf]; omega⟩
        · have e2 : decide ((j : Int) < (n : Int) + 70) = false := by simp; omega
          go_wp2_with (fail)
          obtain ⟨L, hL, hLl, hLc⟩ := HI.out
          exact bodyPost_ret (v := .bool bb) (by kernel_rfl) rfl ⟨rfl, hLc, L, hL, hLl⟩
/-- lists that marked made, in memory of their own; those from number p on bear their marks still -/
structure Mkf (w : World) (b : Nat) (vs : List Value) (xss : List (List Int)) (p : Nat) : Prop where
  len : vs.length = xss.length
  own : ∀ (i : Nat) v xs, p ≤ i → vs[i]? = some v → xss[i]? = some xs → ∃ g cap rest, v = .slice (some ⟨g, 0, none⟩) xs.length cap ∧ b ≤ g ∧ Row w g 2 (ints (xs ++ marks 70) ++ rest) ∧ xs.length + 70 ≤ cap ∧ cap ≤ maxLen ∧ xs.length ≤ 10000000
  dis : ∀ (i j : Nat) v u k, i ≠ j → vs[i]? = some v → vs[j]? = some u → v.ownBlock = some k → ¬ u.ownBlock = some k
theorem Mkf.nil (w : World) (b : Nat) : Mkf w b [] [] 0 := ⟨rfl, fun i v xs _ h => by simp at h, fun i j v u k _ h => by simp at h⟩
theorem Mkf.keep {D : Nat → Prop} {w w' : World} {b : Nat} {vs : List Value} {xss : List (List Int)} {p : Nat} (h : Mkf w b vs xss p) (hc : Ch D w w') (hd : Far w D 2) : Mkf w' b vs xss p :=
  ⟨h.len, fun i v xs hp h1 h2 => by
    obtain ⟨g, cap, rest, e, hb, hr, hk⟩ := h.own i v xs hp h1 h2
    exact ⟨g, cap, rest, e, hb, hr.keep hc (hd _ _ hr), hk⟩, h.dis⟩
theorem Mkf.keepNo {w w' : World} {b : Nat} {vs : List Value} {xss : List (List Int)} {p : Nat} (h : Mkf w b vs xss p) (hc : Ch No w w') : Mkf w' b vs xss p := h.keep hc (fun _ _ _ => not_no _)
theorem Mkf.lt {w : World} {b : Nat} {vs : List Value} {xss : List (List Int)} (h : Mkf w b vs xss 0) {i k : Nat} {v : Value} (hv : vs[i]? = some v) (hk : v.ownBlock = some k) : k < w.heap.size := by
  obtain ⟨xs, hx⟩ : ∃ xs, xss[i]? = some xs := ⟨_, List.getElem?_eq_getElem (by rw [← h.len]; exact (List.getElem?_eq_some_iff.1 hv).1)⟩
  obtain ⟨g, cap, rest, rfl, hb, hr, _⟩ := h.own i v xs (Nat.zero_le _) hv hx
  cases hk
  exact hr.lt
theorem Mkf.snoc {w w' : World} {b : Nat} {vs : List Value} {xss : List (List Int)} {e : Ending} {xs : List Int} (h : Mkf w b vs xss 0) (hm : IsMarked w xs e w') (hb : b ≤ w.heap.size) (hl : xs.length ≤ 10000000) : ∃ g cap, e = .returned (.slice (some ⟨g, 0, none⟩) xs.length cap) ∧ Mkf w' b (vs ++ [.slice (some ⟨g, 0, none⟩) xs.length cap]) (xss ++ [xs]) 0 ∧ Ch No w w' := by
  obtain ⟨g, cap, rest, rfl, hr, hcl, hcm, hg, hc⟩ := hm
  have at_ : ∀ (i : Nat) v, (vs ++ [Value.slice (some ⟨g, 0, none⟩) xs.length cap])[i]? = some v → vs[i]? = some v ∨ (i = vs.length ∧ v = .slice (some ⟨g, 0, none⟩) xs.length cap) := fun i v hv => by
    by_cases hi : i < vs.length
    · rw [List.getElem?_append_left hi] at hv
      exact .inl hv
    · have hi2 := (List.getElem?_eq_some_iff.1 hv).1
      simp at hi2
      obtain rfl : i = vs.length := by omega
      rw [List.getElem?_append_right (Nat.le_refl _)] at hv
      simp at hv
      exact .inr ⟨rfl, hv.symm⟩
  refine ⟨g, cap, rfl, ⟨by simp [h.len], fun i v xs' _ h1 h2 => ?_, fun i j v u k hij h1 h2 hk => ?_⟩, hc⟩
  · rcases at_ i v h1 with h1 | ⟨rfl, rfl⟩
    · have hi : i < xss.length := by
        rw [← h.len]
        exact (List.getElem?_eq_some_iff.1 h1).1
      rw [List.getElem?_append_left hi] at h2
      exact (h.keepNo hc).own i v xs' (Nat.zero_le _) h1 h2
    · rw [h.len, List.getElem?_append_right (Nat.le_refl _)] at h2
      simp at h2
      subst h2
      exact ⟨g, cap, rest, rfl, Nat.le_trans hb hg, hr, by omega, hcm, hl⟩
  · rcases at_ i v h1 with g1 | ⟨rfl, rfl⟩
    · rcases at_ j u h2 with g2 | ⟨rfl, rfl⟩
      · exact h.dis i j v u k hij g1 g2 hk
      · intro he
        have := h.lt g1 hk
        have he' : g = k := Option.some.inj he
        omega
    · rcases at_ j u h2 with g2 | ⟨rfl, _⟩
      · intro he
        have := h.lt g2 he
        have he' : g = k := Option.some.inj hk
        omega
      · exact absurd rfl hij
/-- one of them is written full -/
theorem Mkf.left {w : World} {b : Nat} {vs : List Value} {xss : List (List Int)} {p : Nat} (h : Mkf w b vs xss p) {v : Value} {xs : List Int} (hv : vs[p]? = some v) (hx : xss[p]? = some xs) : ∃ g cap rest, v = .slice (some ⟨g, 0, none⟩) xs.length cap ∧ b ≤ g ∧ Row w g 2 (ints (xs ++ marks 70) ++ rest) ∧ xs.length + 70 ≤ cap ∧ cap ≤ maxLen ∧ xs.length ≤ 10000000 ∧ ∀ w', Ch (Is g) w w' → Mkf w' b vs xss (p + 1) := by
  obtain ⟨g, cap, rest, rfl, hb, hr, h1, h2, h3⟩ := h.own p v xs (Nat.le_refl _) hv hx
  refine ⟨g, cap, rest, rfl, hb, hr, h1, h2, h3, fun w' hc => ⟨h.len, fun i u ys hi hu hy => ?_, h.dis⟩⟩
  obtain ⟨g', cap', rest', rfl, hb', hr', hk'⟩ := h.own i u ys (by omega) hu hy
  refine ⟨g', cap', rest', rfl, hb', hr'.keepIs hc (fun e => ?_), hk'⟩
  subst e
  exact h.dis i p _ _ g' (by omega) hu hv rfl rfl
theorem Mkf.weak {w : World} {b : Nat} {vs : List Value} {xss : List (List Int)} {p q : Nat} (h : Mkf w b vs xss p) (hq : p ≤ q) : Mkf w b vs xss q := ⟨h.len, fun i v xs hi => h.own i v xs (Nat.le_trans hq hi), h.dis⟩
theorem allV_split (c : Nat → Rp) {j m : Nat} (h : j < m) : ∃ r, allV c m = allV c j ++ ((c j).vd :: (c j).ms) ++ r := by
  induction m with
  | zero => omega
  | succ m ih =>
    rw [allV_succ]
    by_cases e : j = m
    · subst e
      exact ⟨[], by simp⟩
    · obtain ⟨r, hr⟩ := ih (by omega)
      exact ⟨r ++ ((c m).vd :: (c m).ms), by rw [hr]; simp⟩
theorem allX_split (ss : Nat → Ps) {j m : Nat} (h : j < m) : ∃ r, allX ss m = allX ss j ++ ((ss j).data :: (ss j).q) ++ r := by
  induction m with
  | zero => omega
  | succ m ih =>
    rw [allX_succ]
    by_cases e : j = m
    · subst e
      exact ⟨[], by simp⟩
    · obtain ⟨r, hr⟩ := ih (by omega)
      exact ⟨r ++ ((ss m).data :: (ss m).q), by rw [hr]; simp⟩
theorem all_len (c : Nat → Rp) (ss : Nat → Ps) {m : Nat} (h : ∀ j, j < m → (c j).ms.length = (ss j).q.length) {j : Nat} (hj : j ≤ m) : (allX ss j).length = (allV c j).length := by
  induction j with
  | zero => rfl
  | succ j ih =>
    rw [allX_succ, allV_succ]
    simp only [List.length_append, List.length_cons, ih (by omega), h j (by omega)]
/-- list number i of place j -/
theorem allV_at (c : Nat → Rp) {j m : Nat} (h : j < m) (i : Nat) (hi : i ≤ (c j).ms.length) : (allV c m)[(allV c j).length + i]? = ((c j).vd :: (c j).ms)[i]? := by
  obtain ⟨r, hr⟩ := allV_split c h
  rw [hr, List.append_assoc, List.getElem?_append_right (by omega), Nat.add_sub_cancel_left, List.getElem?_append_left (by simp; omega)]
theorem allX_at (ss : Nat → Ps) {j m : Nat} (h : j < m) (i : Nat) (hi : i ≤ (ss j).q.length) : (allX ss m)[(allX ss j).length + i]? = ((ss j).data :: (ss j).q)[i]? := by
  obtain ⟨r, hr⟩ := allX_split ss h
  rw [hr, List.append_assoc, List.getElem?_append_right (by omega), Nat.add_sub_cancel_left, List.getElem?_append_left (by simp; omega)]
theorem allV_ext {c d : Nat → Rp} {k : Nat} (h : ∀ i, i < k → c i = d i) : allV c k = allV d k := by
  simp only [allV, List.flatMap_def]
  congr 1
  apply List.map_congr_left
  intro i hi
  rw [h i (List.mem_range.1 hi)]
/-- standings that are being made of lists that marked made -/
structure Gv (w0 wr : World) (ss : Nat → Ps) (k : Nat) (v : Value) (c : Nat → Rp) : Prop where
  own : wr.ownsRow w0.heap.size 36 5 v k ((List.range k).flatMap fun j => scell (c j) (ss j))
  q : ∀ j, j < k → wr.ownsRow w0.heap.size 32 1 (c j).vq (c j).ms.length (c j).ms
  ml : ∀ j, j < k → (c j).ms.length = (ss j).q.length
  mkd : Mkf wr w0.heap.size (allV c k) (allX ss k) 0
  ch : Ch No w0 wr
theorem Gv.start {w0 wr : World} (ss : Nat → Ps) (hc : Ch No w0 wr) : Gv w0 wr ss 0 (.slice none 0 0) (fun _ => rp0) :=
  ⟨owns_nil _ _ _ _, fun j hj => absurd hj (Nat.not_lt_zero j), fun j hj => absurd hj (Nat.not_lt_zero j), Mkf.nil _ _, hc⟩
theorem Gv.keepNo {w0 wr w' : World} {ss : Nat → Ps} {k : Nat} {v : Value} {c : Nat → Rp} (h : Gv w0 wr ss k v c) (hc : Ch No wr w') : Gv w0 w' ss k v c :=
  ⟨owns_keepNo h.own hc, fun j hj => owns_keepNo (h.q j hj) hc, h.ml, h.mkd.keepNo hc, h.ch.then_ hc⟩
theorem Gv.snoc {w0 wr w9 : World} {ss : Nat → Ps} {k : Nat} {v v9 : Value} {c : Nat → Rp} {vq vd : Value} {ms : List Value} (h : Gv w0 wr ss k v c) (hq : wr.ownsRow w0.heap.size 32 1 vq ms.length ms) (hml : ms.length = (ss k).q.length)
    (hmk : Mkf wr w0.heap.size (allV c k ++ vd :: ms) (allX ss k ++ (ss k).data :: (ss k).q) 0) (ho : w9.ownsRow w0.heap.size 36 5 v9 (k + 1) (((List.range k).flatMap fun j => scell (c j) (ss j)) ++ [vq, .bool (ss k).has, .int .i64 (ss k).tick, vd, .int .i64 (ss k).lost])) (hg : wr.grownBy w9 v.ownBlock) :
    Gv w0 w9 ss (k + 1) v9 (fun j => if j = k then ⟨vq, vd, ms⟩ else c j) := by
  have hc := Ch.of_grownBy hg
  have f32 : Far wr (fun i => v.ownBlock = some i) 32 := far_own h.own (by decide)
  have f2 : Far wr (fun i => v.ownBlock = some i) 2 := far_own h.own (by decide)
  have keepq : ∀ vq' n' L', wr.ownsRow w0.heap.size 32 1 vq' n' L' → w9.ownsRow w0.heap.size 32 1 vq' n' L' := fun vq' n' L' ho => owns_keep ho hc (fun i hi => by
    obtain ⟨L, hL⟩ := own_row ho hi
    exact f32 i L hL)
  refine ⟨?_, fun j hj => ?_, fun j hj => ?_, ?_, grown_no (Nat.le_refl _) h.own hg h.ch⟩
  · have e : ((List.range (k + 1)).flatMap fun j => scell ((fun j => if j = k then (⟨vq, vd, ms⟩ : Rp) else c j) j) (ss j)) = ((List.range k).flatMap fun j => scell (c j) (ss j)) ++ [vq, .bool (ss k).has, .int .i64 (ss k).tick, vd, .int .i64 (ss k).lost] := by
      rw [List.range_succ, List.flatMap_append]
      congr 1
      · simp only [List.flatMap_def]
        congr 1
        apply List.map_congr_left
        intro a ha
        have := List.mem_range.1 ha
        rw [if_neg (by omega)]
      · simp [scell]
    rw [e]
    exact ho
  · by_cases e : j = k
    · simp only [if_pos e]
      exact keepq _ _ _ hq
    · simp only [if_neg e]
      exact keepq _ _ _ (h.q j (by omega))
  · by_cases e : j = k
    · subst e
      simp only [if_true]
      exact hml
    · simp only [if_neg e]
      exact h.ml j (by omega)
  · rw [allV_succ, allX_succ, allV_ext (d := c) (fun i hi => if_neg (by omega))]
    simp only [if_true]
    exact hmk.keep hc f2
/-- standings that were lent, a mark behind them -/
structure Ge (w : World) (b gG m : Nat) (ss : Nat → Ps) (c : Nat → Rp) (p : Nat) : Prop where
  row : ∃ r, Row w gG 36 (((List.range m).flatMap fun j => scell (c j) (ss j)) ++ [.slice none 0 0, .bool false, .int .i64 0, .slice none 0 0, .int .i64 (-77)] ++ r)
  q : ∀ j, j < m → w.ownsRow b 32 1 (c j).vq (c j).ms.length (c j).ms
  ml : ∀ j, j < m → (c j).ms.length = (ss j).q.length
  mkd : Mkf w b (allV c m) (allX ss m) p
theorem Ge.keepNo {w w' : World} {b gG m p : Nat} {ss : Nat → Ps} {c : Nat → Rp} (h : Ge w b gG m ss c p) (hc : Ch No w w') : Ge w' b gG m ss c p := by
  obtain ⟨r, hr⟩ := h.row
  exact ⟨⟨r, hr.keepNo hc⟩, fun j hj => owns_keepNo (h.q j hj) hc, h.ml, h.mkd.keepNo hc⟩
theorem Ge.cell {w : World} {b gG m p : Nat} {ss : Nat → Ps} {c : Nat → Rp} (h : Ge w b gG m ss c p) {k : Nat} (hk : k < m) (i : Nat) (hi : i < 5) : w.cell? ⟨gG, k * 5 + i, none⟩ = (scell (c k) (ss k))[i]? := by
  obtain ⟨r, hr⟩ := h.row
  have hl := flat_len (fun j => scell (c j) (ss j)) m (fun _ => rfl)
  rw [hr.cell, List.append_assoc, List.getElem?_append_left (by rw [hl]; omega), flat_get _ _ (fun _ => rfl) _ (by omega)]
  rw [show (k * 5 + i) / 5 = k by omega, show (k * 5 + i) % 5 = i by omega]
theorem Ge.mark {w : World} {b gG m p : Nat} {ss : Nat → Ps} {c : Nat → Rp} (h : Ge w b gG m ss c p) : w.cell? ⟨gG, m * 5 + 4, none⟩ = some (.int .i64 (-77)) := by
  obtain ⟨r, hr⟩ := h.row
  exact mark_at (s := 0) hr (flat_len (fun j => scell (c j) (ss j)) m (fun _ => rfl)) (i := 4) rfl
/-- they stand for what they were made of -/
theorem Ge.stl {w : World} {b gG m cap : Nat} {ss : Nat → Ps} {c : Nat → Rp} {ls : List Ps} (h : Ge w b gG m ss c 0) (hl : ls.length = m) (hm : m ≤ 9223372036854775807) (hs : ∀ (j : Nat) s, ls[j]? = some s → ss j = s) (hq : ∀ s ∈ ls, s.q.length ≤ 10000000) : Stl w (.slice (some ⟨gG, 0, none⟩) m cap) ls := by
  refine ⟨some ⟨gG, 0, none⟩, cap, by rw [hl], by omega, fun i s hi => ?_⟩
  have him : i < m := by rw [← hl]; exact (List.getElem?_eq_some_iff.1 hi).1
  have hsi := hs i s hi
  have hlx := all_len c ss h.ml (Nat.le_of_lt him)
  have hml := h.ml i him
  have sl : ∀ (a : Nat) v xs, a ≤ (ss i).q.length → ((c i).vd :: (c i).ms)[a]? = some v → ((ss i).data :: (ss i).q)[a]? = some xs → Sl w v xs := fun a v xs ha h1 h2 => by
    have e1 := allV_at c him a (by omega)
    have e2 := allX_at ss him a ha
    rw [hlx] at e2
    obtain ⟨g, cap', rest, rfl, hb, hr, h3, h4, h5⟩ := h.mkd.own _ v xs (Nat.zero_le _) (e1.trans h1) (e2.trans h2)
    refine ⟨_, cap', rfl, ?_, by omega⟩
    rw [ints_append, List.append_assoc] at hr
    exact row_cl hr
  obtain ⟨Aq, cq, hvq⟩ := own_slice_len (h.q i him)
  have hcl := h.q i him
  rw [hvq] at hcl
  have hcl2 := own_cl hcl (by omega)
  obtain ⟨Ad, cd, hvd, hcd, hdl⟩ := sl 0 _ _ (Nat.zero_le _) rfl rfl
  subst hsi
  refine ⟨⟨gG, 0, none⟩, scell (c i) (ss i), rfl, fun j u hj => ?_, Aq, (c i).ms, cq, Ad, cd, ?_, hml, hcl2, fun a m' xs h1 h2 => sl (a + 1) m' xs (by have := (List.getElem?_eq_some_iff.1 h2).1; omega) (by simpa using h1) (by simpa using h2), hcd, ?_, hdl⟩
  · have hj5 : j < 5 := (List.getElem?_eq_some_iff.1 hj).1
    refine ⟨_, rfl, ?_⟩
    rw [add_lit, add_lit, Nat.zero_add, h.cell him j hj5]
    exact hj
  · rw [scell, hvq, hvd, hml]
  · have := hq _ (List.mem_of_getElem? hi)
    omega
/-- one of the lists is written full -/
theorem Ge.left {w w' : World} {b gG m p g : Nat} {ss : Nat → Ps} {c : Nat → Rp} (h : Ge w b gG m ss c p) {L : List Value} (hg : Row w g 2 L) (hc : Ch (Is g) w w') (hm : Mkf w' b (allV c m) (allX ss m) (p + 1)) : Ge w' b gG m ss c (p + 1) := by
  obtain ⟨r, hr⟩ := h.row
  exact ⟨⟨r, hr.keepIs hc (row_ne hr hg (by decide))⟩, fun j hj => owns_keepIs (h.q j hj) hc (fun e => own_ne_row (h.q j hj) hg (by decide) e), h.ml, hm⟩
/-- the list is done: a mark is laid behind it, and it is cut -/
theorem Gv.end_ {w0 w : World} {ss : Nat → Ps} {m : Nat} {v : Value} {c : Nat → Rp} {w9 : World} {gG cap : Nat} (h : Gv w0 w ss m v c) (ho : w9.ownsRow w0.heap.size 36 5 (.slice (some ⟨gG, 0, none⟩) (m + 1) cap) (m + 1) (((List.range m).flatMap fun j => scell (c j) (ss j)) ++ [.slice none 0 0, .bool false, .int .i64 0, .slice none 0 0, .int .i64 (-77)])) (hg : w.grownBy w9 v.ownBlock) :
    Ge w9 w0.heap.size gG m ss c 0 ∧ m + 1 ≤ cap ∧ cap ≤ maxLen ∧ Ch No w0 w9 ∧ w0.heap.size ≤ gG := by
  have hc := Ch.of_grownBy hg
  have f32 : Far w (fun i => v.ownBlock = some i) 32 := far_own h.own (by decide)
  have f2 : Far w (fun i => v.ownBlock = some i) 2 := far_own h.own (by decide)
  rcases owns_open_sz ho with ⟨hv, _⟩ | ⟨g, cap', rest, hv, hb, hr, hnc, hcm, _⟩
  · cases hv
  · simp only [Value.slice.injEq, Option.some.injEq, Addr.mk.injEq, and_true] at hv
    obtain ⟨rfl, _, rfl⟩ := hv
    refine ⟨⟨⟨rest, hr⟩, fun j hj => owns_keep (h.q j hj) hc (fun i hi => ?_), h.ml, h.mkd.keep hc f2⟩, hnc, hcm, grown_no (Nat.le_refl _) h.own hg h.ch, hb⟩
    obtain ⟨L, hL⟩ := own_row (h.q j hj) hi
    exact f32 i L hL
end Go.Proofs.Ytlokpcbiomjcnaa
