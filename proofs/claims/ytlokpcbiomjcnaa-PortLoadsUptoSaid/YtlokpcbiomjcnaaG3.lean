/- Load: the document's, walked. -/
import Derived.Test.YtlokpcbiomjcnaaG2
set_option linter.unusedVariables false
set_option linter.unusedSimpArgs false
namespace Go.Proofs.Ytlokpcbiomjcnaa
open Go.RowKit
/-- how a port stands behind Load -/
def newS (part : Int) (p : Pt) (s : Ps) : Ps := if p.part = part then usedS p.kind s else ps0
def newL (part : Int) (qs : List Pt) (ls : List Ps) : List Ps := List.zipWith (newS part) qs ls
theorem newL_get {part : Int} {qs : List Pt} {ls : List Ps} {j : Nat} {p : Pt} {s : Ps} (hp : qs[j]? = some p) (hs : ls[j]? = some s) : (newL part qs ls)[j]? = some (newS part p s) := by
  simp [newL, List.getElem?_zipWith, hp, hs]
/-- a list of standings that is being made: its elements' lists lie where they lay at w -/
structure El (w wr : World) (rs : List Ps) (k : Nat) (v : Value) (d : Nat → List Value) : Prop where
  own : wr.ownsRow w.heap.size 36 5 v k ((List.range k).flatMap d)
  len : ∀ a, (d a).length = 5
  ste : ∀ (i : Nat) s, i < k → rs[i]? = some s → Ste wr (d i) s
  ch : Ch No w wr
theorem El.keep {D : Nat → Prop} {w wr w' : World} {rs : List Ps} {k : Nat} {v : Value} {d : Nat → List Value} (h : El w wr rs k v d) (hc : Ch D wr w') (hv : ∀ b, v.ownBlock = some b → ¬ D b) (hs : ∀ (i : Nat) s, i < k → rs[i]? = some s → Ste w' (d i) s) (hD : Ch No w w') : El w w' rs k v d :=
  ⟨owns_keep h.own hc hv, h.len, hs, hD⟩
theorem El.keepNo {w wr w' : World} {rs : List Ps} {k : Nat} {v : Value} {d : Nat → List Value} (h : El w wr rs k v d) (hc : Ch No wr w') : El w w' rs k v d :=
  h.keep hc (fun _ _ => not_no _) (fun i s hi hs => (h.ste i s hi hs).keepNo hc) (h.ch.then_ hc)
theorem El.start (w wr : World) (rs : List Ps) (hc : Ch No w wr) : El w wr rs 0 (.slice none 0 0) (fun _ => scell rp0 ps0) :=
  ⟨owns_nil _ _ _ _, fun _ => rfl, fun i s hi => absurd hi (Nat.not_lt_zero i), hc⟩
/-- one more, its elements' lists lying where they lay at w -/
theorem El.snoc {w wr w9 : World} {rs : List Ps} {k : Nat} {v v9 : Value} {d : Nat → List Value} {news : List Value} (h : El w wr rs k v d) (ho : w9.ownsRow w.heap.size 36 5 v9 (k + 1) ((List.range k).flatMap d ++ news)) (hg : wr.grownBy w9 v.ownBlock) (hl : news.length = 5)
    (hw : ∀ (i : Nat) s, i < k → rs[i]? = some s → Ste w (d i) s) (hn : ∀ s, rs[k]? = some s → Ste w news s) : El w w9 rs (k + 1) v9 (fun a => if a = k then news else d a) ∧ ∀ (i : Nat) s, i < k + 1 → rs[i]? = some s → Ste w ((fun a => if a = k then news else d a) i) s := by
  have hc := grown_no (Nat.le_refl _) h.own hg h.ch
  have hall : ∀ (i : Nat) s, i < k + 1 → rs[i]? = some s → Ste w ((fun a => if a = k then news else d a) i) s := fun i s hi hs => by
    by_cases e : i = k
    · subst e
      simp only [if_true]
      exact hn s hs
    · simp only [if_neg e]
      exact hw i s (by omega) hs
  refine ⟨⟨?_, fun a => ?_, fun i s hi hs => (hall i s hi hs).keepNo hc, hc⟩, hall⟩
  · have e : ((List.range (k + 1)).flatMap fun a => if a = k then news else d a) = (List.range k).flatMap d ++ news := by
      rw [List.range_succ, List.flatMap_append]
      congr 1
      · simp only [List.flatMap_def]
        congr 1
        apply List.map_congr_left
        intro a ha
        have := List.mem_range.1 ha
        rw [if_neg (by omega)]
      · simp
    rw [e]
    exact ho
  · by_cases e : a = k
    · simp only [if_pos e]
      exact hl
    · simp only [if_neg e]
      exact h.len a
theorem El.stl {w wr : World} {rs : List Ps} {k : Nat} {v : Value} {d : Nat → List Value} (h : El w wr rs k v d) (hk : rs.length = k) (hk63 : k ≤ 9223372036854775807) : Stl wr v rs := by
  rcases owns_open_sz h.own with ⟨rfl, rfl⟩ | ⟨g, cap, rest, rfl, _, hr, _⟩
  · exact ⟨none, 0, by rw [hk], by omega, fun i s hs => by
      have := (List.getElem?_eq_some_iff.1 hs).1
      omega⟩
  · refine ⟨some ⟨g, 0, none⟩, cap, by rw [hk], by omega, fun i s hs => ?_⟩
    have hi := (List.getElem?_eq_some_iff.1 hs).1
    refine ⟨_, d i, rfl, fun j u hj => ?_, h.ste i s (by omega) hs⟩
    have hj5 := (List.getElem?_eq_some_iff.1 hj).1
    rw [h.len] at hj5
    refine ⟨_, rfl, ?_⟩
    rw [add_lit, add_lit, hr.cell, List.getElem?_append_left (by rw [flat_len _ _ h.len]; omega), flat_get _ _ h.len _ (by omega)]
    rw [show (0 + i * 5 + j) / 5 = i by omega, show (0 + i * 5 + j) % 5 = j by omega]
    exact hj
/-- what the document's Load answers -/
def RLoadP (w w' : World) (part : Int) (qs : List Pt) (ls : List Ps) (e : Ending) : Prop :=
  (¬ Ok part qs ls ∧ e = .returned (.tuple #[.slice none 0 0, .int .i64 20]) ∧ Ch No w w') ∨
  (Ok part qs ls ∧ ∃ v', e = .returned (.tuple #[v', .int .i64 0]) ∧ Stl w' v' (newL part qs ls) ∧ Ch No w w')
theorem Im.pts {b : Nat} {w : World} {qs : List Pt} {A1 A2 : Option Addr} {k1 c1 n c2 : Nat} (h : Im b w (.agg #[.slice A1 k1 c1, .slice A2 n c2, .slice none 0 0]) qs) : Pts w A2 qs := by
  obtain ⟨vp, v, cs, e, h1, h2, h3⟩ := h
  simp at e
  obtain ⟨_, rfl⟩ := e
  intro i p hp
  rcases owns_open_sz h1 with ⟨_, h0⟩ | ⟨g, cap, rest, e, _, hr, _⟩
  · have := (List.getElem?_eq_some_iff.1 hp).1
    omega
  · cases e
    refine ⟨_, rfl, fun j u hj => ⟨_, rfl, ?_⟩⟩
    rw [add_lit, add_lit, Nat.zero_add]
    exact pcells_range hr hp j u hj
theorem ste_zero (w : World) : Ste w [.slice none 0 0, .bool false, .int .i64 0, .slice none 0 0, .int .i64 0] ps0 := ⟨none, [], 0, none, 0, rfl, rfl, Cl.nil _ _, fun i m xs h => by simp at h, Cl.nil _ _, by simp [ps0], by simp [ps0]⟩
/-- the cells of what is used stand for what is used -/
theorem ste_used {w : World} {Aq Ad : Option Addr} {ql cq dl cd : Nat} {has : Bool} {tick lost : Int} {ms : List Value} {q : List (List Int)} {data : List Int} (hql : q.length = ql) (hdl : data.length = dl) (hml : ms.length = q.length) (hq : Cl w Aq ms) (hqs : ∀ (i : Nat) m xs, ms[i]? = some m → q[i]? = some xs → Sl w m xs) (hd : Cl w Ad (ints data)) (hq63 : ql ≤ 9223372036854775807) (hd63 : dl ≤ 9223372036854775807) (kind : Int) :
    Ste w (usedC kind (.slice Aq ql cq) has tick (.slice Ad dl cd) lost) (usedS kind ⟨q, has, tick, data, lost⟩) := by
  subst hql hdl
  unfold usedC usedS
  by_cases e0 : kind = 0
  · simp only [if_pos e0]
    by_cases e1 : kind = 1 ∨ has = false
    · simp only [if_pos e1]
      exact ⟨none, [], 0, none, 0, rfl, rfl, Cl.nil _ _, fun i m xs h => by simp at h, Cl.nil _ _, by simp, by simp⟩
    · simp only [if_neg e1]
      exact ⟨none, [], 0, Ad, cd, rfl, rfl, Cl.nil _ _, fun i m xs h => by simp at h, hd, by simp, hd63⟩
  · simp only [if_neg e0]
    by_cases e1 : kind = 1 ∨ has = false
    · simp only [if_pos e1]
      exact ⟨Aq, ms, cq, none, 0, rfl, hml, hq, hqs, Cl.nil _ _, hq63, by simp⟩
    · simp only [if_neg e1]
      exact ⟨Aq, ms, cq, Ad, cd, rfl, hml, hq, hqs, hd, hq63, hd63⟩
set_option maxHeartbeats 8000000 in
set_option maxRecDepth 100000 in
theorem rload_calls {b : Nat} {w : World} {x v : Value} {qs : List Pt} {ls : List Ps} (h : Im b w x qs) (hf : Fine qs) (part : Int) (hv : Stl w v ls) :
    Calls Try.prog 8 #[x, .int .i64 part, v] w fun e w' => RLoadP w w' part qs ls e := by
  obtain ⟨A, cap, rfl, hl, -⟩ := id hv
  obtain ⟨A1, k1, c1, A2, c2, rfl⟩ := h.ports
  have HPT := Lib.hid h.pts
  have HF := Lib.hid hf
  have HV := Lib.hid hv
  obtain ⟨n, hn⟩ : ∃ n, qs.length = n := ⟨_, rfl⟩
  obtain ⟨m, hml⟩ : ∃ m, ls.length = m := ⟨_, rfl⟩
  have HN := Lib.hid hn
  have HL := Lib.hid hml
  have hn64 : n ≤ 64 := by rw [← hn]; exact hf.1
  rw [hml] at HV hl ⊢
  rw [hn]
  have HW1 : Hid (Row (w.alloc (.cells #[.slice A1 k1 c1, .slice A2 n c2, .slice none 0 0] 27)) w.heap.size 27 [.slice A1 k1 c1, .slice A2 n c2, .slice none 0 0]) := Row.new w 27 _
  have HC1 : Hid (Ch No w (w.alloc (.cells #[.slice A1 k1 c1, .slice A2 n c2, .slice none 0 0] 27))) := (Ch.refl _ _).alloc _
  clear h hf hv hn hml
  by_cases hmn : m = n
  case neg =>
    have e1 : ((m : Int) != (n : Int)) = true := by simp; omega
    have HNO : Hid (¬ Ok part qs ls) := fun hok => hmn (by rw [← HN.out, ← HL.out]; exact hok.1)
    go_enter Try.func8, Try.ntmps8
    go_wp2_with (fail)
    exact bodyPost_ret (v := .tuple #[.slice none 0 0, .int .i64 20]) (by kernel_rfl) rfl (.inl ⟨HNO.out, rfl, HC1.out⟩)
  subst hmn
  have e1 : ((m : Int) != (m : Int)) = false := by simp
  go_enter Try.func8, Try.ntmps8
  go_upto_region 3 with (fail)
  generalize w.alloc (.cells #[.slice A1 k1 c1, .slice A2 m c2, .slice none 0 0] 27) = w1 at *
  obtain ⟨X, hX⟩ : ∃ X, X = w.heap.size := ⟨_, rfl⟩
  rw [← hX] at HW1 ⊢
  have HXN : Hid (w.heap.size ≤ X) := by rw [hX]; exact Nat.le_refl _
  clear hX e1
  go_wp2_with (fail)
  go_loopw [8, 9] (fun u i wr => ∃ (k : Nat) (d : Nat → List Value), k ≤ m ∧ i = .int .i64 k ∧ Hid (El w wr (newL part qs ls) k u d) ∧ Hid (∀ (i : Nat) s, i < k → (newL part qs ls)[i]? = some s → Ste w (d i) s) ∧ Hid (Row wr X 27 [.slice A1 k1 c1, .slice A2 m c2, .slice none 0 0]) ∧ Hid (∀ (j : Nat) p s, j < k → qs[j]? = some p → ls[j]? = some s → p.part = part → fitsS p.kind p.size p.depth s = true)) (fun _ i _ => m - (intOf i).toNat)
  case atStart => exact ⟨0, _, Nat.zero_le _, rfl, El.start w w1 _ HC1.out, fun i s hi => absurd hi (Nat.not_lt_zero i), HW1, fun j p s hj => absurd hj (Nat.not_lt_zero j)⟩
  case round =>
    clear HW1 HC1
    obtain ⟨k, d, hk, rfl, HEL, HSW, HX, HOK⟩ := hrel
    have x1 : wr.cell? ⟨X, 1, none⟩ = some (.slice A2 m c2) := HX.out.cell 1
    obtain ⟨A3, c3, rfl⟩ := own_slice_len HEL.out.own
    by_cases hlt : k < m
    · have e1 : decide ((k : Int) < (m : Int)) = true := by simp; omega
      obtain ⟨p, hp⟩ : ∃ p, qs[k]? = some p := ⟨_, List.getElem?_eq_getElem (by have := HN.out; omega)⟩
      obtain ⟨s, hs⟩ : ∃ s, ls[k]? = some s := ⟨_, List.getElem?_eq_getElem (by have := HL.out; omega)⟩
      obtain ⟨ad2, rfl, hpc⟩ := HPT.out k p hp
      obtain ⟨ad, Aq, ms, cq, Ad, cd, rfl, hx, hml, hq, hqs, hd, hl1, hl2⟩ := HV.out.at_ hs
      have hk := HF.out.2 p (List.mem_of_getElem? hp)
      have hnew := newL_get (part := part) hp hs
      obtain ⟨pp, kind, out, size, depth, refresh⟩ := p
      obtain ⟨q, has, tick, data, lost⟩ := s
      simp only [] at hx hml hqs hd hl1 hl2 hk
      have HNEW := Lib.hid hnew
      have HP := Lib.hid hp
      have HS := Lib.hid hs
      have HPC := Lib.hid hpc
      have HCL : Hid (Cl w (some (ad.add (k * 5))) [.slice Aq q.length cq, .bool has, .int .i64 tick, .slice Ad data.length cd, .int .i64 lost]) := hx
      have HUS := Lib.hid (fun kd => ste_used (w := w) (cq := cq) (cd := cd) (has := has) (tick := tick) (lost := lost) rfl rfl hml hq hqs hd hl1 hl2 kd)
      have HFT := Lib.hid (fun (w' : World) (hc : Ch No w w') => rfits_calls (w := w') pp kind size depth refresh out (Aq := Aq) (Ad := Ad) (ql := q.length) (cq := cq) (dl := data.length) (cd := cd) (has := has) (tick := tick) (lost := lost) (ms := ms) (q := q) (data := data) rfl rfl hl1 hl2 hml (hq.keepNo hc) (fun i m xs h1 h2 => (hqs i m xs h1 h2).keepNo hc))
      obtain ⟨ql, hqll⟩ : ∃ l, q.length = l := ⟨_, rfl⟩
      obtain ⟨dl, hdll⟩ : ∃ l, data.length = l := ⟨_, rfl⟩
      rw [hqll, hdll] at HUS HFT HCL
      rw [hqll] at hl1
      rw [hdll] at hl2
      have hkd : kind = 0 ∨ kind = 1 := hk.2.2.2.1
      have a0 := (hpc.keepNo HEL.out.ch).first rfl
      have HKM : Hid (m - (k + 1) < m - k) := by show _ < _; omega
      clear hp hs hx hml hq hqs hd hnew hpc hqll hdll hk
      by_cases hpart : pp = part
      case neg =>
        have e2 : (pp != part) = true := by simp [hpart]
        have HST : Hid (∀ s, (newL part qs ls)[k]? = some s → Ste w [.slice none 0 0, .bool false, .int .i64 0, .slice none 0 0, .int .i64 0] s) := by
          intro s hs
          rw [HNEW.out] at hs
          cases hs
          rw [newS, if_neg (by exact hpart)]
          exact ste_zero w
        have HOK9 : Hid (∀ (j : Nat) p s, j < k + 1 → qs[j]? = some p → ls[j]? = some s → p.part = part → fitsS p.kind p.size p.depth s = true) := by
          intro j p s hj h1 h2 h3
          by_cases e : j = k
          · subst e
            obtain rfl := Option.some.inj (HP.out.symm.trans h1)
            exact absurd h3 hpart
          · exact HOK.out j p s (by omega) h1 h2 h3
        have HR7 : Hid (Row (wr.alloc (.cells #[.slice none 0 0, .bool false, .int .i64 0, .slice none 0 0, .int .i64 0] 36)) wr.heap.size 36 [.slice none 0 0, .bool false, .int .i64 0, .slice none 0 0, .int .i64 0]) := Row.new wr 36 _
        have HEL7 : Hid (El w (wr.alloc (.cells #[.slice none 0 0, .bool false, .int .i64 0, .slice none 0 0, .int .i64 0] 36)) (newL part qs ls) k (.slice A3 k c3) d) := HEL.out.keepNo ((Ch.refl _ _).alloc _)
        have HX7 : Hid (Row (wr.alloc (.cells #[.slice none 0 0, .bool false, .int .i64 0, .slice none 0 0, .int .i64 0] 36)) X 27 [.slice A1 k1 c1, .slice (some ad2) m c2, .slice none 0 0]) := HX.out.alloc _
        have HOW : Hid ((wr.alloc (.cells #[.slice none 0 0, .bool false, .int .i64 0, .slice none 0 0, .int .i64 0] 36)).ownsRow w.heap.size 36 5 (.slice A3 k c3) k ((List.range k).flatMap d)) := HEL7.out.own
        have HCN : Hid (Cl (wr.alloc (.cells #[.slice none 0 0, .bool false, .int .i64 0, .slice none 0 0, .int .i64 0] 36)) (some ⟨wr.heap.size, 0, none⟩) [.slice none 0 0, .bool false, .int .i64 0, .slice none 0 0, .int .i64 0]) := HR7.out.cl0
        have HB1 : Hid (k + 1 ≤ 140737488355328) := by show _ ≤ _; omega
        have HB2 : Hid ((k + 1) * 72 ≤ 140737488355328) := by show _ ≤ _; omega
        have HB3 : Hid (w.heap.size ≤ (wr.alloc (.cells #[.slice none 0 0, .bool false, .int .i64 0, .slice none 0 0, .int .i64 0] 36)).heap.size) := HEL7.out.ch.size
        have HON : Hid (∀ u ∈ ([.slice none 0 0, .bool false, .int .i64 0, .slice none 0 0, .int .i64 0] : List Value), u.oneCell' = true) := by
          intro u hu
          simp at hu
          rcases hu with rfl | rfl | rfl | rfl | rfl <;> rfl
        have HZ : Hid (0 < 5) := by show _ < _; omega
        go_upto_region 6 with (first | (at_builtin; refine wpList_append_sz (o := ⟨some 34, _, _, _, _, _⟩) rfl (.tmp 31) (.tmp 33) 23 rfl w.heap.size 36 (.agg #[.slice none 0 0, .bool false, .int .i64 0, .slice none 0 0, .int .i64 0]) 5 72 Try.underlying23 info36 rfl HZ.out (.slice A3 k c3) k ((List.range k).flatMap d) rfl ⟨wr.heap.size, 0, none⟩ 1 1 [.slice none 0 0, .bool false, .int .i64 0, .slice none 0 0, .int .i64 0] rfl HOW.out rfl HCN.out HON.out HB1.out HB2.out HB3.out ?_; intro v9 w9 ho9 hg9 hat9; have HO9 := Lib.hid ho9; have HG9 := Lib.hid hg9; clear ho9 hg9 hat9))
        obtain ⟨hel9, hsw9⟩ := HEL7.out.snoc HO9.out HG9.out rfl HSW.out HST.out
        have HEL9 := Lib.hid hel9
        have HSW9 := Lib.hid hsw9
        have HX9 : Hid (Row w9 X 27 [.slice A1 k1 c1, .slice (some ad2) m c2, .slice none 0 0]) := HX7.out.keep (Ch.of_grownBy HG9.out) (own_ne_row HEL7.out.own HX7.out (by decide))
        clear hel9 hsw9
        go_wp2_with (fail)
        exact ⟨⟨k + 1, _, by omega, by go_num, HEL9, HSW9, HX9, HOK9⟩, by simp [intOf]; omega⟩
      case pos =>
        subst hpart
        have e2 : (pp != pp) = false := by simp
        go_upto_region 9 with (fail)
        refine wp_region_quiet_tail 9 (by kernel_rfl) (by kernel_rfl) (fun w' => Ch No wr w') ((Ch.refl _ _).drew) ?_
        simp only [List.take_succ_cons, List.take_zero, List.drop_succ_cons, List.drop_zero]
        refine wpQuiet_value (by rfl) (.pointer (some ⟨X, 1, none⟩)) (fun _ => by kernel_rfl) ?_
        simp only [Act.put, List.setIfInBounds_toArray, List.set_cons_zero, List.set_cons_succ]
        refine wpQuiet_read (by rfl) (.slice (some ad2) m c2) (fun w' hw' => exec_load_cell 22 (.tmp 35) rfl ⟨X, 1, none⟩ rfl _ Try.underlying22 rfl _ ((HX.out.keepNo hw').cell 1)) ?_
        simp only [Act.put, List.setIfInBounds_toArray, List.set_cons_zero, List.set_cons_succ]
        refine wpQuiet_value (by rfl) (.int .i64 (k : Int)) (fun _ => by kernel_rfl) ?_
        simp only [Act.put, List.setIfInBounds_toArray, List.set_cons_zero, List.set_cons_succ]
        refine wpQuiet_value (by rfl) (.pointer (some (ad2.add (k * 6)))) (fun _ => exec_ats 22 46 6 (.tmp 36) (.tmp 37) rfl Try.underlying22 size46' ad2 m c2 k rfl rfl hlt) ?_
        simp only [Act.put, List.setIfInBounds_toArray, List.set_cons_zero, List.set_cons_succ]
        refine wpQuiet_read (by rfl) (PT pp kind size depth refresh out) (fun w' hw' => exec_load_cl 46 (.tmp 38) rfl (ad2.add (k * 6)) rfl [.int .i64 pp, .int .i64 kind, .bool out, .int .i64 size, .int .i64 depth, .int .i64 refresh] _ (HPC.out.keepNo (HEL.out.ch.then_ hw')) Try.underlying46 rfl size46') ?_
        simp only [Act.put, List.setIfInBounds_toArray, List.set_cons_zero, List.set_cons_succ]
        refine wpQuiet_value (by rfl) (.slice (some ad) m cap) (fun _ => by kernel_rfl) ?_
        simp only [Act.put, List.setIfInBounds_toArray, List.set_cons_zero, List.set_cons_succ]
        refine wpQuiet_value (by rfl) (.int .i64 (k : Int)) (fun _ => by kernel_rfl) ?_
        simp only [Act.put, List.setIfInBounds_toArray, List.set_cons_zero, List.set_cons_succ]
        refine wpQuiet_value (by rfl) (.pointer (some (ad.add (k * 5)))) (fun _ => exec_ats 23 36 5 (.tmp 40) (.tmp 41) rfl Try.underlying23 size36 ad m cap k rfl rfl hlt) ?_
        simp only [Act.put, List.setIfInBounds_toArray, List.set_cons_zero, List.set_cons_succ]
        refine wpQuiet_read (by rfl) (.agg #[.slice Aq ql cq, .bool has, .int .i64 tick, .slice Ad dl cd, .int .i64 lost]) (fun w' hw' => exec_load_cl 36 (.tmp 42) rfl (ad.add (k * 5)) rfl [.slice Aq ql cq, .bool has, .int .i64 tick, .slice Ad dl cd, .int .i64 lost] _ (HCL.out.keepNo (HEL.out.ch.then_ hw')) Try.underlying36 rfl size36) ?_
        simp only [Act.put, List.setIfInBounds_toArray, List.set_cons_zero, List.set_cons_succ]
        refine wpQuiet_nil ?_
        intro w4 hc4
        have HC4 := Lib.hid hc4
        have HCW4 := Lib.hid (HEL.out.ch.then_ hc4)
        clear hc4 a0 x1
        go_wp2_with (fail)
        refine (HFT.out _ HCW4.out).mono ?_
        rintro e w5 ⟨rfl, hc5⟩
        have HC5 := Lib.hid (HC4.out.then_ hc5)
        obtain ⟨fb, hfb⟩ : ∃ b, fitsS kind size depth ⟨q, has, tick, data, lost⟩ = b := ⟨_, rfl⟩
        have HFB := Lib.hid hfb
        rw [hfb]
        clear hfb hc5 HC4 HCW4
        cases fb
        · go_wp2_with (fail)
          exact bodyPost_ret (v := .tuple #[.slice none 0 0, .int .i64 20]) (by kernel_rfl) rfl (.inl ⟨fun hok => (by
            have h := hok.2 k _ _ HP.out HS.out rfl
            rw [HFB.out] at h
            cases h), rfl, HEL.out.ch.then_ HC5.out⟩)
        · have HOK9 : Hid (∀ (j : Nat) p s, j < k + 1 → qs[j]? = some p → ls[j]? = some s → p.part = pp → fitsS p.kind p.size p.depth s = true) := by
            intro j p s hj h1 h2 h3
            by_cases e : j = k
            · subst e
              obtain rfl := Option.some.inj (HP.out.symm.trans h1)
              obtain rfl := Option.some.inj (HS.out.symm.trans h2)
              exact HFB.out
            · exact HOK.out j p s (by omega) h1 h2 h3
          have HST : Hid (∀ s, (newL pp qs ls)[k]? = some s → Ste w (usedC kind (.slice Aq ql cq) has tick (.slice Ad dl cd) lost) s) := by
            intro s hs
            rw [HNEW.out] at hs
            cases hs
            rw [newS, if_pos rfl]
            exact HUS.out kind
          have HEL5 := Lib.hid (HEL.out.keepNo HC5.out)
          have HX5 := Lib.hid (HX.out.keepNo HC5.out)
          have hcl5 := HCL.out.keepNo HEL5.out.ch
          have hpc5 := HPC.out.keepNo HEL5.out.ch
          have z0 := hcl5.first rfl
          have z1 := hcl5.next 0 rfl
          have z2 := hcl5.next 1 rfl
          have z3 := hcl5.next 2 rfl
          have z4 := hcl5.next 3 rfl
          simp only [Nat.reduceAdd] at z1 z2 z3 z4
          clear hcl5 hpc5 HEL HX HC5 HFT HOK HCL
          go_upto_region 11 with (fail)
          have HP6 : Hid (Row (w5.alloc (.cells #[.slice Aq ql cq, .bool has, .int .i64 tick, .slice Ad dl cd, .int .i64 lost] 36)) w5.heap.size 36 [.slice Aq ql cq, .bool has, .int .i64 tick, .slice Ad dl cd, .int .i64 lost]) := Row.new w5 36 _
          have HNP : Hid (∀ b, (Value.slice A3 k c3).ownBlock = some b → ¬ Is w5.heap.size b) := by
            intro b hb e
            have e1 : b = w5.heap.size := e
            obtain ⟨L, hL⟩ := own_row HEL5.out.own hb
            have := hL.lt
            omega
          have HPN : Hid (w.heap.size ≤ w5.heap.size) := HEL5.out.ch.size
          have HC6 : Hid (Ch No w5 (w5.alloc (.cells #[.slice Aq ql cq, .bool has, .int .i64 tick, .slice Ad dl cd, .int .i64 lost] 36))) := (Ch.refl _ _).alloc _
          generalize w5.alloc (.cells #[.slice Aq ql cq, .bool has, .int .i64 tick, .slice Ad dl cd, .int .i64 lost] 36) = w6 at *
          have HPX : Hid (X ≠ w5.heap.size) := by
            have := HX5.out.lt
            show X ≠ _
            omega
          generalize w5.heap.size = P at *
          have HEL6 := Lib.hid (HEL5.out.keepNo HC6.out)
          have HX6 := Lib.hid (HX5.out.keepNo HC6.out)
          have hpc6 := HPC.out.keepNo HEL6.out.ch
          have x1 : w6.cell? ⟨X, 1, none⟩ = some (.slice (some ad2) m c2) := HX6.out.cell 1
          have b1 := hpc6.next 0 rfl
          simp only [Nat.reduceAdd] at b1
          have p1 : w6.cell? ⟨P, 1, none⟩ = some (.bool has) := HP6.out.cell 1
          have H1Z : Hid (∀ u ∈ ([.bool false, .int .i64 0, .slice none 0 0] : List Value), u.oneCell' = true) := by
            intro u hu
            simp at hu
            rcases hu with rfl | rfl | rfl <;> rfl
          have HFIT : Hid (1 + 3 ≤ 5) := by show _ ≤ _; omega
          clear z0 z1 z2 z3 z4 HEL5 HX5 HC6 hpc6
          rcases hkd with rfl | rfl
          · cases has with
            | false =>
              have e3 : ((0 : Int) == 1) = false := by decide
              go_upto_region 13 with (first | ((with_reducible refine at_op (o := ⟨none, .store 34 (.tmp 63) (.tmp 62), _, _, _, _⟩) ?_); refine pl_store_mid (o := ⟨none, .store 34 (.tmp 63) (.tmp 62), _, _, _, _⟩) rfl 34 (.tmp 63) (.tmp 62) rfl P 1 rfl 36 [.slice Aq ql cq, .bool false, .int .i64 tick, .slice Ad dl cd, .int .i64 lost] [.bool false, .int .i64 0, .slice none 0 0] rfl HP6.out HFIT.out size34 H1Z.out ?_; intro w7 hr7 hc7; have HR7 := Lib.hid hr7; have HC7 := Lib.hid hc7; clear hr7 hc7))
              have HP7 : Hid (Row w7 P 36 [.slice Aq ql cq, .bool false, .int .i64 0, .slice none 0 0, .int .i64 lost]) := HR7.out
              have HCW7 : Hid (Ch No w w7) := ch_newg HEL6.out.ch HC7.out HPN.out
              have HEL7 : Hid (El w w7 (newL pp qs ls) k (.slice A3 k c3) d) := HEL6.out.keep HC7.out HNP.out (fun i s hi hs => (HSW.out i s hi hs).keepNo HCW7.out) HCW7.out
              have HX7 := Lib.hid (HX6.out.keepIs HC7.out HPX.out)
              have x1 : w7.cell? ⟨X, 1, none⟩ = some (.slice (some ad2) m c2) := HX7.out.cell 1
              have hpc7 := HPC.out.keepNo HCW7.out
              have b1 := hpc7.next 0 rfl
              simp only [Nat.reduceAdd] at b1
              clear hpc7 HEL6 HX6 HP6 HR7 HC7
              clear p1
              have p0 : w7.cell? ⟨P, 0, none⟩ = some (.slice Aq ql cq) := HP7.out.cell 0
              have f0 : w7.frozen? ⟨P, 0, none⟩ = false := HP7.out.frozen 0
              go_upto_region 15 with (fail)
              have HC8 : Hid (Ch (Is P) w7 (w7.setCell ⟨P, 0, none⟩ (.slice none 0 0))) := Ch.setCell (D := Is P) (p := ⟨P, 0, none⟩) (Ch.refl _ _) (fun _ => rfl) _
              have HP8 : Hid (Row (w7.setCell ⟨P, 0, none⟩ (.slice none 0 0)) P 36 [.slice none 0 0, .bool false, .int .i64 0, .slice none 0 0, .int .i64 lost]) := HP7.out.set_ 0 _
              generalize w7.setCell ⟨P, 0, none⟩ (.slice none 0 0) = w8 at *
              have HCW8 : Hid (Ch No w w8) := ch_newg HEL7.out.ch HC8.out HPN.out
              have HEL8 : Hid (El w w8 (newL pp qs ls) k (.slice A3 k c3) d) := HEL7.out.keep HC8.out HNP.out (fun i s hi hs => (HSW.out i s hi hs).keepNo HCW8.out) HCW8.out
              have HX8 := Lib.hid (HX7.out.keepIs HC8.out HPX.out)
              clear p0 f0 x1 b1 HEL7 HX7 HP7 HC8
              have HR9 : Hid (Row (w8.alloc (.cells #[.slice none 0 0, .bool false, .int .i64 0, .slice none 0 0, .int .i64 lost] 36)) w8.heap.size 36 [.slice none 0 0, .bool false, .int .i64 0, .slice none 0 0, .int .i64 lost]) := Row.new w8 36 _
              have HELq : Hid (El w (w8.alloc (.cells #[.slice none 0 0, .bool false, .int .i64 0, .slice none 0 0, .int .i64 lost] 36)) (newL pp qs ls) k (.slice A3 k c3) d) := HEL8.out.keepNo ((Ch.refl _ _).alloc _)
              have HXq : Hid (Row (w8.alloc (.cells #[.slice none 0 0, .bool false, .int .i64 0, .slice none 0 0, .int .i64 lost] 36)) X 27 [.slice A1 k1 c1, .slice (some ad2) m c2, .slice none 0 0]) := HX8.out.alloc _
              have HOW : Hid ((w8.alloc (.cells #[.slice none 0 0, .bool false, .int .i64 0, .slice none 0 0, .int .i64 lost] 36)).ownsRow w.heap.size 36 5 (.slice A3 k c3) k ((List.range k).flatMap d)) := HELq.out.own
              have HCN : Hid (Cl (w8.alloc (.cells #[.slice none 0 0, .bool false, .int .i64 0, .slice none 0 0, .int .i64 lost] 36)) (some ⟨w8.heap.size, 0, none⟩) [.slice none 0 0, .bool false, .int .i64 0, .slice none 0 0, .int .i64 lost]) := HR9.out.cl0
              have HB1 : Hid (k + 1 ≤ 140737488355328) := by show _ ≤ _; omega
              have HB2 : Hid ((k + 1) * 72 ≤ 140737488355328) := by show _ ≤ _; omega
              have HB3 : Hid (w.heap.size ≤ (w8.alloc (.cells #[.slice none 0 0, .bool false, .int .i64 0, .slice none 0 0, .int .i64 lost] 36)).heap.size) := HELq.out.ch.size
              have HON : Hid (∀ u ∈ ([.slice none 0 0, .bool false, .int .i64 0, .slice none 0 0, .int .i64 lost] : List Value), u.oneCell' = true) := by
                intro u hu
                simp at hu
                rcases hu with rfl | rfl | rfl | rfl | rfl <;> rfl
              have HZ : Hid (0 < 5) := by show _ < _; omega
              go_upto_region 6 with (first | ((with_reducible refine at_op (o := ⟨some 73, _, _, _, _, _⟩) ?_); refine pl_load (o := ⟨some 73, _, _, _, _, _⟩) rfl 36 _ rfl P rfl 36 [.slice none 0 0, .bool false, .int .i64 0, .slice none 0 0, .int .i64 lost] HP8.out _ Try.underlying36 rfl size36 ?_) | (at_builtin; refine wpList_append_sz (o := ⟨some 75, _, _, _, _, _⟩) rfl (.tmp 72) (.tmp 74) 23 rfl w.heap.size 36 (.agg #[.slice none 0 0, .bool false, .int .i64 0, .slice none 0 0, .int .i64 0]) 5 72 Try.underlying23 info36 rfl HZ.out (.slice A3 k c3) k ((List.range k).flatMap d) rfl ⟨w8.heap.size, 0, none⟩ 1 1 [.slice none 0 0, .bool false, .int .i64 0, .slice none 0 0, .int .i64 lost] rfl HOW.out rfl HCN.out HON.out HB1.out HB2.out HB3.out ?_; intro v9 w9 ho9 hg9 hat9; have HO9 := Lib.hid ho9; have HG9 := Lib.hid hg9; clear ho9 hg9 hat9))
              obtain ⟨hel9, hsw9⟩ := HELq.out.snoc HO9.out HG9.out rfl HSW.out HST.out
              have HEL9 := Lib.hid hel9
              have HSW9 := Lib.hid hsw9
              have HX9 : Hid (Row w9 X 27 [.slice A1 k1 c1, .slice (some ad2) m c2, .slice none 0 0]) := HXq.out.keep (Ch.of_grownBy HG9.out) (own_ne_row HELq.out.own HXq.out (by decide))
              clear hel9 hsw9
              go_wp2_with (fail)
              exact ⟨⟨k + 1, _, by omega, by go_num, HEL9, HSW9, HX9, HOK9⟩, by simp [intOf]; omega⟩
            | true =>
              have e3 : ((0 : Int) == 1) = false := by decide
              go_upto_region 13 with (fail)
              have p0 : w6.cell? ⟨P, 0, none⟩ = some (.slice Aq ql cq) := HP6.out.cell 0
              have f0 : w6.frozen? ⟨P, 0, none⟩ = false := HP6.out.frozen 0
              go_upto_region 15 with (fail)
              have HC8 : Hid (Ch (Is P) w6 (w6.setCell ⟨P, 0, none⟩ (.slice none 0 0))) := Ch.setCell (D := Is P) (p := ⟨P, 0, none⟩) (Ch.refl _ _) (fun _ => rfl) _
              have HP8 : Hid (Row (w6.setCell ⟨P, 0, none⟩ (.slice none 0 0)) P 36 [.slice none 0 0, .bool true, .int .i64 tick, .slice Ad dl cd, .int .i64 lost]) := HP6.out.set_ 0 _
              generalize w6.setCell ⟨P, 0, none⟩ (.slice none 0 0) = w8 at *
              have HCW8 : Hid (Ch No w w8) := ch_newg HEL6.out.ch HC8.out HPN.out
              have HEL8 : Hid (El w w8 (newL pp qs ls) k (.slice A3 k c3) d) := HEL6.out.keep HC8.out HNP.out (fun i s hi hs => (HSW.out i s hi hs).keepNo HCW8.out) HCW8.out
              have HX8 := Lib.hid (HX6.out.keepIs HC8.out HPX.out)
              clear p0 f0 x1 b1 HEL6 HX6 HP6 HC8
              have HR9 : Hid (Row (w8.alloc (.cells #[.slice none 0 0, .bool true, .int .i64 tick, .slice Ad dl cd, .int .i64 lost] 36)) w8.heap.size 36 [.slice none 0 0, .bool true, .int .i64 tick, .slice Ad dl cd, .int .i64 lost]) := Row.new w8 36 _
              have HELq : Hid (El w (w8.alloc (.cells #[.slice none 0 0, .bool true, .int .i64 tick, .slice Ad dl cd, .int .i64 lost] 36)) (newL pp qs ls) k (.slice A3 k c3) d) := HEL8.out.keepNo ((Ch.refl _ _).alloc _)
              have HXq : Hid (Row (w8.alloc (.cells #[.slice none 0 0, .bool true, .int .i64 tick, .slice Ad dl cd, .int .i64 lost] 36)) X 27 [.slice A1 k1 c1, .slice (some ad2) m c2, .slice none 0 0]) := HX8.out.alloc _
              have HOW : Hid ((w8.alloc (.cells #[.slice none 0 0, .bool true, .int .i64 tick, .slice Ad dl cd, .int .i64 lost] 36)).ownsRow w.heap.size 36 5 (.slice A3 k c3) k ((List.range k).flatMap d)) := HELq.out.own
              have HCN : Hid (Cl (w8.alloc (.cells #[.slice none 0 0, .bool true, .int .i64 tick, .slice Ad dl cd, .int .i64 lost] 36)) (some ⟨w8.heap.size, 0, none⟩) [.slice none 0 0, .bool true, .int .i64 tick, .slice Ad dl cd, .int .i64 lost]) := HR9.out.cl0
              have HB1 : Hid (k + 1 ≤ 140737488355328) := by show _ ≤ _; omega
              have HB2 : Hid ((k + 1) * 72 ≤ 140737488355328) := by show _ ≤ _; omega
              have HB3 : Hid (w.heap.size ≤ (w8.alloc (.cells #[.slice none 0 0, .bool true, .int .i64 tick, .slice Ad dl cd, .int .i64 lost] 36)).heap.size) := HELq.out.ch.size
              have HON : Hid (∀ u ∈ ([.slice none 0 0, .bool true, .int .i64 tick, .slice Ad dl cd, .int .i64 lost] : List Value), u.oneCell' = true) := by
                intro u hu
                simp at hu
                rcases hu with rfl | rfl | rfl | rfl | rfl <;> rfl
              have HZ : Hid (0 < 5) := by show _ < _; omega
              go_upto_region 6 with (first | ((with_reducible refine at_op (o := ⟨some 73, _, _, _, _, _⟩) ?_); refine pl_load (o := ⟨some 73, _, _, _, _, _⟩) rfl 36 _ rfl P rfl 36 [.slice none 0 0, .bool true, .int .i64 tick, .slice Ad dl cd, .int .i64 lost] HP8.out _ Try.underlying36 rfl size36 ?_) | (at_builtin; refine wpList_append_sz (o := ⟨some 75, _, _, _, _, _⟩) rfl (.tmp 72) (.tmp 74) 23 rfl w.heap.size 36 (.agg #[.slice none 0 0, .bool false, .int .i64 0, .slice none 0 0, .int .i64 0]) 5 72 Try.underlying23 info36 rfl HZ.out (.slice A3 k c3) k ((List.range k).flatMap d) rfl ⟨w8.heap.size, 0, none⟩ 1 1 [.slice none 0 0, .bool true, .int .i64 tick, .slice Ad dl cd, .int .i64 lost] rfl HOW.out rfl HCN.out HON.out HB1.out HB2.out HB3.out ?_; intro v9 w9 ho9 hg9 hat9; have HO9 := Lib.hid ho9; have HG9 := Lib.hid hg9; clear ho9 hg9 hat9))
              obtain ⟨hel9, hsw9⟩ := HELq.out.snoc HO9.out HG9.out rfl HSW.out HST.out
              have HEL9 := Lib.hid hel9
              have HSW9 := Lib.hid hsw9
              have HX9 : Hid (Row w9 X 27 [.slice A1 k1 c1, .slice (some ad2) m c2, .slice none 0 0]) := HXq.out.keep (Ch.of_grownBy HG9.out) (own_ne_row HELq.out.own HXq.out (by decide))
              clear hel9 hsw9
              go_wp2_with (fail)
              exact ⟨⟨k + 1, _, by omega, by go_num, HEL9, HSW9, HX9, HOK9⟩, by simp [intOf]; omega⟩
          · have e3 : ((1 : Int) == 1) = true := by decide
            go_upto_region 13 with (first | ((with_reducible refine at_op (o := ⟨none, .store 34 (.tmp 63) (.tmp 62), _, _, _, _⟩) ?_); refine pl_store_mid (o := ⟨none, .store 34 (.tmp 63) (.tmp 62), _, _, _, _⟩) rfl 34 (.tmp 63) (.tmp 62) rfl P 1 rfl 36 [.slice Aq ql cq, .bool has, .int .i64 tick, .slice Ad dl cd, .int .i64 lost] [.bool false, .int .i64 0, .slice none 0 0] rfl HP6.out HFIT.out size34 H1Z.out ?_; intro w7 hr7 hc7; have HR7 := Lib.hid hr7; have HC7 := Lib.hid hc7; clear hr7 hc7))
            have HP7 : Hid (Row w7 P 36 [.slice Aq ql cq, .bool false, .int .i64 0, .slice none 0 0, .int .i64 lost]) := HR7.out
            have HCW7 : Hid (Ch No w w7) := ch_newg HEL6.out.ch HC7.out HPN.out
            have HEL7 : Hid (El w w7 (newL pp qs ls) k (.slice A3 k c3) d) := HEL6.out.keep HC7.out HNP.out (fun i s hi hs => (HSW.out i s hi hs).keepNo HCW7.out) HCW7.out
            have HX7 := Lib.hid (HX6.out.keepIs HC7.out HPX.out)
            have x1 : w7.cell? ⟨X, 1, none⟩ = some (.slice (some ad2) m c2) := HX7.out.cell 1
            have hpc7 := HPC.out.keepNo HCW7.out
            have b1 := hpc7.next 0 rfl
            simp only [Nat.reduceAdd] at b1
            clear hpc7 HEL6 HX6 HP6 HR7 HC7
            clear p1
            have HR9 : Hid (Row (w7.alloc (.cells #[.slice Aq ql cq, .bool false, .int .i64 0, .slice none 0 0, .int .i64 lost] 36)) w7.heap.size 36 [.slice Aq ql cq, .bool false, .int .i64 0, .slice none 0 0, .int .i64 lost]) := Row.new w7 36 _
            have HELq : Hid (El w (w7.alloc (.cells #[.slice Aq ql cq, .bool false, .int .i64 0, .slice none 0 0, .int .i64 lost] 36)) (newL pp qs ls) k (.slice A3 k c3) d) := HEL7.out.keepNo ((Ch.refl _ _).alloc _)
            have HXq : Hid (Row (w7.alloc (.cells #[.slice Aq ql cq, .bool false, .int .i64 0, .slice none 0 0, .int .i64 lost] 36)) X 27 [.slice A1 k1 c1, .slice (some ad2) m c2, .slice none 0 0]) := HX7.out.alloc _
            have HOW : Hid ((w7.alloc (.cells #[.slice Aq ql cq, .bool false, .int .i64 0, .slice none 0 0, .int .i64 lost] 36)).ownsRow w.heap.size 36 5 (.slice A3 k c3) k ((List.range k).flatMap d)) := HELq.out.own
            have HCN : Hid (Cl (w7.alloc (.cells #[.slice Aq ql cq, .bool false, .int .i64 0, .slice none 0 0, .int .i64 lost] 36)) (some ⟨w7.heap.size, 0, none⟩) [.slice Aq ql cq, .bool false, .int .i64 0, .slice none 0 0, .int .i64 lost]) := HR9.out.cl0
            have HB1 : Hid (k + 1 ≤ 140737488355328) := by show _ ≤ _; omega
            have HB2 : Hid ((k + 1) * 72 ≤ 140737488355328) := by show _ ≤ _; omega
            have HB3 : Hid (w.heap.size ≤ (w7.alloc (.cells #[.slice Aq ql cq, .bool false, .int .i64 0, .slice none 0 0, .int .i64 lost] 36)).heap.size) := HELq.out.ch.size
            have HON : Hid (∀ u ∈ ([.slice Aq ql cq, .bool false, .int .i64 0, .slice none 0 0, .int .i64 lost] : List Value), u.oneCell' = true) := by
              intro u hu
              simp at hu
              rcases hu with rfl | rfl | rfl | rfl | rfl <;> rfl
            have HZ : Hid (0 < 5) := by show _ < _; omega
            go_upto_region 6 with (first | ((with_reducible refine at_op (o := ⟨some 73, _, _, _, _, _⟩) ?_); refine pl_load (o := ⟨some 73, _, _, _, _, _⟩) rfl 36 _ rfl P rfl 36 [.slice Aq ql cq, .bool false, .int .i64 0, .slice none 0 0, .int .i64 lost] HP7.out _ Try.underlying36 rfl size36 ?_) | (at_builtin; refine wpList_append_sz (o := ⟨some 75, _, _, _, _, _⟩) rfl (.tmp 72) (.tmp 74) 23 rfl w.heap.size 36 (.agg #[.slice none 0 0, .bool false, .int .i64 0, .slice none 0 0, .int .i64 0]) 5 72 Try.underlying23 info36 rfl HZ.out (.slice A3 k c3) k ((List.range k).flatMap d) rfl ⟨w7.heap.size, 0, none⟩ 1 1 [.slice Aq ql cq, .bool false, .int .i64 0, .slice none 0 0, .int .i64 lost] rfl HOW.out rfl HCN.out HON.out HB1.out HB2.out HB3.out ?_; intro v9 w9 ho9 hg9 hat9; have HO9 := Lib.hid ho9; have HG9 := Lib.hid hg9; clear ho9 hg9 hat9))
            obtain ⟨hel9, hsw9⟩ := HELq.out.snoc HO9.out HG9.out rfl HSW.out HST.out
            have HEL9 := Lib.hid hel9
            have HSW9 := Lib.hid hsw9
            have HX9 : Hid (Row w9 X 27 [.slice A1 k1 c1, .slice (some ad2) m c2, .slice none 0 0]) := HXq.out.keep (Ch.of_grownBy HG9.out) (own_ne_row HELq.out.own HXq.out (by decide))
            clear hel9 hsw9
            go_wp2_with (fail)
            exact ⟨⟨k + 1, _, by omega, by go_num, HEL9, HSW9, HX9, HOK9⟩, by simp [intOf]; omega⟩
    · have e1 : decide ((k : Int) < (m : Int)) = false := by simp; omega
      obtain rfl : k = m := by omega
      go_wp2_with (fail)
      exact bodyPost_ret (v := .tuple #[.slice A3 k c3, .int .i64 0]) (by kernel_rfl) rfl (.inr ⟨⟨HL.out.trans HN.out.symm, fun j p s hp hs he => HOK.out j p s (by have := (List.getElem?_eq_some_iff.1 hp).1; have := HN.out; omega) hp hs he⟩, _, rfl, HEL.out.stl (by simp [newL, HN.out, HL.out]) (by omega), HEL.out.ch⟩)
end Go.Proofs.Ytlokpcbiomjcnaa
