/- loaded, walked. -/
import Derived.Test.YtlokpcbiomjcnaaH6
set_option linter.unusedVariables false
set_option linter.unusedSimpArgs false
namespace Go.Proofs.Ytlokpcbiomjcnaa
open Go.RowKit
theorem Po.keepLow {D : Nat → Prop} {b : Nat} {w w' : World} {G M : Nat} {f : Int → Option Nat} {part : Int} {qs : List Pt} {E : Nat → Nat} {c : Nat → Rp} {ss : Nat → Ps} (h : Po b w G M f part qs E c ss) (hc : Ch D w w') (hD : ∀ k, b ≤ k → ¬ D k) : Po b w' G M f part qs E c ss where
  hG := h.hG.keep hc (hD _ h.gb)
  hM := h.hM.keep hc (hD _ h.mb)
  gb := h.gb
  mb := h.mb
  ends := fun j p hp he => by
    obtain ⟨h1, h2, h3⟩ := h.ends j p hp he
    exact ⟨h1, h2.keep hc (hD _ h3), h3⟩
  none_ := h.none_
  inj := h.inj
  mm := ⟨fun j => (h.mm.q j).keep hc (fun k hk => hD _ (h.mm.qb j k hk)), h.mm.qb, fun j => ⟨(h.mm.sep j).len, fun i v xs h1 h2 => ⟨owns_keep ((h.mm.sep j).own i v xs h1 h2).1 hc (fun k hk => hD _ (own_base_ ((h.mm.sep j).own i v xs h1 h2).1 k hk)), ((h.mm.sep j).own i v xs h1 h2).2⟩, (h.mm.sep j).dis⟩, h.mm.dq, h.mm.ds⟩
  ql := h.ql
/-- what Load answers, where its memory lies behind b -/
def LoadQ (b : Nat) (w' : World) (part : Int) (qs : List Pt) (ls : List Ps) (e : Ending) : Prop :=
  (¬ Ok part qs ls ∧ e = .returned (.tuple #[.pointer none, .int .i64 20])) ∨
  (Ok part qs ls ∧ ∃ G M f E c ss, e = .returned (.tuple #[.pointer (some ⟨G, 0, none⟩), .int .i64 0]) ∧ Po b w' G M f part qs E c ss ∧ (∀ (j : Nat) p s, qs[j]? = some p → p.part = part → ls[j]? = some s → ss j = usedS p.kind s))
theorem LoadP.q {w w1 : World} {part : Int} {qs : List Pt} {ls : List Ps} {e : Ending} (h : LoadP w w1 part qs ls e) : LoadQ w.heap.size w1 part qs ls e := by
  rcases h with ⟨h1, h2, h3⟩ | ⟨h1, G, M, f, E, c, ss, h2, h3, h4, h5⟩
  · exact .inl ⟨h1, h2⟩
  · exact .inr ⟨h1, G, M, f, E, c, ss, h2, h3, h4⟩
theorem LoadQ.keepLow {g b : Nat} {w1 w' : World} {part : Int} {qs : List Pt} {ls : List Ps} {e : Ending} (h : LoadQ b w1 part qs ls e) (hc : Ch (Is g) w1 w') (hg : g < b) : LoadQ b w' part qs ls e := by
  rcases h with ⟨h1, h2⟩ | ⟨h1, G, M, f, E, c, ss, h2, h3, h4⟩
  · exact .inl ⟨h1, h2⟩
  · refine .inr ⟨h1, G, M, f, E, c, ss, h2, h3.keepLow hc (fun k hk e => ?_), h4⟩
    have e' : k = g := e
    omega
theorem LoadQ.p {b : Nat} {w w' : World} {part : Int} {qs : List Pt} {ls : List Ps} {e : Ending} (h : LoadQ b w' part qs ls e) (hb : w.heap.size ≤ b) (hc : Ch No w w') : LoadP w w' part qs ls e := by
  rcases h with ⟨h1, h2⟩ | ⟨h1, G, M, f, E, c, ss, h2, h3, h4⟩
  · exact .inl ⟨h1, h2, hc⟩
  · exact .inr ⟨h1, G, M, f, E, c, ss, h2, h3.low hb, h4, hc⟩
theorem LoadP.keepNo {w w1 w' : World} {part : Int} {qs : List Pt} {ls : List Ps} {e : Ending} (h : LoadP w w1 part qs ls e) (hc : Ch No w1 w') : LoadP w w' part qs ls e := by
  rcases h with ⟨h1, h2, h3⟩ | ⟨h1, G, M, f, E, c, ss, h2, h3, h4, h5⟩
  · exact .inl ⟨h1, h2, h3.then_ hc⟩
  · exact .inr ⟨h1, G, M, f, E, c, ss, h2, h3.keepNo hc, h4, h5.then_ hc⟩
theorem LoadP.ch {w w1 : World} {part : Int} {qs : List Pt} {ls : List Ps} {e : Ending} (h : LoadP w w1 part qs ls e) : Ch No w w1 := by
  rcases h with ⟨h1, h2, h3⟩ | ⟨h1, G, M, f, E, c, ss, h2, h3, h4, h5⟩
  · exact h3
  · exact h5
theorem LoadP.tuple {w w1 : World} {part : Int} {qs : List Pt} {ls : List Ps} {e : Ending} (h : LoadP w w1 part qs ls e) : ∃ pv ev, e = .returned (.tuple #[.pointer pv, .int .i64 ev]) := by
  rcases h with ⟨h1, h2, h3⟩ | ⟨h1, G, M, f, E, c, ss, h2, h3, h4, h5⟩
  · exact ⟨_, _, h2⟩
  · exact ⟨_, _, h2⟩
theorem putL_len : ∀ (vs L : List Value) (o : Nat), (putL L o vs).length = L.length
  | [], L, o => rfl
  | v :: vs, L, o => by
    rw [putL, putL_len vs]
    simp
theorem Lent.w {b : Nat} {w : World} {gP cP gQ cQ : Nat} {qs : List Pt} {ds : Nat → Ds} (h : Lent b w gP cP gQ cQ qs ds) : ImW w (.agg #[.slice (some ⟨gP, 0, none⟩) 3 cP, .slice (some ⟨gQ, 0, none⟩) qs.length cQ, .slice none 0 0]) qs := by
  obtain ⟨r, hr⟩ := h.ports
  rw [List.append_assoc] at hr
  exact ⟨some ⟨gP, 0, none⟩, 3, cP, some ⟨gQ, 0, none⟩, cQ, rfl, fun k p hk => ⟨gQ, rfl, pcells_range hr hk⟩⟩
set_option maxHeartbeats 8000000 in
set_option maxRecDepth 100000 in
theorem loaded_calls {b : Nat} {w : World} {x v : Value} {qs : List Pt} {ls : List Ps} (h : Im b w x qs) (hf : Fine qs) (part : Int) (hv : Stl w v ls) (hm : Sm ls) :
    Calls Try.prog 10 #[x, .int .i64 part, v] w fun e w' => LoadP w w' part qs ls e := by
  have hl : qs.length ≤ 1000 := Nat.le_trans hf.1 (by decide)
  have HLT := Lib.hid (fun (w' : World) (hc : Ch No w w') => lent_calls (h.keepNo hc) hl)
  have HLD := Lib.hid (fun (w1 : World) (y : Value) (hc : Ch No w w1) (hy : ImW w1 y qs) => pload_calls hy hf part (hv.keepNo hc) hm)
  have HUN := Lib.hid (fun (w1 : World) (b1 gP cP gQ cQ : Nat) (ds : Nat → Ds) (hc : Ch No w w1) (hy : Lent b1 w1 gP cP gQ cQ qs ds) => unchanged_calls hy (h.keepNo hc) hl)
  obtain ⟨A1, k1, c1, A2, c2, rfl⟩ := h.ports
  obtain ⟨A, cap, rfl, -, -⟩ := id hv
  obtain ⟨n, hn⟩ : ∃ n, qs.length = n := ⟨_, rfl⟩
  obtain ⟨m, hm'⟩ : ∃ m, ls.length = m := ⟨_, rfl⟩
  rw [hn] at HLT HUN hl ⊢
  rw [hm'] at HLD ⊢
  have HN := Lib.hid hn
  have HR1 : Hid (Row (w.alloc (.cells #[.slice A1 k1 c1, .slice A2 n c2, .slice none 0 0] 27)) w.heap.size 27 [.slice A1 k1 c1, .slice A2 n c2, .slice none 0 0]) := Row.new w 27 _
  have HC1 : Hid (Ch No w (w.alloc (.cells #[.slice A1 k1 c1, .slice A2 n c2, .slice none 0 0] 27))) := (Ch.refl _ _).alloc _
  clear h hf hv hm hn hm'
  go_enter Try.func10, Try.ntmps10
  go_upto_region 1 with (fail)
  generalize w.alloc (.cells #[.slice A1 k1 c1, .slice A2 n c2, .slice none 0 0] 27) = w1 at *
  generalize w.heap.size = X at *
  go_wp2_with (first | ((with_reducible refine at_op (o := ⟨some 12, _, _, _, _, _⟩) ?_); refine pl_load (o := ⟨some 12, _, _, _, _, _⟩) rfl 27 _ rfl X rfl 27 [.slice A1 k1 c1, .slice A2 n c2, .slice none 0 0] HR1.out _ Try.underlying27 rfl size27 ?_))
  refine (HLT.out _ HC1.out).mono ?_
  rintro e w2 ⟨gP, cP, gQ, cQ, ds, rfl, hlent, hc2⟩
  have HL2 := Lib.hid hlent
  have HC2 := Lib.hid hc2
  have HR2 := Lib.hid (HR1.out.keepNo hc2)
  have hyw := hlent.w
  rw [HN.out] at hyw
  have HYW := Lib.hid hyw
  clear hlent hc2 hyw HR1
  have HA3 : Hid (Ch No w2 (w2.alloc (.cells #[.slice (some ⟨gP, 0, none⟩) 3 cP, .slice (some ⟨gQ, 0, none⟩) n cQ, .slice none 0 0] 27))) := (Ch.refl _ _).alloc _
  have HY3 : Hid (Row (w2.alloc (.cells #[.slice (some ⟨gP, 0, none⟩) 3 cP, .slice (some ⟨gQ, 0, none⟩) n cQ, .slice none 0 0] 27)) w2.heap.size 27 [.slice (some ⟨gP, 0, none⟩) 3 cP, .slice (some ⟨gQ, 0, none⟩) n cQ, .slice none 0 0]) := Row.new w2 27 _
  have HX3 := Lib.hid (HR2.out.keepNo HA3.out)
  have HL3 := Lib.hid (HL2.out.keepNo HA3.out)
  have HYW3 := Lib.hid (HYW.out.keepNo HA3.out)
  have HC3 := Lib.hid ((HC1.out.then_ HC2.out).then_ HA3.out)
  go_upto_region 2 with (fail)
  generalize w2.alloc (.cells #[.slice (some ⟨gP, 0, none⟩) 3 cP, .slice (some ⟨gQ, 0, none⟩) n cQ, .slice none 0 0] 27) = w3 at *
  generalize w2.heap.size = Y at *
  clear HA3 HR2 HL2 HYW
  go_wp2_with (first | ((with_reducible refine at_op (o := ⟨some 15, _, _, _, _, _⟩) ?_); refine pl_load (o := ⟨some 15, _, _, _, _, _⟩) rfl 27 _ rfl Y rfl 27 [.slice (some ⟨gP, 0, none⟩) 3 cP, .slice (some ⟨gQ, 0, none⟩) n cQ, .slice none 0 0] HY3.out _ Try.underlying27 rfl size27 ?_))
  refine (HLD.out _ _ HC3.out HYW3.out).mono ?_
  intro e w4 hlp
  obtain ⟨pv, ev, rfl⟩ := hlp.tuple
  have HLP := Lib.hid hlp
  have HC4 : Hid (Ch No w3 w4) := hlp.ch
  have HX4 := Lib.hid (HX3.out.keepNo HC4.out)
  have HY4 := Lib.hid (HY3.out.keepNo HC4.out)
  have HL4 := Lib.hid (HL3.out.keepNo HC4.out)
  have HCW4 := Lib.hid (HC3.out.then_ HC4.out)
  clear hlp HX3 HY3
  go_upto_region 3 with (fail)
  go_wp2_with (first | ((with_reducible refine at_op (o := ⟨some 21, _, _, _, _, _⟩) ?_); refine pl_load (o := ⟨some 21, _, _, _, _, _⟩) rfl 27 _ rfl Y rfl 27 [.slice (some ⟨gP, 0, none⟩) 3 cP, .slice (some ⟨gQ, 0, none⟩) n cQ, .slice none 0 0] HY4.out _ Try.underlying27 rfl size27 ?_) | ((with_reducible refine at_op (o := ⟨some 22, _, _, _, _, _⟩) ?_); refine pl_load (o := ⟨some 22, _, _, _, _, _⟩) rfl 27 _ rfl X rfl 27 [.slice A1 k1 c1, .slice A2 n c2, .slice none 0 0] HX4.out _ Try.underlying27 rfl size27 ?_))
  refine (HUN.out _ _ _ _ _ _ _ HCW4.out HL4.out).mono ?_
  rintro e w5 ⟨rfl, hc5⟩
  have HC5 := Lib.hid hc5
  have HY5 := Lib.hid (HY4.out.keepNo hc5)
  have HL5 := Lib.hid (HL4.out.keepNo hc5)
  have HLP5 := Lib.hid (HLP.out.keepNo hc5).q
  have HCW5 := Lib.hid (HCW4.out.then_ hc5)
  have HB3 : Hid (w.heap.size ≤ w3.heap.size) := HC3.out.size
  have HGQ : Hid (gQ < w3.heap.size) := by
    obtain ⟨r, hr⟩ := HL3.out.ports
    exact hr.lt
  have HRQ : Hid (∃ L, Row w5 gQ 46 L ∧ n * 6 ≤ L.length) := by
    obtain ⟨r, hr⟩ := HL5.out.ports
    refine ⟨_, hr, ?_⟩
    rw [List.append_assoc, List.length_append, pcells_len, HN.out]
    omega
  have HBQ : Hid (w.heap.size ≤ gQ) := Nat.le_trans HC1.out.size HL5.out.qb
  have HC35 : Hid (Ch No w3 w5) := HC4.out.then_ hc5
  clear hc5 HX4 HY4 HL4 HLP HL5 HYW3 HLT HLD HUN HL3 HCW4 HC5 HC4 HC1 HC2
  go_wp2_with (fail)
  go_loopw [11] (fun i wr => ∃ k : Nat, k ≤ n ∧ i = .int .i64 k ∧ Hid (LoadQ w3.heap.size wr part qs ls (.returned (.tuple #[.pointer pv, .int .i64 ev]))) ∧ Hid (Ch No w wr) ∧ Hid (∃ L, Row wr gQ 46 L ∧ n * 6 ≤ L.length) ∧ Hid (Row wr Y 27 [.slice (some ⟨gP, 0, none⟩) 3 cP, .slice (some ⟨gQ, 0, none⟩) n cQ, .slice none 0 0])) (fun i _ => n - (intOf i).toNat)
  case atStart => exact ⟨0, Nat.zero_le _, rfl, HLP5, HCW5, HRQ, HY5⟩
  case round =>
    clear HLP5 HCW5 HRQ HY5 HC35
    obtain ⟨k, hk, rfl, HLP, HCW, HRQ, HY⟩ := hrel
    have y1 : wr.cell? ⟨Y, 1, none⟩ = some (.slice (some ⟨gQ, 0, none⟩) n cQ) := HY.out.cell 1
    by_cases hlt : k < n
    · have e1 := lt_t hlt
      obtain ⟨L, hL, hll⟩ := HRQ.out
      have HL := Lib.hid hL
      have HLL := Lib.hid hll
      have HFIT : Hid (k * 6 + 6 ≤ L.length) := by show _ ≤ _; omega
      have HON : Hid (∀ u ∈ ([.int .i64 9, .int .i64 0, .bool false, .int .i64 0, .int .i64 0, .int .i64 0] : List Value), u.oneCell' = true) := by
        intro u hu
        simp at hu
        rcases hu with rfl | rfl | rfl | rfl <;> rfl
      clear hL hll
      go_upto_region 7 with (first | ((with_reducible refine at_op (o := ⟨none, .store 46 (.tmp 36) (.tmp 35), _, _, _, _⟩) ?_); refine pl_store_mid (o := ⟨none, .store 46 (.tmp 36) (.tmp 35), _, _, _, _⟩) rfl 46 (.tmp 36) (.tmp 35) rfl gQ (k * 6) rfl 46 L [.int .i64 9, .int .i64 0, .bool false, .int .i64 0, .int .i64 0, .int .i64 0] rfl HL.out HFIT.out size46' HON.out ?_; intro w6 hr6 hc6; have HR6 := Lib.hid hr6; have HC6 := Lib.hid hc6; clear hr6 hc6))
      have HLP6 := Lib.hid (HLP.out.keepLow HC6.out HGQ.out)
      have HCW6 : Hid (Ch No w w6) := ch_newg HCW.out HC6.out HBQ.out
      have HY6 := Lib.hid (HY.out.keepIs HC6.out (row_ne HY.out HL.out (by decide)))
      have HRQ6 : Hid (∃ L, Row w6 gQ 46 L ∧ n * 6 ≤ L.length) := ⟨_, HR6.out, by rw [putL_len]; exact HLL.out⟩
      clear y1
      go_wp2_with (fail)
      exact ⟨⟨k + 1, by omega, by go_num, HLP6, HCW6, HRQ6, HY6⟩, by simp [intOf]; omega⟩
    · have e1 := lt_f hlt
      obtain rfl : k = n := by omega
      go_wp2_with (fail)
      exact bodyPost_ret (v := .tuple #[.pointer pv, .int .i64 ev]) (by kernel_rfl) rfl (HLP.out.p HB3.out HCW.out)
end Go.Proofs.Ytlokpcbiomjcnaa
