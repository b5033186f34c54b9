/- the set's State. -/
import Derived.Test.YtifieahnnklgcaaC5
set_option linter.unusedVariables false
set_option linter.unusedSimpArgs false
namespace Go.Proofs.Ytifieahnnklgcaa
open Go.RowKit
theorem pl_value_to {ops : Array Oper} {rest : List Oper} {o : Oper} {a : Act} {Q : Exit → Act → World → Prop} {w w' : World} (hgd : o.guard = none) (v : Value)
    (hv : (execOp a.eval o).run Try.prog w = .ok (.value v) w') (h : wpList Try.prog ops Q rest (a.put o.dst v) w') : wpList Try.prog ops Q (o :: rest) a w :=
  wpList_plain hgd fun K hK => by
    unfold Oper.wp
    rw [hv]
    exact hK _ _ h
theorem info3 : (Try.prog.info? 3).map (fun i => (i.zero, i.size, i.bytes)) = some (some (.int .i64 0), 1, 8) := by kernel_rfl
theorem info59 : (Try.prog.info? 59).map (fun i => (i.zero, i.size, i.bytes)) = some (some (.slice none 0 0), 1, 24) := by kernel_rfl
theorem size33 : (Try.prog.info? 33).map (·.size) = some 1 := by kernel_rfl
theorem size34 : (Try.prog.info? 34).map (·.size) = some 1 := by kernel_rfl
theorem size36 : (Try.prog.info? 36).map (·.size) = some 3 := by kernel_rfl
/-- what lasts in State -/
structure TB (base : Nat) (s : SetR) (w : World) (b2 b3 : Nat) (L3 : List Value) (w' : World) : Prop where
  bs : Bs base s w'
  r2 : Row w' b2 36 [.slice none 0 0, .slice none 0 0, .slice none 0 0]
  r3 : Row w' b3 36 L3
  ch : Ch No w w'
theorem TB.no {base : Nat} {s : SetR} {w w1 w2 : World} {b2 b3 : Nat} {L3 : List Value} (h : TB base s w b2 b3 L3 w1) (hc : Ch No w1 w2) : TB base s w b2 b3 L3 w2 :=
  ⟨h.bs.keepNo hc, h.r2.keepNo hc, h.r3.keepNo hc, h.ch.then_ hc⟩
/-- the set where a block of another kind changes -/
theorem Bs.keepT {base g : Nat} {s : SetR} {w w' : World} {t : TypeId} {L : List Value} (h : Bs base s w) (hr : Row w g t L) (hc : Ch (Is g) w w') (h1 : t ≠ 82) (h2 : t ≠ 84) (h3 : t ≠ 90) (h4 : t ≠ 24) (h5 : t ≠ 2) : Bs base s w' :=
  ⟨h.row.keepIs hc (row_ne h.row hr (Ne.symm h1)), h.sem.keepIs hc (row_ne h.sem hr (Ne.symm h2)), h.buf.keepIs hc (row_ne h.buf hr (Ne.symm h3)), owns_keepIs h.own hc (own_ne_row h.own hr h4), fun i v hv => by
    obtain ⟨xs, a, b⟩ := h.msg i v hv
    exact ⟨xs, a, b.other (fun g' L' hr' => hr'.keepIs hc (row_ne hr' hr (Ne.symm h5)))⟩, h.len, h.bP, h.bs, h.bb, Nat.le_trans h.hb hc.size, h.small⟩
theorem TB.set3 {base : Nat} {s : SetR} {w w1 : World} {b2 b3 : Nat} {L3 : List Value} (h : TB base s w b2 b3 L3 w1) (hne : b2 ≠ b3) (hn : w.heap.size ≤ b3) (o : Nat) (u : Value) : TB base s w b2 b3 (L3.set o u) (w1.setCell ⟨b3, o, none⟩ u) :=
  ⟨h.bs.keepT h.r3 (ch_cell _ _ _ _) (by decide) (by decide) (by decide) (by decide) (by decide), h.r2.keepIs (ch_cell _ _ _ _) hne, h.r3.set_ o u, ch_newg h.ch (ch_cell _ _ _ _) hn⟩
/-- a list of messages of one's own -/
structure Lo (b : Nat) (w : World) (v : Value) (ms : List (List Int)) : Prop where
  ex : ∃ sv : List Value, w.ownsRow b 24 1 v sv.length sv ∧ sv.length = ms.length ∧ ∀ (i : Nat) (u : Value), sv[i]? = some u → ∃ xs, ms[i]? = some xs ∧ Ml w u xs
theorem Lo.keepNo {b : Nat} {w w' : World} {v : Value} {ms : List (List Int)} (h : Lo b w v ms) (hc : Ch No w w') : Lo b w' v ms := by
  obtain ⟨sv, h1, h2, h3⟩ := h.ex
  exact ⟨sv, owns_keepNo h1 hc, h2, fun i u hu => by
    obtain ⟨xs, a, b⟩ := h3 i u hu
    exact ⟨xs, a, b.keepNo hc⟩⟩
theorem Lo.keepT {b g : Nat} {w w' : World} {v : Value} {ms : List (List Int)} {t : TypeId} {L : List Value} (h : Lo b w v ms) (hr : Row w g t L) (hc : Ch (Is g) w w') (h4 : t ≠ 24) (h5 : t ≠ 2) : Lo b w' v ms := by
  obtain ⟨sv, h1, h2, h3⟩ := h.ex
  exact ⟨sv, owns_keepIs h1 hc (own_ne_row h1 hr h4), h2, fun i u hu => by
    obtain ⟨xs, a, b⟩ := h3 i u hu
    exact ⟨xs, a, b.other (fun g' L' hr' => hr'.keepIs hc (row_ne hr' hr (Ne.symm h5)))⟩⟩
/-- what State tells -/
def StP (s : SetR) (w : World) (e : Ending) (w' : World) : Prop :=
  ∃ (gS cS gB cB : Nat) (rS rB : List Value) (vL : Value), e = .returned (.agg #[.slice (some ⟨gS, 0, none⟩) 1 cS, .slice none 0 0, .slice (some ⟨gB, 0, none⟩) 1 cB]) ∧ Row w' gS 3 (.int .i64 s.n :: rS) ∧ Row w' gB 59 (vL :: rB) ∧ Lo w.heap.size w' vL s.ms ∧ w.heap.size ≤ gS ∧ w.heap.size ≤ gB ∧ Ch No w w'
set_option maxHeartbeats 8000000 in
theorem state_calls {base : Nat} {s : SetR} {w : World} (h : Bs base s w) (hxl : ∀ xs ∈ s.ms, xs.length ≤ 1000000) :
    Calls Try.prog 16 #[.pointer (some ⟨s.P, 0, none⟩)] w (StP s w) := by
  have HXL := Lib.hid hxl
  clear hxl
  have H0 := Lib.hid h
  have HB1 := Lib.hid (h.keepNo ((Ch.refl No w).alloc (.cells #[.slice none 0 0, .slice none 0 0, .slice none 0 0] 36)))
  have HR1 : Hid (Row (w.alloc (.cells #[.slice none 0 0, .slice none 0 0, .slice none 0 0] 36)) w.heap.size 36 [.slice none 0 0, .slice none 0 0, .slice none 0 0]) := Row.new w 36 _
  have HC1 : Hid (Ch No w (w.alloc (.cells #[.slice none 0 0, .slice none 0 0, .slice none 0 0] 36))) := (Ch.refl No w).alloc _
  clear h
  go_enter Try.func16, Try.ntmps16
  go_upto_region 1 with (fail)
  generalize w.alloc (.cells #[.slice none 0 0, .slice none 0 0, .slice none 0 0] 36) = w1 at *
  have hp := HB1.out.row.lt
  have c1 : w1.cell? ⟨s.P, 1, none⟩ = some (.slice none 0 0) := by rw [HB1.out.row.cell]; rfl
  go_wp2_with (fail)
  refine (clone_nil_31 w1).mono ?_
  rintro e w2 ⟨rfl, rfl⟩
  have HA : Hid (Ch No w2 (w2.alloc (.cells #[.slice none 0 0, .slice none 0 0, .slice none 0 0] 36))) := (Ch.refl No w2).alloc _
  have HT : Hid (TB base s w w.heap.size w2.heap.size [.slice none 0 0, .slice none 0 0, .slice none 0 0] (w2.alloc (.cells #[.slice none 0 0, .slice none 0 0, .slice none 0 0] 36))) := ⟨HB1.out.keepNo HA.out, HR1.out.keepNo HA.out, Row.new w2 36 _, HC1.out.then_ HA.out⟩
  have HNE : Hid (w.heap.size ≠ w2.heap.size) := by show _ ≠ _; have := HR1.out.lt; omega
  have HB3 : Hid (w.heap.size ≤ w2.heap.size) := HC1.out.size
  go_upto_region 2 with (fail)
  generalize w2.alloc (.cells #[.slice none 0 0, .slice none 0 0, .slice none 0 0] 36) = w3 at *
  generalize w2.heap.size = b3 at *
  clear HB1 HR1 HC1 c1 hp HA
  have hp := HT.out.bs.row.lt
  have c0 : w3.cell? ⟨s.P, 0, none⟩ = some (.slice (some ⟨s.gs, 0, none⟩) 1 s.cs) := by rw [HT.out.bs.row.cell]; rfl
  go_wp2_with (fail)
  go_loopw [22] (fun i wr => (i = .int .i64 0 ∧ Hid (TB base s w w.heap.size b3 [.slice none 0 0, .slice none 0 0, .slice none 0 0] wr)) ∨ (i = .int .i64 1 ∧ ∃ (gS cS : Nat) (rS : List Value), Hid (TB base s w w.heap.size b3 [.slice (some ⟨gS, 0, none⟩) 1 cS, .slice none 0 0, .slice none 0 0] wr) ∧ Hid (Row wr gS 3 (.int .i64 s.n :: rS)) ∧ Hid (w.heap.size ≤ gS))) (fun i _ => 1 - (intOf i).toNat)
  case atStart => exact .inl ⟨rfl, HT⟩
  case round =>
    clear HT c0 hp
    rcases hrel with ⟨rfl, HT⟩ | ⟨rfl, gS, cS, rS, HT, HS, HSB⟩
    · have c0 : wr.cell? ⟨s.gs, 0, none⟩ = some (.int .i64 s.n) := by rw [HT.out.bs.sem.cell]; rfl
      have c1 : wr.cell? ⟨s.gs, 1, none⟩ = some (.int .i64 s.most) := by rw [HT.out.bs.sem.cell]; rfl
      have hg := HT.out.bs.sem.lt
      go_upto_region 5 with (fail)
      have HX : Hid (Row (wr.alloc (.cells #[.int .i64 s.n, .int .i64 s.most] 84)) wr.heap.size 84 [.int .i64 s.n, .int .i64 s.most]) := Row.new wr 84 _
      have HT4 := Lib.hid (HT.out.no ((Ch.refl No wr).alloc (.cells #[.int .i64 s.n, .int .i64 s.most] 84)))
      generalize wr.alloc (.cells #[.int .i64 s.n, .int .i64 s.most] 84) = w4 at *
      generalize wr.heap.size = x5 at *
      have hx0 : w4.cell? ⟨x5, 0, none⟩ = some (.int .i64 s.n) := by rw [HX.out.cell]; rfl
      have hxl := HX.out.lt
      have h30 : w4.cell? ⟨b3, 0, none⟩ = some (.slice none 0 0) := by rw [HT4.out.r3.cell]; rfl
      have h3l := HT4.out.r3.lt
      have HA5 : Hid (Ch No w4 (w4.alloc (.cells [.int .i64 s.n].toArray 3))) := (Ch.refl _ _).alloc _
      obtain ⟨gS, cS, rS, w7, hrun, hrow, hgs, hch⟩ := app_nil (w4.alloc (.cells [.int .i64 s.n].toArray 3)) 33 3 (.int .i64 0) 1 8 Try.underlying33 info3 rfl (by omega) (by omega) w4.heap.size 1 [.int .i64 s.n] rfl (Row.new w4 3 _) (fun u hu => by
        obtain rfl : u = .int .i64 s.n := by simpa using hu
        rfl)
      have HRUN := Lib.hid hrun
      have HT7 := Lib.hid ((HT4.out.no HA5.out).no hch)
      have HRW := Lib.hid hrow
      have HGS : Hid (w.heap.size ≤ gS) := by show _ ≤ _; have := HT4.out.ch.size; have := HA5.out.size; omega
      have h7 : w7.cell? ⟨b3, 0, none⟩ = some (.slice none 0 0) := by rw [HT7.out.r3.cell]; rfl
      have hf7 : w7.frozen? ⟨b3, 0, none⟩ = false := HT7.out.r3.frozen _
      have h7l := HT7.out.r3.lt
      have HGN : Hid (gS ≠ b3) := row_ne hrow HT7.out.r3 (by decide)
      clear hrun hrow hgs hch HT c0 c1 hg
      go_wp2_with ((with_reducible refine at_op (o := ⟨some 31, .call { callee := .builtin .append, args := #[.tmp 27, .tmp 30], argTypes := #[33, 33] }, _, _, _, _⟩) ?_); refine pl_value_to (w' := w7) rfl (.slice (some ⟨gS, 0, none⟩) 1 cS) (exec_append (.tmp 27) (.tmp 30) 33 rfl _ _ _ rfl rfl HRUN.out) ?_)
      have HT8 := Lib.hid (HT7.out.set3 HNE.out HB3.out 0 (.slice (some ⟨gS, 0, none⟩) 1 cS))
      have HS8 := Lib.hid (HRW.out.keepIs (ch_cell w7 b3 0 (.slice (some ⟨gS, 0, none⟩) 1 cS)) HGN.out)
      go_roundw
      · exact .inr ⟨rfl, gS, cS, rS, HT8, HS8, HGS⟩
      · simp [intOf]
    · have hp := HT.out.bs.row.lt
      have c2 : wr.cell? ⟨s.P, 2, none⟩ = some (.slice (some ⟨s.gb, 0, none⟩) 1 s.cb) := by rw [HT.out.bs.row.cell]; rfl
      go_wp2_with (fail)
      have HT9 := HT
      have HS9 := HS
      generalize wr = w9 at *
      clear HT HS
      clear c2 hp
      go_loopw [39] (fun i wr => (i = .int .i64 0 ∧ Hid (TB base s w w.heap.size b3 [.slice (some ⟨gS, 0, none⟩) 1 cS, .slice none 0 0, .slice none 0 0] wr) ∧ Hid (Row wr gS 3 (.int .i64 s.n :: rS))) ∨ (i = .int .i64 1 ∧ ∃ (gB cB : Nat) (rB : List Value) (vL : Value), Hid (TB base s w w.heap.size b3 [.slice (some ⟨gS, 0, none⟩) 1 cS, .slice none 0 0, .slice (some ⟨gB, 0, none⟩) 1 cB] wr) ∧ Hid (Row wr gS 3 (.int .i64 s.n :: rS)) ∧ Hid (Row wr gB 59 (vL :: rB)) ∧ Hid (Lo w.heap.size wr vL s.ms) ∧ Hid (w.heap.size ≤ gB))) (fun i _ => 1 - (intOf i).toNat)
      case atStart => exact .inl ⟨rfl, HT9, HS9⟩
      case round =>
        clear HT9 HS9
        rcases hrel with ⟨rfl, HT, HS⟩ | ⟨rfl, gB, cB, rB, vL, HT, HS, HQ, HLO, HQB⟩
        · obtain ⟨A, c, hvl, hcl0⟩ := own_slice H0.out.own
          have hcl := hcl0.keepNo HT.out.ch
          have HCL0 := Lib.hid hcl0
          have c0 : wr.cell? ⟨s.gb, 0, none⟩ = some (.slice A s.sv.length c) := by rw [HT.out.bs.buf.cell, ← hvl]; rfl
          have c1 : wr.cell? ⟨s.gb, 1, none⟩ = some (.int .i64 s.dep) := by rw [HT.out.bs.buf.cell]; rfl
          have c2 : wr.cell? ⟨s.gb, 2, none⟩ = some (.int .i64 s.siz) := by rw [HT.out.bs.buf.cell]; rfl
          have hg := HT.out.bs.buf.lt
          have HCL := Lib.hid hcl
          clear hvl hcl hcl0
          go_upto_region 10 with (fail)
          have HX : Hid (Row (wr.alloc (.cells #[.slice A s.sv.length c, .int .i64 s.dep, .int .i64 s.siz] 90)) wr.heap.size 90 [.slice A s.sv.length c, .int .i64 s.dep, .int .i64 s.siz]) := Row.new wr 90 _
          have HA4 : Hid (Ch No wr (wr.alloc (.cells #[.slice A s.sv.length c, .int .i64 s.dep, .int .i64 s.siz] 90))) := (Ch.refl No wr).alloc _
          have HT4 := Lib.hid (HT.out.no HA4.out)
          have HS4 := Lib.hid (HS.out.keepNo HA4.out)
          have HCL4 := Lib.hid (HCL.out.keepNo HA4.out)
          generalize wr.alloc (.cells #[.slice A s.sv.length c, .int .i64 s.dep, .int .i64 s.siz] 90) = w4 at *
          generalize wr.heap.size = x5 at *
          have hx0 : w4.cell? ⟨x5, 0, none⟩ = some (.slice A s.sv.length c) := by rw [HX.out.cell]; rfl
          have hxl := HX.out.lt
          have HLEN : Hid (s.sv.length = s.ms.length) := HT4.out.bs.len
          have HSM : Hid (s.ms.length ≤ 1000) := HT4.out.bs.small
          have hsv : s.sv.length ≤ 1000 := by rw [HLEN.out]; exact HSM.out
          clear HT HS HCL c0 c1 c2 hg HX HA4
          go_wp2_with (fail)
          go_loopw [8, 47] (fun o i wr => ∃ j : Nat, j ≤ s.sv.length ∧ i = .int .i64 j ∧ Hid (TB base s w w.heap.size b3 [.slice (some ⟨gS, 0, none⟩) 1 cS, .slice none 0 0, .slice none 0 0] wr) ∧ Hid (Row wr gS 3 (.int .i64 s.n :: rS)) ∧ Hid (Cl wr A s.sv) ∧ Hid (Lo w.heap.size wr o (s.ms.take j))) (fun _ i _ => s.sv.length - (intOf i).toNat)
          case atStart => exact ⟨0, Nat.zero_le _, rfl, HT4, HS4, HCL4, ⟨[], by exact owns_nil _ _ _ _, rfl, fun i u hu => by simp at hu⟩⟩
          case round =>
            clear HT4 HS4 HCL4 hx0 hxl
            obtain ⟨j, hj, rfl, HT, HS, HCL, HLO⟩ := hrel
            by_cases hlt : j < s.sv.length
            · have d0 : decide ((j : Int) < (s.sv.length : Int)) = true := by simpa using hlt
              have hji : (j : Int) < (s.sv.length : Int) := by omega
              obtain ⟨v, hv⟩ : ∃ v, s.sv[j]? = some v := ⟨_, List.getElem?_eq_getElem hlt⟩
              obtain ⟨xs, hxs, hml⟩ := HT.out.bs.msg j v hv
              obtain ⟨ad, ead, hcv⟩ := HCL.out j v hv
              subst ead
              obtain ⟨A2, c2, rfl, _⟩ := hml.sl
              have HML := Lib.hid hml
              have HXS := Lib.hid hxs
              have hx6 : xs.length ≤ 1000000 := HXL.out xs (List.mem_of_getElem? hxs)
              clear hml hxs hv
              go_wp2_with (fail)
              refine (clone_ml HML.out.sl hx6).mono ?_
              rintro e w5 ⟨v5, rfl, hm5, hc5⟩
              obtain ⟨A3, c3, rfl, _⟩ := hm5.sl
              have HM5 := Lib.hid hm5
              have HT5 := Lib.hid (HT.out.no hc5)
              have HS5 := Lib.hid (HS.out.keepNo hc5)
              have HCL5 := Lib.hid (HCL.out.keepNo hc5)
              have HLO5 := Lib.hid (HLO.out.keepNo hc5)
              clear hm5 hc5 HT HS HCL HLO hcv
              obtain ⟨sv8, ho8, hl8, hmm8⟩ := HLO5.out.ex
              have HO8 := Lib.hid ho8
              have HL8 := Lib.hid hl8
              have HMM8 := Lib.hid hmm8
              have HBY : Hid ((sv8.length + 1) * 24 ≤ 140737488355328) := by show _ ≤ _; rw [hl8, List.length_take]; have := HSM.out; omega
              have HL1 : Hid (∀ u ∈ [Value.slice A3 xs.length c3], u.oneCell' = true) := fun u hu => by
                obtain rfl : u = Value.slice A3 xs.length c3 := by simpa using hu
                rfl
              have HBS : Hid (w.heap.size ≤ (w5.alloc (.cells [Value.slice A3 xs.length c3].toArray 24)).heap.size) := (HT5.out.ch.alloc _).size
              have HNX : Hid (∀ (v9 : Value) (w9 : World), w9.ownsRow w.heap.size 24 1 v9 (sv8 ++ [Value.slice A3 xs.length c3]).length (sv8 ++ [Value.slice A3 xs.length c3]) → (w5.alloc (.cells [Value.slice A3 xs.length c3].toArray 24)).grownBy w9 u8.ownBlock → TB base s w w.heap.size b3 [.slice (some ⟨gS, 0, none⟩) 1 cS, .slice none 0 0, .slice none 0 0] w9 ∧ Row w9 gS 3 (.int .i64 s.n :: rS) ∧ Cl w9 (some ad) s.sv ∧ Lo w.heap.size w9 v9 (s.ms.take (j + 1))) := by
                intro v9 w9 ho hg
                have hca : Ch No w5 (w5.alloc (.cells [Value.slice A3 xs.length c3].toArray 24)) := (Ch.refl _ _).alloc _
                have hcw : Ch No w w9 := grown_no (Nat.le_refl _) (owns_keepNo HO8.out hca) hg (HT5.out.ch.then_ hca)
                have hcg := Ch.of_grownBy hg
                have hall : ∀ {g : Nat} {t : TypeId} {L : List Value}, Row w5 g t L → t ≠ 24 → Row w9 g t L := fun hr ht => (hr.keepNo hca).keep hcg (fun hk => own_ne_row (owns_keepNo HO8.out hca) (hr.keepNo hca) ht hk)
                refine ⟨⟨H0.out.keepNo hcw, hall HT5.out.r2 (by decide), hall HT5.out.r3 (by decide), hcw⟩, hall HS5.out (by decide), HCL0.out.keepNo hcw, ⟨_, ho, ?_, fun i u hu => ?_⟩⟩
                · have h1 := HL8.out
                  have h2 := HLEN.out
                  simp only [List.length_append, List.length_cons, List.length_nil, List.length_take] at h1 ⊢
                  omega
                · have h1 := HL8.out
                  have h2 := HLEN.out
                  rw [List.length_take] at h1
                  by_cases hi : i < sv8.length
                  · rw [List.getElem?_append_left hi] at hu
                    obtain ⟨ys, a, b⟩ := HMM8.out i u hu
                    rw [List.getElem?_take, if_pos (by omega)] at a
                    exact ⟨ys, by rw [List.getElem?_take, if_pos (by omega)]; exact a, b.other (fun g L hr => hall hr (by decide))⟩
                  · rw [List.getElem?_append_right (by omega)] at hu
                    obtain ⟨hi0, rfl⟩ := List.getElem?_eq_some_iff.1 hu
                    have hi0' : i - sv8.length = 0 := by simpa using hi0
                    have hij : i = j := by omega
                    subst hij
                    refine ⟨xs, by rw [List.getElem?_take, if_pos (by omega)]; exact HXS.out, ?_⟩
                    have := HM5.out.other (fun g L hr => hall hr (by decide))
                    simpa [hi0'] using this
              clear ho8 hl8 hmm8
              go_wp2_with ((with_reducible refine at_op (o := ⟨some 55, .call { callee := .builtin .append, args := #[.tmp 51, .tmp 54], argTypes := #[59, 59] }, _, _, _, _⟩) ?_); refine wpList_append_to rfl (.tmp 51) (.tmp 54) 59 rfl w.heap.size 24 (.slice none 0 0) 24 Try.underlying59 info24 rfl u8 sv8 rfl _ _ _ [Value.slice A3 xs.length c3] rfl (HO8.out.alloc _) rfl ((Row.new w5 24 [Value.slice A3 xs.length c3]).cl0) HL1.out HBY.out (by omega) HBS.out ?_; intro v9 w9 ho9 hg9 hor9; have HF9 := Lib.hid (HNX.out v9 w9 ho9 hg9); clear ho9 hg9 hor9)
              refine ⟨⟨j + 1, by omega, by go_num, HF9.out.1, HF9.out.2.1, HF9.out.2.2.1, HF9.out.2.2.2⟩, by simp [intOf]; omega⟩
            · obtain rfl : j = s.sv.length := by omega
              have d0 : decide ((s.sv.length : Int) < (s.sv.length : Int)) = false := by simp
              rw [HLEN.out, List.take_of_length_le (Nat.le_refl _)] at HLO
              obtain ⟨sv8, ho8, hl8, hmm8⟩ := HLO.out.ex
              obtain ⟨A8, c8, rfl, _⟩ := own_slice ho8
              have h32 : wr.cell? ⟨b3, 2, none⟩ = some (.slice none 0 0) := by rw [HT.out.r3.cell]; rfl
              have h3l := HT.out.r3.lt
              have HA5 : Hid (Ch No wr (wr.alloc (.cells [Value.slice A8 sv8.length c8].toArray 59))) := (Ch.refl _ _).alloc _
              obtain ⟨gB, cB, rB, w7, hrun, hrow, hgs, hch⟩ := app_nil (wr.alloc (.cells [Value.slice A8 sv8.length c8].toArray 59)) 34 59 (.slice none 0 0) 1 24 Try.underlying34 info59 rfl (by omega) (by omega) wr.heap.size 1 [Value.slice A8 sv8.length c8] rfl (Row.new wr 59 _) (fun u hu => by
                obtain rfl : u = Value.slice A8 sv8.length c8 := by simpa using hu
                rfl)
              have HRUN := Lib.hid hrun
              have HC7 : Hid (Ch No wr w7) := HA5.out.then_ hch
              have HT7 := Lib.hid (HT.out.no HC7.out)
              have HS7 := Lib.hid (HS.out.keepNo HC7.out)
              have HLO7 := Lib.hid (HLO.out.keepNo HC7.out)
              have HRW := Lib.hid hrow
              have HGS : Hid (w.heap.size ≤ gB) := by show _ ≤ _; have := HT.out.ch.size; have := HA5.out.size; omega
              have h7 : w7.cell? ⟨b3, 2, none⟩ = some (.slice none 0 0) := by rw [HT7.out.r3.cell]; rfl
              have hf7 : w7.frozen? ⟨b3, 2, none⟩ = false := HT7.out.r3.frozen _
              have h7l := HT7.out.r3.lt
              have HGN : Hid (gB ≠ b3) := row_ne hrow HT7.out.r3 (by decide)
              have HGN2 : Hid (gS ≠ b3) := row_ne HS7.out HT7.out.r3 (by decide)
              clear hrun hrow hgs hch ho8 hl8 hmm8
              go_wp2_with ((with_reducible refine at_op (o := ⟨some 61, .call { callee := .builtin .append, args := #[.tmp 58, .tmp 60], argTypes := #[34, 34] }, _, _, _, _⟩) ?_); refine pl_value_to (w' := w7) rfl (.slice (some ⟨gB, 0, none⟩) 1 cB) (exec_append (.tmp 58) (.tmp 60) 34 rfl _ _ _ rfl rfl HRUN.out) ?_)
              have HT8 := Lib.hid (HT7.out.set3 HNE.out HB3.out 2 (.slice (some ⟨gB, 0, none⟩) 1 cB))
              have HQ8 := Lib.hid (HRW.out.keepIs (ch_cell w7 b3 2 (.slice (some ⟨gB, 0, none⟩) 1 cB)) HGN.out)
              have HS8 := Lib.hid (HS7.out.keepIs (ch_cell w7 b3 2 (.slice (some ⟨gB, 0, none⟩) 1 cB)) HGN2.out)
              have HLO8 := Lib.hid (HLO7.out.keepT HT7.out.r3 (ch_cell w7 b3 2 (.slice (some ⟨gB, 0, none⟩) 1 cB)) (by decide) (by decide))
              refine ⟨.inr ⟨rfl, gB, cB, rB, _, HT8, HS8, HQ8, HLO8, HGS⟩, by simp [intOf]⟩
        · have H1 : Hid (∀ u ∈ [Value.slice (some ⟨gS, 0, none⟩) 1 cS, .slice none 0 0, .slice (some ⟨gB, 0, none⟩) 1 cB], u.oneCell' = true) := fun u hu => by
            simp at hu
            rcases hu with rfl | rfl | rfl <;> rfl
          go_wp2_with (first | ((with_reducible refine at_op (o := ⟨some 64, .load 36 (.tmp 3), _, _, _, _⟩) ?_); refine pl_load rfl 36 (.tmp 3) rfl b3 rfl 36 [.slice (some ⟨gS, 0, none⟩) 1 cS, .slice none 0 0, .slice (some ⟨gB, 0, none⟩) 1 cB] HT.out.r3 _ Try.underlying36 rfl size36 ?_) | ((with_reducible refine at_op (o := ⟨none, .store 36 (.tmp 2) (.tmp 64), _, _, _, _⟩) ?_); refine pl_store rfl 36 (.tmp 2) (.tmp 64) rfl w.heap.size rfl 36 [.slice none 0 0, .slice none 0 0, .slice none 0 0] [.slice (some ⟨gS, 0, none⟩) 1 cS, .slice none 0 0, .slice (some ⟨gB, 0, none⟩) 1 cB] rfl HT.out.r2 size36 rfl H1.out ?_; intro w8 hr8 hc8; have HR8 := Lib.hid hr8; have HC8 := Lib.hid hc8; clear hr8 hc8))
          refine bodyPost_ret (v := .agg #[.slice (some ⟨gS, 0, none⟩) 1 cS, .slice none 0 0, .slice (some ⟨gB, 0, none⟩) 1 cB]) (results_row rfl _ _ w.heap.size 36 _ _ rfl HR8.out Try.underlying36 rfl size36) rfl ⟨gS, cS, gB, cB, rS, rB, vL, rfl, HS.out.keepIs HC8.out (row_ne HS.out HT.out.r2 (by decide)), HQ.out.keepIs HC8.out (row_ne HQ.out HT.out.r2 (by decide)), HLO.out.keepT HT.out.r2 HC8.out (by decide) (by decide), HSB.out, HQB.out, ch_newg HT.out.ch HC8.out (Nat.le_refl _)⟩
end Go.Proofs.Ytifieahnnklgcaa
