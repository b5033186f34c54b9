/- MemKeeps: the walk. -/
import Derived.Test.YtbllpojljdhnoaaM2
set_option linter.unusedVariables false
set_option linter.unusedSimpArgs false
namespace Go.Proofs.Ytbllpojljdhnoaa
open Go.RowKit

/-- a call of a script, as it is read -/
structure OpR where
  kind : Int
  fixed : Int
  addr : Int
  n : Int
  value : Int
  A : Option Addr
  data : List Int
  cap : Nat
def OpR.cells (o : OpR) : List Value := [.int .i64 o.kind, .int .i64 o.fixed, .int .i64 o.addr, .int .i64 o.n, .int .i64 o.value, .slice o.A o.data.length o.cap]
structure OpR.Ok (W : World) (o : OpR) : Prop where
  addr : -9223372036854775808 ≤ o.addr ∧ o.addr ≤ 9223372036854775807
  value : -9223372036854775808 ≤ o.value ∧ o.value ≤ 9223372036854775807
  n : -9223372036854775808 ≤ o.n ∧ o.n ≤ 9223372036854775807
  len : o.data.length ≤ o.cap
  cap : o.cap ≤ maxLen
  data : Cl W o.A (ints o.data)
/-- a script -/
def Ops (W : World) (S : Option Addr) (os : List OpR) : Prop := ∀ i o, os[i]? = some o → o.Ok W ∧ ∃ ad, S = some ad ∧ Cl W (some (ad.add (i * 6))) o.cells
theorem Ops.keep {W w : World} {S : Option Addr} {os : List OpR} (h : Ops W S os) (hc : Ch No W w) : Ops w S os := fun i o ho => by
  obtain ⟨hk, ad, e, hcell⟩ := h i o ho
  exact ⟨⟨hk.addr, hk.value, hk.n, hk.len, hk.cap, hk.data.keepNo hc⟩, ad, e, hcell.keepNo hc⟩

theorem length_splice' {α : Type} (L : List α) (o : Nat) (cs : List α) (h : o + cs.length ≤ L.length) : (splice L o cs).length = L.length := length_splice L o cs h
theorem splice_left {α : Type} (L M : List α) (o : Nat) (cs : List α) (h : o + cs.length ≤ L.length) : splice (L ++ M) o cs = splice L o cs ++ M := by
  unfold splice
  rw [List.take_append_of_le_length (by omega), List.drop_append_of_le_length h]
  simp
theorem splice_ints (xs : List Int) (o : Nat) (ds : List Int) : splice (ints xs) o (ints ds) = ints (splice xs o ds) := by simp [splice, ints]
theorem splice_all (xs ys ds : List Int) (rest : List Value) (o : Nat) (h : o + ds.length ≤ xs.length) : splice (ints (xs ++ ys) ++ rest) o (ints ds) = ints (splice xs o ds ++ ys) ++ rest := by
  rw [splice_left _ _ _ _ (by simp [ints_length]; omega), splice_ints, splice_left _ _ _ _ h]
theorem rd_splice_in (xs ds : List Int) (o j : Nat) (h : o + ds.length ≤ xs.length) (h1 : o ≤ j) (h2 : j < o + ds.length) : rd (splice xs o ds) j = rd ds (j - o) := by
  unfold rd splice
  rw [List.getD_eq_getElem?_getD, List.getD_eq_getElem?_getD, List.getElem?_append_right (by simp; omega), List.getElem?_append_left (by simp; omega)]
  simp
  congr 2
  omega
theorem rd_splice_out (xs ds : List Int) (o j : Nat) (h : o + ds.length ≤ xs.length) (h1 : j < o ∨ o + ds.length ≤ j) : rd (splice xs o ds) j = rd xs j := by
  unfold rd splice
  rw [List.getD_eq_getElem?_getD, List.getD_eq_getElem?_getD]
  rcases h1 with h1 | h1
  · rw [List.getElem?_append_left (by simp; omega), List.getElem?_take_of_lt h1]
  · rw [List.getElem?_append_right (by simp; omega), List.getElem?_append_right (by simp; omega), List.getElem?_drop]
    congr 2
    simp
    omega

theorem keeps_1 (words fixed : Int) (A S : Option Addr) (len cap sl sc : Nat) (w : World) (hl : len ≤ 9223372036854775807) (h : words < 0 ∨ 4096 < words ∨ words < len) :
    Calls Try.prog 3 #[.int .i64 words, .slice A len cap, .int .i64 fixed, .slice S sl sc] w fun e w' => e = .returned (.bool true) ∧ Ch No w w' := by
  have H := Lib.hid h
  clear h
  go_enter Try.func3, Try.ntmps3
  go_wp2_with (first | (go_at_call 6; refine (new_no _ _ _ _ _ hl H.out).mono ?_; rintro e w1 ⟨rfl, rfl⟩) | (go_at_call 7; refine (works_calls _).mono ?_; rintro e w1 ⟨rfl, hc⟩; have HC := Lib.hid hc; clear hc))
  go_ret
  exact ⟨rfl, HC.out⟩

theorem ints_append_rest (xs ys : List Int) (rest : List Value) : ints (xs ++ ys) ++ rest = ints xs ++ (ints ys ++ rest) := by simp [ints]
theorem marked_cl {w : World} {g : Nat} {xs ys : List Int} {rest : List Value} (h : Row w g 2 (ints (xs ++ ys) ++ rest)) : Cl w (some ⟨g, 0, none⟩) (ints xs) := by
  have := h.cl0.take xs.length
  rw [List.take_append_of_le_length (by simp [ints_length]), ints_take, List.take_append_of_le_length (by omega), List.take_of_length_le (by omega)] at this
  exact this
/-- what holds at each round's head -/
structure KInv (w wr : World) (fixed : Int) (g g1 : Nat) (fs xs : List Int) (r r1 : List Value) : Prop where
  ne : g ≠ g1
  base : w.heap.size ≤ g
  len : xs.length = fs.length
  row : Row wr g 2 (ints (xs ++ marks 40) ++ r)
  first : Row wr g1 2 (ints (fs ++ marks 40) ++ r1)
  fix : ∀ j : Nat, j < fs.length → (j : Int) < fixed → rd xs j = rd fs j
  ch : Ch No w wr

set_option maxHeartbeats 4000000 in
set_option maxRecDepth 100000 in
theorem keeps_2 (m : Nat) (fixed : Int) (A S : Option Addr) (cap sc : Nat) (xs : List Int) (os : List OpR) (w : World) (h1 : m ≤ 4096) (h2 : xs.length ≤ m) (hx : Cl w A (ints xs)) (hs : Ops w S os) (hsm : os.length ≤ 9223372036854775807) :
    Calls Try.prog 3 #[.int .i64 (m : Int), .slice A xs.length cap, .int .i64 fixed, .slice S os.length sc] w fun e w' => e = .returned (.bool true) ∧ Ch No w w' := by
  have HX := Lib.hid hx
  have HS := Lib.hid hs
  have hlen : (xs ++ List.replicate (m - xs.length) 0).length = m := by simp; omega
  generalize hys : xs ++ List.replicate (m - xs.length) 0 = fs at *
  have HYS := Lib.hid hys
  have hm : fs.length ≤ 1000000000 := by omega
  clear hys hx hs
  have HM := Lib.hid (new_nat m A cap xs w h1 h2 HX.out)
  rw [HYS.out] at HM
  subst m
  go_enter Try.func3, Try.ntmps3
  go_wp2_with (first | (go_at_call 6; refine HM.out.mono ?_; rintro e w1 ⟨g, rfl, hg, hr1, hc1⟩; have HR1 := Lib.hid hr1; have HC1 := Lib.hid hc1; clear hr1 hc1 hg))
  refine (marked_any _ _ fs _ hm HR1.out.cl0).mono ?_
  rintro e w2 ⟨g2, cap2, rest2, rfl, hr2, hl2, hm2, hg2, hc2⟩
  have HR2 := Lib.hid hr2
  have HC2 := Lib.hid hc2
  have HL2 := Lib.hid hl2
  have HG2 := Lib.hid hg2
  have HCM2 := Lib.hid hm2
  unfold maxLen at hm2
  have hcap2 : fs.length + 40 ≤ cap2 := by omega
  clear hr2 hc2 hl2 hg2
  go_wp2_with (fail)
  refine (marked_any _ _ fs _ hm (marked_cl HR2.out)).mono ?_
  rintro e w3 ⟨g3, cap3, rest3, rfl, hr3, hl3, hm3, hg3, hc3⟩
  have HC3 := Lib.hid hc3
  have hcap3 : fs.length ≤ cap3 := by omega
  unfold maxLen at hm3
  have HI : Hid (KInv w w3 fixed g2 g3 fs fs rest2 rest3) := ⟨by have := HR2.out.lt; omega, by have := HG2.out; have := HC1.out.size; omega, rfl, HR2.out.keepNo hc3, hr3, fun _ _ _ => rfl, (HC1.out.then_ HC2.out).then_ hc3⟩
  clear hr3 hc3 hl3 hg3 HR1 HC1 HC2 HL2 HG2 HC3 HR2 HM
  go_wp2_with (fail)
  go_loopw [12] (fun i wr => ∃ (k : Nat) (xs' : List Int), k ≤ os.length ∧ i = .int .i64 k ∧ Hid (KInv w wr fixed g2 g3 fs xs' rest2 rest3)) (fun i _ => os.length - (intOf i).toNat)
  case atStart => exact ⟨0, fs, Nat.zero_le _, rfl, HI⟩
  case round =>
    clear HI
    obtain ⟨k, xs', hk, rfl, HI⟩ := hrel
    by_cases hlt : k < os.length
    · obtain ⟨hok, ad, ead, hcell⟩ := (HS.out.keep HI.out.ch) k _ (List.getElem?_eq_getElem hlt)
      subst ead
      generalize ho : os[k] = o at *
      have HOW := Lib.hid (HS.out k _ (List.getElem?_eq_getElem hlt)).1
      rw [ho] at HOW
      have c0 := hcell.first rfl
      have c1 := hcell.next 0 rfl
      have c2 := hcell.next 1 rfl
      have c3 := hcell.next 2 rfl
      have c4 := hcell.next 3 rfl
      have c5 := hcell.next 4 rfl
      simp only [Nat.reduceAdd] at c1 c2 c3 c4 c5
      clear hcell hok ho
      obtain ⟨kind, ofx, addr, on, value, dA, ds, dcap⟩ := o
      simp only [] at c0 c1 c2 c3 c4 c5
      go_wp2_with (fail)
      refine (marked_n _ _ _ xs' _ HI.out.len.symm hm ((marked_cl HI.out.row).keepNo ((Ch.refl No wr).alloc _))).mono ?_
      rintro e w4 ⟨g4, cap4, rest4, rfl, hr4, hl4, hm4, hg4, hc4⟩
      have HB4 := Lib.hid hr4
      have HC4 : Hid (Ch No wr w4) := ((Ch.refl No wr).alloc _).then_ hc4
      have HG4 : Hid (wr.heap.size < g4) := by show _ < _; simp at hg4; omega
      have hcap4 : fs.length ≤ cap4 := by omega
      have HO4 : Hid (Row w4 wr.heap.size 29 (OpR.cells ⟨kind, ofx, addr, on, value, dA, ds, dcap⟩)) := (Row.new wr 29 _).keepNo hc4
      unfold maxLen at hm4
      clear hr4 hl4 hg4 hc4 c0 c1 c2 c3 c4 c5
      have d0 : w4.cell? ⟨wr.heap.size, 0, none⟩ = some (.int .i64 kind) := HO4.out.cell 0
      have d2 : w4.cell? ⟨wr.heap.size, 2, none⟩ = some (.int .i64 addr) := HO4.out.cell 2
      have d4 : w4.cell? ⟨wr.heap.size, 4, none⟩ = some (.int .i64 value) := HO4.out.cell 4
      have d5 : w4.cell? ⟨wr.heap.size, 5, none⟩ = some (.slice dA ds.length dcap) := HO4.out.cell 5
      have hlt4 : wr.heap.size < w4.heap.size := HO4.out.lt
      have hdm : ds.length ≤ 9223372036854775807 := by have h1 := HOW.out.len; have h2 := HOW.out.cap; unfold maxLen at h2; simp only [] at h1 h2; omega
      by_cases hk4 : kind = 4
      · have t1 : (kind == 4) = true := by simpa using hk4
        have t2 : (kind != 4) = false := by simpa using hk4
        clear hk4
        go_wp2_with (fail)
        cases hw : may fs.length fixed addr ds.length
        · have HWR := Lib.hid hw
          clear hw
          refine (write_no _ _ _ _ _ _ _ _ w4 (by omega) HWR.out).mono ?_
          rintro e w5 ⟨rfl, hw5⟩
          subst hw5
          obtain ⟨xs2, hxs2⟩ : ∃ xs2, xs2 = xs' := ⟨_, rfl⟩
          have HR5 : Hid (Row w4 g2 2 (ints (xs2 ++ marks 40) ++ rest2)) := by rw [hxs2]; exact HI.out.row.keepNo HC4.out
          have HB5 := HB4
          have HF5 : Hid (Row w4 g3 2 (ints (fs ++ marks 40) ++ rest3)) := HI.out.first.keepNo HC4.out
          have HO5 := HO4.out
          have HC5 : Hid (Ch No w w4) := HI.out.ch.then_ HC4.out
          have HLEN2 : Hid (xs2.length = fs.length) := by show _ = _; rw [hxs2, HI.out.len]
          have HW2 : Hid (∀ q, rd xs2 q = rd xs' q) := by intro q; rw [hxs2]
          have HFIX2 : Hid (∀ j : Nat, j < fs.length → (j : Int) < fixed → rd xs2 j = rd fs j) := by rw [hxs2]; exact HI.out.fix
          have e0 : w4.cell? ⟨wr.heap.size, 0, none⟩ = some (.int .i64 kind) := HO5.cell 0
          have e2 : w4.cell? ⟨wr.heap.size, 2, none⟩ = some (.int .i64 addr) := HO5.cell 2
          clear HO5  d0 d2 d4 d5 hxs2
          go_wp2_with (go_at_call 11; refine (writable _ _ _ _ _ (by omega) (by omega)).mono ?_; rintro e w' ⟨rfl, rfl⟩; rw [HWR.out])
          go_loopw [17] (fun i wq => ∃ q : Nat, q ≤ fs.length ∧ i = .int .i64 q ∧ Dr w4 wq) (fun i _ => fs.length - (intOf i).toNat)
          case atStart => exact ⟨0, Nat.zero_le _, rfl, Dr.refl _⟩
          case round =>
            obtain ⟨q, hq, rfl, ⟨nd, rfl⟩⟩ := hrel
            by_cases hql : q < fs.length
            · have r2 : w4.cell? ⟨g2, q, none⟩ = some (.int .i64 (rd xs2 q)) := row_rd (by rw [← ints_append_rest]; exact HR5.out) q (by rw [HLEN2.out]; exact hql)
              have r3 : w4.cell? ⟨g3, q, none⟩ = some (.int .i64 (rd fs q)) := row_rd (by rw [← ints_append_rest]; exact HF5.out) q hql
              have r4 : w4.cell? ⟨g4, q, none⟩ = some (.int .i64 (rd xs' q)) := row_rd (by rw [← ints_append_rest]; exact HB5.out) q (by rw [HI.out.len]; exact hql)
              have tk : (rd xs2 q != rd xs' q) = false := by rw [HW2.out q]; simp
              by_cases hfx : (q : Int) < fixed
              · have tf : decide ((q : Int) < fixed) = true := by simpa using hfx
                have tg : (rd xs2 q != rd fs q) = false := by rw [HFIX2.out q hql hfx]; simp
                clear hfx
                go_wp2
                go_quiet (fail)
                go_wp2
                exact ⟨⟨q + 1, by omega, by go_num, by first | exact Dr.step _ _ | exact (Dr.step _ _).more _⟩, by simp [intOf]; omega⟩
              · have tf : decide ((q : Int) < fixed) = false := by simpa using hfx
                clear hfx
                go_wp2
                go_quiet (fail)
                go_wp2
                exact ⟨⟨q + 1, by omega, by go_num, by first | exact Dr.step _ _ | exact (Dr.step _ _).more _⟩, by simp [intOf]; omega⟩
            · go_wp2_with (go_at_call 12; refine (left_n g2 _ _ _ _ _ xs2 xs2 _ _ HLEN2.out.symm HLEN2.out.symm hm hcap2 HCM2.out rfl (HR5.out.drewN nd) (marked_cl (HR5.out.drewN nd))).mono ?_; rintro e w6 ⟨rfl, hd6⟩; have HD6 := Lib.hid hd6; clear hd6)
              refine ⟨⟨k + 1, xs2, by omega, by go_num, ?_⟩, by simp [intOf]; omega⟩
              have hch : Ch No w4 w6 := ((Ch.refl No w4).drewN nd).then_ HD6.out.ch
              exact ⟨HI.out.ne, HI.out.base, HLEN2.out, HR5.out.keepNo hch, HF5.out.keepNo hch, HFIX2.out, HC5.out.then_ hch⟩
        · have HWR := Lib.hid hw
          obtain ⟨_, _, y1, y2, y3, y4⟩ := may_yes hw
          obtain ⟨a, rfl⟩ := Int.eq_ofNat_of_zero_le y2
          have hfit : a + ds.length ≤ fs.length := by omega
          clear hw
          refine (write_yes g2 _ _ _ _ fixed _ _ ds w4 (by omega) (by omega) (by simp [ints_length, marks_length]; have := HI.out.len; omega) HWR.out (HI.out.row.keepNo HC4.out) (HOW.out.data.keepNo (HI.out.ch.then_ HC4.out))).mono ?_
          rintro e w5 ⟨rfl, hr5, hc5⟩
          rw [Int.toNat_natCast, splice_all xs' (marks 40) ds rest2 a (by rw [HI.out.len]; exact hfit)] at hr5
          obtain ⟨xs2, hxs2⟩ : ∃ xs2, xs2 = splice xs' a ds := ⟨_, rfl⟩
          rw [← hxs2] at hr5
          have HR5 := Lib.hid hr5
          have HLEN2 : Hid (xs2.length = fs.length) := by show _ = _; rw [hxs2, length_splice _ _ _ (by rw [HI.out.len]; exact hfit), HI.out.len]
          have HW2 : Hid ((∀ q, a ≤ q → q < a + ds.length → rd xs2 q = rd ds (q - a)) ∧ (∀ q, (q < a ∨ a + ds.length ≤ q) → rd xs2 q = rd xs' q)) := by
            constructor
            · intro q h1 h2
              rw [hxs2]
              exact rd_splice_in _ _ _ _ (by rw [HI.out.len]; exact hfit) h1 h2
            · intro q h1
              rw [hxs2]
              exact rd_splice_out _ _ _ _ (by rw [HI.out.len]; exact hfit) h1
          have HFIX2 : Hid (∀ j : Nat, j < fs.length → (j : Int) < fixed → rd xs2 j = rd fs j) := by
            intro j h1 h2
            rw [HW2.out.2 j (.inl (by omega))]
            exact HI.out.fix j h1 h2
          have hne4 : g4 ≠ g2 := by have h1 := HI.out.row.lt; have h2 := HG4.out; omega
          have hneo : wr.heap.size ≠ g2 := by have h1 := HI.out.row.lt; omega
          have HCS : Hid (Ch (Is g2) w4 w5) := hc5
          have HB5 : Hid (Row w5 g4 2 (ints (xs' ++ marks 40) ++ rest4)) := HB4.out.keepIs hc5 hne4
          have HF5 : Hid (Row w5 g3 2 (ints (fs ++ marks 40) ++ rest3)) := (HI.out.first.keepNo HC4.out).keepIs hc5 (fun e => HI.out.ne e.symm)
          have HO5 := HO4.out.keepIs hc5 hneo
          have HC5 : Hid (Ch No w w5) := (HI.out.ch.then_ HC4.out).trans hc5 (fun i hi he => by cases he; exact absurd hi (by have := HI.out.base; omega))
          have HD5 : Hid (Cl w5 dA (ints ds)) := HOW.out.data.keepNo HC5.out
          have e0 : w5.cell? ⟨wr.heap.size, 0, none⟩ = some (.int .i64 kind) := HO5.cell 0
          have e2 : w5.cell? ⟨wr.heap.size, 2, none⟩ = some (.int .i64 (a : Int)) := HO5.cell 2
          clear HO5 hr5 hc5 d0 d2 d4 d5 hxs2
          go_wp2_with (go_at_call 11; refine (writable _ _ _ _ _ (by omega) (by omega)).mono ?_; rintro e w' ⟨rfl, rfl⟩; rw [HWR.out])
          go_loopw [17] (fun i wq => ∃ q : Nat, q ≤ fs.length ∧ i = .int .i64 q ∧ Dr w5 wq) (fun i _ => fs.length - (intOf i).toNat)
          case atStart => exact ⟨0, Nat.zero_le _, rfl, Dr.refl _⟩
          case round =>
            obtain ⟨q, hq, rfl, ⟨nd, rfl⟩⟩ := hrel
            by_cases hql : q < fs.length
            · have r2 : w5.cell? ⟨g2, q, none⟩ = some (.int .i64 (rd xs2 q)) := row_rd (by rw [← ints_append_rest]; exact HR5.out) q (by rw [HLEN2.out]; exact hql)
              have r3 : w5.cell? ⟨g3, q, none⟩ = some (.int .i64 (rd fs q)) := row_rd (by rw [← ints_append_rest]; exact HF5.out) q hql
              have r4 : w5.cell? ⟨g4, q, none⟩ = some (.int .i64 (rd xs' q)) := row_rd (by rw [← ints_append_rest]; exact HB5.out) q (by rw [HI.out.len]; exact hql)
              by_cases hin : (a : Nat) ≤ q ∧ q < a + ds.length
              · have ti : decide ((0 : Int) ≤ (q : Int) - (a : Int)) = true := by simp; omega
                have tj : decide ((q : Int) - (a : Int) < (ds.length : Int)) = true := by simp; omega
                have tk : (rd xs2 q != rd ds (q - a)) = false := by rw [HW2.out.1 q hin.1 hin.2]; simp
                obtain ⟨dad, ed, r5⟩ := cl_rd HD5.out (q - a) (show q - a < ds.length by omega)
                have tn : ((q : Int) - (a : Int)).toNat = q - a := by omega
                have tm : a ≤ q := hin.1
                have tm2 : decide (a ≤ q) = true := by simp; omega
                have to1 : 0 ≤ (q : Int) - (a : Int) := by omega
                have to2 : (q : Int) - (a : Int) < (ds.length : Int) := by omega
                clear hin
                subst ed
                by_cases hfx : (q : Int) < fixed
                · have tf : decide ((q : Int) < fixed) = true := by simpa using hfx
                  have tg : (rd xs2 q != rd fs q) = false := by rw [HFIX2.out q hql hfx]; simp
                  clear hfx
                  go_wp2
                  go_quiet (fail)
                  go_wp2
                  exact ⟨⟨q + 1, by omega, by go_num, by first | exact Dr.step _ _ | exact (Dr.step _ _).more _⟩, by simp [intOf]; omega⟩
                · have tf : decide ((q : Int) < fixed) = false := by simpa using hfx
                  clear hfx
                  go_wp2
                  go_quiet (fail)
                  go_wp2
                  exact ⟨⟨q + 1, by omega, by go_num, by first | exact Dr.step _ _ | exact (Dr.step _ _).more _⟩, by simp [intOf]; omega⟩
              · have ti : (decide ((0 : Int) ≤ (q : Int) - (a : Int)) && decide ((q : Int) - (a : Int) < (ds.length : Int))) = false := by rw [Bool.and_eq_false_iff]; simp; omega
                have tk : (rd xs2 q != rd xs' q) = false := by rw [HW2.out.2 q (by omega)]; simp
                by_cases hneg : (q : Int) - (a : Int) < 0
                · have tj : decide ((0 : Int) ≤ (q : Int) - (a : Int)) = false := by simp; omega
                  have tm : q < a := by omega
                  have tm2 : decide (a ≤ q) = false := by simp; omega
                  clear hin ti hneg
                  by_cases hfx : (q : Int) < fixed
                  · have tf : decide ((q : Int) < fixed) = true := by simpa using hfx
                    have tg : (rd xs2 q != rd fs q) = false := by rw [HFIX2.out q hql hfx]; simp
                    clear hfx
                    go_wp2
                    go_quiet (fail)
                    go_wp2
                    exact ⟨⟨q + 1, by omega, by go_num, by first | exact Dr.step _ _ | exact (Dr.step _ _).more _⟩, by simp [intOf]; omega⟩
                  · have tf : decide ((q : Int) < fixed) = false := by simpa using hfx
                    clear hfx
                    go_wp2
                    go_quiet (fail)
                    go_wp2
                    exact ⟨⟨q + 1, by omega, by go_num, by first | exact Dr.step _ _ | exact (Dr.step _ _).more _⟩, by simp [intOf]; omega⟩
                · have tj : decide ((0 : Int) ≤ (q : Int) - (a : Int)) = true := by simp; omega
                  have tl : decide ((q : Int) - (a : Int) < (ds.length : Int)) = false := by simp; omega
                  have tm : a ≤ q := by omega
                  have tm2 : decide (a ≤ q) = true := by simp; omega
                  have tm3 : a + ds.length ≤ q := by omega
                  clear hin ti hneg
                  by_cases hfx : (q : Int) < fixed
                  · have tf : decide ((q : Int) < fixed) = true := by simpa using hfx
                    have tg : (rd xs2 q != rd fs q) = false := by rw [HFIX2.out q hql hfx]; simp
                    clear hfx
                    go_wp2
                    go_quiet (fail)
                    go_wp2
                    exact ⟨⟨q + 1, by omega, by go_num, by first | exact Dr.step _ _ | exact (Dr.step _ _).more _⟩, by simp [intOf]; omega⟩
                  · have tf : decide ((q : Int) < fixed) = false := by simpa using hfx
                    clear hfx
                    go_wp2
                    go_quiet (fail)
                    go_wp2
                    exact ⟨⟨q + 1, by omega, by go_num, by first | exact Dr.step _ _ | exact (Dr.step _ _).more _⟩, by simp [intOf]; omega⟩
            · go_wp2_with (go_at_call 12; refine (left_n g2 _ _ _ _ _ xs2 xs2 _ _ HLEN2.out.symm HLEN2.out.symm hm hcap2 HCM2.out rfl (HR5.out.drewN nd) (marked_cl (HR5.out.drewN nd))).mono ?_; rintro e w6 ⟨rfl, hd6⟩; have HD6 := Lib.hid hd6; clear hd6)
              refine ⟨⟨k + 1, xs2, by omega, by go_num, ?_⟩, by simp [intOf]; omega⟩
              have hch : Ch No w5 w6 := ((Ch.refl No w5).drewN nd).then_ HD6.out.ch
              exact ⟨HI.out.ne, HI.out.base, HLEN2.out, HR5.out.keepNo hch, HF5.out.keepNo hch, HFIX2.out, HC5.out.then_ hch⟩
      · have t1 : (kind == 4) = false := by simpa using hk4
        have t2 : (kind != 4) = true := by simpa using hk4
        clear hk4
        go_wp2_with (fail)
        cases hw : may fs.length fixed addr 1
        · have HWR := Lib.hid hw
          clear hw
          refine (store_no _ _ _ _ _ value _ (by omega) HWR.out).mono ?_
          rintro e w5 ⟨rfl, hc5'⟩
          have hc5 : Ch No w4 w5 := ((Ch.refl No w4).alloc _).then_ hc5'
          clear hc5'
          obtain ⟨xs2, hxs2⟩ : ∃ xs2, xs2 = xs' := ⟨_, rfl⟩
          have HR5 : Hid (Row w5 g2 2 (ints (xs2 ++ marks 40) ++ rest2)) := by rw [hxs2]; exact (HI.out.row.keepNo HC4.out).keepNo hc5
          have HB5 : Hid (Row w5 g4 2 (ints (xs' ++ marks 40) ++ rest4)) := HB4.out.keepNo hc5
          have HF5 : Hid (Row w5 g3 2 (ints (fs ++ marks 40) ++ rest3)) := (HI.out.first.keepNo HC4.out).keepNo hc5
          have HO5 := HO4.out.keepNo hc5
          have HC5 : Hid (Ch No w w5) := (HI.out.ch.then_ HC4.out).then_ hc5
          have HLEN2 : Hid (xs2.length = fs.length) := by show _ = _; rw [hxs2, HI.out.len]
          have HW2 : Hid (∀ q, rd xs2 q = rd xs' q) := by intro q; rw [hxs2]
          have HFIX2 : Hid (∀ j : Nat, j < fs.length → (j : Int) < fixed → rd xs2 j = rd fs j) := by rw [hxs2]; exact HI.out.fix
          have e0 : w5.cell? ⟨wr.heap.size, 0, none⟩ = some (.int .i64 kind) := HO5.cell 0
          have e2 : w5.cell? ⟨wr.heap.size, 2, none⟩ = some (.int .i64 addr) := HO5.cell 2
          clear HO5 hc5 d0 d2 d4 d5 hxs2
          go_wp2_with (go_at_call 11; refine (writable _ _ _ _ _ (by omega) (by omega)).mono ?_; rintro e w' ⟨rfl, rfl⟩; rw [HWR.out])
          go_loopw [17] (fun i wq => ∃ q : Nat, q ≤ fs.length ∧ i = .int .i64 q ∧ Dr w5 wq) (fun i _ => fs.length - (intOf i).toNat)
          case atStart => exact ⟨0, Nat.zero_le _, rfl, Dr.refl _⟩
          case round =>
            obtain ⟨q, hq, rfl, ⟨nd, rfl⟩⟩ := hrel
            by_cases hql : q < fs.length
            · have r2 : w5.cell? ⟨g2, q, none⟩ = some (.int .i64 (rd xs2 q)) := row_rd (by rw [← ints_append_rest]; exact HR5.out) q (by rw [HLEN2.out]; exact hql)
              have r3 : w5.cell? ⟨g3, q, none⟩ = some (.int .i64 (rd fs q)) := row_rd (by rw [← ints_append_rest]; exact HF5.out) q hql
              have r4 : w5.cell? ⟨g4, q, none⟩ = some (.int .i64 (rd xs' q)) := row_rd (by rw [← ints_append_rest]; exact HB5.out) q (by rw [HI.out.len]; exact hql)
              have tk : (rd xs2 q != rd xs' q) = false := by rw [HW2.out q]; simp
              by_cases hfx : (q : Int) < fixed
              · have tf : decide ((q : Int) < fixed) = true := by simpa using hfx
                have tg : (rd xs2 q != rd fs q) = false := by rw [HFIX2.out q hql hfx]; simp
                clear hfx
                go_wp2
                go_quiet (fail)
                go_wp2
                exact ⟨⟨q + 1, by omega, by go_num, by first | exact Dr.step _ _ | exact (Dr.step _ _).more _⟩, by simp [intOf]; omega⟩
              · have tf : decide ((q : Int) < fixed) = false := by simpa using hfx
                clear hfx
                go_wp2
                go_quiet (fail)
                go_wp2
                exact ⟨⟨q + 1, by omega, by go_num, by first | exact Dr.step _ _ | exact (Dr.step _ _).more _⟩, by simp [intOf]; omega⟩
            · go_wp2_with (go_at_call 12; refine (left_n g2 _ _ _ _ _ xs2 xs2 _ _ HLEN2.out.symm HLEN2.out.symm hm hcap2 HCM2.out rfl (HR5.out.drewN nd) (marked_cl (HR5.out.drewN nd))).mono ?_; rintro e w6 ⟨rfl, hd6⟩; have HD6 := Lib.hid hd6; clear hd6)
              refine ⟨⟨k + 1, xs2, by omega, by go_num, ?_⟩, by simp [intOf]; omega⟩
              have hch : Ch No w5 w6 := ((Ch.refl No w5).drewN nd).then_ HD6.out.ch
              exact ⟨HI.out.ne, HI.out.base, HLEN2.out, HR5.out.keepNo hch, HF5.out.keepNo hch, HFIX2.out, HC5.out.then_ hch⟩
        · have HWR := Lib.hid hw
          obtain ⟨_, _, y1, y2, y3, y4⟩ := may_yes hw
          obtain ⟨a, rfl⟩ := Int.eq_ofNat_of_zero_le y2
          have hfit : a + 1 ≤ fs.length := by omega
          clear hw
          refine (store_yes g2 _ _ fixed _ value _ _ (by omega) (by omega) (by simp [ints_length, marks_length]; have := HI.out.len; omega) HWR.out ((HI.out.row.keepNo HC4.out).alloc _)).mono ?_
          rintro e w5 ⟨rfl, hr5, hc5⟩
          rw [Int.toNat_natCast, splice_all xs' (marks 40) [value] rest2 a (by rw [HI.out.len]; exact hfit)] at hr5
          obtain ⟨xs2, hxs2⟩ : ∃ xs2, xs2 = splice xs' a [value] := ⟨_, rfl⟩
          rw [← hxs2] at hr5
          have HR5 := Lib.hid hr5
          have HLEN2 : Hid (xs2.length = fs.length) := by show _ = _; rw [hxs2, length_splice _ _ _ (by rw [HI.out.len]; exact hfit), HI.out.len]
          have HW2 : Hid ((∀ q, a ≤ q → q < a + 1 → rd xs2 q = rd [value] (q - a)) ∧ (∀ q, (q < a ∨ a + 1 ≤ q) → rd xs2 q = rd xs' q)) := by
            constructor
            · intro q h1 h2
              rw [hxs2]
              exact rd_splice_in _ _ _ _ (by rw [HI.out.len]; exact hfit) h1 h2
            · intro q h1
              rw [hxs2]
              exact rd_splice_out _ _ _ _ (by rw [HI.out.len]; exact hfit) h1
          have HFIX2 : Hid (∀ j : Nat, j < fs.length → (j : Int) < fixed → rd xs2 j = rd fs j) := by
            intro j h1 h2
            rw [HW2.out.2 j (.inl (by omega))]
            exact HI.out.fix j h1 h2
          have hne4 : g4 ≠ g2 := by have h1 := HI.out.row.lt; have h2 := HG4.out; omega
          have hneo : wr.heap.size ≠ g2 := by have h1 := HI.out.row.lt; omega
          have HCS : Hid (Ch (Is g2) (w4.alloc (.cells #[.int .i64 value] 2)) w5) := hc5
          have HB5 : Hid (Row w5 g4 2 (ints (xs' ++ marks 40) ++ rest4)) := (HB4.out.alloc _).keepIs hc5 hne4
          have HF5 : Hid (Row w5 g3 2 (ints (fs ++ marks 40) ++ rest3)) := ((HI.out.first.keepNo HC4.out).alloc _).keepIs hc5 (fun e => HI.out.ne e.symm)
          have HO5 := (HO4.out.alloc _).keepIs hc5 hneo
          have HC5 : Hid (Ch No w w5) := (HI.out.ch.then_ (HC4.out.alloc _)).trans hc5 (fun i hi he => by cases he; exact absurd hi (by have := HI.out.base; omega))
          have HD5 : Hid (Cl w5 (some ⟨w4.heap.size, 0, none⟩) (ints [value])) := (Row.new w4 2 (ints [value])).cl0.keep hc5 (fun ad e => by cases e; intro e2; have h1 := HI.out.row.keepNo HC4.out; have := h1.lt; change w4.heap.size = g2 at e2; omega)
          have e0 : w5.cell? ⟨wr.heap.size, 0, none⟩ = some (.int .i64 kind) := HO5.cell 0
          have e2 : w5.cell? ⟨wr.heap.size, 2, none⟩ = some (.int .i64 (a : Int)) := HO5.cell 2
          clear HO5 hr5 hc5 d0 d2 d4 d5 hxs2
          go_wp2_with (go_at_call 11; refine (writable _ _ _ _ _ (by omega) (by omega)).mono ?_; rintro e w' ⟨rfl, rfl⟩; rw [HWR.out])
          go_loopw [17] (fun i wq => ∃ q : Nat, q ≤ fs.length ∧ i = .int .i64 q ∧ Dr w5 wq) (fun i _ => fs.length - (intOf i).toNat)
          case atStart => exact ⟨0, Nat.zero_le _, rfl, Dr.refl _⟩
          case round =>
            obtain ⟨q, hq, rfl, ⟨nd, rfl⟩⟩ := hrel
            by_cases hql : q < fs.length
            · have r2 : w5.cell? ⟨g2, q, none⟩ = some (.int .i64 (rd xs2 q)) := row_rd (by rw [← ints_append_rest]; exact HR5.out) q (by rw [HLEN2.out]; exact hql)
              have r3 : w5.cell? ⟨g3, q, none⟩ = some (.int .i64 (rd fs q)) := row_rd (by rw [← ints_append_rest]; exact HF5.out) q hql
              have r4 : w5.cell? ⟨g4, q, none⟩ = some (.int .i64 (rd xs' q)) := row_rd (by rw [← ints_append_rest]; exact HB5.out) q (by rw [HI.out.len]; exact hql)
              by_cases hin : (a : Nat) ≤ q ∧ q < a + 1
              · have ti : decide ((0 : Int) ≤ (q : Int) - (a : Int)) = true := by simp; omega
                have tj : decide ((q : Int) - (a : Int) < (1 : Int)) = true := by simp; omega
                have tk : (rd xs2 q != rd [value] (q - a)) = false := by rw [HW2.out.1 q hin.1 hin.2]; simp
                obtain ⟨dad, ed, r5⟩ := cl_rd HD5.out (q - a) (show q - a < 1 by omega)
                have tn : ((q : Int) - (a : Int)).toNat = q - a := by omega
                have tm : a ≤ q := hin.1
                have tm2 : decide (a ≤ q) = true := by simp; omega
                have to1 : 0 ≤ (q : Int) - (a : Int) := by omega
                have to2 : (q : Int) - (a : Int) < (1 : Int) := by omega
                clear hin
                cases ed
                rw [add_lit, Nat.zero_add] at r5
                by_cases hfx : (q : Int) < fixed
                · have tf : decide ((q : Int) < fixed) = true := by simpa using hfx
                  have tg : (rd xs2 q != rd fs q) = false := by rw [HFIX2.out q hql hfx]; simp
                  clear hfx
                  go_wp2
                  go_quiet (fail)
                  go_wp2
                  exact ⟨⟨q + 1, by omega, by go_num, by first | exact Dr.step _ _ | exact (Dr.step _ _).more _⟩, by simp [intOf]; omega⟩
                · have tf : decide ((q : Int) < fixed) = false := by simpa using hfx
                  clear hfx
                  go_wp2
                  go_quiet (fail)
                  go_wp2
                  exact ⟨⟨q + 1, by omega, by go_num, by first | exact Dr.step _ _ | exact (Dr.step _ _).more _⟩, by simp [intOf]; omega⟩
              · have ti : (decide ((0 : Int) ≤ (q : Int) - (a : Int)) && decide ((q : Int) - (a : Int) < (1 : Int))) = false := by rw [Bool.and_eq_false_iff]; simp; omega
                have tk : (rd xs2 q != rd xs' q) = false := by rw [HW2.out.2 q (by omega)]; simp
                by_cases hneg : (q : Int) - (a : Int) < 0
                · have tj : decide ((0 : Int) ≤ (q : Int) - (a : Int)) = false := by simp; omega
                  have tm : q < a := by omega
                  have tm2 : decide (a ≤ q) = false := by simp; omega
                  clear hin ti hneg
                  by_cases hfx : (q : Int) < fixed
                  · have tf : decide ((q : Int) < fixed) = true := by simpa using hfx
                    have tg : (rd xs2 q != rd fs q) = false := by rw [HFIX2.out q hql hfx]; simp
                    clear hfx
                    go_wp2
                    go_quiet (fail)
                    go_wp2
                    exact ⟨⟨q + 1, by omega, by go_num, by first | exact Dr.step _ _ | exact (Dr.step _ _).more _⟩, by simp [intOf]; omega⟩
                  · have tf : decide ((q : Int) < fixed) = false := by simpa using hfx
                    clear hfx
                    go_wp2
                    go_quiet (fail)
                    go_wp2
                    exact ⟨⟨q + 1, by omega, by go_num, by first | exact Dr.step _ _ | exact (Dr.step _ _).more _⟩, by simp [intOf]; omega⟩
                · have tj : decide ((0 : Int) ≤ (q : Int) - (a : Int)) = true := by simp; omega
                  have tl : decide ((q : Int) - (a : Int) < (1 : Int)) = false := by simp; omega
                  have tm : a ≤ q := by omega
                  have tm2 : decide (a ≤ q) = true := by simp; omega
                  have tm3 : a + 1 ≤ q := by omega
                  clear hin ti hneg
                  by_cases hfx : (q : Int) < fixed
                  · have tf : decide ((q : Int) < fixed) = true := by simpa using hfx
                    have tg : (rd xs2 q != rd fs q) = false := by rw [HFIX2.out q hql hfx]; simp
                    clear hfx
                    go_wp2
                    go_quiet (fail)
                    go_wp2
                    exact ⟨⟨q + 1, by omega, by go_num, by first | exact Dr.step _ _ | exact (Dr.step _ _).more _⟩, by simp [intOf]; omega⟩
                  · have tf : decide ((q : Int) < fixed) = false := by simpa using hfx
                    clear hfx
                    go_wp2
                    go_quiet (fail)
                    go_wp2
                    exact ⟨⟨q + 1, by omega, by go_num, by first | exact Dr.step _ _ | exact (Dr.step _ _).more _⟩, by simp [intOf]; omega⟩
            · go_wp2_with (go_at_call 12; refine (left_n g2 _ _ _ _ _ xs2 xs2 _ _ HLEN2.out.symm HLEN2.out.symm hm hcap2 HCM2.out rfl (HR5.out.drewN nd) (marked_cl (HR5.out.drewN nd))).mono ?_; rintro e w6 ⟨rfl, hd6⟩; have HD6 := Lib.hid hd6; clear hd6)
              refine ⟨⟨k + 1, xs2, by omega, by go_num, ?_⟩, by simp [intOf]; omega⟩
              have hch : Ch No w5 w6 := ((Ch.refl No w5).drewN nd).then_ HD6.out.ch
              exact ⟨HI.out.ne, HI.out.base, HLEN2.out, HR5.out.keepNo hch, HF5.out.keepNo hch, HFIX2.out, HC5.out.then_ hch⟩
    · go_wp2_with (go_at_call 7; refine (works_calls _).mono ?_; rintro e w1 ⟨rfl, hc⟩; have HC := Lib.hid hc; clear hc)
      go_ret
      exact ⟨rfl, HI.out.ch.then_ HC.out⟩
end Go.Proofs.Ytbllpojljdhnoaa
