/- The document's answer for a Step is the program's. -/
import Derived.Test.YtellmlffkgfeiaaDoorV9a
import Derived.Test.YtellmlffkgfeiaaDoorV9b
import Derived.Test.YtellmlffkgfeiaaDoorOM
set_option linter.unusedVariables false
set_option linter.unusedSimpArgs false
namespace Go.Proofs.YtellmlffkgfeiaaDoor
open Go.RowKit
set_option maxRecDepth 100000 in
set_option maxHeartbeats 4000000 in
theorem done_calls (A : Option Addr) (len cap : Nat) (hl : len ≤ 9223372036854775807) (M : Option Addr) (xs : List Int) (mcap : Nat) (hm : xs.length ≤ 9223372036854775807) (fixed : Int) (x : Ins) (hk : x.ok) (hleg : x.legal = true) (r : Nat → Int) (hin : ∀ i, i < 16 → In64 (r i)) (pc : Int) (hp0 : -9223372036854775808 ≤ pc) (hp1 : pc < 9223372036854775807) (w : World)
    (hM : Cl w M (ints xs)) :
    Calls Tryd.prog 30 #[.slice A len cap, .agg x.cells.toArray, .slice M xs.length mcap, .int .i64 fixed, .agg (regCells r).toArray, .int .i64 pc] w fun e w' => e = .returned (.agg (effCells (doF x.op x.a x.b x.c x.n len xs (fix fixed xs.length) (eff0 r (pc + 1) 0))).toArray) ∧ Ch No w w' := by
  obtain ⟨h0, h28, ha, hb, hc⟩ := legal_regs (show legal x.op x.a x.b x.c x.n = true from hleg)
  obtain ⟨op, a, b, c, n⟩ := x
  have hn0 : -2147483648 ≤ n := hk.2.2.2.2.1
  have hn1 : n ≤ 2147483647 := hk.2.2.2.2.2
  simp only at h0 h28 ha hb hc ⊢
  show Calls Tryd.prog 30 #[.slice A len cap, .agg (insCells op a b c n).toArray, .slice M xs.length mcap, .int .i64 fixed, .agg (regCells r).toArray, .int .i64 pc] w _
  have hop : op = 1 ∨ op = 2 ∨ op = 3 ∨ op = 4 ∨ op = 5 ∨ op = 6 ∨ op = 7 ∨ op = 8 ∨ op = 9 ∨ op = 10 ∨ op = 11 ∨ op = 12 ∨ op = 13 ∨ op = 14 ∨ op = 15 ∨ op = 16 ∨ op = 17 ∨ op = 18 ∨ op = 19 ∨ op = 20 ∨ op = 21 ∨ op = 22 ∨ op = 23 ∨ op = 24 ∨ op = 25 ∨ op = 26 ∨ op = 27 := by omega
  rcases hop with rfl | rfl | rfl | rfl | rfl | rfl | rfl | rfl | rfl | rfl | rfl | rfl | rfl | rfl | rfl | rfl | rfl | rfl | rfl | rfl | rfl | rfl | rfl | rfl | rfl | rfl | rfl
  · exact done_1 A len cap hl M xs mcap hm fixed a b c n ha hb hc r hin pc hp0 hp1 hn0 hn1 w
  · exact done_2 A len cap hl M xs mcap hm fixed a b c n ha hb hc r hin pc hp0 hp1 hn0 hn1 w
  · have e : doF 3 a b c n len xs (fix fixed xs.length) (eff0 r (pc + 1) 0) = (eff0 r (pc + 1) 0).reg a (n * 4294967296 + r a % 4294967296) := by
      show (eff0 r (pc + 1) 0).reg a (For (n * 4294967296) (Fand (r a) 4294967295)) = _
      rw [ldh_is n (r a) hn0 hn1]
    rw [e]
    exact done_3 A len cap hl M xs mcap hm fixed a b c n ha hb hc r hin pc hp0 hp1 hn0 hn1 w
  · exact done_4 A len cap hl M xs mcap hm fixed a b c n ha hb hc r hin pc hp0 hp1 hn0 hn1 w
  · by_cases hg : 0 ≤ Fadd (r b) n ∧ Fadd (r b) n < xs.length
    · have e : doF 5 a b c n len xs (fix fixed xs.length) (eff0 r (pc + 1) 0) = (eff0 r (pc + 1) 0).reg a (rd xs (Fadd (r b) n).toNat) := by
        show (if may xs.length 0 (Fadd (r b) n) 1 = true then _ else _) = _
        rw [may_ld _ _ (by omega), if_pos (by simpa using hg)]
        rfl
      rw [e]
      exact done_5_ok A len cap hl M xs mcap hm fixed a b c n ha hb hc r hin pc hp0 hp1 hn0 hn1 w hM hg.1 hg.2
    · have e : doF 5 a b c n len xs (fix fixed xs.length) (eff0 r (pc + 1) 0) = eff0 r (pc + 1) 2 := by
        show (if may xs.length 0 (Fadd (r b) n) 1 = true then _ else _) = _
        rw [may_ld _ _ (by omega), if_neg (by simpa using hg)]
        rfl
      rw [e]
      exact done_5_bad A len cap hl M xs mcap hm fixed a b c n ha hb hc r hin pc hp0 hp1 hn0 hn1 w (by omega)
  · by_cases hg : 0 ≤ Fadd (r b) n ∧ Fadd (r b) n < xs.length ∧ fixed ≤ Fadd (r b) n
    · have e : doF 6 a b c n len xs (fix fixed xs.length) (eff0 r (pc + 1) 0) = { eff0 r (pc + 1) 0 with st := true, addr := Fadd (r b) n, val := r a } := by
        show (if may xs.length (fix fixed xs.length) (Fadd (r b) n) 1 = true then _ else _) = _
        rw [may_st, if_pos (by simpa using hg)]
        rfl
      rw [e]
      exact done_6_ok A len cap hl M xs mcap hm fixed a b c n ha hb hc r hin pc hp0 hp1 hn0 hn1 w hg.1 hg.2.1 hg.2.2
    · have e : doF 6 a b c n len xs (fix fixed xs.length) (eff0 r (pc + 1) 0) = eff0 r (pc + 1) 2 := by
        show (if may xs.length (fix fixed xs.length) (Fadd (r b) n) 1 = true then _ else _) = _
        rw [may_st, if_neg (by simpa using hg)]
        rfl
      rw [e]
      exact done_6_bad A len cap hl M xs mcap hm fixed a b c n ha hb hc r hin pc hp0 hp1 hn0 hn1 w (by omega)
  · exact done_7 A len cap hl M xs mcap hm fixed a b c n ha hb hc r hin pc hp0 hp1 hn0 hn1 w
  · exact done_8 A len cap hl M xs mcap hm fixed a b c n ha hb hc r hin pc hp0 hp1 hn0 hn1 w
  · exact done_9 A len cap hl M xs mcap hm fixed a b c n ha hb hc r hin pc hp0 hp1 hn0 hn1 w
  · by_cases hg : r c = 0
    · have e : doF 10 a b c n len xs (fix fixed xs.length) (eff0 r (pc + 1) 0) = eff0 r (pc + 1) 3 := by
        show (if r c = 0 then _ else _) = _
        rw [if_pos hg]
        rfl
      rw [e]
      exact done_10_zero A len cap hl M xs mcap hm fixed a b c n ha hb hc r hin pc hp0 hp1 hn0 hn1 w hg
    · have e : doF 10 a b c n len xs (fix fixed xs.length) (eff0 r (pc + 1) 0) = (eff0 r (pc + 1) 0).reg a (Fdiv (r b) (r c)) := by
        show (if r c = 0 then _ else _) = _
        rw [if_neg hg]
        rfl
      rw [e]
      exact done_10 A len cap hl M xs mcap hm fixed a b c n ha hb hc r hin pc hp0 hp1 hn0 hn1 w hg
  · by_cases hg : r c = 0
    · have e : doF 11 a b c n len xs (fix fixed xs.length) (eff0 r (pc + 1) 0) = eff0 r (pc + 1) 3 := by
        show (if r c = 0 then _ else _) = _
        rw [if_pos hg]
        rfl
      rw [e]
      exact done_11_zero A len cap hl M xs mcap hm fixed a b c n ha hb hc r hin pc hp0 hp1 hn0 hn1 w hg
    · have e : doF 11 a b c n len xs (fix fixed xs.length) (eff0 r (pc + 1) 0) = (eff0 r (pc + 1) 0).reg a (Fmod (r b) (r c)) := by
        show (if r c = 0 then _ else _) = _
        rw [if_neg hg]
        rfl
      rw [e]
      exact done_11 A len cap hl M xs mcap hm fixed a b c n ha hb hc r hin pc hp0 hp1 hn0 hn1 w hg
  · exact done_12 A len cap hl M xs mcap hm fixed a b c n ha hb hc r hin pc hp0 hp1 hn0 hn1 w
  · exact done_13 A len cap hl M xs mcap hm fixed a b c n ha hb hc r hin pc hp0 hp1 hn0 hn1 w
  · exact done_14 A len cap hl M xs mcap hm fixed a b c n ha hb hc r hin pc hp0 hp1 hn0 hn1 w
  · exact done_15 A len cap hl M xs mcap hm fixed a b c n ha hb hc r hin pc hp0 hp1 hn0 hn1 w
  · exact done_16 A len cap hl M xs mcap hm fixed a b c n ha hb hc r hin pc hp0 hp1 hn0 hn1 w
  · exact done_17 A len cap hl M xs mcap hm fixed a b c n ha hb hc r hin pc hp0 hp1 hn0 hn1 w
  · exact done_18 A len cap hl M xs mcap hm fixed a b c n ha hb hc r hin pc hp0 hp1 hn0 hn1 w
  · exact done_19 A len cap hl M xs mcap hm fixed a b c n ha hb hc r hin pc hp0 hp1 hn0 hn1 w
  · exact done_20 A len cap hl M xs mcap hm fixed a b c n ha hb hc r hin pc hp0 hp1 hn0 hn1 w
  · exact done_21 A len cap hl M xs mcap hm fixed a b c n ha hb hc r hin pc hp0 hp1 hn0 hn1 w
  · exact done_22 A len cap hl M xs mcap hm fixed a b c n ha hb hc r hin pc hp0 hp1 hn0 hn1 w
  · by_cases hg : r a = 0
    · have e : doF 23 a b c n len xs (fix fixed xs.length) (eff0 r (pc + 1) 0) = { eff0 r (pc + 1) 0 with pc := inn len n } := by
        show (if r a = 0 then _ else _) = _
        rw [if_pos hg]
      rw [e]
      exact done_23_go A len cap hl M xs mcap hm fixed a b c n ha hb hc r hin pc hp0 hp1 hn0 hn1 w hg
    · have e : doF 23 a b c n len xs (fix fixed xs.length) (eff0 r (pc + 1) 0) = eff0 r (pc + 1) 0 := by
        show (if r a = 0 then _ else _) = _
        rw [if_neg hg]
      rw [e]
      exact done_23_stay A len cap hl M xs mcap hm fixed a b c n ha hb hc r hin pc hp0 hp1 hn0 hn1 w hg
  · by_cases hg : r a = 0
    · have e : doF 24 a b c n len xs (fix fixed xs.length) (eff0 r (pc + 1) 0) = eff0 r (pc + 1) 0 := by
        show (if r a = 0 then _ else _) = _
        rw [if_pos hg]
      rw [e]
      exact done_24_stay A len cap hl M xs mcap hm fixed a b c n ha hb hc r hin pc hp0 hp1 hn0 hn1 w hg
    · have e : doF 24 a b c n len xs (fix fixed xs.length) (eff0 r (pc + 1) 0) = { eff0 r (pc + 1) 0 with pc := inn len n } := by
        show (if r a = 0 then _ else _) = _
        rw [if_neg hg]
      rw [e]
      exact done_24_go A len cap hl M xs mcap hm fixed a b c n ha hb hc r hin pc hp0 hp1 hn0 hn1 w hg
  · exact done_25 A len cap hl M xs mcap hm fixed a b c n ha hb hc r hin pc hp0 hp1 hn0 hn1 w
  · exact done_26 A len cap hl M xs mcap hm fixed a b c n ha hb hc r hin pc hp0 hp1 hn0 hn1 w
  · by_cases hg : 1 ≤ n ∧ n < 28
    · have e : doF 27 a b c n len xs (fix fixed xs.length) (eff0 r (pc + 1) 0) = { eff0 r (pc + 1) 0 with call := n } := by
        show (if 1 ≤ n ∧ n < 28 then _ else _) = _
        rw [if_pos hg]
      rw [e]
      exact done_27 A len cap hl M xs mcap hm fixed a b c n ha hb hc r hin pc hp0 hp1 hn0 hn1 w hg.1 (by omega)
    · have e : doF 27 a b c n len xs (fix fixed xs.length) (eff0 r (pc + 1) 0) = eff0 r (pc + 1) 5 := by
        show (if 1 ≤ n ∧ n < 28 then _ else _) = _
        rw [if_neg hg]
        rfl
      rw [e]
      exact done_27_bad A len cap hl M xs mcap hm fixed a b c n ha hb hc r hin pc hp0 hp1 hn0 hn1 w (by omega)

open Go.RowKit
set_option maxRecDepth 100000 in
set_option maxHeartbeats 2000000 in
theorem rstep_out (A : Option Addr) (len cap : Nat) (hl : len ≤ 9223372036854775807) (M : Option Addr) (mlen mcap : Nat) (fixed : Int) (r : Nat → Int) (pc : Int) (hpc : pc < 0 ∨ (len : Int) ≤ pc) (w : World) :
    Calls Tryd.prog 13 #[.slice A len cap, .slice M mlen mcap, .int .i64 fixed, .agg (regCells r).toArray, .int .i64 pc] w fun e w' => e = .returned (.agg (effCells (eff0 r (inn len pc) 4)).toArray) ∧ Ch No w w' := by
  have HRR : Hid (Row ((w.alloc (.cells (regCells r).toArray 24)).alloc (.cells (effCells zeroEff).toArray 30)) w.heap.size 24 (regCells r)) := (Row.new w 24 (regCells r)).alloc _
  have HZ : Hid (Row ((w.alloc (.cells (regCells r).toArray 24)).alloc (.cells (effCells zeroEff).toArray 30)) (w.heap.size + 1) 30 (effCells zeroEff)) := Row.new_at _ 30 (effCells zeroEff) (by simp)
  have HC0 : Hid (Ch No w ((w.alloc (.cells (regCells r).toArray 24)).alloc (.cells (effCells zeroEff).toArray 30))) := ((Ch.refl No w).alloc _).alloc _
  have HIN := Lib.hid (fun W => in_27 A len cap hl pc W)
  have key : ∀ (d1 : decide (pc < 0) = true ∨ (decide (pc < 0) = false ∧ decide ((len : Int) ≤ pc) = true)), Calls Tryd.prog 13 #[.slice A len cap, .slice M mlen mcap, .int .i64 fixed, .agg (regCells r).toArray, .int .i64 pc] w fun e w' => e = .returned (.agg (effCells (eff0 r (inn len pc) 4)).toArray) ∧ Ch No w w' := by
    intro hd
    clear hpc
    rcases hd with d1 | ⟨d1, d2⟩
    all_goals
      go_enter Tryd.func13, Tryd.ntmps13
      go_upto_region 1 with (fail)
      change Code.wp _ _ _ _ (World.alloc (World.alloc w (.cells (regCells r).toArray 24)) (.cells (effCells zeroEff).toArray 30))
      generalize World.alloc (World.alloc w (.cells (regCells r).toArray 24)) (.cells (effCells zeroEff).toArray 30) = w1 at *
      go_upto_region 2 with (fail)
      refine wp_region_qt 5 (by kernel_rfl) (by kernel_rfl) ?_
      simp only [List.take_succ_cons, List.take_zero, List.drop_succ_cons, List.drop_zero]
      refine wpQuiet_read (by rfl) (.agg (regCells r).toArray) (fun w' hw' => by
        obtain ⟨j, rfl⟩ := hw'
        exact exec_load_agg 24 (.tmp 8) rfl w.heap.size rfl 24 _ (HRR.out.drewN j) _ Tryd.underlying24 rfl (sizeR _)) ?_
      simp only [Act.put, List.setIfInBounds_toArray, List.set_cons_zero, List.set_cons_succ]
      refine wpQuiet_value (by rfl) (.slice A len cap) (fun _ => rfl) ?_
      simp only [Act.put, List.setIfInBounds_toArray, List.set_cons_zero, List.set_cons_succ]
      refine wpQuiet_value (by rfl) (.int .i64 pc) (fun _ => rfl) ?_
      simp only [Act.put, List.setIfInBounds_toArray, List.set_cons_zero, List.set_cons_succ]
      refine wpQuiet_call (by rfl) (.int .i64 (inn len pc)) 27 #[.slice A len cap, .int .i64 pc] (fun _ => by kernel_rfl) (fun w' hw' => (HIN.out w').mono fun e w'' h => ⟨h.1, by rw [← h.2]; exact hw'⟩) ?_
      simp only [Act.put, List.setIfInBounds_toArray, List.set_cons_zero, List.set_cons_succ]
      refine wpQuiet_value (by rfl) (.agg (effCells (eff0 r (inn len pc) 4)).toArray) (fun _ => by kernel_rfl) ?_
      simp only [Act.put, List.setIfInBounds_toArray, List.set_cons_zero, List.set_cons_succ]
      refine wpQuiet_nil ?_
      try simp only [Act.put, List.setIfInBounds_toArray, List.set_cons_zero, List.set_cons_succ]
      intro _ hw'
      obtain ⟨nq, hw''⟩ := hw'
      subst hw''
      go_wp2_with ((with_reducible refine at_op (o := ⟨none, .store 30 (.tmp 10) (.tmp 23), _, _, _, _⟩) ?_); refine wpList_store_agg (o := ⟨none, .store 30 (.tmp 10) (.tmp 23), _, _, _, _⟩) rfl 30 (.tmp 10) (.tmp 23) rfl (w.heap.size + 1) rfl 30 (effCells zeroEff) (effCells (eff0 r (inn len pc) 4)) rfl (HZ.out.drewN _) (sizeE _) (lenE _ _) (eff_one _) ?_; intro w6 hr6 hc6; have HR6 := Lib.hid hr6; have HC6 := Lib.hid hc6; clear hr6 hc6)
      refine bodyPost_ret (v := .agg (effCells (eff0 r (inn len pc) 4)).toArray) (results_row rfl _ _ (w.heap.size + 1) 30 _ _ rfl HR6.out Tryd.underlying30 rfl (sizeE _)) rfl ⟨rfl, ?_⟩
      exact ch_newg (HC0.out.drewN _) HC6.out (by omega)
  by_cases h : pc < 0
  · exact key (.inl (by simpa using h))
  · exact key (.inr ⟨by simpa using h, by simp; omega⟩)
set_option maxRecDepth 100000 in
set_option maxHeartbeats 4000000 in
theorem rstep_in (A : Option Addr) (cs : List Ins) (cap : Nat) (hl : cs.length ≤ 9223372036854775807) (M : Option Addr) (xs : List Int) (mcap : Nat) (hm : xs.length ≤ 9223372036854775807) (fixed : Int) (r : Nat → Int) (hin : ∀ i, i < 16 → In64 (r i)) (k : Nat) (x : Ins) (hx : cs[k]? = some x) (hxo : x.ok) (w : World)
    (hcode : Cl w A (codeCells cs)) (hM : Cl w M (ints xs)) :
    Calls Tryd.prog 13 #[.slice A cs.length cap, .slice M xs.length mcap, .int .i64 fixed, .agg (regCells r).toArray, .int .i64 (k : Int)] w fun e w' => e = .returned (.agg (effCells (insF x cs.length xs fixed r k)).toArray) ∧ Ch No w w' := by
  have hk : k < cs.length := (List.getElem?_eq_some_iff.1 hx).1
  obtain ⟨ad, rfl, hcx⟩ := code_at hcode hx
  have HXX : Hid (∀ W, Ch No w W → W.cell? (ad.add (k * 5)) = some (.int .u8 x.op) ∧ W.cell? ⟨(ad.add (k * 5)).block, (ad.add (k * 5)).off + 1, none⟩ = some (.int .u8 x.a) ∧ W.cell? ⟨(ad.add (k * 5)).block, (ad.add (k * 5)).off + 2, none⟩ = some (.int .u8 x.b) ∧ W.cell? ⟨(ad.add (k * 5)).block, (ad.add (k * 5)).off + 3, none⟩ = some (.int .u8 x.c) ∧ W.cell? ⟨(ad.add (k * 5)).block, (ad.add (k * 5)).off + 4, none⟩ = some (.int .i32 x.n)) := by
    show ∀ W, _
    intro W hW
    have h := hcx W hW
    have h0 := h 0 (by omega)
    have h1 := h 1 (by omega)
    have h2 := h 2 (by omega)
    have h3 := h 3 (by omega)
    have h4 := h 4 (by omega)
    rw [add_zero] at h0
    rw [addr_add] at h1 h2 h3 h4
    exact ⟨h0, h1, h2, h3, h4⟩
  have HLEG := Lib.hid (fun W => legal28 x W)
  have HDONE : Hid (x.legal = true → ∀ W, Ch No w W → Calls Tryd.prog 30 #[.slice (some ad) cs.length cap, .agg #[.int .u8 x.op, .int .u8 x.a, .int .u8 x.b, .int .u8 x.c, .int .i32 x.n], .slice M xs.length mcap, .int .i64 fixed, .agg (regCells r).toArray, .int .i64 (k : Int)] W fun e w' => e = .returned (.agg (effCells (doF x.op x.a x.b x.c x.n cs.length xs (fix fixed xs.length) (eff0 r ((k : Int) + 1) 0))).toArray) ∧ Ch No W w') :=
    fun hleg W hW => done_calls (some ad) cs.length cap hl M xs mcap hm fixed x hxo hleg r hin k (by omega) (by omega) W (hM.keepNo hW)
  have HRR : Hid (Row ((w.alloc (.cells (regCells r).toArray 24)).alloc (.cells (effCells zeroEff).toArray 30)) w.heap.size 24 (regCells r)) := (Row.new w 24 (regCells r)).alloc _
  have HZ : Hid (Row ((w.alloc (.cells (regCells r).toArray 24)).alloc (.cells (effCells zeroEff).toArray 30)) (w.heap.size + 1) 30 (effCells zeroEff)) := Row.new_at _ 30 (effCells zeroEff) (by simp)
  have HC0 : Hid (Ch No w ((w.alloc (.cells (regCells r).toArray 24)).alloc (.cells (effCells zeroEff).toArray 30))) := ((Ch.refl No w).alloc _).alloc _
  have d1 : decide ((k : Int) < 0) = false := by simp
  have d2 : decide ((cs.length : Int) ≤ (k : Int)) = false := by simp; omega
  have k1 : (k : Int) < (cs.length : Int) := by omega
  have k2 : (0 : Int) ≤ (k : Int) := by omega
  have HK := Lib.hid hk
  clear hcx hcode hM hin hx
  generalize hb : ad.add (k * 5) = b at *
  go_enter Tryd.func13, Tryd.ntmps13
  go_upto_region 1 with (fail)
  change Code.wp _ _ _ _ (World.alloc (World.alloc w (.cells (regCells r).toArray 24)) (.cells (effCells zeroEff).toArray 30))
  generalize World.alloc (World.alloc w (.cells (regCells r).toArray 24)) (.cells (effCells zeroEff).toArray 30) = w1 at *
  obtain ⟨i0, i1, i2, i3, i4⟩ := HXX.out w1 HC0.out
  have HL28 : Hid (∀ W, Calls Tryd.prog 28 #[.agg #[.int .u8 x.op, .int .u8 x.a, .int .u8 x.b, .int .u8 x.c, .int .i32 x.n]] W fun e w' => e = .returned (.bool x.legal) ∧ Ch No W w') := fun W => legal28 x W
  cases hleg : x.legal with
  | false =>
    have e : insF x cs.length xs fixed r k = eff0 r ((k : Int) + 1) 1 := by unfold insF; rw [hleg]; rfl
    have HEE := Lib.hid e
    rw [hleg] at HL28
    clear e hleg HDONE
    go_wp2_with (first | (go_at_call 28; refine (HL28.out _).mono ?_; rintro e w2 ⟨rfl, hc2⟩; have HR2 := Lib.hid (HRR.out.keepNo hc2); have HZ2 := Lib.hid (HZ.out.keepNo hc2); have HC2 := Lib.hid (HC0.out.then_ hc2); clear hc2) | ((with_reducible refine at_op (o := ⟨some 30, _, _, _, _, _⟩) ?_); refine pl_load (o := ⟨some 30, _, _, _, _, _⟩) rfl 24 _ rfl w.heap.size rfl 24 (regCells r) HR2.out _ Tryd.underlying24 rfl (sizeR _) ?_) | (go_at_call 29; refine (fault_29 r k 1 (Int.le_trans (Int.neg_nonpos_of_nonneg (Int.natCast_nonneg _)) k2) (Int.lt_of_lt_of_le k1 (Int.ofNat_le.2 hl)) _).mono ?_; rintro e w5 ⟨rfl, hc5⟩; have HZ5 := Lib.hid (HZ2.out.keepNo hc5); have HC5 := Lib.hid (HC2.out.then_ hc5); clear hc5) | ((with_reducible refine at_op (o := ⟨none, .store 30 (.tmp 10) (.tmp 32), _, _, _, _⟩) ?_); refine pl_store (o := ⟨none, .store 30 (.tmp 10) (.tmp 32), _, _, _, _⟩) rfl 30 (.tmp 10) (.tmp 32) rfl (w.heap.size + 1) rfl 30 (effCells zeroEff) (effCells (eff0 r ((k : Int) + 1) 1)) rfl HZ5.out (sizeE _) (lenE _ _) (eff_one _) ?_; intro w6 hr6 hc6; have HR6 := Lib.hid hr6; have HC6 := Lib.hid hc6; clear hr6 hc6))
    refine bodyPost_ret (v := .agg (effCells (eff0 r ((k : Int) + 1) 1)).toArray) (results_row rfl _ _ (w.heap.size + 1) 30 _ _ rfl HR6.out Tryd.underlying30 rfl (sizeE _)) rfl ⟨by rw [HEE.out], ?_⟩
    exact ch_newg HC5.out HC6.out (by omega)
  | true =>
    have e : insF x cs.length xs fixed r k = doF x.op x.a x.b x.c x.n cs.length xs (fix fixed xs.length) (eff0 r ((k : Int) + 1) 0) := by unfold insF; rw [hleg]; rfl
    rw [hleg] at HL28
    have HD := Lib.hid (HDONE.out hleg)
    generalize doF x.op x.a x.b x.c x.n cs.length xs (fix fixed xs.length) (eff0 r ((k : Int) + 1) 0) = E at *
    have HEE := Lib.hid e
    clear e hleg HDONE
    go_upto_region 5 with (go_at_call 28; refine (HL28.out _).mono ?_; rintro e w2 ⟨rfl, hc2⟩; have HR2 := Lib.hid (HRR.out.keepNo hc2); have HZ2 := Lib.hid (HZ.out.keepNo hc2); have HC2 := Lib.hid (HC0.out.then_ hc2); clear hc2)
    clear i0 i1 i2 i3 i4
    obtain ⟨i0, i1, i2, i3, i4⟩ := HXX.out w2 HC2.out
    refine wp_region_qt 9 (by kernel_rfl) (by kernel_rfl) ?_
    simp only [List.take_succ_cons, List.take_zero, List.drop_succ_cons, List.drop_zero]
    iterate 7 (quiet_step (fail))
    refine wpQuiet_read (by rfl) (.agg (regCells r).toArray) (fun w' hw' => by
        obtain ⟨j, rfl⟩ := hw'
        exact exec_load_agg 24 (.tmp 8) rfl w.heap.size rfl 24 _ (HR2.out.drewN j) _ Tryd.underlying24 rfl (sizeR _)) ?_
    simp only [Act.put, List.setIfInBounds_toArray, List.set_cons_zero, List.set_cons_succ]
    quiet_step (fail)
    refine wpQuiet_nil ?_
    intro _ hw'
    obtain ⟨nq, hw''⟩ := hw'
    subst hw''
    go_wp2_with (first | (go_at_call 30; refine (HD.out _ (HC2.out.drewN _)).mono ?_; rintro e w5 ⟨rfl, hc5⟩; have HZ5 := Lib.hid ((HZ2.out.drewN _).keepNo hc5); have HC5 := Lib.hid ((HC2.out.drewN _).then_ hc5); clear hc5) | ((with_reducible refine at_op (o := ⟨none, .store 30 (.tmp 10) (.tmp 42), _, _, _, _⟩) ?_); refine wpList_store_agg (o := ⟨none, .store 30 (.tmp 10) (.tmp 42), _, _, _, _⟩) rfl 30 (.tmp 10) (.tmp 42) rfl (w.heap.size + 1) rfl 30 (effCells zeroEff) (effCells E) rfl HZ5.out (sizeE _) (lenE _ _) (eff_one _) ?_; intro w6 hr6 hc6; have HR6 := Lib.hid hr6; have HC6 := Lib.hid hc6; clear hr6 hc6))
    refine bodyPost_ret (v := .agg (effCells E).toArray) (results_row rfl _ _ (w.heap.size + 1) 30 _ _ rfl HR6.out Tryd.underlying30 rfl (sizeE _)) rfl ⟨by rw [HEE.out], ?_⟩
    exact ch_newg HC5.out HC6.out (by omega)
theorem rstep_calls (A : Option Addr) (cs : List Ins) (cap : Nat) (hl : cs.length ≤ 9223372036854775807) (hcs : ∀ x ∈ cs, x.ok) (M : Option Addr) (xs : List Int) (mcap : Nat) (hm : xs.length ≤ 9223372036854775807) (fixed : Int) (r : Nat → Int) (hin : ∀ i, i < 16 → In64 (r i)) (pc : Int) (w : World)
    (hcode : Cl w A (codeCells cs)) (hM : Cl w M (ints xs)) :
    Calls Tryd.prog 13 #[.slice A cs.length cap, .slice M xs.length mcap, .int .i64 fixed, .agg (regCells r).toArray, .int .i64 pc] w fun e w' => e = .returned (.agg (effCells (stepF cs xs fixed r pc)).toArray) ∧ Ch No w w' := by
  by_cases h0 : pc < 0
  · have e : stepF cs xs fixed r pc = eff0 r (inn cs.length pc) 4 := by unfold stepF; rw [if_pos h0]
    rw [e]
    exact rstep_out A cs.length cap hl M xs.length mcap fixed r pc (.inl h0) w
  · obtain ⟨k, rfl⟩ := Int.eq_ofNat_of_zero_le (show 0 ≤ pc by omega)
    rcases Nat.lt_or_ge k cs.length with hk | hk
    · have hx : cs[k]? = some cs[k] := List.getElem?_eq_getElem hk
      have e : stepF cs xs fixed r (k : Int) = insF cs[k] cs.length xs fixed r k := by
        unfold stepF
        rw [if_neg h0]
        simp only [Int.ofNat_eq_natCast, Int.toNat_natCast, hx]
      show Calls Tryd.prog 13 #[.slice A cs.length cap, .slice M xs.length mcap, .int .i64 fixed, .agg (regCells r).toArray, .int .i64 (k : Int)] w _
      rw [e]
      exact rstep_in A cs cap hl M xs mcap hm fixed r hin k cs[k] hx (hcs _ (List.getElem_mem hk)) w hcode hM
    · have e : stepF cs xs fixed r (k : Int) = eff0 r (inn cs.length (k : Int)) 4 := by
        unfold stepF
        rw [if_neg h0, List.getElem?_eq_none (by simpa using hk)]
      rw [e]
      exact rstep_out A cs.length cap hl M xs.length mcap fixed r (k : Int) (.inr (by omega)) w
end Go.Proofs.YtellmlffkgfeiaaDoor
