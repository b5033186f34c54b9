/- the line's methods: place, Len, First, Priority, Remove. -/
import Derived.Test.YtbcnkggecgblbaaA5
import Derived.Laws.EntriesVeiled
set_option linter.unusedVariables false
set_option linter.unusedSimpArgs false
namespace Go.Proofs.Ytbcnkggecgblbaa
open Go.RowKit
theorem nodup_le : ∀ (n : Nat) (L : List Int), L.Nodup → (∀ x ∈ L, 1 ≤ x ∧ x ≤ (n : Int)) → L.length ≤ n
  | 0, L, _, h => by
    cases L with
    | nil => simp
    | cons x L => have := h x (by simp); omega
  | n + 1, L, hd, h => by
    have ih := nodup_le n (L.erase ((n + 1 : Nat) : Int)) (hd.erase _) (fun x hx => by
      have h1 := h x (List.mem_of_mem_erase hx)
      have h2 : x ≠ ((n + 1 : Nat) : Int) := fun e => by
        subst e
        exact (List.Nodup.not_mem_erase hd) hx
      omega)
    have := List.length_erase (a := ((n + 1 : Nat) : Int)) (l := L)
    split at this <;> omega
/-- a line: its block, what it holds -/
structure Ln (base p : Nat) (N : Int) (v : Value) (L : List (Int × Int)) (w : World) : Prop where
  row : Row w p 45 [v, .int .i64 N]
  own : w.ownsRow base 62 2 v L.length (prs L)
  pb : base ≤ p
  hb : base ≤ w.heap.size
  nd : (L.map (·.1)).Nodup
  rg : ∀ x ∈ L, 1 ≤ x.1 ∧ x.1 ≤ N
  hN : 0 ≤ N ∧ N ≤ 65535
theorem Ln.small {base p : Nat} {N : Int} {v : Value} {L : List (Int × Int)} {w : World} (h : Ln base p N v L w) : L.length ≤ 65535 := by
  have := nodup_le N.toNat (L.map (·.1)) h.nd (fun x hx => by
    obtain ⟨y, hy, rfl⟩ := List.mem_map.1 hx
    have := h.rg y hy
    omega)
  have := h.hN
  rw [List.length_map] at *
  omega
/-- what a call on a line may change -/
structure Chl (b : Nat) (w w' : World) : Prop where
  ch : Ch (fun k => b ≤ k) w w'
  row : ∀ g t L, Row w g t L → t ≠ 62 → t ≠ 45 → Row w' g t L
theorem Chl.refl (b : Nat) (w : World) : Chl b w w := ⟨Ch.refl _ _, fun _ _ _ h _ _ => h⟩
theorem Chl.trans {b : Nat} {w w1 w2 : World} (h : Chl b w w1) (k : Chl b w1 w2) : Chl b w w2 := ⟨h.ch.trans k.ch (fun _ _ hd => hd), fun g t L hr a c => k.row g t L (h.row g t L hr a c) a c⟩
theorem Chl.of_no {b : Nat} {w w' : World} (h : Ch No w w') : Chl b w w' := ⟨h.mono (fun _ _ hd => hd.elim), fun g t L hr _ _ => hr.keepNo h⟩
theorem Chl.then_ {b : Nat} {w w1 w2 : World} (h : Chl b w w1) (k : Ch No w1 w2) : Chl b w w2 := h.trans (Chl.of_no k)
theorem Ln.keepNo {base p : Nat} {N : Int} {v : Value} {L : List (Int × Int)} {w w' : World} (h : Ln base p N v L w) (hc : Ch No w w') : Ln base p N v L w' := ⟨h.row.keepNo hc, owns_keepNo h.own hc, h.pb, Nat.le_trans h.hb hc.size, h.nd, h.rg, h.hN⟩
theorem Ln.no {base p : Nat} {N : Int} {v : Value} {L : List (Int × Int)} {w : World} (h : Ln base p N v L w) : ¬ v.ownBlock = some p := own_ne_row h.own h.row (by decide)
/-- a call that changed the line's own block (of numbers) or that of its elements alone -/
theorem Chl.of_two {base p : Nat} {N : Int} {v : Value} {L : List (Int × Int)} {w w' : World} (h : Ln base p N v L w) (hc : Ch (fun k => k = p ∨ Own v k) w w') : Chl base w w' :=
  ⟨hc.mono (fun k _ hk => by
    rcases hk with rfl | hk
    · exact h.pb
    · exact own_base_ h.own k hk), fun g t M hr h62 h45 => hr.keep hc (fun hk => by
    rcases hk with rfl | hk
    · exact h45 (hr.eq_ h.row).1
    · exact own_ne_row h.own hr h62 hk)⟩
theorem prs_nil {L : List (Int × Int)} (h : L.length = 0) : L = [] := List.eq_nil_of_length_eq_zero h
/-- the elements' cells, or none -/
theorem Ln.cases {base p : Nat} {N : Int} {v : Value} {L : List (Int × Int)} {w : World} (h : Ln base p N v L w) :
    (v = .slice none 0 0 ∧ L = []) ∨ ∃ g cap rest, v = .slice (some ⟨g, 0, none⟩) L.length cap ∧ base ≤ g ∧ Row w g 62 (prs L ++ rest) ∧ L.length ≤ cap ∧ cap ≤ maxLen ∧ L.length * 2 + rest.length = cap * 2 := by
  rcases owns_open_sz h.own with ⟨hv, h0⟩ | ⟨g, cap, rest, hv, hb, hr, hn, hm, hl⟩
  · exact .inl ⟨hv, prs_nil h0⟩
  · exact .inr ⟨g, cap, rest, hv, hb, hr, hn, hm, by rw [← hl, prs_length]⟩
theorem index_nil_35 (c : Value) (w : World) : Calls Try.prog 27 #[.slice none 0 0, .func (.func 35) #[] #[c]] w fun e w' => e = .returned (.int .i64 (-1)) ∧ Ch No w w' := by
  go_enter Try.func27, Try.ntmps27
  go_wp2_with (fail)
  go_loopw [8] (fun i wr => i = .int .i64 0 ∧ Hid (Ch No w wr)) (fun i _ => 0)
  case atStart => exact ⟨rfl, Ch.refl _ _⟩
  case round =>
    obtain ⟨rfl, HC⟩ := hrel
    go_wp2_with (fail)
    go_ret
    exact ⟨rfl, HC.out⟩
theorem index_nil_28 (c : Value) (w : World) : Calls Try.prog 27 #[.slice none 0 0, .func (.func 28) #[] #[c]] w fun e w' => e = .returned (.int .i64 (-1)) ∧ Ch No w w' := by
  go_enter Try.func27, Try.ntmps27
  go_wp2_with (fail)
  go_loopw [8] (fun i wr => i = .int .i64 0 ∧ Hid (Ch No w wr)) (fun i _ => 0)
  case atStart => exact ⟨rfl, Ch.refl _ _⟩
  case round =>
    obtain ⟨rfl, HC⟩ := hrel
    go_wp2_with (fail)
    go_ret
    exact ⟨rfl, HC.out⟩
/-- the number's place -/
def plc (id : Int) (L : List (Int × Int)) : Int := idx (fun x => x.1 == id) L
/-- the first of a lower priority -/
def low (pri : Int) (L : List (Int × Int)) : Int := idx (fun x => decide (x.2 < pri)) L
theorem index_35 {base p : Nat} {N : Int} {v : Value} {L : List (Int × Int)} {w : World} (h : Ln base p N v L w) (c : Nat) (id : Int) (hc : w.cell? ⟨c, 0, none⟩ = some (.int .i64 id)) :
    Calls Try.prog 27 #[v, .func (.func 35) #[] #[.pointer (some ⟨c, 0, none⟩)]] w fun e w' => e = .returned (.int .i64 (plc id L)) ∧ Ch No w w' := by
  rcases h.cases with ⟨rfl, rfl⟩ | ⟨g, cap, rest, rfl, hb, hr, hn, hm, hl⟩
  · exact index_nil_35 _ w
  · exact indexfunc_35 c (fun x => x.1 == id) L g 0 L.length cap w rfl (by have := h.small; omega) (row_range hr 0 _ (fun j v hj => by rw [Nat.zero_add, List.getElem?_append_left (List.getElem?_eq_some_iff.1 hj).1]; exact hj)) (fun w' x hch => isid_calls x.1 x.2 id c w' (hch.cell (not_no _) hc))
theorem index_28 {base p : Nat} {N : Int} {v : Value} {L : List (Int × Int)} {w : World} (h : Ln base p N v L w) (c : Nat) (pri : Int) (hc : w.cell? ⟨c, 0, none⟩ = some (.int .i64 pri)) :
    Calls Try.prog 27 #[v, .func (.func 28) #[] #[.pointer (some ⟨c, 0, none⟩)]] w fun e w' => e = .returned (.int .i64 (low pri L)) ∧ Ch No w w' := by
  rcases h.cases with ⟨rfl, rfl⟩ | ⟨g, cap, rest, rfl, hb, hr, hn, hm, hl⟩
  · exact index_nil_28 _ w
  · exact indexfunc_28 c (fun x => decide (x.2 < pri)) L g 0 L.length cap w rfl (by have := h.small; omega) (row_range hr 0 _ (fun j v hj => by rw [Nat.zero_add, List.getElem?_append_left (List.getElem?_eq_some_iff.1 hj).1]; exact hj)) (fun w' x hch => islow_calls x.1 x.2 pri c w' (hch.cell (not_no _) hc))
theorem place_calls {base p : Nat} {N : Int} {v : Value} {L : List (Int × Int)} {w : World} (h : Ln base p N v L w) (id : Int) :
    Calls Try.prog 30 #[.pointer (some ⟨p, 0, none⟩), .int .i64 id] w fun e w' => e = .returned (.int .i64 (plc id L)) ∧ Ch No w w' := by
  have hmf : ∀ (fn : Fn) (first cap : Array Value) (w : World), (Instr.makeFunc fn first cap).run Try.prog w = .ok (.func fn first cap) w := fun _ _ _ _ => rfl
  have HL := Lib.hid h
  have hp := h.row.lt
  have hc0 : w.cell? ⟨p, 0, none⟩ = some v := by rw [h.row.cell]; rfl
  clear h
  have HN : Hid (Row _ w.heap.size 3 [.int .i64 id]) := Row.new w 3 [.int .i64 id]
  have HC : Hid (Ch No w (w.alloc (.cells [Value.int .i64 id].toArray 3))) := (Ch.refl _ _).alloc _
  go_enter Try.func30, Try.ntmps30
  go_wp2_with (fail)
  generalize w.alloc (.cells #[Value.int .i64 id] 3) = w1 at *
  refine (index_35 (HL.out.keepNo HC.out) w.heap.size id (by rw [HN.out.cell]; rfl)).mono ?_
  rintro e w2 ⟨rfl, hc2⟩
  have HC2 := Lib.hid (HC.out.then_ hc2)
  clear hc2
  go_wp2_with (fail)
  go_ret
  exact ⟨rfl, HC2.out⟩
/-- what First answers -/
def fst (L : List (Int × Int)) : Int × Bool := match L with | [] => (0, false) | x :: _ => (x.1, true)
/-- what Priority answers -/
def prio (id : Int) (L : List (Int × Int)) : Int × Bool := match L.findIdx? (fun x => x.1 == id) with | none => (0, false) | some i => (((L[i]?).map (·.2)).getD 0, true)
/-- what Remove leaves -/
def rem (id : Int) (L : List (Int × Int)) : List (Int × Int) := match L.findIdx? (fun x => x.1 == id) with | none => L | some i => L.eraseIdx i
def has (id : Int) (L : List (Int × Int)) : Bool := (L.findIdx? (fun x => x.1 == id)).isSome
theorem len_calls {base p : Nat} {N : Int} {v : Value} {L : List (Int × Int)} {w : World} (h : Ln base p N v L w) :
    Calls Try.prog 26 #[.pointer (some ⟨p, 0, none⟩)] w fun e w' => e = .returned (.int .i64 (L.length : Int)) ∧ w' = w := by
  have hp := h.row.lt
  have hc0 : w.cell? ⟨p, 0, none⟩ = some v := by rw [h.row.cell]; rfl
  rcases h.cases with ⟨rfl, rfl⟩ | ⟨g, cap, rest, rfl, hb, hr, hn, hm, hl⟩
  · clear h
    go_enter Try.func26, Try.ntmps26
    go_wp2_with (fail)
    go_ret
    exact ⟨rfl, rfl⟩
  · clear h hr
    go_enter Try.func26, Try.ntmps26
    go_wp2_with (fail)
    go_ret
    exact ⟨rfl, rfl⟩
theorem first_calls {base p : Nat} {N : Int} {v : Value} {L : List (Int × Int)} {w : World} (h : Ln base p N v L w) :
    Calls Try.prog 13 #[.pointer (some ⟨p, 0, none⟩)] w fun e w' => e = .returned (.tuple #[.int .i64 (fst L).1, .bool (fst L).2]) ∧ w' = w := by
  have hp := h.row.lt
  have hc0 : w.cell? ⟨p, 0, none⟩ = some v := by rw [h.row.cell]; rfl
  rcases h.cases with ⟨rfl, rfl⟩ | ⟨g, cap, rest, rfl, hb, hr, hn, hm, hl⟩
  · clear h
    go_enter Try.func13, Try.ntmps13
    go_wp2_with (fail)
    exact bodyPost_ret (v := .tuple #[.int .i64 0, .bool false]) (by kernel_rfl) rfl ⟨rfl, rfl⟩
  · clear h
    cases L with
    | nil =>
      clear hr
      go_enter Try.func13, Try.ntmps13
      go_wp2_with (fail)
      exact bodyPost_ret (v := .tuple #[.int .i64 0, .bool false]) (by kernel_rfl) rfl ⟨rfl, rfl⟩
    | cons x L =>
      have hz : (((x :: L).length : Int) == 0) = false := by simp; omega
      have hx : w.cell? ⟨g, 0, none⟩ = some (.int .i64 x.1) := by rw [hr.cell]; rfl
      have h0 : (0 : Int) < ((x :: L).length : Int) := by simp
      generalize hN : (x :: L).length = n at *
      have HN := Lib.hid hN
      clear hN hr
      go_enter Try.func13, Try.ntmps13
      go_wp2_with (fail)
      exact bodyPost_ret (v := .tuple #[.int .i64 x.1, .bool true]) (by kernel_rfl) rfl ⟨rfl, rfl⟩
theorem find_some {L : List (Int × Int)} {i : Nat} {D : Int × Int → Bool} (h : L.findIdx? D = some i) : ∃ x, L[i]? = some x ∧ D x = true ∧ i < L.length := by
  obtain ⟨hi, hd, _⟩ := List.findIdx?_eq_some_iff_getElem.1 h
  exact ⟨_, List.getElem?_eq_getElem hi, hd, hi⟩
theorem priority_calls {base p : Nat} {N : Int} {v : Value} {L : List (Int × Int)} {w : World} (h : Ln base p N v L w) (id : Int) :
    Calls Try.prog 17 #[.pointer (some ⟨p, 0, none⟩), .int .i64 id] w fun e w' => e = .returned (.tuple #[.int .i64 (prio id L).1, .bool (prio id L).2]) ∧ Ch No w w' := by
  have hpl := place_calls h id
  have hsm := h.small
  have hp := h.row.lt
  have hrow := h.row
  have hcs := h.cases
  clear h
  unfold plc idx at hpl
  unfold prio
  cases hf : L.findIdx? (fun x => x.1 == id) with
  | none =>
    rw [hf] at hpl
    dsimp only at hpl
    have HPL := Lib.hid hpl
    clear hpl hcs hrow
    go_enter Try.func17, Try.ntmps17
    go_wp2_with (fail)
    refine HPL.out.mono ?_
    rintro e w2 ⟨rfl, hc2⟩
    have HC2 := Lib.hid hc2
    clear hc2
    go_wp2_with (fail)
    exact bodyPost_ret (v := .tuple #[.int .i64 0, .bool false]) (by kernel_rfl) rfl ⟨rfl, HC2.out⟩
  | some i =>
    rw [hf] at hpl
    dsimp only at hpl ⊢
    obtain ⟨x, hx, hid, hi⟩ := find_some hf
    have HPL := Lib.hid hpl
    rcases hcs with ⟨rfl, rfl⟩ | ⟨g, cap, rest, rfl, hb, hr, hn, hm, hl⟩
    · exact absurd hi (by simp)
    have hcell : (prs L ++ rest)[i * 2 + 1]? = some (.int .i64 x.2) := by
      rw [List.getElem?_append_left (by rw [prs_length]; omega), prs_get L i x hx 1 (by omega)]
      rfl
    have HR := Lib.hid hr
    have HRW := Lib.hid hrow
    have HCE := Lib.hid hcell
    have hn63 : L.length ≤ 65535 := hsm
    generalize L.length = n at *
    clear hpl hr hrow hcell hf hid hsm
    have hlt : (i : Int) < (n : Int) := by omega
    have hge : decide ((i : Int) < 0) = false := by simp
    rw [hx]
    go_enter Try.func17, Try.ntmps17
    go_wp2_with (fail)
    refine HPL.out.mono ?_
    rintro e w2 ⟨rfl, hc2⟩
    have HC2 := Lib.hid hc2
    have hc0 : w2.cell? ⟨p, 0, none⟩ = some (.slice (some ⟨g, 0, none⟩) n cap) := by rw [(HRW.out.keepNo hc2).cell]; rfl
    have hc1 : w2.cell? ⟨g, i * 2 + 1, none⟩ = some (.int .i64 x.2) := by rw [(HR.out.keepNo hc2).cell]; exact HCE.out
    clear hc2
    go_wp2_with (fail)
    exact bodyPost_ret (v := .tuple #[.int .i64 x.2, .bool true]) (by kernel_rfl) rfl ⟨rfl, HC2.out⟩
theorem rem_length (id : Int) (L : List (Int × Int)) : (rem id L).length ≤ L.length := by
  unfold rem
  split
  · exact Nat.le_refl _
  · rw [List.length_eraseIdx]; split <;> omega
theorem rem_sub (id : Int) (L : List (Int × Int)) : (rem id L).Sublist L := by
  unfold rem
  split
  · exact List.Sublist.refl _
  · exact List.eraseIdx_sublist _ _
theorem remove_calls {base p : Nat} {N : Int} {v : Value} {L : List (Int × Int)} {w : World} (h : Ln base p N v L w) (id : Int) :
    Calls Try.prog 12 #[.pointer (some ⟨p, 0, none⟩), .int .i64 id] w fun e w' => e = .returned (.bool (has id L)) ∧ (∃ v', Ln base p N v' (rem id L) w') ∧ Chl base w w' := by
  have hpl := place_calls h id
  have HL := Lib.hid h
  have hsm := h.small
  have hp := h.row.lt
  have hcs := h.cases
  clear h
  unfold plc idx at hpl
  have hsub := Lib.hid (rem_sub id L)
  unfold has
  unfold rem at hsub ⊢
  cases hf : L.findIdx? (fun x => x.1 == id) with
  | none =>
    rw [hf] at hpl
    dsimp only at hpl
    have HPL := Lib.hid hpl
    clear hpl hcs
    go_enter Try.func12, Try.ntmps12
    go_wp2_with (fail)
    refine HPL.out.mono ?_
    rintro e w2 ⟨rfl, hc2⟩
    have HC2 := Lib.hid hc2
    clear hc2
    go_wp2_with (fail)
    go_ret
    exact ⟨rfl, ⟨v, HL.out.keepNo HC2.out⟩, Chl.of_no HC2.out⟩
  | some i =>
    rw [hf] at hpl hsub
    dsimp only at hpl hsub ⊢
    obtain ⟨x, hx, hid, hi⟩ := find_some hf
    have HPL := Lib.hid hpl
    rcases hcs with ⟨rfl, rfl⟩ | ⟨g, cap, rest, rfl, hb, hr, hn, hm, hl⟩
    · exact absurd hi (by simp)
    obtain ⟨m, hm1⟩ : ∃ m, L.length = m + 1 := ⟨L.length - 1, by omega⟩
    have HR := Lib.hid hr
    have HM := Lib.hid hm1
    rw [hm1] at hi hsm hn hl HL
    have hdel := fun w' (hc : Ch No w w') => delete_calls L rest g m cap i w' HM.out.symm (by omega) (by omega) hn hm (HR.out.keepNo hc)
    have hel : Hid ((L.eraseIdx i).length = m) := by show _ = _; rw [List.length_eraseIdx, HM.out, if_pos hi]; rfl
    have HDEL := Lib.hid hdel
    clear hpl hr hf hid hm1 hx hdel
    have hge : decide ((i : Int) < 0) = false := by simp
    have hiw : (i : Int) + 1 ≤ 9223372036854775807 := by omega
    go_enter Try.func12, Try.ntmps12
    go_wp2_with (fail)
    refine HPL.out.mono ?_
    rintro e w2 ⟨rfl, hc2⟩
    have HC2 := Lib.hid hc2
    have hp2 : p < w2.heap.size := (HL.out.row.keepNo hc2).lt
    have hc0 : w2.cell? ⟨p, 0, none⟩ = some (.slice (some ⟨g, 0, none⟩) (m + 1) cap) := by rw [(HL.out.row.keepNo hc2).cell]; rfl
    clear hc2
    go_wp2_with (fail)
    have hsh : ((i : Int) + 1) = ((i + 1 : Nat) : Int) := by omega
    rw [hsh]
    clear hsh
    refine (HDEL.out w2 HC2.out).mono ?_
    rintro e w3 ⟨rfl, hrow3, hch3⟩
    have hgp : p ≠ g := fun e => HL.out.no (by rw [e]; rfl)
    have HRP := Lib.hid ((HL.out.row.keepNo HC2.out).keepIs hch3 hgp)
    have HR3 := Lib.hid hrow3
    have HC3 : Hid (Ch (fun k => k = p ∨ Own (.slice (some ⟨g, 0, none⟩) (m + 1) cap) k) w w3) := (HC2.out.mono (fun _ _ h => h.elim)).trans hch3 (fun k _ hk => .inr (by rw [own_is]; exact hk))
    have hp3 : p < w3.heap.size := HRP.out.lt
    have hf3 : w3.frozen? ⟨p, 0, none⟩ = false := HRP.out.frozen _
    have hc3 : w3.cell? ⟨p, 0, none⟩ = some (.slice (some ⟨g, 0, none⟩) (m + 1) cap) := by rw [HRP.out.cell]; rfl
    clear hrow3 hch3 hc0
    go_wp2_with (fail)
    refine bodyPost_ret (v := .bool true) (by kernel_rfl) rfl ⟨rfl, ⟨.slice (some ⟨g, 0, none⟩) m cap, ?_⟩, ?_⟩
    · have hrp := HRP.out.set_ 0 (.slice (some ⟨g, 0, none⟩) m cap)
      have hrg := HR3.out.setOther (p := ⟨p, 0, none⟩) (fun e => hgp e.symm) (.slice (some ⟨g, 0, none⟩) m cap)
      refine ⟨hrp, ?_, HL.out.pb, ?_, ?_, fun x hx => HL.out.rg x (hsub.out.subset hx), HL.out.hN⟩
      · rw [hel.out]
        exact owns_mk2 hb hrg (by rw [prs_length, hel.out]) (by omega) hm (by rw [List.length_append]; simp only [List.length_cons, List.length_nil]; omega)
      · have := HC3.out.size
        have := HL.out.hb
        simp
        omega
      · exact HL.out.nd.sublist (hsub.out.map _)
    · exact Chl.of_two HL.out (HC3.out.setCell (fun _ => .inl rfl) _)
end Go.Proofs.Ytbcnkggecgblbaa
