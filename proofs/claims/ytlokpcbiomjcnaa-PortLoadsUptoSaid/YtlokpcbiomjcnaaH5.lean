/- lent, walked. -/
import Derived.Test.YtlokpcbiomjcnaaH4
import Derived.Laws.AppendOwnNone
set_option linter.unusedVariables false
set_option linter.unusedSimpArgs false
namespace Go.Proofs.Ytlokpcbiomjcnaa
open Go.RowKit
theorem wpList_append_opt {w : World} {ops : Array Oper} {rest : List Oper} {o : Oper} {a : Act} {Q : Exit → Act → World → Prop} (hgd : o.guard = none) (s x : Operand) (t : TypeId)
    (ho : o.op = .call { callee := .builtin .append, args := #[s, x], argTypes := #[t, t] })
    (base : Nat) (e : TypeId) (z : Value) (size bytes : Nat) (ht : Try.prog.underlying t = some (.slice e)) (hinfo : (Try.prog.info? e).map (fun i => (i.zero, i.size, i.bytes)) = some (some z, size, bytes)) (hz : z.cells.size = size) (hsz : 0 < size)
    (v : Value) (n : Nat) (xs : List Value) (hs : a.eval s = v) (A : Option Addr) (m c : Nat) (news : List Value) (hx : a.eval x = .slice A m c) (hA : A = none → m = 0 ∧ c = 0) (hown : w.ownsRow base e size v n xs)
    (hl : news.length = m * size) (hnews : Cl w A news) (h1 : ∀ u ∈ news, u.oneCell' = true)
    (hm : n + m ≤ 140737488355328) (hbytes : (n + m) * bytes ≤ 140737488355328) (hbase : base ≤ w.heap.size)
    (h : ∀ v' w', w'.ownsRow base e size v' (n + m) (xs ++ news) → w.grownBy w' v.ownBlock → wpList Try.prog ops Q rest (a.put o.dst v') w') : wpList Try.prog ops Q (o :: rest) a w := by
  cases A with
  | none =>
    obtain ⟨rfl, rfl⟩ := hA rfl
    obtain ⟨i0, hi, hzz⟩ := Option.map_eq_some_iff.1 hinfo
    have hn : news = [] := List.eq_nil_of_length_eq_zero (by omega)
    subst hn
    refine wpList_append_own_none hgd s x t ho base e i0 size ht hi v n xs hs hown hx (h v w ?_ ⟨rfl, rfl, rfl, Nat.le_refl _, fun _ _ _ => rfl⟩)
    rw [List.append_nil]
    exact hown
  | some ad => exact wpList_append_sz hgd s x t ho base e z size bytes ht hinfo hz hsz v n xs hs ad m c news hx hown hl hnews h1 hm hbytes hbase (fun v' w' h1 h2 _ => h v' w' h1 h2)
theorem pcells_one {qs : List Pt} : ∀ u ∈ pcells qs, u.oneCell' = true := fun u hu => by
  obtain ⟨p, _, hp⟩ := List.mem_flatMap.1 hu
  exact pt_one p u hp
theorem LtE.lent {w wr w' : World} {X R Y gP cP gQ cQ n : Nat} {vx : List Value} {uy : Value} {ds : Nat → Ds} {qs : List Pt} (h : LtE w wr X R Y vx gP cP uy (.slice (some ⟨gQ, 0, none⟩) (n + 1) cQ) (n + 1) (pcells qs ++ mark46) ds) (hn : qs.length = n) (hb : w.heap.size ≤ R) (hc : Ch (Is R) wr w') : Lent w.heap.size w' gP cP gQ cQ qs ds ∧ Ch No w w' := by
  obtain ⟨r, hp⟩ := h.parts
  rcases owns_open_sz h.own with ⟨hv, _⟩ | ⟨g, cap, rest, hv, hb2, hr, hnc, hcm, _⟩
  · cases hv
  · simp only [Value.slice.injEq, Option.some.injEq, Addr.mk.injEq, and_true] at hv
    obtain ⟨rfl, _, rfl⟩ := hv
    exact ⟨⟨⟨r, hp.keepIs hc (row_ne hp h.r (by decide))⟩, ⟨rest, hr.keepIs hc (row_ne hr h.r (by decide))⟩, h.pb, hb2, h.pc, ⟨by omega, hcm⟩, h.cs.keep hc (far_row h.r (by decide)) (far_row h.r (by decide))⟩, ch_newg h.ch hc hb⟩
theorem mark84_one : ∀ u ∈ mark84, u.oneCell' = true := by
  intro u hu
  simp [mark84] at hu
  rcases hu with rfl | rfl | rfl | rfl | rfl | rfl <;> rfl
theorem mark46_one : ∀ u ∈ mark46, u.oneCell' = true := by
  intro u hu
  simp [mark46] at hu
  rcases hu with rfl | rfl | rfl | rfl <;> rfl
set_option maxHeartbeats 8000000 in
set_option maxRecDepth 100000 in
theorem lent_calls {b : Nat} {w : World} {x : Value} {qs : List Pt} (h : Im b w x qs) (hl : qs.length ≤ 1000) :
    Calls Try.prog 29 #[x] w fun e w' => ∃ gP cP gQ cQ ds, e = .returned (.agg #[.slice (some ⟨gP, 0, none⟩) 3 cP, .slice (some ⟨gQ, 0, none⟩) qs.length cQ, .slice none 0 0]) ∧ Lent w.heap.size w' gP cP gQ cQ qs ds ∧ Ch No w w' := by
  obtain ⟨vp, v, cs, rfl, h1, h2, h3⟩ := h
  rcases owns_open_sz h2 with ⟨_, h0⟩ | ⟨gP, cP0, rP, rfl, hbP, hrP, hnP, hmP, _⟩
  · omega
  obtain ⟨A2, c2, rfl⟩ := own_slice_len h1
  have HA2 : Hid (A2 = none → qs.length = 0 ∧ c2 = 0) := fun e => by
    rcases owns_open_sz h1 with ⟨hv, h0⟩ | ⟨g, cap, rest, hv, _⟩
    · simp only [Value.slice.injEq] at hv
      exact ⟨h0, hv.2.2⟩
    · simp only [Value.slice.injEq] at hv
      rw [hv.1] at e
      cases e
  have HPQ := Lib.hid (own_cl h1 (pcells_len qs))
  have HRP := Lib.hid hrP
  have HCP := Lib.hid h3
  obtain ⟨n, hn⟩ : ∃ n, qs.length = n := ⟨_, rfl⟩
  rw [hn] at HA2 ⊢
  have HN := Lib.hid hn
  have HNL : Hid (n ≤ 1000) := by rw [← hn]; exact hl
  clear h1 h2 h3 hrP hn hl hbP hnP hmP
  go_enter Try.func29, Try.ntmps29
  go_upto_region 3 with (fail)
  obtain ⟨X, hX⟩ : ∃ X, w.heap.size = X := ⟨_, rfl⟩
  have HX1 : Hid (LtI w (((w.alloc (.cells #[.slice (some ⟨gP, 0, none⟩) 3 cP0, .slice A2 n c2, .slice none 0 0] 27)).alloc (.cells #[.slice none 0 0, .slice none 0 0, .slice none 0 0] 27)).alloc (.cells #[.slice none 0 0, .slice none 0 0, .slice none 0 0] 27)) X (X + 1) (X + 1 + 1) [.slice (some ⟨gP, 0, none⟩) 3 cP0, .slice A2 n c2, .slice none 0 0] (.slice none 0 0) (.slice none 0 0) 0 [] (fun _ => ⟨0, 0, 0, 0⟩) 0) := by
    subst hX
    refine ⟨((Row.new w 27 [.slice (some ⟨gP, 0, none⟩) 3 cP0, .slice A2 n c2, .slice none 0 0]).alloc _).alloc _, (Row.new_at (w.alloc (.cells #[.slice (some ⟨gP, 0, none⟩) 3 cP0, .slice A2 n c2, .slice none 0 0] 27)) 27 [.slice none 0 0, .slice none 0 0, .slice none 0 0] (by simp)).alloc _, Row.new_at ((w.alloc (.cells #[.slice (some ⟨gP, 0, none⟩) 3 cP0, .slice A2 n c2, .slice none 0 0] 27)).alloc (.cells #[.slice none 0 0, .slice none 0 0, .slice none 0 0] 27)) 27 [.slice none 0 0, .slice none 0 0, .slice none 0 0] (by simp), owns_nil _ _ _ _, fun i hi => absurd hi (Nat.not_lt_zero i), (((Ch.refl _ _).alloc _).alloc _).alloc _⟩
  have HBX : Hid (w.heap.size ≤ X ∧ w.heap.size ≤ X + 1 + 1 ∧ X ≠ X + 1 + 1 ∧ X + 1 ≠ X + 1 + 1 ∧ w.heap.size ≤ X + 1) := by
    subst hX
    exact ⟨Nat.le_refl _, by omega, by omega, by omega, by omega⟩
  generalize (((w.alloc (.cells #[.slice (some ⟨gP, 0, none⟩) 3 cP0, .slice A2 n c2, .slice none 0 0] 27)).alloc (.cells #[.slice none 0 0, .slice none 0 0, .slice none 0 0] 27)).alloc (.cells #[.slice none 0 0, .slice none 0 0, .slice none 0 0] 27)) = w3 at *
  try rw [hX]
  clear hX
  generalize hY : X + 1 + 1 = Y at *
  generalize hR : X + 1 = R at *
  clear hY hR
  go_loopw [4] (fun i wr => ∃ (k : Nat) (u : Value) (ds : Nat → Ds), k ≤ 3 ∧ i = .int .i64 k ∧ Hid (LtI w wr X R Y [.slice (some ⟨gP, 0, none⟩) 3 cP0, .slice A2 n c2, .slice none 0 0] u u k (lparts ds k) ds k)) (fun i _ => 3 - (intOf i).toNat)
  case atStart => exact ⟨0, _, _, Nat.zero_le _, rfl, HX1⟩
  case round =>
    clear HX1
    obtain ⟨k, u, ds, hk, rfl, HI⟩ := hrel
    obtain ⟨Au, cu, rfl⟩ := own_slice_len HI.out.own
    have x0 : wr.cell? ⟨X, 0, none⟩ = some (.slice (some ⟨gP, 0, none⟩) 3 cP0) := HI.out.x.cell 0
    by_cases hlt : k < 3
    · have e1 : decide ((k : Int) < 3) = true := by simp; omega
      have hrg := pparts_at (HRP.out.keepNo HI.out.ch) hlt
      obtain ⟨⟨hc1, hc2, -, -⟩⟩ : Nonempty (Row w (cs k).1 74 instr0 ∧ Row w (cs k).2 77 proc0 ∧ b ≤ (cs k).1 ∧ b ≤ (cs k).2) := ⟨HCP.out k hlt⟩
      generalize (cs k).1 = gc at *
      generalize (cs k).2 = gp at *
      obtain ⟨pc, hpc⟩ : ∃ pc : List Value, pc = [.int .i64 8, .int .i64 1, .int .i64 (k : Int), .int .i64 ((k : Int) + 1), .int .i64 0, .int .i64 0, .slice none 0 0, .slice (some ⟨gc, 0, none⟩) 1 1, .slice (some ⟨gp, 0, none⟩) 1 1, .int .i64 0, .int .i64 0, .int .i64 0, .int .i64 0, .int .i64 0, .int .i64 0, .int .i64 0, .int .i64 0, .int .i64 0, .slice none 0 0, .slice none 0 0, .slice none 0 0] := ⟨_, rfl⟩
      have HRG : Hid (wr.rangeAt gP (k * 21) pc) := by rw [hpc]; exact hrg
      have HGC : Hid (Row w gc 74 [.int .u8 0, .int .u8 0, .int .u8 0, .int .u8 0, .int .i32 0]) := hc1
      have HGP : Hid (Row w gp 77 [.int .i64 0, .int .i64 0, .int .i64 0, .int .i64 0, .int .i64 0, .bool false]) := hc2
      have HPL : Hid (some 21 = some pc.length) := by rw [hpc]; rfl
      have HPL2 : Hid (pc.length = ([.int .i64 0, .int .i64 0, .int .i64 0, .int .i64 0, .int .i64 0, .int .i64 0, .slice none 0 0, .slice none 0 0, .slice none 0 0, .int .i64 0, .int .i64 0, .int .i64 0, .int .i64 0, .int .i64 0, .int .i64 0, .int .i64 0, .int .i64 0, .int .i64 0, .slice none 0 0, .slice none 0 0, .slice none 0 0] : List Value).length) := by rw [hpc]; rfl
      have HPO : Hid (∀ v ∈ pc, v.oneCell' = true) := by
        rw [hpc]
        exact pcell_one _ _ _
      have HPC := Lib.hid hpc
      have HS84 : Hid ((Try.prog.info? 84).map (·.size) = some pc.length) := size84.trans HPL.out
      have HA4 : Hid (Ch No wr (wr.alloc (.cells #[.int .i64 0, .int .i64 0, .int .i64 0, .int .i64 0, .int .i64 0, .int .i64 0, .slice none 0 0, .slice none 0 0, .slice none 0 0, .int .i64 0, .int .i64 0, .int .i64 0, .int .i64 0, .int .i64 0, .int .i64 0, .int .i64 0, .int .i64 0, .int .i64 0, .slice none 0 0, .slice none 0 0, .slice none 0 0] 84))) := (Ch.refl _ _).alloc _
      have HZ4 : Hid (Row (wr.alloc (.cells #[.int .i64 0, .int .i64 0, .int .i64 0, .int .i64 0, .int .i64 0, .int .i64 0, .slice none 0 0, .slice none 0 0, .slice none 0 0, .int .i64 0, .int .i64 0, .int .i64 0, .int .i64 0, .int .i64 0, .int .i64 0, .int .i64 0, .int .i64 0, .int .i64 0, .slice none 0 0, .slice none 0 0, .slice none 0 0] 84)) wr.heap.size 84 [.int .i64 0, .int .i64 0, .int .i64 0, .int .i64 0, .int .i64 0, .int .i64 0, .slice none 0 0, .slice none 0 0, .slice none 0 0, .int .i64 0, .int .i64 0, .int .i64 0, .int .i64 0, .int .i64 0, .int .i64 0, .int .i64 0, .int .i64 0, .int .i64 0, .slice none 0 0, .slice none 0 0, .slice none 0 0]) := Row.new wr 84 _
      clear hrg hc1 hc2 hpc
      go_upto_region 8 with (first | ((with_reducible refine at_op (o := ⟨some 19, _, _, _, _, _⟩) ?_); refine wpList_load_mid (op := ⟨some 19, _, _, _, _, _⟩) rfl 84 _ rfl gP (k * 21) rfl pc _ HRG.out Try.underlying84 rfl HS84.out ?_) | ((with_reducible refine at_op (o := ⟨none, .store 84 (.tmp 5) (.tmp 19), _, _, _, _⟩) ?_); refine wpList_store_agg (o := ⟨none, .store 84 (.tmp 5) (.tmp 19), _, _, _, _⟩) rfl 84 (.tmp 5) (.tmp 19) rfl wr.heap.size rfl 84 [.int .i64 0, .int .i64 0, .int .i64 0, .int .i64 0, .int .i64 0, .int .i64 0, .slice none 0 0, .slice none 0 0, .slice none 0 0, .int .i64 0, .int .i64 0, .int .i64 0, .int .i64 0, .int .i64 0, .int .i64 0, .int .i64 0, .int .i64 0, .int .i64 0, .slice none 0 0, .slice none 0 0, .slice none 0 0] pc rfl HZ4.out HS84.out HPL2.out HPO.out ?_; intro w5 hr5 hc5; have HP5 := Lib.hid hr5; have HC5 := Lib.hid hc5; clear hr5 hc5))
      have HPN : Hid (w.heap.size ≤ wr.heap.size) := HI.out.ch.size
      have HPU : Hid (¬ (Value.slice Au k cu).ownBlock = some wr.heap.size) := fun e => by
        obtain ⟨L, hL⟩ := own_row HI.out.own e
        have := hL.lt
        omega
      have HI5 := Lib.hid ((HI.out.keepNo HA4.out).keepP HZ4.out HPN.out HPU.out HC5.out)
      generalize wr.heap.size = P at *
      clear x0 HI HRG HZ4 HC5 HA4 HPL HPL2
      have HZ5 : Hid (0 < 5) := by show _ < _; omega
      have HZ6 : Hid (0 < 6) := by show _ < _; omega
      have HNA : Hid (0 + 1 ≤ 140737488355328) := by show _ ≤ _; omega
      have HNB5 : Hid ((0 + 1) * 8 ≤ 140737488355328) := by show _ ≤ _; omega
      have HNB6 : Hid ((0 + 1) * 48 ≤ 140737488355328) := by show _ ≤ _; omega
      have HNC : Hid (1 + 1 ≤ 140737488355328) := by show _ ≤ _; omega
      have HND5 : Hid ((1 + 1) * 8 ≤ 140737488355328) := by show _ ≤ _; omega
      have HND6 : Hid ((1 + 1) * 48 ≤ 140737488355328) := by show _ ≤ _; omega
      have HO5 : Hid (∀ u ∈ ([.int .u8 0, .int .u8 0, .int .u8 0, .int .u8 0, .int .i32 0] : List Value), u.oneCell' = true) := by
        intro u hu
        simp at hu
        rcases hu with rfl | rfl <;> rfl
      have HP5b : Hid (∀ u ∈ ([.int .u8 0, .int .u8 0, .int .u8 0, .int .u8 0, .int .i32 (-77)] : List Value), u.oneCell' = true) := by
        intro u hu
        simp at hu
        rcases hu with rfl | rfl <;> rfl
      have HO6 : Hid (∀ u ∈ ([.int .i64 0, .int .i64 0, .int .i64 0, .int .i64 0, .int .i64 0, .bool false] : List Value), u.oneCell' = true) := by
        intro u hu
        simp at hu
        rcases hu with rfl | rfl <;> rfl
      have HP6b : Hid (∀ u ∈ ([.int .i64 (-77), .int .i64 0, .int .i64 0, .int .i64 0, .int .i64 0, .bool false] : List Value), u.oneCell' = true) := by
        intro u hu
        simp at hu
        rcases hu with rfl | rfl | rfl <;> rfl
      have p7 : w5.cell? ⟨P, 7, none⟩ = some (.slice (some ⟨gc, 0, none⟩) 1 1) := by rw [HP5.out.cell, HPC.out]; rfl
      have HG5 := HGC
      have HW5 : Hid (Cl w5 (some ⟨gc, 0, none⟩) [.int .u8 0, .int .u8 0, .int .u8 0, .int .u8 0, .int .i32 0]) := (HG5.out.keepNo HI5.out.ch).cl0
      go_upto_region 9 with (first | (at_builtin; refine wpList_append_sz (o := ⟨some 23, _, _, _, _, _⟩) rfl (.tmp 20) (.tmp 22) 75 rfl w5.heap.size 74 (.agg #[.int .u8 0, .int .u8 0, .int .u8 0, .int .u8 0, .int .i32 0]) 5 8 Try.underlying75 info74 rfl HZ5.out (.slice none 0 0) 0 [] rfl ⟨gc, 0, none⟩ 1 1 [.int .u8 0, .int .u8 0, .int .u8 0, .int .u8 0, .int .i32 0] rfl (owns_nil _ _ _ _) rfl HW5.out HO5.out HNA.out HNB5.out (Nat.le_refl _) ?_; intro v6 w6 ho hg hat; have HOw6 : Hid (w6.ownsRow w5.heap.size 74 5 v6 1 [.int .u8 0, .int .u8 0, .int .u8 0, .int .u8 0, .int .i32 0]) := ho; have HCw6 : Hid (Ch No w5 w6) := grown_no (Nat.le_refl _) (owns_nil w5 w5.heap.size 74 5) hg (Ch.refl _ _); have HAw6 : Hid (Ch No w6 (w6.alloc (.cells #[.int .u8 0, .int .u8 0, .int .u8 0, .int .u8 0, .int .i32 (-77)] 74))) := (Ch.refl _ _).alloc _; clear ho hg hat) | (at_builtin; refine wpList_append_sz (o := ⟨some 26, _, _, _, _, _⟩) rfl (.tmp 23) (.tmp 25) 75 rfl w5.heap.size 74 (.agg #[.int .u8 0, .int .u8 0, .int .u8 0, .int .u8 0, .int .i32 0]) 5 8 Try.underlying75 info74 rfl HZ5.out v6 1 [.int .u8 0, .int .u8 0, .int .u8 0, .int .u8 0, .int .i32 0] rfl ⟨w6.heap.size, 0, none⟩ 1 1 [.int .u8 0, .int .u8 0, .int .u8 0, .int .u8 0, .int .i32 (-77)] rfl (owns_keepNo HOw6.out HAw6.out) rfl (Row.new w6 74 [.int .u8 0, .int .u8 0, .int .u8 0, .int .u8 0, .int .i32 (-77)]).cl0 HP5b.out HNC.out HND5.out (Nat.le_trans HCw6.out.size HAw6.out.size) ?_; intro v8 w8 ho hg hat; have HOw8 : Hid (w8.ownsRow w5.heap.size 74 5 v8 2 ([.int .u8 0, .int .u8 0, .int .u8 0, .int .u8 0, .int .i32 0] ++ [.int .u8 0, .int .u8 0, .int .u8 0, .int .u8 0, .int .i32 (-77)])) := ho; have HCw8 : Hid (Ch No w5 w8) := grown_no (Nat.le_refl _) (owns_keepNo HOw6.out HAw6.out) hg (HCw6.out.then_ HAw6.out); clear ho hg hat))
      obtain ⟨hv, h0⟩ | ⟨g8, c8, r8, rfl, hb8, hr8, hn8, hm8, -⟩ := owns_open_sz HOw8.out
      · omega
      have HI8 := Lib.hid (HI5.out.keepNo HCw8.out)
      have HP8 := Lib.hid (HP5.out.keepNo HCw8.out)
      have HR8 := Lib.hid hr8
      have HB8 : Hid (w.heap.size ≤ g8) := Nat.le_trans HI5.out.ch.size hb8
      have HN8 : Hid (2 ≤ c8 ∧ c8 ≤ maxLen) := ⟨hn8, hm8⟩
      clear hb8 hr8 hn8 hm8 HI5 HP5 HOw6 HCw6 HAw6 HOw8 HCw8 p7 HW5
      have p8 : w8.cell? ⟨P, 8, none⟩ = some (.slice (some ⟨gp, 0, none⟩) 1 1) := by rw [HP8.out.cell, HPC.out]; rfl
      have HG8 := HGP
      have HW8 : Hid (Cl w8 (some ⟨gp, 0, none⟩) [.int .i64 0, .int .i64 0, .int .i64 0, .int .i64 0, .int .i64 0, .bool false]) := (HG8.out.keepNo HI8.out.ch).cl0
      go_upto_region 10 with (first | (at_builtin; refine wpList_append_sz (o := ⟨some 30, _, _, _, _, _⟩) rfl (.tmp 27) (.tmp 29) 78 rfl w8.heap.size 77 (.agg #[.int .i64 0, .int .i64 0, .int .i64 0, .int .i64 0, .int .i64 0, .bool false]) 6 48 Try.underlying78 info77 rfl HZ6.out (.slice none 0 0) 0 [] rfl ⟨gp, 0, none⟩ 1 1 [.int .i64 0, .int .i64 0, .int .i64 0, .int .i64 0, .int .i64 0, .bool false] rfl (owns_nil _ _ _ _) rfl HW8.out HO6.out HNA.out HNB6.out (Nat.le_refl _) ?_; intro v9 w9 ho hg hat; have HOw9 : Hid (w9.ownsRow w8.heap.size 77 6 v9 1 [.int .i64 0, .int .i64 0, .int .i64 0, .int .i64 0, .int .i64 0, .bool false]) := ho; have HCw9 : Hid (Ch No w8 w9) := grown_no (Nat.le_refl _) (owns_nil w8 w8.heap.size 77 6) hg (Ch.refl _ _); have HAw9 : Hid (Ch No w9 (w9.alloc (.cells #[.int .i64 (-77), .int .i64 0, .int .i64 0, .int .i64 0, .int .i64 0, .bool false] 77))) := (Ch.refl _ _).alloc _; clear ho hg hat) | (at_builtin; refine wpList_append_sz (o := ⟨some 33, _, _, _, _, _⟩) rfl (.tmp 30) (.tmp 32) 78 rfl w8.heap.size 77 (.agg #[.int .i64 0, .int .i64 0, .int .i64 0, .int .i64 0, .int .i64 0, .bool false]) 6 48 Try.underlying78 info77 rfl HZ6.out v9 1 [.int .i64 0, .int .i64 0, .int .i64 0, .int .i64 0, .int .i64 0, .bool false] rfl ⟨w9.heap.size, 0, none⟩ 1 1 [.int .i64 (-77), .int .i64 0, .int .i64 0, .int .i64 0, .int .i64 0, .bool false] rfl (owns_keepNo HOw9.out HAw9.out) rfl (Row.new w9 77 [.int .i64 (-77), .int .i64 0, .int .i64 0, .int .i64 0, .int .i64 0, .bool false]).cl0 HP6b.out HNC.out HND6.out (Nat.le_trans HCw9.out.size HAw9.out.size) ?_; intro v10 w10 ho hg hat; have HOw10 : Hid (w10.ownsRow w8.heap.size 77 6 v10 2 ([.int .i64 0, .int .i64 0, .int .i64 0, .int .i64 0, .int .i64 0, .bool false] ++ [.int .i64 (-77), .int .i64 0, .int .i64 0, .int .i64 0, .int .i64 0, .bool false])) := ho; have HCw10 : Hid (Ch No w8 w10) := grown_no (Nat.le_refl _) (owns_keepNo HOw9.out HAw9.out) hg (HCw9.out.then_ HAw9.out); clear ho hg hat))
      obtain ⟨hv, h0⟩ | ⟨g9, c9, r9, rfl, hb9, hr9, hn9, hm9, -⟩ := owns_open_sz HOw10.out
      · omega
      have HI10 := Lib.hid (HI8.out.keepNo HCw10.out)
      have HP10 := Lib.hid (HP8.out.keepNo HCw10.out)
      have HR8' := Lib.hid (HR8.out.keepNo HCw10.out)
      have HR9 := Lib.hid hr9
      have HB9 : Hid (w.heap.size ≤ g9) := Nat.le_trans HI8.out.ch.size hb9
      have HN9 : Hid (2 ≤ c9 ∧ c9 ≤ maxLen) := ⟨hn9, hm9⟩
      clear hb9 hr9 hn9 hm9 HI8 HP8 HR8 HOw9 HCw9 HAw9 HOw10 HCw10 p8 HW8
      have hmx : maxLen ≤ 9223372036854775807 := by simp [maxLen]
      have k8 := HN8.out.1
      have k9 := HN9.out.1
      have k8b : (1 : Int) ≤ (c8 : Int) := by omega
      have k9b : (1 : Int) ≤ (c9 : Int) := by omega
      have m8 : c8 ≤ 9223372036854775807 := Nat.le_trans HN8.out.2 hmx
      have m9 : c9 ≤ 9223372036854775807 := Nat.le_trans HN9.out.2 hmx
      clear hmx
      have p7 : w10.cell? ⟨P, 7, none⟩ = some (.slice (some ⟨gc, 0, none⟩) 1 1) := by rw [HP10.out.cell, HPC.out]; rfl
      have f7 : w10.frozen? ⟨P, 7, none⟩ = false := HP10.out.frozen 7
      go_upto_region 11 with (fail)
      have HC11 : Hid (Ch (Is P) w10 (w10.setCell ⟨P, 7, none⟩ (.slice (some ⟨g8, 0, none⟩) 1 c8))) := Ch.setCell (D := Is P) (p := ⟨P, 7, none⟩) (Ch.refl _ _) (fun _ => rfl) _
      have HP11 : Hid (Row (w10.setCell ⟨P, 7, none⟩ (.slice (some ⟨g8, 0, none⟩) 1 c8)) P 84 (pc.set 7 (.slice (some ⟨g8, 0, none⟩) 1 c8))) := HP10.out.set_ 7 _
      have HI11 := Lib.hid (HI10.out.keepP HP10.out HPN.out HPU.out HC11.out)
      have HR8b := Lib.hid (HR8'.out.keepIs HC11.out (row_ne HR8'.out HP10.out (by decide)))
      have HR9b := Lib.hid (HR9.out.keepIs HC11.out (row_ne HR9.out HP10.out (by decide)))
      generalize w10.setCell ⟨P, 7, none⟩ (.slice (some ⟨g8, 0, none⟩) 1 c8) = w11 at *
      clear p7 f7 HC11 HP10 HI10 HR8' HR9
      have p8 : w11.cell? ⟨P, 8, none⟩ = some (.slice (some ⟨gp, 0, none⟩) 1 1) := by rw [HP11.out.cell, HPC.out]; rfl
      have f8 : w11.frozen? ⟨P, 8, none⟩ = false := HP11.out.frozen 8
      go_upto_region 12 with (fail)
      have HC12 : Hid (Ch (Is P) w11 (w11.setCell ⟨P, 8, none⟩ (.slice (some ⟨g9, 0, none⟩) 1 c9))) := Ch.setCell (D := Is P) (p := ⟨P, 8, none⟩) (Ch.refl _ _) (fun _ => rfl) _
      obtain ⟨pc2, hpc2⟩ : ∃ pc2, pc2 = (pc.set 7 (.slice (some ⟨g8, 0, none⟩) 1 c8)).set 8 (.slice (some ⟨g9, 0, none⟩) 1 c9) := ⟨_, rfl⟩
      have HP12 : Hid (Row (w11.setCell ⟨P, 8, none⟩ (.slice (some ⟨g9, 0, none⟩) 1 c9)) P 84 pc2) := by
        rw [hpc2]
        exact HP11.out.set_ 8 _
      have HPC2 : Hid (pc2 = lcell k ⟨g8, c8, g9, c9⟩) := by
        rw [hpc2, HPC.out]
        rfl
      have HI12 := Lib.hid (HI11.out.keepP HP11.out HPN.out HPU.out HC12.out)
      have HR8 := Lib.hid (HR8b.out.keepIs HC12.out (row_ne HR8b.out HP11.out (by decide)))
      have HR9 := Lib.hid (HR9b.out.keepIs HC12.out (row_ne HR9b.out HP11.out (by decide)))
      generalize w11.setCell ⟨P, 8, none⟩ (.slice (some ⟨g9, 0, none⟩) 1 c9) = w12 at *
      clear p8 f8 HC12 HP11 HI11 HR8b HR9b hpc2 HPO HPC HS84 k8 k9 k8b k9b m8 m9
      have HS84 : Hid ((Try.prog.info? 84).map (·.size) = some pc2.length) := by
        rw [HPC2.out]
        exact size84
      have HL21 : Hid (pc2.length = 21) := by rw [HPC2.out]; rfl
      have HL21b : Hid (pc2.length = 1 * 21) := by rw [HPC2.out]; rfl
      have HZ21 : Hid (0 < 21) := by show _ < _; omega
      have HM21 : Hid (21 ≤ 1000) := by show _ ≤ _; omega
      have HPO2 : Hid (∀ v ∈ pc2, v.oneCell' = true) := by
        rw [HPC2.out]
        exact lcell_one _ _
      have HA13 : Hid (Ch No w12 (w12.alloc (.cells pc2.toArray 84))) := (Ch.refl _ _).alloc _
      have HIA := Lib.hid (HI12.out.keepNo HA13.out)
      have HOA := Lib.hid HIA.out.own
      have HCA : Hid (Cl (w12.alloc (.cells pc2.toArray 84)) (some ⟨w12.heap.size, 0, none⟩) pc2) := (Row.new w12 84 pc2).cl0
      have HB1 : Hid (k + 1 ≤ 140737488355328) := by show _ ≤ _; omega
      have HB2 : Hid ((k + 1) * 264 ≤ 140737488355328) := by show _ ≤ _; omega
      have HB3 : Hid (w.heap.size ≤ (w12.alloc (.cells pc2.toArray 84)).heap.size) := HIA.out.ch.size
      have HE74 : Hid ((74 : TypeId) ≠ 84) := by show _ ≠ _; decide
      have HE77 : Hid ((77 : TypeId) ≠ 84) := by show _ ≠ _; decide
      have HAY : Hid (Row (w12.alloc (.cells pc2.toArray 84)) Y 27 [.slice Au k cu, .slice none 0 0, .slice none 0 0]) := HIA.out.y
      have y0 : w12.cell? ⟨Y, 0, none⟩ = some (.slice Au k cu) := HI12.out.y.cell 0
      go_upto_region 4 with (first | ((with_reducible refine at_op (o := ⟨some 48, _, _, _, _, _⟩) ?_); refine pl_load (o := ⟨some 48, _, _, _, _, _⟩) rfl 84 _ rfl P rfl 84 pc2 HP12.out _ Try.underlying84 rfl HS84.out ?_) | ((with_reducible refine at_op (o := ⟨some 49, _, _, _, _, _⟩) ?_); refine wpList_buildRow (o := ⟨some 49, _, _, _, _, _⟩) rfl 24 84 (.tmp 48) rfl (.agg #[.int .i64 0, .int .i64 0, .int .i64 0, .int .i64 0, .int .i64 0, .int .i64 0, .slice none 0 0, .slice none 0 0, .slice none 0 0, .int .i64 0, .int .i64 0, .int .i64 0, .int .i64 0, .int .i64 0, .int .i64 0, .int .i64 0, .int .i64 0, .int .i64 0, .slice none 0 0, .slice none 0 0, .slice none 0 0]) 21 264 Try.underlying24 info84 HZ21.out HM21.out pc2 rfl HL21.out ?_) | (at_builtin; refine wpList_append_sz (o := ⟨some 50, _, _, _, _, _⟩) rfl (.tmp 47) (.tmp 49) 24 rfl w.heap.size 84 (.agg #[.int .i64 0, .int .i64 0, .int .i64 0, .int .i64 0, .int .i64 0, .int .i64 0, .slice none 0 0, .slice none 0 0, .slice none 0 0, .int .i64 0, .int .i64 0, .int .i64 0, .int .i64 0, .int .i64 0, .int .i64 0, .int .i64 0, .int .i64 0, .int .i64 0, .slice none 0 0, .slice none 0 0, .slice none 0 0]) 21 264 Try.underlying24 info84 rfl HZ21.out (.slice Au k cu) k (lparts ds k) rfl ⟨w12.heap.size, 0, none⟩ 1 1 pc2 rfl HOA.out HL21b.out HCA.out HPO2.out HB1.out HB2.out HB3.out ?_; intro v13 w13 ho hg hat; obtain ⟨A13, c13, rfl⟩ := own_slice_len ho; have HI13 := Lib.hid (HIA.out.grow ho hg); have HR8c := Lib.hid ((HR8.out.keepNo HA13.out).keep (Ch.of_grownBy hg) (far_own HOA.out HE74.out _ _ (HR8.out.keepNo HA13.out))); have HR9c := Lib.hid ((HR9.out.keepNo HA13.out).keep (Ch.of_grownBy hg) (far_own HOA.out HE77.out _ _ (HR9.out.keepNo HA13.out))); clear ho hg hat; have y1 := HI13.out.y.cell 0; have f1 := HI13.out.y.frozen 0; simp only [List.getElem?_cons_zero] at y1))
      have HI14 := Lib.hid (HI13.out.put HBX.out.2.2.1 HBX.out.2.2.2.1 HBX.out.2.1)
      have HCY : Hid (Ch (Is Y) w13 (w13.setCell ⟨Y, 0, none⟩ (.slice A13 (k + 1) c13))) := Ch.setCell (D := Is Y) (p := ⟨Y, 0, none⟩) (Ch.refl _ _) (fun _ => rfl) _
      have HR8d := Lib.hid (HR8c.out.keepIs HCY.out (row_ne HR8c.out HI13.out.y (by decide)))
      have HR9d := Lib.hid (HR9c.out.keepIs HCY.out (row_ne HR9c.out HI13.out.y (by decide)))
      have HI15 := Lib.hid (HI14.out.more (d := ⟨g8, c8, g9, c9⟩) ⟨_, HR8d.out⟩ ⟨_, HR9d.out⟩ HB8.out HB9.out HN8.out.1 HN9.out.1 HN8.out.2 HN9.out.2)
      have hle : lparts ds k ++ pc2 = lparts (fun i => if i = k then ⟨g8, c8, g9, c9⟩ else ds i) (k + 1) := by
        rw [lparts_succ, if_pos rfl, HPC2.out]
        congr 1
        exact lparts_ext (fun i hi => (if_neg (by omega)).symm)
      rw [hle] at HI15
      generalize w13.setCell ⟨Y, 0, none⟩ (.slice A13 (k + 1) c13) = w14 at *
      clear hle y0 y1 f1 HI14 HCY HR8d HR9d HI13 HR8c HR9c HI12 HIA HOA HCA HAY HA13
      go_wp2_with (fail)
      exact ⟨⟨k + 1, _, _, by omega, by go_num, HI15⟩, by simp [intOf]; omega⟩
    · have e1 : decide ((k : Int) < 3) = false := by simp; omega
      obtain rfl : k = 3 := by omega
      go_upto_region 13 with (fail)
      clear x0 e1 hlt hk
      refine wp_region_held (S := fun w' : World => w'.cell? ⟨X, 0, none⟩ = some (.slice (some ⟨gP, 0, none⟩) 3 cP0)) (by kernel_rfl) ?_
      change wpAnyH _ _ _ _ _ _ _ _ wr.drew
      have HD1 := Lib.hid (HI.out.keepNo ((Ch.refl No wr).drew))
      generalize wr.drew = w1 at *
      have HS0 : Hid (w1.cell? ⟨X, 0, none⟩ = some (.slice (some ⟨gP, 0, none⟩) 3 cP0)) := HD1.out.x.cell 0
      have HK1 := Lib.hid (HD1.out.keepNo ((Ch.refl No w1).alloc (.cells mark84.toArray 84)))
      refine wpAnyH_take (i := 0) (oi := ⟨some 52, _, _, _, _, _⟩) (v := .pointer (some ⟨Y, 0, none⟩)) rfl (by kernel_rfl) (by kernel_rfl) (by kernel_rfl) (fun _ _ _ h => h) (Or.inl ⟨by rfl, fun _ _ => by kernel_rfl⟩) HS0.out ?_
      simp only [Act.put, List.setIfInBounds_toArray, List.set_cons_zero, List.set_cons_succ]
      refine wpAnyH_take (i := 2) (oi := ⟨some 54, _, _, _, _, _⟩) (v := .agg mark84.toArray) rfl (by kernel_rfl) (by kernel_rfl) (by kernel_rfl) (fun _ _ _ h => h) (Or.inl ⟨by rfl, fun _ _ => by kernel_rfl⟩) HS0.out ?_
      simp only [Act.put, List.setIfInBounds_toArray, List.set_cons_zero, List.set_cons_succ]
      refine wpAnyH_take (i := 5) (oi := ⟨some 57, _, _, _, _, _⟩) (v := .pointer (some ⟨X, 0, none⟩)) rfl (by kernel_rfl) (by kernel_rfl) (by kernel_rfl) (fun _ _ _ h => h) (Or.inl ⟨by rfl, fun _ _ => by kernel_rfl⟩) HS0.out ?_
      simp only [Act.put, List.setIfInBounds_toArray, List.set_cons_zero, List.set_cons_succ]
      refine wpAnyH_take (i := 6) (oi := ⟨some 58, _, _, _, _, _⟩) (v := .slice (some ⟨gP, 0, none⟩) 3 cP0) rfl (by kernel_rfl) (by kernel_rfl) (by kernel_rfl) (fun _ _ _ h => h) (Or.inl ⟨by rfl, fun _ hw' => exec_load_cell 24 (.tmp 57) rfl ⟨X, 0, none⟩ rfl _ Try.underlying24 rfl _ hw'⟩) HS0.out ?_
      simp only [Act.put, List.setIfInBounds_toArray, List.set_cons_zero, List.set_cons_succ]
      refine wpAnyH_take (i := 7) (oi := ⟨some 59, _, _, _, _, _⟩) (v := .int .i64 3) rfl (by kernel_rfl) (by kernel_rfl) (by kernel_rfl) (fun _ _ _ h => h) (Or.inl ⟨by rfl, fun _ _ => by kernel_rfl⟩) HS0.out ?_
      simp only [Act.put, List.setIfInBounds_toArray, List.set_cons_zero, List.set_cons_succ]
      refine wpAnyH_norm 6 #[true, false, true, false, false, true, true, true, false, false, false] (by kernel_rfl) (by kernel_rfl) ?_
      refine wpAnyH_two (i := 1) (j := 3) (oi := ⟨some 53, _, _, _, _, _⟩) (oj := ⟨some 55, _, _, _, _, _⟩) (by kernel_rfl) rfl rfl (by rfl) (by rfl) ?_ ?_
      · refine wp_value (.slice Au 3 cu) (exec_load_cell 24 (.tmp 52) rfl ⟨Y, 0, none⟩ rfl _ Try.underlying24 rfl _ (HD1.out.y.cell 0)) ?_
        refine And.intro (HD1.out.x.cell 0) ?_
        simp only [Act.put, List.setIfInBounds_toArray, List.set_cons_zero, List.set_cons_succ]
        refine wpAnyH_norm 5 #[true, true, true, false, false, true, true, true, false, false, false] (by kernel_rfl) (by kernel_rfl) ?_
        refine wpAnyH_one (i := 3) (o := ⟨some 55, _, _, _, _, _⟩) (by kernel_rfl) rfl (by rfl) ?_
        refine wp_buildRow 24 84 (.tmp 54) rfl _ 21 264 Try.underlying24 info84 (by omega) (by omega) mark84 rfl rfl ?_
        refine And.intro (HK1.out.x.cell 0) ?_
        simp only [Act.put, List.setIfInBounds_toArray, List.set_cons_zero, List.set_cons_succ]
        refine wpAnyH_norm 4 #[true, true, true, true, false, true, true, true, false, false, false] (by kernel_rfl) (by kernel_rfl) ?_
        refine wpAnyH_one (i := 4) (o := ⟨some 56, _, _, _, _, _⟩) (by kernel_rfl) rfl (by rfl) ?_
        have hca : Cl (w1.alloc (.cells mark84.toArray 84)) (some ⟨w1.heap.size, 0, none⟩) mark84 := (Row.new w1 84 mark84).cl0
        have hhl := HK1.out.ch.size
        obtain ⟨v5, w5, hrun, ho5, hg5⟩ := run_append_any (w1.alloc (.cells mark84.toArray 84)) w.heap.size 24 24 84 _ 21 264 Try.underlying24 info84 rfl (by omega) (.slice Au 3 cu) 3 (lparts ds 3) HK1.out.own ⟨w1.heap.size, 0, none⟩ 1 1 mark84 rfl hca mark84_one (by have := HNL.out; omega) (by have := HNL.out; omega) hhl
        have HR5 := Lib.hid hrun
        have HD5 := Lib.hid (HK1.out.grow ho5 hg5)
        obtain ⟨hv, h0⟩ | ⟨g5, c5, r5, rfl, hb5, hr5, hn5, hm5, -⟩ := owns_open_sz ho5
        · omega
        have HN5 : Hid (3 ≤ c5) := Nat.le_trans (Nat.le_succ _) hn5
        have HM5 : Hid (c5 ≤ 9223372036854775807) := Nat.le_trans hm5 (by simp [maxLen])
        clear hrun ho5 hg5 hca hhl hb5 hr5 hn5 hm5
        refine Lib.wp_append_run (w1.alloc (.cells mark84.toArray 84)) (.tmp 53) (.tmp 55) 24 24 rfl _ _ rfl rfl _ w5 HR5.out ?_
        refine And.intro (HD5.out.x.cell 0) ?_
        simp only [Act.put, List.setIfInBounds_toArray, List.set_cons_zero, List.set_cons_succ]
        refine wpAnyH_norm 3 #[true, true, true, true, true, true, true, true, false, false, false] (by kernel_rfl) (by kernel_rfl) ?_
        refine wpAnyH_one (i := 8) (o := ⟨some 60, _, _, _, _, _⟩) (by kernel_rfl) rfl (by rfl) ?_
        refine wp_value (.slice (some ⟨g5, 0, none⟩) 3 c5) (exec_cut 24 84 (.tmp 56) (.tmp 59) rfl Try.underlying24 21 (sizes_of 84 21 size84) g5 (3 + 1) c5 3 rfl rfl HN5.out HM5.out) ?_
        refine And.intro (HD5.out.x.cell 0) ?_
        simp only [Act.put, List.setIfInBounds_toArray, List.set_cons_zero, List.set_cons_succ]
        refine wpAnyH_norm 2 #[true, true, true, true, true, true, true, true, true, false, false] (by kernel_rfl) (by kernel_rfl) ?_
        refine wpAnyH_one (i := 9) (o := ⟨some 61, _, _, _, _, _⟩) (by kernel_rfl) rfl (by rfl) ?_
        refine wp_value (.pointer (some ⟨Y, 0, none⟩)) (by kernel_rfl) ?_
        refine And.intro (HD5.out.x.cell 0) ?_
        simp only [Act.put, List.setIfInBounds_toArray, List.set_cons_zero, List.set_cons_succ]
        refine wpAnyH_norm 1 #[true, true, true, true, true, true, true, true, true, true, false] (by kernel_rfl) (by kernel_rfl) ?_
        refine wpAnyH_one (i := 10) (o := ⟨none, _, _, _, _, _⟩) (by kernel_rfl) rfl (by rfl) ?_
        have HE := Lib.hid (HD5.out.end_ HBX.out.2.2.1 HBX.out.2.2.2.1 HBX.out.2.1)
        refine wp_store_cell 24 (.tmp 61) (.tmp 60) rfl Y 0 (.slice (some ⟨g5, 0, none⟩) 3 c5) rfl rfl rfl size24 (by rw [HD5.out.y.cell]; rfl) (HD5.out.y.frozen _) ?_
        refine And.intro (HE.out.x.cell 0) ?_
        simp only [Act.put, List.setIfInBounds_toArray, List.set_cons_zero, List.set_cons_succ]
        generalize w5.setCell ⟨Y, 0, none⟩ (.slice (some ⟨g5, 0, none⟩) 3 c5) = w6 at *
        refine wpAnyH_done (by kernel_rfl) ?_ _
        clear HR5 HD5 HK1 HD1 HS0
        have HOW := Lib.hid HE.out.own
        have HPK := Lib.hid (HPQ.out.keepNo HE.out.ch)
        have HPLN : Hid ((pcells qs).length = n * 6) := by
          have h := pcells_len qs
          rw [HN.out] at h
          exact h
        have HB1 : Hid (0 + n ≤ 140737488355328) := by
          have := HNL.out
          show _ ≤ _
          omega
        have HB2 : Hid ((0 + n) * 48 ≤ 140737488355328) := by
          have := HNL.out
          show _ ≤ _
          omega
        have HB3 : Hid (w.heap.size ≤ w6.heap.size) := HE.out.ch.size
        have HZ6 : Hid (0 < 6) := by show _ < _; omega
        have x1 : w6.cell? ⟨X, 1, none⟩ = some (.slice A2 n c2) := HE.out.x.cell 1
        have y1 : w6.cell? ⟨Y, 1, none⟩ = some (.slice none 0 0) := HE.out.y.cell 1
        go_upto_region 15 with (first | (at_builtin; refine wpList_append_opt (o := ⟨some 66, _, _, _, _, _⟩) rfl (.tmp 63) (.tmp 65) 22 rfl w.heap.size 46 (.agg #[.int .i64 0, .int .i64 0, .bool false, .int .i64 0, .int .i64 0, .int .i64 0]) 6 48 Try.underlying22 info46 rfl HZ6.out (.slice none 0 0) 0 [] rfl A2 n c2 (pcells qs) rfl HA2.out HOW.out HPLN.out HPK.out pcells_one HB1.out HB2.out HB3.out ?_; intro v7 w7 ho hg; obtain ⟨A7, c7, rfl⟩ := own_slice_len ho; have HE7 := Lib.hid (HE.out.grow ho hg); clear ho hg; have y1 := HE7.out.y.cell 1; have f1 := HE7.out.y.frozen 1; simp only [List.getElem?_cons_zero, List.getElem?_cons_succ] at y1))
        have HE8' := Lib.hid (HE7.out.put HBX.out.2.2.1 HBX.out.2.2.2.1 HBX.out.2.1 (.slice A7 (0 + n) c7))
        rw [Nat.zero_add] at HE8'
        have HE8 : Hid (LtE w (w7.setCell ⟨Y, 1, none⟩ (.slice A7 n c7)) X R Y [.slice (some ⟨gP, 0, none⟩) 3 cP0, .slice A2 n c2, .slice none 0 0] g5 c5 (.slice A7 n c7) (.slice A7 n c7) n (pcells qs) ds) := HE8'.out
        try rw [Nat.zero_add]
        generalize w7.setCell ⟨Y, 1, none⟩ (.slice A7 n c7) = w8 at *
        clear HE8' HE7 HE x1 y1 f1 HPK HOW HB3
        refine wp_region_held (S := fun w' : World => w'.cell? ⟨X, 1, none⟩ = some (.slice A2 n c2)) (by kernel_rfl) ?_
        change wpAnyH _ _ _ _ _ _ _ _ w8.drew
        have HD1 := Lib.hid (HE8.out.keepNo ((Ch.refl No w8).drew))
        generalize w8.drew = w9 at *
        have HS0 : Hid (w9.cell? ⟨X, 1, none⟩ = some (.slice A2 n c2)) := HD1.out.x.cell 1
        have HK1 := Lib.hid (HD1.out.keepNo ((Ch.refl No w9).alloc (.cells mark46.toArray 46)))
        refine wpAnyH_take (i := 0) (oi := ⟨some 68, _, _, _, _, _⟩) (v := .pointer (some ⟨Y, 1, none⟩)) rfl (by kernel_rfl) (by kernel_rfl) (by kernel_rfl) (fun _ _ _ h => h) (Or.inl ⟨by rfl, fun _ _ => by kernel_rfl⟩) HS0.out ?_
        simp only [Act.put, List.setIfInBounds_toArray, List.set_cons_zero, List.set_cons_succ]
        refine wpAnyH_take (i := 2) (oi := ⟨some 70, _, _, _, _, _⟩) (v := .agg mark46.toArray) rfl (by kernel_rfl) (by kernel_rfl) (by kernel_rfl) (fun _ _ _ h => h) (Or.inl ⟨by rfl, fun _ _ => by kernel_rfl⟩) HS0.out ?_
        simp only [Act.put, List.setIfInBounds_toArray, List.set_cons_zero, List.set_cons_succ]
        refine wpAnyH_take (i := 5) (oi := ⟨some 73, _, _, _, _, _⟩) (v := .pointer (some ⟨X, 1, none⟩)) rfl (by kernel_rfl) (by kernel_rfl) (by kernel_rfl) (fun _ _ _ h => h) (Or.inl ⟨by rfl, fun _ _ => by kernel_rfl⟩) HS0.out ?_
        simp only [Act.put, List.setIfInBounds_toArray, List.set_cons_zero, List.set_cons_succ]
        refine wpAnyH_take (i := 6) (oi := ⟨some 74, _, _, _, _, _⟩) (v := .slice A2 n c2) rfl (by kernel_rfl) (by kernel_rfl) (by kernel_rfl) (fun _ _ _ h => h) (Or.inl ⟨by rfl, fun _ hw' => exec_load_cell 22 (.tmp 73) rfl ⟨X, 1, none⟩ rfl _ Try.underlying22 rfl _ hw'⟩) HS0.out ?_
        simp only [Act.put, List.setIfInBounds_toArray, List.set_cons_zero, List.set_cons_succ]
        refine wpAnyH_take (i := 7) (oi := ⟨some 75, _, _, _, _, _⟩) (v := .int .i64 n) rfl (by kernel_rfl) (by kernel_rfl) (by kernel_rfl) (fun _ _ _ h => h) (Or.inl ⟨by rfl, fun _ _ => by kernel_rfl⟩) HS0.out ?_
        simp only [Act.put, List.setIfInBounds_toArray, List.set_cons_zero, List.set_cons_succ]
        refine wpAnyH_norm 6 #[true, false, true, false, false, true, true, true, false, false, false] (by kernel_rfl) (by kernel_rfl) ?_
        refine wpAnyH_two (i := 1) (j := 3) (oi := ⟨some 69, _, _, _, _, _⟩) (oj := ⟨some 71, _, _, _, _, _⟩) (by kernel_rfl) rfl rfl (by rfl) (by rfl) ?_ ?_
        · refine wp_value (.slice A7 n c7) (exec_load_cell 22 (.tmp 68) rfl ⟨Y, 1, none⟩ rfl _ Try.underlying22 rfl _ (HD1.out.y.cell 1)) ?_
          refine And.intro (HD1.out.x.cell 1) ?_
          simp only [Act.put, List.setIfInBounds_toArray, List.set_cons_zero, List.set_cons_succ]
          refine wpAnyH_norm 5 #[true, true, true, false, false, true, true, true, false, false, false] (by kernel_rfl) (by kernel_rfl) ?_
          refine wpAnyH_one (i := 3) (o := ⟨some 71, _, _, _, _, _⟩) (by kernel_rfl) rfl (by rfl) ?_
          refine wp_buildRow 22 46 (.tmp 70) rfl _ 6 48 Try.underlying22 info46 (by omega) (by omega) mark46 rfl rfl ?_
          refine And.intro (HK1.out.x.cell 1) ?_
          simp only [Act.put, List.setIfInBounds_toArray, List.set_cons_zero, List.set_cons_succ]
          refine wpAnyH_norm 4 #[true, true, true, true, false, true, true, true, false, false, false] (by kernel_rfl) (by kernel_rfl) ?_
          refine wpAnyH_one (i := 4) (o := ⟨some 72, _, _, _, _, _⟩) (by kernel_rfl) rfl (by rfl) ?_
          have hca : Cl (w9.alloc (.cells mark46.toArray 46)) (some ⟨w9.heap.size, 0, none⟩) mark46 := (Row.new w9 46 mark46).cl0
          have hhl := HK1.out.ch.size
          obtain ⟨v5', w5', hrun, ho5, hg5'⟩ := run_append_any (w9.alloc (.cells mark46.toArray 46)) w.heap.size 22 22 46 _ 6 48 Try.underlying22 info46 rfl (by omega) (.slice A7 n c7) n (pcells qs) HK1.out.own ⟨w9.heap.size, 0, none⟩ 1 1 mark46 rfl hca mark46_one (by have := HNL.out; omega) (by have := HNL.out; omega) hhl
          have HR5 := Lib.hid hrun
          have HD5 := Lib.hid (HK1.out.grow ho5 hg5')
          obtain ⟨hv, h0⟩ | ⟨g5', c5', r5', rfl, hb5, hr5', hn5, hm5, -⟩ := owns_open_sz ho5
          · omega
          have HN5 : Hid (n ≤ c5') := Nat.le_trans (Nat.le_succ _) hn5
          have HM5 : Hid (c5' ≤ 9223372036854775807) := Nat.le_trans hm5 (by simp [maxLen])
          clear hrun ho5 hg5' hca hhl hb5 hr5' hn5 hm5
          refine Lib.wp_append_run (w9.alloc (.cells mark46.toArray 46)) (.tmp 69) (.tmp 71) 22 22 rfl _ _ rfl rfl _ w5' HR5.out ?_
          refine And.intro (HD5.out.x.cell 1) ?_
          simp only [Act.put, List.setIfInBounds_toArray, List.set_cons_zero, List.set_cons_succ]
          refine wpAnyH_norm 3 #[true, true, true, true, true, true, true, true, false, false, false] (by kernel_rfl) (by kernel_rfl) ?_
          refine wpAnyH_one (i := 8) (o := ⟨some 76, _, _, _, _, _⟩) (by kernel_rfl) rfl (by rfl) ?_
          refine wp_value (.slice (some ⟨g5', 0, none⟩) n c5') (exec_cut 22 46 (.tmp 72) (.tmp 75) rfl Try.underlying22 6 (sizes_of 46 6 size46') g5' (n + 1) c5' n rfl rfl HN5.out HM5.out) ?_
          refine And.intro (HD5.out.x.cell 1) ?_
          simp only [Act.put, List.setIfInBounds_toArray, List.set_cons_zero, List.set_cons_succ]
          refine wpAnyH_norm 2 #[true, true, true, true, true, true, true, true, true, false, false] (by kernel_rfl) (by kernel_rfl) ?_
          refine wpAnyH_one (i := 9) (o := ⟨some 77, _, _, _, _, _⟩) (by kernel_rfl) rfl (by rfl) ?_
          refine wp_value (.pointer (some ⟨Y, 1, none⟩)) (by kernel_rfl) ?_
          refine And.intro (HD5.out.x.cell 1) ?_
          simp only [Act.put, List.setIfInBounds_toArray, List.set_cons_zero, List.set_cons_succ]
          refine wpAnyH_norm 1 #[true, true, true, true, true, true, true, true, true, true, false] (by kernel_rfl) (by kernel_rfl) ?_
          refine wpAnyH_one (i := 10) (o := ⟨none, _, _, _, _, _⟩) (by kernel_rfl) rfl (by rfl) ?_
          have HE9 := Lib.hid (HD5.out.put HBX.out.2.2.1 HBX.out.2.2.2.1 HBX.out.2.1 (.slice (some ⟨g5', 0, none⟩) n c5'))
          refine wp_store_cell 22 (.tmp 77) (.tmp 76) rfl Y 1 (.slice (some ⟨g5', 0, none⟩) n c5') rfl rfl rfl size22 (by rw [HD5.out.y.cell]; rfl) (HD5.out.y.frozen _) ?_
          refine And.intro (HE9.out.x.cell 1) ?_
          simp only [Act.put, List.setIfInBounds_toArray, List.set_cons_zero, List.set_cons_succ]
          generalize w5'.setCell ⟨Y, 1, none⟩ (.slice (some ⟨g5', 0, none⟩) n c5') = w6 at *
          refine wpAnyH_done (by kernel_rfl) ?_ _
          clear HR5 HD5 HK1 HD1 HS0
          have HO3 : Hid (∀ u ∈ ([.slice (some ⟨g5, 0, none⟩) 3 c5, .slice (some ⟨g5', 0, none⟩) n c5', .slice none 0 0] : List Value), u.oneCell' = true) := by
            intro u hu
            simp at hu
            rcases hu with rfl | rfl | rfl <;> rfl
          go_wp2_with (first | ((with_reducible refine at_op (o := ⟨some 78, _, _, _, _, _⟩) ?_); refine pl_load (o := ⟨some 78, _, _, _, _, _⟩) rfl 27 _ rfl Y rfl 27 [.slice (some ⟨g5, 0, none⟩) 3 c5, .slice (some ⟨g5', 0, none⟩) n c5', .slice none 0 0] HE9.out.y _ Try.underlying27 rfl size27 ?_) | ((with_reducible refine at_op (o := ⟨none, .store 27 (.tmp 2) (.tmp 78), _, _, _, _⟩) ?_); refine wpList_store_agg (o := ⟨none, .store 27 (.tmp 2) (.tmp 78), _, _, _, _⟩) rfl 27 (.tmp 2) (.tmp 78) rfl R rfl 27 [.slice none 0 0, .slice none 0 0, .slice none 0 0] [.slice (some ⟨g5, 0, none⟩) 3 c5, .slice (some ⟨g5', 0, none⟩) n c5', .slice none 0 0] rfl HE9.out.r size27 rfl HO3.out ?_; intro w10 hr10 hc10; have HR10 := Lib.hid hr10; have HC10 := Lib.hid hc10; clear hr10 hc10))
          obtain ⟨hlent, hch⟩ := HE9.out.lent HN.out HBX.out.2.2.2.2 HC10.out
          exact bodyPost_ret (v := .agg #[.slice (some ⟨g5, 0, none⟩) 3 c5, .slice (some ⟨g5', 0, none⟩) n c5', .slice none 0 0]) (results_row rfl _ _ R 27 [.slice (some ⟨g5, 0, none⟩) 3 c5, .slice (some ⟨g5', 0, none⟩) n c5', .slice none 0 0] _ rfl HR10.out Try.underlying27 rfl size27) rfl ⟨g5, c5, g5', c5', ds, rfl, hlent, hch⟩
        · refine wp_buildRow 22 46 (.tmp 70) rfl _ 6 48 Try.underlying22 info46 (by omega) (by omega) mark46 rfl rfl ?_
          refine And.intro (HK1.out.x.cell 1) ?_
          simp only [Act.put, List.setIfInBounds_toArray, List.set_cons_zero, List.set_cons_succ]
          refine wpAnyH_norm 5 #[true, false, true, true, false, true, true, true, false, false, false] (by kernel_rfl) (by kernel_rfl) ?_
          refine wpAnyH_one (i := 1) (o := ⟨some 69, _, _, _, _, _⟩) (by kernel_rfl) rfl (by rfl) ?_
          refine wp_value (.slice A7 n c7) (exec_load_cell 22 (.tmp 68) rfl ⟨Y, 1, none⟩ rfl _ Try.underlying22 rfl _ (HK1.out.y.cell 1)) ?_
          refine And.intro (HK1.out.x.cell 1) ?_
          simp only [Act.put, List.setIfInBounds_toArray, List.set_cons_zero, List.set_cons_succ]
          refine wpAnyH_norm 4 #[true, true, true, true, false, true, true, true, false, false, false] (by kernel_rfl) (by kernel_rfl) ?_
          refine wpAnyH_one (i := 4) (o := ⟨some 72, _, _, _, _, _⟩) (by kernel_rfl) rfl (by rfl) ?_
          have hca : Cl (w9.alloc (.cells mark46.toArray 46)) (some ⟨w9.heap.size, 0, none⟩) mark46 := (Row.new w9 46 mark46).cl0
          have hhl := HK1.out.ch.size
          obtain ⟨v5', w5', hrun, ho5, hg5'⟩ := run_append_any (w9.alloc (.cells mark46.toArray 46)) w.heap.size 22 22 46 _ 6 48 Try.underlying22 info46 rfl (by omega) (.slice A7 n c7) n (pcells qs) HK1.out.own ⟨w9.heap.size, 0, none⟩ 1 1 mark46 rfl hca mark46_one (by have := HNL.out; omega) (by have := HNL.out; omega) hhl
          have HR5 := Lib.hid hrun
          have HD5 := Lib.hid (HK1.out.grow ho5 hg5')
          obtain ⟨hv, h0⟩ | ⟨g5', c5', r5', rfl, hb5, hr5', hn5, hm5, -⟩ := owns_open_sz ho5
          · omega
          have HN5 : Hid (n ≤ c5') := Nat.le_trans (Nat.le_succ _) hn5
          have HM5 : Hid (c5' ≤ 9223372036854775807) := Nat.le_trans hm5 (by simp [maxLen])
          clear hrun ho5 hg5' hca hhl hb5 hr5' hn5 hm5
          refine Lib.wp_append_run (w9.alloc (.cells mark46.toArray 46)) (.tmp 69) (.tmp 71) 22 22 rfl _ _ rfl rfl _ w5' HR5.out ?_
          refine And.intro (HD5.out.x.cell 1) ?_
          simp only [Act.put, List.setIfInBounds_toArray, List.set_cons_zero, List.set_cons_succ]
          refine wpAnyH_norm 3 #[true, true, true, true, true, true, true, true, false, false, false] (by kernel_rfl) (by kernel_rfl) ?_
          refine wpAnyH_one (i := 8) (o := ⟨some 76, _, _, _, _, _⟩) (by kernel_rfl) rfl (by rfl) ?_
          refine wp_value (.slice (some ⟨g5', 0, none⟩) n c5') (exec_cut 22 46 (.tmp 72) (.tmp 75) rfl Try.underlying22 6 (sizes_of 46 6 size46') g5' (n + 1) c5' n rfl rfl HN5.out HM5.out) ?_
          refine And.intro (HD5.out.x.cell 1) ?_
          simp only [Act.put, List.setIfInBounds_toArray, List.set_cons_zero, List.set_cons_succ]
          refine wpAnyH_norm 2 #[true, true, true, true, true, true, true, true, true, false, false] (by kernel_rfl) (by kernel_rfl) ?_
          refine wpAnyH_one (i := 9) (o := ⟨some 77, _, _, _, _, _⟩) (by kernel_rfl) rfl (by rfl) ?_
          refine wp_value (.pointer (some ⟨Y, 1, none⟩)) (by kernel_rfl) ?_
          refine And.intro (HD5.out.x.cell 1) ?_
          simp only [Act.put, List.setIfInBounds_toArray, List.set_cons_zero, List.set_cons_succ]
          refine wpAnyH_norm 1 #[true, true, true, true, true, true, true, true, true, true, false] (by kernel_rfl) (by kernel_rfl) ?_
          refine wpAnyH_one (i := 10) (o := ⟨none, _, _, _, _, _⟩) (by kernel_rfl) rfl (by rfl) ?_
          have HE9 := Lib.hid (HD5.out.put HBX.out.2.2.1 HBX.out.2.2.2.1 HBX.out.2.1 (.slice (some ⟨g5', 0, none⟩) n c5'))
          refine wp_store_cell 22 (.tmp 77) (.tmp 76) rfl Y 1 (.slice (some ⟨g5', 0, none⟩) n c5') rfl rfl rfl size22 (by rw [HD5.out.y.cell]; rfl) (HD5.out.y.frozen _) ?_
          refine And.intro (HE9.out.x.cell 1) ?_
          simp only [Act.put, List.setIfInBounds_toArray, List.set_cons_zero, List.set_cons_succ]
          generalize w5'.setCell ⟨Y, 1, none⟩ (.slice (some ⟨g5', 0, none⟩) n c5') = w6 at *
          refine wpAnyH_done (by kernel_rfl) ?_ _
          clear HR5 HD5 HK1 HD1 HS0
          have HO3 : Hid (∀ u ∈ ([.slice (some ⟨g5, 0, none⟩) 3 c5, .slice (some ⟨g5', 0, none⟩) n c5', .slice none 0 0] : List Value), u.oneCell' = true) := by
            intro u hu
            simp at hu
            rcases hu with rfl | rfl | rfl <;> rfl
          go_wp2_with (first | ((with_reducible refine at_op (o := ⟨some 78, _, _, _, _, _⟩) ?_); refine pl_load (o := ⟨some 78, _, _, _, _, _⟩) rfl 27 _ rfl Y rfl 27 [.slice (some ⟨g5, 0, none⟩) 3 c5, .slice (some ⟨g5', 0, none⟩) n c5', .slice none 0 0] HE9.out.y _ Try.underlying27 rfl size27 ?_) | ((with_reducible refine at_op (o := ⟨none, .store 27 (.tmp 2) (.tmp 78), _, _, _, _⟩) ?_); refine wpList_store_agg (o := ⟨none, .store 27 (.tmp 2) (.tmp 78), _, _, _, _⟩) rfl 27 (.tmp 2) (.tmp 78) rfl R rfl 27 [.slice none 0 0, .slice none 0 0, .slice none 0 0] [.slice (some ⟨g5, 0, none⟩) 3 c5, .slice (some ⟨g5', 0, none⟩) n c5', .slice none 0 0] rfl HE9.out.r size27 rfl HO3.out ?_; intro w10 hr10 hc10; have HR10 := Lib.hid hr10; have HC10 := Lib.hid hc10; clear hr10 hc10))
          obtain ⟨hlent, hch⟩ := HE9.out.lent HN.out HBX.out.2.2.2.2 HC10.out
          exact bodyPost_ret (v := .agg #[.slice (some ⟨g5, 0, none⟩) 3 c5, .slice (some ⟨g5', 0, none⟩) n c5', .slice none 0 0]) (results_row rfl _ _ R 27 [.slice (some ⟨g5, 0, none⟩) 3 c5, .slice (some ⟨g5', 0, none⟩) n c5', .slice none 0 0] _ rfl HR10.out Try.underlying27 rfl size27) rfl ⟨g5, c5, g5', c5', ds, rfl, hlent, hch⟩
      · refine wp_buildRow 24 84 (.tmp 54) rfl _ 21 264 Try.underlying24 info84 (by omega) (by omega) mark84 rfl rfl ?_
        refine And.intro (HK1.out.x.cell 0) ?_
        simp only [Act.put, List.setIfInBounds_toArray, List.set_cons_zero, List.set_cons_succ]
        refine wpAnyH_norm 5 #[true, false, true, true, false, true, true, true, false, false, false] (by kernel_rfl) (by kernel_rfl) ?_
        refine wpAnyH_one (i := 1) (o := ⟨some 53, _, _, _, _, _⟩) (by kernel_rfl) rfl (by rfl) ?_
        refine wp_value (.slice Au 3 cu) (exec_load_cell 24 (.tmp 52) rfl ⟨Y, 0, none⟩ rfl _ Try.underlying24 rfl _ (HK1.out.y.cell 0)) ?_
        refine And.intro (HK1.out.x.cell 0) ?_
        simp only [Act.put, List.setIfInBounds_toArray, List.set_cons_zero, List.set_cons_succ]
        refine wpAnyH_norm 4 #[true, true, true, true, false, true, true, true, false, false, false] (by kernel_rfl) (by kernel_rfl) ?_
        refine wpAnyH_one (i := 4) (o := ⟨some 56, _, _, _, _, _⟩) (by kernel_rfl) rfl (by rfl) ?_
        have hca : Cl (w1.alloc (.cells mark84.toArray 84)) (some ⟨w1.heap.size, 0, none⟩) mark84 := (Row.new w1 84 mark84).cl0
        have hhl := HK1.out.ch.size
        obtain ⟨v5, w5, hrun, ho5, hg5⟩ := run_append_any (w1.alloc (.cells mark84.toArray 84)) w.heap.size 24 24 84 _ 21 264 Try.underlying24 info84 rfl (by omega) (.slice Au 3 cu) 3 (lparts ds 3) HK1.out.own ⟨w1.heap.size, 0, none⟩ 1 1 mark84 rfl hca mark84_one (by have := HNL.out; omega) (by have := HNL.out; omega) hhl
        have HR5 := Lib.hid hrun
        have HD5 := Lib.hid (HK1.out.grow ho5 hg5)
        obtain ⟨hv, h0⟩ | ⟨g5, c5, r5, rfl, hb5, hr5, hn5, hm5, -⟩ := owns_open_sz ho5
        · omega
        have HN5 : Hid (3 ≤ c5) := Nat.le_trans (Nat.le_succ _) hn5
        have HM5 : Hid (c5 ≤ 9223372036854775807) := Nat.le_trans hm5 (by simp [maxLen])
        clear hrun ho5 hg5 hca hhl hb5 hr5 hn5 hm5
        refine Lib.wp_append_run (w1.alloc (.cells mark84.toArray 84)) (.tmp 53) (.tmp 55) 24 24 rfl _ _ rfl rfl _ w5 HR5.out ?_
        refine And.intro (HD5.out.x.cell 0) ?_
        simp only [Act.put, List.setIfInBounds_toArray, List.set_cons_zero, List.set_cons_succ]
        refine wpAnyH_norm 3 #[true, true, true, true, true, true, true, true, false, false, false] (by kernel_rfl) (by kernel_rfl) ?_
        refine wpAnyH_one (i := 8) (o := ⟨some 60, _, _, _, _, _⟩) (by kernel_rfl) rfl (by rfl) ?_
        refine wp_value (.slice (some ⟨g5, 0, none⟩) 3 c5) (exec_cut 24 84 (.tmp 56) (.tmp 59) rfl Try.underlying24 21 (sizes_of 84 21 size84) g5 (3 + 1) c5 3 rfl rfl HN5.out HM5.out) ?_
        refine And.intro (HD5.out.x.cell 0) ?_
        simp only [Act.put, List.setIfInBounds_toArray, List.set_cons_zero, List.set_cons_succ]
        refine wpAnyH_norm 2 #[true, true, true, true, true, true, true, true, true, false, false] (by kernel_rfl) (by kernel_rfl) ?_
        refine wpAnyH_one (i := 9) (o := ⟨some 61, _, _, _, _, _⟩) (by kernel_rfl) rfl (by rfl) ?_
        refine wp_value (.pointer (some ⟨Y, 0, none⟩)) (by kernel_rfl) ?_
        refine And.intro (HD5.out.x.cell 0) ?_
        simp only [Act.put, List.setIfInBounds_toArray, List.set_cons_zero, List.set_cons_succ]
        refine wpAnyH_norm 1 #[true, true, true, true, true, true, true, true, true, true, false] (by kernel_rfl) (by kernel_rfl) ?_
        refine wpAnyH_one (i := 10) (o := ⟨none, _, _, _, _, _⟩) (by kernel_rfl) rfl (by rfl) ?_
        have HE := Lib.hid (HD5.out.end_ HBX.out.2.2.1 HBX.out.2.2.2.1 HBX.out.2.1)
        refine wp_store_cell 24 (.tmp 61) (.tmp 60) rfl Y 0 (.slice (some ⟨g5, 0, none⟩) 3 c5) rfl rfl rfl size24 (by rw [HD5.out.y.cell]; rfl) (HD5.out.y.frozen _) ?_
        refine And.intro (HE.out.x.cell 0) ?_
        simp only [Act.put, List.setIfInBounds_toArray, List.set_cons_zero, List.set_cons_succ]
        generalize w5.setCell ⟨Y, 0, none⟩ (.slice (some ⟨g5, 0, none⟩) 3 c5) = w6 at *
        refine wpAnyH_done (by kernel_rfl) ?_ _
        clear HR5 HD5 HK1 HD1 HS0
        have HOW := Lib.hid HE.out.own
        have HPK := Lib.hid (HPQ.out.keepNo HE.out.ch)
        have HPLN : Hid ((pcells qs).length = n * 6) := by
          have h := pcells_len qs
          rw [HN.out] at h
          exact h
        have HB1 : Hid (0 + n ≤ 140737488355328) := by
          have := HNL.out
          show _ ≤ _
          omega
        have HB2 : Hid ((0 + n) * 48 ≤ 140737488355328) := by
          have := HNL.out
          show _ ≤ _
          omega
        have HB3 : Hid (w.heap.size ≤ w6.heap.size) := HE.out.ch.size
        have HZ6 : Hid (0 < 6) := by show _ < _; omega
        have x1 : w6.cell? ⟨X, 1, none⟩ = some (.slice A2 n c2) := HE.out.x.cell 1
        have y1 : w6.cell? ⟨Y, 1, none⟩ = some (.slice none 0 0) := HE.out.y.cell 1
        go_upto_region 15 with (first | (at_builtin; refine wpList_append_opt (o := ⟨some 66, _, _, _, _, _⟩) rfl (.tmp 63) (.tmp 65) 22 rfl w.heap.size 46 (.agg #[.int .i64 0, .int .i64 0, .bool false, .int .i64 0, .int .i64 0, .int .i64 0]) 6 48 Try.underlying22 info46 rfl HZ6.out (.slice none 0 0) 0 [] rfl A2 n c2 (pcells qs) rfl HA2.out HOW.out HPLN.out HPK.out pcells_one HB1.out HB2.out HB3.out ?_; intro v7 w7 ho hg; obtain ⟨A7, c7, rfl⟩ := own_slice_len ho; have HE7 := Lib.hid (HE.out.grow ho hg); clear ho hg; have y1 := HE7.out.y.cell 1; have f1 := HE7.out.y.frozen 1; simp only [List.getElem?_cons_zero, List.getElem?_cons_succ] at y1))
        have HE8' := Lib.hid (HE7.out.put HBX.out.2.2.1 HBX.out.2.2.2.1 HBX.out.2.1 (.slice A7 (0 + n) c7))
        rw [Nat.zero_add] at HE8'
        have HE8 : Hid (LtE w (w7.setCell ⟨Y, 1, none⟩ (.slice A7 n c7)) X R Y [.slice (some ⟨gP, 0, none⟩) 3 cP0, .slice A2 n c2, .slice none 0 0] g5 c5 (.slice A7 n c7) (.slice A7 n c7) n (pcells qs) ds) := HE8'.out
        try rw [Nat.zero_add]
        generalize w7.setCell ⟨Y, 1, none⟩ (.slice A7 n c7) = w8 at *
        clear HE8' HE7 HE x1 y1 f1 HPK HOW HB3
        refine wp_region_held (S := fun w' : World => w'.cell? ⟨X, 1, none⟩ = some (.slice A2 n c2)) (by kernel_rfl) ?_
        change wpAnyH _ _ _ _ _ _ _ _ w8.drew
        have HD1 := Lib.hid (HE8.out.keepNo ((Ch.refl No w8).drew))
        generalize w8.drew = w9 at *
        have HS0 : Hid (w9.cell? ⟨X, 1, none⟩ = some (.slice A2 n c2)) := HD1.out.x.cell 1
        have HK1 := Lib.hid (HD1.out.keepNo ((Ch.refl No w9).alloc (.cells mark46.toArray 46)))
        refine wpAnyH_take (i := 0) (oi := ⟨some 68, _, _, _, _, _⟩) (v := .pointer (some ⟨Y, 1, none⟩)) rfl (by kernel_rfl) (by kernel_rfl) (by kernel_rfl) (fun _ _ _ h => h) (Or.inl ⟨by rfl, fun _ _ => by kernel_rfl⟩) HS0.out ?_
        simp only [Act.put, List.setIfInBounds_toArray, List.set_cons_zero, List.set_cons_succ]
        refine wpAnyH_take (i := 2) (oi := ⟨some 70, _, _, _, _, _⟩) (v := .agg mark46.toArray) rfl (by kernel_rfl) (by kernel_rfl) (by kernel_rfl) (fun _ _ _ h => h) (Or.inl ⟨by rfl, fun _ _ => by kernel_rfl⟩) HS0.out ?_
        simp only [Act.put, List.setIfInBounds_toArray, List.set_cons_zero, List.set_cons_succ]
        refine wpAnyH_take (i := 5) (oi := ⟨some 73, _, _, _, _, _⟩) (v := .pointer (some ⟨X, 1, none⟩)) rfl (by kernel_rfl) (by kernel_rfl) (by kernel_rfl) (fun _ _ _ h => h) (Or.inl ⟨by rfl, fun _ _ => by kernel_rfl⟩) HS0.out ?_
        simp only [Act.put, List.setIfInBounds_toArray, List.set_cons_zero, List.set_cons_succ]
        refine wpAnyH_take (i := 6) (oi := ⟨some 74, _, _, _, _, _⟩) (v := .slice A2 n c2) rfl (by kernel_rfl) (by kernel_rfl) (by kernel_rfl) (fun _ _ _ h => h) (Or.inl ⟨by rfl, fun _ hw' => exec_load_cell 22 (.tmp 73) rfl ⟨X, 1, none⟩ rfl _ Try.underlying22 rfl _ hw'⟩) HS0.out ?_
        simp only [Act.put, List.setIfInBounds_toArray, List.set_cons_zero, List.set_cons_succ]
        refine wpAnyH_take (i := 7) (oi := ⟨some 75, _, _, _, _, _⟩) (v := .int .i64 n) rfl (by kernel_rfl) (by kernel_rfl) (by kernel_rfl) (fun _ _ _ h => h) (Or.inl ⟨by rfl, fun _ _ => by kernel_rfl⟩) HS0.out ?_
        simp only [Act.put, List.setIfInBounds_toArray, List.set_cons_zero, List.set_cons_succ]
        refine wpAnyH_norm 6 #[true, false, true, false, false, true, true, true, false, false, false] (by kernel_rfl) (by kernel_rfl) ?_
        refine wpAnyH_two (i := 1) (j := 3) (oi := ⟨some 69, _, _, _, _, _⟩) (oj := ⟨some 71, _, _, _, _, _⟩) (by kernel_rfl) rfl rfl (by rfl) (by rfl) ?_ ?_
        · refine wp_value (.slice A7 n c7) (exec_load_cell 22 (.tmp 68) rfl ⟨Y, 1, none⟩ rfl _ Try.underlying22 rfl _ (HD1.out.y.cell 1)) ?_
          refine And.intro (HD1.out.x.cell 1) ?_
          simp only [Act.put, List.setIfInBounds_toArray, List.set_cons_zero, List.set_cons_succ]
          refine wpAnyH_norm 5 #[true, true, true, false, false, true, true, true, false, false, false] (by kernel_rfl) (by kernel_rfl) ?_
          refine wpAnyH_one (i := 3) (o := ⟨some 71, _, _, _, _, _⟩) (by kernel_rfl) rfl (by rfl) ?_
          refine wp_buildRow 22 46 (.tmp 70) rfl _ 6 48 Try.underlying22 info46 (by omega) (by omega) mark46 rfl rfl ?_
          refine And.intro (HK1.out.x.cell 1) ?_
          simp only [Act.put, List.setIfInBounds_toArray, List.set_cons_zero, List.set_cons_succ]
          refine wpAnyH_norm 4 #[true, true, true, true, false, true, true, true, false, false, false] (by kernel_rfl) (by kernel_rfl) ?_
          refine wpAnyH_one (i := 4) (o := ⟨some 72, _, _, _, _, _⟩) (by kernel_rfl) rfl (by rfl) ?_
          have hca : Cl (w9.alloc (.cells mark46.toArray 46)) (some ⟨w9.heap.size, 0, none⟩) mark46 := (Row.new w9 46 mark46).cl0
          have hhl := HK1.out.ch.size
          obtain ⟨v5', w5', hrun, ho5, hg5'⟩ := run_append_any (w9.alloc (.cells mark46.toArray 46)) w.heap.size 22 22 46 _ 6 48 Try.underlying22 info46 rfl (by omega) (.slice A7 n c7) n (pcells qs) HK1.out.own ⟨w9.heap.size, 0, none⟩ 1 1 mark46 rfl hca mark46_one (by have := HNL.out; omega) (by have := HNL.out; omega) hhl
          have HR5 := Lib.hid hrun
          have HD5 := Lib.hid (HK1.out.grow ho5 hg5')
          obtain ⟨hv, h0⟩ | ⟨g5', c5', r5', rfl, hb5, hr5', hn5, hm5, -⟩ := owns_open_sz ho5
          · omega
          have HN5 : Hid (n ≤ c5') := Nat.le_trans (Nat.le_succ _) hn5
          have HM5 : Hid (c5' ≤ 9223372036854775807) := Nat.le_trans hm5 (by simp [maxLen])
          clear hrun ho5 hg5' hca hhl hb5 hr5' hn5 hm5
          refine Lib.wp_append_run (w9.alloc (.cells mark46.toArray 46)) (.tmp 69) (.tmp 71) 22 22 rfl _ _ rfl rfl _ w5' HR5.out ?_
          refine And.intro (HD5.out.x.cell 1) ?_
          simp only [Act.put, List.setIfInBounds_toArray, List.set_cons_zero, List.set_cons_succ]
          refine wpAnyH_norm 3 #[true, true, true, true, true, true, true, true, false, false, false] (by kernel_rfl) (by kernel_rfl) ?_
          refine wpAnyH_one (i := 8) (o := ⟨some 76, _, _, _, _, _⟩) (by kernel_rfl) rfl (by rfl) ?_
          refine wp_value (.slice (some ⟨g5', 0, none⟩) n c5') (exec_cut 22 46 (.tmp 72) (.tmp 75) rfl Try.underlying22 6 (sizes_of 46 6 size46') g5' (n + 1) c5' n rfl rfl HN5.out HM5.out) ?_
          refine And.intro (HD5.out.x.cell 1) ?_
          simp only [Act.put, List.setIfInBounds_toArray, List.set_cons_zero, List.set_cons_succ]
          refine wpAnyH_norm 2 #[true, true, true, true, true, true, true, true, true, false, false] (by kernel_rfl) (by kernel_rfl) ?_
          refine wpAnyH_one (i := 9) (o := ⟨some 77, _, _, _, _, _⟩) (by kernel_rfl) rfl (by rfl) ?_
          refine wp_value (.pointer (some ⟨Y, 1, none⟩)) (by kernel_rfl) ?_
          refine And.intro (HD5.out.x.cell 1) ?_
          simp only [Act.put, List.setIfInBounds_toArray, List.set_cons_zero, List.set_cons_succ]
          refine wpAnyH_norm 1 #[true, true, true, true, true, true, true, true, true, true, false] (by kernel_rfl) (by kernel_rfl) ?_
          refine wpAnyH_one (i := 10) (o := ⟨none, _, _, _, _, _⟩) (by kernel_rfl) rfl (by rfl) ?_
          have HE9 := Lib.hid (HD5.out.put HBX.out.2.2.1 HBX.out.2.2.2.1 HBX.out.2.1 (.slice (some ⟨g5', 0, none⟩) n c5'))
          refine wp_store_cell 22 (.tmp 77) (.tmp 76) rfl Y 1 (.slice (some ⟨g5', 0, none⟩) n c5') rfl rfl rfl size22 (by rw [HD5.out.y.cell]; rfl) (HD5.out.y.frozen _) ?_
          refine And.intro (HE9.out.x.cell 1) ?_
          simp only [Act.put, List.setIfInBounds_toArray, List.set_cons_zero, List.set_cons_succ]
          generalize w5'.setCell ⟨Y, 1, none⟩ (.slice (some ⟨g5', 0, none⟩) n c5') = w6 at *
          refine wpAnyH_done (by kernel_rfl) ?_ _
          clear HR5 HD5 HK1 HD1 HS0
          have HO3 : Hid (∀ u ∈ ([.slice (some ⟨g5, 0, none⟩) 3 c5, .slice (some ⟨g5', 0, none⟩) n c5', .slice none 0 0] : List Value), u.oneCell' = true) := by
            intro u hu
            simp at hu
            rcases hu with rfl | rfl | rfl <;> rfl
          go_wp2_with (first | ((with_reducible refine at_op (o := ⟨some 78, _, _, _, _, _⟩) ?_); refine pl_load (o := ⟨some 78, _, _, _, _, _⟩) rfl 27 _ rfl Y rfl 27 [.slice (some ⟨g5, 0, none⟩) 3 c5, .slice (some ⟨g5', 0, none⟩) n c5', .slice none 0 0] HE9.out.y _ Try.underlying27 rfl size27 ?_) | ((with_reducible refine at_op (o := ⟨none, .store 27 (.tmp 2) (.tmp 78), _, _, _, _⟩) ?_); refine wpList_store_agg (o := ⟨none, .store 27 (.tmp 2) (.tmp 78), _, _, _, _⟩) rfl 27 (.tmp 2) (.tmp 78) rfl R rfl 27 [.slice none 0 0, .slice none 0 0, .slice none 0 0] [.slice (some ⟨g5, 0, none⟩) 3 c5, .slice (some ⟨g5', 0, none⟩) n c5', .slice none 0 0] rfl HE9.out.r size27 rfl HO3.out ?_; intro w10 hr10 hc10; have HR10 := Lib.hid hr10; have HC10 := Lib.hid hc10; clear hr10 hc10))
          obtain ⟨hlent, hch⟩ := HE9.out.lent HN.out HBX.out.2.2.2.2 HC10.out
          exact bodyPost_ret (v := .agg #[.slice (some ⟨g5, 0, none⟩) 3 c5, .slice (some ⟨g5', 0, none⟩) n c5', .slice none 0 0]) (results_row rfl _ _ R 27 [.slice (some ⟨g5, 0, none⟩) 3 c5, .slice (some ⟨g5', 0, none⟩) n c5', .slice none 0 0] _ rfl HR10.out Try.underlying27 rfl size27) rfl ⟨g5, c5, g5', c5', ds, rfl, hlent, hch⟩
        · refine wp_buildRow 22 46 (.tmp 70) rfl _ 6 48 Try.underlying22 info46 (by omega) (by omega) mark46 rfl rfl ?_
          refine And.intro (HK1.out.x.cell 1) ?_
          simp only [Act.put, List.setIfInBounds_toArray, List.set_cons_zero, List.set_cons_succ]
          refine wpAnyH_norm 5 #[true, false, true, true, false, true, true, true, false, false, false] (by kernel_rfl) (by kernel_rfl) ?_
          refine wpAnyH_one (i := 1) (o := ⟨some 69, _, _, _, _, _⟩) (by kernel_rfl) rfl (by rfl) ?_
          refine wp_value (.slice A7 n c7) (exec_load_cell 22 (.tmp 68) rfl ⟨Y, 1, none⟩ rfl _ Try.underlying22 rfl _ (HK1.out.y.cell 1)) ?_
          refine And.intro (HK1.out.x.cell 1) ?_
          simp only [Act.put, List.setIfInBounds_toArray, List.set_cons_zero, List.set_cons_succ]
          refine wpAnyH_norm 4 #[true, true, true, true, false, true, true, true, false, false, false] (by kernel_rfl) (by kernel_rfl) ?_
          refine wpAnyH_one (i := 4) (o := ⟨some 72, _, _, _, _, _⟩) (by kernel_rfl) rfl (by rfl) ?_
          have hca : Cl (w9.alloc (.cells mark46.toArray 46)) (some ⟨w9.heap.size, 0, none⟩) mark46 := (Row.new w9 46 mark46).cl0
          have hhl := HK1.out.ch.size
          obtain ⟨v5', w5', hrun, ho5, hg5'⟩ := run_append_any (w9.alloc (.cells mark46.toArray 46)) w.heap.size 22 22 46 _ 6 48 Try.underlying22 info46 rfl (by omega) (.slice A7 n c7) n (pcells qs) HK1.out.own ⟨w9.heap.size, 0, none⟩ 1 1 mark46 rfl hca mark46_one (by have := HNL.out; omega) (by have := HNL.out; omega) hhl
          have HR5 := Lib.hid hrun
          have HD5 := Lib.hid (HK1.out.grow ho5 hg5')
          obtain ⟨hv, h0⟩ | ⟨g5', c5', r5', rfl, hb5, hr5', hn5, hm5, -⟩ := owns_open_sz ho5
          · omega
          have HN5 : Hid (n ≤ c5') := Nat.le_trans (Nat.le_succ _) hn5
          have HM5 : Hid (c5' ≤ 9223372036854775807) := Nat.le_trans hm5 (by simp [maxLen])
          clear hrun ho5 hg5' hca hhl hb5 hr5' hn5 hm5
          refine Lib.wp_append_run (w9.alloc (.cells mark46.toArray 46)) (.tmp 69) (.tmp 71) 22 22 rfl _ _ rfl rfl _ w5' HR5.out ?_
          refine And.intro (HD5.out.x.cell 1) ?_
          simp only [Act.put, List.setIfInBounds_toArray, List.set_cons_zero, List.set_cons_succ]
          refine wpAnyH_norm 3 #[true, true, true, true, true, true, true, true, false, false, false] (by kernel_rfl) (by kernel_rfl) ?_
          refine wpAnyH_one (i := 8) (o := ⟨some 76, _, _, _, _, _⟩) (by kernel_rfl) rfl (by rfl) ?_
          refine wp_value (.slice (some ⟨g5', 0, none⟩) n c5') (exec_cut 22 46 (.tmp 72) (.tmp 75) rfl Try.underlying22 6 (sizes_of 46 6 size46') g5' (n + 1) c5' n rfl rfl HN5.out HM5.out) ?_
          refine And.intro (HD5.out.x.cell 1) ?_
          simp only [Act.put, List.setIfInBounds_toArray, List.set_cons_zero, List.set_cons_succ]
          refine wpAnyH_norm 2 #[true, true, true, true, true, true, true, true, true, false, false] (by kernel_rfl) (by kernel_rfl) ?_
          refine wpAnyH_one (i := 9) (o := ⟨some 77, _, _, _, _, _⟩) (by kernel_rfl) rfl (by rfl) ?_
          refine wp_value (.pointer (some ⟨Y, 1, none⟩)) (by kernel_rfl) ?_
          refine And.intro (HD5.out.x.cell 1) ?_
          simp only [Act.put, List.setIfInBounds_toArray, List.set_cons_zero, List.set_cons_succ]
          refine wpAnyH_norm 1 #[true, true, true, true, true, true, true, true, true, true, false] (by kernel_rfl) (by kernel_rfl) ?_
          refine wpAnyH_one (i := 10) (o := ⟨none, _, _, _, _, _⟩) (by kernel_rfl) rfl (by rfl) ?_
          have HE9 := Lib.hid (HD5.out.put HBX.out.2.2.1 HBX.out.2.2.2.1 HBX.out.2.1 (.slice (some ⟨g5', 0, none⟩) n c5'))
          refine wp_store_cell 22 (.tmp 77) (.tmp 76) rfl Y 1 (.slice (some ⟨g5', 0, none⟩) n c5') rfl rfl rfl size22 (by rw [HD5.out.y.cell]; rfl) (HD5.out.y.frozen _) ?_
          refine And.intro (HE9.out.x.cell 1) ?_
          simp only [Act.put, List.setIfInBounds_toArray, List.set_cons_zero, List.set_cons_succ]
          generalize w5'.setCell ⟨Y, 1, none⟩ (.slice (some ⟨g5', 0, none⟩) n c5') = w6 at *
          refine wpAnyH_done (by kernel_rfl) ?_ _
          clear HR5 HD5 HK1 HD1 HS0
          have HO3 : Hid (∀ u ∈ ([.slice (some ⟨g5, 0, none⟩) 3 c5, .slice (some ⟨g5', 0, none⟩) n c5', .slice none 0 0] : List Value), u.oneCell' = true) := by
            intro u hu
            simp at hu
            rcases hu with rfl | rfl | rfl <;> rfl
          go_wp2_with (first | ((with_reducible refine at_op (o := ⟨some 78, _, _, _, _, _⟩) ?_); refine pl_load (o := ⟨some 78, _, _, _, _, _⟩) rfl 27 _ rfl Y rfl 27 [.slice (some ⟨g5, 0, none⟩) 3 c5, .slice (some ⟨g5', 0, none⟩) n c5', .slice none 0 0] HE9.out.y _ Try.underlying27 rfl size27 ?_) | ((with_reducible refine at_op (o := ⟨none, .store 27 (.tmp 2) (.tmp 78), _, _, _, _⟩) ?_); refine wpList_store_agg (o := ⟨none, .store 27 (.tmp 2) (.tmp 78), _, _, _, _⟩) rfl 27 (.tmp 2) (.tmp 78) rfl R rfl 27 [.slice none 0 0, .slice none 0 0, .slice none 0 0] [.slice (some ⟨g5, 0, none⟩) 3 c5, .slice (some ⟨g5', 0, none⟩) n c5', .slice none 0 0] rfl HE9.out.r size27 rfl HO3.out ?_; intro w10 hr10 hc10; have HR10 := Lib.hid hr10; have HC10 := Lib.hid hc10; clear hr10 hc10))
          obtain ⟨hlent, hch⟩ := HE9.out.lent HN.out HBX.out.2.2.2.2 HC10.out
          exact bodyPost_ret (v := .agg #[.slice (some ⟨g5, 0, none⟩) 3 c5, .slice (some ⟨g5', 0, none⟩) n c5', .slice none 0 0]) (results_row rfl _ _ R 27 [.slice (some ⟨g5, 0, none⟩) 3 c5, .slice (some ⟨g5', 0, none⟩) n c5', .slice none 0 0] _ rfl HR10.out Try.underlying27 rfl size27) rfl ⟨g5, c5, g5', c5', ds, rfl, hlent, hch⟩
end Go.Proofs.Ytlokpcbiomjcnaa
