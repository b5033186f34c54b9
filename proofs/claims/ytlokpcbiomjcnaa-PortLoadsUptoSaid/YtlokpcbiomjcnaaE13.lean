/- image, walked. -/
import Derived.Test.YtlokpcbiomjcnaaE12
set_option linter.unusedVariables false
set_option linter.unusedSimpArgs false
namespace Go.Proofs.Ytlokpcbiomjcnaa
open Go.RowKit
theorem info74 : (Try.prog.info? 74).map (fun i => (i.zero, i.size, i.bytes)) = some (some (.agg #[.int .u8 0, .int .u8 0, .int .u8 0, .int .u8 0, .int .i32 0]), 5, 8) := by kernel_rfl
theorem info77 : (Try.prog.info? 77).map (fun i => (i.zero, i.size, i.bytes)) = some (some (.agg #[.int .i64 0, .int .i64 0, .int .i64 0, .int .i64 0, .int .i64 0, .bool false]), 6, 48) := by kernel_rfl
theorem info84 : (Try.prog.info? 84).map (fun i => (i.zero, i.size, i.bytes)) = some (some (.agg #[.int .i64 0, .int .i64 0, .int .i64 0, .int .i64 0, .int .i64 0, .int .i64 0, .slice none 0 0, .slice none 0 0, .slice none 0 0, .int .i64 0, .int .i64 0, .int .i64 0, .int .i64 0, .int .i64 0, .int .i64 0, .int .i64 0, .int .i64 0, .int .i64 0, .slice none 0 0, .slice none 0 0, .slice none 0 0]), 21, 264) := by kernel_rfl
theorem size72 : (Try.prog.info? 72).map (·.size) = some 4 := by kernel_rfl
def instr0 : List Value := [.int .u8 0, .int .u8 0, .int .u8 0, .int .u8 0, .int .i32 0]
def proc0 : List Value := [.int .i64 0, .int .i64 0, .int .i64 0, .int .i64 0, .int .i64 0, .bool false]
/-- a plain partition's cells -/
def pcell (i : Int) (gc gp : Nat) : List Value := [.int .i64 8, .int .i64 1, .int .i64 i, .int .i64 (i + 1), .int .i64 0, .int .i64 0, .slice none 0 0, .slice (some ⟨gc, 0, none⟩) 1 1, .slice (some ⟨gp, 0, none⟩) 1 1, .int .i64 0, .int .i64 0, .int .i64 0, .int .i64 0, .int .i64 0, .int .i64 0, .int .i64 0, .int .i64 0, .int .i64 0, .slice none 0 0, .slice none 0 0, .slice none 0 0]
def pparts (cs : Nat → Nat × Nat) (k : Nat) : List Value := (List.range k).flatMap fun i : Nat => pcell (i : Int) (cs i).1 (cs i).2
theorem pparts_succ (cs : Nat → Nat × Nat) (k : Nat) : pparts cs (k + 1) = pparts cs k ++ pcell k (cs k).1 (cs k).2 := by
  unfold pparts
  rw [List.range_succ, List.flatMap_append]
  simp
theorem pparts_ext {cs ds : Nat → Nat × Nat} {k : Nat} (h : ∀ i, i < k → cs i = ds i) : pparts cs k = pparts ds k := by
  induction k with
  | zero => rfl
  | succ k ih => rw [pparts_succ, pparts_succ, ih (fun i hi => h i (by omega)), h k (by omega)]
/-- the codes and procs of the first k partitions -/
def Cps (b : Nat) (w : World) (cs : Nat → Nat × Nat) (k : Nat) : Prop := ∀ i, i < k → Row w (cs i).1 74 instr0 ∧ Row w (cs i).2 77 proc0 ∧ b ≤ (cs i).1 ∧ b ≤ (cs i).2
theorem Cps.keepNo {b : Nat} {w w' : World} {cs : Nat → Nat × Nat} {k : Nat} (h : Cps b w cs k) (hc : Ch No w w') : Cps b w' cs k := fun i hi => by
  obtain ⟨h1, h2, h3, h4⟩ := h i hi
  exact ⟨h1.keepNo hc, h2.keepNo hc, h3, h4⟩
theorem Cps.keepOwn {b : Nat} {w w' : World} {cs : Nat → Nat × Nat} {k : Nat} {v : Value} {n : Nat} {L : List Value} (h : Cps b w cs k) (hv : w.ownsRow b 84 21 v n L) (hc : Ch (fun i => v.ownBlock = some i) w w') : Cps b w' cs k := fun i hi => by
  obtain ⟨h1, h2, h3, h4⟩ := h i hi
  exact ⟨h1.keep hc (own_ne_row hv h1 (by decide)), h2.keep hc (own_ne_row hv h2 (by decide)), h3, h4⟩
/-- what lasts in image's second loop -/
structure ImP (w wr : World) (X : Nat) (qs : List Pt) (u : Value) (k : Nat) (v : Value) (cs : Nat → Nat × Nat) : Prop where
  ports : wr.ownsRow w.heap.size 46 6 u qs.length (pcells qs)
  parts : wr.ownsRow w.heap.size 84 21 v k (pparts cs k)
  cps : Cps w.heap.size wr cs k
  box : Row wr X 27 [.slice none 0 0, .slice none 0 0, .slice none 0 0]
  ch : Ch No w wr
theorem ImP.keepNo {w wr w' : World} {X : Nat} {qs : List Pt} {u : Value} {k : Nat} {v : Value} {cs : Nat → Nat × Nat} (h : ImP w wr X qs u k v cs) (hc : Ch No wr w') : ImP w w' X qs u k v cs :=
  ⟨owns_keepNo h.ports hc, owns_keepNo h.parts hc, h.cps.keepNo hc, h.box.keepNo hc, h.ch.then_ hc⟩
theorem pcell_one (i : Int) (a b : Nat) : ∀ u ∈ pcell i a b, u.oneCell' = true := by
  intro u hu
  simp [pcell] at hu
  rcases hu with rfl | rfl | rfl | rfl | rfl | rfl | rfl | rfl | rfl | rfl <;> rfl
theorem size27 : (Try.prog.info? 27).map (·.size) = some 3 := by kernel_rfl
theorem row_ne {w : World} {g h : Nat} {t u : TypeId} {L M : List Value} (a : Row w g t L) (b : Row w h u M) (hn : t ≠ u) : g ≠ h := fun e => by
  subst e
  exact hn (a.eq_ b).1
theorem own_row {w : World} {base n size : Nat} {t : TypeId} {v : Value} {L : List Value} (h : w.ownsRow base t size v n L) {k : Nat} (hk : v.ownBlock = some k) : ∃ M, Row w k t M := by
  rcases owns_open_sz h with ⟨rfl, _⟩ | ⟨g, cap, rest, rfl, _, hr, _⟩
  · simp [Value.ownBlock] at hk
  · simp [Value.ownBlock] at hk
    subst hk
    exact ⟨_, hr⟩
/-- what lasts in image -/
structure ImI (w wr : World) (X : Nat) (ps : List Pt) (k : Nat) (v : Value) : Prop where
  own : wr.ownsRow w.heap.size 46 6 v k (pcells ((ps.take k).map imgPt))
  box : Row wr X 27 [.slice none 0 0, .slice none 0 0, .slice none 0 0]
  ch : Ch No w wr
theorem ImI.keepNo {w wr w' : World} {X : Nat} {ps : List Pt} {k : Nat} {v : Value} (h : ImI w wr X ps k v) (hc : Ch No wr w') : ImI w w' X ps k v := ⟨owns_keepNo h.own hc, h.box.keepNo hc, h.ch.then_ hc⟩
set_option maxHeartbeats 4000000 in
set_option maxRecDepth 100000 in
theorem image_walk {w : World} {A : Option Addr} {n c : Nat} {ps : List Pt} (hn : n = ps.length) (hn63 : n ≤ 9223372036854775807) (hA : Pts w A ps) :
    Calls Try.prog 7 #[.slice A n c] w fun e w' => ∃ vp v cs, e = .returned (.agg #[vp, v, .slice none 0 0]) ∧ w'.ownsRow w.heap.size 46 6 v (imgPts ps).length (pcells (imgPts ps)) ∧ w'.ownsRow w.heap.size 84 21 vp 3 (pparts cs 3) ∧ Cps w.heap.size w' cs 3 ∧ Ch No w w' := by
  have HA := Lib.hid hA
  have HN := Lib.hid hn
  clear hA hn
  go_enter Try.func7, Try.ntmps7
  go_upto_region 3 with (fail)
  have HI : Hid (ImI w (w.alloc (.cells #[.slice none 0 0, .slice none 0 0, .slice none 0 0] 27)) w.heap.size ps 0 (.slice none 0 0)) := ⟨World.ownsRow_nil _ _ _ _, Row.new w 27 [.slice none 0 0, .slice none 0 0, .slice none 0 0], (Ch.refl _ _).alloc _⟩
  generalize w.alloc (.cells #[.slice none 0 0, .slice none 0 0, .slice none 0 0] 27) = w1 at *
  obtain ⟨X, hX⟩ : ∃ X, w.heap.size = X := ⟨_, rfl⟩
  rw [hX] at HI ⊢
  have HX := Lib.hid hX
  clear hX
  go_loopw [3, 4] (fun v i wr => ∃ k : Nat, k ≤ n ∧ k ≤ 64 ∧ i = .int .i64 k ∧ Hid (ImI w wr X ps k v)) (fun _ i _ => n - (intOf i).toNat)
  case atStart => exact ⟨0, Nat.zero_le _, Nat.zero_le _, rfl, HI⟩
  case round =>
    obtain ⟨k, hk, hk64, rfl, HK⟩ := hrel
    clear HI
    by_cases hlt : k < n
    · by_cases hl64 : k < 64
      · have d1 : decide ((k : Int) < (n : Int)) = true := by simp; omega
        have d2 : decide ((k : Int) < 64) = true := by simp; omega
        obtain ⟨p, hp⟩ : ∃ p, ps[k]? = some p := ⟨_, List.getElem?_eq_getElem (by have := HN.out; omega)⟩
        obtain ⟨ad, rfl, hcell⟩ := (HA.out.keep HK.out.ch) k p hp
        have HP := Lib.hid hp
        have c0 := hcell.first rfl
        have c1 := hcell.next 0 rfl
        have c2 := hcell.next 1 rfl
        have c3 := hcell.next 2 rfl
        have c4 := hcell.next 3 rfl
        have c5 := hcell.next 4 rfl
        simp only [Nat.reduceAdd] at c1 c2 c3 c4 c5
        clear hcell hp
        have hsz : k * 6 ≤ 400 := by omega
        go_upto_region 6 with (fail)
        have HP4 : Hid (Row (wr.alloc (.cells #[.int .i64 p.part, .int .i64 p.kind, .bool p.out, .int .i64 p.size, .int .i64 p.depth, .int .i64 p.refresh] 46)) wr.heap.size 46 [.int .i64 p.part, .int .i64 p.kind, .bool p.out, .int .i64 p.size, .int .i64 p.depth, .int .i64 p.refresh]) := Row.new wr 46 _
        have HK4 := Lib.hid (HK.out.keepNo ((Ch.refl No wr).alloc (.cells #[.int .i64 p.part, .int .i64 p.kind, .bool p.out, .int .i64 p.size, .int .i64 p.depth, .int .i64 p.refresh] 46)))
        generalize wr.alloc (.cells #[.int .i64 p.part, .int .i64 p.kind, .bool p.out, .int .i64 p.size, .int .i64 p.depth, .int .i64 p.refresh] 46) = w4 at *
        generalize wr.heap.size = P at *
        clear c0 c1 c2 c3 c4 c5 HK
        have c0 : w4.cell? ⟨P, 0, none⟩ = some (.int .i64 p.part) := by rw [HP4.out.cell]; rfl
        have c1 : w4.cell? ⟨P, 1, none⟩ = some (.int .i64 p.kind) := by rw [HP4.out.cell]; rfl
        have c2 : w4.cell? ⟨P, 2, none⟩ = some (.bool p.out) := by rw [HP4.out.cell]; rfl
        have c3 : w4.cell? ⟨P, 3, none⟩ = some (.int .i64 p.size) := by rw [HP4.out.cell]; rfl
        go_upto_region 7 with (fail)
        have HBa : Hid (0 ≤ andI p.part 1 ∧ andI p.part 1 ≤ 1) := and_le p.part 1 (by decide)
        have HBb : Hid (0 ≤ andI p.kind 1 ∧ andI p.kind 1 ≤ 1) := and_le p.kind 1 (by decide)
        have HBc : Hid (0 ≤ andI p.size 15 ∧ andI p.size 15 ≤ 15) := and_le p.size 15 (by decide)
        have HBd : Hid (0 ≤ andI p.depth 63 ∧ andI p.depth 63 ≤ 63) := and_le p.depth 63 (by decide)
        obtain ⟨q, hq⟩ : ∃ q, q = imgPt p := ⟨_, rfl⟩
        have E1 : wrap64 (1 + bits .and .i64 p.part 1) = q.part := by
          have h := HBa.out
          rw [hq]
          show wrap64 (1 + andI p.part 1) = 1 + andI p.part 1
          unfold wrap64
          omega
        have E2 : bits .and .i64 p.kind 1 = q.kind := by rw [hq]; rfl
        have E3 : wrap64 (1 + bits .and .i64 p.size 15) = q.size := by
          have h := HBc.out
          rw [hq]
          show wrap64 (1 + andI p.size 15) = 1 + andI p.size 15
          unfold wrap64
          omega
        have E4 : p.out = q.out := by rw [hq]; rfl
        rw [E1, E2, E3, E4]
        have HQP : Hid (q = imgPt p) := hq
        have HKD : Hid (q.kind = 0 ∨ q.kind = 1) := by
          have h := HBb.out
          show q.kind = 0 ∨ q.kind = 1
          rw [hq]
          show andI p.kind 1 = 0 ∨ andI p.kind 1 = 1
          omega
        have HP5 := Lib.hid (HP4.out.alloc (.cells #[.int .i64 q.part, .int .i64 q.kind, .bool q.out, .int .i64 q.size, .int .i64 0, .int .i64 0] 46))
        have HK5 := Lib.hid (HK4.out.keepNo ((Ch.refl No w4).alloc (.cells #[.int .i64 q.part, .int .i64 q.kind, .bool q.out, .int .i64 q.size, .int .i64 0, .int .i64 0] 46)))
        have HQ5 : Hid (Row (w4.alloc (.cells #[.int .i64 q.part, .int .i64 q.kind, .bool q.out, .int .i64 q.size, .int .i64 0, .int .i64 0] 46)) w4.heap.size 46 [.int .i64 q.part, .int .i64 q.kind, .bool q.out, .int .i64 q.size, .int .i64 0, .int .i64 0]) := Row.new w4 46 _
        have HQN : Hid (w.heap.size ≤ w4.heap.size) := HK4.out.ch.size
        have HQX : Hid (X ≠ w4.heap.size) := by
          have := HK4.out.box.lt
          show X ≠ _
          omega
        generalize w4.alloc (.cells #[.int .i64 q.part, .int .i64 q.kind, .bool q.out, .int .i64 q.size, .int .i64 0, .int .i64 0] 46) = w5 at *
        have HOQ : Hid (¬ u3.ownBlock = some w4.heap.size) := fun he => by
          have h1 := (HK4.out.own.lt _ he).2
          omega
        generalize w4.heap.size = Q at *
        clear c0 c1 c2 c3 E1 E2 E3 HK4 HP4
        have c1 : w5.cell? ⟨Q, 1, none⟩ = some (.int .i64 q.kind) := by rw [HQ5.out.cell]; rfl
        have c2 : w5.cell? ⟨Q, 2, none⟩ = some (.bool q.out) := by rw [HQ5.out.cell]; rfl
        have f4 : w5.frozen? ⟨Q, 4, none⟩ = false := HQ5.out.frozen _
        have f5 : w5.frozen? ⟨Q, 5, none⟩ = false := HQ5.out.frozen _
        have z4 : w5.cell? ⟨Q, 4, none⟩ = some (.int .i64 0) := by rw [HQ5.out.cell]; rfl
        have z5 : w5.cell? ⟨Q, 5, none⟩ = some (.int .i64 0) := by rw [HQ5.out.cell]; rfl
        have c4 : w5.cell? ⟨P, 4, none⟩ = some (.int .i64 p.depth) := by rw [HP5.out.cell]; rfl
        have c5 : w5.cell? ⟨P, 5, none⟩ = some (.int .i64 p.refresh) := by rw [HP5.out.cell]; rfl
        by_cases hkd : q.kind = 1
        · have hb : (q.kind == 1) = true := by simp [hkd]
          have E5 : wrap64 (1 + bits .and .i64 p.depth 63) = q.depth := by
            have h := HBd.out
            have hk' : andI p.kind 1 = 1 := by rw [hq] at hkd; exact hkd
            rw [hq]
            show wrap64 (1 + andI p.depth 63) = if andI p.kind 1 = 1 then 1 + andI p.depth 63 else 0
            rw [if_pos hk']
            unfold wrap64
            omega
          have HR0 : Hid (q.refresh = 0) := by
            have hk' : andI p.kind 1 = 1 := by rw [hq] at hkd; exact hkd
            show q.refresh = 0
            rw [hq]
            show (if andI p.kind 1 = 1 then 0 else _) = _
            rw [if_pos hk']
          clear hkd hq E4
          go_upto_region 11 with (fail)
          try rw [E5]
          have HQ6 : Hid (Row (w5.setCell ⟨Q, 4, none⟩ (.int .i64 q.depth)) Q 46 [.int .i64 q.part, .int .i64 q.kind, .bool q.out, .int .i64 q.size, .int .i64 q.depth, .int .i64 q.refresh]) := by
            have h := HQ5.out.set_ 4 (.int .i64 q.depth)
            rw [show [Value.int .i64 q.part, .int .i64 q.kind, .bool q.out, .int .i64 q.size, .int .i64 0, .int .i64 0].set 4 (.int .i64 q.depth) = [.int .i64 q.part, .int .i64 q.kind, .bool q.out, .int .i64 q.size, .int .i64 q.depth, .int .i64 q.refresh] by rw [HR0.out]; rfl] at h
            exact h
          have HCS : Hid (Ch (Is Q) w5 (w5.setCell ⟨Q, 4, none⟩ (.int .i64 q.depth))) := Ch.setCell (D := Is Q) (p := ⟨Q, 4, none⟩) (Ch.refl _ _) (fun _ => rfl) _
          have HK6 : Hid (ImI w (w5.setCell ⟨Q, 4, none⟩ (.int .i64 q.depth)) X ps k u3) := ⟨owns_keepIs HK5.out.own HCS.out HOQ.out, HK5.out.box.keepIs HCS.out HQX.out, ch_newg HK5.out.ch HCS.out HQN.out⟩
          generalize w5.setCell ⟨Q, 4, none⟩ (.int .i64 q.depth) = w6 at *
          clear c1 c2 c4 c5 f4 f5 z4 z5 HK5 HQ5 HP5 HCS E5 hb
          have HQ8 : Hid (Row (w6.alloc (.cells #[.int .i64 q.part, .int .i64 q.kind, .bool q.out, .int .i64 q.size, .int .i64 q.depth, .int .i64 q.refresh] 46)) w6.heap.size 46 [.int .i64 q.part, .int .i64 q.kind, .bool q.out, .int .i64 q.size, .int .i64 q.depth, .int .i64 q.refresh]) := Row.new w6 46 _
          have HK8 := Lib.hid (HK6.out.keepNo ((Ch.refl No w6).alloc (.cells #[.int .i64 q.part, .int .i64 q.kind, .bool q.out, .int .i64 q.size, .int .i64 q.depth, .int .i64 q.refresh] 46)))
          have HOW : Hid ((w6.alloc (.cells #[.int .i64 q.part, .int .i64 q.kind, .bool q.out, .int .i64 q.size, .int .i64 q.depth, .int .i64 q.refresh] 46)).ownsRow w.heap.size 46 6 u3 k (pcells ((ps.take k).map imgPt))) := HK8.out.own
          have HCL : Hid (Cl (w6.alloc (.cells #[.int .i64 q.part, .int .i64 q.kind, .bool q.out, .int .i64 q.size, .int .i64 q.depth, .int .i64 q.refresh] 46)) (some ⟨w6.heap.size, 0, none⟩) [.int .i64 q.part, .int .i64 q.kind, .bool q.out, .int .i64 q.size, .int .i64 q.depth, .int .i64 q.refresh]) := HQ8.out.cl0
          have HB1 : Hid (k + 1 ≤ 140737488355328) := by show _ ≤ _; omega
          have HB2 : Hid ((k + 1) * 48 ≤ 140737488355328) := by show _ ≤ _; omega
          have HB3 : Hid (w.heap.size ≤ (w6.alloc (.cells #[.int .i64 q.part, .int .i64 q.kind, .bool q.out, .int .i64 q.size, .int .i64 q.depth, .int .i64 q.refresh] 46)).heap.size) := HK8.out.ch.size
          have HON : Hid (∀ u ∈ ([.int .i64 q.part, .int .i64 q.kind, .bool q.out, .int .i64 q.size, .int .i64 q.depth, .int .i64 q.refresh] : List Value), u.oneCell' = true) := pt_one q
          have HZ : Hid (0 < 6) := by show _ < _; omega
          go_upto_region 4 with (first | ((with_reducible refine at_op (o := ⟨some 54, _, _, _, _, _⟩) ?_); refine pl_load (o := ⟨some 54, _, _, _, _, _⟩) rfl 46 _ rfl Q rfl 46 [.int .i64 q.part, .int .i64 q.kind, .bool q.out, .int .i64 q.size, .int .i64 q.depth, .int .i64 q.refresh] HQ6.out _ Try.underlying46 rfl size46 ?_) | (at_builtin; refine wpList_append_sz (o := ⟨some 56, _, _, _, _, _⟩) rfl (.tmp 53) (.tmp 55) 22 rfl w.heap.size 46 (.agg #[.int .i64 0, .int .i64 0, .bool false, .int .i64 0, .int .i64 0, .int .i64 0]) 6 48 Try.underlying22 info46 rfl HZ.out u3 k (pcells ((ps.take k).map imgPt)) rfl ⟨w6.heap.size, 0, none⟩ 1 1 [.int .i64 q.part, .int .i64 q.kind, .bool q.out, .int .i64 q.size, .int .i64 q.depth, .int .i64 q.refresh] rfl HOW.out rfl HCL.out HON.out HB1.out HB2.out HB3.out ?_; intro v9 w9 ho9 hg9 hat9; have HO9 := Lib.hid ho9; have HG9 := Lib.hid hg9; have HAT9 := Lib.hid hat9; clear ho9 hg9 hat9))
          have HK9 : Hid (ImI w w9 X ps (k + 1) v9) := by
            refine ⟨?_, HK8.out.box.keep (Ch.of_grownBy HG9.out) (own_ne_row HK8.out.own HK8.out.box (by decide)), ?_⟩
            · rw [pcells_succ ps k p HP.out, ← HQP.out]
              exact HO9.out
            · exact HK8.out.ch.trans (Ch.of_grownBy HG9.out) (fun a ha he => by
                have := own_base_ HK8.out.own a he
                omega)
          clear HO9 HG9 HAT9
          go_wp2_with (fail)
          exact ⟨⟨k + 1, by omega, by omega, by go_num, HK9⟩, by simp [intOf]; omega⟩
        · have hb : (q.kind == 1) = false := by simp [hkd]
          have hk' : ¬ andI p.kind 1 = 1 := by rw [hq] at hkd; exact hkd
          have HD0 : Hid (q.depth = 0) := by
            show q.depth = 0
            rw [hq]
            show (if andI p.kind 1 = 1 then _ else 0) = _
            rw [if_neg hk']
          cases hob : q.out with
          | true =>
            have HR0 : Hid (q.refresh = 0) := by
              show q.refresh = 0
              rw [hq]
              show (if andI p.kind 1 = 1 then 0 else if p.out = true then 0 else _) = _
              rw [if_neg hk', if_pos (by rw [E4]; exact hob)]
            rw [hob] at c2
            clear hkd hq E4 hk'
            go_upto_region 11 with (fail)
            have HQ6 : Hid (Row w5 Q 46 [.int .i64 q.part, .int .i64 q.kind, .bool q.out, .int .i64 q.size, .int .i64 q.depth, .int .i64 q.refresh]) := by
              have h := HQ5.out
              show Row _ _ _ _
              rw [HR0.out, HD0.out]
              exact h
            have HK6 := HK5
            obtain ⟨w6, hw6⟩ : ∃ w6, w5 = w6 := ⟨_, rfl⟩
            rw [hw6] at HQ6 HK6 ⊢
            clear c1 c2 c4 c5 f4 f5 z4 z5 HK5 HQ5 HP5 hb hw6 hob
            have HQ8 : Hid (Row (w6.alloc (.cells #[.int .i64 q.part, .int .i64 q.kind, .bool q.out, .int .i64 q.size, .int .i64 q.depth, .int .i64 q.refresh] 46)) w6.heap.size 46 [.int .i64 q.part, .int .i64 q.kind, .bool q.out, .int .i64 q.size, .int .i64 q.depth, .int .i64 q.refresh]) := Row.new w6 46 _
            have HK8 := Lib.hid (HK6.out.keepNo ((Ch.refl No w6).alloc (.cells #[.int .i64 q.part, .int .i64 q.kind, .bool q.out, .int .i64 q.size, .int .i64 q.depth, .int .i64 q.refresh] 46)))
            have HOW : Hid ((w6.alloc (.cells #[.int .i64 q.part, .int .i64 q.kind, .bool q.out, .int .i64 q.size, .int .i64 q.depth, .int .i64 q.refresh] 46)).ownsRow w.heap.size 46 6 u3 k (pcells ((ps.take k).map imgPt))) := HK8.out.own
            have HCL : Hid (Cl (w6.alloc (.cells #[.int .i64 q.part, .int .i64 q.kind, .bool q.out, .int .i64 q.size, .int .i64 q.depth, .int .i64 q.refresh] 46)) (some ⟨w6.heap.size, 0, none⟩) [.int .i64 q.part, .int .i64 q.kind, .bool q.out, .int .i64 q.size, .int .i64 q.depth, .int .i64 q.refresh]) := HQ8.out.cl0
            have HB1 : Hid (k + 1 ≤ 140737488355328) := by show _ ≤ _; omega
            have HB2 : Hid ((k + 1) * 48 ≤ 140737488355328) := by show _ ≤ _; omega
            have HB3 : Hid (w.heap.size ≤ (w6.alloc (.cells #[.int .i64 q.part, .int .i64 q.kind, .bool q.out, .int .i64 q.size, .int .i64 q.depth, .int .i64 q.refresh] 46)).heap.size) := HK8.out.ch.size
            have HON : Hid (∀ u ∈ ([.int .i64 q.part, .int .i64 q.kind, .bool q.out, .int .i64 q.size, .int .i64 q.depth, .int .i64 q.refresh] : List Value), u.oneCell' = true) := pt_one q
            have HZ : Hid (0 < 6) := by show _ < _; omega
            go_upto_region 4 with (first | ((with_reducible refine at_op (o := ⟨some 54, _, _, _, _, _⟩) ?_); refine pl_load (o := ⟨some 54, _, _, _, _, _⟩) rfl 46 _ rfl Q rfl 46 [.int .i64 q.part, .int .i64 q.kind, .bool q.out, .int .i64 q.size, .int .i64 q.depth, .int .i64 q.refresh] HQ6.out _ Try.underlying46 rfl size46 ?_) | (at_builtin; refine wpList_append_sz (o := ⟨some 56, _, _, _, _, _⟩) rfl (.tmp 53) (.tmp 55) 22 rfl w.heap.size 46 (.agg #[.int .i64 0, .int .i64 0, .bool false, .int .i64 0, .int .i64 0, .int .i64 0]) 6 48 Try.underlying22 info46 rfl HZ.out u3 k (pcells ((ps.take k).map imgPt)) rfl ⟨w6.heap.size, 0, none⟩ 1 1 [.int .i64 q.part, .int .i64 q.kind, .bool q.out, .int .i64 q.size, .int .i64 q.depth, .int .i64 q.refresh] rfl HOW.out rfl HCL.out HON.out HB1.out HB2.out HB3.out ?_; intro v9 w9 ho9 hg9 hat9; have HO9 := Lib.hid ho9; have HG9 := Lib.hid hg9; have HAT9 := Lib.hid hat9; clear ho9 hg9 hat9))
            have HK9 : Hid (ImI w w9 X ps (k + 1) v9) := by
              refine ⟨?_, HK8.out.box.keep (Ch.of_grownBy HG9.out) (own_ne_row HK8.out.own HK8.out.box (by decide)), ?_⟩
              · rw [pcells_succ ps k p HP.out, ← HQP.out]
                exact HO9.out
              · exact HK8.out.ch.trans (Ch.of_grownBy HG9.out) (fun a ha he => by
                  have := own_base_ HK8.out.own a he
                  omega)
            clear HO9 HG9 HAT9
            go_wp2_with (fail)
            exact ⟨⟨k + 1, by omega, by omega, by go_num, HK9⟩, by simp [intOf]; omega⟩
          | false =>
            have E5 : bits .and .i64 p.refresh 1099511627775 = q.refresh := by
              rw [hq]
              show andI p.refresh 1099511627775 = (if andI p.kind 1 = 1 then 0 else if p.out = true then 0 else andI p.refresh 1099511627775)
              rw [if_neg hk', if_neg (by rw [E4, hob]; simp)]
            rw [hob] at c2
            clear hkd hq E4 hk'
            go_upto_region 11 with (fail)
            try rw [E5]
            have HQ6 : Hid (Row (w5.setCell ⟨Q, 5, none⟩ (.int .i64 q.refresh)) Q 46 [.int .i64 q.part, .int .i64 q.kind, .bool q.out, .int .i64 q.size, .int .i64 q.depth, .int .i64 q.refresh]) := by
              have h := HQ5.out.set_ 5 (.int .i64 q.refresh)
              rw [show [Value.int .i64 q.part, .int .i64 q.kind, .bool q.out, .int .i64 q.size, .int .i64 0, .int .i64 0].set 5 (.int .i64 q.refresh) = [.int .i64 q.part, .int .i64 q.kind, .bool q.out, .int .i64 q.size, .int .i64 q.depth, .int .i64 q.refresh] by rw [HD0.out]; rfl] at h
              exact h
            have HCS : Hid (Ch (Is Q) w5 (w5.setCell ⟨Q, 5, none⟩ (.int .i64 q.refresh))) := Ch.setCell (D := Is Q) (p := ⟨Q, 5, none⟩) (Ch.refl _ _) (fun _ => rfl) _
            have HK6 : Hid (ImI w (w5.setCell ⟨Q, 5, none⟩ (.int .i64 q.refresh)) X ps k u3) := ⟨owns_keepIs HK5.out.own HCS.out HOQ.out, HK5.out.box.keepIs HCS.out HQX.out, ch_newg HK5.out.ch HCS.out HQN.out⟩
            generalize w5.setCell ⟨Q, 5, none⟩ (.int .i64 q.refresh) = w6 at *
            clear c1 c2 c4 c5 f4 f5 z4 z5 HK5 HQ5 HP5 HCS E5 hb hob
            have HQ8 : Hid (Row (w6.alloc (.cells #[.int .i64 q.part, .int .i64 q.kind, .bool q.out, .int .i64 q.size, .int .i64 q.depth, .int .i64 q.refresh] 46)) w6.heap.size 46 [.int .i64 q.part, .int .i64 q.kind, .bool q.out, .int .i64 q.size, .int .i64 q.depth, .int .i64 q.refresh]) := Row.new w6 46 _
            have HK8 := Lib.hid (HK6.out.keepNo ((Ch.refl No w6).alloc (.cells #[.int .i64 q.part, .int .i64 q.kind, .bool q.out, .int .i64 q.size, .int .i64 q.depth, .int .i64 q.refresh] 46)))
            have HOW : Hid ((w6.alloc (.cells #[.int .i64 q.part, .int .i64 q.kind, .bool q.out, .int .i64 q.size, .int .i64 q.depth, .int .i64 q.refresh] 46)).ownsRow w.heap.size 46 6 u3 k (pcells ((ps.take k).map imgPt))) := HK8.out.own
            have HCL : Hid (Cl (w6.alloc (.cells #[.int .i64 q.part, .int .i64 q.kind, .bool q.out, .int .i64 q.size, .int .i64 q.depth, .int .i64 q.refresh] 46)) (some ⟨w6.heap.size, 0, none⟩) [.int .i64 q.part, .int .i64 q.kind, .bool q.out, .int .i64 q.size, .int .i64 q.depth, .int .i64 q.refresh]) := HQ8.out.cl0
            have HB1 : Hid (k + 1 ≤ 140737488355328) := by show _ ≤ _; omega
            have HB2 : Hid ((k + 1) * 48 ≤ 140737488355328) := by show _ ≤ _; omega
            have HB3 : Hid (w.heap.size ≤ (w6.alloc (.cells #[.int .i64 q.part, .int .i64 q.kind, .bool q.out, .int .i64 q.size, .int .i64 q.depth, .int .i64 q.refresh] 46)).heap.size) := HK8.out.ch.size
            have HON : Hid (∀ u ∈ ([.int .i64 q.part, .int .i64 q.kind, .bool q.out, .int .i64 q.size, .int .i64 q.depth, .int .i64 q.refresh] : List Value), u.oneCell' = true) := pt_one q
            have HZ : Hid (0 < 6) := by show _ < _; omega
            go_upto_region 4 with (first | ((with_reducible refine at_op (o := ⟨some 54, _, _, _, _, _⟩) ?_); refine pl_load (o := ⟨some 54, _, _, _, _, _⟩) rfl 46 _ rfl Q rfl 46 [.int .i64 q.part, .int .i64 q.kind, .bool q.out, .int .i64 q.size, .int .i64 q.depth, .int .i64 q.refresh] HQ6.out _ Try.underlying46 rfl size46 ?_) | (at_builtin; refine wpList_append_sz (o := ⟨some 56, _, _, _, _, _⟩) rfl (.tmp 53) (.tmp 55) 22 rfl w.heap.size 46 (.agg #[.int .i64 0, .int .i64 0, .bool false, .int .i64 0, .int .i64 0, .int .i64 0]) 6 48 Try.underlying22 info46 rfl HZ.out u3 k (pcells ((ps.take k).map imgPt)) rfl ⟨w6.heap.size, 0, none⟩ 1 1 [.int .i64 q.part, .int .i64 q.kind, .bool q.out, .int .i64 q.size, .int .i64 q.depth, .int .i64 q.refresh] rfl HOW.out rfl HCL.out HON.out HB1.out HB2.out HB3.out ?_; intro v9 w9 ho9 hg9 hat9; have HO9 := Lib.hid ho9; have HG9 := Lib.hid hg9; have HAT9 := Lib.hid hat9; clear ho9 hg9 hat9))
            have HK9 : Hid (ImI w w9 X ps (k + 1) v9) := by
              refine ⟨?_, HK8.out.box.keep (Ch.of_grownBy HG9.out) (own_ne_row HK8.out.own HK8.out.box (by decide)), ?_⟩
              · rw [pcells_succ ps k p HP.out, ← HQP.out]
                exact HO9.out
              · exact HK8.out.ch.trans (Ch.of_grownBy HG9.out) (fun a ha he => by
                  have := own_base_ HK8.out.own a he
                  omega)
            clear HO9 HG9 HAT9
            go_wp2_with (fail)
            exact ⟨⟨k + 1, by omega, by omega, by go_num, HK9⟩, by simp [intOf]; omega⟩
      · have d1 : decide ((k : Int) < (n : Int)) = true := by simp; omega
        have d2 : decide ((k : Int) < 64) = false := by simp; omega
        have HE : Hid (k = (imgPts ps).length ∧ (ps.take k).map imgPt = imgPts ps) := by
          obtain rfl : k = 64 := by omega
          refine ⟨?_, rfl⟩
          have := HN.out
          simp [imgPts]
          omega
        have HM : Hid (ImP w wr X (imgPts ps) u3 0 (.slice none 0 0) (fun _ => (0, 0))) := by
          have h := HK.out.own
          rw [HE.out.2, HE.out.1] at h
          exact ⟨h, World.ownsRow_nil _ _ _ _, fun i hi => absurd hi (Nat.not_lt_zero i), HK.out.box, HK.out.ch⟩
        clear HK
        go_wp2_with (fail)
        go_loopw [7, 8] (fun v i wr => ∃ (k : Nat) (cs : Nat → Nat × Nat), k ≤ 3 ∧ i = .int .i64 k ∧ Hid (ImP w wr X (imgPts ps) u3 k v cs)) (fun _ i _ => 3 - (intOf i).toNat)
        case atStart => exact ⟨0, _, Nat.zero_le _, rfl, HM⟩
        case round =>
          clear HM
          obtain ⟨m, cs, hm, rfl, HM⟩ := hrel
          by_cases hlm : m < 3
          · have d3 : decide ((m : Int) < 3) = true := by simp; omega
            have hw : wrap64 ((m : Int) + 1) = (m : Int) + 1 := by unfold wrap64; omega
            go_upto_region 17 with (fail)
            have HS6 : Hid (Row (wr.alloc (.cells #[.int .i64 8, .int .i64 1, .int .i64 m, .int .i64 ((m : Int) + 1)] 72)) wr.heap.size 72 [.int .i64 8, .int .i64 1, .int .i64 m, .int .i64 ((m : Int) + 1)]) := Row.new wr 72 _
            have HM6 := Lib.hid (HM.out.keepNo ((Ch.refl No wr).alloc (.cells #[.int .i64 8, .int .i64 1, .int .i64 m, .int .i64 ((m : Int) + 1)] 72)))
            generalize wr.alloc (.cells #[.int .i64 8, .int .i64 1, .int .i64 m, .int .i64 ((m : Int) + 1)] 72) = w6 at *
            generalize wr.heap.size = S at *
            have HC9 : Hid (Ch No w6 (((w6.alloc (.cells #[.int .u8 0, .int .u8 0, .int .u8 0, .int .u8 0, .int .i32 0] 74)).alloc (.cells #[.int .i64 0, .int .i64 0, .int .i64 0, .int .i64 0, .int .i64 0, .bool false] 77)).alloc (.cells #[.int .i64 8, .int .i64 1, .int .i64 m, .int .i64 ((m : Int) + 1), .int .i64 0, .int .i64 0, .slice none 0 0, .slice (some ⟨w6.heap.size, 0, none⟩) 1 1, .slice (some ⟨w6.heap.size + 1, 0, none⟩) 1 1, .int .i64 0, .int .i64 0, .int .i64 0, .int .i64 0, .int .i64 0, .int .i64 0, .int .i64 0, .int .i64 0, .int .i64 0, .slice none 0 0, .slice none 0 0, .slice none 0 0] 84))) := (((Ch.refl No w6).alloc _).alloc _).alloc _
            have HM9 := Lib.hid (HM6.out.keepNo HC9.out)
            have HI9 : Hid (Row (((w6.alloc (.cells #[.int .u8 0, .int .u8 0, .int .u8 0, .int .u8 0, .int .i32 0] 74)).alloc (.cells #[.int .i64 0, .int .i64 0, .int .i64 0, .int .i64 0, .int .i64 0, .bool false] 77)).alloc (.cells #[.int .i64 8, .int .i64 1, .int .i64 m, .int .i64 ((m : Int) + 1), .int .i64 0, .int .i64 0, .slice none 0 0, .slice (some ⟨w6.heap.size, 0, none⟩) 1 1, .slice (some ⟨w6.heap.size + 1, 0, none⟩) 1 1, .int .i64 0, .int .i64 0, .int .i64 0, .int .i64 0, .int .i64 0, .int .i64 0, .int .i64 0, .int .i64 0, .int .i64 0, .slice none 0 0, .slice none 0 0, .slice none 0 0] 84)) w6.heap.size 74 instr0) := ((Row.new w6 74 instr0).alloc _).alloc _
            have HP9 : Hid (Row (((w6.alloc (.cells #[.int .u8 0, .int .u8 0, .int .u8 0, .int .u8 0, .int .i32 0] 74)).alloc (.cells #[.int .i64 0, .int .i64 0, .int .i64 0, .int .i64 0, .int .i64 0, .bool false] 77)).alloc (.cells #[.int .i64 8, .int .i64 1, .int .i64 m, .int .i64 ((m : Int) + 1), .int .i64 0, .int .i64 0, .slice none 0 0, .slice (some ⟨w6.heap.size, 0, none⟩) 1 1, .slice (some ⟨w6.heap.size + 1, 0, none⟩) 1 1, .int .i64 0, .int .i64 0, .int .i64 0, .int .i64 0, .int .i64 0, .int .i64 0, .int .i64 0, .int .i64 0, .int .i64 0, .slice none 0 0, .slice none 0 0, .slice none 0 0] 84)) (w6.heap.size + 1) 77 proc0) := (Row.new_at (w6.alloc (.cells #[.int .u8 0, .int .u8 0, .int .u8 0, .int .u8 0, .int .i32 0] 74)) 77 proc0 (by simp)).alloc _
            have HQ9 : Hid (Row (((w6.alloc (.cells #[.int .u8 0, .int .u8 0, .int .u8 0, .int .u8 0, .int .i32 0] 74)).alloc (.cells #[.int .i64 0, .int .i64 0, .int .i64 0, .int .i64 0, .int .i64 0, .bool false] 77)).alloc (.cells #[.int .i64 8, .int .i64 1, .int .i64 m, .int .i64 ((m : Int) + 1), .int .i64 0, .int .i64 0, .slice none 0 0, .slice (some ⟨w6.heap.size, 0, none⟩) 1 1, .slice (some ⟨w6.heap.size + 1, 0, none⟩) 1 1, .int .i64 0, .int .i64 0, .int .i64 0, .int .i64 0, .int .i64 0, .int .i64 0, .int .i64 0, .int .i64 0, .int .i64 0, .slice none 0 0, .slice none 0 0, .slice none 0 0] 84)) (w6.heap.size + 1 + 1) 84 [.int .i64 8, .int .i64 1, .int .i64 m, .int .i64 ((m : Int) + 1), .int .i64 0, .int .i64 0, .slice none 0 0, .slice (some ⟨w6.heap.size, 0, none⟩) 1 1, .slice (some ⟨w6.heap.size + 1, 0, none⟩) 1 1, .int .i64 0, .int .i64 0, .int .i64 0, .int .i64 0, .int .i64 0, .int .i64 0, .int .i64 0, .int .i64 0, .int .i64 0, .slice none 0 0, .slice none 0 0, .slice none 0 0]) := Row.new_at ((w6.alloc (.cells #[.int .u8 0, .int .u8 0, .int .u8 0, .int .u8 0, .int .i32 0] 74)).alloc (.cells #[.int .i64 0, .int .i64 0, .int .i64 0, .int .i64 0, .int .i64 0, .bool false] 77)) 84 [.int .i64 8, .int .i64 1, .int .i64 m, .int .i64 ((m : Int) + 1), .int .i64 0, .int .i64 0, .slice none 0 0, .slice (some ⟨w6.heap.size, 0, none⟩) 1 1, .slice (some ⟨w6.heap.size + 1, 0, none⟩) 1 1, .int .i64 0, .int .i64 0, .int .i64 0, .int .i64 0, .int .i64 0, .int .i64 0, .int .i64 0, .int .i64 0, .int .i64 0, .slice none 0 0, .slice none 0 0, .slice none 0 0] (by simp)
            have HOW : Hid (((((w6.alloc (.cells #[.int .u8 0, .int .u8 0, .int .u8 0, .int .u8 0, .int .i32 0] 74)).alloc (.cells #[.int .i64 0, .int .i64 0, .int .i64 0, .int .i64 0, .int .i64 0, .bool false] 77)).alloc (.cells #[.int .i64 8, .int .i64 1, .int .i64 m, .int .i64 ((m : Int) + 1), .int .i64 0, .int .i64 0, .slice none 0 0, .slice (some ⟨w6.heap.size, 0, none⟩) 1 1, .slice (some ⟨w6.heap.size + 1, 0, none⟩) 1 1, .int .i64 0, .int .i64 0, .int .i64 0, .int .i64 0, .int .i64 0, .int .i64 0, .int .i64 0, .int .i64 0, .int .i64 0, .slice none 0 0, .slice none 0 0, .slice none 0 0] 84))).ownsRow w.heap.size 84 21 u7 m (pparts cs m)) := HM9.out.parts
            have HCL : Hid (Cl (((w6.alloc (.cells #[.int .u8 0, .int .u8 0, .int .u8 0, .int .u8 0, .int .i32 0] 74)).alloc (.cells #[.int .i64 0, .int .i64 0, .int .i64 0, .int .i64 0, .int .i64 0, .bool false] 77)).alloc (.cells #[.int .i64 8, .int .i64 1, .int .i64 m, .int .i64 ((m : Int) + 1), .int .i64 0, .int .i64 0, .slice none 0 0, .slice (some ⟨w6.heap.size, 0, none⟩) 1 1, .slice (some ⟨w6.heap.size + 1, 0, none⟩) 1 1, .int .i64 0, .int .i64 0, .int .i64 0, .int .i64 0, .int .i64 0, .int .i64 0, .int .i64 0, .int .i64 0, .int .i64 0, .slice none 0 0, .slice none 0 0, .slice none 0 0] 84)) (some ⟨w6.heap.size + 1 + 1, 0, none⟩) [.int .i64 8, .int .i64 1, .int .i64 m, .int .i64 ((m : Int) + 1), .int .i64 0, .int .i64 0, .slice none 0 0, .slice (some ⟨w6.heap.size, 0, none⟩) 1 1, .slice (some ⟨w6.heap.size + 1, 0, none⟩) 1 1, .int .i64 0, .int .i64 0, .int .i64 0, .int .i64 0, .int .i64 0, .int .i64 0, .int .i64 0, .int .i64 0, .int .i64 0, .slice none 0 0, .slice none 0 0, .slice none 0 0]) := HQ9.out.cl0
            have HB1 : Hid (m + 1 ≤ 140737488355328) := by show _ ≤ _; omega
            have HB2 : Hid ((m + 1) * 264 ≤ 140737488355328) := by show _ ≤ _; omega
            have HB3 : Hid (w.heap.size ≤ ((((w6.alloc (.cells #[.int .u8 0, .int .u8 0, .int .u8 0, .int .u8 0, .int .i32 0] 74)).alloc (.cells #[.int .i64 0, .int .i64 0, .int .i64 0, .int .i64 0, .int .i64 0, .bool false] 77)).alloc (.cells #[.int .i64 8, .int .i64 1, .int .i64 m, .int .i64 ((m : Int) + 1), .int .i64 0, .int .i64 0, .slice none 0 0, .slice (some ⟨w6.heap.size, 0, none⟩) 1 1, .slice (some ⟨w6.heap.size + 1, 0, none⟩) 1 1, .int .i64 0, .int .i64 0, .int .i64 0, .int .i64 0, .int .i64 0, .int .i64 0, .int .i64 0, .int .i64 0, .int .i64 0, .slice none 0 0, .slice none 0 0, .slice none 0 0] 84))).heap.size) := HM9.out.ch.size
            have HON : Hid (∀ u ∈ ([.int .i64 8, .int .i64 1, .int .i64 m, .int .i64 ((m : Int) + 1), .int .i64 0, .int .i64 0, .slice none 0 0, .slice (some ⟨w6.heap.size, 0, none⟩) 1 1, .slice (some ⟨w6.heap.size + 1, 0, none⟩) 1 1, .int .i64 0, .int .i64 0, .int .i64 0, .int .i64 0, .int .i64 0, .int .i64 0, .int .i64 0, .int .i64 0, .int .i64 0, .slice none 0 0, .slice none 0 0, .slice none 0 0] : List Value), u.oneCell' = true) := pcell_one m w6.heap.size (w6.heap.size + 1)
            have HZ : Hid (0 < 21) := by show _ < _; omega
            have HBG : Hid (w.heap.size ≤ w6.heap.size) := HM6.out.ch.size
            go_upto_region 15 with (first | ((with_reducible refine at_op (o := ⟨some 66, _, _, _, _, _⟩) ?_); refine pl_load (o := ⟨some 66, _, _, _, _, _⟩) rfl 72 _ rfl S rfl 72 [.int .i64 8, .int .i64 1, .int .i64 m, .int .i64 ((m : Int) + 1)] HS6.out _ Try.underlying72 rfl size72 ?_) | (at_builtin; refine wpList_append_sz (o := ⟨some 73, _, _, _, _, _⟩) rfl (.tmp 65) (.tmp 72) 24 rfl w.heap.size 84 (.agg #[.int .i64 0, .int .i64 0, .int .i64 0, .int .i64 0, .int .i64 0, .int .i64 0, .slice none 0 0, .slice none 0 0, .slice none 0 0, .int .i64 0, .int .i64 0, .int .i64 0, .int .i64 0, .int .i64 0, .int .i64 0, .int .i64 0, .int .i64 0, .int .i64 0, .slice none 0 0, .slice none 0 0, .slice none 0 0]) 21 264 Try.underlying24 info84 rfl HZ.out u7 m (pparts cs m) rfl ⟨w6.heap.size + 1 + 1, 0, none⟩ 1 1 [.int .i64 8, .int .i64 1, .int .i64 m, .int .i64 ((m : Int) + 1), .int .i64 0, .int .i64 0, .slice none 0 0, .slice (some ⟨w6.heap.size, 0, none⟩) 1 1, .slice (some ⟨w6.heap.size + 1, 0, none⟩) 1 1, .int .i64 0, .int .i64 0, .int .i64 0, .int .i64 0, .int .i64 0, .int .i64 0, .int .i64 0, .int .i64 0, .int .i64 0, .slice none 0 0, .slice none 0 0, .slice none 0 0] rfl HOW.out rfl HCL.out HON.out HB1.out HB2.out HB3.out ?_; intro v10 w10 ho10 hg10 hat10; have HO10 := Lib.hid ho10; have HG10 := Lib.hid (Ch.of_grownBy hg10); clear ho10 hg10 hat10))
            have HM10 : Hid (ImP w w10 X (imgPts ps) u3 (m + 1) v10 (fun i => if i = m then (w6.heap.size, w6.heap.size + 1) else cs i)) := by
              refine ⟨?_, ?_, ?_, HM9.out.box.keep HG10.out (own_ne_row HOW.out HM9.out.box (by decide)), ?_⟩
              · refine owns_keep HM9.out.ports HG10.out (fun a ha he => ?_)
                have hx : ∃ L, Row _ a 46 L := own_row HM9.out.ports ha
                obtain ⟨L, hL⟩ := hx
                exact own_ne_row HOW.out hL (by decide) he
              · rw [pparts_succ, if_pos rfl, pparts_ext (ds := cs) (fun i hi => if_neg (by omega))]
                exact HO10.out
              · intro i hi
                show Row w10 (if i = m then (w6.heap.size, w6.heap.size + 1) else cs i).1 74 instr0 ∧ Row w10 (if i = m then (w6.heap.size, w6.heap.size + 1) else cs i).2 77 proc0 ∧ w.heap.size ≤ (if i = m then (w6.heap.size, w6.heap.size + 1) else cs i).1 ∧ w.heap.size ≤ (if i = m then (w6.heap.size, w6.heap.size + 1) else cs i).2
                by_cases e : i = m
                · subst e
                  rw [if_pos rfl]
                  exact ⟨HI9.out.keep HG10.out (own_ne_row HOW.out HI9.out (by decide)), HP9.out.keep HG10.out (own_ne_row HOW.out HP9.out (by decide)), HBG.out, Nat.le_succ_of_le HBG.out⟩
                · rw [if_neg e]
                  exact (HM9.out.cps.keepOwn HOW.out HG10.out) i (by omega)
              · exact HM9.out.ch.trans HG10.out (fun a ha he => by
                  have := own_base_ HOW.out a he
                  omega)
            clear HO10 HG10
            go_wp2_with (fail)
            exact ⟨⟨m + 1, _, by omega, by go_num, HM10⟩, by simp [intOf]; omega⟩
          · have d3 : decide ((m : Int) < 3) = false := by simp; omega
            obtain rfl : m = 3 := by omega
            obtain ⟨A7, k7, c7, rfl⟩ := own_slice HM.out.parts
            obtain ⟨A3, k3, c3, rfl⟩ := own_slice HM.out.ports
            have HO3 : Hid (∀ u ∈ ([.slice A7 k7 c7, .slice A3 k3 c3, .slice none 0 0] : List Value), u.oneCell' = true) := by
              intro u hu
              simp at hu
              rcases hu with rfl | rfl | rfl <;> rfl
            go_wp2_with (first | ((with_reducible refine at_op (o := ⟨none, .store 27 (.tmp 2) (.tmp 76), _, _, _, _⟩) ?_); refine wpList_store_agg (o := ⟨none, .store 27 (.tmp 2) (.tmp 76), _, _, _, _⟩) rfl 27 (.tmp 2) (.tmp 76) rfl X rfl 27 [.slice none 0 0, .slice none 0 0, .slice none 0 0] [.slice A7 k7 c7, .slice A3 k3 c3, .slice none 0 0] rfl HM.out.box size27 rfl HO3.out ?_; intro w9 hr9 hc9; have HR9 := Lib.hid hr9; have HC9 := Lib.hid hc9; clear hr9 hc9))
            have hX : w.heap.size = X := HX.out
            refine bodyPost_ret (v := .agg #[.slice A7 k7 c7, .slice A3 k3 c3, .slice none 0 0]) (results_row rfl _ _ X 27 [.slice A7 k7 c7, .slice A3 k3 c3, .slice none 0 0] _ rfl HR9.out Try.underlying27 rfl size27) rfl ⟨_, _, cs, rfl, owns_keepIs HM.out.ports HC9.out (own_ne_row HM.out.ports HM.out.box (by decide)), owns_keepIs HM.out.parts HC9.out (own_ne_row HM.out.parts HM.out.box (by decide)), ?_, ch_newg HM.out.ch HC9.out (by omega)⟩
            intro i hi
            obtain ⟨h1, h2, h3, h4⟩ := HM.out.cps i hi
            exact ⟨h1.keepIs HC9.out (row_ne h1 HM.out.box (by decide)), h2.keepIs HC9.out (row_ne h2 HM.out.box (by decide)), h3, h4⟩
    · have d1 : decide ((k : Int) < (n : Int)) = false := by simp; omega
      have HE : Hid (k = (imgPts ps).length ∧ (ps.take k).map imgPt = imgPts ps) := by
        have := HN.out
        have e1 : ps.take k = ps := List.take_of_length_le (by omega)
        have e2 : ps.take 64 = ps := List.take_of_length_le (by omega)
        refine ⟨?_, by rw [imgPts, e1, e2]⟩
        rw [imgPts, e2, List.length_map]
        omega
      have HM : Hid (ImP w wr X (imgPts ps) u3 0 (.slice none 0 0) (fun _ => (0, 0))) := by
        have h := HK.out.own
        rw [HE.out.2, HE.out.1] at h
        exact ⟨h, World.ownsRow_nil _ _ _ _, fun i hi => absurd hi (Nat.not_lt_zero i), HK.out.box, HK.out.ch⟩
      clear HK
      go_wp2_with (fail)
      go_loopw [7, 8] (fun v i wr => ∃ (k : Nat) (cs : Nat → Nat × Nat), k ≤ 3 ∧ i = .int .i64 k ∧ Hid (ImP w wr X (imgPts ps) u3 k v cs)) (fun _ i _ => 3 - (intOf i).toNat)
      case atStart => exact ⟨0, _, Nat.zero_le _, rfl, HM⟩
      case round =>
        clear HM
        obtain ⟨m, cs, hm, rfl, HM⟩ := hrel
        by_cases hlm : m < 3
        · have d3 : decide ((m : Int) < 3) = true := by simp; omega
          have hw : wrap64 ((m : Int) + 1) = (m : Int) + 1 := by unfold wrap64; omega
          go_upto_region 17 with (fail)
          have HS6 : Hid (Row (wr.alloc (.cells #[.int .i64 8, .int .i64 1, .int .i64 m, .int .i64 ((m : Int) + 1)] 72)) wr.heap.size 72 [.int .i64 8, .int .i64 1, .int .i64 m, .int .i64 ((m : Int) + 1)]) := Row.new wr 72 _
          have HM6 := Lib.hid (HM.out.keepNo ((Ch.refl No wr).alloc (.cells #[.int .i64 8, .int .i64 1, .int .i64 m, .int .i64 ((m : Int) + 1)] 72)))
          generalize wr.alloc (.cells #[.int .i64 8, .int .i64 1, .int .i64 m, .int .i64 ((m : Int) + 1)] 72) = w6 at *
          generalize wr.heap.size = S at *
          have HC9 : Hid (Ch No w6 (((w6.alloc (.cells #[.int .u8 0, .int .u8 0, .int .u8 0, .int .u8 0, .int .i32 0] 74)).alloc (.cells #[.int .i64 0, .int .i64 0, .int .i64 0, .int .i64 0, .int .i64 0, .bool false] 77)).alloc (.cells #[.int .i64 8, .int .i64 1, .int .i64 m, .int .i64 ((m : Int) + 1), .int .i64 0, .int .i64 0, .slice none 0 0, .slice (some ⟨w6.heap.size, 0, none⟩) 1 1, .slice (some ⟨w6.heap.size + 1, 0, none⟩) 1 1, .int .i64 0, .int .i64 0, .int .i64 0, .int .i64 0, .int .i64 0, .int .i64 0, .int .i64 0, .int .i64 0, .int .i64 0, .slice none 0 0, .slice none 0 0, .slice none 0 0] 84))) := (((Ch.refl No w6).alloc _).alloc _).alloc _
          have HM9 := Lib.hid (HM6.out.keepNo HC9.out)
          have HI9 : Hid (Row (((w6.alloc (.cells #[.int .u8 0, .int .u8 0, .int .u8 0, .int .u8 0, .int .i32 0] 74)).alloc (.cells #[.int .i64 0, .int .i64 0, .int .i64 0, .int .i64 0, .int .i64 0, .bool false] 77)).alloc (.cells #[.int .i64 8, .int .i64 1, .int .i64 m, .int .i64 ((m : Int) + 1), .int .i64 0, .int .i64 0, .slice none 0 0, .slice (some ⟨w6.heap.size, 0, none⟩) 1 1, .slice (some ⟨w6.heap.size + 1, 0, none⟩) 1 1, .int .i64 0, .int .i64 0, .int .i64 0, .int .i64 0, .int .i64 0, .int .i64 0, .int .i64 0, .int .i64 0, .int .i64 0, .slice none 0 0, .slice none 0 0, .slice none 0 0] 84)) w6.heap.size 74 instr0) := ((Row.new w6 74 instr0).alloc _).alloc _
          have HP9 : Hid (Row (((w6.alloc (.cells #[.int .u8 0, .int .u8 0, .int .u8 0, .int .u8 0, .int .i32 0] 74)).alloc (.cells #[.int .i64 0, .int .i64 0, .int .i64 0, .int .i64 0, .int .i64 0, .bool false] 77)).alloc (.cells #[.int .i64 8, .int .i64 1, .int .i64 m, .int .i64 ((m : Int) + 1), .int .i64 0, .int .i64 0, .slice none 0 0, .slice (some ⟨w6.heap.size, 0, none⟩) 1 1, .slice (some ⟨w6.heap.size + 1, 0, none⟩) 1 1, .int .i64 0, .int .i64 0, .int .i64 0, .int .i64 0, .int .i64 0, .int .i64 0, .int .i64 0, .int .i64 0, .int .i64 0, .slice none 0 0, .slice none 0 0, .slice none 0 0] 84)) (w6.heap.size + 1) 77 proc0) := (Row.new_at (w6.alloc (.cells #[.int .u8 0, .int .u8 0, .int .u8 0, .int .u8 0, .int .i32 0] 74)) 77 proc0 (by simp)).alloc _
          have HQ9 : Hid (Row (((w6.alloc (.cells #[.int .u8 0, .int .u8 0, .int .u8 0, .int .u8 0, .int .i32 0] 74)).alloc (.cells #[.int .i64 0, .int .i64 0, .int .i64 0, .int .i64 0, .int .i64 0, .bool false] 77)).alloc (.cells #[.int .i64 8, .int .i64 1, .int .i64 m, .int .i64 ((m : Int) + 1), .int .i64 0, .int .i64 0, .slice none 0 0, .slice (some ⟨w6.heap.size, 0, none⟩) 1 1, .slice (some ⟨w6.heap.size + 1, 0, none⟩) 1 1, .int .i64 0, .int .i64 0, .int .i64 0, .int .i64 0, .int .i64 0, .int .i64 0, .int .i64 0, .int .i64 0, .int .i64 0, .slice none 0 0, .slice none 0 0, .slice none 0 0] 84)) (w6.heap.size + 1 + 1) 84 [.int .i64 8, .int .i64 1, .int .i64 m, .int .i64 ((m : Int) + 1), .int .i64 0, .int .i64 0, .slice none 0 0, .slice (some ⟨w6.heap.size, 0, none⟩) 1 1, .slice (some ⟨w6.heap.size + 1, 0, none⟩) 1 1, .int .i64 0, .int .i64 0, .int .i64 0, .int .i64 0, .int .i64 0, .int .i64 0, .int .i64 0, .int .i64 0, .int .i64 0, .slice none 0 0, .slice none 0 0, .slice none 0 0]) := Row.new_at ((w6.alloc (.cells #[.int .u8 0, .int .u8 0, .int .u8 0, .int .u8 0, .int .i32 0] 74)).alloc (.cells #[.int .i64 0, .int .i64 0, .int .i64 0, .int .i64 0, .int .i64 0, .bool false] 77)) 84 [.int .i64 8, .int .i64 1, .int .i64 m, .int .i64 ((m : Int) + 1), .int .i64 0, .int .i64 0, .slice none 0 0, .slice (some ⟨w6.heap.size, 0, none⟩) 1 1, .slice (some ⟨w6.heap.size + 1, 0, none⟩) 1 1, .int .i64 0, .int .i64 0, .int .i64 0, .int .i64 0, .int .i64 0, .int .i64 0, .int .i64 0, .int .i64 0, .int .i64 0, .slice none 0 0, .slice none 0 0, .slice none 0 0] (by simp)
          have HOW : Hid (((((w6.alloc (.cells #[.int .u8 0, .int .u8 0, .int .u8 0, .int .u8 0, .int .i32 0] 74)).alloc (.cells #[.int .i64 0, .int .i64 0, .int .i64 0, .int .i64 0, .int .i64 0, .bool false] 77)).alloc (.cells #[.int .i64 8, .int .i64 1, .int .i64 m, .int .i64 ((m : Int) + 1), .int .i64 0, .int .i64 0, .slice none 0 0, .slice (some ⟨w6.heap.size, 0, none⟩) 1 1, .slice (some ⟨w6.heap.size + 1, 0, none⟩) 1 1, .int .i64 0, .int .i64 0, .int .i64 0, .int .i64 0, .int .i64 0, .int .i64 0, .int .i64 0, .int .i64 0, .int .i64 0, .slice none 0 0, .slice none 0 0, .slice none 0 0] 84))).ownsRow w.heap.size 84 21 u7 m (pparts cs m)) := HM9.out.parts
          have HCL : Hid (Cl (((w6.alloc (.cells #[.int .u8 0, .int .u8 0, .int .u8 0, .int .u8 0, .int .i32 0] 74)).alloc (.cells #[.int .i64 0, .int .i64 0, .int .i64 0, .int .i64 0, .int .i64 0, .bool false] 77)).alloc (.cells #[.int .i64 8, .int .i64 1, .int .i64 m, .int .i64 ((m : Int) + 1), .int .i64 0, .int .i64 0, .slice none 0 0, .slice (some ⟨w6.heap.size, 0, none⟩) 1 1, .slice (some ⟨w6.heap.size + 1, 0, none⟩) 1 1, .int .i64 0, .int .i64 0, .int .i64 0, .int .i64 0, .int .i64 0, .int .i64 0, .int .i64 0, .int .i64 0, .int .i64 0, .slice none 0 0, .slice none 0 0, .slice none 0 0] 84)) (some ⟨w6.heap.size + 1 + 1, 0, none⟩) [.int .i64 8, .int .i64 1, .int .i64 m, .int .i64 ((m : Int) + 1), .int .i64 0, .int .i64 0, .slice none 0 0, .slice (some ⟨w6.heap.size, 0, none⟩) 1 1, .slice (some ⟨w6.heap.size + 1, 0, none⟩) 1 1, .int .i64 0, .int .i64 0, .int .i64 0, .int .i64 0, .int .i64 0, .int .i64 0, .int .i64 0, .int .i64 0, .int .i64 0, .slice none 0 0, .slice none 0 0, .slice none 0 0]) := HQ9.out.cl0
          have HB1 : Hid (m + 1 ≤ 140737488355328) := by show _ ≤ _; omega
          have HB2 : Hid ((m + 1) * 264 ≤ 140737488355328) := by show _ ≤ _; omega
          have HB3 : Hid (w.heap.size ≤ ((((w6.alloc (.cells #[.int .u8 0, .int .u8 0, .int .u8 0, .int .u8 0, .int .i32 0] 74)).alloc (.cells #[.int .i64 0, .int .i64 0, .int .i64 0, .int .i64 0, .int .i64 0, .bool false] 77)).alloc (.cells #[.int .i64 8, .int .i64 1, .int .i64 m, .int .i64 ((m : Int) + 1), .int .i64 0, .int .i64 0, .slice none 0 0, .slice (some ⟨w6.heap.size, 0, none⟩) 1 1, .slice (some ⟨w6.heap.size + 1, 0, none⟩) 1 1, .int .i64 0, .int .i64 0, .int .i64 0, .int .i64 0, .int .i64 0, .int .i64 0, .int .i64 0, .int .i64 0, .int .i64 0, .slice none 0 0, .slice none 0 0, .slice none 0 0] 84))).heap.size) := HM9.out.ch.size
          have HON : Hid (∀ u ∈ ([.int .i64 8, .int .i64 1, .int .i64 m, .int .i64 ((m : Int) + 1), .int .i64 0, .int .i64 0, .slice none 0 0, .slice (some ⟨w6.heap.size, 0, none⟩) 1 1, .slice (some ⟨w6.heap.size + 1, 0, none⟩) 1 1, .int .i64 0, .int .i64 0, .int .i64 0, .int .i64 0, .int .i64 0, .int .i64 0, .int .i64 0, .int .i64 0, .int .i64 0, .slice none 0 0, .slice none 0 0, .slice none 0 0] : List Value), u.oneCell' = true) := pcell_one m w6.heap.size (w6.heap.size + 1)
          have HZ : Hid (0 < 21) := by show _ < _; omega
          have HBG : Hid (w.heap.size ≤ w6.heap.size) := HM6.out.ch.size
          go_upto_region 15 with (first | ((with_reducible refine at_op (o := ⟨some 66, _, _, _, _, _⟩) ?_); refine pl_load (o := ⟨some 66, _, _, _, _, _⟩) rfl 72 _ rfl S rfl 72 [.int .i64 8, .int .i64 1, .int .i64 m, .int .i64 ((m : Int) + 1)] HS6.out _ Try.underlying72 rfl size72 ?_) | (at_builtin; refine wpList_append_sz (o := ⟨some 73, _, _, _, _, _⟩) rfl (.tmp 65) (.tmp 72) 24 rfl w.heap.size 84 (.agg #[.int .i64 0, .int .i64 0, .int .i64 0, .int .i64 0, .int .i64 0, .int .i64 0, .slice none 0 0, .slice none 0 0, .slice none 0 0, .int .i64 0, .int .i64 0, .int .i64 0, .int .i64 0, .int .i64 0, .int .i64 0, .int .i64 0, .int .i64 0, .int .i64 0, .slice none 0 0, .slice none 0 0, .slice none 0 0]) 21 264 Try.underlying24 info84 rfl HZ.out u7 m (pparts cs m) rfl ⟨w6.heap.size + 1 + 1, 0, none⟩ 1 1 [.int .i64 8, .int .i64 1, .int .i64 m, .int .i64 ((m : Int) + 1), .int .i64 0, .int .i64 0, .slice none 0 0, .slice (some ⟨w6.heap.size, 0, none⟩) 1 1, .slice (some ⟨w6.heap.size + 1, 0, none⟩) 1 1, .int .i64 0, .int .i64 0, .int .i64 0, .int .i64 0, .int .i64 0, .int .i64 0, .int .i64 0, .int .i64 0, .int .i64 0, .slice none 0 0, .slice none 0 0, .slice none 0 0] rfl HOW.out rfl HCL.out HON.out HB1.out HB2.out HB3.out ?_; intro v10 w10 ho10 hg10 hat10; have HO10 := Lib.hid ho10; have HG10 := Lib.hid (Ch.of_grownBy hg10); clear ho10 hg10 hat10))
          have HM10 : Hid (ImP w w10 X (imgPts ps) u3 (m + 1) v10 (fun i => if i = m then (w6.heap.size, w6.heap.size + 1) else cs i)) := by
            refine ⟨?_, ?_, ?_, HM9.out.box.keep HG10.out (own_ne_row HOW.out HM9.out.box (by decide)), ?_⟩
            · refine owns_keep HM9.out.ports HG10.out (fun a ha he => ?_)
              have hx : ∃ L, Row _ a 46 L := own_row HM9.out.ports ha
              obtain ⟨L, hL⟩ := hx
              exact own_ne_row HOW.out hL (by decide) he
            · rw [pparts_succ, if_pos rfl, pparts_ext (ds := cs) (fun i hi => if_neg (by omega))]
              exact HO10.out
            · intro i hi
              show Row w10 (if i = m then (w6.heap.size, w6.heap.size + 1) else cs i).1 74 instr0 ∧ Row w10 (if i = m then (w6.heap.size, w6.heap.size + 1) else cs i).2 77 proc0 ∧ w.heap.size ≤ (if i = m then (w6.heap.size, w6.heap.size + 1) else cs i).1 ∧ w.heap.size ≤ (if i = m then (w6.heap.size, w6.heap.size + 1) else cs i).2
              by_cases e : i = m
              · subst e
                rw [if_pos rfl]
                exact ⟨HI9.out.keep HG10.out (own_ne_row HOW.out HI9.out (by decide)), HP9.out.keep HG10.out (own_ne_row HOW.out HP9.out (by decide)), HBG.out, Nat.le_succ_of_le HBG.out⟩
              · rw [if_neg e]
                exact (HM9.out.cps.keepOwn HOW.out HG10.out) i (by omega)
            · exact HM9.out.ch.trans HG10.out (fun a ha he => by
                have := own_base_ HOW.out a he
                omega)
          clear HO10 HG10
          go_wp2_with (fail)
          exact ⟨⟨m + 1, _, by omega, by go_num, HM10⟩, by simp [intOf]; omega⟩
        · have d3 : decide ((m : Int) < 3) = false := by simp; omega
          obtain rfl : m = 3 := by omega
          obtain ⟨A7, k7, c7, rfl⟩ := own_slice HM.out.parts
          obtain ⟨A3, k3, c3, rfl⟩ := own_slice HM.out.ports
          have HO3 : Hid (∀ u ∈ ([.slice A7 k7 c7, .slice A3 k3 c3, .slice none 0 0] : List Value), u.oneCell' = true) := by
            intro u hu
            simp at hu
            rcases hu with rfl | rfl | rfl <;> rfl
          go_wp2_with (first | ((with_reducible refine at_op (o := ⟨none, .store 27 (.tmp 2) (.tmp 76), _, _, _, _⟩) ?_); refine wpList_store_agg (o := ⟨none, .store 27 (.tmp 2) (.tmp 76), _, _, _, _⟩) rfl 27 (.tmp 2) (.tmp 76) rfl X rfl 27 [.slice none 0 0, .slice none 0 0, .slice none 0 0] [.slice A7 k7 c7, .slice A3 k3 c3, .slice none 0 0] rfl HM.out.box size27 rfl HO3.out ?_; intro w9 hr9 hc9; have HR9 := Lib.hid hr9; have HC9 := Lib.hid hc9; clear hr9 hc9))
          have hX : w.heap.size = X := HX.out
          refine bodyPost_ret (v := .agg #[.slice A7 k7 c7, .slice A3 k3 c3, .slice none 0 0]) (results_row rfl _ _ X 27 [.slice A7 k7 c7, .slice A3 k3 c3, .slice none 0 0] _ rfl HR9.out Try.underlying27 rfl size27) rfl ⟨_, _, cs, rfl, owns_keepIs HM.out.ports HC9.out (own_ne_row HM.out.ports HM.out.box (by decide)), owns_keepIs HM.out.parts HC9.out (own_ne_row HM.out.parts HM.out.box (by decide)), ?_, ch_newg HM.out.ch HC9.out (by omega)⟩
          intro i hi
          obtain ⟨h1, h2, h3, h4⟩ := HM.out.cps i hi
          exact ⟨h1.keepIs HC9.out (row_ne h1 HM.out.box (by decide)), h2.keepIs HC9.out (row_ne h2 HM.out.box (by decide)), h3, h4⟩
end Go.Proofs.Ytlokpcbiomjcnaa
