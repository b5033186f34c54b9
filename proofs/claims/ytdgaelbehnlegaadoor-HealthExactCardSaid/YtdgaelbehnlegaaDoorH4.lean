/- part: the partition that the statements' case describes. -/
import Derived.Test.YtdgaelbehnlegaaDoorH3
import Derived.Test.YtdgaelbehnlegaaDoorP
import Derived.LoopTactic
set_option linter.unusedVariables false
set_option linter.unusedSimpArgs false
namespace Go.Proofs.YtdgaelbehnlegaaDoor
open Go.RowKit

theorem info53 : (Tryd.prog.info? 53).map (fun i => (i.zero, i.size, i.bytes)) = some (some (.agg #[.int .i64 0, .int .i64 0, .int .i64 0, .int .i64 0, .int .i64 0, .bool false]), 6, 48) := by kernel_rfl
theorem size24 : (Tryd.prog.info? 24).map (·.size) = some 13 := by kernel_rfl
/-- a case, by value -/
structure CaseOf (cc : List Value) (pr h : Int) (T : Nat → Int) (k p : Int) (busy : Bool) : Prop where
  len : cc.length = 13
  one : ∀ v ∈ cc, v.oneCell' = true
  procs : cc[0]? = some (.int .i64 pr)
  hand : cc[1]? = some (.int .i64 h)
  tab : ∀ k : Nat, k < 8 → cc[2 + k]? = some (.int .i64 (T k))
  kind : cc[10]? = some (.int .i64 k)
  proc : cc[11]? = some (.int .i64 p)
  busy : cc[12]? = some (.bool busy)
/-- how many processes -/
def procN (pr : Int) : Nat := if pr < 0 ∨ 40 < pr then 3 else pr.toNat
theorem procN_le (pr : Int) : procN pr ≤ 40 := by unfold procN; split <;> omega
/-- so many processes as cells -/
def procCells (n : Nat) : List Value := (List.range n).flatMap fun (i : Nat) => [.int .i64 (100 + (i : Int)), .int .i64 0, .int .i64 0, .int .i64 0, .int .i64 0, .bool false]
theorem procCells_succ (n : Nat) : procCells (n + 1) = procCells n ++ [.int .i64 (100 + (n : Int)), .int .i64 0, .int .i64 0, .int .i64 0, .int .i64 0, .bool false] := by simp [procCells, List.range_succ]
theorem procCells_length (n : Nat) : (procCells n).length = n * 6 := by
  induction n with
  | zero => rfl
  | succ n ih => rw [procCells_succ, List.length_append, ih]; simp; omega
/-- a partition's cells -/
def pcells (ini code procs : Value) (h : Int) (T : Nat → Int) : List Value :=
  [.int .i64 0, .int .i64 0, .int .i64 0, .int .i64 0, .int .i64 0, .int .i64 0, ini, code, procs, .int .i64 h, .int .i64 (T 0), .int .i64 (T 1), .int .i64 (T 2), .int .i64 (T 3), .int .i64 (T 4), .int .i64 (T 5), .int .i64 (T 6), .int .i64 (T 7), .slice none 0 0, .slice none 0 0, .slice none 0 0]
theorem pcells_one (ini code procs : Value) (h : Int) (T : Nat → Int) (h1 : ini.oneCell' = true) (h2 : code.oneCell' = true) (h3 : procs.oneCell' = true) : ∀ v ∈ pcells ini code procs h T, v.oneCell' = true := by
  intro v hv
  simp [pcells] at hv
  rcases hv with rfl | rfl | rfl | rfl | rfl | rfl | rfl | rfl | rfl | rfl | rfl | rfl | rfl | rfl <;> first | rfl | assumption
theorem pcells_of (g gi gc cap n : Nat) (h : Int) (T : Nat → Int) : PartOf (pcells (.slice (some ⟨gi, 0, none⟩) 2 3) (.slice (some ⟨gc, 0, none⟩) 2 3) (.slice (some ⟨g, 0, none⟩) n cap) h T) (some ⟨g, 0, none⟩) n cap h T := by
  refine ⟨rfl, ?_, rfl, rfl, ?_⟩
  · intro v hv
    simp [pcells] at hv
    rcases hv with rfl | rfl | rfl | rfl | rfl | rfl | rfl | rfl | rfl | rfl | rfl | rfl | rfl | rfl | rfl <;> rfl
  · intro k hk
    match k, hk with
    | 0, _ => rfl
    | 1, _ => rfl
    | 2, _ => rfl
    | 3, _ => rfl
    | 4, _ => rfl
    | 5, _ => rfl
    | 6, _ => rfl
    | 7, _ => rfl
/-- a process's cells -/
def onep (j : Nat) : List Value := [.int .i64 (100 + (j : Int)), .int .i64 0, .int .i64 0, .int .i64 0, .int .i64 0, .bool false]
theorem onep_one (j : Nat) : ∀ u ∈ onep j, u.oneCell' = true := by
  intro u hu
  simp [onep] at hu
  rcases hu with rfl | rfl | rfl <;> rfl
theorem ne34 : (34 : TypeId) ≠ 53 := by decide
theorem zero53 : (Value.agg #[.int .i64 0, .int .i64 0, .int .i64 0, .int .i64 0, .int .i64 0, .bool false]).cells.size = 6 := rfl
theorem own_slice_ {w : World} {base : Nat} {e : TypeId} {size n : Nat} {v : Value} {xs : List Value} (h : w.ownsRow base e size v n xs) : ∃ A c, v = .slice A n c := by
  rcases owns_open_sz h with ⟨hv, h0⟩ | ⟨g, cap, rest, hv, _⟩
  · exact ⟨none, 0, by rw [hv, h0]⟩
  · exact ⟨_, cap, hv⟩
theorem own_set {w : World} {base : Nat} {e : TypeId} {size n : Nat} {v : Value} {xs : List Value} (h : w.ownsRow base e size v n xs) {p : Addr} (hne : ¬ v.ownBlock = some p.block) (u : Value) : (w.setCell p u).ownsRow base e size v n xs :=
  h.kept (row := some p.block) ⟨rfl, rfl, rfl, by simp, fun k hk hn => Below.heap_setCell w p u k (fun e => hn (by rw [e]))⟩ (.inr hne)
theorem row_app {wr w1 : World} {base : Nat} {e : TypeId} {size n : Nat} {v : Value} {xs : List Value} (ho : wr.ownsRow base e size v n xs) {o : Obj} (hg : (wr.alloc o).grownBy w1 v.ownBlock) {g : Nat} {t : TypeId} {L : List Value} (hr : Row wr g t L) (hne : t ≠ e) : Row w1 g t L :=
  (hr.alloc o).keep (Ch.of_grownBy hg) (own_ne_row ho hr hne)
theorem ch_app {w wr w1 : World} {e : TypeId} {size n : Nat} {v : Value} {xs : List Value} (ho : wr.ownsRow w.heap.size e size v n xs) {o : Obj} (hg : (wr.alloc o).grownBy w1 v.ownBlock) (hc : Ch No w wr) : Ch No w w1 :=
  (hc.alloc o).trans (Ch.of_grownBy hg) (fun i hi he => by have := own_base_ ho i he; omega)
def codeCells : List Value := [.int .u8 7, .int .u8 0, .int .u8 0, .int .u8 0, .int .i32 0, .int .u8 8, .int .u8 0, .int .u8 0, .int .u8 0, .int .i32 0, .int .u8 9, .int .u8 0, .int .u8 0, .int .u8 0, .int .i32 0]

set_option maxRecDepth 100000 in
set_option maxHeartbeats 4000000 in
theorem part_calls (cc : List Value) (pr hq : Int) (T : Nat → Int) (k p : Int) (busy : Bool) (w : World) (hc : CaseOf cc pr hq T k p busy) :
    Calls Tryd.prog 5 #[.agg cc.toArray] w fun e w' => ∃ g gi gc cap rest, e = .returned (.agg (pcells (.slice (some ⟨gi, 0, none⟩) 2 3) (.slice (some ⟨gc, 0, none⟩) 2 3) (.slice (some ⟨g, 0, none⟩) (procN pr) cap) hq T).toArray) ∧
      Row w' g 53 (procCells (procN pr + 1) ++ rest) ∧ procN pr + 1 ≤ cap ∧ cap ≤ maxLen ∧ Row w' gi 2 (ints [5, 6, 7]) ∧ Row w' gc 55 codeCells ∧ Ch No w w' := by
  have HX : Hid (Row (World.alloc (World.alloc w (.cells cc.toArray 24)) (.cells (pcells (.slice none 0 0) (.slice none 0 0) (.slice none 0 0) 0 (fun _ => 0)).toArray 34)) w.heap.size 24 cc) := (Row.new w 24 cc).alloc _
  have HZ : Hid (Row (World.alloc (World.alloc w (.cells cc.toArray 24)) (.cells (pcells (.slice none 0 0) (.slice none 0 0) (.slice none 0 0) 0 (fun _ => 0)).toArray 34)) (w.heap.size + 1) 34 (pcells (.slice none 0 0) (.slice none 0 0) (.slice none 0 0) 0 (fun _ => 0))) := Row.new_at _ 34 (pcells (.slice none 0 0) (.slice none 0 0) (.slice none 0 0) 0 (fun _ => 0)) (by simp)
  have HC0 : Hid (Ch No w (World.alloc (World.alloc w (.cells cc.toArray 24)) (.cells (pcells (.slice none 0 0) (.slice none 0 0) (.slice none 0 0) 0 (fun _ => 0)).toArray 34))) := ((Ch.refl No w).alloc _).alloc _
  have HCC := Lib.hid hc
  clear hc
  have hm : procN pr ≤ 40 := procN_le pr
  have HPN : Hid (procN pr = if pr < 0 ∨ 40 < pr then 3 else pr.toNat) := rfl
  generalize procN pr = m at *
  go_enter Tryd.func5, Tryd.ntmps5
  go_upto_region 1 with (fail)
  change Code.wp _ _ _ _ (World.alloc (World.alloc w (.cells cc.toArray 24)) (.cells (pcells (.slice none 0 0) (.slice none 0 0) (.slice none 0 0) 0 (fun _ => 0)).toArray 34))
  generalize World.alloc (World.alloc w (.cells cc.toArray 24)) (.cells (pcells (.slice none 0 0) (.slice none 0 0) (.slice none 0 0) 0 (fun _ => 0)).toArray 34) = w1 at *
  have c0 : w1.cell? ⟨w.heap.size, 0, none⟩ = some (.int .i64 pr) := by rw [HX.out.cell]; exact HCC.out.procs
  have c1 : w1.cell? ⟨w.heap.size, 1, none⟩ = some (.int .i64 hq) := by rw [HX.out.cell]; exact HCC.out.hand
  have c2 : w1.cell? ⟨w.heap.size, 2, none⟩ = some (.int .i64 (T 0)) := by rw [HX.out.cell]; exact HCC.out.tab 0 (by omega)
  have c3 : w1.cell? ⟨w.heap.size, 3, none⟩ = some (.int .i64 (T 1)) := by rw [HX.out.cell]; exact HCC.out.tab 1 (by omega)
  have c4 : w1.cell? ⟨w.heap.size, 4, none⟩ = some (.int .i64 (T 2)) := by rw [HX.out.cell]; exact HCC.out.tab 2 (by omega)
  have c5 : w1.cell? ⟨w.heap.size, 5, none⟩ = some (.int .i64 (T 3)) := by rw [HX.out.cell]; exact HCC.out.tab 3 (by omega)
  have c6 : w1.cell? ⟨w.heap.size, 6, none⟩ = some (.int .i64 (T 4)) := by rw [HX.out.cell]; exact HCC.out.tab 4 (by omega)
  have c7 : w1.cell? ⟨w.heap.size, 7, none⟩ = some (.int .i64 (T 5)) := by rw [HX.out.cell]; exact HCC.out.tab 5 (by omega)
  have c8 : w1.cell? ⟨w.heap.size, 8, none⟩ = some (.int .i64 (T 6)) := by rw [HX.out.cell]; exact HCC.out.tab 6 (by omega)
  have c9 : w1.cell? ⟨w.heap.size, 9, none⟩ = some (.int .i64 (T 7)) := by rw [HX.out.cell]; exact HCC.out.tab 7 (by omega)
  go_upto_region 2 with (fail)
  go_cut [13] from 8 to 12 (fun v wx => v = .bool (decide (pr < 0 ∨ 40 < pr)) ∧ w1 = wx)
  case first =>
    by_cases h1 : pr < 0
    · have d1 : decide (pr < 0) = true := by simpa using h1
      go_wp2_with (fail)
      go_meet
      case rel => exact ⟨congrArg Value.bool (by simp [h1]), rfl⟩
    · have d1 : decide (pr < 0) = false := by simpa using h1
      by_cases h2 : 40 < pr
      · have d2 : decide (40 < pr) = true := by simpa using h2
        go_wp2_with (fail)
        go_meet
        case rel => exact ⟨congrArg Value.bool (by simp [h2]), rfl⟩
      · have d2 : decide (40 < pr) = false := by simpa using h2
        go_wp2_with (fail)
        go_meet
        case rel => exact ⟨congrArg Value.bool (by simp [h1, h2]), rfl⟩
  case rest =>
  obtain ⟨hv, hw⟩ := hcut
  subst hv hw
  go_upto_if 13 with (fail)
  go_cut [3] (fun v wx => v = .int .i64 (m : Int) ∧ w1 = wx)
  case first =>
    by_cases hb : pr < 0 ∨ 40 < pr
    · have d1 : decide (pr < 0 ∨ 40 < pr) = true := by simpa using hb
      have e3 : m = 3 := by rw [HPN.out, if_pos hb]
      go_wp2_with (fail)
      go_meet
      case rel => exact ⟨by rw [e3]; rfl, rfl⟩
    · have d1 : decide (pr < 0 ∨ 40 < pr) = false := by simpa using hb
      have e3 : pr = (m : Int) := by rw [HPN.out, if_neg hb]; omega
      go_wp2_with (fail)
      go_meet
      case rel => exact ⟨by rw [← e3], rfl⟩
  case rest =>
  obtain ⟨hv, hw⟩ := hcut
  subst hv hw
  have hsz : w.heap.size + 2 ≤ w1.heap.size := by have := HZ.out.lt; omega
  go_upto_region 4 with (fail)
  go_upto_block 0 with ((with_reducible refine at_op (o := ⟨none, .store 34 (.tmp 4) (.tmp 18), _, _, _, _⟩) ?_); refine pl_store rfl 34 (.tmp 4) (.tmp 18) rfl _ rfl 34 (pcells (.slice none 0 0) (.slice none 0 0) (.slice none 0 0) 0 (fun _ => 0)) (pcells (.slice none 0 0) (.slice none 0 0) (.slice none 0 0) hq T) rfl (Row.new w1 34 (pcells (.slice none 0 0) (.slice none 0 0) (.slice none 0 0) 0 (fun _ => 0))) size34 rfl (pcells_one _ _ _ _ _ rfl rfl rfl) ?_; intro w3 hr3 hc3; have HR3 := Lib.hid hr3; have HC3 := Lib.hid hc3; clear hr3 hc3)
  have HZ3 := Lib.hid ((HZ.out.alloc (.cells (pcells (.slice none 0 0) (.slice none 0 0) (.slice none 0 0) 0 (fun _ => 0)).toArray 34)).keepIs HC3.out (by omega))
  have HCW3 : Hid (Ch No w w3) := ch_newg (HC0.out.alloc _) HC3.out (by omega)
  clear HZ HX HC0 HC3 c0 c1 c2 c3 c4 c5 c6 c7 c8 c9
  generalize w1.heap.size = b4 at *
  clear w1
  go_cut [5] from 19 to 31 (fun i wx => ∃ v, i = .int .i64 ((m + 1 : Nat) : Int) ∧ Hid (Row wx b4 34 (pcells (.slice none 0 0) (.slice none 0 0) v hq T)) ∧ Hid (Row wx (w.heap.size + 1) 34 (pcells (.slice none 0 0) (.slice none 0 0) (.slice none 0 0) 0 (fun _ => 0))) ∧ Hid (wx.ownsRow w.heap.size 53 6 v (m + 1) (procCells (m + 1))) ∧ Hid (Ch No w wx))
  case first =>
    go_wp2_with (fail)
    go_loopw [5] (fun i wr => ∃ (j : Nat) (v : Value), j ≤ m + 1 ∧ i = .int .i64 j ∧ Hid (Row wr b4 34 (pcells (.slice none 0 0) (.slice none 0 0) v hq T)) ∧ Hid (Row wr (w.heap.size + 1) 34 (pcells (.slice none 0 0) (.slice none 0 0) (.slice none 0 0) 0 (fun _ => 0))) ∧
      Hid (wr.ownsRow w.heap.size 53 6 v j (procCells j)) ∧ Hid (Ch No w wr)) (fun i _ => m + 1 - (intOf i).toNat)
    case atStart => exact ⟨0, .slice none 0 0, by omega, rfl, HR3, HZ3, World.ownsRow_nil _ _ _ _, HCW3⟩
    case round =>
      obtain ⟨j, v, hj, rfl, HP, HZ, HO, HC⟩ := hrel
      by_cases hlt : j ≤ m
      · have d1 : decide ((j : Int) ≤ (m : Int)) = true := by simpa using hlt
        have HB1 : Hid (j + 1 ≤ 140737488355328) := by show _ ≤ _; omega
        have HB2 : Hid ((j + 1) * 48 ≤ 140737488355328) := by show _ ≤ _; omega
        have HB3 : Hid (w.heap.size ≤ (wr.alloc (.cells (onep j).toArray 53)).heap.size) := by show _ ≤ _; have := HC.out.size; simp; omega
        have q8 : wr.cell? ⟨b4, 8, none⟩ = some v := HP.out.cell 8
        have hbw : b4 < wr.heap.size := HP.out.lt
        go_wp2_with (at_builtin; (refine wpList_append_sz rfl (.tmp 25) (.tmp 29) 29 rfl w.heap.size 53 (.agg #[.int .i64 0, .int .i64 0, .int .i64 0, .int .i64 0, .int .i64 0, .bool false]) 6 48 Tryd.underlying29 info53 zero53 (Nat.succ_pos 5) v j (procCells j) rfl ⟨wr.heap.size, 0, none⟩ 1 1 (onep j) rfl (HO.out.alloc _) rfl ((Row.new wr 53 (onep j)).cl0) (onep_one j) HB1.out HB2.out HB3.out ?_; intro v1 w1 ho1 hg1 hat1; obtain ⟨A1, cp1, rfl⟩ := own_slice_ ho1; have HO1 := Lib.hid ho1; have HC1 := Lib.hid (ch_app HO.out hg1 HC.out); have HP1 := Lib.hid (row_app HO.out hg1 HP.out ne34); have HZ1 := Lib.hid (row_app HO.out hg1 HZ.out ne34); clear ho1 hg1 hat1; have d8 : w1.cell? ⟨b4, 8, none⟩ = some v := HP1.out.cell 8; have f8 : w1.frozen? ⟨b4, 8, none⟩ = false := HP1.out.frozen 8))
        go_roundw
        · refine ⟨j + 1, .slice A1 (j + 1) cp1, by omega, by go_num, HP1.out.set_ 8 _, HZ1.out.setOther (by simp; omega) _, ?_, HC1.out.setCell (fun hh => absurd hh (by simp; omega)) _⟩
          have := HO1.out
          rw [show procCells j ++ onep j = procCells (j + 1) from (procCells_succ j).symm] at this
          exact own_set this (own_ne_row HO1.out HP1.out ne34) _
        · simp [intOf]; omega
      · obtain rfl : j = m + 1 := by omega
        have d1 : decide (((m + 1 : Nat) : Int) ≤ (m : Int)) = false := by simp; omega
        go_wp2_with (fail)
        go_meet
        case rel => exact ⟨v, rfl, HP, HZ, HO, HC⟩
  case rest =>
  obtain ⟨v, hv, HP, HZ, HO, HC⟩ := hcut
  subst hv
  generalize wc = wr at *
  rcases owns_open_sz HO.out with ⟨_, h0⟩ | ⟨g, cap, rest, rfl, hg, hr, hcn, hcm, hcl⟩
  · omega
  have HRW := Lib.hid hr
  have HCM : Hid (m + 1 ≤ cap ∧ cap ≤ maxLen) := ⟨by assumption, by assumption⟩
  have hBlt : b4 < wr.heap.size := HP.out.lt
  have hb1 : w.heap.size + 1 < wr.heap.size := HZ.out.lt
  have hgB : g < wr.heap.size := hr.lt
  have hgne : ¬ g = b4 := fun e => ne34 (((HP.out.eq_ (e ▸ hr)).1))
  have hgne1 : ¬ g = w.heap.size + 1 := fun e => ne34 (((HZ.out.eq_ (e ▸ hr)).1))
  have hne1 : w.heap.size + 1 ≠ b4 := by omega
  have q8 : wr.cell? ⟨b4, 8, none⟩ = some (.slice (some ⟨g, 0, none⟩) (m + 1) cap) := HP.out.cell 8
  have q7 : wr.cell? ⟨b4, 7, none⟩ = some (.slice none 0 0) := HP.out.cell 7
  have q6 : wr.cell? ⟨b4, 6, none⟩ = some (.slice none 0 0) := HP.out.cell 6
  have z8 : wr.frozen? ⟨b4, 8, none⟩ = false := HP.out.frozen 8
  have z7 : wr.frozen? ⟨b4, 7, none⟩ = false := HP.out.frozen 7
  have z6 : wr.frozen? ⟨b4, 6, none⟩ = false := HP.out.frozen 6
  have hmc : m ≤ cap := by omega
  have hmcI : (m : Int) ≤ (cap : Int) := by omega
  clear hr hcm hcl HO
  go_upto_region 9 with (fail)
  go_upto_region 10 with (fail)
  change Code.wp _ _ _ _ (wr.setCell ⟨b4, 8, none⟩ (.slice (some ⟨g, 0, none⟩) m cap))
  have HP9 : Hid (Row (wr.setCell ⟨b4, 8, none⟩ (.slice (some ⟨g, 0, none⟩) m cap)) b4 34 (pcells (.slice none 0 0) (.slice none 0 0) (.slice (some ⟨g, 0, none⟩) m cap) hq T)) := HP.out.set_ 8 _
  have HZ9 : Hid (Row (wr.setCell ⟨b4, 8, none⟩ (.slice (some ⟨g, 0, none⟩) m cap)) (w.heap.size + 1) 34 (pcells (.slice none 0 0) (.slice none 0 0) (.slice none 0 0) 0 (fun _ => 0))) := HZ.out.setOther hne1 _
  have HR9 : Hid (Row (wr.setCell ⟨b4, 8, none⟩ (.slice (some ⟨g, 0, none⟩) m cap)) g 53 (procCells (m + 1) ++ rest)) := HRW.out.setOther hgne _
  have HC9 : Hid (Ch No w (wr.setCell ⟨b4, 8, none⟩ (.slice (some ⟨g, 0, none⟩) m cap))) := HC.out.setCell (fun hh => absurd hh (by show ¬ b4 < _; omega)) _
  clear HP HZ HRW HC q8 q7 q6 z8 z7 z6 hBlt hb1 hgB
  generalize wr.setCell ⟨b4, 8, none⟩ (.slice (some ⟨g, 0, none⟩) m cap) = w9 at *
  have hBlt : b4 < w9.heap.size := HP9.out.lt
  have q7 : w9.cell? ⟨b4, 7, none⟩ = some (.slice none 0 0) := HP9.out.cell 7
  have z7 : w9.frozen? ⟨b4, 7, none⟩ = false := HP9.out.frozen 7
  go_upto_region 11 with (fail)
  change Code.wp _ _ _ _ ((w9.setCell ⟨b4, 7, none⟩ (.slice (some ⟨w9.heap.size, 0, none⟩) 2 3)).alloc (.cells codeCells.toArray 55))
  have hB9 := HP9.out.lt
  have hZ9 := HZ9.out.lt
  have hG9 := HR9.out.lt
  have HPa : Hid (Row ((w9.setCell ⟨b4, 7, none⟩ (.slice (some ⟨w9.heap.size, 0, none⟩) 2 3)).alloc (.cells codeCells.toArray 55)) b4 34 (pcells (.slice none 0 0) (.slice (some ⟨w9.heap.size, 0, none⟩) 2 3) (.slice (some ⟨g, 0, none⟩) m cap) hq T)) := (HP9.out.set_ 7 _).alloc _
  have HZa : Hid (Row ((w9.setCell ⟨b4, 7, none⟩ (.slice (some ⟨w9.heap.size, 0, none⟩) 2 3)).alloc (.cells codeCells.toArray 55)) (w.heap.size + 1) 34 (pcells (.slice none 0 0) (.slice none 0 0) (.slice none 0 0) 0 (fun _ => 0))) := (HZ9.out.setOther hne1 _).alloc _
  have HRa : Hid (Row ((w9.setCell ⟨b4, 7, none⟩ (.slice (some ⟨w9.heap.size, 0, none⟩) 2 3)).alloc (.cells codeCells.toArray 55)) g 53 (procCells (m + 1) ++ rest)) := (HR9.out.setOther hgne _).alloc _
  have HDa : Hid (Row ((w9.setCell ⟨b4, 7, none⟩ (.slice (some ⟨w9.heap.size, 0, none⟩) 2 3)).alloc (.cells codeCells.toArray 55)) w9.heap.size 55 codeCells) := Row.new_at _ 55 codeCells (by simp)
  have HCa : Hid (Ch No w ((w9.setCell ⟨b4, 7, none⟩ (.slice (some ⟨w9.heap.size, 0, none⟩) 2 3)).alloc (.cells codeCells.toArray 55))) := (HC9.out.setCell (fun hh => absurd hh (by show ¬ b4 < _; omega)) _).alloc _
  generalize (w9.setCell ⟨b4, 7, none⟩ (.slice (some ⟨w9.heap.size, 0, none⟩) 2 3)).alloc (.cells codeCells.toArray 55) = wa at *
  generalize w9.heap.size = gc at *
  clear q7 z7 HP9 HZ9 HR9 HC9
  have hBlt : b4 < wa.heap.size := HPa.out.lt
  have hDlt : gc < wa.heap.size := HDa.out.lt
  have q6 : wa.cell? ⟨b4, 6, none⟩ = some (.slice none 0 0) := HPa.out.cell 6
  have z6 : wa.frozen? ⟨b4, 6, none⟩ = false := HPa.out.frozen 6
  go_upto_region 12 with (fail)
  change Code.wp _ _ _ _ ((wa.setCell ⟨b4, 6, none⟩ (.slice (some ⟨wa.heap.size, 0, none⟩) 2 3)).alloc (.cells (ints [5, 6, 7]).toArray 2))
  have HPb : Hid (Row ((wa.setCell ⟨b4, 6, none⟩ (.slice (some ⟨wa.heap.size, 0, none⟩) 2 3)).alloc (.cells (ints [5, 6, 7]).toArray 2)) b4 34 (pcells (.slice (some ⟨wa.heap.size, 0, none⟩) 2 3) (.slice (some ⟨gc, 0, none⟩) 2 3) (.slice (some ⟨g, 0, none⟩) m cap) hq T)) := (HPa.out.set_ 6 _).alloc _
  have HZb : Hid (Row ((wa.setCell ⟨b4, 6, none⟩ (.slice (some ⟨wa.heap.size, 0, none⟩) 2 3)).alloc (.cells (ints [5, 6, 7]).toArray 2)) (w.heap.size + 1) 34 (pcells (.slice none 0 0) (.slice none 0 0) (.slice none 0 0) 0 (fun _ => 0))) := (HZa.out.setOther hne1 _).alloc _
  have HRb : Hid (Row ((wa.setCell ⟨b4, 6, none⟩ (.slice (some ⟨wa.heap.size, 0, none⟩) 2 3)).alloc (.cells (ints [5, 6, 7]).toArray 2)) g 53 (procCells (m + 1) ++ rest)) := (HRa.out.setOther hgne _).alloc _
  have HDb : Hid (Row ((wa.setCell ⟨b4, 6, none⟩ (.slice (some ⟨wa.heap.size, 0, none⟩) 2 3)).alloc (.cells (ints [5, 6, 7]).toArray 2)) gc 55 codeCells) := (HDa.out.setOther (by show ¬ _ = b4; omega) _).alloc _
  have HIb : Hid (Row ((wa.setCell ⟨b4, 6, none⟩ (.slice (some ⟨wa.heap.size, 0, none⟩) 2 3)).alloc (.cells (ints [5, 6, 7]).toArray 2)) wa.heap.size 2 (ints [5, 6, 7])) := Row.new_at _ 2 (ints [5, 6, 7]) (by simp)
  have HCb : Hid (Ch No w ((wa.setCell ⟨b4, 6, none⟩ (.slice (some ⟨wa.heap.size, 0, none⟩) 2 3)).alloc (.cells (ints [5, 6, 7]).toArray 2))) := (HCa.out.setCell (fun hh => absurd hh (by show ¬ b4 < _; omega)) _).alloc _
  generalize (wa.setCell ⟨b4, 6, none⟩ (.slice (some ⟨wa.heap.size, 0, none⟩) 2 3)).alloc (.cells (ints [5, 6, 7]).toArray 2) = wb at *
  have hgi : w.heap.size + 1 ≠ wa.heap.size := by have := HZa.out.lt; omega
  have hgc : w.heap.size + 1 ≠ gc := by omega
  generalize wa.heap.size = gi at *
  clear q6 z6 HPa HZa HRa HDa HCa
  go_wp2_with (first | ((with_reducible refine at_op (o := ⟨some 46, .load 34 (.tmp 4), _, _, _, _⟩) ?_); refine pl_load rfl 34 (.tmp 4) rfl b4 rfl 34 _ HPb.out _ Tryd.underlying34 rfl size34 ?_) | ((with_reducible refine at_op (o := ⟨none, .store 34 (.tmp 2) (.tmp 46), _, _, _, _⟩) ?_); refine pl_store rfl 34 (.tmp 2) (.tmp 46) rfl (w.heap.size + 1) rfl 34 _ (pcells (.slice (some ⟨gi, 0, none⟩) 2 3) (.slice (some ⟨gc, 0, none⟩) 2 3) (.slice (some ⟨g, 0, none⟩) m cap) hq T) rfl HZb.out size34 rfl (pcells_of g gi gc cap m hq T).one ?_; intro w5 hr5 hc5; have HR5 := Lib.hid hr5; have HC5 := Lib.hid hc5; clear hr5 hc5))
  refine bodyPost_ret (v := .agg (pcells (.slice (some ⟨gi, 0, none⟩) 2 3) (.slice (some ⟨gc, 0, none⟩) 2 3) (.slice (some ⟨g, 0, none⟩) m cap) hq T).toArray) (results_row rfl _ _ _ _ _ _ rfl HR5.out Tryd.underlying34 rfl size34) rfl ?_
  exact ⟨g, gi, gc, cap, rest, rfl, HRb.out.keepIs HC5.out (by omega), HCM.out.1, HCM.out.2, HIb.out.keepIs HC5.out (by omega), HDb.out.keepIs HC5.out (by omega), ch_newg HCb.out HC5.out (by omega)⟩
end Go.Proofs.YtdgaelbehnlegaaDoor
