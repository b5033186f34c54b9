/- CpuHangs: the walk. -/
import Derived.Test.YtellmlffkgfeiaaDoorH0
import Derived.Test.YtellmlffkgfeiaaDoorEE
import Derived.Test.YtellmlffkgfeiaaDoorEL
set_option linter.unusedVariables false
set_option linter.unusedSimpArgs false
namespace Go.Proofs.YtellmlffkgfeiaaDoor
open Go.RowKit
theorem info45 : (Tryd.prog.info? 45).map (fun i => (i.zero, i.size, i.bytes)) = some (some (.agg #[.int .u8 0, .int .u8 0, .int .u8 0, .int .u8 0, .int .i32 0]), 5, 8) := by kernel_rfl
theorem info2 : (Tryd.prog.info? 2).map (fun i => (i.zero, i.size, i.bytes)) = some (some (.int .i64 0), 1, 8) := by kernel_rfl
theorem owns_code {w : World} {base n : Nat} {v : Value} {cs : List Ins} (hn : cs.length = n) (h : w.ownsRow base 45 5 v n (codeCells cs)) :
    ∃ A cap, v = .slice A n cap ∧ n ≤ cap ∧ Cl w A (codeCells cs) := by
  rcases owns_open_sz h with ⟨hv, h0⟩ | ⟨g, cap, rest, hv, _, hr, hc, _, _⟩
  · subst h0
    obtain rfl : cs = [] := List.eq_nil_of_length_eq_zero hn
    exact ⟨none, 0, hv, Nat.le_refl _, Cl.nil _ _⟩
  · refine ⟨_, cap, hv, hc, ?_⟩
    have := hr.cl0.take (codeCells cs).length
    rwa [List.take_append_of_le_length (Nat.le_refl _), List.take_length] at this
theorem owns_ints {w : World} {base n : Nat} {v : Value} {xs : List Int} (hn : xs.length = n) (h : w.ownsRow base 2 1 v (ints xs).length (ints xs)) :
    ∃ A cap, v = .slice A n cap ∧ n ≤ cap ∧ Cl w A (ints xs) := by
  rcases owns_open h with ⟨hv, h0⟩ | ⟨g, cap, rest, hv, _, hr, hc, _⟩
  · have : xs = [] := by
      have := congrArg List.length h0
      rw [ints_length] at this
      exact List.eq_nil_of_length_eq_zero this
    subst this
    subst hn
    exact ⟨none, 0, hv, Nat.le_refl _, Cl.nil _ _⟩
  · rw [ints_length] at hv hc
    subst hn
    refine ⟨_, cap, hv, by omega, ?_⟩
    have := hr.cl0.take (ints xs).length
    rwa [List.take_append_of_le_length (Nat.le_refl _), List.take_length] at this
theorem grown_no {w w1 : World} {base : Nat} {e : TypeId} {size n : Nat} {v : Value} {xs : List Value} {w0 : World} (hb : w0.heap.size ≤ base) (h : w.ownsRow base e size v n xs) (hg : w.grownBy w1 v.ownBlock) (hc : Ch No w0 w) : Ch No w0 w1 := by
  refine hc.trans (Ch.of_grownBy hg) (fun i hi he => ?_)
  rcases owns_open_sz h with ⟨hv, _⟩ | ⟨g, cap, rest, hv, hg, _⟩
  · rw [hv] at he
    simp [Value.ownBlock] at he
  · rw [hv] at he
    simp [Value.ownBlock] at he
    omega
/-- whether the instruction reads a word -/
def rcF (cs : List Ins) (pc : Int) : Bool := if pc < 0 then false else match cs[pc.toNat]? with
  | some x => decide (x.op = 5 ∧ x.b < 16)
  | none => false
theorem rcF_cases (cs : List Ins) (r : Nat → Int) (pc : Int) : (rcF cs pc = false ∧ readF cs r pc = -1) ∨ (rcF cs pc = true ∧ ∃ (q : Nat) (x : Ins), pc = q ∧ cs[q]? = some x ∧ x.b < 16 ∧ readF cs r pc = Fadd (r x.b) x.n) := by
  unfold rcF readF
  by_cases h0 : pc < 0
  · rw [if_pos h0, if_pos h0]
    exact .inl ⟨rfl, rfl⟩
  · rw [if_neg h0, if_neg h0]
    cases hx : cs[pc.toNat]? with
    | none => exact .inl ⟨rfl, rfl⟩
    | some x =>
      simp only []
      by_cases hc : x.op = 5 ∧ x.b < 16
      · rw [if_pos hc]
        exact .inr ⟨decide_eq_true hc, pc.toNat, x, by omega, hx, hc.2, rfl⟩
      · rw [if_neg hc]
        exact .inl ⟨decide_eq_false hc, rfl⟩
theorem cells_one (x : Ins) : ∀ v ∈ x.cells, v.oneCell' = true := by
  intro v hv
  simp [Ins.cells, insCells] at hv
  rcases hv with rfl | rfl | rfl | rfl | rfl <;> rfl
set_option maxRecDepth 100000 in
set_option maxHeartbeats 8000000 in
theorem hangs_calls (A : Option Addr) (cs : List Ins) (cap : Nat) (hl : cs.length ≤ 1048576) (hcs : ∀ x ∈ cs, x.ok) (M : Option Addr) (xs : List Int) (mcap : Nat) (hm : xs.length ≤ 1048576) (hmc : xs.length ≤ mcap) (fixed : Int) (r : Nat → Int) (hin : ∀ i, i < 16 → In64 (r i)) (pc : Int)
    (B : Option Addr) (ds : List Ins) (dcap : Nat) (hdl : ds.length ≤ 1048576) (hds : ∀ x ∈ ds, x.ok) (Y : Option Addr) (ys : List Int) (ycap : Nat) (hyl : ys.length ≤ 1048576) (w : World)
    (hcode : Cl w A (codeCells cs)) (hM : Cl w M (ints xs)) (hB : Cl w B (codeCells ds)) (hY : Cl w Y (ints ys)) (hg : Glob w) :
    Calls Tryd.prog 7 #[.agg (machCells (.slice A cs.length cap) (.slice M xs.length mcap) fixed r pc).toArray, .slice B ds.length dcap, .slice Y ys.length ycap] w fun e w' => e = .returned (.bool true) ∧ Ch No w w' := by
  have HG := Lib.hid hg
  have HCODE := Lib.hid hcode
  have HB := Lib.hid hB
  have HY := Lib.hid hY
  have HMM := Lib.hid hM
  have HIN := Lib.hid hin
  have HCS := Lib.hid hcs
  have HDS := Lib.hid hds
  have HR1 := Lib.hid (Row.new w 26 (machCells (.slice A cs.length cap) (.slice M xs.length mcap) fixed r pc))
  clear hcode hM hg hin hcs hds hB hY
  go_enter Tryd.func7, Tryd.ntmps7
  go_wp2_with (fail)
  refine (known_calls _ (HG.out.keep ((Ch.refl No w).alloc _) (not_no _))).mono ?_
  rintro e w2 ⟨rfl, hc2⟩
  have HC2 : Hid (Ch No w w2) := ((Ch.refl No w).alloc _).then_ hc2
  have HR2 := Lib.hid (HR1.out.keepNo hc2)
  clear hc2
  have hlt2 : w.heap.size < w2.heap.size := HR2.out.lt
  go_wp2_with (fail)
  go_loopw [7, 8] (fun v i wr => ∃ k : Nat, k ≤ cs.length ∧ i = .int .i64 k ∧ Hid (wr.ownsRow w2.heap.size 45 5 v k (codeCells (mixTo pc cs ds k))) ∧ Hid (Ch No w2 wr)) (fun _ i _ => cs.length - (intOf i).toNat)
  case atStart => exact ⟨0, by omega, rfl, ⟨by simp [codeCells, mixTo_zero], .inl ⟨rfl, rfl⟩⟩, Ch.refl _ _⟩
  case round =>
    obtain ⟨k, hk, rfl, HO, HC⟩ := hrel
    have HRr := Lib.hid (HR2.out.keepNo HC.out)
    have HCr := Lib.hid (HC2.out.then_ HC.out)
    have hltr : w2.heap.size ≤ wr.heap.size := HC.out.size
    have hltq : w.heap.size < wr.heap.size := by omega
    have g0 : wr.cell? ⟨w.heap.size, 0, none⟩ = some (.slice A cs.length cap) := HRr.out.cell 0
    have g1 : wr.cell? ⟨w.heap.size, 19, none⟩ = some (.int .i64 pc) := (HRr.out.cell 19).trans (mach_pc _ _ _ _ _)
    by_cases hlt : k < cs.length
    · obtain ⟨x, hpick⟩ := pick_some pc cs ds hlt
      have hpx : (mixTo pc cs ds (k + 1)) = mixTo pc cs ds k ++ [x] := mixTo_succ hpick
      have HPX := Lib.hid (mixTo_push hpick)
      have hk1 : (k : Int) < (cs.length : Int) := by omega
      have hk2 : (0 : Int) ≤ (k : Int) := by omega
      clear hpx
      by_cases hc1 : (k : Int) = pc
      · have hx : cs[k]? = some x := by unfold pick at hpick; rwa [if_neg (by omega)] at hpick
        have n1 : ((k : Int) != pc) = false := by simp [hc1]
        clear hc1
        obtain ⟨ad, hA2, hcx⟩ := code_at HCODE.out hx
        subst hA2
        have HXX := Lib.hid (hcx wr HCr.out)
        generalize hb : ad.add (k * 5) = b at *
        have i0 : wr.cell? b = some (.int .u8 x.op) := by
          have := HXX.out 0 (by omega)
          rwa [add_zero] at this
        have i1 : wr.cell? ⟨b.block, b.off + 1, none⟩ = some (.int .u8 x.a) := by
          have := HXX.out 1 (by omega)
          rwa [addr_add] at this
        have i2 : wr.cell? ⟨b.block, b.off + 2, none⟩ = some (.int .u8 x.b) := by
          have := HXX.out 2 (by omega)
          rwa [addr_add] at this
        have i3 : wr.cell? ⟨b.block, b.off + 3, none⟩ = some (.int .u8 x.c) := by
          have := HXX.out 3 (by omega)
          rwa [addr_add] at this
        have i4 : wr.cell? ⟨b.block, b.off + 4, none⟩ = some (.int .i32 x.n) := by
          have := HXX.out 4 (by omega)
          rwa [addr_add] at this
        clear hcx hpick hx
        go_wp2_with (at_builtin; refine wpList_append_sz rfl (.tmp 38) (.tmp 44) 22 rfl w2.heap.size 45 (.agg #[.int .u8 0, .int .u8 0, .int .u8 0, .int .u8 0, .int .i32 0]) 5 8 Tryd.underlying22 info45 rfl (by omega) u7 k (codeCells (mixTo pc cs ds k)) rfl ⟨wr.heap.size, 0, none⟩ 1 1 x.cells rfl (HO.out.alloc _) rfl ((Row.new wr 45 x.cells).cl0) (cells_one x) (by omega) (by omega) (by simp; omega) ?_; intro v1 w1 ho1 hg1 hat1; rw [← HPX.out] at ho1; have HO1 := Lib.hid ho1; have HC1 : Hid (Ch No w2 w1) := (grown_no (Nat.le_refl _) (HO.out.alloc _) hg1 (HC.out.alloc _)); clear ho1 hg1 hat1)
        refine ⟨⟨k + 1, by omega, by go_num, HO1, HC1⟩, by simp [intOf]; omega⟩
      · have n1 : ((k : Int) != pc) = true := by simp [hc1]
        by_cases hc2 : k < ds.length
        · have hx : ds[k]? = some x := by unfold pick at hpick; rwa [if_pos ⟨hc1, hc2⟩] at hpick
          have hk3 : (k : Int) < (ds.length : Int) := by omega
          have hk4 : ¬ ds.length ≤ k := by omega
          clear hc1
          obtain ⟨ad, hA2, hcx⟩ := code_at HB.out hx
          subst hA2
          have HXX := Lib.hid (hcx wr HCr.out)
          generalize hb : ad.add (k * 5) = b at *
          have i0 : wr.cell? b = some (.int .u8 x.op) := by
            have := HXX.out 0 (by omega)
            rwa [add_zero] at this
          have i1 : wr.cell? ⟨b.block, b.off + 1, none⟩ = some (.int .u8 x.a) := by
            have := HXX.out 1 (by omega)
            rwa [addr_add] at this
          have i2 : wr.cell? ⟨b.block, b.off + 2, none⟩ = some (.int .u8 x.b) := by
            have := HXX.out 2 (by omega)
            rwa [addr_add] at this
          have i3 : wr.cell? ⟨b.block, b.off + 3, none⟩ = some (.int .u8 x.c) := by
            have := HXX.out 3 (by omega)
            rwa [addr_add] at this
          have i4 : wr.cell? ⟨b.block, b.off + 4, none⟩ = some (.int .i32 x.n) := by
            have := HXX.out 4 (by omega)
            rwa [addr_add] at this
          clear hcx hpick hx
          go_wp2_with (at_builtin; refine wpList_append_sz rfl (.tmp 31) (.tmp 36) 22 rfl w2.heap.size 45 (.agg #[.int .u8 0, .int .u8 0, .int .u8 0, .int .u8 0, .int .i32 0]) 5 8 Tryd.underlying22 info45 rfl (by omega) u7 k (codeCells (mixTo pc cs ds k)) rfl ⟨wr.heap.size, 0, none⟩ 1 1 x.cells rfl (HO.out.alloc _) rfl ((Row.new wr 45 x.cells).cl0) (cells_one x) (by omega) (by omega) (by simp; omega) ?_; intro v1 w1 ho1 hg1 hat1; rw [← HPX.out] at ho1; have HO1 := Lib.hid ho1; have HC1 : Hid (Ch No w2 w1) := (grown_no (Nat.le_refl _) (HO.out.alloc _) hg1 (HC.out.alloc _)); clear ho1 hg1 hat1)
          refine ⟨⟨k + 1, by omega, by go_num, HO1, HC1⟩, by simp [intOf]; omega⟩
        · have hx : cs[k]? = some x := by unfold pick at hpick; rwa [if_neg (by omega)] at hpick
          have hk3 : ¬ (k : Int) < (ds.length : Int) := by omega
          have hk4 : ds.length ≤ k := by omega
          clear hc1
          obtain ⟨ad, hA2, hcx⟩ := code_at HCODE.out hx
          subst hA2
          have HXX := Lib.hid (hcx wr HCr.out)
          generalize hb : ad.add (k * 5) = b at *
          have i0 : wr.cell? b = some (.int .u8 x.op) := by
            have := HXX.out 0 (by omega)
            rwa [add_zero] at this
          have i1 : wr.cell? ⟨b.block, b.off + 1, none⟩ = some (.int .u8 x.a) := by
            have := HXX.out 1 (by omega)
            rwa [addr_add] at this
          have i2 : wr.cell? ⟨b.block, b.off + 2, none⟩ = some (.int .u8 x.b) := by
            have := HXX.out 2 (by omega)
            rwa [addr_add] at this
          have i3 : wr.cell? ⟨b.block, b.off + 3, none⟩ = some (.int .u8 x.c) := by
            have := HXX.out 3 (by omega)
            rwa [addr_add] at this
          have i4 : wr.cell? ⟨b.block, b.off + 4, none⟩ = some (.int .i32 x.n) := by
            have := HXX.out 4 (by omega)
            rwa [addr_add] at this
          clear hcx hpick hx
          go_wp2_with (at_builtin; refine wpList_append_sz rfl (.tmp 38) (.tmp 44) 22 rfl w2.heap.size 45 (.agg #[.int .u8 0, .int .u8 0, .int .u8 0, .int .u8 0, .int .i32 0]) 5 8 Tryd.underlying22 info45 rfl (by omega) u7 k (codeCells (mixTo pc cs ds k)) rfl ⟨wr.heap.size, 0, none⟩ 1 1 x.cells rfl (HO.out.alloc _) rfl ((Row.new wr 45 x.cells).cl0) (cells_one x) (by omega) (by omega) (by simp; omega) ?_; intro v1 w1 ho1 hg1 hat1; rw [← HPX.out] at ho1; have HO1 := Lib.hid ho1; have HC1 : Hid (Ch No w2 w1) := (grown_no (Nat.le_refl _) (HO.out.alloc _) hg1 (HC.out.alloc _)); clear ho1 hg1 hat1)
          refine ⟨⟨k + 1, by omega, by go_num, HO1, HC1⟩, by simp [intOf]; omega⟩
    · obtain rfl : k = cs.length := by omega
      obtain ⟨O', ocap, hv, hoc, hol⟩ := owns_code (mixTo_length pc cs ds cs.length (Nat.le_refl _)) HO.out
      subst hv
      have HOL := Lib.hid hol
      clear hol HO
      go_upto_region 11 with (fail)
      go_cut [76] from 12 (fun v wx => v = .bool (rcF cs pc) ∧ wr = wx)
      case first =>
        by_cases p0 : pc < 0
        · have hrc : Hid (rcF cs pc = false) := by show _ = _; unfold rcF; rw [if_pos p0]
          have p1 : ¬ (0 : Int) ≤ pc := by omega
          go_wp2
          go_meet
          case rel => exact ⟨congrArg Value.bool hrc.out.symm, rfl⟩
        · obtain ⟨q, rfl⟩ := Int.eq_ofNat_of_zero_le (show 0 ≤ pc by omega)
          have q0 : (0 : Int) ≤ (q : Int) := by omega
          clear p0
          by_cases p1 : q < cs.length
          · have q1 : (q : Int) < (cs.length : Int) := by omega
            have q2 : ¬ cs.length ≤ q := by omega
            obtain ⟨x, hx⟩ : ∃ x, cs[q]? = some x := ⟨_, List.getElem?_eq_getElem p1⟩
            have hrc : Hid (rcF cs (q : Int) = decide (x.op = 5 ∧ x.b < 16)) := by show _ = _; unfold rcF; rw [if_neg (by omega)]; simp only [Int.toNat_natCast, hx]
            obtain ⟨ad, hA2, hcx⟩ := code_at HCODE.out hx
            subst hA2
            have HXX := Lib.hid (hcx wr HCr.out)
            generalize hb : ad.add (q * 5) = b at *
            have i0 : wr.cell? b = some (.int .u8 x.op) := by
              have := HXX.out 0 (by omega)
              rwa [add_zero] at this
            have i2 : wr.cell? ⟨b.block, b.off + 2, none⟩ = some (.int .u8 x.b) := by
              have := HXX.out 2 (by omega)
              rwa [addr_add] at this
            clear hcx hx
            by_cases o5 : x.op = 5
            · have o6 : ((x.op : Int) == 5) = true := by simp; omega
              by_cases b5 : x.b < 16
              · have b6 : (x.b : Int) < 16 := by omega
                have hrt : Hid (rcF cs (q : Int) = true) := by show _ = _; rw [hrc.out]; simp [o5, b5]
                clear o5
                go_wp2
                go_meet
                case rel => exact ⟨congrArg Value.bool hrt.out.symm, rfl⟩
              · have b6 : ¬ (x.b : Int) < 16 := by omega
                have hrt : Hid (rcF cs (q : Int) = false) := by show _ = _; rw [hrc.out]; simp [b5]
                clear o5
                go_wp2
                go_meet
                case rel => exact ⟨congrArg Value.bool hrt.out.symm, rfl⟩
            · have o6 : ((x.op : Int) == 5) = false := by simp; omega
              have hrt : Hid (rcF cs (q : Int) = false) := by show _ = _; rw [hrc.out]; simp [o5]
              clear o5
              go_wp2
              go_meet
              case rel => exact ⟨congrArg Value.bool hrt.out.symm, rfl⟩
          · have q1 : ¬ (q : Int) < (cs.length : Int) := by omega
            have q2 : cs.length ≤ q := by omega
            have hrc : Hid (rcF cs (q : Int) = false) := by show _ = _; unfold rcF; rw [if_neg (by omega)]; simp only [Int.toNat_natCast, List.getElem?_eq_none q2]
            go_wp2
            go_meet
            case rel => exact ⟨congrArg Value.bool hrc.out.symm, rfl⟩
      case rest =>
        obtain ⟨hv76, hwc⟩ := hcut
        subst hv76
        subst hwc
        go_upto_if 76 with (fail)
        go_cut [9] from 12 (fun v wx => v = .int .i64 (readF cs r pc) ∧ Hid (Ch No wr wx))
        case first =>
          rcases rcF_cases cs r pc with ⟨hrc, hrd⟩ | ⟨hrc, q, x, rfl, hx, hxb, hrd⟩
          · rw [hrc]
            have HRD := Lib.hid hrd
            clear hrd hrc
            go_wp2
            go_meet
            case rel => exact ⟨congrArg (Value.int .i64) HRD.out.symm, Ch.refl _ _⟩
          · rw [hrc]
            have HRD := Lib.hid hrd
            clear hrd hrc
            have p1 : q < cs.length := (List.getElem?_eq_some_iff.1 hx).1
            have q0 : (0 : Int) ≤ (q : Int) := by omega
            have q1 : (q : Int) < (cs.length : Int) := by omega
            have q2 : ¬ cs.length ≤ q := by omega
            have hxo : x.ok := HCS.out x (List.mem_of_getElem? hx)
            obtain ⟨ad, hA2, hcx⟩ := code_at HCODE.out hx
            subst hA2
            have HXX := Lib.hid (hcx wr HCr.out)
            generalize hb : ad.add (q * 5) = b at *
            have i2 : wr.cell? ⟨b.block, b.off + 2, none⟩ = some (.int .u8 x.b) := by
              have := HXX.out 2 (by omega)
              rwa [addr_add] at this
            have i4 : wr.cell? ⟨b.block, b.off + 4, none⟩ = some (.int .i32 x.n) := by
              have := HXX.out 4 (by omega)
              rwa [addr_add] at this
            have b6 : (x.b : Int) < 16 := by omega
            have n0 : -2147483648 ≤ x.n := hxo.2.2.2.2.1
            have n1 : x.n ≤ 2147483647 := hxo.2.2.2.2.2
            have g3 : wr.cell? ⟨w.heap.size, 3 + x.b, none⟩ = some (.int .i64 (r x.b)) := (HRr.out.cell _).trans (mach_get _ _ _ _ _ x.b hxb)
            have hadd : IntKind.i64.wrap (r x.b + x.n) = Fadd (r x.b) x.n := by rw [i64_wrap, bv_toInt, add_is]
            clear hcx hx hxo
            go_wp2_with (fail)
            go_quiet (fail)
            go_wp2
            go_meet
            case rel => exact ⟨by rw [HRD.out], by first | exact (Ch.refl No wr).drew | exact (Ch.refl No wr).drewN _⟩
        case rest =>
          obtain ⟨hv9, HCw⟩ := hcut
          subst hv9
          generalize hRD : readF cs r pc = RD at *
          have HRD := Lib.hid hRD
          have HR5 := Lib.hid (HRr.out.keepNo HCw.out)
          have HC5 := Lib.hid (HCr.out.then_ HCw.out)
          have HOL5 := Lib.hid (HOL.out.keepNo HCw.out)
          clear hRD g0 g1 HRr HCr HOL HC
          generalize wc = w5 at *
          have hlt5 : w.heap.size < w5.heap.size := HR5.out.lt
          go_wp2_with (fail)
          go_loopw [10, 11] (fun v i wl => ∃ k : Nat, k ≤ xs.length ∧ i = .int .i64 k ∧ Hid (wl.ownsRow w5.heap.size 2 1 v (ints (mixTo RD xs ys k)).length (ints (mixTo RD xs ys k))) ∧ Hid (Ch No w5 wl)) (fun _ i _ => xs.length - (intOf i).toNat)
          case atStart => exact ⟨0, by omega, rfl, owns_nil _ _ _ _, Ch.refl _ _⟩
          case round =>
            obtain ⟨k, hk, rfl, HO, HC⟩ := hrel
            have HRr := Lib.hid (HR5.out.keepNo HC.out)
            have HCr := Lib.hid (HC5.out.then_ HC.out)
            have hltr : w5.heap.size ≤ wr.heap.size := HC.out.size
            have hltq : w.heap.size < wr.heap.size := by omega
            have HLN := Lib.hid (mixTo_length RD xs ys k hk)
            have g0 : wr.cell? ⟨w.heap.size, 1, none⟩ = some (.slice M xs.length mcap) := HRr.out.cell 1
            by_cases hlt : k < xs.length
            · obtain ⟨x, hpick⟩ := pick_some RD xs ys hlt
              have HPX : Hid (ints (mixTo RD xs ys (k + 1)) = ints (mixTo RD xs ys k) ++ ints [x]) := by show _ = _; rw [mixTo_succ hpick, ints_append]
              have hk1 : (k : Int) < (xs.length : Int) := by omega
              have hk2 : (0 : Int) ≤ (k : Int) := by omega
              by_cases hc1 : (k : Int) = RD
              · have hx : xs[k]? = some x := by unfold pick at hpick; rwa [if_neg (by omega)] at hpick
                have n1 : ((k : Int) != RD) = false := by simp [hc1]
                clear hc1
                obtain ⟨ad, hA2, hcx⟩ : ∃ ad, M = some ad ∧ wr.cell? (ad.add k) = some (.int .i64 x) := by
                  obtain ⟨ad, e, hc⟩ := (HMM.out.keepNo HCr.out) k (.int .i64 x) (by simp [ints, hx])
                  exact ⟨ad, e, hc⟩
                subst hA2
                clear hpick hx
                go_wp2_with (at_builtin; refine wpList_append_to rfl (.tmp 119) (.tmp 125) 23 rfl w5.heap.size 2 (.int .i64 0) 8 Tryd.underlying23 info2 rfl u10 (ints (mixTo RD xs ys k)) rfl _ _ _ (ints [x]) rfl (HO.out.alloc _) (ints_length _) ((Row.new wr 2 (ints [x])).cl0) (ints_one _) (by rw [ints_length, HLN.out]; omega) (by omega) (by simp; omega) ?_; intro v1 w1 ho1 hg1 hat1; rw [← HPX.out] at ho1; have HO1 := Lib.hid ho1; have HC1 : Hid (Ch No w5 w1) := (grown_no (Nat.le_refl _) (HO.out.alloc _) hg1 (HC.out.alloc _)); clear ho1 hg1 hat1)
                refine ⟨⟨k + 1, by omega, by go_num, HO1, HC1⟩, by simp [intOf]; omega⟩
              · have n1 : ((k : Int) != RD) = true := by simp [hc1]
                by_cases hc2 : k < ys.length
                · have hx : ys[k]? = some x := by unfold pick at hpick; rwa [if_pos ⟨hc1, hc2⟩] at hpick
                  have hk3 : (k : Int) < (ys.length : Int) := by omega
                  have hk4 : ¬ ys.length ≤ k := by omega
                  clear hc1
                  obtain ⟨ad, hA2, hcx⟩ : ∃ ad, Y = some ad ∧ wr.cell? (ad.add k) = some (.int .i64 x) := by
                    obtain ⟨ad, e, hc⟩ := (HY.out.keepNo HCr.out) k (.int .i64 x) (by simp [ints, hx])
                    exact ⟨ad, e, hc⟩
                  subst hA2
                  clear hpick hx
                  go_wp2_with (at_builtin; refine wpList_append_to rfl (.tmp 112) (.tmp 117) 23 rfl w5.heap.size 2 (.int .i64 0) 8 Tryd.underlying23 info2 rfl u10 (ints (mixTo RD xs ys k)) rfl _ _ _ (ints [x]) rfl (HO.out.alloc _) (ints_length _) ((Row.new wr 2 (ints [x])).cl0) (ints_one _) (by rw [ints_length, HLN.out]; omega) (by omega) (by simp; omega) ?_; intro v1 w1 ho1 hg1 hat1; rw [← HPX.out] at ho1; have HO1 := Lib.hid ho1; have HC1 : Hid (Ch No w5 w1) := (grown_no (Nat.le_refl _) (HO.out.alloc _) hg1 (HC.out.alloc _)); clear ho1 hg1 hat1)
                  refine ⟨⟨k + 1, by omega, by go_num, HO1, HC1⟩, by simp [intOf]; omega⟩
                · have hx : xs[k]? = some x := by unfold pick at hpick; rwa [if_neg (by omega)] at hpick
                  have hk3 : ¬ (k : Int) < (ys.length : Int) := by omega
                  have hk4 : ys.length ≤ k := by omega
                  clear hc1
                  obtain ⟨ad, hA2, hcx⟩ : ∃ ad, M = some ad ∧ wr.cell? (ad.add k) = some (.int .i64 x) := by
                    obtain ⟨ad, e, hc⟩ := (HMM.out.keepNo HCr.out) k (.int .i64 x) (by simp [ints, hx])
                    exact ⟨ad, e, hc⟩
                  subst hA2
                  clear hpick hx
                  go_wp2_with (at_builtin; refine wpList_append_to rfl (.tmp 119) (.tmp 125) 23 rfl w5.heap.size 2 (.int .i64 0) 8 Tryd.underlying23 info2 rfl u10 (ints (mixTo RD xs ys k)) rfl _ _ _ (ints [x]) rfl (HO.out.alloc _) (ints_length _) ((Row.new wr 2 (ints [x])).cl0) (ints_one _) (by rw [ints_length, HLN.out]; omega) (by omega) (by simp; omega) ?_; intro v1 w1 ho1 hg1 hat1; rw [← HPX.out] at ho1; have HO1 := Lib.hid ho1; have HC1 : Hid (Ch No w5 w1) := (grown_no (Nat.le_refl _) (HO.out.alloc _) hg1 (HC.out.alloc _)); clear ho1 hg1 hat1)
                  refine ⟨⟨k + 1, by omega, by go_num, HO1, HC1⟩, by simp [intOf]; omega⟩
            · obtain rfl : k = xs.length := by omega
              obtain ⟨Q', qcap, hv, hqc, hql⟩ := owns_ints (mixTo_length RD xs ys xs.length (Nat.le_refl _)) HO.out
              subst hv
              have hs1 : ∀ w', Ch No wr w' → Calls Tryd.prog 12 #[.slice O' cs.length ocap, .slice Q' xs.length qcap, .int .i64 fixed, .agg (regCells r).toArray, .int .i64 pc] w' fun e w'' => e = .returned (.agg (effCells (stepF cs xs fixed r pc)).toArray) ∧ Ch No wr w'' := by
                intro w' hw'
                have e := stepF_mix cs ds xs ys fixed r pc
                rw [HRD.out] at e
                have hml := mixTo_length pc cs ds cs.length (Nat.le_refl _)
                have hmx := mixTo_length RD xs ys xs.length (Nat.le_refl _)
                have h := step_calls O' (mixTo pc cs ds cs.length) ocap (by rw [hml]; omega) (mixTo_all HCS.out HDS.out _) Q' (mixTo RD xs ys xs.length) qcap (by rw [hmx]; omega) (by rw [hmx]; exact hqc) fixed r HIN.out pc w' ((HOL5.out.keepNo HC.out).keepNo hw') (hql.keepNo hw') (HG.out.keep (HCr.out.then_ hw') (not_no _))
                rw [e, hml, hmx] at h
                exact h.mono fun _ _ q => ⟨q.1, hw'.then_ q.2⟩
              have hs2 : ∀ w', Ch No wr w' → Calls Tryd.prog 12 #[.slice A cs.length cap, .slice M xs.length mcap, .int .i64 fixed, .agg (regCells r).toArray, .int .i64 pc] w' fun e w'' => e = .returned (.agg (effCells (stepF cs xs fixed r pc)).toArray) ∧ Ch No wr w'' := by
                intro w' hw'
                have h := step_calls A cs cap (by omega) HCS.out M xs mcap (by omega) hmc fixed r HIN.out pc w' (HCODE.out.keepNo (HCr.out.then_ hw')) (HMM.out.keepNo (HCr.out.then_ hw')) (HG.out.keep (HCr.out.then_ hw') (not_no _))
                exact h.mono fun _ _ q => ⟨q.1, hw'.then_ q.2⟩
              have HQL := Lib.hid hql
              clear hql HO
              generalize stepF cs xs fixed r pc = E at *
              have hI24 : (Tryd.prog.info? 24).map (·.size) = some (regCells r).length := by rw [regCells_length]; exact size24
              have HS1 := Lib.hid hs1
              have HS2 := Lib.hid hs2
              have HI24 := Lib.hid hI24
              clear hs1 hs2 hI24
              have hk0 : ∀ w', Ch No wr w' → w'.cell? ⟨w.heap.size, 0, none⟩ = some (.slice A cs.length cap) := fun w' hw' => (HRr.out.keepNo hw').cell 0
              have hk1 : ∀ w', Ch No wr w' → w'.cell? ⟨w.heap.size, 1, none⟩ = some (.slice M xs.length mcap) := fun w' hw' => (HRr.out.keepNo hw').cell 1
              have hk2 : ∀ w', Ch No wr w' → w'.cell? ⟨w.heap.size, 2, none⟩ = some (.int .i64 fixed) := fun w' hw' => (HRr.out.keepNo hw').cell 2
              have hk19 : ∀ w', Ch No wr w' → w'.cell? ⟨w.heap.size, 19, none⟩ = some (.int .i64 pc) := fun w' hw' => ((HRr.out.keepNo hw').cell 19).trans (mach_pc _ _ _ _ _)
              have hkr : ∀ w', Ch No wr w' → w'.rangeAt w.heap.size 3 (regCells r) := fun w' hw' => mach_range (HRr.out.keepNo hw')
              have HK0 := Lib.hid hk0
              have HK1 := Lib.hid hk1
              have HK2 := Lib.hid hk2
              have HK19 := Lib.hid hk19
              have HKR := Lib.hid hkr
              clear hk0 hk1 hk2 hk19 hkr
              go_upto_region 20 with (fail)
              refine wp_region_quiet_tail 21 (by kernel_rfl) (by kernel_rfl) (fun w' => Ch No wr w') ((Ch.refl _ _).drew) ?_
              simp only [List.take_succ_cons, List.take_zero, List.drop_succ_cons, List.drop_zero]
              refine wpQuiet_value (by rfl) (.slice O' cs.length ocap) (fun _ => rfl) ?_
              simp only [Act.put, List.setIfInBounds_toArray, List.set_cons_zero, List.set_cons_succ]
              refine wpQuiet_value (by rfl) (.slice Q' xs.length qcap) (fun _ => rfl) ?_
              simp only [Act.put, List.setIfInBounds_toArray, List.set_cons_zero, List.set_cons_succ]
              refine wpQuiet_value (by rfl) (.pointer (some ⟨w.heap.size, 2, none⟩)) (fun _ => by kernel_rfl) ?_
              simp only [Act.put, List.setIfInBounds_toArray, List.set_cons_zero, List.set_cons_succ]
              refine wpQuiet_read (by rfl) (.int .i64 fixed) (fun w' hw' => exec_load_cell 3 (.tmp 129) rfl ⟨w.heap.size, 2, none⟩ rfl _ Tryd.underlying3 rfl _ ((HRr.out.keepNo hw').cell 2)) ?_
              simp only [Act.put, List.setIfInBounds_toArray, List.set_cons_zero, List.set_cons_succ]
              refine wpQuiet_value (by rfl) (.pointer (some ⟨w.heap.size, 3, none⟩)) (fun _ => by kernel_rfl) ?_
              simp only [Act.put, List.setIfInBounds_toArray, List.set_cons_zero, List.set_cons_succ]
              refine wpQuiet_read (by rfl) (.agg (regCells r).toArray) (fun w' hw' => exec_load_mid 24 (.tmp 131) rfl w.heap.size 3 rfl (regCells r) _ (HKR.out w' hw') Tryd.underlying24 rfl HI24.out) ?_
              simp only [Act.put, List.setIfInBounds_toArray, List.set_cons_zero, List.set_cons_succ]
              refine wpQuiet_value (by rfl) (.pointer (some ⟨w.heap.size, 19, none⟩)) (fun _ => by kernel_rfl) ?_
              simp only [Act.put, List.setIfInBounds_toArray, List.set_cons_zero, List.set_cons_succ]
              refine wpQuiet_read (by rfl) (.int .i64 pc) (fun w' hw' => exec_load_cell 3 (.tmp 133) rfl ⟨w.heap.size, 19, none⟩ rfl _ Tryd.underlying3 rfl _ (((HRr.out.keepNo hw').cell 19).trans (mach_pc _ _ _ _ _))) ?_
              simp only [Act.put, List.setIfInBounds_toArray, List.set_cons_zero, List.set_cons_succ]
              refine wpQuiet_call (by rfl) (.agg (effCells E).toArray) 12 #[.slice O' cs.length ocap, .slice Q' xs.length qcap, .int .i64 fixed, .agg (regCells r).toArray, .int .i64 pc] (fun _ => by kernel_rfl) HS1.out ?_
              simp only [Act.put, List.setIfInBounds_toArray, List.set_cons_zero, List.set_cons_succ]
              refine wpQuiet_value (by rfl) (.pointer (some ⟨w.heap.size, 0, none⟩)) (fun _ => by kernel_rfl) ?_
              simp only [Act.put, List.setIfInBounds_toArray, List.set_cons_zero, List.set_cons_succ]
              refine wpQuiet_read (by rfl) (.slice A cs.length cap) (fun w' hw' => exec_load_cell 22 (.tmp 136) rfl ⟨w.heap.size, 0, none⟩ rfl _ Tryd.underlying22 rfl _ ((HRr.out.keepNo hw').cell 0)) ?_
              simp only [Act.put, List.setIfInBounds_toArray, List.set_cons_zero, List.set_cons_succ]
              refine wpQuiet_value (by rfl) (.pointer (some ⟨w.heap.size, 1, none⟩)) (fun _ => by kernel_rfl) ?_
              simp only [Act.put, List.setIfInBounds_toArray, List.set_cons_zero, List.set_cons_succ]
              refine wpQuiet_read (by rfl) (.slice M xs.length mcap) (fun w' hw' => exec_load_cell 23 (.tmp 138) rfl ⟨w.heap.size, 1, none⟩ rfl _ Tryd.underlying23 rfl _ ((HRr.out.keepNo hw').cell 1)) ?_
              simp only [Act.put, List.setIfInBounds_toArray, List.set_cons_zero, List.set_cons_succ]
              refine wpQuiet_value (by rfl) (.pointer (some ⟨w.heap.size, 2, none⟩)) (fun _ => by kernel_rfl) ?_
              simp only [Act.put, List.setIfInBounds_toArray, List.set_cons_zero, List.set_cons_succ]
              refine wpQuiet_read (by rfl) (.int .i64 fixed) (fun w' hw' => exec_load_cell 3 (.tmp 140) rfl ⟨w.heap.size, 2, none⟩ rfl _ Tryd.underlying3 rfl _ ((HRr.out.keepNo hw').cell 2)) ?_
              simp only [Act.put, List.setIfInBounds_toArray, List.set_cons_zero, List.set_cons_succ]
              refine wpQuiet_value (by rfl) (.pointer (some ⟨w.heap.size, 3, none⟩)) (fun _ => by kernel_rfl) ?_
              simp only [Act.put, List.setIfInBounds_toArray, List.set_cons_zero, List.set_cons_succ]
              refine wpQuiet_read (by rfl) (.agg (regCells r).toArray) (fun w' hw' => exec_load_mid 24 (.tmp 142) rfl w.heap.size 3 rfl (regCells r) _ (HKR.out w' hw') Tryd.underlying24 rfl HI24.out) ?_
              simp only [Act.put, List.setIfInBounds_toArray, List.set_cons_zero, List.set_cons_succ]
              refine wpQuiet_value (by rfl) (.pointer (some ⟨w.heap.size, 19, none⟩)) (fun _ => by kernel_rfl) ?_
              simp only [Act.put, List.setIfInBounds_toArray, List.set_cons_zero, List.set_cons_succ]
              refine wpQuiet_read (by rfl) (.int .i64 pc) (fun w' hw' => exec_load_cell 3 (.tmp 144) rfl ⟨w.heap.size, 19, none⟩ rfl _ Tryd.underlying3 rfl _ (((HRr.out.keepNo hw').cell 19).trans (mach_pc _ _ _ _ _))) ?_
              simp only [Act.put, List.setIfInBounds_toArray, List.set_cons_zero, List.set_cons_succ]
              refine wpQuiet_call (by rfl) (.agg (effCells E).toArray) 12 #[.slice A cs.length cap, .slice M xs.length mcap, .int .i64 fixed, .agg (regCells r).toArray, .int .i64 pc] (fun _ => by kernel_rfl) HS2.out ?_
              simp only [Act.put, List.setIfInBounds_toArray, List.set_cons_zero, List.set_cons_succ]
              refine wpQuiet_value (by rfl) (.bool true) (fun w' => exec_eq_eff w' (.tmp 135) (.tmp 146) rfl E rfl rfl) ?_
              simp only [Act.put, List.setIfInBounds_toArray, List.set_cons_zero, List.set_cons_succ]
              refine wpQuiet_nil ?_
              try simp only [Act.put, List.setIfInBounds_toArray, List.set_cons_zero, List.set_cons_succ]
              intro w6 hw6
              have HW6 := Lib.hid hw6
              clear hw6
              go_wp2
              go_ret
              exact ⟨rfl, HCr.out.then_ HW6.out⟩
end Go.Proofs.YtellmlffkgfeiaaDoor

