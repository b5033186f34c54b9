/- The calls of package health: what each answers. -/
import Derived.Test.YtdgaelbehnlegaaDoorProg
import Derived.Test.YtdgaelbehnlegaaDoorK
import Derived.LoopTactic
set_option linter.unusedVariables false
set_option linter.unusedSimpArgs false
namespace Go.Proofs.YtdgaelbehnlegaaDoor
open Go.RowKit

/-- a partition, by value: its cells; its list of processes, its handler, its table -/
structure PartOf (pc : List Value) (A : Option Addr) (n c : Nat) (h : Int) (T : Nat → Int) : Prop where
  len : pc.length = 21
  one : ∀ v ∈ pc, v.oneCell' = true
  procs : pc[8]? = some (.slice A n c)
  hand : pc[9]? = some (.int .i64 h)
  tab : ∀ k : Nat, k < 8 → pc[10 + k]? = some (.int .i64 (T k))
theorem size34 : (Tryd.prog.info? 34).map (·.size) = some 21 := by kernel_rfl
/-- its handler -/
def hnd (h n : Int) : Int := if h < 0 ∨ n < h then 0 else h

/-- what the table says of a process that is no handler -/
def act (a kind : Int) (busy : Bool) (hd : Int) : Int :=
  if a < 0 ∨ 5 < a then 1 else if a = 3 then (if hd = 0 then 1 else if busy = false then 3 else if kind = 4 then 1 else 0) else if a = 0 ∧ kind = 4 then 1 else a

theorem isAction_yes (a : Int) (w : World) (h0 : 0 ≤ a) (h5 : a ≤ 5) : Calls Tryd.prog 19 #[.int .i64 a] w fun e w' => e = .returned (.bool true) ∧ w = w' := by
  go_enter Tryd.func19, Tryd.ntmps19
  go_wp2
  go_ret
  exact ⟨by simp [h5], rfl⟩
theorem isAction_no (a : Int) (w : World) (h : a < 0 ∨ 5 < a) : Calls Tryd.prog 19 #[.int .i64 a] w fun e w' => e = .returned (.bool false) ∧ w = w' := by
  rcases h with h | h
  · go_enter Tryd.func19, Tryd.ntmps19
    go_wp2
    go_ret
    exact ⟨by simp, rfl⟩
  · go_enter Tryd.func19, Tryd.ntmps19
    go_wp2
    go_ret
    exact ⟨by simp; omega, rfl⟩

theorem handler_calls (pc : List Value) (A : Option Addr) (n c : Nat) (h : Int) (T : Nat → Int) (w : World) (hn : n ≤ 1000) (hp : PartOf pc A n c h T) :
    Calls Tryd.prog 17 #[.agg pc.toArray] w fun e w' => e = .returned (.int .i64 (hnd h n)) ∧ Ch No w w' := by
  have p8 := hp.procs
  have p9 := hp.hand
  clear hp
  go_enter Tryd.func17, Tryd.ntmps17
  go_wp2
  all_goals go_ret
  all_goals refine ⟨?_, (by repeat (first | exact Ch.refl _ _ | assumption | apply Ch.alloc | apply Ch.drewN | apply Ch.drew | (refine Ch.setCell ?_ (fun hh => absurd hh (by simp)) _)))⟩
  all_goals (congr 2; unfold hnd; simp; omega)

set_option maxHeartbeats 4000000 in
theorem action_calls (k : Nat) (h1 : 1 ≤ k) (h7 : k ≤ 7) (busy : Bool) (pc : List Value) (A : Option Addr) (n c : Nat) (h : Int) (T : Nat → Int) (w : World) (hn : n ≤ 1000) (hp : PartOf pc A n c h T) :
    Calls Tryd.prog 18 #[.agg pc.toArray, .int .i64 (k : Int), .bool busy] w fun e w' => e = .returned (.int .i64 (act (T k) k busy (hnd h n))) ∧ Ch No w w' := by
  have HC := Lib.hid (fun w => handler_calls pc A n c h T w hn hp)
  have pk := hp.tab k (by omega)
  have HI : Hid ((Tryd.prog.info? 34).map (·.size) = some pc.length) := by rw [hp.len]; exact size34
  generalize T k = a at *
  clear hp
  by_cases hr : 0 ≤ a ∧ a ≤ 5
  · obtain ⟨hr0, hr5⟩ := hr
    have hnr : ¬ (a < 0 ∨ 5 < a) := by omega
    have HNR := Lib.hid hnr
    clear hnr
    by_cases h3 : a = 3
    · have b3 : (a == 3) = true := by simpa using h3
      have H3 := Lib.hid h3
      clear h3
      by_cases h0 : hnd h n = 0
      · have b0 : (hnd h n == 0) = true := by simpa using h0
        have H0 := Lib.hid h0
        clear h0
        go_enter Tryd.func18, Tryd.ntmps18
        go_wp2_with (first | (go_at_call 19; refine (isAction_yes _ _ hr0 hr5).mono ?_; rintro e w' ⟨rfl, rfl⟩) | (refine wpList_load_agg (o := ⟨some 20, _, _, _, _, _⟩) rfl 34 _ rfl w.heap.size rfl 34 pc (Row.new w 34 pc) _ Tryd.underlying34 rfl HI.out ?_) | (go_at_call 17; refine (HC.out _).mono ?_; rintro e w1 ⟨rfl, hc⟩; have HC1 := Lib.hid hc; clear hc))
        go_ret
        refine ⟨by unfold act; rw [if_neg HNR.out, if_pos H3.out, if_pos H0.out]; rfl, .then_ (by repeat (first | exact Ch.refl _ _ | assumption | apply Ch.alloc | apply Ch.drewN | apply Ch.drew | (refine Ch.setCell ?_ (fun hh => absurd hh (by simp)) _))) HC1.out⟩
      · have b0 : (hnd h n == 0) = false := by simpa using h0
        have H0 := Lib.hid h0
        clear h0
        cases busy
        · go_enter Tryd.func18, Tryd.ntmps18
          go_wp2_with (first | (go_at_call 19; refine (isAction_yes _ _ hr0 hr5).mono ?_; rintro e w' ⟨rfl, rfl⟩) | (refine wpList_load_agg (o := ⟨some 20, _, _, _, _, _⟩) rfl 34 _ rfl w.heap.size rfl 34 pc (Row.new w 34 pc) _ Tryd.underlying34 rfl HI.out ?_) | (go_at_call 17; refine (HC.out _).mono ?_; rintro e w1 ⟨rfl, hc⟩; have HC1 := Lib.hid hc; clear hc))
          go_ret
          refine ⟨by unfold act; rw [if_neg HNR.out, if_pos H3.out, if_neg H0.out, if_pos rfl, ← H3.out]; rfl, .then_ (by repeat (first | exact Ch.refl _ _ | assumption | apply Ch.alloc | apply Ch.drewN | apply Ch.drew | (refine Ch.setCell ?_ (fun hh => absurd hh (by simp)) _))) HC1.out⟩
        · by_cases h4 : (k : Int) = 4
          · have b4 : ((k : Int) == 4) = true := by simpa using h4
            have b4' : (k == 4) = true := by simp; omega
            have H4 := Lib.hid h4
            clear h4
            go_enter Tryd.func18, Tryd.ntmps18
            go_wp2_with (first | (go_at_call 19; refine (isAction_yes _ _ hr0 hr5).mono ?_; rintro e w' ⟨rfl, rfl⟩) | (refine wpList_load_agg (o := ⟨some 20, _, _, _, _, _⟩) rfl 34 _ rfl w.heap.size rfl 34 pc (Row.new w 34 pc) _ Tryd.underlying34 rfl HI.out ?_) | (go_at_call 17; refine (HC.out _).mono ?_; rintro e w1 ⟨rfl, hc⟩; have HC1 := Lib.hid hc; clear hc))
            go_ret
            refine ⟨by unfold act; rw [if_neg HNR.out, if_pos H3.out, if_neg H0.out, if_neg (by simp), if_pos H4.out]; rfl, .then_ (by repeat (first | exact Ch.refl _ _ | assumption | apply Ch.alloc | apply Ch.drewN | apply Ch.drew | (refine Ch.setCell ?_ (fun hh => absurd hh (by simp)) _))) HC1.out⟩
          · have b4 : ((k : Int) == 4) = false := by simpa using h4
            have b4' : (k == 4) = false := by simp; omega
            have H4 := Lib.hid h4
            clear h4
            go_enter Tryd.func18, Tryd.ntmps18
            go_wp2_with (first | (go_at_call 19; refine (isAction_yes _ _ hr0 hr5).mono ?_; rintro e w' ⟨rfl, rfl⟩) | (refine wpList_load_agg (o := ⟨some 20, _, _, _, _, _⟩) rfl 34 _ rfl w.heap.size rfl 34 pc (Row.new w 34 pc) _ Tryd.underlying34 rfl HI.out ?_) | (go_at_call 17; refine (HC.out _).mono ?_; rintro e w1 ⟨rfl, hc⟩; have HC1 := Lib.hid hc; clear hc))
            go_ret
            refine ⟨by unfold act; rw [if_neg HNR.out, if_pos H3.out, if_neg H0.out, if_neg (by simp), if_neg H4.out]; rfl, .then_ (by repeat (first | exact Ch.refl _ _ | assumption | apply Ch.alloc | apply Ch.drewN | apply Ch.drew | (refine Ch.setCell ?_ (fun hh => absurd hh (by simp)) _))) HC1.out⟩
    · have b3 : (a == 3) = false := by simpa using h3
      have H3 := Lib.hid h3
      clear h3
      by_cases h0 : a = 0
      · have b0 : (a == 0) = true := by simpa using h0
        have H0 := Lib.hid h0
        clear h0
        by_cases h4 : (k : Int) = 4
        · have b4 : ((k : Int) == 4) = true := by simpa using h4
          have b4' : (k == 4) = true := by simp; omega
          have H4 := Lib.hid h4
          clear h4
          go_enter Tryd.func18, Tryd.ntmps18
          go_wp2_with (first | (go_at_call 19; refine (isAction_yes _ _ hr0 hr5).mono ?_; rintro e w' ⟨rfl, rfl⟩) | (refine wpList_load_agg (o := ⟨some 20, _, _, _, _, _⟩) rfl 34 _ rfl w.heap.size rfl 34 pc (Row.new w 34 pc) _ Tryd.underlying34 rfl HI.out ?_) | (go_at_call 17; refine (HC.out _).mono ?_; rintro e w1 ⟨rfl, hc⟩; have HC1 := Lib.hid hc; clear hc))
          go_ret
          refine ⟨by unfold act; rw [if_neg HNR.out, if_neg H3.out, if_pos ⟨H0.out, H4.out⟩]; rfl, (by repeat (first | exact Ch.refl _ _ | assumption | apply Ch.alloc | apply Ch.drewN | apply Ch.drew | (refine Ch.setCell ?_ (fun hh => absurd hh (by simp)) _)))⟩
        · have b4 : ((k : Int) == 4) = false := by simpa using h4
          have b4' : (k == 4) = false := by simp; omega
          have H4 := Lib.hid h4
          clear h4
          go_enter Tryd.func18, Tryd.ntmps18
          go_wp2_with (first | (go_at_call 19; refine (isAction_yes _ _ hr0 hr5).mono ?_; rintro e w' ⟨rfl, rfl⟩) | (refine wpList_load_agg (o := ⟨some 20, _, _, _, _, _⟩) rfl 34 _ rfl w.heap.size rfl 34 pc (Row.new w 34 pc) _ Tryd.underlying34 rfl HI.out ?_) | (go_at_call 17; refine (HC.out _).mono ?_; rintro e w1 ⟨rfl, hc⟩; have HC1 := Lib.hid hc; clear hc))
          go_ret
          refine ⟨by unfold act; rw [if_neg HNR.out, if_neg H3.out, if_neg (fun q => H4.out q.2)]; rfl, (by repeat (first | exact Ch.refl _ _ | assumption | apply Ch.alloc | apply Ch.drewN | apply Ch.drew | (refine Ch.setCell ?_ (fun hh => absurd hh (by simp)) _)))⟩
      · have b0 : (a == 0) = false := by simpa using h0
        have H0 := Lib.hid h0
        clear h0
        go_enter Tryd.func18, Tryd.ntmps18
        go_wp2_with (first | (go_at_call 19; refine (isAction_yes _ _ hr0 hr5).mono ?_; rintro e w' ⟨rfl, rfl⟩) | (refine wpList_load_agg (o := ⟨some 20, _, _, _, _, _⟩) rfl 34 _ rfl w.heap.size rfl 34 pc (Row.new w 34 pc) _ Tryd.underlying34 rfl HI.out ?_) | (go_at_call 17; refine (HC.out _).mono ?_; rintro e w1 ⟨rfl, hc⟩; have HC1 := Lib.hid hc; clear hc))
        go_ret
        refine ⟨by unfold act; rw [if_neg HNR.out, if_neg H3.out, if_neg (fun q => H0.out q.1)]; rfl, (by repeat (first | exact Ch.refl _ _ | assumption | apply Ch.alloc | apply Ch.drewN | apply Ch.drew | (refine Ch.setCell ?_ (fun hh => absurd hh (by simp)) _)))⟩
  · have hr' : a < 0 ∨ 5 < a := by omega
    have HR := Lib.hid hr'
    clear hr hr'
    go_enter Tryd.func18, Tryd.ntmps18
    go_wp2_with (go_at_call 19; refine (isAction_no _ _ HR.out).mono ?_; rintro e w' ⟨rfl, rfl⟩)
    go_ret
    refine ⟨by unfold act; rw [if_pos HR.out]; rfl, (by repeat (first | exact Ch.refl _ _ | assumption | apply Ch.alloc | apply Ch.drewN | apply Ch.drew | (refine Ch.setCell ?_ (fun hh => absurd hh (by simp)) _)))⟩

/-- the faults' names -/
def nameOf (k : Int) : ByteArray :=
  if k = 1 then ⟨#[105, 108, 108, 101, 103, 97, 108]⟩ else if k = 2 then ⟨#[109, 101, 109, 111, 114, 121]⟩ else if k = 3 then ⟨#[100, 105, 118, 105, 100, 101]⟩ else if k = 4 then ⟨#[99, 111, 100, 101]⟩
  else if k = 5 then ⟨#[115, 101, 114, 118, 105, 99, 101]⟩ else if k = 6 then ⟨#[114, 97, 105, 115, 101, 100]⟩ else if k = 7 then ⟨#[109, 105, 115, 115]⟩ else ⟨#[]⟩
/-- what the package-level variables hold -/
structure Glob (w : World) : Prop where
  a0 : w.cell? ⟨0, 0, none⟩ = some (.int .i64 0)
  a1 : w.cell? ⟨0, 1, none⟩ = some (.int .i64 0)
  n1 : w.cell? ⟨1, 1, none⟩ = some (.string (nameOf 1))
  n2 : w.cell? ⟨1, 2, none⟩ = some (.string (nameOf 2))
  n3 : w.cell? ⟨1, 3, none⟩ = some (.string (nameOf 3))
  n4 : w.cell? ⟨1, 4, none⟩ = some (.string (nameOf 4))
  n5 : w.cell? ⟨1, 5, none⟩ = some (.string (nameOf 5))
  n6 : w.cell? ⟨1, 6, none⟩ = some (.string (nameOf 6))
  n7 : w.cell? ⟨1, 7, none⟩ = some (.string (nameOf 7))
theorem Glob.keep {w w' : World} (h : Glob w) (hc : Ch No w w') : Glob w' :=
  ⟨hc.cell (not_no _) h.a0, hc.cell (not_no _) h.a1, hc.cell (not_no _) h.n1, hc.cell (not_no _) h.n2, hc.cell (not_no _) h.n3, hc.cell (not_no _) h.n4, hc.cell (not_no _) h.n5, hc.cell (not_no _) h.n6, hc.cell (not_no _) h.n7⟩
theorem Glob.size {w : World} (h : Glob w) : 1 < w.heap.size := World.block_lt_of_cell? w _ h.n1

theorem name_yes (k : Int) (hk : k = 1 ∨ k = 2 ∨ k = 3 ∨ k = 4 ∨ k = 5 ∨ k = 6 ∨ k = 7) (w : World) (hg : Glob w) : Calls Tryd.prog 12 #[.int .i64 k] w fun e w' => e = .returned (.tuple #[.string (nameOf k), .bool true]) ∧ w = w' := by
  have g1 := hg.n1
  have g2 := hg.n2
  have g3 := hg.n3
  have g4 := hg.n4
  have g5 := hg.n5
  have g6 := hg.n6
  have g7 := hg.n7
  clear hg
  rcases hk with rfl | rfl | rfl | rfl | rfl | rfl | rfl
  all_goals
    go_enter Tryd.func12, Tryd.ntmps12
    go_wp2
    go_ret2
    exact ⟨rfl, rfl⟩
theorem name_no (k : Int) (hk : k < 1 ∨ 7 < k) (w : World) : Calls Tryd.prog 12 #[.int .i64 k] w fun e w' => e = .returned (.tuple #[.string ⟨#[]⟩, .bool false]) ∧ w = w' := by
  rcases hk with h | h
  all_goals
    go_enter Tryd.func12, Tryd.ntmps12
    go_wp2
    go_ret2
    exact ⟨rfl, rfl⟩

/-- the verdict -/
def judA (k p n : Int) (busy : Bool) (h a : Int) : Int := if k < 1 ∨ 7 < k ∨ p < 1 ∨ n < p then 0 else if p = hnd h n then 4 else act a k busy (hnd h n)
def judP (k p n : Int) (busy : Bool) (h a : Int) : Int :=
  if k < 1 ∨ 7 < k ∨ p < 1 ∨ n < p then 0 else if p = hnd h n then 0 else if act a k busy (hnd h n) = 3 then hnd h n else if act a k busy (hnd h n) = 4 ∨ act a k busy (hnd h n) = 5 then 0 else p

end Go.Proofs.YtdgaelbehnlegaaDoor
