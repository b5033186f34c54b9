/- health.Judge, Goes, Args, Valid: what each answers. -/
import Derived.Test.YtdgaelbehnlegaaDoorH1
set_option linter.unusedVariables false
set_option linter.unusedSimpArgs false
namespace Go.Proofs.YtdgaelbehnlegaaDoor
open Go.RowKit

theorem size37 : (Tryd.prog.info? 37).map (·.size) = some 2 := by kernel_rfl
/-- two numbers as cells -/
def two (x y : Int) : List Value := [.int .i64 x, .int .i64 y]
theorem two_one (x y : Int) : ∀ v ∈ two x y, v.oneCell' = true := by
  intro v hv
  simp [two] at hv
  rcases hv with rfl | rfl <;> rfl
theorem ch_new {w w' : World} {g : Nat} (h : Ch (Is g) w w') {w0 : World} (hc : Ch No w0 w) (hg : w0.heap.size ≤ g) : Ch No w0 w' := hc.trans h (fun i hi he => by cases he; omega)

theorem judge_bad (k p : Int) (busy : Bool) (pc : List Value) (A : Option Addr) (n c : Nat) (h : Int) (T : Nat → Int) (w : World) (hn : n ≤ 1000) (hp : PartOf pc A n c h T) (hg : Glob w) (hb : k < 1 ∨ 7 < k ∨ p < 1 ∨ n < p) :
    Calls Tryd.prog 6 #[.agg pc.toArray, .int .i64 k, .int .i64 p, .bool busy] w fun e w' => e = .returned (.agg (two 0 0).toArray) ∧ Ch No w w' := by
  have g0 := hg.a0
  have g1 := hg.a1
  have hz := hg.size
  have hz0 : 0 < w.heap.size := by omega
  have HG := Lib.hid hg
  have p8 := hp.procs
  clear hg hp
  by_cases hk : k < 1 ∨ 7 < k
  · have HK := Lib.hid hk
    clear hk hb
    go_enter Tryd.func6, Tryd.ntmps6
    go_wp2_with (go_at_call 12; refine (name_no _ HK.out _).mono ?_; rintro e w' ⟨rfl, rfl⟩)
    refine bodyPost_ret (v := .agg (two 0 0).toArray) (by simp [results, Tryd.results6, go_sem, two]) rfl ⟨rfl, (by repeat (first | exact Ch.refl _ _ | assumption | apply Ch.alloc | apply Ch.drewN | apply Ch.drew | (refine Ch.setCell ?_ (fun hh => absurd hh (by simp)) _)))⟩
  · have hk' : k = 1 ∨ k = 2 ∨ k = 3 ∨ k = 4 ∨ k = 5 ∨ k = 6 ∨ k = 7 := by omega
    have HK := Lib.hid hk'
    have hp : p < 1 ∨ (n : Int) < p := by omega
    clear hk hk' hb
    by_cases hp1 : p < 1
    · clear hp
      go_enter Tryd.func6, Tryd.ntmps6
      go_wp2_with (go_at_call 12; refine (name_yes _ HK.out _ (HG.out.keep (((Ch.refl No w).alloc _).alloc _))).mono ?_; rintro e w' ⟨rfl, rfl⟩)
      refine bodyPost_ret (v := .agg (two 0 0).toArray) (by simp [results, Tryd.results6, go_sem, two]) rfl ⟨rfl, (by repeat (first | exact Ch.refl _ _ | assumption | apply Ch.alloc | apply Ch.drewN | apply Ch.drew | (refine Ch.setCell ?_ (fun hh => absurd hh (by simp)) _)))⟩
    · have hp2 : (n : Int) < p := by omega
      clear hp
      go_enter Tryd.func6, Tryd.ntmps6
      go_wp2_with (go_at_call 12; refine (name_yes _ HK.out _ (HG.out.keep (((Ch.refl No w).alloc _).alloc _))).mono ?_; rintro e w' ⟨rfl, rfl⟩)
      refine bodyPost_ret (v := .agg (two 0 0).toArray) (by simp [results, Tryd.results6, go_sem, two]) rfl ⟨rfl, (by repeat (first | exact Ch.refl _ _ | assumption | apply Ch.alloc | apply Ch.drewN | apply Ch.drew | (refine Ch.setCell ?_ (fun hh => absurd hh (by simp)) _)))⟩

theorem judge_hand (k p : Int) (busy : Bool) (pc : List Value) (A : Option Addr) (n c : Nat) (h : Int) (T : Nat → Int) (w : World) (hn : n ≤ 1000) (hp : PartOf pc A n c h T) (hg : Glob w) (hk1 : 1 ≤ k) (hk7 : k ≤ 7) (hp1 : 1 ≤ p) (hpn : p ≤ n) (he : p = hnd h n) :
    Calls Tryd.prog 6 #[.agg pc.toArray, .int .i64 k, .int .i64 p, .bool busy] w fun e w' => e = .returned (.agg (two 4 0).toArray) ∧ Ch No w w' := by
  have hk' : k = 1 ∨ k = 2 ∨ k = 3 ∨ k = 4 ∨ k = 5 ∨ k = 6 ∨ k = 7 := by omega
  have HK := Lib.hid hk'
  have HG := Lib.hid hg
  have p8 := hp.procs
  have be : (p == hnd h n) = true := by simpa using he
  have HC := Lib.hid (fun w => handler_calls pc A n c h T w hn hp)
  have HI : Hid ((Tryd.prog.info? 34).map (·.size) = some pc.length) := by rw [hp.len]; exact size34
  clear hg hp hk' he
  go_enter Tryd.func6, Tryd.ntmps6
  go_wp2_with (first | (go_at_call 12; refine (name_yes _ HK.out _ (HG.out.keep (((Ch.refl No w).alloc _).alloc _))).mono ?_; rintro e w' ⟨rfl, rfl⟩) | (refine wpList_load_agg (o := ⟨some 32, _, _, _, _, _⟩) rfl 34 _ rfl w.heap.size rfl 34 pc ((Row.new w 34 pc).alloc _) _ Tryd.underlying34 rfl HI.out ?_) | (go_at_call 17; refine (HC.out _).mono ?_; rintro e w1 ⟨rfl, hc⟩; have HC1 := Lib.hid hc; have HZ : Hid (Row w1 (w.heap.size + 1) 37 (two 0 0)) := (Row.new_at (w.alloc (.cells pc.toArray 34)) 37 (two 0 0) (by simp)).keepNo hc; clear hc) | (refine wpList_store_agg (o := ⟨none, _, _, _, _, _⟩) rfl 37 (.tmp 8) (.tmp 35) rfl (w.heap.size + 1) rfl 37 (two 0 0) (two 4 0) rfl HZ.out size37 rfl (two_one _ _) ?_; intro w2 hr2 hc2; have HR2 := Lib.hid hr2; have HC2 := Lib.hid hc2; clear hr2 hc2))
  refine bodyPost_ret (v := .agg (two 4 0).toArray) (results_row rfl _ _ (w.heap.size + 1) 37 (two 4 0) _ rfl HR2.out Tryd.underlying37 rfl size37) rfl ⟨rfl, ch_new HC2.out (.then_ (by repeat (first | exact Ch.refl _ _ | assumption | apply Ch.alloc | apply Ch.drewN | apply Ch.drew | (refine Ch.setCell ?_ (fun hh => absurd hh (by simp)) _))) HC1.out) (by simp)⟩

set_option maxHeartbeats 4000000 in
theorem judge_ok (k : Nat) (p : Int) (busy : Bool) (pc : List Value) (A : Option Addr) (n c : Nat) (hq : Int) (T : Nat → Int) (w : World) (hn : n ≤ 1000) (hp : PartOf pc A n c hq T) (hg : Glob w) (hk1 : 1 ≤ k) (hk7 : k ≤ 7) (hp1 : 1 ≤ p) (hpn : p ≤ n) (he : p ≠ hnd hq n) :
    Calls Tryd.prog 6 #[.agg pc.toArray, .int .i64 (k : Int), .int .i64 p, .bool busy] w fun e w' => e = .returned (.agg (two (act (T k) k busy (hnd hq n)) (if act (T k) k busy (hnd hq n) = 3 then hnd hq n else if act (T k) k busy (hnd hq n) = 4 ∨ act (T k) k busy (hnd hq n) = 5 then 0 else p)).toArray) ∧ Ch No w w' := by
  have hk' : (k : Int) = 1 ∨ (k : Int) = 2 ∨ (k : Int) = 3 ∨ (k : Int) = 4 ∨ (k : Int) = 5 ∨ (k : Int) = 6 ∨ (k : Int) = 7 := by omega
  have HK := Lib.hid hk'
  have HG := Lib.hid hg
  have p8 := hp.procs
  have be : (p == hnd hq n) = false := by simpa using he
  have HC := Lib.hid (fun w => handler_calls pc A n c hq T w hn hp)
  have HA := Lib.hid (fun w => action_calls k hk1 hk7 busy pc A n c hq T w hn hp)
  have HI : Hid ((Tryd.prog.info? 34).map (·.size) = some pc.length) := by rw [hp.len]; exact size34
  clear hg hp hk' he
  generalize act (T k) k busy (hnd hq n) = x at *
  by_cases h3 : x = 3
  · have b3 : (x == 3) = true := by simpa using h3
    have H3 := Lib.hid h3
    clear h3
    go_enter Tryd.func6, Tryd.ntmps6
    go_wp2_with (first | (go_at_call 12; refine (name_yes _ HK.out _ (HG.out.keep (((Ch.refl No w).alloc _).alloc _))).mono ?_; rintro e w' ⟨rfl, rfl⟩) | (refine wpList_load_agg (o := ⟨some 32, _, _, _, _, _⟩) rfl 34 _ rfl w.heap.size rfl 34 pc ((Row.new w 34 pc).alloc _) _ Tryd.underlying34 rfl HI.out ?_) | (go_at_call 17; refine (HC.out _).mono ?_; rintro e w1 ⟨rfl, hc⟩; have HC1 := Lib.hid hc; have HP1 := Lib.hid (((Row.new w 34 pc).alloc _).keepNo hc); have HZ1 : Hid (Row w1 (w.heap.size + 1) 37 (two 0 0)) := (Row.new_at (w.alloc (.cells pc.toArray 34)) 37 (two 0 0) (by simp)).keepNo hc; clear hc) | (refine wpList_load_agg (o := ⟨some 36, _, _, _, _, _⟩) rfl 34 _ rfl w.heap.size rfl 34 pc HP1.out _ Tryd.underlying34 rfl HI.out ?_))
    refine (HA.out _).mono ?_
    rintro e w2 ⟨rfl, hc⟩
    have HC2 : Hid (Ch No w w2) := .then_ (.then_ (((Ch.refl No w).alloc _).alloc _) HC1.out) hc
    have HP2 := Lib.hid (HP1.out.keepNo hc)
    have HZ2 := Lib.hid (HZ1.out.keepNo hc)
    have hz2 : w.heap.size + 1 < w2.heap.size := HZ2.out.lt
    clear hc
    go_wp2_with (refine wpList_load_agg (o := ⟨some 46, _, _, _, _, _⟩) rfl 34 _ rfl w.heap.size rfl 34 pc (HP2.out.alloc _) _ Tryd.underlying34 rfl HI.out ?_)
    refine (HC.out _).mono ?_
    rintro e w3 ⟨rfl, hc⟩
    have HC3 : Hid (Ch No w w3) := .then_ (HC2.out.alloc _) hc
    have HV3 := Lib.hid ((Row.new w2 37 (two x p)).keepNo hc)
    have HZ3 := Lib.hid ((HZ2.out.alloc _).keepNo hc)
    clear hc
    have v0 : w3.cell? ⟨w2.heap.size, 0, none⟩ = some (.int .i64 x) := HV3.out.cell 0
    have v1 : w3.cell? ⟨w2.heap.size, 1, none⟩ = some (.int .i64 p) := HV3.out.cell 1
    have f1 : w3.frozen? ⟨w2.heap.size, 1, none⟩ = false := HV3.out.frozen 1
    go_wp2_with (refine wpList_store_agg (o := ⟨none, _, _, _, _, _⟩) rfl 37 (.tmp 8) (.tmp 53) rfl (w.heap.size + 1) rfl 37 (two 0 0) (two _ _) rfl (HZ3.out.setOther (by simp; omega) _) size37 rfl (two_one _ _) ?_; intro w5 hr5 hc5; have HR5 := Lib.hid hr5; have HC5 := Lib.hid hc5; clear hr5 hc5)
    refine bodyPost_ret (v := .agg (two x (hnd hq n)).toArray) (results_row rfl _ _ (w.heap.size + 1) 37 (two x (hnd hq n)) _ rfl HR5.out Tryd.underlying37 rfl size37) rfl ⟨by first | rfl | (simp [H3.out]; done), ch_new HC5.out (HC3.out.setCell (fun hh => absurd hh (by first | (simp; done) | (simp; omega))) _) (by first | (simp; done) | (simp; omega))⟩
  · have b3 : (x == 3) = false := by simpa using h3
    have H3 := Lib.hid h3
    clear h3
    by_cases h4 : x = 4 ∨ x = 5
    · have H4 := Lib.hid h4
      rcases h4 with h4 | h4
      · have b4 : (x == 4) = true := by simpa using h4
        have b5 : (x == 5) = false := by simp [h4]
        clear h4
        go_enter Tryd.func6, Tryd.ntmps6
        go_wp2_with (first | (go_at_call 12; refine (name_yes _ HK.out _ (HG.out.keep (((Ch.refl No w).alloc _).alloc _))).mono ?_; rintro e w' ⟨rfl, rfl⟩) | (refine wpList_load_agg (o := ⟨some 32, _, _, _, _, _⟩) rfl 34 _ rfl w.heap.size rfl 34 pc ((Row.new w 34 pc).alloc _) _ Tryd.underlying34 rfl HI.out ?_) | (go_at_call 17; refine (HC.out _).mono ?_; rintro e w1 ⟨rfl, hc⟩; have HC1 := Lib.hid hc; have HP1 := Lib.hid (((Row.new w 34 pc).alloc _).keepNo hc); have HZ1 : Hid (Row w1 (w.heap.size + 1) 37 (two 0 0)) := (Row.new_at (w.alloc (.cells pc.toArray 34)) 37 (two 0 0) (by simp)).keepNo hc; clear hc) | (refine wpList_load_agg (o := ⟨some 36, _, _, _, _, _⟩) rfl 34 _ rfl w.heap.size rfl 34 pc HP1.out _ Tryd.underlying34 rfl HI.out ?_))
        refine (HA.out _).mono ?_
        rintro e w2 ⟨rfl, hc⟩
        have HC2 : Hid (Ch No w w2) := .then_ (.then_ (((Ch.refl No w).alloc _).alloc _) HC1.out) hc
        have HP2 := Lib.hid (HP1.out.keepNo hc)
        have HZ2 := Lib.hid (HZ1.out.keepNo hc)
        have hz2 : w.heap.size + 1 < w2.heap.size := HZ2.out.lt
        clear hc
        go_wp2_with (refine wpList_store_agg (o := ⟨none, _, _, _, _, _⟩) rfl 37 (.tmp 8) (.tmp 53) rfl (w.heap.size + 1) rfl 37 (two 0 0) (two _ _) rfl ((HZ2.out.alloc _)) size37 rfl (two_one _ _) ?_; intro w5 hr5 hc5; have HR5 := Lib.hid hr5; have HC5 := Lib.hid hc5; clear hr5 hc5)
        refine bodyPost_ret (v := .agg (two x 0).toArray) (results_row rfl _ _ (w.heap.size + 1) 37 (two x 0) _ rfl HR5.out Tryd.underlying37 rfl size37) rfl ⟨by first | rfl | (simp [H3.out, H4.out]; done), ch_new HC5.out (HC2.out.alloc _) (by simp)⟩
      · have b4 : (x == 4) = false := by simp [h4]
        have b5 : (x == 5) = true := by simp [h4]
        clear h4
        go_enter Tryd.func6, Tryd.ntmps6
        go_wp2_with (first | (go_at_call 12; refine (name_yes _ HK.out _ (HG.out.keep (((Ch.refl No w).alloc _).alloc _))).mono ?_; rintro e w' ⟨rfl, rfl⟩) | (refine wpList_load_agg (o := ⟨some 32, _, _, _, _, _⟩) rfl 34 _ rfl w.heap.size rfl 34 pc ((Row.new w 34 pc).alloc _) _ Tryd.underlying34 rfl HI.out ?_) | (go_at_call 17; refine (HC.out _).mono ?_; rintro e w1 ⟨rfl, hc⟩; have HC1 := Lib.hid hc; have HP1 := Lib.hid (((Row.new w 34 pc).alloc _).keepNo hc); have HZ1 : Hid (Row w1 (w.heap.size + 1) 37 (two 0 0)) := (Row.new_at (w.alloc (.cells pc.toArray 34)) 37 (two 0 0) (by simp)).keepNo hc; clear hc) | (refine wpList_load_agg (o := ⟨some 36, _, _, _, _, _⟩) rfl 34 _ rfl w.heap.size rfl 34 pc HP1.out _ Tryd.underlying34 rfl HI.out ?_))
        refine (HA.out _).mono ?_
        rintro e w2 ⟨rfl, hc⟩
        have HC2 : Hid (Ch No w w2) := .then_ (.then_ (((Ch.refl No w).alloc _).alloc _) HC1.out) hc
        have HP2 := Lib.hid (HP1.out.keepNo hc)
        have HZ2 := Lib.hid (HZ1.out.keepNo hc)
        have hz2 : w.heap.size + 1 < w2.heap.size := HZ2.out.lt
        clear hc
        go_wp2_with (refine wpList_store_agg (o := ⟨none, _, _, _, _, _⟩) rfl 37 (.tmp 8) (.tmp 53) rfl (w.heap.size + 1) rfl 37 (two 0 0) (two _ _) rfl ((HZ2.out.alloc _)) size37 rfl (two_one _ _) ?_; intro w5 hr5 hc5; have HR5 := Lib.hid hr5; have HC5 := Lib.hid hc5; clear hr5 hc5)
        refine bodyPost_ret (v := .agg (two x 0).toArray) (results_row rfl _ _ (w.heap.size + 1) 37 (two x 0) _ rfl HR5.out Tryd.underlying37 rfl size37) rfl ⟨by first | rfl | (simp [H3.out, H4.out]; done), ch_new HC5.out (HC2.out.alloc _) (by simp)⟩
    · have H4 := Lib.hid h4
      have b4 : (x == 4) = false := by simp; omega
      have b5 : (x == 5) = false := by simp; omega
      clear h4
      go_enter Tryd.func6, Tryd.ntmps6
      go_wp2_with (first | (go_at_call 12; refine (name_yes _ HK.out _ (HG.out.keep (((Ch.refl No w).alloc _).alloc _))).mono ?_; rintro e w' ⟨rfl, rfl⟩) | (refine wpList_load_agg (o := ⟨some 32, _, _, _, _, _⟩) rfl 34 _ rfl w.heap.size rfl 34 pc ((Row.new w 34 pc).alloc _) _ Tryd.underlying34 rfl HI.out ?_) | (go_at_call 17; refine (HC.out _).mono ?_; rintro e w1 ⟨rfl, hc⟩; have HC1 := Lib.hid hc; have HP1 := Lib.hid (((Row.new w 34 pc).alloc _).keepNo hc); have HZ1 : Hid (Row w1 (w.heap.size + 1) 37 (two 0 0)) := (Row.new_at (w.alloc (.cells pc.toArray 34)) 37 (two 0 0) (by simp)).keepNo hc; clear hc) | (refine wpList_load_agg (o := ⟨some 36, _, _, _, _, _⟩) rfl 34 _ rfl w.heap.size rfl 34 pc HP1.out _ Tryd.underlying34 rfl HI.out ?_))
      refine (HA.out _).mono ?_
      rintro e w2 ⟨rfl, hc⟩
      have HC2 : Hid (Ch No w w2) := .then_ (.then_ (((Ch.refl No w).alloc _).alloc _) HC1.out) hc
      have HP2 := Lib.hid (HP1.out.keepNo hc)
      have HZ2 := Lib.hid (HZ1.out.keepNo hc)
      have hz2 : w.heap.size + 1 < w2.heap.size := HZ2.out.lt
      clear hc
      go_wp2_with (refine wpList_store_agg (o := ⟨none, _, _, _, _, _⟩) rfl 37 (.tmp 8) (.tmp 53) rfl (w.heap.size + 1) rfl 37 (two 0 0) (two _ _) rfl ((HZ2.out.alloc _)) size37 rfl (two_one _ _) ?_; intro w5 hr5 hc5; have HR5 := Lib.hid hr5; have HC5 := Lib.hid hc5; clear hr5 hc5)
      refine bodyPost_ret (v := .agg (two x p).toArray) (results_row rfl _ _ (w.heap.size + 1) 37 (two x p) _ rfl HR5.out Tryd.underlying37 rfl size37) rfl ⟨by first | rfl | (simp [H3.out, H4.out]; done), ch_new HC5.out (HC2.out.alloc _) (by simp)⟩
end Go.Proofs.YtdgaelbehnlegaaDoor
