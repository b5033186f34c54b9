/- The document's answer: Judge. -/
import Derived.Test.YtdgaelbehnlegaaDoorH7
import Derived.Test.YtdgaelbehnlegaaDoorP
set_option linter.unusedVariables false
set_option linter.unusedSimpArgs false
namespace Go.Proofs.YtdgaelbehnlegaaDoor
open Go.RowKit
theorem size44 : (Tryd.prog.info? 44).map (·.size) = some 2 := by kernel_rfl

set_option maxHeartbeats 4000000 in
theorem rjudge_bad (k p : Int) (busy : Bool) (pc : List Value) (A : Option Addr) (n c : Nat) (h : Int) (T : Nat → Int) (w : World) (hn : n ≤ 1000) (hp : PartOf pc A n c h T) (hb : k < 1 ∨ 7 < k ∨ p < 1 ∨ (n : Int) < p) :
    Calls Tryd.prog 9 #[.agg pc.toArray, .int .i64 k, .int .i64 p, .bool busy] w fun e w' => e = .returned (.agg (two 0 0).toArray) ∧ Ch No w w' := by
  have p8 := hp.procs
  clear hp
  have key : ∀ b1 b2 b3 : Bool, decide (k < 1) = b1 → decide (7 < k) = b2 → decide (p < 1) = b3 → decide ((n : Int) < p) = (decide ((n : Int) < p)) → True := fun _ _ _ _ _ _ _ => trivial
  clear key
  by_cases h1 : k < 1
  · have d1 : decide (k < 1) = true := by simpa using h1
    clear hb h1
    go_enter Tryd.func9, Tryd.ntmps9
    go_wp2_with ((with_reducible refine at_op (o := ⟨none, .store 44 (.tmp 8) (.tmp 28), _, _, _, _⟩) ?_); refine pl_store rfl 44 (.tmp 8) (.tmp 28) rfl (w.heap.size + 1) rfl 44 (two 0 0) (two 0 0) rfl (Row.new_at (w.alloc (.cells pc.toArray 34)) 44 (two 0 0) (by simp)) size44 rfl (two_one _ _) ?_; intro w5 hr5 hc5; have HR5 := Lib.hid hr5; have HC5 := Lib.hid hc5; clear hr5 hc5)
    exact bodyPost_ret (v := .agg (two 0 0).toArray) (results_row rfl _ _ (w.heap.size + 1) 44 (two 0 0) _ rfl HR5.out Tryd.underlying44 rfl size44) rfl ⟨rfl, ch_new HC5.out (((Ch.refl No w).alloc _).alloc _) (by simp)⟩
  have d1 : decide (k < 1) = false := by simpa using h1
  by_cases h2 : 7 < k
  · have d2 : decide (7 < k) = true := by simpa using h2
    clear hb h1 h2
    go_enter Tryd.func9, Tryd.ntmps9
    go_wp2_with ((with_reducible refine at_op (o := ⟨none, .store 44 (.tmp 8) (.tmp 28), _, _, _, _⟩) ?_); refine pl_store rfl 44 (.tmp 8) (.tmp 28) rfl (w.heap.size + 1) rfl 44 (two 0 0) (two 0 0) rfl (Row.new_at (w.alloc (.cells pc.toArray 34)) 44 (two 0 0) (by simp)) size44 rfl (two_one _ _) ?_; intro w5 hr5 hc5; have HR5 := Lib.hid hr5; have HC5 := Lib.hid hc5; clear hr5 hc5)
    exact bodyPost_ret (v := .agg (two 0 0).toArray) (results_row rfl _ _ (w.heap.size + 1) 44 (two 0 0) _ rfl HR5.out Tryd.underlying44 rfl size44) rfl ⟨rfl, ch_new HC5.out (((Ch.refl No w).alloc _).alloc _) (by simp)⟩
  have d2 : decide (7 < k) = false := by simpa using h2
  by_cases h3 : p < 1
  · have d3 : decide (p < 1) = true := by simpa using h3
    clear hb h1 h2 h3
    go_enter Tryd.func9, Tryd.ntmps9
    go_wp2_with ((with_reducible refine at_op (o := ⟨none, .store 44 (.tmp 8) (.tmp 28), _, _, _, _⟩) ?_); refine pl_store rfl 44 (.tmp 8) (.tmp 28) rfl (w.heap.size + 1) rfl 44 (two 0 0) (two 0 0) rfl (Row.new_at (w.alloc (.cells pc.toArray 34)) 44 (two 0 0) (by simp)) size44 rfl (two_one _ _) ?_; intro w5 hr5 hc5; have HR5 := Lib.hid hr5; have HC5 := Lib.hid hc5; clear hr5 hc5)
    exact bodyPost_ret (v := .agg (two 0 0).toArray) (results_row rfl _ _ (w.heap.size + 1) 44 (two 0 0) _ rfl HR5.out Tryd.underlying44 rfl size44) rfl ⟨rfl, ch_new HC5.out (((Ch.refl No w).alloc _).alloc _) (by simp)⟩
  have d3 : decide (p < 1) = false := by simpa using h3
  have d4 : decide ((n : Int) < p) = true := by simp; omega
  clear hb h1 h2 h3
  go_enter Tryd.func9, Tryd.ntmps9
  go_wp2_with ((with_reducible refine at_op (o := ⟨none, .store 44 (.tmp 8) (.tmp 28), _, _, _, _⟩) ?_); refine pl_store rfl 44 (.tmp 8) (.tmp 28) rfl (w.heap.size + 1) rfl 44 (two 0 0) (two 0 0) rfl (Row.new_at (w.alloc (.cells pc.toArray 34)) 44 (two 0 0) (by simp)) size44 rfl (two_one _ _) ?_; intro w5 hr5 hc5; have HR5 := Lib.hid hr5; have HC5 := Lib.hid hc5; clear hr5 hc5)
  exact bodyPost_ret (v := .agg (two 0 0).toArray) (results_row rfl _ _ (w.heap.size + 1) 44 (two 0 0) _ rfl HR5.out Tryd.underlying44 rfl size44) rfl ⟨rfl, ch_new HC5.out (((Ch.refl No w).alloc _).alloc _) (by simp)⟩

set_option maxHeartbeats 4000000 in
theorem rjudge_ok (k : Nat) (p : Int) (busy : Bool) (pc : List Value) (A : Option Addr) (n c : Nat) (hq : Int) (T : Nat → Int) (w : World) (hn : n ≤ 1000) (hp : PartOf pc A n c hq T) (hk1 : 1 ≤ k) (hk7 : k ≤ 7) (hp1 : 1 ≤ p) (hpn : p ≤ n) (X Y : Int)
    (hXY : if p = hnd hq n then X = 4 ∧ Y = 0 else X = act (T k) k busy (hnd hq n) ∧ Y = (if X = 3 then hnd hq n else if X = 4 ∨ X = 5 then 0 else p)) :
    Calls Tryd.prog 9 #[.agg pc.toArray, .int .i64 (k : Int), .int .i64 p, .bool busy] w fun e w' => e = .returned (.agg (two X Y).toArray) ∧ Ch No w w' := by
  have d1 : decide ((k : Int) < 1) = false := by simp; omega
  have d2 : decide (7 < (k : Int)) = false := by simp; omega
  have d3 : decide (p < 1) = false := by simp; omega
  have d4 : decide ((n : Int) < p) = false := by simp; omega
  have p8 := hp.procs
  have HC := Lib.hid (fun w => rhandler_calls pc A n c hq T w hn hp)
  have HI : Hid ((Tryd.prog.info? 34).map (·.size) = some pc.length) := by rw [hp.len]; exact size34
  have HPK : Hid (∀ w1, Ch No ((w.alloc (.cells pc.toArray 34)).alloc (.cells (two 0 0).toArray 44)) w1 → w1.cell? ⟨w.heap.size, 10 + k, none⟩ = some (.int .i64 (T k)) ∧ Row w1 (w.heap.size + 1) 44 (two 0 0) ∧ w.heap.size + 1 < w1.heap.size) := fun w1 hc1 => by
    have r1 := ((Row.new w 34 pc).alloc (.cells (two 0 0).toArray 44)).keepNo hc1
    have r2 : Row w1 (w.heap.size + 1) 44 (two 0 0) := (Row.new_at (w.alloc (.cells pc.toArray 34)) 44 (two 0 0) (by simp)).keepNo hc1
    exact ⟨by rw [r1.cell]; exact hp.tab k (by omega), r2, r2.lt⟩
  clear hp
  have hk0 : 0 ≤ (k : Int) := by omega
  have hk8 : (k : Int) < 8 := by omega
  generalize hnd hq n = hd at *
  generalize T k = a at *
  by_cases he : p = hd
  · have be : (p == hd) = true := by simpa using he
    rw [if_pos he] at hXY
    obtain ⟨rfl, rfl⟩ := hXY
    clear he
    go_enter Tryd.func9, Tryd.ntmps9
    go_wp2_with (first | ((with_reducible refine at_op (o := ⟨some 29, .load 34 (.tmp 4), _, _, _, _⟩) ?_); refine pl_load rfl 34 (.tmp 4) rfl w.heap.size rfl 34 pc ((Row.new w 34 pc).alloc _) _ Tryd.underlying34 rfl HI.out ?_) | (go_at_call 20; refine (HC.out _).mono ?_; rintro e w1 ⟨rfl, hc⟩; obtain ⟨pk1, hz1, hlt1⟩ := HPK.out w1 hc; have HZ1 := Lib.hid hz1; have HC1 := Lib.hid hc; clear hc hz1) | ((with_reducible refine at_op (o := ⟨none, .store 44 (.tmp 8) (.tmp 34), _, _, _, _⟩) ?_); refine pl_store rfl 44 (.tmp 8) (.tmp 34) rfl (w.heap.size + 1) rfl 44 (two 0 0) (two 4 0) rfl HZ1.out size44 rfl (two_one _ _) ?_; intro w5 hr5 hc5; have HR5 := Lib.hid hr5; have HC5 := Lib.hid hc5; clear hr5 hc5) | ((with_reducible refine at_op (o := ⟨none, .store 44 (.tmp 8) (.tmp 56), _, _, _, _⟩) ?_); refine pl_store rfl 44 (.tmp 8) (.tmp 56) rfl (w.heap.size + 1) rfl 44 (two 0 0) (two 4 0) rfl HZ1.out size44 rfl (two_one _ _) ?_; intro w5 hr5 hc5; have HR5 := Lib.hid hr5; have HC5 := Lib.hid hc5; clear hr5 hc5) | ((with_reducible refine at_op (o := ⟨none, .store 44 (.tmp 8) (.tmp 78), _, _, _, _⟩) ?_); refine pl_store rfl 44 (.tmp 8) (.tmp 78) rfl (w.heap.size + 1) rfl 44 (two 0 0) (two 4 0) rfl HZ1.out size44 rfl (two_one _ _) ?_; intro w5 hr5 hc5; have HR5 := Lib.hid hr5; have HC5 := Lib.hid hc5; clear hr5 hc5) | ((with_reducible refine at_op (o := ⟨none, .store 44 (.tmp 8) (.tmp 81), _, _, _, _⟩) ?_); refine pl_store rfl 44 (.tmp 8) (.tmp 81) rfl (w.heap.size + 1) rfl 44 (two 0 0) (two 4 0) rfl HZ1.out size44 rfl (two_one _ _) ?_; intro w5 hr5 hc5; have HR5 := Lib.hid hr5; have HC5 := Lib.hid hc5; clear hr5 hc5))
    exact bodyPost_ret (v := .agg (two 4 0).toArray) (results_row rfl _ _ (w.heap.size + 1) 44 (two 4 0) _ rfl HR5.out Tryd.underlying44 rfl size44) rfl ⟨rfl, ch_new HC5.out (.then_ (((Ch.refl No w).alloc _).alloc _) HC1.out) (by omega)⟩
  have be : (p == hd) = false := by simpa using he
  rw [if_neg he] at hXY
  clear he
  obtain ⟨hX, hY⟩ := hXY
  unfold act at hX
  by_cases a0 : a < 0
  · have b0 : decide (a < 0) = true := by simpa using a0
    rw [if_pos (.inl a0)] at hX
    obtain rfl : X = 1 := hX
    obtain rfl : Y = p := by simpa using hY
    clear hY a0
    go_enter Tryd.func9, Tryd.ntmps9
    go_wp2_with (first | ((with_reducible refine at_op (o := ⟨some 29, .load 34 (.tmp 4), _, _, _, _⟩) ?_); refine pl_load rfl 34 (.tmp 4) rfl w.heap.size rfl 34 pc ((Row.new w 34 pc).alloc _) _ Tryd.underlying34 rfl HI.out ?_) | (go_at_call 20; refine (HC.out _).mono ?_; rintro e w1 ⟨rfl, hc⟩; obtain ⟨pk1, hz1, hlt1⟩ := HPK.out w1 hc; have HZ1 := Lib.hid hz1; have HC1 := Lib.hid hc; clear hc hz1) | ((with_reducible refine at_op (o := ⟨none, .store 44 (.tmp 8) (.tmp 34), _, _, _, _⟩) ?_); refine pl_store rfl 44 (.tmp 8) (.tmp 34) rfl (w.heap.size + 1) rfl 44 (two 0 0) (two 1 Y) rfl HZ1.out size44 rfl (two_one _ _) ?_; intro w5 hr5 hc5; have HR5 := Lib.hid hr5; have HC5 := Lib.hid hc5; clear hr5 hc5) | ((with_reducible refine at_op (o := ⟨none, .store 44 (.tmp 8) (.tmp 56), _, _, _, _⟩) ?_); refine pl_store rfl 44 (.tmp 8) (.tmp 56) rfl (w.heap.size + 1) rfl 44 (two 0 0) (two 1 Y) rfl HZ1.out size44 rfl (two_one _ _) ?_; intro w5 hr5 hc5; have HR5 := Lib.hid hr5; have HC5 := Lib.hid hc5; clear hr5 hc5) | ((with_reducible refine at_op (o := ⟨none, .store 44 (.tmp 8) (.tmp 78), _, _, _, _⟩) ?_); refine pl_store rfl 44 (.tmp 8) (.tmp 78) rfl (w.heap.size + 1) rfl 44 (two 0 0) (two 1 Y) rfl HZ1.out size44 rfl (two_one _ _) ?_; intro w5 hr5 hc5; have HR5 := Lib.hid hr5; have HC5 := Lib.hid hc5; clear hr5 hc5) | ((with_reducible refine at_op (o := ⟨none, .store 44 (.tmp 8) (.tmp 81), _, _, _, _⟩) ?_); refine pl_store rfl 44 (.tmp 8) (.tmp 81) rfl (w.heap.size + 1) rfl 44 (two 0 0) (two 1 Y) rfl HZ1.out size44 rfl (two_one _ _) ?_; intro w5 hr5 hc5; have HR5 := Lib.hid hr5; have HC5 := Lib.hid hc5; clear hr5 hc5))
    exact bodyPost_ret (v := .agg (two 1 Y).toArray) (results_row rfl _ _ (w.heap.size + 1) 44 (two 1 Y) _ rfl HR5.out Tryd.underlying44 rfl size44) rfl ⟨rfl, ch_new HC5.out (.then_ (((Ch.refl No w).alloc _).alloc _) HC1.out) (by omega)⟩
  have b0 : decide (a < 0) = false := by simpa using a0
  by_cases a5 : 5 < a
  · have b5 : decide (5 < a) = true := by simpa using a5
    rw [if_pos (.inr a5)] at hX
    obtain rfl : X = 1 := hX
    obtain rfl : Y = p := by simpa using hY
    clear hY a0 a5
    go_enter Tryd.func9, Tryd.ntmps9
    go_wp2_with (first | ((with_reducible refine at_op (o := ⟨some 29, .load 34 (.tmp 4), _, _, _, _⟩) ?_); refine pl_load rfl 34 (.tmp 4) rfl w.heap.size rfl 34 pc ((Row.new w 34 pc).alloc _) _ Tryd.underlying34 rfl HI.out ?_) | (go_at_call 20; refine (HC.out _).mono ?_; rintro e w1 ⟨rfl, hc⟩; obtain ⟨pk1, hz1, hlt1⟩ := HPK.out w1 hc; have HZ1 := Lib.hid hz1; have HC1 := Lib.hid hc; clear hc hz1) | ((with_reducible refine at_op (o := ⟨none, .store 44 (.tmp 8) (.tmp 34), _, _, _, _⟩) ?_); refine pl_store rfl 44 (.tmp 8) (.tmp 34) rfl (w.heap.size + 1) rfl 44 (two 0 0) (two 1 Y) rfl HZ1.out size44 rfl (two_one _ _) ?_; intro w5 hr5 hc5; have HR5 := Lib.hid hr5; have HC5 := Lib.hid hc5; clear hr5 hc5) | ((with_reducible refine at_op (o := ⟨none, .store 44 (.tmp 8) (.tmp 56), _, _, _, _⟩) ?_); refine pl_store rfl 44 (.tmp 8) (.tmp 56) rfl (w.heap.size + 1) rfl 44 (two 0 0) (two 1 Y) rfl HZ1.out size44 rfl (two_one _ _) ?_; intro w5 hr5 hc5; have HR5 := Lib.hid hr5; have HC5 := Lib.hid hc5; clear hr5 hc5) | ((with_reducible refine at_op (o := ⟨none, .store 44 (.tmp 8) (.tmp 78), _, _, _, _⟩) ?_); refine pl_store rfl 44 (.tmp 8) (.tmp 78) rfl (w.heap.size + 1) rfl 44 (two 0 0) (two 1 Y) rfl HZ1.out size44 rfl (two_one _ _) ?_; intro w5 hr5 hc5; have HR5 := Lib.hid hr5; have HC5 := Lib.hid hc5; clear hr5 hc5) | ((with_reducible refine at_op (o := ⟨none, .store 44 (.tmp 8) (.tmp 81), _, _, _, _⟩) ?_); refine pl_store rfl 44 (.tmp 8) (.tmp 81) rfl (w.heap.size + 1) rfl 44 (two 0 0) (two 1 Y) rfl HZ1.out size44 rfl (two_one _ _) ?_; intro w5 hr5 hc5; have HR5 := Lib.hid hr5; have HC5 := Lib.hid hc5; clear hr5 hc5))
    exact bodyPost_ret (v := .agg (two 1 Y).toArray) (results_row rfl _ _ (w.heap.size + 1) 44 (two 1 Y) _ rfl HR5.out Tryd.underlying44 rfl size44) rfl ⟨rfl, ch_new HC5.out (.then_ (((Ch.refl No w).alloc _).alloc _) HC1.out) (by omega)⟩
  have b5 : decide (5 < a) = false := by simpa using a5
  rw [if_neg (by omega)] at hX
  have h6 : a = 0 ∨ a = 1 ∨ a = 2 ∨ a = 3 ∨ a = 4 ∨ a = 5 := by omega
  clear a0 a5 b0 b5
  rcases h6 with rfl | rfl | rfl | rfl | rfl | rfl
  · by_cases k4 : (k : Int) = 4
    · have c4 : ((k : Int) == 4) = true := by simpa using k4
      obtain rfl : X = 1 := by simpa [k4] using hX
      obtain rfl : Y = p := by simpa using hY
      clear hX hY k4
      go_enter Tryd.func9, Tryd.ntmps9
      go_wp2_with (first | ((with_reducible refine at_op (o := ⟨some 29, .load 34 (.tmp 4), _, _, _, _⟩) ?_); refine pl_load rfl 34 (.tmp 4) rfl w.heap.size rfl 34 pc ((Row.new w 34 pc).alloc _) _ Tryd.underlying34 rfl HI.out ?_) | (go_at_call 20; refine (HC.out _).mono ?_; rintro e w1 ⟨rfl, hc⟩; obtain ⟨pk1, hz1, hlt1⟩ := HPK.out w1 hc; have HZ1 := Lib.hid hz1; have HC1 := Lib.hid hc; clear hc hz1) | ((with_reducible refine at_op (o := ⟨none, .store 44 (.tmp 8) (.tmp 34), _, _, _, _⟩) ?_); refine pl_store rfl 44 (.tmp 8) (.tmp 34) rfl (w.heap.size + 1) rfl 44 (two 0 0) (two 1 Y) rfl HZ1.out size44 rfl (two_one _ _) ?_; intro w5 hr5 hc5; have HR5 := Lib.hid hr5; have HC5 := Lib.hid hc5; clear hr5 hc5) | ((with_reducible refine at_op (o := ⟨none, .store 44 (.tmp 8) (.tmp 56), _, _, _, _⟩) ?_); refine pl_store rfl 44 (.tmp 8) (.tmp 56) rfl (w.heap.size + 1) rfl 44 (two 0 0) (two 1 Y) rfl HZ1.out size44 rfl (two_one _ _) ?_; intro w5 hr5 hc5; have HR5 := Lib.hid hr5; have HC5 := Lib.hid hc5; clear hr5 hc5) | ((with_reducible refine at_op (o := ⟨none, .store 44 (.tmp 8) (.tmp 78), _, _, _, _⟩) ?_); refine pl_store rfl 44 (.tmp 8) (.tmp 78) rfl (w.heap.size + 1) rfl 44 (two 0 0) (two 1 Y) rfl HZ1.out size44 rfl (two_one _ _) ?_; intro w5 hr5 hc5; have HR5 := Lib.hid hr5; have HC5 := Lib.hid hc5; clear hr5 hc5) | ((with_reducible refine at_op (o := ⟨none, .store 44 (.tmp 8) (.tmp 81), _, _, _, _⟩) ?_); refine pl_store rfl 44 (.tmp 8) (.tmp 81) rfl (w.heap.size + 1) rfl 44 (two 0 0) (two 1 Y) rfl HZ1.out size44 rfl (two_one _ _) ?_; intro w5 hr5 hc5; have HR5 := Lib.hid hr5; have HC5 := Lib.hid hc5; clear hr5 hc5))
      exact bodyPost_ret (v := .agg (two 1 Y).toArray) (results_row rfl _ _ (w.heap.size + 1) 44 (two 1 Y) _ rfl HR5.out Tryd.underlying44 rfl size44) rfl ⟨rfl, ch_new HC5.out (.then_ (((Ch.refl No w).alloc _).alloc _) HC1.out) (by omega)⟩
    · have c4 : ((k : Int) == 4) = false := by simpa using k4
      obtain rfl : X = 0 := by simpa [k4] using hX
      obtain rfl : Y = p := by simpa using hY
      clear hX hY k4
      go_enter Tryd.func9, Tryd.ntmps9
      go_wp2_with (first | ((with_reducible refine at_op (o := ⟨some 29, .load 34 (.tmp 4), _, _, _, _⟩) ?_); refine pl_load rfl 34 (.tmp 4) rfl w.heap.size rfl 34 pc ((Row.new w 34 pc).alloc _) _ Tryd.underlying34 rfl HI.out ?_) | (go_at_call 20; refine (HC.out _).mono ?_; rintro e w1 ⟨rfl, hc⟩; obtain ⟨pk1, hz1, hlt1⟩ := HPK.out w1 hc; have HZ1 := Lib.hid hz1; have HC1 := Lib.hid hc; clear hc hz1) | ((with_reducible refine at_op (o := ⟨none, .store 44 (.tmp 8) (.tmp 34), _, _, _, _⟩) ?_); refine pl_store rfl 44 (.tmp 8) (.tmp 34) rfl (w.heap.size + 1) rfl 44 (two 0 0) (two 0 Y) rfl HZ1.out size44 rfl (two_one _ _) ?_; intro w5 hr5 hc5; have HR5 := Lib.hid hr5; have HC5 := Lib.hid hc5; clear hr5 hc5) | ((with_reducible refine at_op (o := ⟨none, .store 44 (.tmp 8) (.tmp 56), _, _, _, _⟩) ?_); refine pl_store rfl 44 (.tmp 8) (.tmp 56) rfl (w.heap.size + 1) rfl 44 (two 0 0) (two 0 Y) rfl HZ1.out size44 rfl (two_one _ _) ?_; intro w5 hr5 hc5; have HR5 := Lib.hid hr5; have HC5 := Lib.hid hc5; clear hr5 hc5) | ((with_reducible refine at_op (o := ⟨none, .store 44 (.tmp 8) (.tmp 78), _, _, _, _⟩) ?_); refine pl_store rfl 44 (.tmp 8) (.tmp 78) rfl (w.heap.size + 1) rfl 44 (two 0 0) (two 0 Y) rfl HZ1.out size44 rfl (two_one _ _) ?_; intro w5 hr5 hc5; have HR5 := Lib.hid hr5; have HC5 := Lib.hid hc5; clear hr5 hc5) | ((with_reducible refine at_op (o := ⟨none, .store 44 (.tmp 8) (.tmp 81), _, _, _, _⟩) ?_); refine pl_store rfl 44 (.tmp 8) (.tmp 81) rfl (w.heap.size + 1) rfl 44 (two 0 0) (two 0 Y) rfl HZ1.out size44 rfl (two_one _ _) ?_; intro w5 hr5 hc5; have HR5 := Lib.hid hr5; have HC5 := Lib.hid hc5; clear hr5 hc5))
      exact bodyPost_ret (v := .agg (two 0 Y).toArray) (results_row rfl _ _ (w.heap.size + 1) 44 (two 0 Y) _ rfl HR5.out Tryd.underlying44 rfl size44) rfl ⟨rfl, ch_new HC5.out (.then_ (((Ch.refl No w).alloc _).alloc _) HC1.out) (by omega)⟩
  · obtain rfl : X = 1 := by simpa using hX
    obtain rfl : Y = p := by simpa using hY
    clear hX hY
    go_enter Tryd.func9, Tryd.ntmps9
    go_wp2_with (first | ((with_reducible refine at_op (o := ⟨some 29, .load 34 (.tmp 4), _, _, _, _⟩) ?_); refine pl_load rfl 34 (.tmp 4) rfl w.heap.size rfl 34 pc ((Row.new w 34 pc).alloc _) _ Tryd.underlying34 rfl HI.out ?_) | (go_at_call 20; refine (HC.out _).mono ?_; rintro e w1 ⟨rfl, hc⟩; obtain ⟨pk1, hz1, hlt1⟩ := HPK.out w1 hc; have HZ1 := Lib.hid hz1; have HC1 := Lib.hid hc; clear hc hz1) | ((with_reducible refine at_op (o := ⟨none, .store 44 (.tmp 8) (.tmp 34), _, _, _, _⟩) ?_); refine pl_store rfl 44 (.tmp 8) (.tmp 34) rfl (w.heap.size + 1) rfl 44 (two 0 0) (two 1 Y) rfl HZ1.out size44 rfl (two_one _ _) ?_; intro w5 hr5 hc5; have HR5 := Lib.hid hr5; have HC5 := Lib.hid hc5; clear hr5 hc5) | ((with_reducible refine at_op (o := ⟨none, .store 44 (.tmp 8) (.tmp 56), _, _, _, _⟩) ?_); refine pl_store rfl 44 (.tmp 8) (.tmp 56) rfl (w.heap.size + 1) rfl 44 (two 0 0) (two 1 Y) rfl HZ1.out size44 rfl (two_one _ _) ?_; intro w5 hr5 hc5; have HR5 := Lib.hid hr5; have HC5 := Lib.hid hc5; clear hr5 hc5) | ((with_reducible refine at_op (o := ⟨none, .store 44 (.tmp 8) (.tmp 78), _, _, _, _⟩) ?_); refine pl_store rfl 44 (.tmp 8) (.tmp 78) rfl (w.heap.size + 1) rfl 44 (two 0 0) (two 1 Y) rfl HZ1.out size44 rfl (two_one _ _) ?_; intro w5 hr5 hc5; have HR5 := Lib.hid hr5; have HC5 := Lib.hid hc5; clear hr5 hc5) | ((with_reducible refine at_op (o := ⟨none, .store 44 (.tmp 8) (.tmp 81), _, _, _, _⟩) ?_); refine pl_store rfl 44 (.tmp 8) (.tmp 81) rfl (w.heap.size + 1) rfl 44 (two 0 0) (two 1 Y) rfl HZ1.out size44 rfl (two_one _ _) ?_; intro w5 hr5 hc5; have HR5 := Lib.hid hr5; have HC5 := Lib.hid hc5; clear hr5 hc5))
    exact bodyPost_ret (v := .agg (two 1 Y).toArray) (results_row rfl _ _ (w.heap.size + 1) 44 (two 1 Y) _ rfl HR5.out Tryd.underlying44 rfl size44) rfl ⟨rfl, ch_new HC5.out (.then_ (((Ch.refl No w).alloc _).alloc _) HC1.out) (by omega)⟩
  · obtain rfl : X = 2 := by simpa using hX
    obtain rfl : Y = p := by simpa using hY
    clear hX hY
    go_enter Tryd.func9, Tryd.ntmps9
    go_wp2_with (first | ((with_reducible refine at_op (o := ⟨some 29, .load 34 (.tmp 4), _, _, _, _⟩) ?_); refine pl_load rfl 34 (.tmp 4) rfl w.heap.size rfl 34 pc ((Row.new w 34 pc).alloc _) _ Tryd.underlying34 rfl HI.out ?_) | (go_at_call 20; refine (HC.out _).mono ?_; rintro e w1 ⟨rfl, hc⟩; obtain ⟨pk1, hz1, hlt1⟩ := HPK.out w1 hc; have HZ1 := Lib.hid hz1; have HC1 := Lib.hid hc; clear hc hz1) | ((with_reducible refine at_op (o := ⟨none, .store 44 (.tmp 8) (.tmp 34), _, _, _, _⟩) ?_); refine pl_store rfl 44 (.tmp 8) (.tmp 34) rfl (w.heap.size + 1) rfl 44 (two 0 0) (two 2 Y) rfl HZ1.out size44 rfl (two_one _ _) ?_; intro w5 hr5 hc5; have HR5 := Lib.hid hr5; have HC5 := Lib.hid hc5; clear hr5 hc5) | ((with_reducible refine at_op (o := ⟨none, .store 44 (.tmp 8) (.tmp 56), _, _, _, _⟩) ?_); refine pl_store rfl 44 (.tmp 8) (.tmp 56) rfl (w.heap.size + 1) rfl 44 (two 0 0) (two 2 Y) rfl HZ1.out size44 rfl (two_one _ _) ?_; intro w5 hr5 hc5; have HR5 := Lib.hid hr5; have HC5 := Lib.hid hc5; clear hr5 hc5) | ((with_reducible refine at_op (o := ⟨none, .store 44 (.tmp 8) (.tmp 78), _, _, _, _⟩) ?_); refine pl_store rfl 44 (.tmp 8) (.tmp 78) rfl (w.heap.size + 1) rfl 44 (two 0 0) (two 2 Y) rfl HZ1.out size44 rfl (two_one _ _) ?_; intro w5 hr5 hc5; have HR5 := Lib.hid hr5; have HC5 := Lib.hid hc5; clear hr5 hc5) | ((with_reducible refine at_op (o := ⟨none, .store 44 (.tmp 8) (.tmp 81), _, _, _, _⟩) ?_); refine pl_store rfl 44 (.tmp 8) (.tmp 81) rfl (w.heap.size + 1) rfl 44 (two 0 0) (two 2 Y) rfl HZ1.out size44 rfl (two_one _ _) ?_; intro w5 hr5 hc5; have HR5 := Lib.hid hr5; have HC5 := Lib.hid hc5; clear hr5 hc5))
    exact bodyPost_ret (v := .agg (two 2 Y).toArray) (results_row rfl _ _ (w.heap.size + 1) 44 (two 2 Y) _ rfl HR5.out Tryd.underlying44 rfl size44) rfl ⟨rfl, ch_new HC5.out (.then_ (((Ch.refl No w).alloc _).alloc _) HC1.out) (by omega)⟩
  · by_cases hz : hd = 0
    · subst hz
      obtain rfl : X = 1 := by simpa using hX
      obtain rfl : Y = p := by simpa using hY
      clear hX hY
      go_enter Tryd.func9, Tryd.ntmps9
      go_wp2_with (first | ((with_reducible refine at_op (o := ⟨some 29, .load 34 (.tmp 4), _, _, _, _⟩) ?_); refine pl_load rfl 34 (.tmp 4) rfl w.heap.size rfl 34 pc ((Row.new w 34 pc).alloc _) _ Tryd.underlying34 rfl HI.out ?_) | (go_at_call 20; refine (HC.out _).mono ?_; rintro e w1 ⟨rfl, hc⟩; obtain ⟨pk1, hz1, hlt1⟩ := HPK.out w1 hc; have HZ1 := Lib.hid hz1; have HC1 := Lib.hid hc; clear hc hz1) | ((with_reducible refine at_op (o := ⟨none, .store 44 (.tmp 8) (.tmp 34), _, _, _, _⟩) ?_); refine pl_store rfl 44 (.tmp 8) (.tmp 34) rfl (w.heap.size + 1) rfl 44 (two 0 0) (two 1 Y) rfl HZ1.out size44 rfl (two_one _ _) ?_; intro w5 hr5 hc5; have HR5 := Lib.hid hr5; have HC5 := Lib.hid hc5; clear hr5 hc5) | ((with_reducible refine at_op (o := ⟨none, .store 44 (.tmp 8) (.tmp 56), _, _, _, _⟩) ?_); refine pl_store rfl 44 (.tmp 8) (.tmp 56) rfl (w.heap.size + 1) rfl 44 (two 0 0) (two 1 Y) rfl HZ1.out size44 rfl (two_one _ _) ?_; intro w5 hr5 hc5; have HR5 := Lib.hid hr5; have HC5 := Lib.hid hc5; clear hr5 hc5) | ((with_reducible refine at_op (o := ⟨none, .store 44 (.tmp 8) (.tmp 78), _, _, _, _⟩) ?_); refine pl_store rfl 44 (.tmp 8) (.tmp 78) rfl (w.heap.size + 1) rfl 44 (two 0 0) (two 1 Y) rfl HZ1.out size44 rfl (two_one _ _) ?_; intro w5 hr5 hc5; have HR5 := Lib.hid hr5; have HC5 := Lib.hid hc5; clear hr5 hc5) | ((with_reducible refine at_op (o := ⟨none, .store 44 (.tmp 8) (.tmp 81), _, _, _, _⟩) ?_); refine pl_store rfl 44 (.tmp 8) (.tmp 81) rfl (w.heap.size + 1) rfl 44 (two 0 0) (two 1 Y) rfl HZ1.out size44 rfl (two_one _ _) ?_; intro w5 hr5 hc5; have HR5 := Lib.hid hr5; have HC5 := Lib.hid hc5; clear hr5 hc5))
      exact bodyPost_ret (v := .agg (two 1 Y).toArray) (results_row rfl _ _ (w.heap.size + 1) 44 (two 1 Y) _ rfl HR5.out Tryd.underlying44 rfl size44) rfl ⟨rfl, ch_new HC5.out (.then_ (((Ch.refl No w).alloc _).alloc _) HC1.out) (by omega)⟩
    · have bz : (hd == 0) = false := by simpa using hz
      cases busy
      · obtain rfl : X = 3 := by simpa [hz] using hX
        obtain rfl : Y = hd := by simpa using hY
        clear hX hY
        go_enter Tryd.func9, Tryd.ntmps9
        go_wp2_with (first | ((with_reducible refine at_op (o := ⟨some 29, .load 34 (.tmp 4), _, _, _, _⟩) ?_); refine pl_load rfl 34 (.tmp 4) rfl w.heap.size rfl 34 pc ((Row.new w 34 pc).alloc _) _ Tryd.underlying34 rfl HI.out ?_) | (go_at_call 20; refine (HC.out _).mono ?_; rintro e w1 ⟨rfl, hc⟩; obtain ⟨pk1, hz1, hlt1⟩ := HPK.out w1 hc; have HZ1 := Lib.hid hz1; have HC1 := Lib.hid hc; clear hc hz1) | ((with_reducible refine at_op (o := ⟨none, .store 44 (.tmp 8) (.tmp 34), _, _, _, _⟩) ?_); refine pl_store rfl 44 (.tmp 8) (.tmp 34) rfl (w.heap.size + 1) rfl 44 (two 0 0) (two 3 Y) rfl HZ1.out size44 rfl (two_one _ _) ?_; intro w5 hr5 hc5; have HR5 := Lib.hid hr5; have HC5 := Lib.hid hc5; clear hr5 hc5) | ((with_reducible refine at_op (o := ⟨none, .store 44 (.tmp 8) (.tmp 56), _, _, _, _⟩) ?_); refine pl_store rfl 44 (.tmp 8) (.tmp 56) rfl (w.heap.size + 1) rfl 44 (two 0 0) (two 3 Y) rfl HZ1.out size44 rfl (two_one _ _) ?_; intro w5 hr5 hc5; have HR5 := Lib.hid hr5; have HC5 := Lib.hid hc5; clear hr5 hc5) | ((with_reducible refine at_op (o := ⟨none, .store 44 (.tmp 8) (.tmp 78), _, _, _, _⟩) ?_); refine pl_store rfl 44 (.tmp 8) (.tmp 78) rfl (w.heap.size + 1) rfl 44 (two 0 0) (two 3 Y) rfl HZ1.out size44 rfl (two_one _ _) ?_; intro w5 hr5 hc5; have HR5 := Lib.hid hr5; have HC5 := Lib.hid hc5; clear hr5 hc5) | ((with_reducible refine at_op (o := ⟨none, .store 44 (.tmp 8) (.tmp 81), _, _, _, _⟩) ?_); refine pl_store rfl 44 (.tmp 8) (.tmp 81) rfl (w.heap.size + 1) rfl 44 (two 0 0) (two 3 Y) rfl HZ1.out size44 rfl (two_one _ _) ?_; intro w5 hr5 hc5; have HR5 := Lib.hid hr5; have HC5 := Lib.hid hc5; clear hr5 hc5))
        exact bodyPost_ret (v := .agg (two 3 Y).toArray) (results_row rfl _ _ (w.heap.size + 1) 44 (two 3 Y) _ rfl HR5.out Tryd.underlying44 rfl size44) rfl ⟨rfl, ch_new HC5.out (.then_ (((Ch.refl No w).alloc _).alloc _) HC1.out) (by omega)⟩
      · by_cases k4 : (k : Int) = 4
        · have c4 : ((k : Int) == 4) = true := by simpa using k4
          obtain rfl : X = 1 := by simpa [hz, k4] using hX
          obtain rfl : Y = p := by simpa using hY
          clear hX hY k4
          go_enter Tryd.func9, Tryd.ntmps9
          go_wp2_with (first | ((with_reducible refine at_op (o := ⟨some 29, .load 34 (.tmp 4), _, _, _, _⟩) ?_); refine pl_load rfl 34 (.tmp 4) rfl w.heap.size rfl 34 pc ((Row.new w 34 pc).alloc _) _ Tryd.underlying34 rfl HI.out ?_) | (go_at_call 20; refine (HC.out _).mono ?_; rintro e w1 ⟨rfl, hc⟩; obtain ⟨pk1, hz1, hlt1⟩ := HPK.out w1 hc; have HZ1 := Lib.hid hz1; have HC1 := Lib.hid hc; clear hc hz1) | ((with_reducible refine at_op (o := ⟨none, .store 44 (.tmp 8) (.tmp 34), _, _, _, _⟩) ?_); refine pl_store rfl 44 (.tmp 8) (.tmp 34) rfl (w.heap.size + 1) rfl 44 (two 0 0) (two 1 Y) rfl HZ1.out size44 rfl (two_one _ _) ?_; intro w5 hr5 hc5; have HR5 := Lib.hid hr5; have HC5 := Lib.hid hc5; clear hr5 hc5) | ((with_reducible refine at_op (o := ⟨none, .store 44 (.tmp 8) (.tmp 56), _, _, _, _⟩) ?_); refine pl_store rfl 44 (.tmp 8) (.tmp 56) rfl (w.heap.size + 1) rfl 44 (two 0 0) (two 1 Y) rfl HZ1.out size44 rfl (two_one _ _) ?_; intro w5 hr5 hc5; have HR5 := Lib.hid hr5; have HC5 := Lib.hid hc5; clear hr5 hc5) | ((with_reducible refine at_op (o := ⟨none, .store 44 (.tmp 8) (.tmp 78), _, _, _, _⟩) ?_); refine pl_store rfl 44 (.tmp 8) (.tmp 78) rfl (w.heap.size + 1) rfl 44 (two 0 0) (two 1 Y) rfl HZ1.out size44 rfl (two_one _ _) ?_; intro w5 hr5 hc5; have HR5 := Lib.hid hr5; have HC5 := Lib.hid hc5; clear hr5 hc5) | ((with_reducible refine at_op (o := ⟨none, .store 44 (.tmp 8) (.tmp 81), _, _, _, _⟩) ?_); refine pl_store rfl 44 (.tmp 8) (.tmp 81) rfl (w.heap.size + 1) rfl 44 (two 0 0) (two 1 Y) rfl HZ1.out size44 rfl (two_one _ _) ?_; intro w5 hr5 hc5; have HR5 := Lib.hid hr5; have HC5 := Lib.hid hc5; clear hr5 hc5))
          exact bodyPost_ret (v := .agg (two 1 Y).toArray) (results_row rfl _ _ (w.heap.size + 1) 44 (two 1 Y) _ rfl HR5.out Tryd.underlying44 rfl size44) rfl ⟨rfl, ch_new HC5.out (.then_ (((Ch.refl No w).alloc _).alloc _) HC1.out) (by omega)⟩
        · have c4 : ((k : Int) == 4) = false := by simpa using k4
          obtain rfl : X = 0 := by simpa [hz, k4] using hX
          obtain rfl : Y = p := by simpa using hY
          clear hX hY k4
          go_enter Tryd.func9, Tryd.ntmps9
          go_wp2_with (first | ((with_reducible refine at_op (o := ⟨some 29, .load 34 (.tmp 4), _, _, _, _⟩) ?_); refine pl_load rfl 34 (.tmp 4) rfl w.heap.size rfl 34 pc ((Row.new w 34 pc).alloc _) _ Tryd.underlying34 rfl HI.out ?_) | (go_at_call 20; refine (HC.out _).mono ?_; rintro e w1 ⟨rfl, hc⟩; obtain ⟨pk1, hz1, hlt1⟩ := HPK.out w1 hc; have HZ1 := Lib.hid hz1; have HC1 := Lib.hid hc; clear hc hz1) | ((with_reducible refine at_op (o := ⟨none, .store 44 (.tmp 8) (.tmp 34), _, _, _, _⟩) ?_); refine pl_store rfl 44 (.tmp 8) (.tmp 34) rfl (w.heap.size + 1) rfl 44 (two 0 0) (two 0 Y) rfl HZ1.out size44 rfl (two_one _ _) ?_; intro w5 hr5 hc5; have HR5 := Lib.hid hr5; have HC5 := Lib.hid hc5; clear hr5 hc5) | ((with_reducible refine at_op (o := ⟨none, .store 44 (.tmp 8) (.tmp 56), _, _, _, _⟩) ?_); refine pl_store rfl 44 (.tmp 8) (.tmp 56) rfl (w.heap.size + 1) rfl 44 (two 0 0) (two 0 Y) rfl HZ1.out size44 rfl (two_one _ _) ?_; intro w5 hr5 hc5; have HR5 := Lib.hid hr5; have HC5 := Lib.hid hc5; clear hr5 hc5) | ((with_reducible refine at_op (o := ⟨none, .store 44 (.tmp 8) (.tmp 78), _, _, _, _⟩) ?_); refine pl_store rfl 44 (.tmp 8) (.tmp 78) rfl (w.heap.size + 1) rfl 44 (two 0 0) (two 0 Y) rfl HZ1.out size44 rfl (two_one _ _) ?_; intro w5 hr5 hc5; have HR5 := Lib.hid hr5; have HC5 := Lib.hid hc5; clear hr5 hc5) | ((with_reducible refine at_op (o := ⟨none, .store 44 (.tmp 8) (.tmp 81), _, _, _, _⟩) ?_); refine pl_store rfl 44 (.tmp 8) (.tmp 81) rfl (w.heap.size + 1) rfl 44 (two 0 0) (two 0 Y) rfl HZ1.out size44 rfl (two_one _ _) ?_; intro w5 hr5 hc5; have HR5 := Lib.hid hr5; have HC5 := Lib.hid hc5; clear hr5 hc5))
          exact bodyPost_ret (v := .agg (two 0 Y).toArray) (results_row rfl _ _ (w.heap.size + 1) 44 (two 0 Y) _ rfl HR5.out Tryd.underlying44 rfl size44) rfl ⟨rfl, ch_new HC5.out (.then_ (((Ch.refl No w).alloc _).alloc _) HC1.out) (by omega)⟩
  · obtain rfl : X = 4 := by simpa using hX
    obtain rfl : Y = 0 := by simpa using hY
    clear hX hY
    go_enter Tryd.func9, Tryd.ntmps9
    go_wp2_with (first | ((with_reducible refine at_op (o := ⟨some 29, .load 34 (.tmp 4), _, _, _, _⟩) ?_); refine pl_load rfl 34 (.tmp 4) rfl w.heap.size rfl 34 pc ((Row.new w 34 pc).alloc _) _ Tryd.underlying34 rfl HI.out ?_) | (go_at_call 20; refine (HC.out _).mono ?_; rintro e w1 ⟨rfl, hc⟩; obtain ⟨pk1, hz1, hlt1⟩ := HPK.out w1 hc; have HZ1 := Lib.hid hz1; have HC1 := Lib.hid hc; clear hc hz1) | ((with_reducible refine at_op (o := ⟨none, .store 44 (.tmp 8) (.tmp 34), _, _, _, _⟩) ?_); refine pl_store rfl 44 (.tmp 8) (.tmp 34) rfl (w.heap.size + 1) rfl 44 (two 0 0) (two 4 0) rfl HZ1.out size44 rfl (two_one _ _) ?_; intro w5 hr5 hc5; have HR5 := Lib.hid hr5; have HC5 := Lib.hid hc5; clear hr5 hc5) | ((with_reducible refine at_op (o := ⟨none, .store 44 (.tmp 8) (.tmp 56), _, _, _, _⟩) ?_); refine pl_store rfl 44 (.tmp 8) (.tmp 56) rfl (w.heap.size + 1) rfl 44 (two 0 0) (two 4 0) rfl HZ1.out size44 rfl (two_one _ _) ?_; intro w5 hr5 hc5; have HR5 := Lib.hid hr5; have HC5 := Lib.hid hc5; clear hr5 hc5) | ((with_reducible refine at_op (o := ⟨none, .store 44 (.tmp 8) (.tmp 78), _, _, _, _⟩) ?_); refine pl_store rfl 44 (.tmp 8) (.tmp 78) rfl (w.heap.size + 1) rfl 44 (two 0 0) (two 4 0) rfl HZ1.out size44 rfl (two_one _ _) ?_; intro w5 hr5 hc5; have HR5 := Lib.hid hr5; have HC5 := Lib.hid hc5; clear hr5 hc5) | ((with_reducible refine at_op (o := ⟨none, .store 44 (.tmp 8) (.tmp 81), _, _, _, _⟩) ?_); refine pl_store rfl 44 (.tmp 8) (.tmp 81) rfl (w.heap.size + 1) rfl 44 (two 0 0) (two 4 0) rfl HZ1.out size44 rfl (two_one _ _) ?_; intro w5 hr5 hc5; have HR5 := Lib.hid hr5; have HC5 := Lib.hid hc5; clear hr5 hc5))
    exact bodyPost_ret (v := .agg (two 4 0).toArray) (results_row rfl _ _ (w.heap.size + 1) 44 (two 4 0) _ rfl HR5.out Tryd.underlying44 rfl size44) rfl ⟨rfl, ch_new HC5.out (.then_ (((Ch.refl No w).alloc _).alloc _) HC1.out) (by omega)⟩
  · obtain rfl : X = 5 := by simpa using hX
    obtain rfl : Y = 0 := by simpa using hY
    clear hX hY
    go_enter Tryd.func9, Tryd.ntmps9
    go_wp2_with (first | ((with_reducible refine at_op (o := ⟨some 29, .load 34 (.tmp 4), _, _, _, _⟩) ?_); refine pl_load rfl 34 (.tmp 4) rfl w.heap.size rfl 34 pc ((Row.new w 34 pc).alloc _) _ Tryd.underlying34 rfl HI.out ?_) | (go_at_call 20; refine (HC.out _).mono ?_; rintro e w1 ⟨rfl, hc⟩; obtain ⟨pk1, hz1, hlt1⟩ := HPK.out w1 hc; have HZ1 := Lib.hid hz1; have HC1 := Lib.hid hc; clear hc hz1) | ((with_reducible refine at_op (o := ⟨none, .store 44 (.tmp 8) (.tmp 34), _, _, _, _⟩) ?_); refine pl_store rfl 44 (.tmp 8) (.tmp 34) rfl (w.heap.size + 1) rfl 44 (two 0 0) (two 5 0) rfl HZ1.out size44 rfl (two_one _ _) ?_; intro w5 hr5 hc5; have HR5 := Lib.hid hr5; have HC5 := Lib.hid hc5; clear hr5 hc5) | ((with_reducible refine at_op (o := ⟨none, .store 44 (.tmp 8) (.tmp 56), _, _, _, _⟩) ?_); refine pl_store rfl 44 (.tmp 8) (.tmp 56) rfl (w.heap.size + 1) rfl 44 (two 0 0) (two 5 0) rfl HZ1.out size44 rfl (two_one _ _) ?_; intro w5 hr5 hc5; have HR5 := Lib.hid hr5; have HC5 := Lib.hid hc5; clear hr5 hc5) | ((with_reducible refine at_op (o := ⟨none, .store 44 (.tmp 8) (.tmp 78), _, _, _, _⟩) ?_); refine pl_store rfl 44 (.tmp 8) (.tmp 78) rfl (w.heap.size + 1) rfl 44 (two 0 0) (two 5 0) rfl HZ1.out size44 rfl (two_one _ _) ?_; intro w5 hr5 hc5; have HR5 := Lib.hid hr5; have HC5 := Lib.hid hc5; clear hr5 hc5) | ((with_reducible refine at_op (o := ⟨none, .store 44 (.tmp 8) (.tmp 81), _, _, _, _⟩) ?_); refine pl_store rfl 44 (.tmp 8) (.tmp 81) rfl (w.heap.size + 1) rfl 44 (two 0 0) (two 5 0) rfl HZ1.out size44 rfl (two_one _ _) ?_; intro w5 hr5 hc5; have HR5 := Lib.hid hr5; have HC5 := Lib.hid hc5; clear hr5 hc5))
    exact bodyPost_ret (v := .agg (two 5 0).toArray) (results_row rfl _ _ (w.heap.size + 1) 44 (two 5 0) _ rfl HR5.out Tryd.underlying44 rfl size44) rfl ⟨rfl, ch_new HC5.out (.then_ (((Ch.refl No w).alloc _).alloc _) HC1.out) (by omega)⟩

theorem rjudge_all (k p : Int) (busy : Bool) (pc : List Value) (A : Option Addr) (n c : Nat) (h : Int) (T : Nat → Int) (w : World) (hn : n ≤ 1000) (hp : PartOf pc A n c h T) :
    Calls Tryd.prog 9 #[.agg pc.toArray, .int .i64 k, .int .i64 p, .bool busy] w fun e w' => e = .returned (.agg (two (judA k p n busy h (T k.toNat)) (judP k p n busy h (T k.toNat))).toArray) ∧ Ch No w w' := by
  by_cases hb : k < 1 ∨ 7 < k ∨ p < 1 ∨ (n : Int) < p
  · rw [judA, judP, if_pos hb, if_pos hb]
    exact rjudge_bad k p busy pc A n c h T w hn hp hb
  · rw [judA, judP, if_neg hb, if_neg hb]
    obtain ⟨j, rfl⟩ : ∃ j : Nat, k = (j : Int) := ⟨k.toNat, by omega⟩
    refine rjudge_ok j p busy pc A n c h T w hn hp (by omega) (by omega) (by omega) (by omega) _ _ ?_
    by_cases he : p = hnd h n
    · rw [if_pos he, if_pos he, if_pos he]
      exact ⟨rfl, rfl⟩
    · rw [if_neg he, if_neg he, if_neg he]
      exact ⟨rfl, rfl⟩
end Go.Proofs.YtdgaelbehnlegaaDoor

