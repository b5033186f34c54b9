/- The calls of package mem: what each answers and which words of which blocks it changes. -/
import Derived.Test.YtbllpojljdhnoaaProg
import Derived.Test.YtbllpojljdhnoaaK
set_option linter.unusedVariables false
set_option linter.unusedSimpArgs false
namespace Go.Proofs.Ytbllpojljdhnoaa
open Go.RowKit

theorem info2 : (Try.prog.info? 2).map (fun i => (i.zero, i.size, i.bytes)) = some (some (.int .i64 0), 1, 8) := by kernel_rfl
theorem size2 : (Try.prog.info? 2).map (·.size) = some 1 := by kernel_rfl

def may (words fixed addr n : Int) : Bool := decide (0 ≤ words) && decide (0 ≤ n) && decide (n ≤ words) && decide (0 ≤ addr) && decide (fixed ≤ addr) && decide (addr ≤ words - n)
theorem may_yes {words fixed addr n : Int} (h : may words fixed addr n = true) : 0 ≤ words ∧ 0 ≤ n ∧ n ≤ words ∧ 0 ≤ addr ∧ fixed ≤ addr ∧ addr ≤ words - n := by
  unfold may at h
  simp at h
  omega
theorem may_zero {words fixed addr n : Int} (h : may words fixed addr n = true) : may words 0 addr n = true := by
  have := may_yes h
  unfold may
  simp
  omega

theorem writable (words fixed addr n : Int) (w : World) (hw : words ≤ 9223372036854775807) (hw0 : -9223372036854775808 ≤ words) :
    Calls Try.prog 11 #[.int .i64 words, .int .i64 fixed, .int .i64 addr, .int .i64 n] w fun e w' => e = .returned (.bool (may words fixed addr n)) ∧ w = w' := by
  go_enter Try.func11, Try.ntmps11
  go_wp2
  all_goals go_ret
  all_goals refine ⟨?_, rfl⟩
  all_goals congr 2
  all_goals (unfold may; simp [*]; try omega)

/-- where a piece lies -/
def at_ (A : Option Addr) (addr n : Int) : Option Addr := if n = 0 then A else A.map (·.add addr.toNat)

theorem piece_no (A : Option Addr) (len cap : Nat) (addr n : Int) (w : World) (hl : len ≤ 9223372036854775807) (h : may len 0 addr n = false) :
    Calls Try.prog 20 #[.slice A len cap, .int .i64 addr, .int .i64 n] w fun e w' => e = .returned (.tuple #[.slice none 0 0, .bool false]) ∧ w = w' := by
  have H := Lib.hid h
  clear h
  go_enter Try.func20, Try.ntmps20
  go_wp2_with (go_at_call 11; refine (writable _ _ _ _ _ (by omega) (by omega)).mono ?_; rintro e w' ⟨rfl, rfl⟩; rw [H.out])
  all_goals go_ret2
  all_goals exact ⟨rfl, rfl⟩

theorem piece_yes (A : Option Addr) (len cap : Nat) (addr n : Int) (w : World) (hl : len ≤ 9223372036854775807) (hc : len ≤ cap) (h : may len 0 addr n = true) :
    Calls Try.prog 20 #[.slice A len cap, .int .i64 addr, .int .i64 n] w fun e w' => e = .returned (.tuple #[.slice (at_ A addr n) n.toNat n.toNat, .bool true]) ∧ w = w' := by
  have h' := may_yes h
  have H := Lib.hid h
  clear h
  obtain ⟨_, h1, h2, h3, _, h4⟩ := h'
  go_enter Try.func20, Try.ntmps20
  go_wp2_with (go_at_call 11; refine (writable _ _ _ _ _ (by omega) (by omega)).mono ?_; rintro e w' ⟨rfl, rfl⟩; rw [H.out])
  · go_ret2
    obtain rfl : n = 0 := by omega
    exact ⟨by simp [at_], rfl⟩
  · go_ret2
    have e1 : (addr + n).toNat - addr.toNat = n.toNat := by omega
    have hn : ¬ n = 0 := by omega
    exact ⟨by simp [at_, hn, e1], rfl⟩

theorem new_no (words : Int) (A : Option Addr) (len cap : Nat) (w : World) (hl : len ≤ 9223372036854775807) (h : words < 0 ∨ 4096 < words ∨ words < len) :
    Calls Try.prog 6 #[.int .i64 words, .slice A len cap] w fun e w' => e = .returned (.tuple #[.slice none 0 0, .bool false]) ∧ w = w' := by
  by_cases h1 : words < 0
  · clear h
    go_enter Try.func6, Try.ntmps6
    go_wp2
    go_ret2
    exact ⟨rfl, rfl⟩
  · by_cases h2 : 4096 < words
    · clear h
      go_enter Try.func6, Try.ntmps6
      go_wp2
      go_ret2
      exact ⟨rfl, rfl⟩
    · have h3 : words < len := by omega
      clear h
      go_enter Try.func6, Try.ntmps6
      go_wp2
      go_ret2
      exact ⟨rfl, rfl⟩

theorem splice_fill {α : Type} (n : Nat) (z : α) (cs : List α) (h : cs.length ≤ n) : splice (List.replicate n z) 0 cs = cs ++ List.replicate (n - cs.length) z := by
  simp [splice]

theorem new_yes (words : Int) (A : Option Addr) (cap : Nat) (xs : List Int) (w : World) (h0 : 0 ≤ words) (h1 : words ≤ 4096) (h2 : (xs.length : Int) ≤ words) (hx : Cl w A (ints xs)) :
    Calls Try.prog 6 #[.int .i64 words, .slice A xs.length cap] w fun e w' => e = .returned (.tuple #[.slice (some ⟨w.heap.size, 0, none⟩) words.toNat words.toNat, .bool true]) ∧ Row w' w.heap.size 2 (ints (xs ++ List.replicate (words.toNat - xs.length) 0)) ∧ Ch No w w' := by
  have hmk := run_make_one (P := Try.prog) 22 2 (.int .i64 0) 8 Try.underlying22 info2 rfl words h0 (by omega) (by omega)
  have HX := Lib.hid (hx.keepNo ((Ch.refl No w).alloc (.cells (List.replicate words.toNat (Value.int .i64 0)).toArray 2)))
  clear hx
  have hn : (ints xs).length = Nat.min xs.length words.toNat := by rw [ints_length]; show _ = min _ _; omega
  have HN := Lib.hid hn
  clear hn
  have HR := Lib.hid (Row.new w 2 (List.replicate words.toNat (Value.int .i64 0)))
  have hfit : 0 + (ints xs).length ≤ (List.replicate words.toNat (Value.int .i64 0)).length := by simp [ints_length]; omega
  have HF := Lib.hid hfit
  clear hfit
  go_enter Try.func6, Try.ntmps6
  go_wp2_with (refine wpList_copy_to rfl (.tmp 21) (.tmp 22) 22 22 rfl 2 Try.underlying22 size2 _ _ _ _ _ _ rfl rfl w.heap.size 0 _ 2 HR.out (ints xs) HN.out (fun _ => rfl) HX.out HF.out (ints_one xs) ?_; intro w2 hr2 hc2; have HR2 := Lib.hid hr2; have HC2 := Lib.hid hc2; clear hr2 hc2)
  go_ret2
  refine ⟨rfl, ?_, ?_⟩
  · have := HR2.out
    rw [splice_fill _ _ _ (by rw [ints_length]; omega)] at this
    rw [ints_append]
    have e : ints (List.replicate (words.toNat - xs.length) 0) = List.replicate (words.toNat - (ints xs).length) (Value.int .i64 0) := by simp [ints]
    rw [e]
    exact this
  · exact ((Ch.refl No w).alloc _).trans HC2.out (by intro i hi he; cases he; exact absurd hi (Nat.lt_irrefl _))

theorem load_no (A : Option Addr) (len cap : Nat) (addr : Int) (w : World) (hl : len ≤ 9223372036854775807) (h : may len 0 addr 1 = false) :
    Calls Try.prog 19 #[.slice A len cap, .int .i64 addr] w fun e w' => e = .returned (.tuple #[.int .i64 0, .bool false]) ∧ w = w' := by
  go_enter Try.func19, Try.ntmps19
  go_wp2_with (go_at_call 20; refine (piece_no _ _ _ _ _ _ hl h).mono ?_; rintro e w' ⟨rfl, rfl⟩)
  go_ret2
  exact ⟨rfl, rfl⟩

theorem load_yes (A : Option Addr) (cap : Nat) (addr : Int) (xs : List Int) (w : World) (hl : xs.length ≤ 9223372036854775807) (hc : xs.length ≤ cap) (h : may xs.length 0 addr 1 = true) (hx : Cl w A (ints xs)) :
    Calls Try.prog 19 #[.slice A xs.length cap, .int .i64 addr] w fun e w' => e = .returned (.tuple #[.int .i64 (xs.getD addr.toNat 0), .bool true]) ∧ w = w' := by
  have hy := may_yes h
  have hi : addr.toNat < xs.length := by omega
  obtain ⟨ad, rfl, hcell⟩ := hx addr.toNat _ (ints_get xs addr.toNat hi)
  have hv : xs.getD addr.toNat 0 = xs[addr.toNat] := by simp [hi]
  have H := Lib.hid h
  have HV := Lib.hid hv
  clear h hx hv hy
  have hp : Calls Try.prog 20 #[.slice (some ad) xs.length cap, .int .i64 addr, .int .i64 1] w fun e w' => e = .returned (.tuple #[.slice (some (ad.add addr.toNat)) 1 1, .bool true]) ∧ w = w' := piece_yes (some ad) xs.length cap addr 1 w hl hc H.out
  have HP := Lib.hid hp
  clear hp
  go_enter Try.func19, Try.ntmps19
  go_wp2_with (go_at_call 20; refine HP.out.mono ?_; rintro e w' ⟨rfl, rfl⟩)
  go_ret2
  exact ⟨by rw [HV.out]; rfl, rfl⟩

theorem read_no (A : Option Addr) (len cap : Nat) (addr n : Int) (w : World) (hl : len ≤ 9223372036854775807) (h : may len 0 addr n = false) :
    Calls Try.prog 18 #[.slice A len cap, .int .i64 addr, .int .i64 n] w fun e w' => e = .returned (.tuple #[.slice none 0 0, .bool false]) ∧ w = w' := by
  go_enter Try.func18, Try.ntmps18
  go_wp2_with (go_at_call 20; refine (piece_no _ _ _ _ _ _ hl h).mono ?_; rintro e w' ⟨rfl, rfl⟩)
  go_ret2
  exact ⟨rfl, rfl⟩

theorem cl_at {w : World} {A : Option Addr} {xs : List Int} (hx : Cl w A (ints xs)) (addr n : Int) (h0 : 0 ≤ n) (ha : 0 ≤ addr) (h : addr + n ≤ xs.length) : Cl w (at_ A addr n) (ints ((xs.drop addr.toNat).take n.toNat)) := by
  by_cases hn : n = 0
  · subst hn
    simpa [ints] using Cl.nil w _
  · obtain ⟨ad, rfl⟩ := hx.addr (by rw [ints_length]; omega)
    have := (hx.drop addr.toNat).take n.toNat
    rw [ints_drop, ints_take] at this
    simpa [at_, hn] using this
theorem len_at (xs : List Int) (addr n : Int) (h0 : 0 ≤ n) (ha : 0 ≤ addr) (h : addr + n ≤ xs.length) : ((xs.drop addr.toNat).take n.toNat).length = n.toNat := by
  simp
  omega

theorem read_yes (A : Option Addr) (cap : Nat) (addr n : Int) (xs : List Int) (w : World) (hl : xs.length ≤ 140737488351232) (hc : xs.length ≤ cap) (h : may xs.length 0 addr n = true) (hx : Cl w A (ints xs)) (hn8 : n ≤ 35184372088832) :
    Calls Try.prog 18 #[.slice A xs.length cap, .int .i64 addr, .int .i64 n] w fun e w' => e = .returned (.tuple #[.slice (some ⟨w.heap.size, 0, none⟩) n.toNat n.toNat, .bool true]) ∧ Row w' w.heap.size 2 (ints ((xs.drop addr.toNat).take n.toNat)) ∧ Ch No w w' := by
  obtain ⟨_, h0, h1, h2, _, h3⟩ := may_yes h
  have hmk := run_make_one (P := Try.prog) 22 2 (.int .i64 0) 8 Try.underlying22 info2 rfl n h0 (by omega) (by omega)
  have hcl := cl_at hx addr n h0 h2 (by omega)
  have hlen := len_at xs addr n h0 h2 (by omega)
  generalize hys : (xs.drop addr.toNat).take n.toNat = ys at *
  have HX := Lib.hid (hcl.keepNo ((Ch.refl No w).alloc (.cells (List.replicate n.toNat (Value.int .i64 0)).toArray 2)))
  have HN : Hid ((ints ys).length = Nat.min n.toNat n.toNat) := by show _ = _; rw [ints_length]; show _ = min _ _; omega
  have HR := Lib.hid (Row.new w 2 (List.replicate n.toNat (Value.int .i64 0)))
  have HF : Hid (0 + (ints ys).length ≤ (List.replicate n.toNat (Value.int .i64 0)).length) := by show _ ≤ _; simp [ints_length]; omega
  have HL := Lib.hid hlen
  have H := Lib.hid h
  clear hx hcl hlen h hys
  go_enter Try.func18, Try.ntmps18
  go_wp2_with (first | (go_at_call 20; refine (piece_yes _ _ _ _ _ _ (by omega) hc H.out).mono ?_; rintro e w' ⟨rfl, rfl⟩) | (refine wpList_copy_to rfl (.tmp 22) (.tmp 23) 22 22 rfl 2 Try.underlying22 size2 _ _ _ _ _ _ rfl rfl w.heap.size 0 _ 2 HR.out (ints ys) HN.out (fun _ => rfl) HX.out HF.out (ints_one ys) ?_; intro w2 hr2 hc2; have HR2 := Lib.hid hr2; have HC2 := Lib.hid hc2; clear hr2 hc2))
  go_ret2
  refine ⟨rfl, ?_, ?_⟩
  · have := HR2.out
    rw [splice_fill _ _ _ (by rw [ints_length, HL.out]; omega), ints_length, HL.out] at this
    simpa using this
  · exact ((Ch.refl No w).alloc _).trans HC2.out (by intro i hi he; cases he; exact absurd hi (Nat.lt_irrefl _))

theorem write_no (A B : Option Addr) (len cap n c : Nat) (fixed addr : Int) (w : World) (hl : len ≤ 9223372036854775807) (h : may len fixed addr n = false) :
    Calls Try.prog 9 #[.slice A len cap, .int .i64 fixed, .int .i64 addr, .slice B n c] w fun e w' => e = .returned (.bool false) ∧ w = w' := by
  have H := Lib.hid h
  clear h
  go_enter Try.func9, Try.ntmps9
  go_wp2_with (go_at_call 11; refine (writable _ _ _ _ _ (by omega) (by omega)).mono ?_; rintro e w' ⟨rfl, rfl⟩; rw [H.out])
  go_ret
  exact ⟨rfl, rfl⟩

theorem write_yes (g len cap c : Nat) (B : Option Addr) (fixed addr : Int) (L : List Value) (ys : List Int) (w : World) (hl : len ≤ 9223372036854775807) (hc : len ≤ cap) (hL : len ≤ L.length) (h : may len fixed addr ys.length = true)
    (hr : Row w g 2 L) (hy : Cl w B (ints ys)) :
    Calls Try.prog 9 #[.slice (some ⟨g, 0, none⟩) len cap, .int .i64 fixed, .int .i64 addr, .slice B ys.length c] w fun e w' => e = .returned (.bool true) ∧ Row w' g 2 (splice L addr.toNat (ints ys)) ∧ Ch (Is g) w w' := by
  obtain ⟨_, h0, h1, h2, _, h3⟩ := may_yes h
  have H0 := Lib.hid (may_zero h)
  have H := Lib.hid h
  have HR := Lib.hid hr
  have HY := Lib.hid hy
  have HN : Hid ((ints ys).length = Nat.min ys.length ys.length) := by show _ = _; rw [ints_length]; show _ = min _ _; omega
  have HF : Hid (addr.toNat + (ints ys).length ≤ L.length) := by show _ ≤ _; rw [ints_length]; omega
  have HP : Hid (0 < (ints ys).length → at_ (some ⟨g, 0, none⟩) addr ys.length = some ⟨g, addr.toNat, none⟩) := by
    intro hp
    rw [ints_length] at hp
    have hne : ¬ ((ys.length : Int) = 0) := by omega
    unfold at_
    rw [if_neg hne, Option.map_some, add_lit, Nat.zero_add]
  clear h hr hy
  go_enter Try.func9, Try.ntmps9
  go_wp2_with (first | (go_at_call 11; refine (writable _ _ _ _ _ (by omega) (by omega)).mono ?_; rintro e w' ⟨rfl, rfl⟩; rw [H.out]) | (go_at_call 20; refine (piece_yes _ _ _ _ _ _ (by omega) hc H0.out).mono ?_; rintro e w' ⟨rfl, rfl⟩) | (refine wpList_copy_to rfl (.tmp 27) (.tmp 28) 22 22 rfl 2 Try.underlying22 size2 _ _ _ _ _ _ rfl rfl g addr.toNat _ 2 HR.out (ints ys) HN.out HP.out HY.out HF.out (ints_one ys) ?_; intro w2 hr2 hc2; have HR2 := Lib.hid hr2; have HC2 := Lib.hid hc2; clear hr2 hc2))
  go_ret
  exact ⟨rfl, HR2.out, HC2.out⟩

theorem store_no (A : Option Addr) (len cap : Nat) (fixed addr v : Int) (w : World) (hl : len ≤ 9223372036854775807) (h : may len fixed addr 1 = false) :
    Calls Try.prog 10 #[.slice A len cap, .int .i64 fixed, .int .i64 addr, .int .i64 v] w fun e w' => e = .returned (.bool false) ∧ Ch No w w' := by
  go_enter Try.func10, Try.ntmps10
  go_wp2_with (go_at_call 9; refine (write_no _ _ _ _ _ _ _ _ _ hl h).mono ?_; rintro e w' ⟨rfl, rfl⟩)
  go_ret
  exact ⟨rfl, (Ch.refl No w).alloc _⟩

theorem store_yes (g len cap : Nat) (fixed addr v : Int) (L : List Value) (w : World) (hl : len ≤ 9223372036854775807) (hc : len ≤ cap) (hL : len ≤ L.length) (h : may len fixed addr 1 = true) (hr : Row w g 2 L) :
    Calls Try.prog 10 #[.slice (some ⟨g, 0, none⟩) len cap, .int .i64 fixed, .int .i64 addr, .int .i64 v] w fun e w' => e = .returned (.bool true) ∧ Row w' g 2 (splice L addr.toNat (ints [v])) ∧ Ch (Is g) w w' := by
  have HR := Lib.hid (hr.alloc (.cells #[.int .i64 v] 2))
  have HY : Hid (Cl (w.alloc (.cells #[.int .i64 v] 2)) (some ⟨w.heap.size, 0, none⟩) (ints [v])) := (Row.new w 2 (ints [v])).cl0
  have H := Lib.hid h
  clear hr h
  go_enter Try.func10, Try.ntmps10
  go_wp2_with (go_at_call 9; refine (write_yes g len cap 1 _ fixed addr L [v] _ hl hc hL H.out HR.out HY.out).mono ?_; rintro e w' ⟨rfl, hr2, hc2⟩; have HR2 := Lib.hid hr2; have HC2 := Lib.hid hc2; clear hr2 hc2)
  go_ret
  exact ⟨rfl, HR2.out, ((Ch.refl _ w).alloc _).trans HC2.out (fun _ _ h => h)⟩

/-- the block that New makes, without its number -/
theorem new_at (words : Int) (A : Option Addr) (cap : Nat) (xs : List Int) (w : World) (h0 : 0 ≤ words) (h1 : words ≤ 4096) (h2 : (xs.length : Int) ≤ words) (hx : Cl w A (ints xs)) :
    Calls Try.prog 6 #[.int .i64 words, .slice A xs.length cap] w fun e w' => ∃ g, e = .returned (.tuple #[.slice (some ⟨g, 0, none⟩) words.toNat words.toNat, .bool true]) ∧ w.heap.size ≤ g ∧ Row w' g 2 (ints (xs ++ List.replicate (words.toNat - xs.length) 0)) ∧ Ch No w w' :=
  (new_yes words A cap xs w h0 h1 h2 hx).mono fun e w' ⟨he, hr, hc⟩ => ⟨_, he, Nat.le_refl _, hr, hc⟩
theorem read_at (A : Option Addr) (cap : Nat) (addr n : Int) (xs : List Int) (w : World) (hl : xs.length ≤ 140737488351232) (hc : xs.length ≤ cap) (h : may xs.length 0 addr n = true) (hx : Cl w A (ints xs)) (hn8 : n ≤ 35184372088832) :
    Calls Try.prog 18 #[.slice A xs.length cap, .int .i64 addr, .int .i64 n] w fun e w' => ∃ g, e = .returned (.tuple #[.slice (some ⟨g, 0, none⟩) n.toNat n.toNat, .bool true]) ∧ w.heap.size ≤ g ∧ Row w' g 2 (ints ((xs.drop addr.toNat).take n.toNat)) ∧ Ch No w w' :=
  (read_yes A cap addr n xs w hl hc h hx hn8).mono fun e w' ⟨he, hr, hc⟩ => ⟨_, he, Nat.le_refl _, hr, hc⟩

/-- New, of a number that is a natural one. -/
theorem new_nat (m : Nat) (A : Option Addr) (cap : Nat) (xs : List Int) (w : World) (h1 : m ≤ 4096) (h2 : xs.length ≤ m) (hx : Cl w A (ints xs)) :
    Calls Try.prog 6 #[.int .i64 (m : Int), .slice A xs.length cap] w fun e w' => ∃ g, e = .returned (.tuple #[.slice (some ⟨g, 0, none⟩) m m, .bool true]) ∧ w.heap.size ≤ g ∧ Row w' g 2 (ints (xs ++ List.replicate (m - xs.length) 0)) ∧ Ch No w w' := by
  have := new_at (m : Int) A cap xs w (by omega) (by omega) (by omega) hx
  simpa using this

/-- works(): everything in it is known. -/
theorem works_calls (w : World) : Calls Try.prog 7 #[] w fun e w' => e = .returned (.bool true) ∧ Ch No w w' := by
  have HY : Hid (Cl (w.alloc (.cells #[.int .i64 10, .int .i64 20] 2)) (some ⟨w.heap.size, 0, none⟩) (ints [10, 20])) := (Row.new w 2 (ints [10, 20])).cl0
  go_enter Try.func7, Try.ntmps7
  go_wp2_with (go_at_call 6; refine (new_at 4 _ 2 [10, 20] _ (by omega) (by omega) (by decide) HY.out).mono ?_; rintro e w1 ⟨g, rfl, hg, hr1, hc1⟩; have HR1 : Hid (Row w1 g 2 (ints [10, 20, 0, 0])) := hr1; have HC1 := Lib.hid hc1; have HG := Lib.hid hg; clear hr1 hc1 hg; have c0 : w1.cell? ⟨g, 0, none⟩ = some (.int .i64 10) := HR1.out.cell 0; have c1 : w1.cell? ⟨g, 1, none⟩ = some (.int .i64 20) := HR1.out.cell 1; have c2 : w1.cell? ⟨g, 2, none⟩ = some (.int .i64 0) := HR1.out.cell 2)
  refine (store_yes g 4 4 2 3 7 _ w1 (by omega) (by omega) (by simp [ints]) (by decide) HR1.out).mono ?_
  rintro e w2 ⟨rfl, hr2, hc2⟩
  have HR2 : Hid (Row w2 g 2 (ints [10, 20, 0, 7])) := hr2
  have HC2 := Lib.hid hc2
  clear hr2 hc2
  go_wp2_with (fail)
  refine (load_yes (some ⟨g, 0, none⟩) 4 3 [10, 20, 0, 7] w2 (by simp) (by simp) (by decide) HR2.out.cl0).mono ?_
  rintro e w3 ⟨rfl, rfl⟩
  go_wp2_with (fail)
  go_ret
  refine ⟨by rfl, (((Ch.refl No w).alloc _).then_ HC1.out).trans (D' := Is g) HC2.out ?_⟩
  intro i hi he
  cases he
  have := HG.out
  simp at this
  omega
end Go.Proofs.Ytbllpojljdhnoaa
