/- isa.Legal: which instructions are legal. -/
import Derived.Test.YtellmlffkgfeiaaDoorC2
import Derived.LoopTactic
set_option linter.unusedVariables false
set_option linter.unusedSimpArgs false
namespace Go.Proofs.YtellmlffkgfeiaaDoor
open Go.RowKit
/-- the operations' shapes, by number -/
def shapes : List (List UInt8) := [[], [], [97, 110], [97, 110], [97, 98], [97, 98, 110], [97, 98, 110], [97, 98, 99], [97, 98, 99], [97, 98, 99], [97, 98, 99], [97, 98, 99], [97, 98, 99], [97, 98, 99], [97, 98, 99], [97, 98, 99], [97, 98, 99], [97, 98, 99], [97, 98, 110], [97, 98, 99], [97, 98, 99], [97, 98, 99], [112], [97, 112], [97, 112], [97], [112], [110]]
def shapeOf (op : Nat) : List UInt8 := shapes.getD op []
def strOf (l : List UInt8) : ByteArray := ⟨l.toArray⟩
/-- what the package-level table holds -/
def Glob (w : World) : Prop := ∀ op : Nat, op < 28 → w.cell? ⟨0, op * 2 + 1, none⟩ = some (.string (strOf (shapeOf op)))
theorem Glob.keep {D : Nat → Prop} {w w' : World} (h : Glob w) (hc : Ch D w w') (hd : ¬ D 0) : Glob w' := fun op hop => hc.cell hd (h op hop)
theorem known_yes (op : Nat) (h0 : 0 < op) (h : op < 28) (w : World) : Calls Tryd.prog 73 #[.int .u8 op] w fun e w' => e = .returned (.bool true) ∧ w = w' := by
  go_enter Tryd.func73, Tryd.ntmps73
  go_wp2
  go_ret
  exact ⟨by simp; omega, rfl⟩
theorem known_no (op : Nat) (h : op = 0 ∨ 28 ≤ op) (h8 : op < 256) (w : World) : Calls Tryd.prog 73 #[.int .u8 op] w fun e w' => e = .returned (.bool false) ∧ w = w' := by
  rcases h with rfl | h
  · go_enter Tryd.func73, Tryd.ntmps73
    go_wp2
    go_ret
    exact ⟨rfl, rfl⟩
  · go_enter Tryd.func73, Tryd.ntmps73
    go_wp2
    go_ret
    exact ⟨by simp; omega, rfl⟩
theorem shape_yes (op : Nat) (h0 : 0 < op) (h : op < 28) (w : World) (hg : Glob w) : Calls Tryd.prog 31 #[.int .u8 op] w fun e w' => e = .returned (.tuple #[.string (strOf (shapeOf op)), .bool true]) ∧ w = w' := by
  have hc := hg op h
  have hi : (op : Int) < 28 := by omega
  clear hg
  go_enter Tryd.func31, Tryd.ntmps31
  go_wp2_with (go_at_call 73; refine (known_yes _ h0 h _).mono ?_; rintro e w' ⟨rfl, rfl⟩)
  go_ret2
  exact ⟨rfl, rfl⟩
theorem shape_no (op : Nat) (h : op = 0 ∨ 28 ≤ op) (h8 : op < 256) (w : World) : Calls Tryd.prog 31 #[.int .u8 op] w fun e w' => e = .returned (.tuple #[.string ⟨#[]⟩, .bool false]) ∧ w = w' := by
  have H := Lib.hid h
  clear h
  go_enter Tryd.func31, Tryd.ntmps31
  go_wp2_with (go_at_call 73; refine (known_no _ H.out h8 _).mono ?_; rintro e w' ⟨rfl, rfl⟩)
  go_ret2
  exact ⟨rfl, rfl⟩
/-- where a letter's register lies -/
def letter (g : Nat) (l : UInt8) : Option Addr := if l = 97 then some ⟨g, 1, none⟩ else if l = 98 then some ⟨g, 2, none⟩ else if l = 99 then some ⟨g, 3, none⟩ else none
theorem field_a (g : Nat) (x : Int) (hx : x = 97) (w : World) : Calls Tryd.prog 32 #[.pointer (some ⟨g, 0, none⟩), .int .u8 x] w fun e w' => e = .returned (.pointer (some ⟨g, 1, none⟩)) ∧ w = w' := by
  subst hx
  go_enter Tryd.func32, Tryd.ntmps32
  go_wp2
  go_ret
  exact ⟨rfl, rfl⟩
theorem field_b (g : Nat) (x : Int) (hx : x = 98) (w : World) : Calls Tryd.prog 32 #[.pointer (some ⟨g, 0, none⟩), .int .u8 x] w fun e w' => e = .returned (.pointer (some ⟨g, 2, none⟩)) ∧ w = w' := by
  subst hx
  go_enter Tryd.func32, Tryd.ntmps32
  go_wp2
  go_ret
  exact ⟨rfl, rfl⟩
theorem field_c (g : Nat) (x : Int) (hx : x = 99) (w : World) : Calls Tryd.prog 32 #[.pointer (some ⟨g, 0, none⟩), .int .u8 x] w fun e w' => e = .returned (.pointer (some ⟨g, 3, none⟩)) ∧ w = w' := by
  subst hx
  go_enter Tryd.func32, Tryd.ntmps32
  go_wp2
  go_ret
  exact ⟨rfl, rfl⟩
theorem field_n (g : Nat) (l : Int) (h1 : (l == 97) = false) (h2 : (l == 98) = false) (h3 : (l == 99) = false) (w : World) : Calls Tryd.prog 32 #[.pointer (some ⟨g, 0, none⟩), .int .u8 l] w fun e w' => e = .returned (.pointer none) ∧ w = w' := by
  go_enter Tryd.func32, Tryd.ntmps32
  go_wp2
  go_ret
  exact ⟨rfl, rfl⟩
theorem u8_is {x y : UInt8} (h : (x.toNat : Int) = (y.toNat : Int)) : x = y := UInt8.toNat_inj.1 (by omega)
/-- is an instruction legal that has these registers and this number, of these letters? -/
def goL : List UInt8 → Nat → Nat → Nat → Int → Bool
  | [], a, b, c, n => decide (a = 0) && decide (b = 0) && decide (c = 0) && decide (n = 0)
  | l :: ls, a, b, c, n => if l = 97 then (if 16 ≤ a then false else goL ls 0 b c n) else if l = 98 then (if 16 ≤ b then false else goL ls a 0 c n) else if l = 99 then (if 16 ≤ c then false else goL ls a b 0 n) else goL ls a b c 0
def legal (op a b c : Nat) (n : Int) : Bool := decide (0 < op) && decide (op < 28) && goL (shapeOf op) a b c n
def insCells (op a b c : Nat) (n : Int) : List Value := [.int .u8 op, .int .u8 a, .int .u8 b, .int .u8 c, .int .i32 n]
theorem legal_unknown (op a b c : Nat) (n : Int) (h : op = 0 ∨ 28 ≤ op) (h8 : op < 256) (w : World) :
    Calls Tryd.prog 22 #[.agg #[.int .u8 op, .int .u8 a, .int .u8 b, .int .u8 c, .int .i32 n]] w fun e w' => e = .returned (.bool false) ∧ Ch No w w' := by
  have H := Lib.hid h
  clear h
  go_enter Tryd.func22, Tryd.ntmps22
  go_wp2_with (go_at_call 31; refine (shape_no _ H.out h8 _).mono ?_; rintro e w' ⟨rfl, rfl⟩)
  refine wp_loop_once ?_
  go_wp2
  go_ret
  exact ⟨rfl, (by repeat (first | exact Ch.refl _ _ | apply Ch.drewN | apply Ch.drew | apply Ch.alloc | (refine Ch.setCell ?_ (fun hh => absurd hh (by simp)) _)))⟩
set_option maxHeartbeats 4000000 in
theorem legal_l (op a b c : Nat) (n : Int) (l : List UInt8) (hll : l.length ≤ 3) (w : World)
    (hsh : ∀ w1, Ch No w w1 → Calls Tryd.prog 31 #[.int .u8 op] w1 fun e w' => e = .returned (.tuple #[.string (strOf l), .bool true]) ∧ w1 = w') :
    Calls Tryd.prog 22 #[.agg #[.int .u8 op, .int .u8 a, .int .u8 b, .int .u8 c, .int .i32 n]] w fun e w' => e = .returned (.bool (goL l a b c n)) ∧ Ch No w w' := by
  have HSH := Lib.hid hsh
  clear hsh
  have hsz : (strOf l).size = l.length := rfl
  go_enter Tryd.func22, Tryd.ntmps22
  go_wp2_with (go_at_call 31; refine (HSH.out _ ((Ch.refl No w).alloc _)).mono ?_; rintro e w' ⟨rfl, rfl⟩)
  go_loopw [18] (fun i wr => ∃ (k a' b' c' : Nat) (n' : Int), k ≤ l.length ∧ i = .int .i64 k ∧ Hid (Row wr (w.heap.size + 1) 45 (insCells 0 a' b' c' n')) ∧ Hid (goL (l.drop k) a' b' c' n' = goL l a b c n) ∧ Hid (Ch No w wr)) (fun i _ => l.length - (intOf i).toNat)
  case atStart =>
    exact ⟨0, a, b, c, n, by omega, rfl, Row.new_at (w.alloc _) 45 (insCells 0 a b c n) (by simp), rfl, (by repeat (first | exact Ch.refl _ _ | apply Ch.drewN | apply Ch.drew | apply Ch.alloc | (refine Ch.setCell ?_ (fun hh => absurd hh (by simp)) _)))⟩
  case round =>
    obtain ⟨k, a', b', c', n', hk, rfl, HR, HGO, HC⟩ := hrel
    have c0 : wr.cell? ⟨w.heap.size + 1, 0, none⟩ = some (.int .u8 0) := HR.out.cell 0
    have c1 : wr.cell? ⟨w.heap.size + 1, 1, none⟩ = some (.int .u8 a') := HR.out.cell 1
    have c2 : wr.cell? ⟨w.heap.size + 1, 2, none⟩ = some (.int .u8 b') := HR.out.cell 2
    have c3 : wr.cell? ⟨w.heap.size + 1, 3, none⟩ = some (.int .u8 c') := HR.out.cell 3
    have c4 : wr.cell? ⟨w.heap.size + 1, 4, none⟩ = some (.int .i32 n') := HR.out.cell 4
    have f1 := HR.out.frozen 1
    have f2 := HR.out.frozen 2
    have f3 := HR.out.frozen 3
    have f4 := HR.out.frozen 4
    by_cases hlt : k < l.length
    · have hgo := HGO.out
      rw [List.drop_eq_getElem_cons hlt] at hgo
      clear HGO
      by_cases h97 : l[k] = 97
      · have HX : Hid ((((strOf l)[k]'hlt).toNat : Int) = 97) := by show ((l[k].toNat : Nat) : Int) = 97; rw [h97]; rfl
        rw [h97] at hgo
        have HGO : Hid ((if 16 ≤ a' then false else goL (l.drop (k + 1)) 0 b' c' n') = goL l a b c n) := hgo
        clear hgo h97
        by_cases h16 : 16 ≤ a'
        · go_wp2_with (go_at_call 32; refine (field_a _ _ HX.out _).mono ?_; rintro e w' ⟨rfl, rfl⟩)
          go_ret
          have := HGO.out
          rw [if_pos h16] at this
          exact ⟨by rw [← this]; rfl, HC.out⟩
        · go_wp2_with (go_at_call 32; refine (field_a _ _ HX.out _).mono ?_; rintro e w' ⟨rfl, rfl⟩)
          have := HGO.out
          rw [if_neg h16] at this
          exact ⟨⟨k + 1, 0, b', c', n', by omega, by go_num, HR.out.set_ 1 _, this, HC.out.setCell (fun hh => absurd hh (by simp)) _⟩, by simp [intOf]; omega⟩
      · by_cases h98 : l[k] = 98
        · have HX : Hid ((((strOf l)[k]'hlt).toNat : Int) = 98) := by show ((l[k].toNat : Nat) : Int) = 98; rw [h98]; rfl
          rw [h98] at hgo
          have HGO : Hid ((if 16 ≤ b' then false else goL (l.drop (k + 1)) a' 0 c' n') = goL l a b c n) := hgo
          clear hgo h98
          by_cases h16 : 16 ≤ b'
          · go_wp2_with (go_at_call 32; refine (field_b _ _ HX.out _).mono ?_; rintro e w' ⟨rfl, rfl⟩)
            go_ret
            have := HGO.out
            rw [if_pos h16] at this
            exact ⟨by rw [← this]; rfl, HC.out⟩
          · go_wp2_with (go_at_call 32; refine (field_b _ _ HX.out _).mono ?_; rintro e w' ⟨rfl, rfl⟩)
            have := HGO.out
            rw [if_neg h16] at this
            exact ⟨⟨k + 1, a', 0, c', n', by omega, by go_num, HR.out.set_ 2 _, this, HC.out.setCell (fun hh => absurd hh (by simp)) _⟩, by simp [intOf]; omega⟩
        · by_cases h99 : l[k] = 99
          · have HX : Hid ((((strOf l)[k]'hlt).toNat : Int) = 99) := by show ((l[k].toNat : Nat) : Int) = 99; rw [h99]; rfl
            rw [h99] at hgo
            have HGO : Hid ((if 16 ≤ c' then false else goL (l.drop (k + 1)) a' b' 0 n') = goL l a b c n) := hgo
            clear hgo h99
            by_cases h16 : 16 ≤ c'
            · go_wp2_with (go_at_call 32; refine (field_c _ _ HX.out _).mono ?_; rintro e w' ⟨rfl, rfl⟩)
              go_ret
              have := HGO.out
              rw [if_pos h16] at this
              exact ⟨by rw [← this]; rfl, HC.out⟩
            · go_wp2_with (go_at_call 32; refine (field_c _ _ HX.out _).mono ?_; rintro e w' ⟨rfl, rfl⟩)
              have := HGO.out
              rw [if_neg h16] at this
              exact ⟨⟨k + 1, a', b', 0, n', by omega, by go_num, HR.out.set_ 3 _, this, HC.out.setCell (fun hh => absurd hh (by simp)) _⟩, by simp [intOf]; omega⟩
          · have h1 : Hid (((((strOf l)[k]'hlt).toNat : Int) == 97) = false) := by
              show _ = false
              have : ¬ ((((strOf l)[k]'hlt).toNat : Nat) : Int) = 97 := fun e => h97 (u8_is (y := 97) e)
              simpa using this
            have h2 : Hid (((((strOf l)[k]'hlt).toNat : Int) == 98) = false) := by
              show _ = false
              have : ¬ ((((strOf l)[k]'hlt).toNat : Nat) : Int) = 98 := fun e => h98 (u8_is (y := 98) e)
              simpa using this
            have h3 : Hid (((((strOf l)[k]'hlt).toNat : Int) == 99) = false) := by
              show _ = false
              have : ¬ ((((strOf l)[k]'hlt).toNat : Nat) : Int) = 99 := fun e => h99 (u8_is (y := 99) e)
              simpa using this
            have HGO : Hid (goL (l.drop (k + 1)) a' b' c' 0 = goL l a b c n) := by
              show _ = _
              rw [← hgo, goL, if_neg h97, if_neg h98, if_neg h99]
            clear hgo h97 h98 h99
            go_wp2_with (go_at_call 32; refine (field_n _ _ h1.out h2.out h3.out _).mono ?_; rintro e w' ⟨rfl, rfl⟩)
            exact ⟨⟨k + 1, a', b', c', 0, by omega, by go_num, HR.out.set_ 4 _, HGO.out, HC.out.setCell (fun hh => absurd hh (by simp)) _⟩, by simp [intOf]; omega⟩
    · obtain rfl : k = l.length := by omega
      go_wp2
      all_goals go_ret
      all_goals refine ⟨?_, HC.out⟩
      all_goals
        have hgo := HGO.out
        rw [List.drop_length] at hgo
        rw [← hgo]
        congr 2
        simp [goL, *]
theorem shape_len (op : Nat) (h : op < 28) : (shapeOf op).length ≤ 3 := by
  have : ∀ l ∈ shapes, l.length ≤ 3 := by decide
  unfold shapeOf
  simp only [List.getD_eq_getElem?_getD]
  rw [List.getElem?_eq_getElem (by show op < 28; omega)]
  exact this _ (List.getElem_mem _)
theorem legal_calls (op a b c : Nat) (n : Int) (h8 : op < 256) (w : World) (hg : Glob w) :
    Calls Tryd.prog 22 #[.agg #[.int .u8 op, .int .u8 a, .int .u8 b, .int .u8 c, .int .i32 n]] w fun e w' => e = .returned (.bool (legal op a b c n)) ∧ Ch No w w' := by
  by_cases h : 0 < op ∧ op < 28
  · have e : legal op a b c n = goL (shapeOf op) a b c n := by simp [legal, h.1, h.2]
    rw [e]
    exact legal_l op a b c n (shapeOf op) (shape_len op h.2) w fun w1 hc => shape_yes op h.1 h.2 w1 (hg.keep hc (not_no _))
  · have e : legal op a b c n = false := by simp [legal]; omega
    rw [e]
    exact legal_unknown op a b c n (by omega) h8 w
end Go.Proofs.YtellmlffkgfeiaaDoor
