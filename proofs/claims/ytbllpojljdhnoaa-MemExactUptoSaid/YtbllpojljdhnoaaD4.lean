/- MemExact: step: Load, Store, Writable, nothing. -/
import Derived.Test.YtbllpojljdhnoaaD3
set_option linter.unusedVariables false
set_option linter.unusedSimpArgs false
namespace Go.Proofs.Ytbllpojljdhnoaa
open Go.RowKit
/-- the memory under trial: m (with marks behind it) and x hold the same words -/
structure St (w : World) (g cap : Nat) (X : List Int) (rest : List Value) (vx : Value) : Prop where
  row : Row w g 2 (ints (X ++ marks 40) ++ rest)
  len : X.length + 40 + rest.length = cap
  cap : cap ≤ maxLen
  small : X.length ≤ 4096
  x : Ol 0 w vx X
  ne : ¬ vx.ownBlock = some g
theorem St.keepNo {w w' : World} {g cap : Nat} {X : List Int} {rest : List Value} {vx : Value} (h : St w g cap X rest vx) (hc : Ch No w w') : St w' g cap X rest vx :=
  ⟨h.row.keepNo hc, h.len, h.cap, h.small, h.x.keepNo hc, h.ne⟩
theorem St.le {w : World} {g cap : Nat} {X : List Int} {rest : List Value} {vx : Value} (h : St w g cap X rest vx) : X.length ≤ cap := by have := h.len; omega
theorem St.clm {w : World} {g cap : Nat} {X : List Int} {rest : List Value} {vx : Value} (h : St w g cap X rest vx) : Cl w (some ⟨g, 0, none⟩) (ints X) := marked_cl h.row
/-- what a step leaves -/
def PStep (w : World) (g cap n : Nat) (rest : List Value) (e : Ending) (w' : World) : Prop :=
  ∃ X' vx', e = .returned (.tuple #[vx', .bool true]) ∧ St w' g cap X' rest vx' ∧ X'.length = n ∧ Ch (Is g) w w'
def opv (k f a n x : Int) (A : Option Addr) (l c : Nat) : Value := .agg #[.int .i64 k, .int .i64 f, .int .i64 a, .int .i64 n, .int .i64 x, .slice A l c]
theorem Ch.is {g : Nat} {w w' : World} (h : Ch No w w') : Ch (Is g) w w' := h.mono (fun _ _ h => (not_no _ h).elim)
set_option maxRecDepth 100000 in
set_option maxHeartbeats 4000000 in
theorem step_load {w : World} {g cap n : Nat} {X : List Int} {rest : List Value} {vx : Value} (f a nn x : Int) (A : Option Addr) (l c : Nat) (h : St w g cap X rest vx) (hn : n = X.length) :
    Calls Try.prog 15 #[.slice (some ⟨g, 0, none⟩) n cap, vx, opv 1 f a nn x A l c] w (PStep w g cap n rest) := by
  have H : Hid (∀ wr, Ch No w wr → Calls Try.prog 19 #[.slice (some ⟨g, 0, none⟩) n cap, .int .i64 a] wr fun e w' => e = .returned (.tuple #[.int .i64 (ldv X a), .bool (may X.length 0 a 1)]) ∧ wr = w') := fun wr hc => by
    have h' := h.keepNo hc
    subst hn
    exact load_calls ⟨_, _, rfl, h'.clm, by have := h'.small; omega⟩ (fun A c e => by cases e; exact h.le) a
  have HR : Hid (∀ wr, Ch No w wr → Calls Try.prog 21 #[vx, .int .i64 a] wr fun e w' => e = .returned (.tuple #[.int .i64 (ldv X a), .bool (may X.length 0 a 1)]) ∧ wr = w') := fun wr hc => rload_calls (h.keepNo hc).x.sl a
  have HE : Hid (∀ wr, Ch No w wr → PStep w g cap n rest (.returned (.tuple #[vx, .bool true])) wr) := fun wr hc => ⟨X, vx, rfl, h.keepNo hc, hn.symm, hc.is⟩
  clear h hn
  unfold opv
  go_enter Try.func15, Try.ntmps15
  go_wp2_with (fail)
  refine (H.out _ ((Ch.refl No w).alloc _)).mono ?_
  rintro e w1 ⟨rfl, rfl⟩
  go_wp2_with (fail)
  refine (HR.out _ ((Ch.refl No w).alloc _)).mono ?_
  rintro e w1 ⟨rfl, rfl⟩
  go_wp2_with (fail)
  exact bodyPost_ret (v := .tuple #[vx, .bool true]) (by kernel_rfl) rfl (HE.out _ ((Ch.refl No w).alloc _))
/-- the call where it lies -/
def bx (w : World) (k f a n x : Int) (A : Option Addr) (l c : Nat) : World := w.alloc (.cells #[.int .i64 k, .int .i64 f, .int .i64 a, .int .i64 n, .int .i64 x, .slice A l c] 29)
def BxC (w' : World) (b : Nat) (k f a n x : Int) (A : Option Addr) (l c : Nat) : Prop :=
  w'.cell? ⟨b, 1, none⟩ = some (.int .i64 f) ∧ w'.cell? ⟨b, 2, none⟩ = some (.int .i64 a) ∧ w'.cell? ⟨b, 3, none⟩ = some (.int .i64 n) ∧ w'.cell? ⟨b, 4, none⟩ = some (.int .i64 x) ∧ w'.cell? ⟨b, 5, none⟩ = some (.slice A l c)
theorem bxc {w w' : World} {g : Nat} (hg : g < w.heap.size) (k f a n x : Int) (A : Option Addr) (l c : Nat) (h : Ch (Is g) (bx w k f a n x A l c) w') : BxC w' w.heap.size k f a n x A l c := by
  have hr : Row (bx w k f a n x A l c) w.heap.size 29 [.int .i64 k, .int .i64 f, .int .i64 a, .int .i64 n, .int .i64 x, .slice A l c] := Row.new w 29 _
  have hr := hr.keepIs h (by omega)
  exact ⟨hr.cell 1, hr.cell 2, hr.cell 3, hr.cell 4, hr.cell 5⟩
set_option maxRecDepth 100000 in
set_option maxHeartbeats 4000000 in
theorem step_store {w : World} {g cap n : Nat} {X : List Int} {rest : List Value} {vx : Value} (f a nn x : Int) (A : Option Addr) (l c : Nat) (h : St w g cap X rest vx) (hn : n = X.length) :
    Calls Try.prog 15 #[.slice (some ⟨g, 0, none⟩) n cap, vx, opv 2 f a nn x A l c] w (PStep w g cap n rest) := by
  have hc0 : Ch No w (bx w 2 f a nn x A l c) := (Ch.refl No w).alloc _
  have H := Lib.hid (mstore_calls g n cap X (marks 40) rest x f a (bx w 2 f a nn x A l c) (by have := h.small; omega) h.le hn (h.row.keepNo hc0))
  have HR : Hid (∀ wr, Ch (Is g) (bx w 2 f a nn x A l c) wr → Calls Try.prog 22 #[vx, .int .i64 f, .int .i64 a, .int .i64 x] wr fun e w' => ∃ v', e = .returned (.tuple #[v', .bool (may X.length f a 1)]) ∧ Ol wr.heap.size w' v' (wri X f a [x]) ∧ Ch No wr w') := fun wr hc => rstore_calls (((h.x.keepNo hc0).keepD hc (fun k hk e => h.ne (by rw [hk]; exact congrArg some e))).sl) f a x
  have HB := Lib.hid (fun w' hw => bxc (w' := w') h.row.lt 2 f a nn x A l c hw)
  have HE : Hid (∀ wr w3 v', Row wr g 2 (ints (wri X f a [x] ++ marks 40) ++ rest) → Ch (Is g) (bx w 2 f a nn x A l c) wr → Ol wr.heap.size w3 v' (wri X f a [x]) → Ch No wr w3 → PStep w g cap n rest (.returned (.tuple #[v', .bool true])) w3) := fun wr w3 v' hr hc ho hc3 =>
    ⟨_, v', rfl, ⟨hr.keepNo hc3, by rw [wri_length]; exact h.len, h.cap, by rw [wri_length]; exact h.small, ho.low (Nat.zero_le _), fun e => by have := ho.own g e; have := hr.lt; omega⟩, by rw [wri_length]; exact hn.symm, (hc0.is.trans hc (fun _ _ h => h)).then_ hc3⟩
  clear h hn hc0
  unfold opv
  unfold bx at *
  go_enter Try.func15, Try.ntmps15
  go_wp2_with (fail)
  refine H.out.mono ?_
  rintro e w1 ⟨rfl, hr1, hc1⟩
  have HR1 := Lib.hid hr1
  have HC1 := Lib.hid hc1
  obtain ⟨b1, b2, b3, b4, b5⟩ := HB.out w1 hc1
  clear hr1 hc1
  go_wp2_with (fail)
  refine (HR.out w1 HC1.out).mono ?_
  rintro e w2 ⟨v', rfl, ho, hc⟩
  have HF := Lib.hid (HE.out w1 w2 v' HR1.out HC1.out ho hc)
  clear ho hc
  go_wp2_with (fail)
  exact bodyPost_ret (v := .tuple #[v', .bool true]) (by kernel_rfl) rfl HF.out
end Go.Proofs.Ytbllpojljdhnoaa
