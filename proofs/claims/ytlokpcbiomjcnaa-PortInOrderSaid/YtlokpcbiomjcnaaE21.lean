/- PortInOrder: scripts; how all stands at the start. -/
import Derived.Test.YtlokpcbiomjcnaaE20
import Derived.Deep.CutBlock
set_option linter.unusedVariables false
set_option linter.unusedSimpArgs false
namespace Go.Proofs.Ytlokpcbiomjcnaa
open Go.RowKit
/-- one call of a script -/
structure OpR where
  kind : Int
  port : Int
  A : Option Addr
  data : List Int
  cap : Nat
  now : Int
  sort : Int
  out : Bool
def OpR.cells (o : OpR) : List Value := [.int .i64 o.kind, .int .i64 o.port, .slice o.A o.data.length o.cap, .int .i64 o.now, .int .i64 o.sort, .bool o.out]
structure OpR.Ok (W : World) (o : OpR) : Prop where
  kind : -9223372036854775808 ≤ o.kind ∧ o.kind ≤ 9223372036854775807
  port : -9223372036854775808 ≤ o.port ∧ o.port ≤ 9223372036854775807
  now : -9223372036854775808 ≤ o.now ∧ o.now ≤ 9223372036854775807
  sort : -9223372036854775808 ≤ o.sort ∧ o.sort ≤ 9223372036854775807
  len : o.data.length ≤ o.cap
  cap : o.cap ≤ maxLen
  data : Cl W o.A (ints o.data)
def Ops (W : World) (S : Option Addr) (os : List OpR) : Prop := ∀ i o, os[i]? = some o → o.Ok W ∧ ∃ ad, S = some ad ∧ Cl W (some (ad.add (i * 6))) o.cells
theorem Ops.keep {W w : World} {S : Option Addr} {os : List OpR} (h : Ops W S os) (hc : Ch No W w) : Ops w S os := fun i o ho => by
  obtain ⟨hk, ad, e, hcell⟩ := h i o ho
  exact ⟨⟨hk.kind, hk.port, hk.now, hk.sort, hk.len, hk.cap, hk.data.keepNo hc⟩, ad, e, hcell.keepNo hc⟩
theorem decide_lt_t {a b : Int} (h : a < b) : decide (a < b) = true := decide_eq_true h
theorem decide_lt_f {a b : Int} (h : ¬ a < b) : decide (a < b) = false := decide_eq_false h
theorem decide_le_t {a b : Int} (h : a ≤ b) : decide (a ≤ b) = true := decide_eq_true h
theorem decide_le_f {a b : Int} (h : ¬ a ≤ b) : decide (a ≤ b) = false := decide_eq_false h
/-- what stands at the start -/
def st0 (E : Nat → Nat) : Nat → PoS := fun j => ⟨E j, .slice none 0 0, false, 0, .slice none 0 0, 0, [], [], .slice none 0 0, [], [], 0⟩
/-- the statement's loop -/
structure Ri (w0 w : World) (X G M gW gL : Nat) (vp vx : Value) (f : Int → Option Nat) (part : Int) (ps : List Pt) (st : Nat → PoS) : Prop where
  pi : Pi w0 w X G M gW gL vp vx f part ps st
  eq : ∀ j, (st j).q = (st j).r ∧ (st j).lost = (st j).los
theorem Ri.keepNo {w0 w w' : World} {X G M gW gL : Nat} {vp vx : Value} {f : Int → Option Nat} {part : Int} {ps : List Pt} {st : Nat → PoS} (h : Ri w0 w X G M gW gL vp vx f part ps st) (hc : Ch No w w') : Ri w0 w' X G M gW gL vp vx f part ps st := ⟨h.pi.keepNo hc, h.eq⟩
theorem info31 : (Try.prog.info? 31).map (fun i => (i.zero, i.size, i.bytes)) = some (some (.slice none 0 0), 1, 24) := by kernel_rfl
theorem info3 : (Try.prog.info? 3).map (fun i => (i.zero, i.size, i.bytes)) = some (some (.int .i64 0), 1, 8) := by kernel_rfl
theorem map_rep {α : Type} (a : α) (n : Nat) : (List.range n).map (fun _ => a) = List.replicate n a := by
  induction n with
  | zero => rfl
  | succ n ih => rw [List.range_succ, List.map_append, ih, List.replicate_succ']; rfl
theorem Im.ports {b : Nat} {w : World} {a v c : Value} {qs : List Pt} (h : Im b w (.agg #[a, v, c]) qs) : w.ownsRow b 46 6 v qs.length (pcells qs) := by
  obtain ⟨vp, v', cs, e, h1, _⟩ := h
  simp at e
  obtain ⟨_, rfl, _⟩ := e
  exact h1
theorem own_count {w : World} {b n size : Nat} {t : TypeId} {A : Option Addr} {k c : Nat} {L : List Value} (h : w.ownsRow b t size (.slice A k c) n L) : k = n := by
  rcases h.2 with ⟨e, h0⟩ | ⟨g, cap, cur, e, _⟩
  · simp at e
    omega
  · simp at e
    exact e.2.1
theorem pi_init {w w2 w3 w5 : World} {X G M gW gL : Nat} {vp vx : Value} {f : Int → Option Nat} {part : Int} {ps : List Pt} (hn : NewI w2 w3 G M part ps ps.length f) (hX : Row w2 X 27 [vp, vx, .slice none 0 0]) (hv : w2.ownsRow w.heap.size 46 6 vx ps.length (pcells ps)) (hc2 : Ch No w w2) (hc5 : Ch No w3 w5)
    (hW : Row w5 gW 31 (List.replicate ps.length (.slice none 0 0))) (hL : Row w5 gL 3 (List.replicate ps.length (.int .i64 0))) (bW : w3.heap.size ≤ gW) (bL : w3.heap.size ≤ gL) :
    Ri w w5 X G M gW gL vp vx f part ps (st0 fun j => (f (j + 1)).getD 0) := by
  have hc25 := hn.ch.then_ hc5
  have hs3 : w.heap.size ≤ w3.heap.size := Nat.le_trans hc2.size hn.ch.size
  refine ⟨⟨hX.keepNo hc25, owns_keepNo hv hc25, hn.row.keepNo hc5, hn.map.keepNo hc5, fun j p hp he => ?_, fun i hi => hn.none i (fun j p _ hp he => hi j p hp he), hn.inj, fun j => Qv.nil _, fun j => Qv.nil _, fun j => Mss.nil _, fun j => Mss.nil _, fun j k hk => ?_, fun j k hk => ?_, fun i j k hk => ?_, fun i j k hk => ?_, fun i j k hk => ?_, ?_, ?_, by omega, by omega, hc2.then_ hc25⟩, fun j => ⟨rfl, rfl⟩⟩
  · obtain ⟨E, h1, h2, h3⟩ := hn.own j p (List.getElem?_eq_some_iff.1 hp).1 hp he
    have e : (st0 (fun j => (f ((j : Int) + 1)).getD 0) j).E = E := by
      show (f ((j : Int) + 1)).getD 0 = E
      rw [h1]
      rfl
    rw [e]
    exact ⟨h1, h2.keepNo hc5, Nat.le_trans hc2.size h3, fun _ => rfl, none, 0, 0, rfl⟩
  · simp [st0, qblk] at hk
  · simp [st0, qblk] at hk
  · simp [st0, qblk] at hk
  · simp [st0, qblk] at hk
  · simp [st0, qblk] at hk
  · have := map_rep (Value.slice none 0 0) ps.length
    rw [← this] at hW
    exact hW
  · have := map_rep (Value.int .i64 0) ps.length
    rw [← this] at hL
    exact hL
end Go.Proofs.Ytlokpcbiomjcnaa
