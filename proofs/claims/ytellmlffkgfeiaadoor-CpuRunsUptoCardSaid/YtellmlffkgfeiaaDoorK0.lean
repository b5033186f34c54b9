/- What an instruction may touch at most: a plain law on the effect of a Step. -/
import Derived.Test.YtellmlffkgfeiaaDoorC8b
set_option linter.unusedVariables false
set_option linter.unusedSimpArgs false
namespace Go.Proofs.YtellmlffkgfeiaaDoor
open Go.RowKit
/-- the register that an instruction names -/
def target (x : Ins) : Nat := if x.op = 26 then 14 else x.a
/-- a fault -/
structure Faulty (E : Eff) (len : Nat) (r : Nat → Int) : Prop where
  lo : 1 ≤ E.fault
  hi : E.fault ≤ 5
  r : E.r = r
  st : E.st = false
  addr : E.addr = 0
  val : E.val = 0
  call : E.call = 0
  pc0 : 0 ≤ E.pc
  pc1 : E.pc ≤ len
/-- no fault -/
structure Fine (E : Eff) (len : Nat) (m : Nat) (fixed : Int) (r : Nat → Int) (x : Ins) : Prop where
  fault : E.fault = 0
  call0 : 0 ≤ E.call
  call1 : E.call < 28
  pc0 : 0 ≤ E.pc
  pc1 : E.pc ≤ len
  same : ∀ i, i ≠ target x → E.r i = r i
  way : (E.st = false ∧ E.addr = 0 ∧ E.val = 0 ∧ x.op ≠ 6) ∨ (E.st = true ∧ x.op = 6 ∧ 0 ≤ E.addr ∧ E.addr < m ∧ fixed ≤ E.addr ∧ E.val = r x.a ∧ E.r = r)
theorem inn_in (len : Nat) (n : Int) : 0 ≤ inn len n ∧ inn len n ≤ len := by unfold inn; split <;> omega
theorem fine_reg {len m : Nat} {fixed : Int} {r : Nat → Int} {k : Nat} {op a b c : Nat} {n : Int} (hk : k < len) (h26 : op ≠ 26) (h6 : op ≠ 6) (v : Int) : Fine ((eff0 r ((k : Int) + 1) 0).reg a v) len m fixed r ⟨op, a, b, c, n⟩ :=
  ⟨rfl, by show (0 : Int) ≤ 0; omega, by show (0 : Int) < 28; omega, by show (0 : Int) ≤ (k : Int) + 1; omega, by show (k : Int) + 1 ≤ len; omega, fun i hi => by
    unfold target at hi
    rw [if_neg h26] at hi
    show upd r a v i = r i
    unfold upd
    rw [if_neg hi], .inl ⟨rfl, rfl, rfl, h6⟩⟩
theorem fine_pc {len m : Nat} {fixed : Int} {r : Nat → Int} {x : Ins} (h6 : x.op ≠ 6) (p n c : Int) (h0 : 0 ≤ n) (h1 : n ≤ len) (hc0 : 0 ≤ c) (hc1 : c < 28) : Fine { eff0 r p 0 with pc := n, call := c } len m fixed r x :=
  ⟨rfl, hc0, hc1, h0, h1, fun i hi => rfl, .inl ⟨rfl, rfl, rfl, h6⟩⟩
theorem faulty_of {len : Nat} {r : Nat → Int} (p f : Int) (h0 : 0 ≤ p) (h1 : p ≤ len) (hf0 : 1 ≤ f) (hf1 : f ≤ 5) : Faulty (eff0 r p f) len r := ⟨hf0, hf1, rfl, rfl, rfl, rfl, rfl, h0, h1⟩
theorem fix_le {fixed a : Int} {m : Nat} (h : fix fixed m ≤ a) (h1 : a < m) (h0 : 0 ≤ a) : fixed ≤ a := by unfold fix at h; omega
set_option maxHeartbeats 2000000 in
theorem insF_cases (x : Ins) (len : Nat) (xs : List Int) (fixed : Int) (r : Nat → Int) (k : Nat) (hk : k < len) : (x.legal = true ∧ Fine (insF x len xs fixed r k) len xs.length fixed r x) ∨ Faulty (insF x len xs fixed r k) len r := by
  unfold insF
  cases hl : x.legal with
  | false => exact .inr (faulty_of _ _ (by omega) (by omega) (by omega) (by omega))
  | true =>
    rw [if_pos rfl]
    obtain ⟨h0, h28, ha, hb, hc⟩ := legal_regs (show legal x.op x.a x.b x.c x.n = true from hl)
    have hp0 : (0 : Int) ≤ (k : Int) + 1 := by omega
    have hp1 : (k : Int) + 1 ≤ len := by omega
    obtain ⟨op, a, b, c, n⟩ := x
    simp only at h0 h28 ha hb hc ⊢
    have hf : ∀ f : Int, 1 ≤ f → f ≤ 5 → Faulty (eff0 r ((k : Int) + 1) f) len r := fun f h1 h2 => faulty_of _ _ hp0 hp1 h1 h2
    have hop : op = 1 ∨ op = 2 ∨ op = 3 ∨ op = 4 ∨ op = 5 ∨ op = 6 ∨ op = 7 ∨ op = 8 ∨ op = 9 ∨ op = 10 ∨ op = 11 ∨ op = 12 ∨ op = 13 ∨ op = 14 ∨ op = 15 ∨ op = 16 ∨ op = 17 ∨ op = 18 ∨ op = 19 ∨ op = 20 ∨ op = 21 ∨ op = 22 ∨ op = 23 ∨ op = 24 ∨ op = 25 ∨ op = 26 ∨ op = 27 := by omega
    rcases hop with rfl | rfl | rfl | rfl | rfl | rfl | rfl | rfl | rfl | rfl | rfl | rfl | rfl | rfl | rfl | rfl | rfl | rfl | rfl | rfl | rfl | rfl | rfl | rfl | rfl | rfl | rfl
    all_goals simp only [doF]
    case inr.inr.inr.inr.inl =>
      split
      · exact .inl ⟨trivial, fine_reg hk (by omega) (by omega) _⟩
      · exact .inr (hf 2 (by omega) (by omega))
    case inr.inr.inr.inr.inr.inl =>
      split
      · rename_i h
        have := may_yes h
        exact .inl ⟨trivial, rfl, by show (0 : Int) ≤ 0; omega, by show (0 : Int) < 28; omega, hp0, hp1, fun _ _ => rfl, .inr ⟨rfl, rfl, this.2.2.2.1, by show Fadd _ _ < _; omega, fix_le this.2.2.2.2.1 (by show Fadd _ _ < _; omega) this.2.2.2.1, rfl, rfl⟩⟩
      · exact .inr (hf 2 (by omega) (by omega))
    all_goals first
      | exact .inl ⟨trivial, fine_reg hk (by omega) (by omega) _⟩
      | exact .inl ⟨trivial, by refine fine_pc (c := 0) ?_ ((k : Int) + 1) _ (inn_in _ _).1 (inn_in _ _).2 (by omega) (by omega); simp⟩
      | exact .inl ⟨trivial, by refine fine_pc ?_ ((k : Int) + 1) ((k : Int) + 1) 0 hp0 hp1 (by omega) (by omega); simp⟩
      | (split
         · exact .inr (hf 3 (by omega) (by omega))
         · exact .inl ⟨trivial, fine_reg hk (by omega) (by omega) _⟩)
      | (split
         · exact .inl ⟨trivial, by refine fine_pc (c := 0) ?_ ((k : Int) + 1) _ (inn_in _ _).1 (inn_in _ _).2 (by omega) (by omega); simp⟩
         · exact .inl ⟨trivial, by refine fine_pc ?_ ((k : Int) + 1) ((k : Int) + 1) 0 hp0 hp1 (by omega) (by omega); simp⟩)
      | (split
         · exact .inl ⟨trivial, by refine fine_pc ?_ ((k : Int) + 1) ((k : Int) + 1) 0 hp0 hp1 (by omega) (by omega); simp⟩
         · exact .inl ⟨trivial, by refine fine_pc (c := 0) ?_ ((k : Int) + 1) _ (inn_in _ _).1 (inn_in _ _).2 (by omega) (by omega); simp⟩)
      | (split
         · rename_i h
           exact .inl ⟨trivial, by refine fine_pc ?_ ((k : Int) + 1) ((k : Int) + 1) n hp0 hp1 (by omega) (by omega); simp⟩
         · exact .inr (hf 5 (by omega) (by omega)))
      | exact .inl ⟨trivial, rfl, by show (0 : Int) ≤ 0; omega, by show (0 : Int) < 28; omega, (inn_in _ _).1, (inn_in _ _).2, fun i hi => by
          show upd r 14 _ i = r i
          unfold upd
          rw [if_neg (by simpa [target] using hi)], .inl ⟨rfl, rfl, rfl, by simp⟩⟩
/-- the effect of a Step, at whatever place -/
theorem stepF_cases (cs : List Ins) (xs : List Int) (fixed : Int) (r : Nat → Int) (pc : Int) :
    (∃ (k : Nat) (x : Ins), pc = k ∧ cs[k]? = some x ∧ x.legal = true ∧ Fine (stepF cs xs fixed r pc) cs.length xs.length fixed r x) ∨ Faulty (stepF cs xs fixed r pc) cs.length r := by
  unfold stepF
  by_cases h0 : pc < 0
  · rw [if_pos h0]
    exact .inr (faulty_of _ _ (inn_in _ _).1 (inn_in _ _).2 (by omega) (by omega))
  · rw [if_neg h0]
    obtain ⟨k, rfl⟩ := Int.eq_ofNat_of_zero_le (show 0 ≤ pc by omega)
    simp only [Int.ofNat_eq_natCast, Int.toNat_natCast]
    cases hx : cs[k]? with
    | none => exact .inr (faulty_of _ _ (inn_in _ _).1 (inn_in _ _).2 (by omega) (by omega))
    | some x =>
      have hk : k < cs.length := (List.getElem?_eq_some_iff.1 hx).1
      rcases insF_cases x cs.length xs fixed r k hk with ⟨hl, hf⟩ | hf
      · exact .inl ⟨k, x, rfl, hx, hl, hf⟩
      · exact .inr hf
end Go.Proofs.YtellmlffkgfeiaaDoor
