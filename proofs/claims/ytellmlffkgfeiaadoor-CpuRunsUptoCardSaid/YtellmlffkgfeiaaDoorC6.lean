/- What an instruction does: a function of the effect; the closure at each number of the table does it. -/
import Derived.Test.YtellmlffkgfeiaaDoorC3two
import Derived.Test.YtellmlffkgfeiaaDoorC3two2
import Derived.Test.YtellmlffkgfeiaaDoorC3one
import Derived.Test.YtellmlffkgfeiaaDoorC3small
import Derived.Test.YtellmlffkgfeiaaDoorC3jumps
import Derived.Test.YtellmlffkgfeiaaDoorC3jr
import Derived.Test.YtellmlffkgfeiaaDoorC3jal
import Derived.Test.YtellmlffkgfeiaaDoorC3service
import Derived.Test.YtellmlffkgfeiaaDoorC3load
import Derived.Test.YtellmlffkgfeiaaDoorC3store
import Derived.Test.YtellmlffkgfeiaaDoorC3div
import Derived.Test.YtellmlffkgfeiaaDoorC4
import Derived.Test.YtellmlffkgfeiaaDoorC5
set_option linter.unusedVariables false
set_option linter.unusedSimpArgs false
namespace Go.Proofs.YtellmlffkgfeiaaDoor
open Go.RowKit
def doF (op a b c : Nat) (n : Int) (len : Nat) (xs : List Int) (fixed : Int) (E : Eff) : Eff :=
  match op with
  | 2 => E.reg a n
  | 3 => E.reg a (For (n * 4294967296) (Fand (E.r a) 4294967295))
  | 4 => E.reg a (E.r b)
  | 5 => if may xs.length 0 (Fadd (E.r b) n) 1 = true then E.reg a (rd xs (Fadd (E.r b) n).toNat) else { E with fault := 2 }
  | 6 => if may xs.length fixed (Fadd (E.r b) n) 1 = true then { E with st := true, addr := Fadd (E.r b) n, val := E.r a } else { E with fault := 2 }
  | 10 => if E.r c = 0 then { E with fault := 3 } else E.reg a (Fdiv (E.r b) (E.r c))
  | 11 => if E.r c = 0 then { E with fault := 3 } else E.reg a (Fmod (E.r b) (E.r c))
  | 18 => E.reg a (Fadd (E.r b) n)
  | 7 => E.reg a (Fadd (E.r b) (E.r c))
  | 8 => E.reg a (Fsub (E.r b) (E.r c))
  | 9 => E.reg a (Fmul (E.r b) (E.r c))
  | 12 => E.reg a (Fand (E.r b) (E.r c))
  | 13 => E.reg a (For (E.r b) (E.r c))
  | 14 => E.reg a (Fxor (E.r b) (E.r c))
  | 15 => E.reg a (Fshl (E.r b) (E.r c))
  | 16 => E.reg a (Fshr (E.r b) (E.r c))
  | 17 => E.reg a (Fsar (E.r b) (E.r c))
  | 19 => E.reg a (Fslt (E.r b) (E.r c))
  | 20 => E.reg a (Fsltu (E.r b) (E.r c))
  | 21 => E.reg a (Fseq (E.r b) (E.r c))
  | 22 => { E with pc := inn len n }
  | 23 => if E.r a = 0 then { E with pc := inn len n } else E
  | 24 => if E.r a = 0 then E else { E with pc := inn len n }
  | 25 => { E with pc := inn len (E.r a) }
  | 26 => { E.reg 14 E.pc with pc := inn len n }
  | 27 => if 1 ≤ n ∧ n < 28 then { E with call := n } else { E with fault := 5 }
  | _ => E
theorem goL_regs : ∀ (l : List UInt8) (a b c : Nat) (n : Int), goL l a b c n = true → a < 16 ∧ b < 16 ∧ c < 16
  | [], a, b, c, n, h => by
    simp [goL] at h
    omega
  | x :: l, a, b, c, n, h => by
    unfold goL at h
    split at h
    · split at h
      · cases h
      · have := goL_regs l 0 b c n h
        omega
    · split at h
      · split at h
        · cases h
        · have := goL_regs l a 0 c n h
          omega
      · split at h
        · split at h
          · cases h
          · have := goL_regs l a b 0 n h
            omega
        · exact goL_regs l a b c 0 h
theorem legal_regs {op a b c : Nat} {n : Int} (h : legal op a b c n = true) : 0 < op ∧ op < 28 ∧ a < 16 ∧ b < 16 ∧ c < 16 := by
  simp [legal] at h
  have := goL_regs _ _ _ _ _ h.2
  omega
/-- a function is entered where it is called -/
def Ent (k : Nat) : Prop := ∀ (args : Array Value) (w : World), (callFunc k args).run Tryd.prog w = .ok (.enter k args) w
theorem ent_34 : Ent 34 := fun _ _ => by kernel_rfl
theorem ent_35 : Ent 35 := fun _ _ => by kernel_rfl
theorem ent_36 : Ent 36 := fun _ _ => by kernel_rfl
theorem ent_39 : Ent 39 := fun _ _ => by kernel_rfl
theorem ent_40 : Ent 40 := fun _ _ => by kernel_rfl
theorem ent_61 : Ent 61 := fun _ _ => by kernel_rfl
theorem ent_62 : Ent 62 := fun _ _ => by kernel_rfl
theorem ent_63 : Ent 63 := fun _ _ => by kernel_rfl
theorem ent_77 : Ent 77 := fun _ _ => by kernel_rfl
theorem ent_74 : Ent 74 := fun _ _ => by kernel_rfl
theorem ent_78 : Ent 78 := fun _ _ => by kernel_rfl
theorem ent_80 : Ent 80 := fun _ _ => by kernel_rfl
/-- a value of the table, called -/
def Does (v : Value) (args : Array Value) (w : World) (post : Ending → World → Prop) : Prop :=
  (∃ k, v = .func (.func k) #[] #[] ∧ Ent k ∧ Calls Tryd.prog k args w post) ∨ ∃ k q, v = .func (.func k) #[] #[.pointer (some ⟨q, 0, none⟩)] ∧ Ent k ∧ Calls Tryd.prog k (args.push (.pointer (some ⟨q, 0, none⟩))) w post
set_option maxHeartbeats 2000000 in
theorem do_op (op a b c : Nat) (n : Int) (hn0 : -2147483648 ≤ n) (hn1 : n ≤ 2147483647) (hleg : legal op a b c n = true) (A : Option Addr) (len cap : Nat) (hl : len ≤ 9223372036854775807) (M : Option Addr) (xs : List Int) (mcap : Nat) (hm : xs.length ≤ 9223372036854775807) (hmc : xs.length ≤ mcap) (fixed : Int) (g : Nat) (E : Eff)
    (hin : ∀ i, i < 16 → In64 (E.r i)) (w : World) (hg : Row w g 30 (effCells E)) (hx : Cl w M (ints xs)) (V : List Value) (hV : Ops w V) (v : Value) (hv : V[op]? = some v) :
    Does v #[.agg #[.slice A len cap, .slice M xs.length mcap, .int .i64 fixed], .agg #[.int .u8 op, .int .u8 a, .int .u8 b, .int .u8 c, .int .i32 n], .pointer (some ⟨g, 0, none⟩)] w fun e w' => e = .returned (.tuple #[]) ∧ Row w' g 30 (effCells (doF op a b c n len xs fixed E)) ∧ Ch (Is g) w w' := by
  obtain ⟨h0, h28, ha, hb, hc⟩ := legal_regs hleg
  have hop : op = 1 ∨ op = 2 ∨ op = 3 ∨ op = 4 ∨ op = 5 ∨ op = 6 ∨ op = 7 ∨ op = 8 ∨ op = 9 ∨ op = 10 ∨ op = 11 ∨ op = 12 ∨ op = 13 ∨ op = 14 ∨ op = 15 ∨ op = 16 ∨ op = 17 ∨ op = 18 ∨ op = 19 ∨ op = 20 ∨ op = 21 ∨ op = 22 ∨ op = 23 ∨ op = 24 ∨ op = 25 ∨ op = 26 ∨ op = 27 := by omega
  clear hleg h0 h28
  rcases hop with rfl | rfl | rfl | rfl | rfl | rfl | rfl | rfl | rfl | rfl | rfl | rfl | rfl | rfl | rfl | rfl | rfl | rfl | rfl | rfl | rfl | rfl | rfl | rfl | rfl | rfl | rfl
  · obtain rfl : v = _ := Option.some.inj (hv.symm.trans hV.o1)
    exact .inl ⟨_, rfl, ent_34, op_nop _ _ _ hl _ _ _ _ _ a b c n hn0 hn1 g E w hg⟩
  · obtain rfl : v = _ := Option.some.inj (hv.symm.trans hV.o2)
    exact .inl ⟨_, rfl, ent_35, op_ldi _ _ _ hl _ _ _ _ _ a b c n hn0 hn1 g E ha w hg⟩
  · obtain rfl : v = _ := Option.some.inj (hv.symm.trans hV.o3)
    exact .inl ⟨_, rfl, ent_36, op_ldh _ _ _ hl _ _ _ _ _ a b c n hn0 hn1 g E ha w hg⟩
  · obtain ⟨q, h1, hq⟩ := hV.o4
    obtain rfl : v = _ := Option.some.inj (hv.symm.trans h1)
    exact .inr ⟨_, q, rfl, ent_74, op_mov _ _ _ hl _ _ _ _ _ a b c n hn0 hn1 g E ha hb q w hg hq⟩
  · obtain rfl : v = _ := Option.some.inj (hv.symm.trans hV.o5)
    by_cases hz : may xs.length 0 (Fadd (E.r b) n) 1 = true
    · refine .inl ⟨_, rfl, ent_39, ?_⟩
      simp only [doF, if_pos hz]
      exact op_ld_yes _ _ _ hl _ xs _ hm hmc _ _ a b c n hn0 hn1 g E ha hb w hg hx hz
    · refine .inl ⟨_, rfl, ent_39, ?_⟩
      simp only [doF, if_neg hz]
      exact op_ld_no _ _ _ hl _ xs _ hm hmc _ _ a b c n hn0 hn1 g E hb w hg (by simpa using hz)
  · obtain rfl : v = _ := Option.some.inj (hv.symm.trans hV.o6)
    by_cases hz : may xs.length fixed (Fadd (E.r b) n) 1 = true
    · refine .inl ⟨_, rfl, ent_40, ?_⟩
      simp only [doF, if_pos hz]
      exact op_st_yes _ _ _ hl _ xs _ hm hmc _ _ a b c n hn0 hn1 g E ha hb w hg hz
    · refine .inl ⟨_, rfl, ent_40, ?_⟩
      simp only [doF, if_neg hz]
      exact op_st_no _ _ _ hl _ xs _ hm hmc _ _ a b c n hn0 hn1 g E ha hb w hg (by simpa using hz)
  · obtain ⟨q, h1, hq⟩ := hV.o7
    obtain rfl : v = _ := Option.some.inj (hv.symm.trans h1)
    exact .inr ⟨_, q, rfl, ent_77, op_add _ _ _ hl _ _ _ _ _ a b c n hn0 hn1 g E ha hb hc q w hg hq⟩
  · obtain ⟨q, h1, hq⟩ := hV.o8
    obtain rfl : v = _ := Option.some.inj (hv.symm.trans h1)
    exact .inr ⟨_, q, rfl, ent_77, op_sub _ _ _ hl _ _ _ _ _ a b c n hn0 hn1 g E ha hb hc q w hg hq⟩
  · obtain ⟨q, h1, hq⟩ := hV.o9
    obtain rfl : v = _ := Option.some.inj (hv.symm.trans h1)
    exact .inr ⟨_, q, rfl, ent_77, op_mul _ _ _ hl _ _ _ _ _ a b c n hn0 hn1 g E ha hb hc q w hg hq⟩
  · obtain ⟨q, h1, hq⟩ := hV.o10
    obtain rfl : v = _ := Option.some.inj (hv.symm.trans h1)
    by_cases hz : E.r c = 0
    · refine .inr ⟨_, q, rfl, ent_78, ?_⟩
      simp only [doF, if_pos hz]
      exact op_div0 _ _ _ hl _ _ _ _ _ a b c n hn0 hn1 g E hb hc q w hg (by simpa using hz)
    · refine .inr ⟨_, q, rfl, ent_78, ?_⟩
      simp only [doF, if_neg hz]
      exact op_div _ _ _ hl _ _ _ _ _ a b c n hn0 hn1 g E ha hb hc q w hg hq hz ⟨hin b hb, hin c hc⟩
  · obtain ⟨q, h1, hq⟩ := hV.o11
    obtain rfl : v = _ := Option.some.inj (hv.symm.trans h1)
    by_cases hz : E.r c = 0
    · refine .inr ⟨_, q, rfl, ent_78, ?_⟩
      simp only [doF, if_pos hz]
      exact op_div0 _ _ _ hl _ _ _ _ _ a b c n hn0 hn1 g E hb hc q w hg (by simpa using hz)
    · refine .inr ⟨_, q, rfl, ent_78, ?_⟩
      simp only [doF, if_neg hz]
      exact op_mod _ _ _ hl _ _ _ _ _ a b c n hn0 hn1 g E ha hb hc q w hg hq hz ⟨hin b hb, hin c hc⟩
  · obtain ⟨q, h1, hq⟩ := hV.o12
    obtain rfl : v = _ := Option.some.inj (hv.symm.trans h1)
    exact .inr ⟨_, q, rfl, ent_77, op_and _ _ _ hl _ _ _ _ _ a b c n hn0 hn1 g E ha hb hc q w hg hq⟩
  · obtain ⟨q, h1, hq⟩ := hV.o13
    obtain rfl : v = _ := Option.some.inj (hv.symm.trans h1)
    exact .inr ⟨_, q, rfl, ent_77, op_or _ _ _ hl _ _ _ _ _ a b c n hn0 hn1 g E ha hb hc q w hg hq⟩
  · obtain ⟨q, h1, hq⟩ := hV.o14
    obtain rfl : v = _ := Option.some.inj (hv.symm.trans h1)
    exact .inr ⟨_, q, rfl, ent_77, op_xor _ _ _ hl _ _ _ _ _ a b c n hn0 hn1 g E ha hb hc q w hg hq⟩
  · obtain ⟨q, h1, hq⟩ := hV.o15
    obtain rfl : v = _ := Option.some.inj (hv.symm.trans h1)
    exact .inr ⟨_, q, rfl, ent_77, op_shl _ _ _ hl _ _ _ _ _ a b c n hn0 hn1 g E ha hb hc q w hg hq⟩
  · obtain ⟨q, h1, hq⟩ := hV.o16
    obtain rfl : v = _ := Option.some.inj (hv.symm.trans h1)
    exact .inr ⟨_, q, rfl, ent_77, op_shr _ _ _ hl _ _ _ _ _ a b c n hn0 hn1 g E ha hb hc q w hg hq⟩
  · obtain ⟨q, h1, hq⟩ := hV.o17
    obtain rfl : v = _ := Option.some.inj (hv.symm.trans h1)
    exact .inr ⟨_, q, rfl, ent_77, op_sar _ _ _ hl _ _ _ _ _ a b c n hn0 hn1 g E ha hb hc q w hg hq⟩
  · obtain ⟨q, h1, hq⟩ := hV.o18
    obtain rfl : v = _ := Option.some.inj (hv.symm.trans h1)
    exact .inr ⟨_, q, rfl, ent_74, op_addi _ _ _ hl _ _ _ _ _ a b c n hn0 hn1 g E ha hb q w hg hq⟩
  · obtain ⟨q, h1, hq⟩ := hV.o19
    obtain rfl : v = _ := Option.some.inj (hv.symm.trans h1)
    exact .inr ⟨_, q, rfl, ent_77, op_slt _ _ _ hl _ _ _ _ _ a b c n hn0 hn1 g E ha hb hc q w hg hq⟩
  · obtain ⟨q, h1, hq⟩ := hV.o20
    obtain rfl : v = _ := Option.some.inj (hv.symm.trans h1)
    exact .inr ⟨_, q, rfl, ent_77, op_sltu _ _ _ hl _ _ _ _ _ a b c n hn0 hn1 g E ha hb hc q w hg hq⟩
  · obtain ⟨q, h1, hq⟩ := hV.o21
    obtain rfl : v = _ := Option.some.inj (hv.symm.trans h1)
    exact .inr ⟨_, q, rfl, ent_77, op_seq _ _ _ hl _ _ _ _ _ a b c n hn0 hn1 g E ha hb hc q w hg hq⟩
  · obtain ⟨q, h1, hq⟩ := hV.o22
    obtain rfl : v = _ := Option.some.inj (hv.symm.trans h1)
    exact .inr ⟨_, q, rfl, ent_80, op_jmp _ _ _ hl _ _ _ _ _ a b c n hn0 hn1 g E ha q w hg hq⟩
  · obtain ⟨q, h1, hq⟩ := hV.o23
    obtain rfl : v = _ := Option.some.inj (hv.symm.trans h1)
    by_cases hz : E.r a = 0
    · refine .inr ⟨_, q, rfl, ent_80, ?_⟩
      simp only [doF, if_pos hz]
      exact op_jz_yes _ _ _ hl _ _ _ _ _ a b c n hn0 hn1 g E ha q w hg hq (by simpa using hz)
    · refine .inr ⟨_, q, rfl, ent_80, ?_⟩
      simp only [doF, if_neg hz]
      exact op_jz_no _ _ _ hl _ _ _ _ _ a b c n hn0 hn1 g E ha q w hg hq (by simpa using hz)
  · obtain ⟨q, h1, hq⟩ := hV.o24
    obtain rfl : v = _ := Option.some.inj (hv.symm.trans h1)
    by_cases hz : E.r a = 0
    · refine .inr ⟨_, q, rfl, ent_80, ?_⟩
      simp only [doF, if_pos hz]
      exact op_jnz_no _ _ _ hl _ _ _ _ _ a b c n hn0 hn1 g E ha q w hg hq (by simpa using hz)
    · refine .inr ⟨_, q, rfl, ent_80, ?_⟩
      simp only [doF, if_neg hz]
      exact op_jnz_yes _ _ _ hl _ _ _ _ _ a b c n hn0 hn1 g E ha q w hg hq (by simpa using hz)
  · obtain rfl : v = _ := Option.some.inj (hv.symm.trans hV.o25)
    exact .inl ⟨_, rfl, ent_61, op_jr _ _ _ hl _ _ _ _ _ a b c n hn0 hn1 g E ha w hg⟩
  · obtain rfl : v = _ := Option.some.inj (hv.symm.trans hV.o26)
    exact .inl ⟨_, rfl, ent_62, op_jal _ _ _ hl _ _ _ _ _ a b c n hn0 hn1 g E w hg⟩
  · obtain rfl : v = _ := Option.some.inj (hv.symm.trans hV.o27)
    by_cases hz : 1 ≤ n ∧ n < 28
    · refine .inl ⟨_, rfl, ent_63, ?_⟩
      simp only [doF, if_pos hz]
      exact op_sys_yes _ _ _ hl _ _ _ _ _ a b c n hn0 hn1 g E w hg hz.1 hz.2
    · refine .inl ⟨_, rfl, ent_63, ?_⟩
      simp only [doF, if_neg hz]
      exact (if h1 : n < 1 then op_sys_low _ _ _ hl _ _ _ _ _ a b c n hn0 hn1 g E w hg h1 else op_sys_high _ _ _ hl _ _ _ _ _ a b c n hn0 hn1 g E w hg (by omega) (by omega))
end Go.Proofs.YtellmlffkgfeiaaDoor
