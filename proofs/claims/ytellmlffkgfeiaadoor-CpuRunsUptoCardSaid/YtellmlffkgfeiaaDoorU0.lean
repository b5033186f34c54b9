/- A run is its steps: plain laws on effects. -/
import Derived.Test.YtellmlffkgfeiaaDoorK0
import Derived.Test.YtellmlffkgfeiaaDoorR0
import Derived.Test.YtellmlffkgfeiaaDoorC10
set_option linter.unusedVariables false
set_option linter.unusedSimpArgs false
namespace Go.Proofs.YtellmlffkgfeiaaDoor
open Go.RowKit
theorem in_upd {r : Nat → Int} {a : Nat} {v : Int} (h : ∀ i, i < 16 → In64 (r i)) (hv : In64 v) : ∀ i, i < 16 → In64 (upd r a v i) := fun i hi => by
  unfold upd
  split
  · exact hv
  · exact h i hi
theorem in_rd {xs : List Int} (h : ∀ x ∈ xs, In64 x) (k : Nat) : In64 (rd xs k) := by
  unfold rd
  rw [List.getD_eq_getElem?_getD]
  cases hx : xs[k]? with
  | none => show In64 0; unfold In64; omega
  | some x => exact h x (List.mem_of_getElem? hx)
theorem in_of_small {n : Int} (h0 : -2147483648 ≤ n) (h1 : n ≤ 2147483647) : In64 n := by unfold In64; omega
theorem in_flag {p : Prop} [Decidable p] : In64 (if p then 1 else 0) := by split <;> (unfold In64; omega)
theorem doF_in (op a b c : Nat) (n : Int) (len : Nat) (xs : List Int) (fixed : Int) (E : Eff) (hr : ∀ i, i < 16 → In64 (E.r i)) (hx : ∀ x ∈ xs, In64 x) (h0 : -2147483648 ≤ n) (h1 : n ≤ 2147483647) (hpc : In64 E.pc) (ha : a < 16) (hb : b < 16) (hc : c < 16) :
    ∀ i, i < 16 → In64 ((doF op a b c n len xs fixed E).r i) := by
  have hn := in_of_small h0 h1
  have kb := hr b hb
  have kc := hr c hc
  unfold doF
  split
  all_goals first
    | exact hr
    | exact in_upd hr hn
    | exact in_upd hr kb
    | exact in_upd hr (in64_toInt _)
    | exact in_upd hr in_flag
    | exact in_upd hr (sar_in _ _ kb)
    | (split
       · exact hr
       · exact hr)
    | (split
       · exact in_upd hr (in_rd hx _)
       · exact hr)
    | (split
       · exact hr
       · exact in_upd hr (div_in _ _))
    | (split
       · exact hr
       · rename_i h; exact in_upd hr (rest_in _ _ h kc))
    | exact in_upd hr hpc
theorem insF_in (x : Ins) (hk : x.ok) (len : Nat) (xs : List Int) (fixed : Int) (r : Nat → Int) (pc : Int) (hr : ∀ i, i < 16 → In64 (r i)) (hx : ∀ x ∈ xs, In64 x) (hpc : In64 (pc + 1)) : ∀ i, i < 16 → In64 ((insF x len xs fixed r pc).r i) := by
  unfold insF
  cases hl : x.legal with
  | false => exact hr
  | true =>
    obtain ⟨_, _, ha, hb, hc⟩ := legal_regs (show legal x.op x.a x.b x.c x.n = true from hl)
    rw [if_pos rfl]
    exact doF_in _ _ _ _ _ _ _ _ _ (by exact hr) hx hk.2.2.2.2.1 hk.2.2.2.2.2 (by exact hpc) ha hb hc
theorem stepF_in (cs : List Ins) (hcs : ∀ x ∈ cs, x.ok) (hl : cs.length ≤ 9223372036854775807) (xs : List Int) (fixed : Int) (r : Nat → Int) (pc : Int) (hr : ∀ i, i < 16 → In64 (r i)) (hx : ∀ x ∈ xs, In64 x) : ∀ i, i < 16 → In64 ((stepF cs xs fixed r pc).r i) := by
  unfold stepF
  split
  · exact hr
  · rename_i h0
    split
    · rename_i x hx'
      have hlt : pc.toNat < cs.length := (List.getElem?_eq_some_iff.1 hx').1
      exact insF_in x (hcs x (List.mem_of_getElem? hx')) _ _ _ _ _ hr hx (by unfold In64; omega)
    · exact hr

/-- does the machine go on? -/
def goes (E : Eff) : Bool := E.fault == 0 && E.call == 0
structure St where
  e : Eff
  m : List Int
  n : Nat
def writes (E : Eff) (xs : List Int) : List Int := if E.st = true then xs.set E.addr.toNat E.val else xs
def stepS (cs : List Ins) (fixed : Int) (s : St) : St := ⟨stepF cs s.m fixed s.e.r s.e.pc, writes (stepF cs s.m fixed s.e.r s.e.pc) s.m, s.n + 1⟩
def runS (cs : List Ins) (fixed : Int) (s : St) : Nat → St
  | 0 => s
  | k + 1 => if goes (runS cs fixed s k).e = true then stepS cs fixed (runS cs fixed s k) else runS cs fixed s k
theorem runS_go {cs : List Ins} {fixed : Int} {s : St} {k : Nat} (h : goes (runS cs fixed s k).e = true) : runS cs fixed s (k + 1) = stepS cs fixed (runS cs fixed s k) := by
  show (if _ then _ else _) = _
  rw [if_pos h]
theorem runS_stop {cs : List Ins} {fixed : Int} {s : St} {k : Nat} (h : goes (runS cs fixed s k).e = false) : ∀ j, runS cs fixed s (k + j) = runS cs fixed s k
  | 0 => rfl
  | j + 1 => by
    have e := runS_stop h j
    show (if goes (runS cs fixed s (k + j)).e = true then _ else runS cs fixed s (k + j)) = _
    rw [e, if_neg (by simp [h])]
theorem runS_to {cs : List Ins} {fixed : Int} {s : St} {k t : Nat} (hk : k ≤ t) (h : k = t ∨ goes (runS cs fixed s k).e = false) : runS cs fixed s t = runS cs fixed s k := by
  rcases h with rfl | h
  · rfl
  · obtain ⟨j, rfl⟩ := Nat.exists_eq_add_of_le hk
    exact runS_stop h j
theorem runS_add (cs : List Ins) (fixed : Int) (s : St) (a : Nat) : ∀ b, runS cs fixed s (a + b) = runS cs fixed (runS cs fixed s a) b
  | 0 => rfl
  | b + 1 => by
    have e := runS_add cs fixed s a b
    show (if goes (runS cs fixed s (a + b)).e = true then stepS cs fixed (runS cs fixed s (a + b)) else runS cs fixed s (a + b)) = (if goes (runS cs fixed (runS cs fixed s a) b).e = true then _ else _)
    rw [e]
/-- a state as every run comes to -/
structure Good (cs : List Ins) (m : Nat) (s : St) : Prop where
  regs : ∀ i, i < 16 → In64 (s.e.r i)
  mem : ∀ x ∈ s.m, In64 x
  len : s.m.length = m
theorem writes_len (E : Eff) (xs : List Int) : (writes E xs).length = xs.length := by unfold writes; split <;> simp
theorem step_store {cs : List Ins} {xs : List Int} {fixed : Int} {r : Nat → Int} {pc : Int} (h : (stepF cs xs fixed r pc).st = true) : 0 ≤ (stepF cs xs fixed r pc).addr ∧ (stepF cs xs fixed r pc).addr < xs.length ∧ ∃ a, a < 16 ∧ (stepF cs xs fixed r pc).val = r a := by
  rcases stepF_cases cs xs fixed r pc with ⟨k, x, _, hx, hleg, hF⟩ | hF
  · rcases hF.way with ⟨s1, _⟩ | ⟨s1, _, s2, s3, _, s5, _⟩
    · rw [h] at s1
      cases s1
    · exact ⟨s2, s3, x.a, (legal_regs (show legal x.op x.a x.b x.c x.n = true from hleg)).2.2.1, s5⟩
  · rw [hF.st] at h
    cases h
theorem stepS_good {cs : List Ins} (hcs : ∀ x ∈ cs, x.ok) (hl : cs.length ≤ 9223372036854775807) {fixed : Int} {m : Nat} {s : St} (h : Good cs m s) : Good cs m (stepS cs fixed s) where
  regs := stepF_in cs hcs hl s.m fixed s.e.r s.e.pc h.regs h.mem
  mem := by
    show ∀ x ∈ writes _ _, In64 x
    unfold writes
    split
    · rename_i hst
      obtain ⟨_, _, a, ha, hv⟩ := step_store hst
      intro x hx
      rcases List.mem_or_eq_of_mem_set hx with h1 | h1
      · exact h.mem x h1
      · rw [h1, hv]
        exact h.regs a ha
    · exact h.mem
  len := (writes_len _ _).trans h.len
theorem runS_good {cs : List Ins} (hcs : ∀ x ∈ cs, x.ok) (hl : cs.length ≤ 9223372036854775807) {fixed : Int} {m : Nat} {s : St} (h : Good cs m s) : ∀ k, Good cs m (runS cs fixed s k)
  | 0 => h
  | k + 1 => by
    have ih := runS_good hcs hl (fixed := fixed) h k
    show Good cs m (if _ then _ else _)
    split
    · exact stepS_good hcs hl ih
    · exact ih
/-- alike but for the last instruction's write -/
structure Alike (s t : St) : Prop where
  r : s.e.r = t.e.r
  pc : s.e.pc = t.e.pc
  fault : s.e.fault = t.e.fault
  call : s.e.call = t.e.call
  m : s.m = t.m
theorem runS_alike {cs : List Ins} {fixed : Int} {s t : St} (h : Alike s t) : ∀ k, Alike (runS cs fixed s k) (runS cs fixed t k) ∧ (runS cs fixed s k).n + t.n = (runS cs fixed t k).n + s.n
  | 0 => ⟨h, Nat.add_comm _ _⟩
  | k + 1 => by
    obtain ⟨ih, hn⟩ := runS_alike h k
    have hg : goes (runS cs fixed s k).e = goes (runS cs fixed t k).e := by unfold goes; rw [ih.fault, ih.call]
    show Alike (if _ then _ else _) (if _ then _ else _) ∧ (St.n (if _ then _ else _)) + t.n = (St.n (if _ then _ else _)) + s.n
    rw [hg]
    split
    · refine ⟨?_, ?_⟩
      · unfold stepS
        rw [ih.r, ih.pc, ih.m]
        exact ⟨rfl, rfl, rfl, rfl, rfl⟩
      · show _ + 1 + _ = _ + 1 + _
        omega
    · exact ⟨ih, hn⟩
/-- the machine's start -/
def start (r : Nat → Int) (pc : Int) (xs : List Int) : St := ⟨eff0 r pc 0, xs, 0⟩
theorem start_good {cs : List Ins} {r : Nat → Int} {pc : Int} {xs : List Int} (hr : ∀ i, i < 16 → In64 (r i)) (hx : ∀ x ∈ xs, In64 x) : Good cs xs.length (start r pc xs) := ⟨hr, hx, rfl⟩
/-- a run in two parts -/
theorem run_parts (cs : List Ins) (fixed : Int) (s : St) (h0 : s.n = 0) (a b : Nat) (hg : goes (runS cs fixed s a).e = true) :
    Alike (runS cs fixed s (a + b)) (runS cs fixed (start (runS cs fixed s a).e.r (runS cs fixed s a).e.pc (runS cs fixed s a).m) b) ∧ (runS cs fixed s (a + b)).n = (runS cs fixed s a).n + (runS cs fixed (start (runS cs fixed s a).e.r (runS cs fixed s a).e.pc (runS cs fixed s a).m) b).n := by
  have hg' : (runS cs fixed s a).e.fault = 0 ∧ (runS cs fixed s a).e.call = 0 := by simpa [goes] using hg
  obtain ⟨h1, h2⟩ := runS_alike (cs := cs) (fixed := fixed) (s := runS cs fixed s a) (t := start (runS cs fixed s a).e.r (runS cs fixed s a).e.pc (runS cs fixed s a).m) ⟨rfl, rfl, hg'.1, hg'.2, rfl⟩ b
  rw [← runS_add] at h1 h2
  refine ⟨h1, ?_⟩
  have : (start (runS cs fixed s a).e.r (runS cs fixed s a).e.pc (runS cs fixed s a).m).n = 0 := rfl
  omega
end Go.Proofs.YtellmlffkgfeiaaDoor
