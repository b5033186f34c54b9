/- A machine that came in, opened: code, memory, registers, a place. -/
import Derived.Test.YtellmlffkgfeiaaDoorO
import Derived.Test.YtellmlffkgfeiaaDoorK1f
set_option linter.unusedVariables false
set_option linter.unusedSimpArgs false
namespace Go.Proofs.YtellmlffkgfeiaaDoor
open Go.ChangeShapes Go.WideShapes Go.ChangeAt Go.RowKit
section
variable {H : Type} {enc : TypeId × Value → H} {W : World}
theorem cells45 : Tryd.prog.cellsOf 45 = 5 := by kernel_rfl
theorem cells24 : Tryd.prog.cellsOf 24 = 16 := by kernel_rfl
theorem cells26 : Tryd.prog.cellsOf 26 = 20 := by kernel_rfl
theorem cells2 : Tryd.prog.cellsOf 2 = 1 := by kernel_rfl
theorem codeCells_length (cs : List Ins) : (codeCells cs).length = cs.length * 5 := by
  induction cs with
  | nil => rfl
  | cons x cs ih =>
    simp only [codeCells, List.flatMap_cons, List.length_append, List.length_cons] at ih ⊢
    rw [ih]
    show 5 + _ = _
    omega
theorem wf_u8 {n : Int} (h : (Lit.int .u8 n).wf = true) : 0 ≤ n ∧ n < 256 := by
  simp [Lit.wf, IntKind.min, IntKind.max, IntKind.signed, IntKind.bits] at h
  omega
theorem wf_i32 {n : Int} (h : (Lit.int .i32 n).wf = true) : -2147483648 ≤ n ∧ n ≤ 2147483647 := by
  simpa [Lit.wf, IntKind.min, IntKind.max, IntKind.signed, IntKind.bits] using h
/-- an instruction's cells -/
theorem open_ins {es : List Value} {d : DataW H} (h : Tr enc Tryd.prog W 45 es d) : ∃ x : Ins, es = x.cells ∧ x.ok := by
  obtain ⟨ds, _, hl, _, hf⟩ := tr_struct Tryd.underlying45 h
  rw [cells45] at hl
  obtain ⟨e0, e1, e2, e3, e4, rfl⟩ : ∃ a b c d e, es = [a, b, c, d, e] := by
    match es, hl with
    | [a, b, c, d, e], _ => exact ⟨a, b, c, d, e, rfl⟩
  obtain ⟨d0, _, h0⟩ := hf 0 _ rfl
  obtain ⟨d1, _, h1⟩ := hf 1 _ rfl
  obtain ⟨d2, _, h2⟩ := hf 2 _ rfl
  obtain ⟨d3, _, h3⟩ := hf 3 _ rfl
  obtain ⟨d4, _, h4⟩ := hf 4 _ rfl
  obtain ⟨n0, g0, _, w0⟩ := tr_int Tryd.underlying5 (tr_field h0 (by kernel_rfl) rfl)
  obtain ⟨n1, g1, _, w1⟩ := tr_int Tryd.underlying5 (tr_field h1 (by kernel_rfl) rfl)
  obtain ⟨n2, g2, _, w2⟩ := tr_int Tryd.underlying5 (tr_field h2 (by kernel_rfl) rfl)
  obtain ⟨n3, g3, _, w3⟩ := tr_int Tryd.underlying5 (tr_field h3 (by kernel_rfl) rfl)
  obtain ⟨n4, g4, _, w4⟩ := tr_int Tryd.underlying21 (tr_field h4 (by kernel_rfl) rfl)
  have u0 := wf_u8 w0
  have u1 := wf_u8 w1
  have u2 := wf_u8 w2
  have u3 := wf_u8 w3
  have u4 := wf_i32 w4
  simp only [List.cons.injEq, and_true] at g0 g1 g2 g3 g4
  refine ⟨⟨n0.toNat, n1.toNat, n2.toNat, n3.toNat, n4⟩, ?_, ?_⟩
  · show _ = [Value.int .u8 (n0.toNat : Int), .int .u8 (n1.toNat : Int), .int .u8 (n2.toNat : Int), .int .u8 (n3.toNat : Int), .int .i32 n4]
    rw [g0, g1, g2, g3, g4, Int.toNat_of_nonneg u0.1, Int.toNat_of_nonneg u1.1, Int.toNat_of_nonneg u2.1, Int.toNat_of_nonneg u3.1]
  · exact ⟨by show n0.toNat < 256; omega, by show n1.toNat < 256; omega, by show n2.toNat < 256; omega, by show n3.toNat < 256; omega, u4.1, u4.2⟩
/-- a slice of instructions -/
theorem open_code {cs0 : List Value} {d : DataW H} (h : Tr enc Tryd.prog W 22 cs0 d) : ∃ (A : Option Addr) (cs : List Ins) (cap : Nat), cs0 = [.slice A cs.length cap] ∧ cs.length ≤ cap ∧ cap ≤ maxLen ∧ Cl W A (codeCells cs) ∧ ∀ x ∈ cs, x.ok := by
  obtain ⟨A, ess, ds, cap, h1, h2, h3, h4, h5, h6, _⟩ := tr_slice Tryd.underlying22 cells45 h
  obtain ⟨cs, hcs, hd⟩ := tr_list Ins.cells (fun x _ => x.ok) ess ds h4 (fun i es hi => by
    obtain ⟨_, d', hd', htr⟩ := h5 i es hi
    obtain ⟨x, hx, hok⟩ := open_ins htr
    exact ⟨d', hd', x, hx, hok⟩)
  subst hcs
  simp only [List.length_map] at h1 h2
  refine ⟨A, cs, cap, h1, h2, h3, fun q v hq => ?_, fun x hx => ?_⟩
  · have hlt : q < cs.length * 5 := by
      rw [← codeCells_length]
      exact (List.getElem?_eq_some_iff.1 hq).1
    have hi : q / 5 < cs.length := by omega
    have hx : cs[q / 5]? = some cs[q / 5] := List.getElem?_eq_getElem hi
    have hc := codeCells_get cs (q / 5) (q % 5) _ hx (by omega)
    rw [show q / 5 * 5 + q % 5 = q by omega, hq] at hc
    have := h6 (q / 5) (q % 5) v _ (by simp [hx]) hc.symm
    rwa [show q / 5 * 5 + q % 5 = q by omega] at this
  · obtain ⟨i, hi⟩ := List.getElem?_of_mem hx
    obtain ⟨_, _, hok⟩ := hd i x hi
    exact hok
/-- sixteen registers -/
theorem open_regs {cs : List Value} {d : DataW H} (h : Tr enc Tryd.prog W 24 cs d) : ∃ r : Nat → Int, cs = regCells r ∧ ∀ i, i < 16 → In64 (r i) := by
  obtain ⟨ds, _, hl, _, hf⟩ := tr_array Tryd.underlying24 h
  rw [cells24] at hl
  have hall : ∀ j : Nat, ∃ n : Int, j < 16 → cs[j]? = some (.int .i64 n) ∧ In64 n := by
    intro j
    by_cases hj : j < 16
    · obtain ⟨d', _, h1⟩ := hf j hj
      rw [cells2, Nat.mul_one] at h1
      have hc : cs[j]? = some (cs[j]'(by omega)) := List.getElem?_eq_getElem _
      obtain ⟨n, h2, _, hw⟩ := tr_int Tryd.underlying2 (tr_field h1 rfl hc)
      simp only [List.cons.injEq, and_true] at h2
      exact ⟨n, fun _ => ⟨by rw [hc, h2], wf_i64 hw⟩⟩
    · exact ⟨0, fun h => absurd h hj⟩
  refine ⟨fun j => Classical.choose (hall j), ?_, fun i hi => (Classical.choose_spec (hall i) hi).2⟩
  apply List.ext_getElem?
  intro i
  rcases Nat.lt_or_ge i 16 with hi | hi
  · rw [(Classical.choose_spec (hall i) hi).1, regCells_get _ _ hi]
  · rw [List.getElem?_eq_none (by omega), List.getElem?_eq_none (by rw [regCells_length]; exact hi)]
/-- a machine -/
theorem open_mach {v : Value} {d : DataW H} {ps : List MemPlace} {base0 : Nat} {rr : Reach} (hok : Value.okWide Tryd.prog W rr base0 26 v) (h : DataW.Trod enc Tryd.prog W 0 (fun _ => true) true 26 v d ps) :
    ∃ (A : Option Addr) (cs : List Ins) (cap : Nat) (M : Option Addr) (xs : List Int) (mcap : Nat) (fixed : Int) (r : Nat → Int) (pc : Int), v = .agg (machCells (.slice A cs.length cap) (.slice M xs.length mcap) fixed r pc).toArray ∧
      cs.length ≤ cap ∧ cap ≤ maxLen ∧ Cl W A (codeCells cs) ∧ (∀ x ∈ cs, x.ok) ∧ xs.length ≤ mcap ∧ mcap ≤ maxLen ∧ Cl W M (ints xs) ∧ (∀ n ∈ xs, In64 n) ∧ In64 fixed ∧ (∀ i, i < 16 → In64 (r i)) ∧ In64 pc := by
  obtain ⟨arr, rfl, hsz⟩ := okWide_struct Tryd.underlying26 hok
  have htr : Tr enc Tryd.prog W 26 arr.toList d := tr_of h
  rw [cells26] at hsz
  obtain ⟨ds, _, _, _, hf⟩ := tr_struct Tryd.underlying26 htr
  obtain ⟨d0, _, h0⟩ := hf 0 _ rfl
  obtain ⟨d1, _, h1⟩ := hf 1 _ rfl
  obtain ⟨d2, _, h2⟩ := hf 2 _ rfl
  obtain ⟨d3, _, h3⟩ := hf 3 _ rfl
  obtain ⟨d4, _, h4⟩ := hf 4 _ rfl
  have hl : arr.toList.length = 20 := by simpa using hsz
  obtain ⟨A, cs, cap, e0, hc1, hc2, hcl, hck⟩ := open_code h0
  obtain ⟨M, xs, mcap, e1, hm1, hm2, hml, hmw, _⟩ := tr_ints Tryd.underlying23 Tryd.underlying2 cells2 h1
  obtain ⟨fixed, e2, _, wfx⟩ := tr_int Tryd.underlying3 h2
  obtain ⟨r, e3, hr⟩ := open_regs h3
  obtain ⟨pc, e4, _, wpc⟩ := tr_int Tryd.underlying3 h4
  refine ⟨A, cs, cap, M, xs, mcap, fixed, r, pc, ?_, hc1, hc2, hcl, hck, hm1, hm2, hml, fun n hn => wf_i64 (hmw n hn), wf_i64 wfx, hr, wf_i64 wpc⟩
  congr 1
  apply Array.toList_inj.1
  show arr.toList = machCells _ _ _ _ _
  generalize arr.toList = l at *
  have f0 : (l.drop 0).take 1 = [.slice A cs.length cap] := e0
  have f1 : (l.drop 1).take 1 = [.slice M xs.length mcap] := e1
  have f2 : (l.drop 2).take 1 = [.int .i64 fixed] := e2
  have f3 : (l.drop 3).take 16 = regCells r := e3
  have f4 : (l.drop 19).take 1 = [.int .i64 pc] := e4
  have k : l = (l.drop 0).take 1 ++ ((l.drop 1).take 1 ++ ((l.drop 2).take 1 ++ ((l.drop 3).take 16 ++ (l.drop 19).take 1))) := by
    have t : ∀ (n m : Nat), l.drop n = (l.drop n).take m ++ l.drop (n + m) := fun n m => by
      conv => lhs; rw [← List.take_append_drop m (l.drop n)]
      rw [List.drop_drop]
    have z : l.drop 20 = [] := List.drop_eq_nil_of_le (by omega)
    conv => lhs; rw [← List.drop_zero (l := l), t 0 1, t 1 1, t 2 1, t 3 16, t 19 1, z, List.append_nil]
  rw [k, f0, f1, f2, f3, f4]
  simp [machCells]
end
/-- an instruction's cells, where it lies -/
theorem code_at {w : World} {A : Option Addr} {cs : List Ins} {k : Nat} {x : Ins} (hcode : Cl w A (codeCells cs)) (hx : cs[k]? = some x) : ∃ ad, A = some ad ∧ ∀ W, Ch No w W → ∀ j : Nat, j < 5 → W.cell? ((ad.add (k * 5)).add j) = x.cells[j]? := by
  have hget : ∀ j, j < 5 → ∃ v, (codeCells cs)[k * 5 + j]? = some v ∧ x.cells[j]? = some v := fun j hj => by
    have h1 := codeCells_get cs k j x hx hj
    have h2 : x.cells[j]? = some (x.cells[j]'hj) := List.getElem?_eq_getElem _
    exact ⟨_, h1.trans h2, h2⟩
  obtain ⟨v0, h3, _⟩ := hget 0 (by omega)
  obtain ⟨ad, rfl, _⟩ := hcode _ _ h3
  refine ⟨ad, rfl, fun W hW j hj => ?_⟩
  obtain ⟨v, h4, h5⟩ := hget j hj
  obtain ⟨ad', e', h6⟩ := (hcode.keepNo hW) _ _ h4
  cases e'
  rw [add_add, h5]
  exact h6
end Go.Proofs.YtellmlffkgfeiaaDoor
