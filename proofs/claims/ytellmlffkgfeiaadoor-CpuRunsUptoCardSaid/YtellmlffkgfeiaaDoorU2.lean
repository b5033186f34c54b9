/- cpu.Run: what it answers. -/
import Derived.Test.YtellmlffkgfeiaaDoorU0
import Derived.Test.YtellmlffkgfeiaaDoorU1
set_option linter.unusedVariables false
set_option linter.unusedSimpArgs false
namespace Go.Proofs.YtellmlffkgfeiaaDoor
open Go.RowKit
theorem eff_range {w : World} {g : Nat} {E : Eff} (h : Row w g 30 (effCells E)) : w.rangeAt g 0 (regCells E.r) := by
  intro j v hj
  have hlt : j < 16 := by
    have := (List.getElem?_eq_some_iff.1 hj).1
    rwa [regCells_length] at this
  rw [h.cell, Nat.zero_add, eff_get _ _ hlt, ← hj, regCells_get _ _ hlt]
theorem sizeR (r : Nat → Int) : (Tryd.prog.info? 24).map (·.size) = some (regCells r).length := by rw [regCells_length]; exact size24
theorem sizeE (E : Eff) : (Tryd.prog.info? 30).map (·.size) = some (effCells E).length := by rw [effCells_length]; exact size30
theorem lenE (E E' : Eff) : (effCells E').length = (effCells E).length := by rw [effCells_length, effCells_length]
/-- an owned row of numbers: as a slice -/
theorem owns_cl {w : World} {base : Nat} {v : Value} {xs : List Int} (h : w.ownsRow base 2 1 v (ints xs).length (ints xs)) : ∃ A cap, v = .slice A xs.length cap ∧ xs.length ≤ cap ∧ Cl w A (ints xs) := owns_ints rfl h
theorem owns_at {w : World} {base : Nat} {v : Value} {xs : List Int} (h : w.ownsRow base 2 1 v (ints xs).length (ints xs)) (k : Nat) (hk : k < xs.length) :
    ∃ g cap rest, v = .slice (some ⟨g, 0, none⟩) xs.length cap ∧ base ≤ g ∧ Row w g 2 (ints xs ++ rest) ∧ (ints xs).length + rest.length = cap ∧ cap ≤ maxLen ∧ w.cell? ⟨g, k, none⟩ = some (.int .i64 (rd xs k)) := by
  rcases owns_open h with ⟨_, h0⟩ | ⟨g, cap, rest, hv, hb, hr, hc, hm⟩
  · have := congrArg List.length h0
    rw [ints_length, List.length_nil] at this
    omega
  · rw [ints_length] at hv
    exact ⟨g, cap, rest, hv, hb, hr, hc, hm, row_rd hr k hk⟩
theorem set_ints (xs : List Int) (rest : List Value) (k : Nat) (hk : k < xs.length) (v : Int) : (ints xs ++ rest).set k (.int .i64 v) = ints (xs.set k v) ++ rest := by
  rw [List.set_append_left _ _ (by rw [ints_length]; exact hk)]
  congr 1
  simp [ints, List.map_set]
theorem owns_keep {D : Nat → Prop} {w w' : World} {base : Nat} {e : TypeId} {size n : Nat} {v : Value} {xs : List Value} (h : w.ownsRow base e size v n xs) (hc : Ch D w w') (hd : ∀ k, v.ownBlock = some k → ¬ D k) : w'.ownsRow base e size v n xs := by
  refine ⟨h.1, h.2.imp id ?_⟩
  rintro ⟨g, cap, cur, hv, hb, hg, hr⟩
  refine ⟨g, cap, cur, hv, hb, (hc.block g (Array.getElem?_eq_some_iff.1 hg).1 (hd g (by rw [hv]; rfl))).trans hg, hr⟩
theorem owns_keepNo {w w' : World} {base : Nat} {e : TypeId} {size n : Nat} {v : Value} {xs : List Value} (h : w.ownsRow base e size v n xs) (hc : Ch No w w') : w'.ownsRow base e size v n xs := owns_keep h hc (fun _ _ => not_no _)
theorem owns_keepIs {w w' : World} {base g : Nat} {e : TypeId} {size n : Nat} {v : Value} {xs : List Value} (h : w.ownsRow base e size v n xs) (hc : Ch (Is g) w w') (hne : ¬ v.ownBlock = some g) : w'.ownsRow base e size v n xs := owns_keep h hc (fun k hk he => hne (by rw [hk]; exact congrArg some he))
/-- an effect is made of registers and a place -/
theorem wpList_build2 {ops : Array Oper} {rest : List Oper} {o : Oper} {a : Act} {Q : Exit → Act → World → Prop} {w : World} (hw : Region.wanted o (yielded ops a.tmps) = true) (x y : Operand) (ho : o.op = .build 30 #[(0, x), (1, y)]) (r : Nat → Int) (pc : Int)
    (hx : a.eval x = .agg (regCells r).toArray) (hy : a.eval y = .int .i64 pc) (h : wpList Tryd.prog ops Q rest (a.put o.dst (.agg (effCells (eff0 r pc 0)).toArray)) w) : wpList Tryd.prog ops Q (o :: rest) a w := by
  obtain ⟨dst, op, ty, pos, after, guard⟩ := o
  simp only at ho
  subst ho
  refine wpList_value hw _ (exec_build ?_) h
  simp only [List.map_toArray, List.map_cons, List.map_nil, hx, hy]
  exact build_2 r pc w
/-- .. and a fault -/
theorem build_3' (r : Nat → Int) (pc f : Int) (w : World) : (Instr.build 30 #[(0, .agg (regCells r).toArray), (1, .int .i64 pc), (5, .int .i64 f)]).run Tryd.prog w = .ok (.agg (effCells (eff0 r pc f)).toArray) w := by kernel_rfl
theorem wpList_build3 {ops : Array Oper} {rest : List Oper} {o : Oper} {a : Act} {Q : Exit → Act → World → Prop} {w : World} (hw : Region.wanted o (yielded ops a.tmps) = true) (x y z : Operand) (ho : o.op = .build 30 #[(0, x), (1, y), (5, z)]) (r : Nat → Int) (pc f : Int)
    (hx : a.eval x = .agg (regCells r).toArray) (hy : a.eval y = .int .i64 pc) (hz : a.eval z = .int .i64 f) (h : wpList Tryd.prog ops Q rest (a.put o.dst (.agg (effCells (eff0 r pc f)).toArray)) w) : wpList Tryd.prog ops Q (o :: rest) a w := by
  obtain ⟨dst, op, ty, pos, after, guard⟩ := o
  simp only at ho
  subst ho
  refine wpList_value hw _ (exec_build ?_) h
  simp only [List.map_toArray, List.map_cons, List.map_nil, hx, hy, hz]
  exact build_3' r pc f w
end Go.Proofs.YtellmlffkgfeiaaDoor
