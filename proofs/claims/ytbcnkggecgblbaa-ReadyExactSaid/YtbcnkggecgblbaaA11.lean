/- the law's function 'works'. -/
import Derived.Test.YtbcnkggecgblbaaA10
set_option linter.unusedVariables false
set_option linter.unusedSimpArgs false
namespace Go.Proofs.Ytbcnkggecgblbaa
open Go.RowKit
set_option maxHeartbeats 4000000 in
theorem works_calls (w : World) : Calls Try.prog 9 #[] w fun e w' => e = .returned (.bool true) ∧ Ch No w w' := by
  go_enter Try.func9, Try.ntmps9
  go_wp2_with (fail)
  refine (new_ok 3 w (by omega) (by omega)).mono ?_
  rintro e w1 ⟨rfl, hl1, hc1⟩
  have HL1 := Lib.hid hl1
  have HC1 : Hid (Chl w.heap.size w w1) := Chl.of_no hc1
  clear hl1 hc1
  go_wp2_with (fail)
  refine (put_ok HL1.out 1 5 (by omega) (by omega)).mono ?_
  rintro e w2 ⟨rfl, ⟨v2, hl2⟩, hc2⟩
  have HL2 := Lib.hid hl2
  have HC2 := Lib.hid (HC1.out.trans hc2)
  clear hl2 hc2
  go_wp2_with (fail)
  refine (put_ok HL2.out 2 5 (by omega) (by omega)).mono ?_
  rintro e w3 ⟨rfl, ⟨v3, hl3⟩, hc3⟩
  have HL3 := Lib.hid hl3
  have HC3 := Lib.hid (HC2.out.trans hc3)
  clear hl3 hc3
  go_wp2_with (fail)
  refine (put_ok HL3.out 3 9 (by omega) (by omega)).mono ?_
  rintro e w4 ⟨rfl, ⟨v4, hl4⟩, hc4⟩
  have HL4 := Lib.hid hl4
  have HC4 := Lib.hid (HC3.out.trans hc4)
  clear hl4 hc4
  go_wp2_with (fail)
  refine (list_calls HL4.out).mono ?_
  rintro e w5 ⟨v5, rfl, ho5, hc5⟩
  have hE : ids (put 3 9 (put 2 5 (put 1 5 []))) = [3, 1, 2] := by decide
  rw [hE] at ho5
  have HO5 : Hid (Ol w4.heap.size w5 v5 [3, 1, 2]) := ⟨ho5, by simp⟩
  have HC5 := Lib.hid (HC4.out.then_ hc5)
  clear ho5 hc5
  have HR : Hid (Row (w5.alloc (.cells (ints [3, 1, 2]).toArray 3)) w5.heap.size 3 (ints [3, 1, 2])) := Row.new w5 3 _
  have HA : Hid (Ch No w5 (w5.alloc (.cells (ints [3, 1, 2]).toArray 3))) := (Ch.refl _ _).alloc _
  have HO6 := Lib.hid (HO5.out.keepNo HA.out)
  have HS6 : Hid (Sl (w5.alloc (.cells (ints [3, 1, 2]).toArray 3)) (.slice (some ⟨w5.heap.size, 0, none⟩) 3 3) [3, 1, 2]) := ⟨_, _, rfl, HR.out.cl0, by simp⟩
  go_wp2_with (fail)
  refine (same_calls HO6.out.sl HS6.out).mono ?_
  rintro e w6 ⟨rfl, hd⟩
  have HC6 := Lib.hid ((HC5.out.then_ HA.out).then_ hd.ch)
  clear hd
  go_wp2_with (fail)
  go_ret
  exact ⟨rfl, HC6.out.ch.no (fun k hk hd => by omega)⟩
end Go.Proofs.Ytbcnkggecgblbaa
