/- CpuRunIsSteps, whatever the numbers. -/
import Derived.Test.YtellmlffkgfeiaaDoorU5
set_option linter.unusedVariables false
set_option linter.unusedSimpArgs false
namespace Go.Proofs.YtellmlffkgfeiaaDoor
open Go.RowKit
set_option maxRecDepth 100000 in
set_option maxHeartbeats 4000000 in
theorem runsteps_out (v : List Value) (first second : Int) (w : World) (hbad : first < 0 ∨ second < 0 ∨ 3000 < first ∨ 3000 < second) (hg : Glob w) :
    Calls Tryd.prog 9 #[.agg v.toArray, .int .i64 first, .int .i64 second] w fun e w' => e = .returned (.bool true) ∧ Ch No w w' := by
  have HG := Lib.hid hg
  clear hg
  by_cases a1 : first < 0
  · clear hbad
    have d1 : decide (first < 0) = true := by simpa using a1
    go_enter Tryd.func9, Tryd.ntmps9
    go_wp2_with (go_at_call 18; refine (known_calls _ (HG.out.keep ((Ch.refl No w).alloc _) (not_no _))).mono ?_; rintro e w2 ⟨rfl, hc2⟩; have HC2 := Lib.hid hc2; clear hc2)
    go_ret
    exact ⟨rfl, ((Ch.refl No w).alloc _).then_ HC2.out⟩
  · have d1 : decide (first < 0) = false := by simpa using a1
    by_cases a2 : second < 0
    · clear hbad
      have d2 : decide (second < 0) = true := by simpa using a2
      go_enter Tryd.func9, Tryd.ntmps9
      go_wp2_with (go_at_call 18; refine (known_calls _ (HG.out.keep ((Ch.refl No w).alloc _) (not_no _))).mono ?_; rintro e w2 ⟨rfl, hc2⟩; have HC2 := Lib.hid hc2; clear hc2)
      go_ret
      exact ⟨rfl, ((Ch.refl No w).alloc _).then_ HC2.out⟩
    · have d2 : decide (second < 0) = false := by simpa using a2
      by_cases a3 : 3000 < first
      · clear hbad
        have d3 : decide (3000 < first) = true := by simpa using a3
        go_enter Tryd.func9, Tryd.ntmps9
        go_wp2_with (go_at_call 18; refine (known_calls _ (HG.out.keep ((Ch.refl No w).alloc _) (not_no _))).mono ?_; rintro e w2 ⟨rfl, hc2⟩; have HC2 := Lib.hid hc2; clear hc2)
        go_ret
        exact ⟨rfl, ((Ch.refl No w).alloc _).then_ HC2.out⟩
      · have d3 : decide (3000 < first) = false := by simpa using a3
        have a4 : 3000 < second := by omega
        clear hbad
        have d4 : decide (3000 < second) = true := by simpa using a4
        go_enter Tryd.func9, Tryd.ntmps9
        go_wp2_with (go_at_call 18; refine (known_calls _ (HG.out.keep ((Ch.refl No w).alloc _) (not_no _))).mono ?_; rintro e w2 ⟨rfl, hc2⟩; have HC2 := Lib.hid hc2; clear hc2)
        go_ret
        exact ⟨rfl, ((Ch.refl No w).alloc _).then_ HC2.out⟩
theorem runsteps_calls (A : Option Addr) (cs : List Ins) (cap : Nat) (hl : cs.length ≤ 9223372036854775807) (hcs : ∀ x ∈ cs, x.ok) (M : Option Addr) (xs : List Int) (mcap : Nat) (hm : xs.length * 8 ≤ 140737488355328) (hmc : xs.length ≤ mcap) (hxs : ∀ x ∈ xs, In64 x) (fixed : Int) (r : Nat → Int) (hin : ∀ i, i < 16 → In64 (r i)) (pc : Int)
    (first second : Int) (w : World) (hcode : Cl w A (codeCells cs)) (hM : Cl w M (ints xs)) (hg : Glob w) :
    Calls Tryd.prog 9 #[.agg (machCells (.slice A cs.length cap) (.slice M xs.length mcap) fixed r pc).toArray, .int .i64 first, .int .i64 second] w fun e w' => e = .returned (.bool true) ∧ Ch No w w' := by
  by_cases hbad : first < 0 ∨ second < 0 ∨ 3000 < first ∨ 3000 < second
  · exact runsteps_out _ first second w hbad hg
  · obtain ⟨f, rfl⟩ := Int.eq_ofNat_of_zero_le (show 0 ≤ first by omega)
    obtain ⟨s, rfl⟩ := Int.eq_ofNat_of_zero_le (show 0 ≤ second by omega)
    exact runsteps_in A cs cap hl hcs M xs mcap hm hmc hxs fixed r hin pc f s (by omega) (by omega) w hcode hM hg
end Go.Proofs.YtellmlffkgfeiaaDoor
