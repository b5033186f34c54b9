/- CpuRuns holds, where what it reads is of bulk at most 1048576: any number of instructions does what the document says; the arguments are left as they were; the table of the operations being what the program lays. -/
import Derived.Test.YtellmlffkgfeiaaDoorX3
import Derived.Test.YtellmlffkgfeiaaDoorBK
import Derived.Test.YtellmlffkgfeiaaDoorD
import Derived.Test.YtellmlffkgfeiaaDoorL
import Derived.Test.YtellmlffkgfeiaaDoorCards
import Derived.Test.YtellmlffkgfeiaaDoorTie
set_option linter.unusedVariables false
set_option linter.unusedSimpArgs false
namespace Go.Proofs.YtellmlffkgfeiaaDoor.fnCpuRuns
open Go.ChangeShapes Go.WideShapes Go.ChangeAt Go.RowKit
theorem own : ownKnob Tryd.prog.godebug = none := by kernel_rfl
theorem laidOut : laidOutB Tryd.prog = true := by kernel_rfl
theorem params_read : ∀ t ∈ Tryd.f8.params.toList, Tryd.prog.readableRec t = true ∧ t < Tryd.prog.types.size := by
  rw [Tryd.params8]
  intro t ht
  simp at ht
  rcases ht with rfl | rfl
  all_goals exact ⟨by kernel_rfl, of_decide_eq_true (by kernel_rfl)⟩
/-- WHAT THE WALK GIVES, FOR EVERY ARGUMENT AND EVERY WORLD THAT HOLDS THE TABLE -/
theorem contract (H : Type) (enc : TypeId × Value → H) (W : World) (base : Nat) (args : Array Value) (ds gs : List (DataW H)) (before : List MemPlace)
    (hval : ∀ (j : Nat) t v, Tryd.f8.params[j]? = some t → args[j]? = some v → Value.okWide Tryd.prog W .any base t v)
    (hW : DataW.Whole enc Tryd.prog Tryd.f8.params.toList Rows.cpuRunsSpec.vars false W args.toList ds gs before) (hk : Rows.uptoSmall H (ds ++ gs) = true) (hL : laidMetH Tryd.prog Rows.cpuRunsRow.laid W) :
    Calls Tryd.prog 8 args W fun e W' => ∃ v, e = .returned v ∧ Rows.cpuRunsSpec.post enc Tryd.prog Tryd.f8 false true false false W args v W' := by
  have hgl : Glob W := glob_of_laid hL
  have hW' := hW
  obtain ⟨p, q, hA0, hV, rfl, hfz, hnd⟩ := hW
  have hA : DataW.TrodAll enc Tryd.prog W 0 (fun _ => true) true Tryd.f8.params.toList args.toList ds p := hA0
  rw [Tryd.params8] at hA hval
  obtain ⟨v0, vs0, d0, ds0, p0, q0, hargs, rfl, rfl, h0, r0⟩ := trodAll_cons hA
  obtain ⟨v1, vs1, d1, ds1, p1, q1, rfl, rfl, rfl, h1, r1⟩ := trodAll_cons r0
  obtain ⟨rfl, rfl, rfl⟩ := trodAll_nil r1
  obtain rfl : args = #[v0, v1] := by cases args; simp_all
  obtain ⟨rfl, rfl⟩ := trodVars_none hV
  clear hA0
  simp only [List.append_nil] at hW'
  obtain ⟨A0, cs0, cap0, M0, xs0, mcap0, fx0, r0_, pc0, rfl, hc0, hcm0, hcode0, hcs0, hmc0, hmm0, hml0, hmw0, hfx0, hr0, hpc0⟩ := open_mach (hval 0 26 v0 rfl rfl) h0
  have hb0 := mach_bulk h0
  have hb := small_all hk
  simp only [List.cons_append, List.nil_append, List.append_nil, Rows.uptoBulkAll] at hb
  obtain ⟨x1, rfl, rfl, rfl, w1⟩ := open_int Tryd.underlying3 (hval 1 3 v1 rfl rfl) h1
  refine (runs_calls A0 cs0 cap0 (by omega) hcs0 M0 xs0 mcap0 (by omega) hmc0 hmw0 fx0 r0_ hr0 pc0 x1 W hcode0 hml0 hgl).mono fun e W' ⟨he, hch⟩ => ?_
  subst he
  exact ⟨_, rfl, post_law laidOut params_read rfl Tryd.underlying4 rfl hW' rfl rfl rfl hch⟩
/-- A WORLD FOR THE WITNESS: the settled one, the table (block 0) holding what its initialiser lays. -/
noncomputable def laidWorld (os : Os) : World :=
  { World.holding Tryd.prog os ⟨#[], #[], []⟩ with heap := (World.holding Tryd.prog os ⟨#[], #[], []⟩).heap.modify 0 fun
      | .cells _ t frozen => .cells #[.string ⟨#[]⟩, .string ⟨#[]⟩, .string ⟨#[110, 111, 112]⟩, .string ⟨#[]⟩, .string ⟨#[108, 100, 105]⟩, .string ⟨#[97, 110]⟩, .string ⟨#[108, 100, 104]⟩, .string ⟨#[97, 110]⟩, .string ⟨#[109, 111, 118]⟩, .string ⟨#[97, 98]⟩, .string ⟨#[108, 100]⟩, .string ⟨#[97, 98, 110]⟩, .string ⟨#[115, 116]⟩, .string ⟨#[97, 98, 110]⟩, .string ⟨#[97, 100, 100]⟩, .string ⟨#[97, 98, 99]⟩, .string ⟨#[115, 117, 98]⟩, .string ⟨#[97, 98, 99]⟩, .string ⟨#[109, 117, 108]⟩, .string ⟨#[97, 98, 99]⟩, .string ⟨#[100, 105, 118]⟩, .string ⟨#[97, 98, 99]⟩, .string ⟨#[109, 111, 100]⟩, .string ⟨#[97, 98, 99]⟩, .string ⟨#[97, 110, 100]⟩, .string ⟨#[97, 98, 99]⟩, .string ⟨#[111, 114]⟩, .string ⟨#[97, 98, 99]⟩, .string ⟨#[120, 111, 114]⟩, .string ⟨#[97, 98, 99]⟩, .string ⟨#[115, 104, 108]⟩, .string ⟨#[97, 98, 99]⟩, .string ⟨#[115, 104, 114]⟩, .string ⟨#[97, 98, 99]⟩, .string ⟨#[115, 97, 114]⟩, .string ⟨#[97, 98, 99]⟩, .string ⟨#[97, 100, 100, 105]⟩, .string ⟨#[97, 98, 110]⟩, .string ⟨#[115, 108, 116]⟩, .string ⟨#[97, 98, 99]⟩, .string ⟨#[115, 108, 116, 117]⟩, .string ⟨#[97, 98, 99]⟩, .string ⟨#[115, 101, 113]⟩, .string ⟨#[97, 98, 99]⟩, .string ⟨#[106, 109, 112]⟩, .string ⟨#[112]⟩, .string ⟨#[106, 122]⟩, .string ⟨#[97, 112]⟩, .string ⟨#[106, 110, 122]⟩, .string ⟨#[97, 112]⟩, .string ⟨#[106, 109, 114]⟩, .string ⟨#[97]⟩, .string ⟨#[99, 97, 108, 108]⟩, .string ⟨#[112]⟩, .string ⟨#[115, 121, 115]⟩, .string ⟨#[110]⟩] t frozen
      | o => o }
theorem laid_met (os : Os) : laidMet Tryd.prog Rows.cpuRunsRow.laid ((laidWorld os).forCall (fun _ _ => 0) ⟨#[], #[.agg #[.slice none 0 0, .slice none 0 0, .int .i64 0, .int .i64 0, .int .i64 0, .int .i64 0, .int .i64 0, .int .i64 0, .int .i64 0, .int .i64 0, .int .i64 0, .int .i64 0, .int .i64 0, .int .i64 0, .int .i64 0, .int .i64 0, .int .i64 0, .int .i64 0, .int .i64 0, .int .i64 0], .int .i64 0], []⟩).memory :=
  laidMet_of_run' 8 (by kernel_rfl) (by kernel_rfl)
theorem reads (os : Os) {H : Type} (enc : TypeId × Value → H) : ∃ places, DataW.whole enc Tryd.prog ((laidWorld os).forCall (fun _ _ => 0) ⟨#[], #[.agg #[.slice none 0 0, .slice none 0 0, .int .i64 0, .int .i64 0, .int .i64 0, .int .i64 0, .int .i64 0, .int .i64 0, .int .i64 0, .int .i64 0, .int .i64 0, .int .i64 0, .int .i64 0, .int .i64 0, .int .i64 0, .int .i64 0, .int .i64 0, .int .i64 0, .int .i64 0, .int .i64 0], .int .i64 0], []⟩).memory Tryd.f8.params.toList Rows.cpuRunsSpec.vars false (#[.agg #[.slice none 0 0, .slice none 0 0, .int .i64 0, .int .i64 0, .int .i64 0, .int .i64 0, .int .i64 0, .int .i64 0, .int .i64 0, .int .i64 0, .int .i64 0, .int .i64 0, .int .i64 0, .int .i64 0, .int .i64 0, .int .i64 0, .int .i64 0, .int .i64 0, .int .i64 0, .int .i64 0], .int .i64 0] : Array Value).toList 8 = some ([.agg [.nil, .nil, .lit (.int .i64 0), .agg [.lit (.int .i64 0), .lit (.int .i64 0), .lit (.int .i64 0), .lit (.int .i64 0), .lit (.int .i64 0), .lit (.int .i64 0), .lit (.int .i64 0), .lit (.int .i64 0), .lit (.int .i64 0), .lit (.int .i64 0), .lit (.int .i64 0), .lit (.int .i64 0), .lit (.int .i64 0), .lit (.int .i64 0), .lit (.int .i64 0), .lit (.int .i64 0)], .lit (.int .i64 0)], .lit (.int .i64 0)], [], places) :=
  ⟨[], by kernel_rfl⟩
set_option maxRecDepth 100000 in
theorem lifted (os : Os) (started : os.Started) (H : Type) (enc : TypeId × Value → H) (F : Stop.Interp) :
    ReturnsInHanded {} Tryd.checked os 8 .any ((Rows.OpenSpec.upto Rows.cpuRunsSpec).preRow enc Tryd.prog Tryd.f8 Rows.cpuRunsUptoRow.domain false Rows.cpuRunsUptoRow.laid) (((Rows.OpenSpec.upto Rows.cpuRunsSpec).at F).post enc Tryd.prog Tryd.f8 false true false false) := by
  obtain ⟨places, hx⟩ := reads os enc
  refine returnsInHanded_of_row (C := Tryd.checked) (s := Rows.OpenSpec.upto Rows.cpuRunsSpec) own started (by kernel_rfl) Tryd.func8
    (witness_row_at (enc := enc) (C := Tryd.checked) false (laidWorld os) #[.agg #[.slice none 0 0, .slice none 0 0, .int .i64 0, .int .i64 0, .int .i64 0, .int .i64 0, .int .i64 0, .int .i64 0, .int .i64 0, .int .i64 0, .int .i64 0, .int .i64 0, .int .i64 0, .int .i64 0, .int .i64 0, .int .i64 0, .int .i64 0, .int .i64 0, .int .i64 0, .int .i64 0], .int .i64 0] rfl (by kernel_rfl) (by kernel_rfl) (by kernel_rfl)
      (OpenSpec.preRow_of_cond 8 hx (by kernel_rfl) (fun k hk => by cases hk; kernel_rfl) (by kernel_rfl) (laid_met os))) ?_
  intro W base args ds gs before hval hW _ hcond _ hL _ _
  exact contract H enc W base args ds gs before hval hW (hcond _ rfl) hL
theorem said : Rows.CpuRunsUptoSaid :=
  OpenClaim.holds_of_cond 8 Tryd.f8 rfl rfl rfl rfl rfl rfl rfl ⟨rfl, rfl, rfl, rfl, rfl⟩ rfl rfl rfl rfl rfl (by kernel_rfl) Tryd.func8 (by kernel_rfl)
    (of_decide_eq_true (by kernel_rfl)) (by unfold Func.isWrapper; first | (rw [if_pos (by decide +kernel)]; kernel_rfl) | (rw [if_neg (by decide +kernel)]; exact ⟨rfl, rfl⟩))
    (fun os started H enc _ F => by rw [OpenClaim.pre_eq_preRow]; exact lifted os started H enc F)
theorem plain (f : FuncId) (fn : Func) (hf : Tryd.pinned.checked.prog.funcNamed "bulkhead/bulkheadlaw06.CpuRuns" = some f) (hfn : Tryd.pinned.checked.prog.funcs[f]? = some fn) :
    false = Tryd.pinned.checked.prog.looks [] ∧ ∀ (j : Nat) t, fn.params[j]? = some t → Tryd.pinned.checked.prog.wantsStandIn t = false := by
  obtain rfl : f = 8 := Option.some.inj ((show Tryd.prog.funcNamed "bulkhead/bulkheadlaw06.CpuRuns" = some 8 by kernel_rfl).symm.trans hf) |>.symm
  obtain rfl : fn = Tryd.f8 := (Option.some.inj (Tryd.func8.symm.trans hfn)).symm
  refine ⟨by kernel_rfl, fun j t ht => ?_⟩
  rw [Tryd.params8] at ht
  have hm := Array.mem_of_getElem? ht
  simp only [List.mem_toArray, List.mem_cons, List.not_mem_nil, or_false] at hm
  rcases hm with rfl | rfl
  · exact (show Tryd.prog.wantsStandIn 26 = false by kernel_rfl)
  · exact (show Tryd.prog.wantsStandIn 3 = false by kernel_rfl)
/-- THE CARD -/
theorem card : Rows.CpuRunsUptoCardSaid :=
  Claim7.holds_tied_plain_at .later [] _ _ _ _ said (fun _ h => by cases h) (by kernel_rfl) (fun _ h => by cases h) cpuRunsUpto_row_tie rfl ⟨rfl, rfl⟩ (by kernel_rfl) rfl plain (by kernel_rfl)
end Go.Proofs.YtellmlffkgfeiaaDoor.fnCpuRuns
namespace Go.Proofs.YtellmlffkgfeiaaDoor
theorem cpuRunsUpto_card : Rows.CpuRunsUptoCardSaid := fnCpuRuns.card
end Go.Proofs.YtellmlffkgfeiaaDoor
