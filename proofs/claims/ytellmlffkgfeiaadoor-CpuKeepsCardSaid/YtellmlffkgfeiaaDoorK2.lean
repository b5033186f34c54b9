/- CpuKeeps, whatever the machine. -/
import Derived.Test.YtellmlffkgfeiaaDoorK1n
import Derived.Test.YtellmlffkgfeiaaDoorK1c
import Derived.Test.YtellmlffkgfeiaaDoorK1s
import Derived.Test.YtellmlffkgfeiaaDoorOM
set_option linter.unusedVariables false
set_option linter.unusedSimpArgs false
namespace Go.Proofs.YtellmlffkgfeiaaDoor
open Go.RowKit
theorem keeps_calls (A : Option Addr) (cs : List Ins) (cap : Nat) (hl : cs.length ≤ 9223372036854775807) (hcs : ∀ x ∈ cs, x.ok) (M : Option Addr) (xs : List Int) (mcap : Nat) (hm : xs.length ≤ 9223372036854775807) (hmc : xs.length ≤ mcap) (fixed : Int) (r : Nat → Int) (hin : ∀ i, i < 16 → In64 (r i)) (pc : Int) (w : World)
    (hcode : Cl w A (codeCells cs)) (hM : Cl w M (ints xs)) (hg : Glob w) :
    Calls Tryd.prog 6 #[.agg (machCells (.slice A cs.length cap) (.slice M xs.length mcap) fixed r pc).toArray] w fun e w' => e = .returned (.bool true) ∧ Ch No w w' := by
  rcases stepF_cases cs xs fixed r pc with ⟨k, x, rfl, hx, hleg, hF⟩ | hF
  · have hk : k < cs.length := (List.getElem?_eq_some_iff.1 hx).1
    obtain ⟨ad, hA, hcx⟩ := code_at hcode hx
    have hxo : x.ok := hcs x (List.mem_of_getElem? hx)
    have ha16 := (legal_regs (show legal x.op x.a x.b x.c x.n = true from hleg)).2.2.1
    have hFF : (stepF cs xs fixed r k).fault = 0 ∧ 0 ≤ (stepF cs xs fixed r k).call ∧ (stepF cs xs fixed r k).call < 28 ∧ 0 ≤ (stepF cs xs fixed r k).pc ∧ (stepF cs xs fixed r k).pc ≤ cs.length := ⟨hF.fault, hF.call0, hF.call1, hF.pc0, hF.pc1⟩
    rcases hF.way with hw | ⟨s1, h6, s2, s3, s4, s5, s6⟩
    · by_cases h26 : x.op = 26
      · exact keeps_call A cs cap hl hcs M xs mcap hm hmc fixed r hin k w hcode hM hg _ rfl hk x hxo hleg ad hA hcx hFF hF.same hw h26
      · exact keeps_plain A cs cap hl hcs M xs mcap hm hmc fixed r hin k w hcode hM hg _ rfl hk x hxo hleg ad hA hcx hFF hF.same hw h26
    · exact keeps_store A cs cap hl hcs M xs mcap hm hmc fixed r hin k w hcode hM hg _ rfl hk x hxo hleg ad hA hcx hFF hF.same ⟨s1, s2, s3, s4, s5, s6⟩ h6 ha16 (by omega)
  · exact keeps_faulty A cs cap hl hcs M xs mcap hm hmc fixed r hin pc w hcode hM hg _ rfl hF
end Go.Proofs.YtellmlffkgfeiaaDoor
