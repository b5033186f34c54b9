/- fits: may a port stand so? the program's. -/
import Derived.Test.YtlokpcbiomjcnaaF6
import Derived.Laws.EntriesVeiled
set_option linter.unusedVariables false
set_option linter.unusedSimpArgs false
namespace Go.Proofs.Ytlokpcbiomjcnaa
open Go.RowKit
theorem offsize_calls (A : Option Addr) (l c b : Nat) (size : Int) (w : World) (hl : l ≤ 9223372036854775807) (hc : w.cell? ⟨b, 3, none⟩ = some (.int .i64 size)) :
    Calls Try.prog 58 #[.slice A l c, .pointer (some ⟨b, 0, none⟩)] w fun e w' => e = .returned (.bool ((l : Int) != size)) ∧ Ch No w w' := by
  go_enter Try.func58, Try.ntmps58
  go_wp2_with (fail)
  exact bodyPost_ret (v := .bool ((l : Int) != size)) (by kernel_rfl) rfl ⟨rfl, Ch.refl _ _⟩
/-- is there a message of another length? -/
def offSize (size : Int) (q : List (List Int)) : Bool := q.any fun m => (m.length : Int) != size
set_option maxHeartbeats 4000000 in
theorem indexfunc_calls {w : World} {A : Option Addr} {n cap b : Nat} {ms : List Value} {q : List (List Int)} {size : Int} (hn : n = q.length) (hn63 : n ≤ 9223372036854775807) (hml : ms.length = q.length) (hq : Cl w A ms) (hqs : ∀ (i : Nat) m xs, ms[i]? = some m → q[i]? = some xs → Sl w m xs) (hb : w.cell? ⟨b, 3, none⟩ = some (.int .i64 size)) :
    Calls Try.prog 59 #[.slice A n cap, .func (.func 58) #[] #[.pointer (some ⟨b, 0, none⟩)]] w fun e w' => ∃ r : Int, e = .returned (.int .i64 r) ∧ decide (0 ≤ r) = offSize size q ∧ Ch No w w' := by
  have HQ := Lib.hid hq
  have HQS := Lib.hid hqs
  have HML := Lib.hid hml
  have HN := Lib.hid hn
  have HB := Lib.hid hb
  clear hn hml hq hqs hb
  go_enter Try.func59, Try.ntmps59
  go_wp2_with (fail)
  go_loopw [8] (fun i wr => ∃ j : Nat, j ≤ n ∧ i = .int .i64 j ∧ Hid (Ch No w wr) ∧ Hid (∀ k xs, k < j → q[k]? = some xs → ((xs.length : Int) != size) = false)) (fun i _ => n - (intOf i).toNat)
  case atStart => exact ⟨0, by omega, rfl, Ch.refl _ _, fun k xs hk => absurd hk (by omega)⟩
  case round =>
    obtain ⟨j, hj, rfl, HC, HD⟩ := hrel
    by_cases hlt : j < n
    · have d0 : decide ((j : Int) < (n : Int)) = true := by simpa using hlt
      obtain ⟨xs, hxs⟩ : ∃ xs, q[j]? = some xs := ⟨_, List.getElem?_eq_getElem (by have := HN.out; omega)⟩
      obtain ⟨m, hm⟩ : ∃ m, ms[j]? = some m := ⟨_, List.getElem?_eq_getElem (by have := HN.out; have := HML.out; omega)⟩
      obtain ⟨ga, rfl, hca⟩ := HQ.out j m hm
      obtain ⟨Am, cm, rfl, -, hl63⟩ := HQS.out j m xs hm hxs
      have hca' : wr.cell? (ga.add j) = some (.slice Am xs.length cm) := HC.out.cell (not_no _) hca
      have HXS := Lib.hid hxs
      obtain ⟨xl, hxl⟩ : ∃ l, xs.length = l := ⟨_, rfl⟩
      have HXL := Lib.hid hxl
      have HCL := Lib.hid (offsize_calls Am xs.length cm b size wr hl63 (HC.out.cell (a := ⟨b, 3, none⟩) (not_no _) HB.out))
      rw [hxl] at hca' hl63 HCL
      clear hxs hm hca hxl
      go_wp2_with (fail)
      refine HCL.out.mono ?_
      rintro e w2 ⟨rfl, hch⟩
      have HC2 := Lib.hid (HC.out.then_ hch)
      clear hch hca'
      cases hD : ((xl : Int) != size)
      · have HD' : Hid (∀ k ys, k < j + 1 → q[k]? = some ys → ((ys.length : Int) != size) = false) := fun k ys hk hy => by
          by_cases e : k = j
          · subst e
            obtain rfl : xs = ys := Option.some.inj (HXS.out.symm.trans hy)
            rw [HXL.out]
            exact hD
          · exact HD.out k ys (by omega) hy
        clear hD
        go_wp2_with (fail)
        go_roundw
        · exact ⟨j + 1, by omega, by go_num, HC2, HD'⟩
        · simp [intOf]; omega
      · have HE : Hid (offSize size q = true) := by
          show offSize size q = true
          unfold offSize
          rw [List.any_eq_true]
          exact ⟨xs, List.mem_of_getElem? HXS.out, by rw [HXL.out]; exact hD⟩
        clear hD
        go_wp2_with (fail)
        exact bodyPost_ret (v := .int .i64 (j : Int)) (by kernel_rfl) rfl ⟨_, rfl, by rw [HE.out]; simp, HC2.out⟩
    · have d0 : decide ((j : Int) < (n : Int)) = false := by simp; omega
      have HE : Hid (offSize size q = false) := by
        show offSize size q = false
        unfold offSize
        rw [List.any_eq_false]
        intro xs hx
        obtain ⟨k, hk⟩ := List.getElem?_of_mem hx
        have hkl := (List.getElem?_eq_some_iff.1 hk).1
        have h := HD.out k xs (by have := HN.out; omega) hk
        rw [h]
        simp
      go_wp2_with (fail)
      exact bodyPost_ret (v := .int .i64 (-1)) (by kernel_rfl) rfl ⟨_, rfl, by rw [HE.out]; rfl, HC.out⟩
theorem contains_calls {w : World} {A : Option Addr} {n cap b : Nat} {ms : List Value} {q : List (List Int)} {size : Int} (hn : n = q.length) (hn63 : n ≤ 9223372036854775807) (hml : ms.length = q.length) (hq : Cl w A ms) (hqs : ∀ (i : Nat) m xs, ms[i]? = some m → q[i]? = some xs → Sl w m xs) (hb : w.cell? ⟨b, 3, none⟩ = some (.int .i64 size)) :
    Calls Try.prog 57 #[.slice A n cap, .func (.func 58) #[] #[.pointer (some ⟨b, 0, none⟩)]] w fun e w' => e = .returned (.bool (offSize size q)) ∧ Ch No w w' := by
  have H := Lib.hid (indexfunc_calls (cap := cap) hn hn63 hml hq hqs hb)
  clear hn hml hq hqs hb
  go_enter Try.func57, Try.ntmps57
  go_wp2_with (fail)
  refine H.out.mono ?_
  rintro e w2 ⟨r, rfl, hr, hc⟩
  have HC := Lib.hid hc
  have HRR := Lib.hid hr
  clear hr hc
  go_wp2_with (fail)
  exact bodyPost_ret (v := .bool (decide (0 ≤ r))) (by kernel_rfl) rfl ⟨by rw [HRR.out], HC.out⟩
end Go.Proofs.Ytlokpcbiomjcnaa
