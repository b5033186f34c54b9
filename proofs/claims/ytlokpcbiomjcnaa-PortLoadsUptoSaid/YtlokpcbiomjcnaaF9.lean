/- fits: the document's. -/
import Derived.Test.YtlokpcbiomjcnaaF8
set_option linter.unusedVariables false
set_option linter.unusedSimpArgs false
namespace Go.Proofs.Ytlokpcbiomjcnaa
open Go.RowKit
set_option maxHeartbeats 4000000 in
set_option maxRecDepth 100000 in
theorem rfits_calls {w : World} (part kind size depth refresh : Int) (out : Bool) {Aq Ad : Option Addr} {ql cq dl cd : Nat} {has : Bool} {tick lost : Int} {ms : List Value} {q : List (List Int)} {data : List Int} (hql : ql = q.length) (hdl : dl = data.length) (hq63 : ql ≤ 9223372036854775807) (hd63 : dl ≤ 9223372036854775807) (hml : ms.length = q.length) (hq : Cl w Aq ms) (hqs : ∀ (i : Nat) m xs, ms[i]? = some m → q[i]? = some xs → Sl w m xs) :
    Calls Try.prog 28 #[PT part kind size depth refresh out, .agg #[.slice Aq ql cq, .bool has, .int .i64 tick, .slice Ad dl cd, .int .i64 lost]] w fun e w' => e = .returned (.bool (fitsS kind size depth ⟨q, has, tick, data, lost⟩)) ∧ Ch No w w' := by
  have HQ := Lib.hid hq
  have HQS := Lib.hid hqs
  have HML := Lib.hid hml
  have HQL := Lib.hid hql
  have HC1 : Hid (Ch No w ((w.alloc (.cells #[.int .i64 part, .int .i64 kind, .bool out, .int .i64 size, .int .i64 depth, .int .i64 refresh] 46)).alloc (.cells #[.slice Aq ql cq, .bool has, .int .i64 tick, .slice Ad dl cd, .int .i64 lost] 36))) := ((Ch.refl _ _).alloc _).alloc _
  have HB1 : Hid (Row ((w.alloc (.cells #[.int .i64 part, .int .i64 kind, .bool out, .int .i64 size, .int .i64 depth, .int .i64 refresh] 46)).alloc (.cells #[.slice Aq ql cq, .bool has, .int .i64 tick, .slice Ad dl cd, .int .i64 lost] 36)) w.heap.size 46 [.int .i64 part, .int .i64 kind, .bool out, .int .i64 size, .int .i64 depth, .int .i64 refresh]) := (Row.new w 46 [.int .i64 part, .int .i64 kind, .bool out, .int .i64 size, .int .i64 depth, .int .i64 refresh]).alloc _
  have HS1 : Hid (Row ((w.alloc (.cells #[.int .i64 part, .int .i64 kind, .bool out, .int .i64 size, .int .i64 depth, .int .i64 refresh] 46)).alloc (.cells #[.slice Aq ql cq, .bool has, .int .i64 tick, .slice Ad dl cd, .int .i64 lost] 36)) (w.heap.size + 1) 36 [.slice Aq ql cq, .bool has, .int .i64 tick, .slice Ad dl cd, .int .i64 lost]) := Row.new_at (w.alloc (.cells #[.int .i64 part, .int .i64 kind, .bool out, .int .i64 size, .int .i64 depth, .int .i64 refresh] 46)) 36 [.slice Aq ql cq, .bool has, .int .i64 tick, .slice Ad dl cd, .int .i64 lost] (by simp)
  unfold PT fitsS
  simp only []
  rw [← hql, ← hdl]
  clear hq hqs hml hql hdl
  by_cases hk : kind = 0
  · subst hk
    rw [if_pos rfl]
    cases has with
    | false =>
      go_enter Try.func28, Try.ntmps28
      go_wp2_with (fail)
      exact bodyPost_ret (v := .bool true) (by kernel_rfl) rfl ⟨rfl, HC1.out⟩
    | true =>
      go_enter Try.func28, Try.ntmps28
      go_wp2_with (fail)
      exact bodyPost_ret (v := .bool ((dl : Int) == size)) (by kernel_rfl) rfl ⟨by simp, HC1.out⟩
  · rw [if_neg hk]
    have hb : (kind == 0) = false := by simp [hk]
    obtain ⟨res, hres⟩ : ∃ b, (decide ((ql : Int) ≤ depth) && !offSize size q) = b := ⟨_, rfl⟩
    rw [hres]
    have HRES := Lib.hid hres
    clear hk hres
    go_enter Try.func28, Try.ntmps28
    go_upto_region 3 with (fail)
    generalize ((w.alloc (.cells #[.int .i64 part, .int .i64 kind, .bool out, .int .i64 size, .int .i64 depth, .int .i64 refresh] 46)).alloc (.cells #[.slice Aq ql cq, .bool has, .int .i64 tick, .slice Ad dl cd, .int .i64 lost] 36)) = w1 at *
    obtain ⟨S, hS⟩ : ∃ S, S = w.heap.size + 1 := ⟨_, rfl⟩
    rw [← hS] at HS1 ⊢
    obtain ⟨B, hB⟩ : ∃ B, B = w.heap.size := ⟨_, rfl⟩
    rw [← hB] at HB1 ⊢
    clear hS hB
    go_wp2_with (fail)
    go_loopw [5] (fun i wr => ∃ j : Nat, j ≤ ql ∧ i = .int .i64 j ∧ Hid (Ch No w1 wr) ∧ Hid (∀ k xs, k < j → q[k]? = some xs → ((xs.length : Int) != size) = false)) (fun i _ => ql - (intOf i).toNat)
    case atStart => exact ⟨0, Nat.zero_le _, rfl, Ch.refl _ _, fun k xs hk => absurd hk (by omega)⟩
    case round =>
      obtain ⟨j, hj, rfl, HC, HD⟩ := hrel
      have s0 : wr.cell? ⟨S, 0, none⟩ = some (.slice Aq ql cq) := (HS1.out.keepNo HC.out).cell 0
      have b3 : wr.cell? ⟨B, 3, none⟩ = some (.int .i64 size) := (HB1.out.keepNo HC.out).cell 3
      have b4 : wr.cell? ⟨B, 4, none⟩ = some (.int .i64 depth) := (HB1.out.keepNo HC.out).cell 4
      by_cases hlt : j < ql
      · have d0 : decide ((j : Int) < (ql : Int)) = true := by simp; omega
        obtain ⟨xs, hxs⟩ : ∃ xs, q[j]? = some xs := ⟨_, List.getElem?_eq_getElem (by have := HQL.out; omega)⟩
        obtain ⟨m, hm⟩ : ∃ m, ms[j]? = some m := ⟨_, List.getElem?_eq_getElem (by have := HQL.out; have := HML.out; omega)⟩
        obtain ⟨ga, rfl, hca⟩ := HQ.out j m hm
        obtain ⟨Am, cm, rfl, -, hl63⟩ := HQS.out j m xs hm hxs
        have hca' : wr.cell? (ga.add j) = some (.slice Am xs.length cm) := (HC1.out.then_ HC.out).cell (not_no _) hca
        have HXS := Lib.hid hxs
        obtain ⟨xl, hxl⟩ : ∃ l, xs.length = l := ⟨_, rfl⟩
        have HXL := Lib.hid hxl
        rw [hxl] at hca' hl63
        clear hxs hm hca hxl
        cases hD : ((xl : Int) != size)
        · have HD' : Hid (∀ k ys, k < j + 1 → q[k]? = some ys → ((ys.length : Int) != size) = false) := fun k ys hk hy => by
            by_cases e : k = j
            · subst e
              obtain rfl : xs = ys := Option.some.inj (HXS.out.symm.trans hy)
              rw [HXL.out]
              exact hD
            · exact HD.out k ys (by omega) hy
          go_wp2_with (fail)
          go_quiet (fail)
          go_wp2_with (fail)
          exact ⟨⟨j + 1, by omega, by go_num, HC.out.then_ ((Ch.refl No _).drewN _), HD'⟩, by simp [intOf]; omega⟩
        · have HE : Hid (res = false) := by
            show res = false
            rw [← HRES.out]
            have h1 : offSize size q = true := by
              unfold offSize
              rw [List.any_eq_true]
              exact ⟨xs, List.mem_of_getElem? HXS.out, by rw [HXL.out]; exact hD⟩
            rw [h1]
            simp
          go_wp2_with (fail)
          go_quiet (fail)
          go_wp2_with (fail)
          exact bodyPost_ret (v := .bool false) (by kernel_rfl) rfl ⟨by rw [HE.out], (HC1.out.then_ HC.out).then_ ((Ch.refl No _).drewN _)⟩
      · have d0 : decide ((j : Int) < (ql : Int)) = false := by simp; omega
        have HE : Hid (res = decide ((ql : Int) ≤ depth)) := by
          show res = _
          rw [← HRES.out]
          have h1 : offSize size q = false := by
            unfold offSize
            rw [List.any_eq_false]
            intro xs hx
            obtain ⟨k, hk⟩ := List.getElem?_of_mem hx
            have hkl := (List.getElem?_eq_some_iff.1 hk).1
            have h := HD.out k xs (by have := HQL.out; omega) hk
            rw [h]
            simp
          rw [h1]
          simp
        go_wp2_with (fail)
        exact bodyPost_ret (v := .bool (decide ((ql : Int) ≤ depth))) (by kernel_rfl) rfl ⟨by rw [HE.out], HC1.out.then_ HC.out⟩
end Go.Proofs.Ytlokpcbiomjcnaa
