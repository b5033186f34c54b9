/- fits, used: the program's. -/
import Derived.Test.YtlokpcbiomjcnaaF7
set_option linter.unusedVariables false
set_option linter.unusedSimpArgs false
namespace Go.Proofs.Ytlokpcbiomjcnaa
open Go.RowKit
/-- may a port stand so? -/
def fitsS (kind size depth : Int) (s : Ps) : Bool := if kind = 0 then (!s.has || (s.data.length : Int) == size) else (decide ((s.q.length : Int) ≤ depth) && !offSize size s.q)
/-- what a port of that kind uses of a standing -/
def usedS (kind : Int) (s : Ps) : Ps where
  q := if kind = 0 then [] else s.q
  has := if kind = 1 ∨ s.has = false then false else s.has
  tick := if kind = 1 ∨ s.has = false then 0 else s.tick
  data := if kind = 1 ∨ s.has = false then [] else s.data
  lost := s.lost
def PT (part kind size depth refresh : Int) (out : Bool) : Value := .agg #[.int .i64 part, .int .i64 kind, .bool out, .int .i64 size, .int .i64 depth, .int .i64 refresh]
set_option maxHeartbeats 4000000 in
set_option maxRecDepth 100000 in
theorem fits_calls {w : World} (part kind size depth refresh : Int) (out : Bool) {Aq Ad : Option Addr} {ql cq dl cd : Nat} {has : Bool} {tick lost : Int} {ms : List Value} {q : List (List Int)} {data : List Int} (hql : ql = q.length) (hdl : dl = data.length) (hq63 : ql ≤ 9223372036854775807) (hd63 : dl ≤ 9223372036854775807) (hml : ms.length = q.length) (hq : Cl w Aq ms) (hqs : ∀ (i : Nat) m xs, ms[i]? = some m → q[i]? = some xs → Sl w m xs) :
    Calls Try.prog 51 #[PT part kind size depth refresh out, .agg #[.slice Aq ql cq, .bool has, .int .i64 tick, .slice Ad dl cd, .int .i64 lost]] w fun e w' => e = .returned (.bool (fitsS kind size depth ⟨q, has, tick, data, lost⟩)) ∧ Ch No w w' := by
  have HCO := Lib.hid (fun (w' : World) (b : Nat) (hc : Ch No w w') (hb : w'.cell? ⟨b, 3, none⟩ = some (.int .i64 size)) => contains_calls (w := w') (A := Aq) (n := ql) (cap := cq) (b := b) (ms := ms) (q := q) (size := size) hql hq63 hml (hq.keepNo hc) (fun i m xs hm hx => (hqs i m xs hm hx).keepNo hc) hb)
  have hmf : ∀ (fn : Fn) (first cap : Array Value) (w : World), (Instr.makeFunc fn first cap).run Try.prog w = .ok (.func fn first cap) w := fun _ _ _ _ => rfl
  have HC1 : Hid (Ch No w ((w.alloc (.cells #[.int .i64 part, .int .i64 kind, .bool out, .int .i64 size, .int .i64 depth, .int .i64 refresh] 46)).alloc (.cells #[.slice Aq ql cq, .bool has, .int .i64 tick, .slice Ad dl cd, .int .i64 lost] 36))) := ((Ch.refl _ _).alloc _).alloc _
  have HB1 : Hid (Row ((w.alloc (.cells #[.int .i64 part, .int .i64 kind, .bool out, .int .i64 size, .int .i64 depth, .int .i64 refresh] 46)).alloc (.cells #[.slice Aq ql cq, .bool has, .int .i64 tick, .slice Ad dl cd, .int .i64 lost] 36)) w.heap.size 46 [.int .i64 part, .int .i64 kind, .bool out, .int .i64 size, .int .i64 depth, .int .i64 refresh]) := (Row.new w 46 [.int .i64 part, .int .i64 kind, .bool out, .int .i64 size, .int .i64 depth, .int .i64 refresh]).alloc _
  unfold PT fitsS
  simp only []
  rw [← hql, ← hdl]
  clear hq hqs hml hql hdl
  by_cases hk : kind = 0
  · subst hk
    rw [if_pos rfl]
    cases has with
    | false =>
      go_enter Try.func51, Try.ntmps51
      go_wp2_with (fail)
      exact bodyPost_ret (v := .bool true) (by kernel_rfl) rfl ⟨rfl, HC1.out⟩
    | true =>
      go_enter Try.func51, Try.ntmps51
      go_wp2_with (fail)
      exact bodyPost_ret (v := .bool ((dl : Int) == size)) (by kernel_rfl) rfl ⟨by simp, HC1.out⟩
  · rw [if_neg hk]
    have hb : (kind == 0) = false := by simp [hk]
    clear hk
    by_cases hle : (ql : Int) ≤ depth
    · have e1 := decide_eq_true hle
      rw [e1]
      clear hle
      go_enter Try.func51, Try.ntmps51
      go_wp2_with (fail)
      refine (HCO.out _ w.heap.size HC1.out (by rw [HB1.out.cell]; rfl)).mono ?_
      rintro e w2 ⟨rfl, hc2⟩
      have HC2 := Lib.hid (HC1.out.then_ hc2)
      clear hc2
      cases hof : offSize size q
      · go_wp2_with (fail)
        exact bodyPost_ret (v := .bool true) (by kernel_rfl) rfl ⟨by rw [hof]; rfl, HC2.out⟩
      · go_wp2_with (fail)
        exact bodyPost_ret (v := .bool false) (by kernel_rfl) rfl ⟨by rw [hof]; rfl, HC2.out⟩
    · have e1 := decide_eq_false hle
      rw [e1]
      clear hle
      go_enter Try.func51, Try.ntmps51
      go_wp2_with (fail)
      exact bodyPost_ret (v := .bool false) (by kernel_rfl) rfl ⟨rfl, HC1.out⟩
/-- the cells of what is used -/
def usedC (kind : Int) (vq : Value) (has : Bool) (tick : Int) (vd : Value) (lost : Int) : List Value := [if kind = 0 then .slice none 0 0 else vq, .bool (if kind = 1 ∨ has = false then false else has), .int .i64 (if kind = 1 ∨ has = false then 0 else tick), if kind = 1 ∨ has = false then .slice none 0 0 else vd, .int .i64 lost]
set_option maxHeartbeats 4000000 in
set_option maxRecDepth 100000 in
theorem used_calls {w : World} (part kind size depth refresh : Int) (out : Bool) (hk : kind = 0 ∨ kind = 1) {Aq Ad : Option Addr} {ql cq dl cd : Nat} {has : Bool} {tick lost : Int} :
    Calls Try.prog 52 #[PT part kind size depth refresh out, .agg #[.slice Aq ql cq, .bool has, .int .i64 tick, .slice Ad dl cd, .int .i64 lost]] w fun e w' => e = .returned (.agg (usedC kind (.slice Aq ql cq) has tick (.slice Ad dl cd) lost).toArray) ∧ Ch No w w' := by
  unfold PT usedC
  rcases hk with rfl | rfl
  · rw [if_pos rfl]
    cases has with
    | false =>
      simp only [or_true, if_true]
      go_enter Try.func52, Try.ntmps52
      go_wp2_with (fail)
      exact bodyPost_ret (v := .agg #[.slice none 0 0, .bool false, .int .i64 0, .slice none 0 0, .int .i64 lost]) (results_row rfl _ _ (w.heap.size + 1 + 1) 36 [.slice none 0 0, .bool false, .int .i64 0, .slice none 0 0, .int .i64 lost] _ rfl (Row.new_at _ 36 [.slice none 0 0, .bool false, .int .i64 0, .slice none 0 0, .int .i64 lost] (by simp)) Try.underlying36 rfl size36) rfl ⟨rfl, (((Ch.refl _ _).alloc _).alloc _).alloc _⟩
    | true =>
      have e : ¬ ((0 : Int) = 1 ∨ true = false) := by simp
      simp only [if_neg e]
      go_enter Try.func52, Try.ntmps52
      go_wp2_with (fail)
      exact bodyPost_ret (v := .agg #[.slice none 0 0, .bool true, .int .i64 tick, .slice Ad dl cd, .int .i64 lost]) (results_row rfl _ _ (w.heap.size + 1 + 1) 36 [.slice none 0 0, .bool true, .int .i64 tick, .slice Ad dl cd, .int .i64 lost] _ rfl (Row.new_at _ 36 [.slice none 0 0, .bool true, .int .i64 tick, .slice Ad dl cd, .int .i64 lost] (by simp)) Try.underlying36 rfl size36) rfl ⟨rfl, (((Ch.refl _ _).alloc _).alloc _).alloc _⟩
  · have e : (1 : Int) = 1 ∨ has = false := .inl rfl
    have e0 : ¬ (1 : Int) = 0 := by decide
    rw [if_neg e0, if_pos e, if_pos e, if_pos e]
    clear e e0
    go_enter Try.func52, Try.ntmps52
    go_wp2_with (fail)
    exact bodyPost_ret (v := .agg #[.slice Aq ql cq, .bool false, .int .i64 0, .slice none 0 0, .int .i64 lost]) (results_row rfl _ _ (w.heap.size + 1 + 1) 36 [.slice Aq ql cq, .bool false, .int .i64 0, .slice none 0 0, .int .i64 lost] _ rfl (Row.new_at _ 36 [.slice Aq ql cq, .bool false, .int .i64 0, .slice none 0 0, .int .i64 lost] (by simp)) Try.underlying36 rfl size36) rfl ⟨rfl, (((Ch.refl _ _).alloc _).alloc _).alloc _⟩
end Go.Proofs.Ytlokpcbiomjcnaa
