/- cpu.Step within the code, an instruction that is legal; cpu.Step anywhere. -/
import Derived.Test.YtellmlffkgfeiaaDoorC8a
set_option linter.unusedVariables false
set_option linter.unusedSimpArgs false
namespace Go.Proofs.YtellmlffkgfeiaaDoor
open Go.RowKit
set_option maxHeartbeats 400000 in
theorem step_ok_0 (ad : Addr) (len cap : Nat) (hl : len ≤ 9223372036854775807) (M : Option Addr) (xs : List Int) (mcap : Nat) (hm : xs.length ≤ 9223372036854775807) (hmc : xs.length ≤ mcap) (fixed : Int) (hf : fixed < 0) (r : Nat → Int) (hin : ∀ i, i < 16 → In64 (r i)) (k : Nat) (hk : k < len) (x : Ins) (hx : x.ok) (hleg : x.legal = true) (w : World)
    (hcode : ∀ j : Nat, j < 5 → w.cell? ((ad.add (k * 5)).add j) = x.cells[j]?) (hM : Cl w M (ints xs)) (hgl : Glob w) :
    Calls Tryd.prog 12 #[.slice (some ad) len cap, .slice M xs.length mcap, .int .i64 fixed, .agg (regCells r).toArray, .int .i64 (k : Int)] w fun e w' => e = .returned (.agg (effCells (insF x len xs fixed r k)).toArray) ∧ Ch No w w' := by
  have HI16 : Hid ((Tryd.prog.info? 24).map (·.size) = some (regCells r).length) := by rw [regCells_length]; exact size24
  have HE : ∀ E : Eff, (Tryd.prog.info? 30).map (·.size) = some (effCells E).length := fun E => by rw [effCells_length]; exact size30
  have HI22 := Lib.hid HE
  clear HE
  have HR16 : Hid (Row (w.alloc (.cells (regCells r).toArray 24)) w.heap.size 24 (regCells r)) := Row.new w 24 (regCells r)
  have HZ0 : Hid (Row ((w.alloc (.cells (regCells r).toArray 24)).alloc (.cells (effCells zeroEff).toArray 30)) (w.heap.size + 1) 30 (effCells zeroEff)) := Row.new_at _ 30 (effCells zeroEff) (by simp)
  have HP0 : Hid (Row (((w.alloc (.cells (regCells r).toArray 24)).alloc (.cells (effCells zeroEff).toArray 30)).alloc (.cells #[.slice (some ad) len cap, .slice M xs.length mcap, .int .i64 0] 54)) (w.heap.size + 1 + 1) 54 [.slice (some ad) len cap, .slice M xs.length mcap, .int .i64 0]) := Row.new_at _ 54 [.slice (some ad) len cap, .slice M xs.length mcap, .int .i64 0] (by simp)
  have HZ3 : Hid (Row ((((w.alloc (.cells (regCells r).toArray 24)).alloc (.cells (effCells zeroEff).toArray 30)).alloc (.cells #[.slice (some ad) len cap, .slice M xs.length mcap, .int .i64 0] 54)).alloc (.cells (effCells zeroEff).toArray 30)) (w.heap.size + 1 + 1 + 1) 30 (effCells zeroEff)) := Row.new_at _ 30 (effCells zeroEff) (by simp)
  have hk0 : decide ((k : Int) < 0) = false := by simp
  have hk1 : (0 : Int) ≤ (k : Int) := by omega
  have hk2 : (k : Int) < (len : Int) := by omega
  have hk3 : decide ((len : Int) ≤ (k : Int)) = false := by simp; omega
  have HW := Lib.hid (fun (w1 : World) (h : Ch No w w1) => (show ∀ j : Nat, j < 5 → w1.cell? ((ad.add (k * 5)).add j) = x.cells[j]? from fun j hj => by
    have h1 := hcode j hj
    have h2 : x.cells[j]? = some (x.cells[j]'hj) := List.getElem?_eq_getElem _
    rw [h2] at h1 ⊢
    exact h.cell (not_no _) h1))
  clear hcode
  have HHM := Lib.hid hM
  have HHG := Lib.hid hgl
  have HHI := Lib.hid hin
  have HHX := Lib.hid hx
  have HL : Hid (legal x.op x.a x.b x.c x.n = true) := hleg
  clear hM hgl hin hx hleg
  generalize hb : ad.add (k * 5) = b at *
  have HLEN : Hid ((effCells (eff0 r ((k : Int) + 1) 0)).length = (effCells zeroEff).length) := by show _ = _; rw [effCells_length, effCells_length]
  have hst : ∀ w5 : World, Ch (Is (w.heap.size + 1 + 1 + 1)) ((((w.alloc (.cells (regCells r).toArray 24)).alloc (.cells (effCells zeroEff).toArray 30)).alloc (.cells #[.slice (some ad) len cap, .slice M xs.length mcap, .int .i64 0] 54)).alloc (.cells (effCells zeroEff).toArray 30)) w5 →
      Hid (Ch No w w5) ∧ Hid (Row w5 (w.heap.size + 1 + 1) 54 [.slice (some ad) len cap, .slice M xs.length mcap, .int .i64 0]) ∧ Hid (Row w5 (w.heap.size + 1) 30 (effCells zeroEff)) ∧ w5.cell? b = some (.int .u8 x.op) ∧ w5.cell? ⟨b.block, b.off + 1, none⟩ = some (.int .u8 x.a) ∧ w5.cell? ⟨b.block, b.off + 2, none⟩ = some (.int .u8 x.b) ∧ w5.cell? ⟨b.block, b.off + 3, none⟩ = some (.int .u8 x.c) ∧ w5.cell? ⟨b.block, b.off + 4, none⟩ = some (.int .i32 x.n) := by
    intro w5 hc5
    have hC5 : Ch No w w5 := ((((Ch.refl No w).alloc _).alloc _).alloc _ |>.alloc _).trans hc5 (fun i hi he => by cases he; omega)
    have hj := HW.out w5 hC5
    refine ⟨hC5, (HP0.out.alloc _).keepIs hc5 (by omega), ((HZ0.out.alloc _).alloc _).keepIs hc5 (by omega), ?_, ?_, ?_, ?_, ?_⟩
    · have := hj 0 (by omega)
      rwa [add_zero] at this
    · have := hj 1 (by omega)
      rwa [addr_add] at this
    · have := hj 2 (by omega)
      rwa [addr_add] at this
    · have := hj 3 (by omega)
      rwa [addr_add] at this
    · have := hj 4 (by omega)
      rwa [addr_add] at this
  have HST := Lib.hid hst
  clear hst
  go_enter Tryd.func12, Tryd.ntmps12
  go_wp2_with (first | (refine wpList_load_agg (o := ⟨some 34, _, _, _, _, _⟩) rfl 24 (.tmp 8) rfl w.heap.size rfl 24 (regCells r) ((HR16.out.alloc _).alloc _) _ Tryd.underlying24 rfl HI16.out ?_) | (refine wpList_value (o := ⟨some 37, _, _, _, _, _⟩) rfl (.agg (effCells (eff0 r ((k : Int) + 1) 0)).toArray) (by kernel_rfl) ?_) | (refine wpList_store_agg (o := ⟨none, .store 30 (.tmp 12) (.tmp 37), _, _, _, _⟩) rfl 30 (.tmp 12) (.tmp 37) rfl (w.heap.size + 1 + 1 + 1) rfl 30 (effCells zeroEff) (effCells (eff0 r ((k : Int) + 1) 0)) rfl HZ3.out (HI22.out _) HLEN.out (eff_one _) ?_; intro w5 hr5 hc5; have HR5 := Lib.hid hr5; obtain ⟨HC5, HP5, HZ5, i0, i1, i2, i3, i4⟩ := HST.out w5 hc5; clear hr5 hc5) | (go_at_call 22; refine (legal_calls x.op x.a x.b x.c x.n HHX.out.1 _ (HHG.out.keep HC5.out (not_no _))).mono ?_; rintro e w6 ⟨rfl, hc6⟩; rw [HL.out]; have HC6 := Lib.hid (HC5.out.then_ hc6); have HR6 := Lib.hid (HR5.out.keepNo hc6); have HP6 := Lib.hid (HP5.out.keepNo hc6); have HZ6 := Lib.hid (HZ5.out.keepNo hc6); clear hc6 i0 i1 i2 i3 i4))
  have HS0 : Hid (Ch (Is (w.heap.size + 1 + 1 + 1)) w6 w6.drew) := (Ch.refl _ w6).drew
  have hne : b.block ≠ w.heap.size + 1 + 1 + 1 := by
    have h0 := HW.out w (Ch.refl _ _) 0 (by omega)
    rw [add_zero] at h0
    have := World.block_lt_of_cell? w _ h0
    omega
  have hco : ∀ w1 : World, Ch (Is (w.heap.size + 1 + 1 + 1)) w6 w1 → w1.cell? b = some (.int .u8 x.op) ∧ w1.cell? ⟨b.block, b.off + 1, none⟩ = some (.int .u8 x.a) ∧ w1.cell? ⟨b.block, b.off + 2, none⟩ = some (.int .u8 x.b) ∧ w1.cell? ⟨b.block, b.off + 3, none⟩ = some (.int .u8 x.c) ∧ w1.cell? ⟨b.block, b.off + 4, none⟩ = some (.int .i32 x.n) := by
    intro w1 h1
    have hj := HW.out w6 HC6.out
    refine ⟨h1.cell hne ?_, h1.cell hne ?_, h1.cell hne ?_, h1.cell hne ?_, h1.cell hne ?_⟩
    · have := hj 0 (by omega)
      rwa [add_zero] at this
    · have := hj 1 (by omega)
      rwa [addr_add] at this
    · have := hj 2 (by omega)
      rwa [addr_add] at this
    · have := hj 3 (by omega)
      rwa [addr_add] at this
    · have := hj 4 (by omega)
      rwa [addr_add] at this
  have HCO := Lib.hid hco
  clear hco
  refine wp_region_held (S := fun w' => Ch (Is (w.heap.size + 1 + 1 + 1)) w6 w') (by kernel_rfl) ?_
  refine wpAnyH_take (i := 1) (oi := ⟨some 47, _, _, _, _, _⟩) (v := .slice (some ad) len cap) rfl (by kernel_rfl) (by kernel_rfl) (by kernel_rfl) (fun _ _ _ h => h) (Or.inl ⟨by rfl, fun _ _ => rfl⟩) HS0.out ?_
  simp only [Act.put, List.setIfInBounds_toArray, List.set_cons_zero, List.set_cons_succ]
  refine wpAnyH_take (i := 2) (oi := ⟨some 48, _, _, _, _, _⟩) (v := .int .i64 (k : Int)) rfl (by kernel_rfl) (by kernel_rfl) (by kernel_rfl) (fun _ _ _ h => h) (Or.inl ⟨by rfl, fun _ _ => rfl⟩) HS0.out ?_
  simp only [Act.put, List.setIfInBounds_toArray, List.set_cons_zero, List.set_cons_succ]
  refine wpAnyH_take (i := 3) (oi := ⟨some 49, _, _, _, _, _⟩) (v := .pointer (some b)) rfl (by kernel_rfl) (by kernel_rfl) (by kernel_rfl) (fun _ _ _ h => h) (Or.inl ⟨by rfl, ?_⟩) HS0.out ?_
  · intro w1 _
    go_simp
  simp only [Act.put, List.setIfInBounds_toArray, List.set_cons_zero, List.set_cons_succ]
  refine wpAnyH_take (i := 4) (oi := ⟨some 50, _, _, _, _, _⟩) (v := .pointer (some b)) rfl (by kernel_rfl) (by kernel_rfl) (by kernel_rfl) (fun _ _ _ h => h) (Or.inl ⟨by rfl, ?_⟩) HS0.out ?_
  · intro w1 _
    go_simp
  simp only [Act.put, List.setIfInBounds_toArray, List.set_cons_zero, List.set_cons_succ]
  refine wpAnyH_take (i := 5) (oi := ⟨some 51, _, _, _, _, _⟩) (v := .int .u8 x.op) rfl (by kernel_rfl) (by kernel_rfl) (by kernel_rfl) (fun _ _ _ h => h) (Or.inl ⟨by rfl, ?_⟩) HS0.out ?_
  · intro w1 hS
    obtain ⟨i0, _⟩ := HCO.out w1 hS
    go_simp
  simp only [Act.put, List.setIfInBounds_toArray, List.set_cons_zero, List.set_cons_succ]
  refine wpAnyH_take (i := 8) (oi := ⟨some 54, _, _, _, _, _⟩) (v := .agg #[.slice (some ad) len cap, .slice M xs.length mcap, .int .i64 0]) rfl (by kernel_rfl) (by kernel_rfl) (by kernel_rfl) (fun _ _ _ h => h) (Or.inl ⟨by rfl, ?_⟩) HS0.out ?_
  · intro w1 hS
    exact exec_load_agg 54 (.tmp 11) rfl (w.heap.size + 1 + 1) rfl 54 _ (HP6.out.keepIs hS (by omega)) _ Tryd.underlying54 rfl size54
  simp only [Act.put, List.setIfInBounds_toArray, List.set_cons_zero, List.set_cons_succ]
  refine wpAnyH_take (i := 9) (oi := ⟨some 55, _, _, _, _, _⟩) (v := .slice (some ad) len cap) rfl (by kernel_rfl) (by kernel_rfl) (by kernel_rfl) (fun _ _ _ h => h) (Or.inl ⟨by rfl, ?_⟩) HS0.out ?_
  · intro w1 _
    go_simp
  simp only [Act.put, List.setIfInBounds_toArray, List.set_cons_zero, List.set_cons_succ]
  refine wpAnyH_take (i := 10) (oi := ⟨some 56, _, _, _, _, _⟩) (v := .int .i64 (k : Int)) rfl (by kernel_rfl) (by kernel_rfl) (by kernel_rfl) (fun _ _ _ h => h) (Or.inl ⟨by rfl, ?_⟩) HS0.out ?_
  · intro w1 _
    go_simp
  simp only [Act.put, List.setIfInBounds_toArray, List.set_cons_zero, List.set_cons_succ]
  refine wpAnyH_take (i := 11) (oi := ⟨some 57, _, _, _, _, _⟩) (v := .pointer (some b)) rfl (by kernel_rfl) (by kernel_rfl) (by kernel_rfl) (fun _ _ _ h => h) (Or.inl ⟨by rfl, ?_⟩) HS0.out ?_
  · intro w1 _
    go_simp
  simp only [Act.put, List.setIfInBounds_toArray, List.set_cons_zero, List.set_cons_succ]
  refine wpAnyH_take (i := 12) (oi := ⟨some 58, _, _, _, _, _⟩) (v := .agg #[.int .u8 x.op, .int .u8 x.a, .int .u8 x.b, .int .u8 x.c, .int .i32 x.n]) rfl (by kernel_rfl) (by kernel_rfl) (by kernel_rfl) (fun _ _ _ h => h) (Or.inl ⟨by rfl, ?_⟩) HS0.out ?_
  · intro w1 hS
    obtain ⟨i0, i1, i2, i3, i4⟩ := HCO.out w1 hS
    go_simp
  simp only [Act.put, List.setIfInBounds_toArray, List.set_cons_zero, List.set_cons_succ]
  refine wpAnyH_one (i := 0) (o := ⟨some 46, _, _, _, _, _⟩) (by kernel_rfl) rfl (by rfl) (wp_call 26 #[] (by kernel_rfl) ((operations_calls _).mono ?_))
  rintro e w7 ⟨V, rfl, hV, hc7⟩
  have HS7 : Hid (Ch (Is (w.heap.size + 1 + 1 + 1)) w6 w7) := HS0.out.then_ hc7
  have HC7 : Hid (Ch No w6 w7) := hc7.undrew
  refine ⟨_, rfl, HS7.out, ?_⟩
  have hop := legal_regs HL.out
  have HVV := Lib.hid (vat_at hV hop.2.1)
  have HV := Lib.hid hV
  have HOP := Lib.hid hop
  clear hc7 hV hop
  simp only [Act.put, List.setIfInBounds_toArray, List.set_cons_zero, List.set_cons_succ]
  refine wpAnyH_one (i := 6) (o := ⟨some 52, _, _, _, _, _⟩) (by kernel_rfl) rfl (by rfl) ?_
  refine wp_value (.agg #[vat V x.op]) ?_ ?_
  · exact exec_index rfl rfl (index_op V x.op (vat V x.op) HOP.out.2.1 HVV.out _)
  refine And.intro HS7.out ?_
  simp only [Act.put, List.setIfInBounds_toArray, List.set_cons_zero, List.set_cons_succ]
  refine wpAnyH_one (i := 7) (o := ⟨some 53, _, _, _, _, _⟩) (by kernel_rfl) rfl (by rfl) ?_
  refine wp_value (vat V x.op) (by kernel_rfl) ?_
  refine And.intro HS7.out ?_
  simp only [Act.put, List.setIfInBounds_toArray, List.set_cons_zero, List.set_cons_succ]
  have HE0 : Hid (fix fixed xs.length = 0) := by show _ = _; unfold fix; omega
  have HEF : Hid (insF x len xs fixed r k = doF x.op x.a x.b x.c x.n len xs (fix fixed xs.length) (eff0 r ((k : Int) + 1) 0)) := by show _ = _; unfold insF; rw [if_pos (show x.legal = true from HL.out)]
  have hdo := do_op x.op x.a x.b x.c x.n HHX.out.2.2.2.2.1 HHX.out.2.2.2.2.2 HL.out (some ad) len cap hl M xs mcap hm hmc (fix fixed xs.length) (w.heap.size + 1 + 1 + 1) (eff0 r ((k : Int) + 1) 0) HHI.out w7 (HR6.out.keepNo HC7.out) (HHM.out.keepNo (HC6.out.then_ HC7.out)) V HV.out (vat V x.op) HVV.out
  rw [HE0.out] at hdo
  rw [HE0.out] at HEF
  generalize hE : doF x.op x.a x.b x.c x.n len xs 0 (eff0 r ((k : Int) + 1) 0) = E at *
  have HE1 := Lib.hid hE
  clear hE
  refine wpAnyH_one (i := 13) (o := ⟨some 59, _, _, _, _, _⟩) (by kernel_rfl) rfl (by rfl) ?_
  have hcall : ∃ (f : Nat) (cap2 : Array Value), vat V x.op = .func (.func f) #[] cap2 ∧ Ent f ∧ Calls Tryd.prog f (#[.agg #[.slice (some ad) len cap, .slice M xs.length mcap, .int .i64 0], .agg #[.int .u8 x.op, .int .u8 x.a, .int .u8 x.b, .int .u8 x.c, .int .i32 x.n], .pointer (some ⟨w.heap.size + 1 + 1 + 1, 0, none⟩)] ++ cap2) w7 fun e w' => e = .returned (.tuple #[]) ∧ Row w' (w.heap.size + 1 + 1 + 1) 30 (effCells E) ∧ Ch (Is (w.heap.size + 1 + 1 + 1)) w7 w' := by
    rcases hdo with ⟨f, hf, he, hc⟩ | ⟨f, q, hf, he, hc⟩
    · exact ⟨f, _, hf, he, hc⟩
    · exact ⟨f, _, hf, he, hc⟩
  clear hdo
  obtain ⟨f, cap2, hf, he, hcall⟩ := hcall
  refine wp_call f (#[.agg #[.slice (some ad) len cap, .slice M xs.length mcap, .int .i64 0], .agg #[.int .u8 x.op, .int .u8 x.a, .int .u8 x.b, .int .u8 x.c, .int .i32 x.n], .pointer (some ⟨w.heap.size + 1 + 1 + 1, 0, none⟩)] ++ cap2) (exec_callv (cap := cap2) _ he ?hf1 ?hA1) ?hc1
  case hf1 => exact hf
  case hA1 => kernel_rfl
  case hc1 =>
    refine hcall.mono ?_
    rintro e w8 ⟨rfl, hr8, hc8⟩
    refine ⟨.tuple #[], rfl, ?_⟩
    refine And.intro (HS7.out.trans hc8 (fun _ _ h => h)) ?_
    have HR8 := Lib.hid hr8
    have HZ8 : Hid (Row w8 (w.heap.size + 1) 30 (effCells zeroEff)) := (HZ6.out.keepNo HC7.out).keepIs hc8 (by omega)
    have HC8 : Hid (Ch No w w8) := (HC6.out.then_ HC7.out).trans hc8 (fun i hi he => by cases he; omega)
    have HL8 : Hid ((effCells E).length = (effCells zeroEff).length) := by show _ = _; rw [effCells_length, effCells_length]
    clear hr8 hc8 hcall
    simp only [Act.put, List.setIfInBounds_toArray, List.set_cons_zero, List.set_cons_succ]
    refine wpAnyH_done (by kernel_rfl) ?_ _
    go_wp2_with (first | (refine wpList_load_agg (o := ⟨some 60, _, _, _, _, _⟩) rfl 30 (.tmp 12) rfl (w.heap.size + 1 + 1 + 1) rfl 30 (effCells E) HR8.out _ Tryd.underlying30 rfl (HI22.out _) ?_) | (refine wpList_store_agg (o := ⟨none, .store 30 (.tmp 10) (.tmp 60), _, _, _, _⟩) rfl 30 (.tmp 10) (.tmp 60) rfl (w.heap.size + 1) rfl 30 (effCells zeroEff) (effCells E) rfl HZ8.out (HI22.out _) HL8.out (eff_one _) ?_; intro w9 hr9 hc9; have HR9 := Lib.hid hr9; have HC9 := Lib.hid hc9; clear hr9 hc9))
    refine bodyPost_ret (v := .agg (effCells E).toArray) (results_row rfl _ _ (w.heap.size + 1) 30 _ _ rfl HR9.out Tryd.underlying30 rfl (HI22.out _)) rfl ⟨?_, ?_⟩
    · rw [HEF.out]
    · exact HC8.out.trans HC9.out (fun i hi he => by cases he; omega)
set_option maxHeartbeats 400000 in
theorem step_ok_1 (ad : Addr) (len cap : Nat) (hl : len ≤ 9223372036854775807) (M : Option Addr) (xs : List Int) (mcap : Nat) (hm : xs.length ≤ 9223372036854775807) (hmc : xs.length ≤ mcap) (fixed : Int) (hf : (xs.length : Int) < fixed) (r : Nat → Int) (hin : ∀ i, i < 16 → In64 (r i)) (k : Nat) (hk : k < len) (x : Ins) (hx : x.ok) (hleg : x.legal = true) (w : World)
    (hcode : ∀ j : Nat, j < 5 → w.cell? ((ad.add (k * 5)).add j) = x.cells[j]?) (hM : Cl w M (ints xs)) (hgl : Glob w) :
    Calls Tryd.prog 12 #[.slice (some ad) len cap, .slice M xs.length mcap, .int .i64 fixed, .agg (regCells r).toArray, .int .i64 (k : Int)] w fun e w' => e = .returned (.agg (effCells (insF x len xs fixed r k)).toArray) ∧ Ch No w w' := by
  have HI16 : Hid ((Tryd.prog.info? 24).map (·.size) = some (regCells r).length) := by rw [regCells_length]; exact size24
  have HE : ∀ E : Eff, (Tryd.prog.info? 30).map (·.size) = some (effCells E).length := fun E => by rw [effCells_length]; exact size30
  have HI22 := Lib.hid HE
  clear HE
  have HR16 : Hid (Row (w.alloc (.cells (regCells r).toArray 24)) w.heap.size 24 (regCells r)) := Row.new w 24 (regCells r)
  have HZ0 : Hid (Row ((w.alloc (.cells (regCells r).toArray 24)).alloc (.cells (effCells zeroEff).toArray 30)) (w.heap.size + 1) 30 (effCells zeroEff)) := Row.new_at _ 30 (effCells zeroEff) (by simp)
  have HP0 : Hid (Row (((w.alloc (.cells (regCells r).toArray 24)).alloc (.cells (effCells zeroEff).toArray 30)).alloc (.cells #[.slice (some ad) len cap, .slice M xs.length mcap, .int .i64 (xs.length : Int)] 54)) (w.heap.size + 1 + 1) 54 [.slice (some ad) len cap, .slice M xs.length mcap, .int .i64 (xs.length : Int)]) := Row.new_at _ 54 [.slice (some ad) len cap, .slice M xs.length mcap, .int .i64 (xs.length : Int)] (by simp)
  have HZ3 : Hid (Row ((((w.alloc (.cells (regCells r).toArray 24)).alloc (.cells (effCells zeroEff).toArray 30)).alloc (.cells #[.slice (some ad) len cap, .slice M xs.length mcap, .int .i64 (xs.length : Int)] 54)).alloc (.cells (effCells zeroEff).toArray 30)) (w.heap.size + 1 + 1 + 1) 30 (effCells zeroEff)) := Row.new_at _ 30 (effCells zeroEff) (by simp)
  have hk0 : decide ((k : Int) < 0) = false := by simp
  have hk1 : (0 : Int) ≤ (k : Int) := by omega
  have hk2 : (k : Int) < (len : Int) := by omega
  have hk3 : decide ((len : Int) ≤ (k : Int)) = false := by simp; omega
  have HW := Lib.hid (fun (w1 : World) (h : Ch No w w1) => (show ∀ j : Nat, j < 5 → w1.cell? ((ad.add (k * 5)).add j) = x.cells[j]? from fun j hj => by
    have h1 := hcode j hj
    have h2 : x.cells[j]? = some (x.cells[j]'hj) := List.getElem?_eq_getElem _
    rw [h2] at h1 ⊢
    exact h.cell (not_no _) h1))
  clear hcode
  have HHM := Lib.hid hM
  have HHG := Lib.hid hgl
  have HHI := Lib.hid hin
  have HHX := Lib.hid hx
  have HL : Hid (legal x.op x.a x.b x.c x.n = true) := hleg
  clear hM hgl hin hx hleg
  generalize hb : ad.add (k * 5) = b at *
  have HLEN : Hid ((effCells (eff0 r ((k : Int) + 1) 0)).length = (effCells zeroEff).length) := by show _ = _; rw [effCells_length, effCells_length]
  have hst : ∀ w5 : World, Ch (Is (w.heap.size + 1 + 1 + 1)) ((((w.alloc (.cells (regCells r).toArray 24)).alloc (.cells (effCells zeroEff).toArray 30)).alloc (.cells #[.slice (some ad) len cap, .slice M xs.length mcap, .int .i64 (xs.length : Int)] 54)).alloc (.cells (effCells zeroEff).toArray 30)) w5 →
      Hid (Ch No w w5) ∧ Hid (Row w5 (w.heap.size + 1 + 1) 54 [.slice (some ad) len cap, .slice M xs.length mcap, .int .i64 (xs.length : Int)]) ∧ Hid (Row w5 (w.heap.size + 1) 30 (effCells zeroEff)) ∧ w5.cell? b = some (.int .u8 x.op) ∧ w5.cell? ⟨b.block, b.off + 1, none⟩ = some (.int .u8 x.a) ∧ w5.cell? ⟨b.block, b.off + 2, none⟩ = some (.int .u8 x.b) ∧ w5.cell? ⟨b.block, b.off + 3, none⟩ = some (.int .u8 x.c) ∧ w5.cell? ⟨b.block, b.off + 4, none⟩ = some (.int .i32 x.n) := by
    intro w5 hc5
    have hC5 : Ch No w w5 := ((((Ch.refl No w).alloc _).alloc _).alloc _ |>.alloc _).trans hc5 (fun i hi he => by cases he; omega)
    have hj := HW.out w5 hC5
    refine ⟨hC5, (HP0.out.alloc _).keepIs hc5 (by omega), ((HZ0.out.alloc _).alloc _).keepIs hc5 (by omega), ?_, ?_, ?_, ?_, ?_⟩
    · have := hj 0 (by omega)
      rwa [add_zero] at this
    · have := hj 1 (by omega)
      rwa [addr_add] at this
    · have := hj 2 (by omega)
      rwa [addr_add] at this
    · have := hj 3 (by omega)
      rwa [addr_add] at this
    · have := hj 4 (by omega)
      rwa [addr_add] at this
  have HST := Lib.hid hst
  clear hst
  go_enter Tryd.func12, Tryd.ntmps12
  go_wp2_with (first | (refine wpList_load_agg (o := ⟨some 34, _, _, _, _, _⟩) rfl 24 (.tmp 8) rfl w.heap.size rfl 24 (regCells r) ((HR16.out.alloc _).alloc _) _ Tryd.underlying24 rfl HI16.out ?_) | (refine wpList_value (o := ⟨some 37, _, _, _, _, _⟩) rfl (.agg (effCells (eff0 r ((k : Int) + 1) 0)).toArray) (by kernel_rfl) ?_) | (refine wpList_store_agg (o := ⟨none, .store 30 (.tmp 12) (.tmp 37), _, _, _, _⟩) rfl 30 (.tmp 12) (.tmp 37) rfl (w.heap.size + 1 + 1 + 1) rfl 30 (effCells zeroEff) (effCells (eff0 r ((k : Int) + 1) 0)) rfl HZ3.out (HI22.out _) HLEN.out (eff_one _) ?_; intro w5 hr5 hc5; have HR5 := Lib.hid hr5; obtain ⟨HC5, HP5, HZ5, i0, i1, i2, i3, i4⟩ := HST.out w5 hc5; clear hr5 hc5) | (go_at_call 22; refine (legal_calls x.op x.a x.b x.c x.n HHX.out.1 _ (HHG.out.keep HC5.out (not_no _))).mono ?_; rintro e w6 ⟨rfl, hc6⟩; rw [HL.out]; have HC6 := Lib.hid (HC5.out.then_ hc6); have HR6 := Lib.hid (HR5.out.keepNo hc6); have HP6 := Lib.hid (HP5.out.keepNo hc6); have HZ6 := Lib.hid (HZ5.out.keepNo hc6); clear hc6 i0 i1 i2 i3 i4))
  have HS0 : Hid (Ch (Is (w.heap.size + 1 + 1 + 1)) w6 w6.drew) := (Ch.refl _ w6).drew
  have hne : b.block ≠ w.heap.size + 1 + 1 + 1 := by
    have h0 := HW.out w (Ch.refl _ _) 0 (by omega)
    rw [add_zero] at h0
    have := World.block_lt_of_cell? w _ h0
    omega
  have hco : ∀ w1 : World, Ch (Is (w.heap.size + 1 + 1 + 1)) w6 w1 → w1.cell? b = some (.int .u8 x.op) ∧ w1.cell? ⟨b.block, b.off + 1, none⟩ = some (.int .u8 x.a) ∧ w1.cell? ⟨b.block, b.off + 2, none⟩ = some (.int .u8 x.b) ∧ w1.cell? ⟨b.block, b.off + 3, none⟩ = some (.int .u8 x.c) ∧ w1.cell? ⟨b.block, b.off + 4, none⟩ = some (.int .i32 x.n) := by
    intro w1 h1
    have hj := HW.out w6 HC6.out
    refine ⟨h1.cell hne ?_, h1.cell hne ?_, h1.cell hne ?_, h1.cell hne ?_, h1.cell hne ?_⟩
    · have := hj 0 (by omega)
      rwa [add_zero] at this
    · have := hj 1 (by omega)
      rwa [addr_add] at this
    · have := hj 2 (by omega)
      rwa [addr_add] at this
    · have := hj 3 (by omega)
      rwa [addr_add] at this
    · have := hj 4 (by omega)
      rwa [addr_add] at this
  have HCO := Lib.hid hco
  clear hco
  refine wp_region_held (S := fun w' => Ch (Is (w.heap.size + 1 + 1 + 1)) w6 w') (by kernel_rfl) ?_
  refine wpAnyH_take (i := 1) (oi := ⟨some 47, _, _, _, _, _⟩) (v := .slice (some ad) len cap) rfl (by kernel_rfl) (by kernel_rfl) (by kernel_rfl) (fun _ _ _ h => h) (Or.inl ⟨by rfl, fun _ _ => rfl⟩) HS0.out ?_
  simp only [Act.put, List.setIfInBounds_toArray, List.set_cons_zero, List.set_cons_succ]
  refine wpAnyH_take (i := 2) (oi := ⟨some 48, _, _, _, _, _⟩) (v := .int .i64 (k : Int)) rfl (by kernel_rfl) (by kernel_rfl) (by kernel_rfl) (fun _ _ _ h => h) (Or.inl ⟨by rfl, fun _ _ => rfl⟩) HS0.out ?_
  simp only [Act.put, List.setIfInBounds_toArray, List.set_cons_zero, List.set_cons_succ]
  refine wpAnyH_take (i := 3) (oi := ⟨some 49, _, _, _, _, _⟩) (v := .pointer (some b)) rfl (by kernel_rfl) (by kernel_rfl) (by kernel_rfl) (fun _ _ _ h => h) (Or.inl ⟨by rfl, ?_⟩) HS0.out ?_
  · intro w1 _
    go_simp
  simp only [Act.put, List.setIfInBounds_toArray, List.set_cons_zero, List.set_cons_succ]
  refine wpAnyH_take (i := 4) (oi := ⟨some 50, _, _, _, _, _⟩) (v := .pointer (some b)) rfl (by kernel_rfl) (by kernel_rfl) (by kernel_rfl) (fun _ _ _ h => h) (Or.inl ⟨by rfl, ?_⟩) HS0.out ?_
  · intro w1 _
    go_simp
  simp only [Act.put, List.setIfInBounds_toArray, List.set_cons_zero, List.set_cons_succ]
  refine wpAnyH_take (i := 5) (oi := ⟨some 51, _, _, _, _, _⟩) (v := .int .u8 x.op) rfl (by kernel_rfl) (by kernel_rfl) (by kernel_rfl) (fun _ _ _ h => h) (Or.inl ⟨by rfl, ?_⟩) HS0.out ?_
  · intro w1 hS
    obtain ⟨i0, _⟩ := HCO.out w1 hS
    go_simp
  simp only [Act.put, List.setIfInBounds_toArray, List.set_cons_zero, List.set_cons_succ]
  refine wpAnyH_take (i := 8) (oi := ⟨some 54, _, _, _, _, _⟩) (v := .agg #[.slice (some ad) len cap, .slice M xs.length mcap, .int .i64 (xs.length : Int)]) rfl (by kernel_rfl) (by kernel_rfl) (by kernel_rfl) (fun _ _ _ h => h) (Or.inl ⟨by rfl, ?_⟩) HS0.out ?_
  · intro w1 hS
    exact exec_load_agg 54 (.tmp 11) rfl (w.heap.size + 1 + 1) rfl 54 _ (HP6.out.keepIs hS (by omega)) _ Tryd.underlying54 rfl size54
  simp only [Act.put, List.setIfInBounds_toArray, List.set_cons_zero, List.set_cons_succ]
  refine wpAnyH_take (i := 9) (oi := ⟨some 55, _, _, _, _, _⟩) (v := .slice (some ad) len cap) rfl (by kernel_rfl) (by kernel_rfl) (by kernel_rfl) (fun _ _ _ h => h) (Or.inl ⟨by rfl, ?_⟩) HS0.out ?_
  · intro w1 _
    go_simp
  simp only [Act.put, List.setIfInBounds_toArray, List.set_cons_zero, List.set_cons_succ]
  refine wpAnyH_take (i := 10) (oi := ⟨some 56, _, _, _, _, _⟩) (v := .int .i64 (k : Int)) rfl (by kernel_rfl) (by kernel_rfl) (by kernel_rfl) (fun _ _ _ h => h) (Or.inl ⟨by rfl, ?_⟩) HS0.out ?_
  · intro w1 _
    go_simp
  simp only [Act.put, List.setIfInBounds_toArray, List.set_cons_zero, List.set_cons_succ]
  refine wpAnyH_take (i := 11) (oi := ⟨some 57, _, _, _, _, _⟩) (v := .pointer (some b)) rfl (by kernel_rfl) (by kernel_rfl) (by kernel_rfl) (fun _ _ _ h => h) (Or.inl ⟨by rfl, ?_⟩) HS0.out ?_
  · intro w1 _
    go_simp
  simp only [Act.put, List.setIfInBounds_toArray, List.set_cons_zero, List.set_cons_succ]
  refine wpAnyH_take (i := 12) (oi := ⟨some 58, _, _, _, _, _⟩) (v := .agg #[.int .u8 x.op, .int .u8 x.a, .int .u8 x.b, .int .u8 x.c, .int .i32 x.n]) rfl (by kernel_rfl) (by kernel_rfl) (by kernel_rfl) (fun _ _ _ h => h) (Or.inl ⟨by rfl, ?_⟩) HS0.out ?_
  · intro w1 hS
    obtain ⟨i0, i1, i2, i3, i4⟩ := HCO.out w1 hS
    go_simp
  simp only [Act.put, List.setIfInBounds_toArray, List.set_cons_zero, List.set_cons_succ]
  refine wpAnyH_one (i := 0) (o := ⟨some 46, _, _, _, _, _⟩) (by kernel_rfl) rfl (by rfl) (wp_call 26 #[] (by kernel_rfl) ((operations_calls _).mono ?_))
  rintro e w7 ⟨V, rfl, hV, hc7⟩
  have HS7 : Hid (Ch (Is (w.heap.size + 1 + 1 + 1)) w6 w7) := HS0.out.then_ hc7
  have HC7 : Hid (Ch No w6 w7) := hc7.undrew
  refine ⟨_, rfl, HS7.out, ?_⟩
  have hop := legal_regs HL.out
  have HVV := Lib.hid (vat_at hV hop.2.1)
  have HV := Lib.hid hV
  have HOP := Lib.hid hop
  clear hc7 hV hop
  simp only [Act.put, List.setIfInBounds_toArray, List.set_cons_zero, List.set_cons_succ]
  refine wpAnyH_one (i := 6) (o := ⟨some 52, _, _, _, _, _⟩) (by kernel_rfl) rfl (by rfl) ?_
  refine wp_value (.agg #[vat V x.op]) ?_ ?_
  · exact exec_index rfl rfl (index_op V x.op (vat V x.op) HOP.out.2.1 HVV.out _)
  refine And.intro HS7.out ?_
  simp only [Act.put, List.setIfInBounds_toArray, List.set_cons_zero, List.set_cons_succ]
  refine wpAnyH_one (i := 7) (o := ⟨some 53, _, _, _, _, _⟩) (by kernel_rfl) rfl (by rfl) ?_
  refine wp_value (vat V x.op) (by kernel_rfl) ?_
  refine And.intro HS7.out ?_
  simp only [Act.put, List.setIfInBounds_toArray, List.set_cons_zero, List.set_cons_succ]
  have HE0 : Hid (fix fixed xs.length = (xs.length : Int)) := by show _ = _; unfold fix; omega
  have HEF : Hid (insF x len xs fixed r k = doF x.op x.a x.b x.c x.n len xs (fix fixed xs.length) (eff0 r ((k : Int) + 1) 0)) := by show _ = _; unfold insF; rw [if_pos (show x.legal = true from HL.out)]
  have hdo := do_op x.op x.a x.b x.c x.n HHX.out.2.2.2.2.1 HHX.out.2.2.2.2.2 HL.out (some ad) len cap hl M xs mcap hm hmc (fix fixed xs.length) (w.heap.size + 1 + 1 + 1) (eff0 r ((k : Int) + 1) 0) HHI.out w7 (HR6.out.keepNo HC7.out) (HHM.out.keepNo (HC6.out.then_ HC7.out)) V HV.out (vat V x.op) HVV.out
  rw [HE0.out] at hdo
  rw [HE0.out] at HEF
  generalize hE : doF x.op x.a x.b x.c x.n len xs (xs.length : Int) (eff0 r ((k : Int) + 1) 0) = E at *
  have HE1 := Lib.hid hE
  clear hE
  refine wpAnyH_one (i := 13) (o := ⟨some 59, _, _, _, _, _⟩) (by kernel_rfl) rfl (by rfl) ?_
  have hcall : ∃ (f : Nat) (cap2 : Array Value), vat V x.op = .func (.func f) #[] cap2 ∧ Ent f ∧ Calls Tryd.prog f (#[.agg #[.slice (some ad) len cap, .slice M xs.length mcap, .int .i64 (xs.length : Int)], .agg #[.int .u8 x.op, .int .u8 x.a, .int .u8 x.b, .int .u8 x.c, .int .i32 x.n], .pointer (some ⟨w.heap.size + 1 + 1 + 1, 0, none⟩)] ++ cap2) w7 fun e w' => e = .returned (.tuple #[]) ∧ Row w' (w.heap.size + 1 + 1 + 1) 30 (effCells E) ∧ Ch (Is (w.heap.size + 1 + 1 + 1)) w7 w' := by
    rcases hdo with ⟨f, hf, he, hc⟩ | ⟨f, q, hf, he, hc⟩
    · exact ⟨f, _, hf, he, hc⟩
    · exact ⟨f, _, hf, he, hc⟩
  clear hdo
  obtain ⟨f, cap2, hf, he, hcall⟩ := hcall
  refine wp_call f (#[.agg #[.slice (some ad) len cap, .slice M xs.length mcap, .int .i64 (xs.length : Int)], .agg #[.int .u8 x.op, .int .u8 x.a, .int .u8 x.b, .int .u8 x.c, .int .i32 x.n], .pointer (some ⟨w.heap.size + 1 + 1 + 1, 0, none⟩)] ++ cap2) (exec_callv (cap := cap2) _ he ?hf1 ?hA1) ?hc1
  case hf1 => exact hf
  case hA1 => kernel_rfl
  case hc1 =>
    refine hcall.mono ?_
    rintro e w8 ⟨rfl, hr8, hc8⟩
    refine ⟨.tuple #[], rfl, ?_⟩
    refine And.intro (HS7.out.trans hc8 (fun _ _ h => h)) ?_
    have HR8 := Lib.hid hr8
    have HZ8 : Hid (Row w8 (w.heap.size + 1) 30 (effCells zeroEff)) := (HZ6.out.keepNo HC7.out).keepIs hc8 (by omega)
    have HC8 : Hid (Ch No w w8) := (HC6.out.then_ HC7.out).trans hc8 (fun i hi he => by cases he; omega)
    have HL8 : Hid ((effCells E).length = (effCells zeroEff).length) := by show _ = _; rw [effCells_length, effCells_length]
    clear hr8 hc8 hcall
    simp only [Act.put, List.setIfInBounds_toArray, List.set_cons_zero, List.set_cons_succ]
    refine wpAnyH_done (by kernel_rfl) ?_ _
    go_wp2_with (first | (refine wpList_load_agg (o := ⟨some 60, _, _, _, _, _⟩) rfl 30 (.tmp 12) rfl (w.heap.size + 1 + 1 + 1) rfl 30 (effCells E) HR8.out _ Tryd.underlying30 rfl (HI22.out _) ?_) | (refine wpList_store_agg (o := ⟨none, .store 30 (.tmp 10) (.tmp 60), _, _, _, _⟩) rfl 30 (.tmp 10) (.tmp 60) rfl (w.heap.size + 1) rfl 30 (effCells zeroEff) (effCells E) rfl HZ8.out (HI22.out _) HL8.out (eff_one _) ?_; intro w9 hr9 hc9; have HR9 := Lib.hid hr9; have HC9 := Lib.hid hc9; clear hr9 hc9))
    refine bodyPost_ret (v := .agg (effCells E).toArray) (results_row rfl _ _ (w.heap.size + 1) 30 _ _ rfl HR9.out Tryd.underlying30 rfl (HI22.out _)) rfl ⟨?_, ?_⟩
    · rw [HEF.out]
    · exact HC8.out.trans HC9.out (fun i hi he => by cases he; omega)
set_option maxHeartbeats 400000 in
theorem step_ok_2 (ad : Addr) (len cap : Nat) (hl : len ≤ 9223372036854775807) (M : Option Addr) (xs : List Int) (mcap : Nat) (hm : xs.length ≤ 9223372036854775807) (hmc : xs.length ≤ mcap) (fixed : Int) (hf : 0 ≤ fixed) (hf2 : fixed ≤ (xs.length : Int)) (r : Nat → Int) (hin : ∀ i, i < 16 → In64 (r i)) (k : Nat) (hk : k < len) (x : Ins) (hx : x.ok) (hleg : x.legal = true) (w : World)
    (hcode : ∀ j : Nat, j < 5 → w.cell? ((ad.add (k * 5)).add j) = x.cells[j]?) (hM : Cl w M (ints xs)) (hgl : Glob w) :
    Calls Tryd.prog 12 #[.slice (some ad) len cap, .slice M xs.length mcap, .int .i64 fixed, .agg (regCells r).toArray, .int .i64 (k : Int)] w fun e w' => e = .returned (.agg (effCells (insF x len xs fixed r k)).toArray) ∧ Ch No w w' := by
  have HI16 : Hid ((Tryd.prog.info? 24).map (·.size) = some (regCells r).length) := by rw [regCells_length]; exact size24
  have HE : ∀ E : Eff, (Tryd.prog.info? 30).map (·.size) = some (effCells E).length := fun E => by rw [effCells_length]; exact size30
  have HI22 := Lib.hid HE
  clear HE
  have HR16 : Hid (Row (w.alloc (.cells (regCells r).toArray 24)) w.heap.size 24 (regCells r)) := Row.new w 24 (regCells r)
  have HZ0 : Hid (Row ((w.alloc (.cells (regCells r).toArray 24)).alloc (.cells (effCells zeroEff).toArray 30)) (w.heap.size + 1) 30 (effCells zeroEff)) := Row.new_at _ 30 (effCells zeroEff) (by simp)
  have HP0 : Hid (Row (((w.alloc (.cells (regCells r).toArray 24)).alloc (.cells (effCells zeroEff).toArray 30)).alloc (.cells #[.slice (some ad) len cap, .slice M xs.length mcap, .int .i64 fixed] 54)) (w.heap.size + 1 + 1) 54 [.slice (some ad) len cap, .slice M xs.length mcap, .int .i64 fixed]) := Row.new_at _ 54 [.slice (some ad) len cap, .slice M xs.length mcap, .int .i64 fixed] (by simp)
  have HZ3 : Hid (Row ((((w.alloc (.cells (regCells r).toArray 24)).alloc (.cells (effCells zeroEff).toArray 30)).alloc (.cells #[.slice (some ad) len cap, .slice M xs.length mcap, .int .i64 fixed] 54)).alloc (.cells (effCells zeroEff).toArray 30)) (w.heap.size + 1 + 1 + 1) 30 (effCells zeroEff)) := Row.new_at _ 30 (effCells zeroEff) (by simp)
  have hk0 : decide ((k : Int) < 0) = false := by simp
  have hk1 : (0 : Int) ≤ (k : Int) := by omega
  have hk2 : (k : Int) < (len : Int) := by omega
  have hk3 : decide ((len : Int) ≤ (k : Int)) = false := by simp; omega
  have HW := Lib.hid (fun (w1 : World) (h : Ch No w w1) => (show ∀ j : Nat, j < 5 → w1.cell? ((ad.add (k * 5)).add j) = x.cells[j]? from fun j hj => by
    have h1 := hcode j hj
    have h2 : x.cells[j]? = some (x.cells[j]'hj) := List.getElem?_eq_getElem _
    rw [h2] at h1 ⊢
    exact h.cell (not_no _) h1))
  clear hcode
  have HHM := Lib.hid hM
  have HHG := Lib.hid hgl
  have HHI := Lib.hid hin
  have HHX := Lib.hid hx
  have HL : Hid (legal x.op x.a x.b x.c x.n = true) := hleg
  clear hM hgl hin hx hleg
  generalize hb : ad.add (k * 5) = b at *
  have HLEN : Hid ((effCells (eff0 r ((k : Int) + 1) 0)).length = (effCells zeroEff).length) := by show _ = _; rw [effCells_length, effCells_length]
  have hst : ∀ w5 : World, Ch (Is (w.heap.size + 1 + 1 + 1)) ((((w.alloc (.cells (regCells r).toArray 24)).alloc (.cells (effCells zeroEff).toArray 30)).alloc (.cells #[.slice (some ad) len cap, .slice M xs.length mcap, .int .i64 fixed] 54)).alloc (.cells (effCells zeroEff).toArray 30)) w5 →
      Hid (Ch No w w5) ∧ Hid (Row w5 (w.heap.size + 1 + 1) 54 [.slice (some ad) len cap, .slice M xs.length mcap, .int .i64 fixed]) ∧ Hid (Row w5 (w.heap.size + 1) 30 (effCells zeroEff)) ∧ w5.cell? b = some (.int .u8 x.op) ∧ w5.cell? ⟨b.block, b.off + 1, none⟩ = some (.int .u8 x.a) ∧ w5.cell? ⟨b.block, b.off + 2, none⟩ = some (.int .u8 x.b) ∧ w5.cell? ⟨b.block, b.off + 3, none⟩ = some (.int .u8 x.c) ∧ w5.cell? ⟨b.block, b.off + 4, none⟩ = some (.int .i32 x.n) := by
    intro w5 hc5
    have hC5 : Ch No w w5 := ((((Ch.refl No w).alloc _).alloc _).alloc _ |>.alloc _).trans hc5 (fun i hi he => by cases he; omega)
    have hj := HW.out w5 hC5
    refine ⟨hC5, (HP0.out.alloc _).keepIs hc5 (by omega), ((HZ0.out.alloc _).alloc _).keepIs hc5 (by omega), ?_, ?_, ?_, ?_, ?_⟩
    · have := hj 0 (by omega)
      rwa [add_zero] at this
    · have := hj 1 (by omega)
      rwa [addr_add] at this
    · have := hj 2 (by omega)
      rwa [addr_add] at this
    · have := hj 3 (by omega)
      rwa [addr_add] at this
    · have := hj 4 (by omega)
      rwa [addr_add] at this
  have HST := Lib.hid hst
  clear hst
  go_enter Tryd.func12, Tryd.ntmps12
  go_wp2_with (first | (refine wpList_load_agg (o := ⟨some 34, _, _, _, _, _⟩) rfl 24 (.tmp 8) rfl w.heap.size rfl 24 (regCells r) ((HR16.out.alloc _).alloc _) _ Tryd.underlying24 rfl HI16.out ?_) | (refine wpList_value (o := ⟨some 37, _, _, _, _, _⟩) rfl (.agg (effCells (eff0 r ((k : Int) + 1) 0)).toArray) (by kernel_rfl) ?_) | (refine wpList_store_agg (o := ⟨none, .store 30 (.tmp 12) (.tmp 37), _, _, _, _⟩) rfl 30 (.tmp 12) (.tmp 37) rfl (w.heap.size + 1 + 1 + 1) rfl 30 (effCells zeroEff) (effCells (eff0 r ((k : Int) + 1) 0)) rfl HZ3.out (HI22.out _) HLEN.out (eff_one _) ?_; intro w5 hr5 hc5; have HR5 := Lib.hid hr5; obtain ⟨HC5, HP5, HZ5, i0, i1, i2, i3, i4⟩ := HST.out w5 hc5; clear hr5 hc5) | (go_at_call 22; refine (legal_calls x.op x.a x.b x.c x.n HHX.out.1 _ (HHG.out.keep HC5.out (not_no _))).mono ?_; rintro e w6 ⟨rfl, hc6⟩; rw [HL.out]; have HC6 := Lib.hid (HC5.out.then_ hc6); have HR6 := Lib.hid (HR5.out.keepNo hc6); have HP6 := Lib.hid (HP5.out.keepNo hc6); have HZ6 := Lib.hid (HZ5.out.keepNo hc6); clear hc6 i0 i1 i2 i3 i4))
  have HS0 : Hid (Ch (Is (w.heap.size + 1 + 1 + 1)) w6 w6.drew) := (Ch.refl _ w6).drew
  have hne : b.block ≠ w.heap.size + 1 + 1 + 1 := by
    have h0 := HW.out w (Ch.refl _ _) 0 (by omega)
    rw [add_zero] at h0
    have := World.block_lt_of_cell? w _ h0
    omega
  have hco : ∀ w1 : World, Ch (Is (w.heap.size + 1 + 1 + 1)) w6 w1 → w1.cell? b = some (.int .u8 x.op) ∧ w1.cell? ⟨b.block, b.off + 1, none⟩ = some (.int .u8 x.a) ∧ w1.cell? ⟨b.block, b.off + 2, none⟩ = some (.int .u8 x.b) ∧ w1.cell? ⟨b.block, b.off + 3, none⟩ = some (.int .u8 x.c) ∧ w1.cell? ⟨b.block, b.off + 4, none⟩ = some (.int .i32 x.n) := by
    intro w1 h1
    have hj := HW.out w6 HC6.out
    refine ⟨h1.cell hne ?_, h1.cell hne ?_, h1.cell hne ?_, h1.cell hne ?_, h1.cell hne ?_⟩
    · have := hj 0 (by omega)
      rwa [add_zero] at this
    · have := hj 1 (by omega)
      rwa [addr_add] at this
    · have := hj 2 (by omega)
      rwa [addr_add] at this
    · have := hj 3 (by omega)
      rwa [addr_add] at this
    · have := hj 4 (by omega)
      rwa [addr_add] at this
  have HCO := Lib.hid hco
  clear hco
  refine wp_region_held (S := fun w' => Ch (Is (w.heap.size + 1 + 1 + 1)) w6 w') (by kernel_rfl) ?_
  refine wpAnyH_take (i := 1) (oi := ⟨some 47, _, _, _, _, _⟩) (v := .slice (some ad) len cap) rfl (by kernel_rfl) (by kernel_rfl) (by kernel_rfl) (fun _ _ _ h => h) (Or.inl ⟨by rfl, fun _ _ => rfl⟩) HS0.out ?_
  simp only [Act.put, List.setIfInBounds_toArray, List.set_cons_zero, List.set_cons_succ]
  refine wpAnyH_take (i := 2) (oi := ⟨some 48, _, _, _, _, _⟩) (v := .int .i64 (k : Int)) rfl (by kernel_rfl) (by kernel_rfl) (by kernel_rfl) (fun _ _ _ h => h) (Or.inl ⟨by rfl, fun _ _ => rfl⟩) HS0.out ?_
  simp only [Act.put, List.setIfInBounds_toArray, List.set_cons_zero, List.set_cons_succ]
  refine wpAnyH_take (i := 3) (oi := ⟨some 49, _, _, _, _, _⟩) (v := .pointer (some b)) rfl (by kernel_rfl) (by kernel_rfl) (by kernel_rfl) (fun _ _ _ h => h) (Or.inl ⟨by rfl, ?_⟩) HS0.out ?_
  · intro w1 _
    go_simp
  simp only [Act.put, List.setIfInBounds_toArray, List.set_cons_zero, List.set_cons_succ]
  refine wpAnyH_take (i := 4) (oi := ⟨some 50, _, _, _, _, _⟩) (v := .pointer (some b)) rfl (by kernel_rfl) (by kernel_rfl) (by kernel_rfl) (fun _ _ _ h => h) (Or.inl ⟨by rfl, ?_⟩) HS0.out ?_
  · intro w1 _
    go_simp
  simp only [Act.put, List.setIfInBounds_toArray, List.set_cons_zero, List.set_cons_succ]
  refine wpAnyH_take (i := 5) (oi := ⟨some 51, _, _, _, _, _⟩) (v := .int .u8 x.op) rfl (by kernel_rfl) (by kernel_rfl) (by kernel_rfl) (fun _ _ _ h => h) (Or.inl ⟨by rfl, ?_⟩) HS0.out ?_
  · intro w1 hS
    obtain ⟨i0, _⟩ := HCO.out w1 hS
    go_simp
  simp only [Act.put, List.setIfInBounds_toArray, List.set_cons_zero, List.set_cons_succ]
  refine wpAnyH_take (i := 8) (oi := ⟨some 54, _, _, _, _, _⟩) (v := .agg #[.slice (some ad) len cap, .slice M xs.length mcap, .int .i64 fixed]) rfl (by kernel_rfl) (by kernel_rfl) (by kernel_rfl) (fun _ _ _ h => h) (Or.inl ⟨by rfl, ?_⟩) HS0.out ?_
  · intro w1 hS
    exact exec_load_agg 54 (.tmp 11) rfl (w.heap.size + 1 + 1) rfl 54 _ (HP6.out.keepIs hS (by omega)) _ Tryd.underlying54 rfl size54
  simp only [Act.put, List.setIfInBounds_toArray, List.set_cons_zero, List.set_cons_succ]
  refine wpAnyH_take (i := 9) (oi := ⟨some 55, _, _, _, _, _⟩) (v := .slice (some ad) len cap) rfl (by kernel_rfl) (by kernel_rfl) (by kernel_rfl) (fun _ _ _ h => h) (Or.inl ⟨by rfl, ?_⟩) HS0.out ?_
  · intro w1 _
    go_simp
  simp only [Act.put, List.setIfInBounds_toArray, List.set_cons_zero, List.set_cons_succ]
  refine wpAnyH_take (i := 10) (oi := ⟨some 56, _, _, _, _, _⟩) (v := .int .i64 (k : Int)) rfl (by kernel_rfl) (by kernel_rfl) (by kernel_rfl) (fun _ _ _ h => h) (Or.inl ⟨by rfl, ?_⟩) HS0.out ?_
  · intro w1 _
    go_simp
  simp only [Act.put, List.setIfInBounds_toArray, List.set_cons_zero, List.set_cons_succ]
  refine wpAnyH_take (i := 11) (oi := ⟨some 57, _, _, _, _, _⟩) (v := .pointer (some b)) rfl (by kernel_rfl) (by kernel_rfl) (by kernel_rfl) (fun _ _ _ h => h) (Or.inl ⟨by rfl, ?_⟩) HS0.out ?_
  · intro w1 _
    go_simp
  simp only [Act.put, List.setIfInBounds_toArray, List.set_cons_zero, List.set_cons_succ]
  refine wpAnyH_take (i := 12) (oi := ⟨some 58, _, _, _, _, _⟩) (v := .agg #[.int .u8 x.op, .int .u8 x.a, .int .u8 x.b, .int .u8 x.c, .int .i32 x.n]) rfl (by kernel_rfl) (by kernel_rfl) (by kernel_rfl) (fun _ _ _ h => h) (Or.inl ⟨by rfl, ?_⟩) HS0.out ?_
  · intro w1 hS
    obtain ⟨i0, i1, i2, i3, i4⟩ := HCO.out w1 hS
    go_simp
  simp only [Act.put, List.setIfInBounds_toArray, List.set_cons_zero, List.set_cons_succ]
  refine wpAnyH_one (i := 0) (o := ⟨some 46, _, _, _, _, _⟩) (by kernel_rfl) rfl (by rfl) (wp_call 26 #[] (by kernel_rfl) ((operations_calls _).mono ?_))
  rintro e w7 ⟨V, rfl, hV, hc7⟩
  have HS7 : Hid (Ch (Is (w.heap.size + 1 + 1 + 1)) w6 w7) := HS0.out.then_ hc7
  have HC7 : Hid (Ch No w6 w7) := hc7.undrew
  refine ⟨_, rfl, HS7.out, ?_⟩
  have hop := legal_regs HL.out
  have HVV := Lib.hid (vat_at hV hop.2.1)
  have HV := Lib.hid hV
  have HOP := Lib.hid hop
  clear hc7 hV hop
  simp only [Act.put, List.setIfInBounds_toArray, List.set_cons_zero, List.set_cons_succ]
  refine wpAnyH_one (i := 6) (o := ⟨some 52, _, _, _, _, _⟩) (by kernel_rfl) rfl (by rfl) ?_
  refine wp_value (.agg #[vat V x.op]) ?_ ?_
  · exact exec_index rfl rfl (index_op V x.op (vat V x.op) HOP.out.2.1 HVV.out _)
  refine And.intro HS7.out ?_
  simp only [Act.put, List.setIfInBounds_toArray, List.set_cons_zero, List.set_cons_succ]
  refine wpAnyH_one (i := 7) (o := ⟨some 53, _, _, _, _, _⟩) (by kernel_rfl) rfl (by rfl) ?_
  refine wp_value (vat V x.op) (by kernel_rfl) ?_
  refine And.intro HS7.out ?_
  simp only [Act.put, List.setIfInBounds_toArray, List.set_cons_zero, List.set_cons_succ]
  have HE0 : Hid (fix fixed xs.length = fixed) := by show _ = _; unfold fix; omega
  have HEF : Hid (insF x len xs fixed r k = doF x.op x.a x.b x.c x.n len xs (fix fixed xs.length) (eff0 r ((k : Int) + 1) 0)) := by show _ = _; unfold insF; rw [if_pos (show x.legal = true from HL.out)]
  have hdo := do_op x.op x.a x.b x.c x.n HHX.out.2.2.2.2.1 HHX.out.2.2.2.2.2 HL.out (some ad) len cap hl M xs mcap hm hmc (fix fixed xs.length) (w.heap.size + 1 + 1 + 1) (eff0 r ((k : Int) + 1) 0) HHI.out w7 (HR6.out.keepNo HC7.out) (HHM.out.keepNo (HC6.out.then_ HC7.out)) V HV.out (vat V x.op) HVV.out
  rw [HE0.out] at hdo
  rw [HE0.out] at HEF
  generalize hE : doF x.op x.a x.b x.c x.n len xs fixed (eff0 r ((k : Int) + 1) 0) = E at *
  have HE1 := Lib.hid hE
  clear hE
  refine wpAnyH_one (i := 13) (o := ⟨some 59, _, _, _, _, _⟩) (by kernel_rfl) rfl (by rfl) ?_
  have hcall : ∃ (f : Nat) (cap2 : Array Value), vat V x.op = .func (.func f) #[] cap2 ∧ Ent f ∧ Calls Tryd.prog f (#[.agg #[.slice (some ad) len cap, .slice M xs.length mcap, .int .i64 fixed], .agg #[.int .u8 x.op, .int .u8 x.a, .int .u8 x.b, .int .u8 x.c, .int .i32 x.n], .pointer (some ⟨w.heap.size + 1 + 1 + 1, 0, none⟩)] ++ cap2) w7 fun e w' => e = .returned (.tuple #[]) ∧ Row w' (w.heap.size + 1 + 1 + 1) 30 (effCells E) ∧ Ch (Is (w.heap.size + 1 + 1 + 1)) w7 w' := by
    rcases hdo with ⟨f, hf, he, hc⟩ | ⟨f, q, hf, he, hc⟩
    · exact ⟨f, _, hf, he, hc⟩
    · exact ⟨f, _, hf, he, hc⟩
  clear hdo
  obtain ⟨f, cap2, hf, he, hcall⟩ := hcall
  refine wp_call f (#[.agg #[.slice (some ad) len cap, .slice M xs.length mcap, .int .i64 fixed], .agg #[.int .u8 x.op, .int .u8 x.a, .int .u8 x.b, .int .u8 x.c, .int .i32 x.n], .pointer (some ⟨w.heap.size + 1 + 1 + 1, 0, none⟩)] ++ cap2) (exec_callv (cap := cap2) _ he ?hf1 ?hA1) ?hc1
  case hf1 => exact hf
  case hA1 => kernel_rfl
  case hc1 =>
    refine hcall.mono ?_
    rintro e w8 ⟨rfl, hr8, hc8⟩
    refine ⟨.tuple #[], rfl, ?_⟩
    refine And.intro (HS7.out.trans hc8 (fun _ _ h => h)) ?_
    have HR8 := Lib.hid hr8
    have HZ8 : Hid (Row w8 (w.heap.size + 1) 30 (effCells zeroEff)) := (HZ6.out.keepNo HC7.out).keepIs hc8 (by omega)
    have HC8 : Hid (Ch No w w8) := (HC6.out.then_ HC7.out).trans hc8 (fun i hi he => by cases he; omega)
    have HL8 : Hid ((effCells E).length = (effCells zeroEff).length) := by show _ = _; rw [effCells_length, effCells_length]
    clear hr8 hc8 hcall
    simp only [Act.put, List.setIfInBounds_toArray, List.set_cons_zero, List.set_cons_succ]
    refine wpAnyH_done (by kernel_rfl) ?_ _
    go_wp2_with (first | (refine wpList_load_agg (o := ⟨some 60, _, _, _, _, _⟩) rfl 30 (.tmp 12) rfl (w.heap.size + 1 + 1 + 1) rfl 30 (effCells E) HR8.out _ Tryd.underlying30 rfl (HI22.out _) ?_) | (refine wpList_store_agg (o := ⟨none, .store 30 (.tmp 10) (.tmp 60), _, _, _, _⟩) rfl 30 (.tmp 10) (.tmp 60) rfl (w.heap.size + 1) rfl 30 (effCells zeroEff) (effCells E) rfl HZ8.out (HI22.out _) HL8.out (eff_one _) ?_; intro w9 hr9 hc9; have HR9 := Lib.hid hr9; have HC9 := Lib.hid hc9; clear hr9 hc9))
    refine bodyPost_ret (v := .agg (effCells E).toArray) (results_row rfl _ _ (w.heap.size + 1) 30 _ _ rfl HR9.out Tryd.underlying30 rfl (HI22.out _)) rfl ⟨?_, ?_⟩
    · rw [HEF.out]
    · exact HC8.out.trans HC9.out (fun i hi he => by cases he; omega)
/-- the effect of a Step -/
def stepF (cs : List Ins) (xs : List Int) (fixed : Int) (r : Nat → Int) (pc : Int) : Eff :=
  if pc < 0 then eff0 r (inn cs.length pc) 4 else match cs[pc.toNat]? with
    | some x => insF x cs.length xs fixed r pc
    | none => eff0 r (inn cs.length pc) 4
theorem step_calls (A : Option Addr) (cs : List Ins) (cap : Nat) (hl : cs.length ≤ 9223372036854775807) (hcs : ∀ x ∈ cs, x.ok) (M : Option Addr) (xs : List Int) (mcap : Nat) (hm : xs.length ≤ 9223372036854775807) (hmc : xs.length ≤ mcap) (fixed : Int) (r : Nat → Int) (hin : ∀ i, i < 16 → In64 (r i)) (pc : Int) (w : World)
    (hcode : Cl w A (codeCells cs)) (hM : Cl w M (ints xs)) (hgl : Glob w) :
    Calls Tryd.prog 12 #[.slice A cs.length cap, .slice M xs.length mcap, .int .i64 fixed, .agg (regCells r).toArray, .int .i64 pc] w fun e w' => e = .returned (.agg (effCells (stepF cs xs fixed r pc)).toArray) ∧ Ch No w w' := by
  by_cases h0 : pc < 0
  · have e : stepF cs xs fixed r pc = eff0 r (inn cs.length pc) 4 := by unfold stepF; rw [if_pos h0]
    rw [e]
    exact step_out A cs.length cap hl M xs.length mcap hm fixed r pc (.inl h0) w
  · obtain ⟨k, rfl⟩ := Int.eq_ofNat_of_zero_le (show 0 ≤ pc by omega)
    rcases Nat.lt_or_ge k cs.length with hk | hk
    · have hx : cs[k]? = some cs[k] := List.getElem?_eq_getElem hk
      have e : stepF cs xs fixed r (k : Int) = insF cs[k] cs.length xs fixed r k := by
        unfold stepF
        rw [if_neg h0]
        simp only [Int.ofNat_eq_natCast, Int.toNat_natCast, hx]
      have hok := hcs cs[k] (List.getElem_mem hk)
      have hget : ∀ j, j < 5 → ∃ v, (codeCells cs)[k * 5 + j]? = some v ∧ cs[k].cells[j]? = some v := fun j hj => by
        have h1 := codeCells_get cs k j cs[k] hx hj
        have h2 : cs[k].cells[j]? = some (cs[k].cells[j]'hj) := List.getElem?_eq_getElem _
        exact ⟨_, h1.trans h2, h2⟩
      obtain ⟨v0, h3, _⟩ := hget 0 (by omega)
      obtain ⟨ad, rfl, _⟩ := hcode _ _ h3
      have hc5 : ∀ j : Nat, j < 5 → w.cell? ((ad.add (k * 5)).add j) = cs[k].cells[j]? := fun j hj => by
        obtain ⟨v, h4, h5⟩ := hget j hj
        obtain ⟨ad', e', h6⟩ := hcode _ _ h4
        cases e'
        rw [add_add, h5]
        exact h6
      show Calls Tryd.prog 12 #[.slice (some ad) cs.length cap, .slice M xs.length mcap, .int .i64 fixed, .agg (regCells r).toArray, .int .i64 (k : Int)] w _
      rw [e]
      cases hleg : cs[k].legal with
      | true =>
        by_cases f0 : fixed < 0
        · exact step_ok_0 ad _ cap hl M xs mcap hm hmc fixed f0 r hin k hk _ hok hleg w hc5 hM hgl
        · by_cases f1 : (xs.length : Int) < fixed
          · exact step_ok_1 ad _ cap hl M xs mcap hm hmc fixed f1 r hin k hk _ hok hleg w hc5 hM hgl
          · exact step_ok_2 ad _ cap hl M xs mcap hm hmc fixed (by omega) (by omega) r hin k hk _ hok hleg w hc5 hM hgl
      | false =>
        by_cases f0 : fixed < 0
        · exact step_bad_0 ad _ cap hl M xs mcap hm hmc fixed f0 r hin k hk _ hok hleg w hc5 hM hgl
        · by_cases f1 : (xs.length : Int) < fixed
          · exact step_bad_1 ad _ cap hl M xs mcap hm hmc fixed f1 r hin k hk _ hok hleg w hc5 hM hgl
          · exact step_bad_2 ad _ cap hl M xs mcap hm hmc fixed (by omega) (by omega) r hin k hk _ hok hleg w hc5 hM hgl
    · have e : stepF cs xs fixed r (k : Int) = eff0 r (inn cs.length (k : Int)) 4 := by
        unfold stepF
        rw [if_neg h0, List.getElem?_eq_none (by simpa using hk)]
      rw [e]
      exact step_out A cs.length cap hl M xs.length mcap hm fixed r (k : Int) (.inr (by omega)) w
end Go.Proofs.YtellmlffkgfeiaaDoor
