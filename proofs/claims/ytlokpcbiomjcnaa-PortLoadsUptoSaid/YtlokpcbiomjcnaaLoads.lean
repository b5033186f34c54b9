/- PortLoads holds for every input of a size that any machine bears (bulk at most 1048576): Load of any standings answers the document's refusal, or ports that stand so; what was handed in is left as it was, and not kept; all arguments are left as they were. -/
import Derived.Test.YtlokpcbiomjcnaaH9
import Derived.Test.YtlokpcbiomjcnaaL
import Derived.Test.YtlokpcbiomjcnaaO
import Derived.Test.YtlokpcbiomjcnaaRows
set_option linter.unusedVariables false
set_option linter.unusedSimpArgs false
namespace Go.Proofs.Ytlokpcbiomjcnaa
open Go.ChangeShapes Go.WideShapes Go.ChangeAt Go.RowKit
theorem own' : ownKnob Try.prog.godebug = none := by kernel_rfl
theorem laidOut' : laidOutB Try.prog = true := by kernel_rfl
theorem cells3' : Try.prog.cellsOf 3 = 1 := by kernel_rfl
theorem cells2' : Try.prog.cellsOf 2 = 1 := by kernel_rfl
theorem cells4' : Try.prog.cellsOf 4 = 1 := by kernel_rfl
theorem cells31' : Try.prog.cellsOf 31 = 1 := by kernel_rfl
theorem cells32' : Try.prog.cellsOf 32 = 1 := by kernel_rfl
theorem cells34' : Try.prog.cellsOf 34 = 3 := by kernel_rfl
theorem cells36' : Try.prog.cellsOf 36 = 5 := by kernel_rfl
theorem cells46' : Try.prog.cellsOf 46 = 6 := by kernel_rfl
section
variable {H : Type} {enc : TypeId × Value → H} {W : World} {P : Program}
theorem bulk_pos (d : DataW H) : 1 ≤ Rows.uptoBulk d := by
  cases d <;> try simp [Rows.uptoBulk]
  rename_i l
  cases l <;> simp [Rows.uptoBulk]
theorem bulk_len : ∀ ds : List (DataW H), ds.length ≤ Rows.uptoBulkAll ds
  | [] => Nat.le_refl _
  | d :: ds => by
    have := bulk_len ds
    have := bulk_pos d
    simp only [List.length_cons, Rows.uptoBulkAll]
    omega
theorem bulk_at : ∀ (ds : List (DataW H)) (i : Nat) (d : DataW H), ds[i]? = some d → Rows.uptoBulk d ≤ Rows.uptoBulkAll ds
  | [], i, d, h => by simp at h
  | e :: ds, 0, d, h => by
    simp at h
    subst h
    simp only [Rows.uptoBulkAll]
    omega
  | e :: ds, i + 1, d, h => by
    have := bulk_at ds i d (by simpa using h)
    simp only [Rows.uptoBulkAll]
    omega
theorem slice_bulk {t e : TypeId} {c : Nat} {d : DataW H} {A : Option Addr} {n cap : Nat} (ht : P.underlying t = some (.slice e)) (hc : P.cellsOf e = c) (h : Tr enc P W t [.slice A n cap] d) : n ≤ Rows.uptoBulk d := by
  obtain ⟨A', ess, ds, cap', h1, h2, h3, h4, h5, h6, h7⟩ := tr_slice ht hc h
  simp only [List.cons.injEq, Value.slice.injEq, and_true] at h1
  rw [h1.2.1, ← h4]
  rcases h7 with ⟨_, rfl⟩ | ⟨sp, rfl⟩
  · simp
  · have := bulk_len ds
    simp only [Rows.uptoBulk]
    omega
theorem small_all {ds gs : List (DataW H)} (h : Rows.uptoSmall H (ds ++ gs) = true) : Rows.uptoBulkAll (ds ++ gs) ≤ 1048576 := by simpa [Rows.uptoSmall] using h
set_option maxRecDepth 100000 in
theorem tr_port {cs : List Value} {d : DataW H} (h : Tr enc Try.prog W 46 cs d) : ∃ p : Pt, cs = p.cells := by
  obtain ⟨ds, rfl, hlen, hds, hf⟩ := tr_struct Try.underlying46 h
  rw [cells46'] at hlen
  match cs, hlen with
  | [c0, c1, c2, c3, c4, c5], _ =>
    obtain ⟨e0, _, h0⟩ := hf 0 _ rfl
    obtain ⟨e1, _, h1⟩ := hf 1 _ rfl
    obtain ⟨e2, _, h2⟩ := hf 2 _ rfl
    obtain ⟨e3, _, h3⟩ := hf 3 _ rfl
    obtain ⟨e4, _, h4⟩ := hf 4 _ rfl
    obtain ⟨e5, _, h5⟩ := hf 5 _ rfl
    obtain ⟨n0, q0, _, w0⟩ := tr_int Try.underlying3 (tr_field h0 cells3' rfl)
    obtain ⟨n1, q1, _, w1⟩ := tr_int Try.underlying3 (tr_field h1 cells3' rfl)
    obtain ⟨b2, q2, _⟩ := tr_bool Try.underlying4 (tr_field h2 cells4' rfl)
    obtain ⟨n3, q3, _, w3⟩ := tr_int Try.underlying3 (tr_field h3 cells3' rfl)
    obtain ⟨n4, q4, _, w4⟩ := tr_int Try.underlying3 (tr_field h4 cells3' rfl)
    obtain ⟨n5, q5, _, w5⟩ := tr_int Try.underlying3 (tr_field h5 cells3' rfl)
    simp only [List.cons.injEq, and_true] at q0 q1 q2 q3 q4 q5
    subst q0 q1 q2 q3 q4 q5
    exact ⟨⟨n0, n1, b2, n3, n4, n5⟩, rfl⟩
theorem tr_pts {cs : List Value} {d : DataW H} (h : Tr enc Try.prog W 22 cs d) : ∃ (A : Option Addr) (ps : List Pt) (cap : Nat), cs = [.slice A ps.length cap] ∧ ps.length ≤ cap ∧ cap ≤ maxLen ∧ Pts W A ps := by
  obtain ⟨S, ess, ds, cap, h1, h2, h3, h4, h5, h6, h7⟩ := tr_slice Try.underlying22 cells46' h
  obtain ⟨ps, hos, hd⟩ := tr_list (fun p : Pt => p.cells) (fun _ _ => True) ess ds h4 (fun i es hi => by
    obtain ⟨_, d', hd', htr⟩ := h5 i es hi
    obtain ⟨p, hp⟩ := tr_port htr
    exact ⟨d', hd', p, hp, trivial⟩)
  subst hos
  simp only [List.length_map] at h1 h2 h4
  refine ⟨S, ps, cap, h1, h2, h3, fun i p hp => ?_⟩
  have hes : (ps.map fun p : Pt => p.cells)[i]? = some p.cells := by simp [hp]
  obtain ⟨ad, ha, _⟩ := h6 i 0 _ _ hes rfl
  refine ⟨ad, ha, fun j v hj => ?_⟩
  obtain ⟨ad', ha', hc⟩ := h6 i j v _ hes hj
  rw [ha] at ha'
  cases ha'
  exact ⟨_, rfl, by rw [add_add]; exact hc⟩
theorem tr_lists {cs : List Value} {d : DataW H} (h : Tr enc Try.prog W 31 cs d) : ∃ (A : Option Addr) (ms : List Value) (q : List (List Int)) (cap : Nat), cs = [.slice A q.length cap] ∧ ms.length = q.length ∧ q.length ≤ maxLen ∧ Cl W A ms ∧ (∀ (i : Nat) m xs, ms[i]? = some m → q[i]? = some xs → Sl W m xs) ∧ q.length ≤ Rows.uptoBulk d ∧ ∀ m ∈ q, m.length ≤ Rows.uptoBulk d := by
  obtain ⟨S, ess, ds, cap, h1, h2, h3, h4, h5, h6, h7⟩ := tr_slice Try.underlying31 cells32' h
  have hb0 : ess.length ≤ Rows.uptoBulk d := slice_bulk Try.underlying31 cells32' (by rw [← h1]; exact h)
  obtain ⟨os, hos, hd⟩ := tr_list (fun p : Value × List Int => [p.1]) (fun p d' => Sl W p.1 p.2 ∧ p.2.length ≤ Rows.uptoBulk d') ess ds h4 (fun i es hi => by
    obtain ⟨_, d', hd', htr⟩ := h5 i es hi
    obtain ⟨A, xs, cap', q5, hc1, hc2, hc3, _, _⟩ := tr_ints Try.underlying32 Try.underlying2 cells2' htr
    have hb := slice_bulk (n := xs.length) Try.underlying32 cells2' (by rw [← q5]; exact htr)
    exact ⟨d', hd', (.slice A xs.length cap', xs), q5, ⟨A, cap', rfl, hc3, by show xs.length ≤ _; unfold maxLen at hc2; omega⟩, hb⟩)
  subst hos
  simp only [List.length_map] at h1 h2 h4 hb0
  refine ⟨S, os.map (·.1), os.map (·.2), cap, by rw [List.length_map]; exact h1, by simp, by rw [List.length_map]; omega, fun j v hj => ?_, fun i m xs hm hx => ?_, by rw [List.length_map]; exact hb0, fun m hm => ?_⟩
  · rw [List.getElem?_map, Option.map_eq_some_iff] at hj
    obtain ⟨p, hp, rfl⟩ := hj
    obtain ⟨ad, ha, hcell⟩ := h6 j 0 p.1 [p.1] (by simp [hp]) (by simp)
    exact ⟨ad, ha, by simpa using hcell⟩
  · rw [List.getElem?_map, Option.map_eq_some_iff] at hm hx
    obtain ⟨p, hp, rfl⟩ := hm
    obtain ⟨p', hp', rfl⟩ := hx
    rw [hp] at hp'
    cases hp'
    obtain ⟨_, _, hsl, _⟩ := hd i p hp
    exact hsl
  · obtain ⟨p, hp, rfl⟩ := List.mem_map.1 hm
    obtain ⟨i, hi⟩ := List.getElem?_of_mem hp
    obtain ⟨d', hd1, _, hd2⟩ := hd i p hi
    have hb := bulk_at ds i d' hd1
    rcases h7 with ⟨_, hn⟩ | ⟨sp, hn⟩
    · rw [hn] at hd1
      simp at hd1
    · rw [hn]
      simp only [Rows.uptoBulk]
      omega
set_option maxRecDepth 100000 in
theorem tr_state {cs : List Value} {d : DataW H} (h : Tr enc Try.prog W 36 cs d) : ∃ s : Ps, Ste W cs s ∧ s.q.length ≤ Rows.uptoBulk d ∧ s.data.length ≤ Rows.uptoBulk d ∧ ∀ m ∈ s.q, m.length ≤ Rows.uptoBulk d := by
  obtain ⟨ds, rfl, hlen, hds, hf⟩ := tr_struct Try.underlying36 h
  rw [cells36'] at hlen
  match cs, hlen with
  | [c0, c1, c2, c3, c4], _ =>
    obtain ⟨e0, k0, h0⟩ := hf 0 _ rfl
    obtain ⟨e1, k1, h1⟩ := hf 1 _ rfl
    obtain ⟨e2, _, h2⟩ := hf 2 _ rfl
    have h0 := tr_field h0 cells31' rfl
    have h2 := tr_field h2 cells3' rfl
    have h1' : Tr enc Try.prog W 34 [c1, c2, c3] e1 := by
      have h : Tr enc Try.prog W 34 (([c0, c1, c2, c3, c4].drop 1).take (Try.prog.cellsOf 34)) e1 := h1
      rw [cells34'] at h
      exact h
    obtain ⟨fs, rfl, hl1, hfl, hg⟩ := tr_struct Try.underlying34 h1'
    obtain ⟨f0, _, g0⟩ := hg 0 _ rfl
    obtain ⟨f1, _, g1⟩ := hg 1 _ rfl
    obtain ⟨f2, kf2, g2⟩ := hg 2 _ rfl
    obtain ⟨Aq, ms, q, cq, q0, hml, hqm, hcl, hsl, hqb, hmb⟩ := tr_lists h0
    obtain ⟨has, q1, _⟩ := tr_bool Try.underlying4 (tr_field g0 cells4' rfl)
    obtain ⟨tick, q2, _, _⟩ := tr_int Try.underlying3 (tr_field g1 cells3' rfl)
    have g2 := tr_field g2 cells32' rfl
    obtain ⟨Ad, data, cd, q3, hc1, hc2, hc3, _, _⟩ := tr_ints Try.underlying32 Try.underlying2 cells2' g2
    obtain ⟨lost, q4, _, _⟩ := tr_int Try.underlying3 h2
    simp only [List.cons.injEq, and_true] at q0 q1 q2 q3 q4
    have hdb : data.length ≤ Rows.uptoBulk f2 := slice_bulk Try.underlying32 cells2' (by rw [q3] at g2; exact g2)
    have b0 := bulk_at ds 0 e0 k0
    have b1 := bulk_at ds 1 _ k1
    have b2 := bulk_at fs 2 f2 kf2
    simp only [Rows.uptoBulk] at b1
    subst q0 q1 q2 q3 q4
    refine ⟨⟨q, has, tick, data, lost⟩, ⟨Aq, ms, cq, Ad, cd, rfl, hml, hcl, hsl, hc3, by unfold maxLen at hqm; simp only []; omega, by unfold maxLen at hc2; simp only []; omega⟩, ?_, ?_, fun m hm => ?_⟩
    · simp only [Rows.uptoBulk]
      omega
    · simp only [Rows.uptoBulk]
      omega
    · have := hmb m hm
      simp only [Rows.uptoBulk]
      omega
theorem tr_states {cs : List Value} {d : DataW H} (h : Tr enc Try.prog W 23 cs d) : ∃ (v : Value) (ls : List Ps), cs = [v] ∧ Stl W v ls ∧ ls.length ≤ Rows.uptoBulk d ∧ ∀ s ∈ ls, s.q.length ≤ Rows.uptoBulk d ∧ s.data.length ≤ Rows.uptoBulk d ∧ ∀ m ∈ s.q, m.length ≤ Rows.uptoBulk d := by
  obtain ⟨S, ess, ds, cap, h1, h2, h3, h4, h5, h6, h7⟩ := tr_slice Try.underlying23 cells36' h
  have hb0 : ess.length ≤ Rows.uptoBulk d := slice_bulk Try.underlying23 cells36' (by rw [← h1]; exact h)
  obtain ⟨os, hos, hd⟩ := tr_list (fun p : List Value × Ps => p.1) (fun p d' => p.1.length = 5 ∧ Ste W p.1 p.2 ∧ p.2.q.length ≤ Rows.uptoBulk d' ∧ p.2.data.length ≤ Rows.uptoBulk d' ∧ ∀ m ∈ p.2.q, m.length ≤ Rows.uptoBulk d') ess ds h4 (fun i es hi => by
    obtain ⟨hl, d', hd', htr⟩ := h5 i es hi
    obtain ⟨s, hs⟩ := tr_state htr
    exact ⟨d', hd', (es, s), rfl, hl, hs⟩)
  subst hos
  simp only [List.length_map] at h1 h2 h4 hb0
  refine ⟨.slice S os.length cap, os.map (·.2), h1, ⟨S, cap, by rw [List.length_map], by rw [List.length_map]; unfold maxLen at h3; omega, fun i s hs => ?_⟩, by rw [List.length_map]; exact hb0, fun s hs => ?_⟩
  · rw [List.getElem?_map, Option.map_eq_some_iff] at hs
    obtain ⟨p, hp, rfl⟩ := hs
    obtain ⟨_, _, hl, hste, _⟩ := hd i p hp
    have hes : (os.map fun p : List Value × Ps => p.1)[i]? = some p.1 := by simp [hp]
    obtain ⟨v0, hv0⟩ : ∃ v0, p.1[0]? = some v0 := ⟨_, List.getElem?_eq_getElem (by omega)⟩
    obtain ⟨ad, ha, _⟩ := h6 i 0 _ _ hes hv0
    refine ⟨ad, p.1, ha, fun j v hj => ?_, hste⟩
    obtain ⟨ad', ha', hc⟩ := h6 i j v _ hes hj
    rw [ha] at ha'
    cases ha'
    exact ⟨_, rfl, by rw [add_add]; exact hc⟩
  · obtain ⟨p, hp, rfl⟩ := List.mem_map.1 hs
    obtain ⟨i, hi⟩ := List.getElem?_of_mem hp
    obtain ⟨d', hd1, _, _, c1, c2, c3⟩ := hd i p hi
    have hb := bulk_at ds i d' hd1
    rcases h7 with ⟨_, hn⟩ | ⟨sp, hn⟩
    · rw [hn] at hd1
      simp at hd1
    · rw [hn]
      simp only [Rows.uptoBulk]
      refine ⟨by omega, by omega, fun m hm => ?_⟩
      have := c3 m hm
      omega
end
theorem readable3 : ∀ t ∈ [22, 5, 23], Try.prog.readableRec t = true ∧ t < Try.prog.types.size := by
  intro t ht
  simp at ht
  rcases ht with rfl | rfl | rfl
  · exact ⟨by kernel_rfl, of_decide_eq_true (by kernel_rfl)⟩
  · exact ⟨by kernel_rfl, of_decide_eq_true (by kernel_rfl)⟩
  · exact ⟨by kernel_rfl, of_decide_eq_true (by kernel_rfl)⟩
theorem wf_u8' {n : Int} (h : (Lit.int .u8 n).wf = true) : 0 ≤ n ∧ n ≤ 255 := by
  simpa [Lit.wf, IntKind.min, IntKind.max, IntKind.signed, IntKind.bits] using h
set_option maxRecDepth 100000 in
theorem loads_row (H : Type) (enc : TypeId × Value → H) (W : World) (base : Nat) (args : Array Value) (ds gs : List (DataW H)) (before : List MemPlace)
    (hval0 : ∀ (j : Nat) t v, Try.f3.params[j]? = some t → args[j]? = some v → Value.okWide Try.prog W .any base t v)
    (hW : DataW.Whole enc Try.prog Try.f3.params.toList Rows.portLoadsSpec.vars false W args.toList ds gs before) (hk : Rows.uptoSmall H (ds ++ gs) = true) :
    Calls Try.prog 3 args W fun e W' => ∃ v, e = .returned v ∧ Rows.portLoadsSpec.post enc Try.prog Try.f3 false true false false W args v W' := by
  have hval : ∀ (j : Nat) t v, Try.f3.params[j]? = some t → args[j]? = some v → Value.okWide Try.prog W .any base t v := hval0
  have hW' := hW
  obtain ⟨p, q, hA0, hV, rfl, _, _⟩ := hW
  have hA : DataW.TrodAll enc Try.prog W 0 (fun _ => true) true Try.f3.params.toList args.toList ds p := hA0
  rw [Try.params3] at hA hval
  obtain ⟨v0, v1, v2, d0, d1, d2, p0, p1, p2, hargs, rfl, rfl, h0, h1, h2⟩ := trodAll_three hA
  obtain rfl : args = #[v0, v1, v2] := by cases args; simp_all
  obtain ⟨rfl, _⟩ := trodVars_none hV
  obtain ⟨a0, l0, k0, rfl⟩ := okWide_slice Try.underlying22 (hval 0 22 v0 rfl rfl)
  obtain ⟨A, ps, cap, e0, hc0, hm0, hp⟩ := tr_pts (tr_of h0)
  obtain ⟨x1, rfl, rfl, rfl, w1⟩ := open_int Try.underlying5 (hval 1 5 v1 rfl rfl) h1
  obtain ⟨a2, l2, k2, rfl⟩ := okWide_slice Try.underlying23 (hval 2 23 v2 rfl rfl)
  obtain ⟨u, ls, e2, hu, hul, hus⟩ := tr_states (tr_of h2)
  have hsm := small_all hk
  have hb2 := bulk_at ([d0, .lit (.int .u8 x1), d2] ++ []) 2 d2 rfl
  have hd2 : Rows.uptoBulk d2 ≤ 10000000 := Nat.le_trans hb2 (Nat.le_trans hsm (by decide))
  simp only [Value.cells, List.cons.injEq, and_true] at e0 e2
  rw [e0, e2] at hW' ⊢
  have hpl : ps.length ≤ 9223372036854775807 := by unfold maxLen at hm0; omega
  obtain ⟨b0, b1⟩ := wf_u8' w1
  refine (loads_walk (c0 := cap) rfl hpl hp x1 b0 b1 hu (fun s hs => ?_) (Nat.le_trans hul hd2)).mono fun e W' ⟨he, hch⟩ => ?_
  · obtain ⟨c1, c2, c3⟩ := hus s hs
    exact ⟨Nat.le_trans c1 hd2, Nat.le_trans c2 hd2, fun m hm => Nat.le_trans (c3 m hm) hd2⟩
  subst he
  exact ⟨_, rfl, post_law laidOut' (fun t ht => readable3 t (by rw [Try.params3] at ht; simp at ht; rcases ht with rfl | rfl | rfl <;> simp)) rfl Try.underlying4 rfl hW' rfl rfl rfl hch⟩
set_option maxRecDepth 100000 in
theorem loads_lifted (os : Os) (started : os.Started) (H : Type) (enc : TypeId × Value → H) (F : Stop.Interp) :
    ReturnsInHanded {} Try.checked os 3 .any ((Rows.OpenSpec.upto Rows.portLoadsSpec).pre6 enc Try.prog Try.f3 Rows.portLoadsUptoRow.domain false) (((Rows.OpenSpec.upto Rows.portLoadsSpec).at F).post enc Try.prog Try.f3 false true false false) := by
  refine returnsInHanded_of_cond (C := Try.checked) (s := Rows.OpenSpec.upto Rows.portLoadsSpec) (k := Rows.uptoSmall) rfl own' started (by kernel_rfl) Try.func3
    (OpenSpec.witness (enc := enc) (C := Try.checked) (s := Rows.OpenSpec.upto Rows.portLoadsSpec) (k := Rows.uptoSmall) rfl false ⟨#[], #[.slice none 0 0, .int .u8 0, .slice none 0 0], []⟩ 8 (by kernel_rfl) (by kernel_rfl) (by kernel_rfl)
      (x := ([.nil, .lit (.int .u8 0), .nil], [], [])) (by kernel_rfl) rfl (by kernel_rfl)) ?_
  intro W base args ds gs before hval hW _ hk _
  exact loads_row H enc W base args ds gs before hval hW hk
set_option maxRecDepth 100000 in
theorem portLoads_upto : Rows.PortLoadsUptoSaid :=
  OpenClaim.holds_of_cond 3 Try.f3 rfl rfl rfl rfl rfl rfl rfl ⟨rfl, rfl, rfl, rfl, rfl⟩ rfl rfl rfl rfl rfl (by kernel_rfl) Try.func3 (by kernel_rfl)
    (of_decide_eq_true (by kernel_rfl)) (by unfold Func.isWrapper; first | (rw [if_pos (by decide +kernel)]; kernel_rfl) | (rw [if_neg (by decide +kernel)]; exact ⟨rfl, rfl⟩))
    (fun os started H enc _ F => loads_lifted os started H enc F)
end Go.Proofs.Ytlokpcbiomjcnaa
