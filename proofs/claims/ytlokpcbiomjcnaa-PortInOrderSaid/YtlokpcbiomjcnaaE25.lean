/- PortInOrder: a message laid into a queue of one's own, taken out of it; one more lost. -/
import Derived.Test.YtlokpcbiomjcnaaE24
set_option linter.unusedVariables false
set_option linter.unusedSimpArgs false
namespace Go.Proofs.Ytlokpcbiomjcnaa
open Go.RowKit
theorem exec_at {a : Act} {o : Oper} {w : World} (t e : TypeId) (x y : Operand) (ho : o.op = .indexAddr t x y) (hu : Try.prog.underlying t = some (.slice e)) (hs : (Try.prog.info? e).map (·.size) = some 1) (ad : Addr) (n cap i : Nat) (hx : a.eval x = .slice (some ad) n cap) (hy : a.eval y = .int .i64 (i : Int)) (hi : i < n) :
    (execOp a.eval o).run Try.prog w = .ok (.value (.pointer (some (ad.add i)))) w := by
  have h1 : (i : Int) < (n : Int) := by omega
  have h2 : decide ((i : Int) < 0) = false := by simp
  obtain ⟨ti, hti, hts⟩ := Option.map_eq_some_iff.1 hs
  unfold execOp
  simp only [ho]
  generalize a.eval = ρ at *
  simp only [hx, hy]
  go_simp
  simp [sizeOf, typeInfo, hti, hts]
theorem exec_at0' {a : Act} {o : Oper} {w : World} (t e : TypeId) (x y : Operand) (ho : o.op = .indexAddr t x y) (hu : Try.prog.underlying t = some (.slice e)) (hs : (Try.prog.info? e).map (·.size) = some 1) (g n cap i : Nat) (hx : a.eval x = .slice (some ⟨g, 0, none⟩) n cap) (hy : a.eval y = .int .i64 (i : Int)) (hi : i < n) :
    (execOp a.eval o).run Try.prog w = .ok (.value (.pointer (some ⟨g, i, none⟩))) w := by
  have := exec_at (w := w) t e x y ho hu hs ⟨g, 0, none⟩ n cap i hx hy hi
  rw [add_lit, Nat.zero_add] at this
  exact this
theorem exec_sub1 {a : Act} {o : Oper} {w : World} (x : Operand) (ho : o.op = .binOp .sub 3 x (.const (.int .i64 1)) 3) (p q : Int) (hx : a.eval x = .int .i64 p) (hq : q = p - 1) (hb : 0 ≤ q ∧ q ≤ 9223372036854775807) :
    (execOp a.eval o).run Try.prog w = .ok (.value (.int .i64 q)) w := by
  have h1 : a.eval (.const (.int .i64 1)) = .int .i64 1 := rfl
  unfold execOp
  simp only [ho, hx, h1]
  go_simp
  rw [IntKind.wrap_i64]
  omega
/-- s[1:], of a slice anywhere in its block -/
theorem exec_tail {a : Act} {o : Oper} {w : World} (t e : TypeId) (x : Operand) (ho : o.op = .slice t x (some (.const (.int .i64 1))) none none) (hu : Try.prog.underlying t = some (.slice e)) (hs : ∀ w, (sizeOf e).run Try.prog w = .ok 1 w) (g off L cap : Nat) (hx : a.eval x = .slice (some ⟨g, off, none⟩) (L + 1) cap) (hlc : L + 1 ≤ cap) (h63 : cap ≤ 9223372036854775807) :
    (execOp a.eval o).run Try.prog w = .ok (.value (.slice (some ⟨g, if cap = 1 then off else off + 1, none⟩) L (cap - 1))) w := by
  have h1 : a.eval (.const (.int .i64 1)) = .int .i64 1 := rfl
  have hnn : (1 : Int) ≤ (cap : Int) := by omega
  have hnl : (1 : Int) ≤ ((L + 1 : Nat) : Int) := by omega
  unfold execOp
  simp only [ho]
  generalize a.eval = ρ at *
  simp only [Option.map_some, Option.map_none, hx, h1]
  go_simp
  all_goals (split <;> simp_all)
  all_goals (by_cases hc : cap = 1 <;> simp [hc])
theorem sizeOf32 (w : World) : (sizeOf 32).run Try.prog w = .ok 1 w := by kernel_rfl
theorem map_set (v : Nat → Value) (u : Value) (n j : Nat) : ((List.range n).map v).set j u = (List.range n).map fun i => if i = j then u else v i := by
  apply List.ext_getElem
  · simp
  · intro i h1 h2
    simp [List.getElem_set]
    by_cases e : j = i
    · subst e
      simp
    · rw [if_neg e, if_neg (fun h => e h.symm)]
/-- a box is none of what a call on a port writes -/
theorem Pi.far {w0 w : World} {X G M gW gL : Nat} {vp vx : Value} {f : Int → Option Nat} {part : Int} {ps : List Pt} {st : Nat → PoS} (h : Pi w0 w X G M gW gL vp vx f part ps st) {j : Nat} {p : Pt} (hp : ps[j]? = some p) (he : p.part = part) {t : TypeId} (h1 : t ≠ 95) (h2 : t ≠ 32) : Far w (Dq (st j).E (st j).vq) t :=
  dq_far (h.ends j p hp he).2.1 (h.qv j) h1 h2
set_option maxHeartbeats 8000000 in
set_option maxRecDepth 1000000 in
theorem sw_yes_lose {w wr : World} {X G M gW gL : Nat} {B1 B2 : Option Addr} {k1 d1 n d2 : Nat} {f : Int → Option Nat} {part : Int} {ps : List Pt} {st : Nat → PoS} {B : Nat} {kind now sort : Int} {dA : Option Addr} {dl dcap : Nat} {out : Bool} {j : Nat} {p : Pt} (u0 u1 u2 u3 u4 u5 u6 u12 u16 u17 u18 u19 u20 u21 u22 u23 u24 u25 u26 u27 u28 u29 u30 u31 u32 u33 u34 u35 u36 u37 u38 u39 u40 u41 u42 u43 u44 u45 u46 u47 u48 u49 u50 u51 u52 u53 u54 u55 u56 u57 u58 u59 u60 u61 u62 u63 u64 u65 u66 u67 u68 u69 u70 u71 u72 u73 u74 u75 u76 u77 u78 u79 u80 u81 u82 u83 u84 u85 u86 u87 u88 u89 u90 u91 u94 u95 u96 u97 u98 u99 u100 u101 u102 u103 u104 u105 u106 u107 u108 u109 u110 u111 u112 u113 u114 u115 u116 u117 u118 u119 u120 u121 u122 u123 u124 u125 u126 u127 u128 u129 u130 u131 u132 u133 u134 u135 u136 u137 u138 u139 u140 u141 u142 u143 u144 u145 u146 u147 u148 u149 u150 u151 u152 u153 u154 u155 u156 u157 u158 u159 u160 u161 u162 u163 u164 u165 u166 u167 u168 u169 u170 u171 u172 u173 u174 u175 u176 u177 u178 u179 u180 u181 u182 u183 u184 u185 u186 u187 u188 u189 u190 u191 u192 u193 u194 u195 u196 u197 u198 u199 u200 u201 u202 u203 u204 u205 u206 u207 u208 u209 u210 u211 u212 u213 u214 u215 u216 u217 u218 u219 u220 u221 u222 u223 u224 u225 u226 u227 u228 u229 u230 u231 u232 u233 u234 u235 u236 u237 u238 u239 u240 u241 u242 u243 u244 u245 u246 u247 u248 u249 u250 u251 u252 u253 u254 u255 u256 u257 u258 u259 u260 u261 u262 u263 u264 u265 u266 u267 u268 u269 u270 u271 u272 u273 u274 u275 u276 u277 u278 u279 u280 u281 u282 u283 u284 u285 u286 u287 u288 u289 u290 u291 u292 u293 u294 u295 u296 u297 u298 u299 u300 u301 u302 u303 u304 u305 u306 u307 u308 u309 u310 u311 u312 u313 u314 u315 u316 u317 u318 u319 : Value) (hR : Ri w wr X G M gW gL (.slice B1 k1 d1) (.slice B2 n d2) f part ps st) (hB : Row wr B 57 [.int .i64 kind, .int .i64 ((j : Int) + 1), .slice dA dl dcap, .int .i64 now, .int .i64 sort, .bool out]) (hF : Fine ps) (hn : ps.length = n) (hp : ps[j]? = some p) (he : p.part = part) (hk1 : p.kind = 1) (hkind : kind = 3) (ho : p.out = false) {K : Act → World → Prop} {Q0 : Exit → Act → World → Prop} (hQ0 : ∀ x (a : Act) d v w, Q0 (.panic x) (a.put (some d) v) w → Q0 (.panic x) a w) (hK : ∀ (v16 v17 v18 v19 v20 v21 v22 v23 v92 v93 v94 v95 v96 v97 v98 v99 v100 v101 v102 v103 v104 v105 v106 v107 v108 v109 v110 v111 v112 v113 v114 v115 v116 v117 v118 v119 v120 v121 v122 v123 v124 v125 v126 v127 v128 v129 v130 v131 v132 v133 v134 v135 v136 v137 v138 v139 v140 v141 v142 v143 v144 v145 v146 v147 v148 v149 v150 v151 v152 v153 v154 v155 v156 v157 v158 v159 v160 v161 v162 v163 v164 v165 v166 v167 v168 v169 v170 v171 v172 v173 v174 v175 v176 v177 v178 v179 v180 v181 v182 v183 v184 v185 v186 v187 v188 v189 v190 v191 v192 v193 v194 v195 v196 v197 v198 v199 v200 v201 v202 v203 v204 v205 v206 v207 v208 v209 v210 v211 v212 v213 v214 v215 v216 v217 v218 v219 v220 v221 v222 v223 v224 v225 v226 v227 v228 v229 v230 v231 v232 v233 v234 v235 v236 v237 v238 v239 v240 v241 v242 v243 v244 v245 v246 v247 v248 v249 v250 v251 v252 v253 v254 v255 v256 v257 v258 v259 v260 v261 v262 v263 v264 v265 v266 v267 : Value) (w' : World) (st' : Nat → PoS), Ri w w' X G M gW gL (.slice B1 k1 d1) (.slice B2 n d2) f part ps st' → K ⟨#[u0, u1, u2, u3, u4, u5, u6, .pointer (some ⟨X, 0, none⟩), .int .i64 part, .pointer (some ⟨G, 0, none⟩), .slice (some ⟨gW, 0, none⟩) n n, .slice (some ⟨gL, 0, none⟩) n n, u12, .pointer (some ⟨B, 0, none⟩), .bool true, .bool true, v16, v17, v18, v19, v20, v21, v22, v23, u24, u25, u26, u27, u28, u29, u30, u31, u32, u33, u34, u35, u36, u37, u38, u39, u40, u41, u42, u43, u44, u45, u46, u47, u48, u49, u50, u51, u52, u53, u54, u55, u56, u57, u58, u59, u60, u61, u62, u63, u64, u65, u66, u67, u68, u69, u70, u71, u72, u73, u74, u75, u76, u77, u78, u79, u80, u81, u82, u83, u84, u85, u86, u87, u88, u89, u90, u91, v92, v93, v94, v95, v96, v97, v98, v99, v100, v101, v102, v103, v104, v105, v106, v107, v108, v109, v110, v111, v112, v113, v114, v115, v116, v117, v118, v119, v120, v121, v122, v123, v124, v125, v126, v127, v128, v129, v130, v131, v132, v133, v134, v135, v136, v137, v138, v139, v140, v141, v142, v143, v144, v145, v146, v147, v148, v149, v150, v151, v152, v153, v154, v155, v156, v157, v158, v159, v160, v161, v162, v163, v164, v165, v166, v167, v168, v169, v170, v171, v172, v173, v174, v175, v176, v177, v178, v179, v180, v181, v182, v183, v184, v185, v186, v187, v188, v189, v190, v191, v192, v193, v194, v195, v196, v197, v198, v199, v200, v201, v202, v203, v204, v205, v206, v207, v208, v209, v210, v211, v212, v213, v214, v215, v216, v217, v218, v219, v220, v221, v222, v223, v224, v225, v226, v227, v228, v229, v230, v231, v232, v233, v234, v235, v236, v237, v238, v239, v240, v241, v242, v243, v244, v245, v246, v247, v248, v249, v250, v251, v252, v253, v254, v255, v256, v257, v258, v259, v260, v261, v262, v263, v264, v265, v266, v267, u268, u269, u270, u271, u272, u273, u274, u275, u276, u277, u278, u279, u280, u281, u282, u283, u284, u285, u286, u287, u288, u289, u290, u291, u292, u293, u294, u295, u296, u297, u298, u299, u300, u301, u302, u303, u304, u305, u306, u307, u308, u309, u310, u311, u312, u313, u314, u315, u316, u317, u318, u319], []⟩ w') :
    Code.wp Try.prog sw5 (Exit.then K Q0) ⟨#[u0, u1, u2, u3, u4, u5, u6, .pointer (some ⟨X, 0, none⟩), .int .i64 part, .pointer (some ⟨G, 0, none⟩), .slice (some ⟨gW, 0, none⟩) n n, .slice (some ⟨gL, 0, none⟩) n n, u12, .pointer (some ⟨B, 0, none⟩), .bool true, .bool true, u16, u17, u18, u19, u20, u21, u22, u23, u24, u25, u26, u27, u28, u29, u30, u31, u32, u33, u34, u35, u36, u37, u38, u39, u40, u41, u42, u43, u44, u45, u46, u47, u48, u49, u50, u51, u52, u53, u54, u55, u56, u57, u58, u59, u60, u61, u62, u63, u64, u65, u66, u67, u68, u69, u70, u71, u72, u73, u74, u75, u76, u77, u78, u79, u80, u81, u82, u83, u84, u85, u86, u87, u88, u89, u90, u91, .pointer (some ⟨B, 0, none⟩), .int .i64 kind, u94, u95, u96, u97, u98, u99, u100, u101, u102, u103, u104, u105, u106, u107, u108, u109, u110, u111, u112, u113, u114, u115, u116, u117, u118, u119, u120, u121, u122, u123, u124, u125, u126, u127, u128, u129, u130, u131, u132, u133, u134, u135, u136, u137, u138, u139, u140, u141, u142, u143, u144, u145, u146, u147, u148, u149, u150, u151, u152, u153, u154, u155, u156, u157, u158, u159, u160, u161, u162, u163, u164, u165, u166, u167, u168, u169, u170, u171, u172, u173, u174, u175, u176, u177, u178, u179, u180, u181, u182, u183, u184, u185, u186, u187, u188, u189, u190, u191, u192, u193, u194, u195, u196, u197, u198, u199, u200, u201, u202, u203, u204, u205, u206, u207, u208, u209, u210, u211, u212, u213, u214, u215, u216, u217, u218, u219, u220, u221, u222, u223, u224, u225, u226, u227, u228, u229, u230, u231, u232, u233, u234, u235, u236, u237, u238, u239, u240, u241, u242, u243, u244, u245, u246, u247, u248, u249, u250, u251, u252, u253, u254, u255, u256, u257, u258, u259, u260, u261, u262, u263, u264, u265, u266, u267, u268, u269, u270, u271, u272, u273, u274, u275, u276, u277, u278, u279, u280, u281, u282, u283, u284, u285, u286, u287, u288, u289, u290, u291, u292, u293, u294, u295, u296, u297, u298, u299, u300, u301, u302, u303, u304, u305, u306, u307, u308, u309, u310, u311, u312, u313, u314, u315, u316, u317, u318, u319], []⟩ wr := by
  conv => arg 2; whnf
  have HR := Lib.hid hR
  have HB := Lib.hid hB
  have HK := Lib.hid hK
  have hjn : j < n := by
    have := (List.getElem?_eq_some_iff.1 hp).1
    omega
  have hn64 : n ≤ 64 := by
    have := hF.1
    omega
  have hw1 : wrap64 ((j : Int) + 1 - 1) = (j : Int) := by unfold wrap64; omega
  obtain ⟨gp, rfl, hpc⟩ := hR.pi.cells hp
  obtain ⟨Aw, cw, hvw, hmwl, hkp⟩ := hR.kept (j := j) (by omega)
  have HPC := Lib.hid hpc
  have HKP := Lib.hid hkp
  have hj6 : j * 6 ≤ 400 := by omega
  subst hkind
  have HQ := Lib.hid (hR.pi.lose_yes hF hp he ⟨hk1, ho⟩)
  have HFB := Lib.hid (hR.pi.far hp he (t := 57) (by decide) (by decide))
  have HFW := Lib.hid (hR.pi.far hp he (t := 31) (by decide) (by decide))
  have HFL := Lib.hid (hR.pi.far hp he (t := 3) (by decide) (by decide))
  have HJ : Hid (j < ps.length) := by
    show j < ps.length
    omega
  have c0 : wr.cell? ⟨B, 0, none⟩ = some (.int .i64 3) := by rw [HB.out.cell]; rfl
  have c1 : wr.cell? ⟨B, 1, none⟩ = some (.int .i64 ((j : Int) + 1)) := by rw [HB.out.cell]; rfl
  have c2 : wr.cell? ⟨B, 2, none⟩ = some (.slice dA dl dcap) := by rw [HB.out.cell]; rfl
  have c3 : wr.cell? ⟨B, 3, none⟩ = some (.int .i64 now) := by rw [HB.out.cell]; rfl
  clear hR hB hK hF hn hp he hk1 hpc hkp hvw hmwl ho
  go_wp2_with (fail)
  refine HQ.out.mono ?_
  rintro e w2 ⟨rfl, hpi, hc2⟩
  have HB2 := Lib.hid (HB.out.keep hc2 (HFB.out _ _ HB.out))
  have HPI := Lib.hid hpi
  have z2 : w2.cell? ⟨gL, j, none⟩ = some (.int .i64 (st j).lost) := by
    rw [(HR.out.pi.rL.keep hc2 (HFL.out _ _ HR.out.pi.rL)).cell, List.getElem?_map, List.getElem?_range HJ.out, (HR.out.eq j).2]
    rfl
  have f2 : w2.frozen? ⟨gL, j, none⟩ = false := (HR.out.pi.rL.keep hc2 (HFL.out _ _ HR.out.pi.rL)).frozen _
  have HL2 := Lib.hid (HR.out.pi.rL.keep hc2 (HFL.out _ _ HR.out.pi.rL))
  clear hc2 hpi c0 c1 c2 c3
  have c0 : w2.cell? ⟨B, 0, none⟩ = some (.int .i64 3) := by rw [HB2.out.cell]; rfl
  have c1 : w2.cell? ⟨B, 1, none⟩ = some (.int .i64 ((j : Int) + 1)) := by rw [HB2.out.cell]; rfl
  have c2 : w2.cell? ⟨B, 2, none⟩ = some (.slice dA dl dcap) := by rw [HB2.out.cell]; rfl
  have c3 : w2.cell? ⟨B, 3, none⟩ = some (.int .i64 now) := by rw [HB2.out.cell]; rfl
  generalize hlo : (st j).lost = lo at z2
  have HLO := Lib.hid hlo
  clear hlo
  go_wp2_with (fail)
  have HX : Hid (Ri w (w2.setCell ⟨gL, j, none⟩ (.int .i64 (wrap64 (lo + 1)))) X G M gW gL (.slice B1 k1 d1) (.slice (some ⟨gp, 0, none⟩) n d2) f part ps (updS (updS st j { st j with lost := wrap64 ((st j).lost + 1) }) j { (updS st j { st j with lost := wrap64 ((st j).lost + 1) }) j with los := wrap64 (lo + 1) })) := by
    refine ⟨HPI.out.lose ?_ (Ch.setCell (D := Is gL) (p := ⟨gL, j, none⟩) (Ch.refl _ _) (fun _ => rfl) _), fun i => ?_⟩
    · have h1 := HL2.out.set_ j (.int .i64 (wrap64 (lo + 1)))
      rw [map_set] at h1
      have e1 : ((List.range ps.length).map fun i => if i = j then Value.int .i64 (wrap64 (lo + 1)) else .int .i64 (st i).los) = (List.range ps.length).map fun i => .int .i64 (if i = j then wrap64 (lo + 1) else (updS st j { st j with lost := wrap64 ((st j).lost + 1) } i).los) := List.map_congr_left (fun i _ => by
        by_cases e : i = j
        · rw [if_pos e, if_pos e]
        · rw [if_neg e, if_neg e, updS_other _ _ e])
      rw [e1] at h1
      exact h1
    · by_cases e : i = j
      · subst e
        rw [updS_self, updS_self]
        exact ⟨(HR.out.eq i).1, by show wrap64 ((st i).lost + 1) = wrap64 (lo + 1); rw [HLO.out]⟩
      · rw [updS_other _ _ e, updS_other _ _ e]
        exact HR.out.eq i
  exact HK.out _ _ _ _ _ _ _ _ _ _ _ _ _ _ _ _ _ _ _ _ _ _ _ _ _ _ _ _ _ _ _ _ _ _ _ _ _ _ _ _ _ _ _ _ _ _ _ _ _ _ _ _ _ _ _ _ _ _ _ _ _ _ _ _ _ _ _ _ _ _ _ _ _ _ _ _ _ _ _ _ _ _ _ _ _ _ _ _ _ _ _ _ _ _ _ _ _ _ _ _ _ _ _ _ _ _ _ _ _ _ _ _ _ _ _ _ _ _ _ _ _ _ _ _ _ _ _ _ _ _ _ _ _ _ _ _ _ _ _ _ _ _ _ _ _ _ _ _ _ _ _ _ _ _ _ _ _ _ _ _ _ _ _ _ _ _ _ _ _ _ _ _ _ _ _ _ _ _ _ _ _ _ _ _ _ _ HX.out
set_option maxHeartbeats 8000000 in
set_option maxRecDepth 1000000 in
theorem sw_yes_pop {w wr : World} {X G M gW gL : Nat} {B1 B2 : Option Addr} {k1 d1 n d2 : Nat} {f : Int → Option Nat} {part : Int} {ps : List Pt} {st : Nat → PoS} {B : Nat} {kind now sort : Int} {dA : Option Addr} {dl dcap : Nat} {out : Bool} {j : Nat} {p : Pt} (u0 u1 u2 u3 u4 u5 u6 u12 u16 u17 u18 u19 u20 u21 u22 u23 u24 u25 u26 u27 u28 u29 u30 u31 u32 u33 u34 u35 u36 u37 u38 u39 u40 u41 u42 u43 u44 u45 u46 u47 u48 u49 u50 u51 u52 u53 u54 u55 u56 u57 u58 u59 u60 u61 u62 u63 u64 u65 u66 u67 u68 u69 u70 u71 u72 u73 u74 u75 u76 u77 u78 u79 u80 u81 u82 u83 u84 u85 u86 u87 u88 u89 u90 u91 u94 u95 u96 u97 u98 u99 u100 u101 u102 u103 u104 u105 u106 u107 u108 u109 u110 u111 u112 u113 u114 u115 u116 u117 u118 u119 u120 u121 u122 u123 u124 u125 u126 u127 u128 u129 u130 u131 u132 u133 u134 u135 u136 u137 u138 u139 u140 u141 u142 u143 u144 u145 u146 u147 u148 u149 u150 u151 u152 u153 u154 u155 u156 u157 u158 u159 u160 u161 u162 u163 u164 u165 u166 u167 u168 u169 u170 u171 u172 u173 u174 u175 u176 u177 u178 u179 u180 u181 u182 u183 u184 u185 u186 u187 u188 u189 u190 u191 u192 u193 u194 u195 u196 u197 u198 u199 u200 u201 u202 u203 u204 u205 u206 u207 u208 u209 u210 u211 u212 u213 u214 u215 u216 u217 u218 u219 u220 u221 u222 u223 u224 u225 u226 u227 u228 u229 u230 u231 u232 u233 u234 u235 u236 u237 u238 u239 u240 u241 u242 u243 u244 u245 u246 u247 u248 u249 u250 u251 u252 u253 u254 u255 u256 u257 u258 u259 u260 u261 u262 u263 u264 u265 u266 u267 u268 u269 u270 u271 u272 u273 u274 u275 u276 u277 u278 u279 u280 u281 u282 u283 u284 u285 u286 u287 u288 u289 u290 u291 u292 u293 u294 u295 u296 u297 u298 u299 u300 u301 u302 u303 u304 u305 u306 u307 u308 u309 u310 u311 u312 u313 u314 u315 u316 u317 u318 u319 : Value) (hR : Ri w wr X G M gW gL (.slice B1 k1 d1) (.slice B2 n d2) f part ps st) (hB : Row wr B 57 [.int .i64 kind, .int .i64 ((j : Int) + 1), .slice dA dl dcap, .int .i64 now, .int .i64 sort, .bool out]) (hF : Fine ps) (hn : ps.length = n) (hp : ps[j]? = some p) (he : p.part = part) (hk1 : p.kind = 1) (hkind : kind = 2) {xs : List Int} {q' : List (List Int)} (hq : (st j).q = xs :: q') {K : Act → World → Prop} {Q0 : Exit → Act → World → Prop} (hQ0 : ∀ x (a : Act) d v w, Q0 (.panic x) (a.put (some d) v) w → Q0 (.panic x) a w) (hK : ∀ (v16 v17 v18 v19 v20 v21 v22 v23 v92 v93 v94 v95 v96 v97 v98 v99 v100 v101 v102 v103 v104 v105 v106 v107 v108 v109 v110 v111 v112 v113 v114 v115 v116 v117 v118 v119 v120 v121 v122 v123 v124 v125 v126 v127 v128 v129 v130 v131 v132 v133 v134 v135 v136 v137 v138 v139 v140 v141 v142 v143 v144 v145 v146 v147 v148 v149 v150 v151 v152 v153 v154 v155 v156 v157 v158 v159 v160 v161 v162 v163 v164 v165 v166 v167 v168 v169 v170 v171 v172 v173 v174 v175 v176 v177 v178 v179 v180 v181 v182 v183 v184 v185 v186 v187 v188 v189 v190 v191 v192 v193 v194 v195 v196 v197 v198 v199 v200 v201 v202 v203 v204 v205 v206 v207 v208 v209 v210 v211 v212 v213 v214 v215 v216 v217 v218 v219 v220 v221 v222 v223 v224 v225 v226 v227 v228 v229 v230 v231 v232 v233 v234 v235 v236 v237 v238 v239 v240 v241 v242 v243 v244 v245 v246 v247 v248 v249 v250 v251 v252 v253 v254 v255 v256 v257 v258 v259 v260 v261 v262 v263 v264 v265 v266 v267 : Value) (w' : World) (st' : Nat → PoS), Ri w w' X G M gW gL (.slice B1 k1 d1) (.slice B2 n d2) f part ps st' → K ⟨#[u0, u1, u2, u3, u4, u5, u6, .pointer (some ⟨X, 0, none⟩), .int .i64 part, .pointer (some ⟨G, 0, none⟩), .slice (some ⟨gW, 0, none⟩) n n, .slice (some ⟨gL, 0, none⟩) n n, u12, .pointer (some ⟨B, 0, none⟩), .bool true, .bool true, v16, v17, v18, v19, v20, v21, v22, v23, u24, u25, u26, u27, u28, u29, u30, u31, u32, u33, u34, u35, u36, u37, u38, u39, u40, u41, u42, u43, u44, u45, u46, u47, u48, u49, u50, u51, u52, u53, u54, u55, u56, u57, u58, u59, u60, u61, u62, u63, u64, u65, u66, u67, u68, u69, u70, u71, u72, u73, u74, u75, u76, u77, u78, u79, u80, u81, u82, u83, u84, u85, u86, u87, u88, u89, u90, u91, v92, v93, v94, v95, v96, v97, v98, v99, v100, v101, v102, v103, v104, v105, v106, v107, v108, v109, v110, v111, v112, v113, v114, v115, v116, v117, v118, v119, v120, v121, v122, v123, v124, v125, v126, v127, v128, v129, v130, v131, v132, v133, v134, v135, v136, v137, v138, v139, v140, v141, v142, v143, v144, v145, v146, v147, v148, v149, v150, v151, v152, v153, v154, v155, v156, v157, v158, v159, v160, v161, v162, v163, v164, v165, v166, v167, v168, v169, v170, v171, v172, v173, v174, v175, v176, v177, v178, v179, v180, v181, v182, v183, v184, v185, v186, v187, v188, v189, v190, v191, v192, v193, v194, v195, v196, v197, v198, v199, v200, v201, v202, v203, v204, v205, v206, v207, v208, v209, v210, v211, v212, v213, v214, v215, v216, v217, v218, v219, v220, v221, v222, v223, v224, v225, v226, v227, v228, v229, v230, v231, v232, v233, v234, v235, v236, v237, v238, v239, v240, v241, v242, v243, v244, v245, v246, v247, v248, v249, v250, v251, v252, v253, v254, v255, v256, v257, v258, v259, v260, v261, v262, v263, v264, v265, v266, v267, u268, u269, u270, u271, u272, u273, u274, u275, u276, u277, u278, u279, u280, u281, u282, u283, u284, u285, u286, u287, u288, u289, u290, u291, u292, u293, u294, u295, u296, u297, u298, u299, u300, u301, u302, u303, u304, u305, u306, u307, u308, u309, u310, u311, u312, u313, u314, u315, u316, u317, u318, u319], []⟩ w') :
    Code.wp Try.prog sw5 (Exit.then K Q0) ⟨#[u0, u1, u2, u3, u4, u5, u6, .pointer (some ⟨X, 0, none⟩), .int .i64 part, .pointer (some ⟨G, 0, none⟩), .slice (some ⟨gW, 0, none⟩) n n, .slice (some ⟨gL, 0, none⟩) n n, u12, .pointer (some ⟨B, 0, none⟩), .bool true, .bool true, u16, u17, u18, u19, u20, u21, u22, u23, u24, u25, u26, u27, u28, u29, u30, u31, u32, u33, u34, u35, u36, u37, u38, u39, u40, u41, u42, u43, u44, u45, u46, u47, u48, u49, u50, u51, u52, u53, u54, u55, u56, u57, u58, u59, u60, u61, u62, u63, u64, u65, u66, u67, u68, u69, u70, u71, u72, u73, u74, u75, u76, u77, u78, u79, u80, u81, u82, u83, u84, u85, u86, u87, u88, u89, u90, u91, .pointer (some ⟨B, 0, none⟩), .int .i64 kind, u94, u95, u96, u97, u98, u99, u100, u101, u102, u103, u104, u105, u106, u107, u108, u109, u110, u111, u112, u113, u114, u115, u116, u117, u118, u119, u120, u121, u122, u123, u124, u125, u126, u127, u128, u129, u130, u131, u132, u133, u134, u135, u136, u137, u138, u139, u140, u141, u142, u143, u144, u145, u146, u147, u148, u149, u150, u151, u152, u153, u154, u155, u156, u157, u158, u159, u160, u161, u162, u163, u164, u165, u166, u167, u168, u169, u170, u171, u172, u173, u174, u175, u176, u177, u178, u179, u180, u181, u182, u183, u184, u185, u186, u187, u188, u189, u190, u191, u192, u193, u194, u195, u196, u197, u198, u199, u200, u201, u202, u203, u204, u205, u206, u207, u208, u209, u210, u211, u212, u213, u214, u215, u216, u217, u218, u219, u220, u221, u222, u223, u224, u225, u226, u227, u228, u229, u230, u231, u232, u233, u234, u235, u236, u237, u238, u239, u240, u241, u242, u243, u244, u245, u246, u247, u248, u249, u250, u251, u252, u253, u254, u255, u256, u257, u258, u259, u260, u261, u262, u263, u264, u265, u266, u267, u268, u269, u270, u271, u272, u273, u274, u275, u276, u277, u278, u279, u280, u281, u282, u283, u284, u285, u286, u287, u288, u289, u290, u291, u292, u293, u294, u295, u296, u297, u298, u299, u300, u301, u302, u303, u304, u305, u306, u307, u308, u309, u310, u311, u312, u313, u314, u315, u316, u317, u318, u319], []⟩ wr := by
  conv => arg 2; whnf
  have HR := Lib.hid hR
  have HB := Lib.hid hB
  have HK := Lib.hid hK
  have hjn : j < n := by
    have := (List.getElem?_eq_some_iff.1 hp).1
    omega
  have hn64 : n ≤ 64 := by
    have := hF.1
    omega
  have hw1 : wrap64 ((j : Int) + 1 - 1) = (j : Int) := by unfold wrap64; omega
  obtain ⟨gp, rfl, hpc⟩ := hR.pi.cells hp
  obtain ⟨Aw, cw, hvw, hmwl, hkp⟩ := hR.kept (j := j) (by omega)
  have HPC := Lib.hid hpc
  have HKP := Lib.hid hkp
  have hj6 : j * 6 ≤ 400 := by omega
  subst hkind
  have HQ := Lib.hid (hR.pi.pop_yes hF hp he hk1 hq)
  have HFB := Lib.hid (hR.pi.far hp he (t := 57) (by decide) (by decide))
  have HJ : Hid (j < ps.length) := by
    show j < ps.length
    omega
  have HQQ := Lib.hid hq
  have HJN := Lib.hid hjn
  have HSUB : Hid ((j : Int) = (j : Int) + 1 - 1) := by
    show _ = _
    omega
  have HJB : Hid (0 ≤ (j : Int) ∧ (j : Int) ≤ 9223372036854775807) := ⟨by omega, by omega⟩
  have c0 : wr.cell? ⟨B, 0, none⟩ = some (.int .i64 2) := by rw [HB.out.cell]; rfl
  have c1 : wr.cell? ⟨B, 1, none⟩ = some (.int .i64 ((j : Int) + 1)) := by rw [HB.out.cell]; rfl
  have c2 : wr.cell? ⟨B, 2, none⟩ = some (.slice dA dl dcap) := by rw [HB.out.cell]; rfl
  have c3 : wr.cell? ⟨B, 3, none⟩ = some (.int .i64 now) := by rw [HB.out.cell]; rfl
  clear hR hB hK hF hn hp he hk1 hpc hkp hvw hmwl hq
  go_wp2_with (fail)
  refine HQ.out.mono ?_
  rintro e w2 ⟨m, rfl, hmg, hc2, vq', ms', hpi⟩
  have HB2 := Lib.hid (HB.out.keep hc2 (HFB.out _ _ HB.out))
  obtain ⟨S1, hS1⟩ : ∃ s, s = { st j with vq := vq', ms := ms', q := q' } := ⟨_, rfl⟩
  rw [← hS1] at hpi
  have e1 : S1.vw = (st j).vw ∧ S1.mw = (st j).mw ∧ S1.r = (st j).r ∧ S1.q = q' ∧ S1.lost = (st j).lost ∧ S1.los = (st j).los := by
    rw [hS1]
    exact ⟨rfl, rfl, rfl, rfl, rfl, rfl⟩
  obtain ⟨gm, cm, restm, rfl, hrm, hln⟩ := hmg
  have HPI := Lib.hid hpi
  have hq2 : Qv w2 (st j).vw (st j).mw := by
    have := hpi.qw j
    rw [updS_self, e1.1, e1.2.1] at this
    exact this
  have hm2 : Mss w2 (st j).mw (xs :: q') := by
    have := hpi.mw j
    rw [updS_self, e1.2.1, e1.2.2.1, ← (HR.out.eq j).1, HQQ.out] at this
    exact this
  obtain ⟨mw0, mw', hmm⟩ : ∃ m ms', (st j).mw = m :: ms' := by
    cases hh : (st j).mw with
    | nil =>
      rw [hh] at hm2
      have := hm2.1
      simp at this
    | cons a b => exact ⟨a, b, rfl⟩
  rw [hmm] at hq2 hm2
  obtain ⟨hm2', hmg0⟩ := hm2.tail
  obtain ⟨g, off, cw0, hvw0, hlc, hcm, hcell, hnext⟩ := hq2.head
  obtain ⟨g0, cp0, rest0, e0, hr0, -⟩ := hmg0
  subst e0
  obtain ⟨l, hl⟩ : ∃ l, mw'.length = l := ⟨_, rfl⟩
  rw [hl] at hvw0 hlc hnext
  have z1 : w2.cell? ⟨gW, j, none⟩ = some (.slice (some ⟨g, off, none⟩) (l + 1) cw0) := by
    rw [hpi.rW.cell, List.getElem?_map, List.getElem?_range HJ.out]
    show some (updS st j S1 j).vw = _
    rw [updS_self, e1.1, hvw0]
  have f1 : w2.frozen? ⟨gW, j, none⟩ = false := hpi.rW.frozen _
  have hcw63 : cw0 ≤ 9223372036854775807 := by unfold maxLen at hcm; omega
  have HZ1 := Lib.hid z1
  have HCE := Lib.hid hcell
  have hxl63 : Hid (xs.length ≤ 9223372036854775807) := Nat.le_trans hln (by decide)
  have HSA := Lib.hid (same_calls (w := w2) (v := .slice (some ⟨gm, 0, none⟩) xs.length cm) (u := .slice (some ⟨g0, 0, none⟩) xs.length cp0) (xs := xs) (ys := xs) ⟨_, cm, rfl, row_cl hrm, hxl63.out⟩ ⟨_, cp0, rfl, row_cl hr0, hxl63.out⟩)
  rw [show decide (xs = xs) = true by simp] at HSA
  have HFIN : Hid (∀ (w3 : World) (off' : Nat), Ch No w2 w3 → (1 < cw0 → off' = off + 1) → ∀ nq : Nat, Ri w ((w3.drewN nq).setCell ⟨gW, j, none⟩ (.slice (some ⟨g, off', none⟩) l (cw0 - 1))) X G M gW gL (.slice B1 k1 d1) (.slice (some ⟨gp, 0, none⟩) n d2) f part ps (updS (updS st j S1) j { (updS st j S1) j with vw := .slice (some ⟨g, off', none⟩) l (cw0 - 1), mw := mw', r := q' })) := by
    intro w3 off' hc3 ho nq
    have hpi3 := (hpi.keepNo hc3).keepNo ((Ch.refl No w3).drewN nq)
    have hch : Ch (Is gW) (w3.drewN nq) ((w3.drewN nq).setCell ⟨gW, j, none⟩ (.slice (some ⟨g, off', none⟩) l (cw0 - 1))) := Ch.setCell (D := Is gW) (p := ⟨gW, j, none⟩) (Ch.refl _ _) (fun _ => rfl) _
    have hqn : Qv ((w3.drewN nq).setCell ⟨gW, j, none⟩ (.slice (some ⟨g, off', none⟩) l (cw0 - 1))) (.slice (some ⟨g, off', none⟩) l (cw0 - 1)) mw' := by
      have h1 := ((hnext off' ho).keepNo hc3).keepNo ((Ch.refl No w3).drewN nq)
      exact h1.keep hch (fun k hk hd => by
        have e : k = gW := hd
        subst e
        exact h1.ne_row hpi3.rW (by decide) hk)
    have hmn : Mss ((w3.drewN nq).setCell ⟨gW, j, none⟩ (.slice (some ⟨g, off', none⟩) l (cw0 - 1))) mw' q' := by
      refine ((hm2'.keep hc3 (fun _ _ _ => not_no _)).keep ((Ch.refl No w3).drewN nq) (fun _ _ _ => not_no _)).keep hch (fun g' L' hg' hd => ?_)
      have e : g' = gW := hd
      subst e
      exact absurd (hg'.eq_ hpi3.rW).1 (by decide)
    have hrw := hpi3.rW.set_ j (.slice (some ⟨g, off', none⟩) l (cw0 - 1))
    rw [map_set] at hrw
    refine ⟨hpi3.wait hrw hqn hmn (hch.mono (fun k _ hk => .inl hk)) (fun k hk => .inl ?_), fun i => ?_⟩
    · rw [updS_self, e1.1, hvw0]
      have h0 : ¬ cw0 = 0 := by omega
      by_cases h1 : cw0 - 1 = 0
      · simp [qblk, h1] at hk
      · simp [qblk, h1] at hk
        simp [qblk, h0, hk]
    · by_cases e : i = j
      · subst e
        rw [updS_self, updS_self]
        refine ⟨e1.2.2.2.1, ?_⟩
        show S1.lost = S1.los
        rw [e1.2.2.2.2.1, e1.2.2.2.2.2]
        exact (HR.out.eq i).2
      · rw [updS_other _ _ e, updS_other _ _ e]
        exact HR.out.eq i
  clear hln hpi hq2 hm2 hm2' hr0 hrm hnext hvw0 hmm e1 hS1 hc2 hl c0 c1 c2 c3 hcm
  have c0 : w2.cell? ⟨B, 0, none⟩ = some (.int .i64 2) := by rw [HB2.out.cell]; rfl
  have c1 : w2.cell? ⟨B, 1, none⟩ = some (.int .i64 ((j : Int) + 1)) := by rw [HB2.out.cell]; rfl
  have c2 : w2.cell? ⟨B, 2, none⟩ = some (.slice dA dl dcap) := by rw [HB2.out.cell]; rfl
  have c3 : w2.cell? ⟨B, 3, none⟩ = some (.int .i64 now) := by rw [HB2.out.cell]; rfl
  have hll : l + 1 ≤ cw0 := hlc
  go_wp2_with (fail)
  refine HSA.out.mono ?_
  rintro e w3 ⟨rfl, hc3⟩
  have HC3 := Lib.hid hc3
  have HB3 := Lib.hid (HB2.out.keepNo hc3)
  have zz : w3.cell? ⟨gW, j, none⟩ = some (.slice (some ⟨g, off, none⟩) (l + 1) cw0) := (HPI.out.keepNo hc3).rW.cell j ▸ (HPI.out.rW.cell j ▸ z1)
  have ff : w3.frozen? ⟨gW, j, none⟩ = false := (HPI.out.keepNo hc3).rW.frozen _
  clear hc3 z1 f1 hcell c0 c1 c2 c3
  have c0 : w3.cell? ⟨B, 0, none⟩ = some (.int .i64 2) := by rw [HB3.out.cell]; rfl
  have c1 : w3.cell? ⟨B, 1, none⟩ = some (.int .i64 ((j : Int) + 1)) := by rw [HB3.out.cell]; rfl
  have c2 : w3.cell? ⟨B, 2, none⟩ = some (.slice dA dl dcap) := by rw [HB3.out.cell]; rfl
  have c3 : w3.cell? ⟨B, 3, none⟩ = some (.int .i64 now) := by rw [HB3.out.cell]; rfl
  go_upto_region 29 with (fail)
  refine wp_region_qt 12 (by kernel_rfl) (by kernel_rfl) ?_
  simp only [List.take_succ_cons, List.take_zero, List.drop_succ_cons, List.drop_zero]
  refine wpQuiet_value (by rfl) (.slice (some ⟨gW, 0, none⟩) n n) (fun _ => by kernel_rfl) ?_
  simp only [Act.put, List.setIfInBounds_toArray, List.set_cons_zero, List.set_cons_succ]
  refine wpQuiet_value (by rfl) (.pointer (some ⟨B, 1, none⟩)) (fun _ => by kernel_rfl) ?_
  simp only [Act.put, List.setIfInBounds_toArray, List.set_cons_zero, List.set_cons_succ]
  refine wpQuiet_read (by rfl) (.int .i64 ((j : Int) + 1)) (fun w' hw' => by obtain ⟨qq, rfl⟩ := hw'; exact exec_load_cell 3 (.tmp 216) rfl ⟨B, 1, none⟩ rfl _ Try.underlying3 rfl _ c1) ?_
  simp only [Act.put, List.setIfInBounds_toArray, List.set_cons_zero, List.set_cons_succ]
  refine wpQuiet_value (by rfl) (.int .i64 (j : Int)) (fun _ => exec_sub1 (.tmp 217) rfl ((j : Int) + 1) (j : Int) rfl HSUB.out HJB.out) ?_
  simp only [Act.put, List.setIfInBounds_toArray, List.set_cons_zero, List.set_cons_succ]
  refine wpQuiet_value (by rfl) (.slice (some ⟨gW, 0, none⟩) n n) (fun _ => by kernel_rfl) ?_
  simp only [Act.put, List.setIfInBounds_toArray, List.set_cons_zero, List.set_cons_succ]
  refine wpQuiet_value (by rfl) (.pointer (some ⟨B, 1, none⟩)) (fun _ => by kernel_rfl) ?_
  simp only [Act.put, List.setIfInBounds_toArray, List.set_cons_zero, List.set_cons_succ]
  refine wpQuiet_read (by rfl) (.int .i64 ((j : Int) + 1)) (fun w' hw' => by obtain ⟨qq, rfl⟩ := hw'; exact exec_load_cell 3 (.tmp 220) rfl ⟨B, 1, none⟩ rfl _ Try.underlying3 rfl _ c1) ?_
  simp only [Act.put, List.setIfInBounds_toArray, List.set_cons_zero, List.set_cons_succ]
  refine wpQuiet_value (by rfl) (.int .i64 (j : Int)) (fun _ => exec_sub1 (.tmp 221) rfl ((j : Int) + 1) (j : Int) rfl HSUB.out HJB.out) ?_
  simp only [Act.put, List.setIfInBounds_toArray, List.set_cons_zero, List.set_cons_succ]
  refine wpQuiet_value (by rfl) (.pointer (some ⟨gW, j, none⟩)) (fun _ => exec_at0' 54 31 (.tmp 219) (.tmp 222) rfl Try.underlying54 size31 gW n n j rfl rfl HJN.out) ?_
  simp only [Act.put, List.setIfInBounds_toArray, List.set_cons_zero, List.set_cons_succ]
  refine wpQuiet_read (by rfl) (.slice (some ⟨g, off, none⟩) (l + 1) cw0) (fun w' hw' => by obtain ⟨qq, rfl⟩ := hw'; exact exec_load_cell 31 (.tmp 223) rfl ⟨gW, j, none⟩ rfl _ Try.underlying31 rfl _ zz) ?_
  simp only [Act.put, List.setIfInBounds_toArray, List.set_cons_zero, List.set_cons_succ]
  refine wpQuiet_value (by rfl) (.slice (some ⟨g, if cw0 = 1 then off else off + 1, none⟩) l (cw0 - 1)) (fun _ => exec_tail 31 32 (.tmp 224) rfl Try.underlying31 sizeOf32 g off l cw0 rfl hll hcw63) ?_
  simp only [Act.put, List.setIfInBounds_toArray, List.set_cons_zero, List.set_cons_succ]
  generalize hof : (if cw0 = 1 then off else off + 1) = off'
  have HOF : Hid (1 < cw0 → off' = off + 1) := fun h => by
    rw [← hof, if_neg (by omega)]
  clear hof
  refine wpQuiet_value (by rfl) (.pointer (some ⟨gW, j, none⟩)) (fun _ => exec_at0' 54 31 (.tmp 215) (.tmp 218) rfl Try.underlying54 size31 gW n n j rfl rfl HJN.out) ?_
  simp only [Act.put, List.setIfInBounds_toArray, List.set_cons_zero, List.set_cons_succ]
  refine wpQuiet_nil ?_
  intro _ hw'
  obtain ⟨nq, hw''⟩ := hw'
  subst hw''
  go_wp2_with (fail)
  have HX : Hid (Ri w ((w3.drewN nq).setCell ⟨gW, j, none⟩ (.slice (some ⟨g, off', none⟩) l (cw0 - 1))) X G M gW gL (.slice B1 k1 d1) (.slice (some ⟨gp, 0, none⟩) n d2) f part ps (updS (updS st j S1) j { (updS st j S1) j with vw := .slice (some ⟨g, off', none⟩) l (cw0 - 1), mw := mw', r := q' })) := HFIN.out _ _ HC3.out HOF.out nq
  exact HK.out _ _ _ _ _ _ _ _ _ _ _ _ _ _ _ _ _ _ _ _ _ _ _ _ _ _ _ _ _ _ _ _ _ _ _ _ _ _ _ _ _ _ _ _ _ _ _ _ _ _ _ _ _ _ _ _ _ _ _ _ _ _ _ _ _ _ _ _ _ _ _ _ _ _ _ _ _ _ _ _ _ _ _ _ _ _ _ _ _ _ _ _ _ _ _ _ _ _ _ _ _ _ _ _ _ _ _ _ _ _ _ _ _ _ _ _ _ _ _ _ _ _ _ _ _ _ _ _ _ _ _ _ _ _ _ _ _ _ _ _ _ _ _ _ _ _ _ _ _ _ _ _ _ _ _ _ _ _ _ _ _ _ _ _ _ _ _ _ _ _ _ _ _ _ _ _ _ _ _ _ _ _ _ _ _ _ HX.out
set_option maxHeartbeats 8000000 in
set_option maxRecDepth 1000000 in
theorem sw_yes_push {w wr : World} {X G M gW gL : Nat} {B1 B2 : Option Addr} {k1 d1 n d2 : Nat} {f : Int → Option Nat} {part : Int} {ps : List Pt} {st : Nat → PoS} {B : Nat} {kind now sort : Int} {dA : Option Addr} {dl dcap : Nat} {out : Bool} {j : Nat} {p : Pt} (u0 u1 u2 u3 u4 u5 u6 u12 u16 u17 u18 u19 u20 u21 u22 u23 u24 u25 u26 u27 u28 u29 u30 u31 u32 u33 u34 u35 u36 u37 u38 u39 u40 u41 u42 u43 u44 u45 u46 u47 u48 u49 u50 u51 u52 u53 u54 u55 u56 u57 u58 u59 u60 u61 u62 u63 u64 u65 u66 u67 u68 u69 u70 u71 u72 u73 u74 u75 u76 u77 u78 u79 u80 u81 u82 u83 u84 u85 u86 u87 u88 u89 u90 u91 u94 u95 u96 u97 u98 u99 u100 u101 u102 u103 u104 u105 u106 u107 u108 u109 u110 u111 u112 u113 u114 u115 u116 u117 u118 u119 u120 u121 u122 u123 u124 u125 u126 u127 u128 u129 u130 u131 u132 u133 u134 u135 u136 u137 u138 u139 u140 u141 u142 u143 u144 u145 u146 u147 u148 u149 u150 u151 u152 u153 u154 u155 u156 u157 u158 u159 u160 u161 u162 u163 u164 u165 u166 u167 u168 u169 u170 u171 u172 u173 u174 u175 u176 u177 u178 u179 u180 u181 u182 u183 u184 u185 u186 u187 u188 u189 u190 u191 u192 u193 u194 u195 u196 u197 u198 u199 u200 u201 u202 u203 u204 u205 u206 u207 u208 u209 u210 u211 u212 u213 u214 u215 u216 u217 u218 u219 u220 u221 u222 u223 u224 u225 u226 u227 u228 u229 u230 u231 u232 u233 u234 u235 u236 u237 u238 u239 u240 u241 u242 u243 u244 u245 u246 u247 u248 u249 u250 u251 u252 u253 u254 u255 u256 u257 u258 u259 u260 u261 u262 u263 u264 u265 u266 u267 u268 u269 u270 u271 u272 u273 u274 u275 u276 u277 u278 u279 u280 u281 u282 u283 u284 u285 u286 u287 u288 u289 u290 u291 u292 u293 u294 u295 u296 u297 u298 u299 u300 u301 u302 u303 u304 u305 u306 u307 u308 u309 u310 u311 u312 u313 u314 u315 u316 u317 u318 u319 : Value) (hR : Ri w wr X G M gW gL (.slice B1 k1 d1) (.slice B2 n d2) f part ps st) (hB : Row wr B 57 [.int .i64 kind, .int .i64 ((j : Int) + 1), .slice dA dl dcap, .int .i64 now, .int .i64 sort, .bool out]) (hF : Fine ps) (hn : ps.length = n) (hp : ps[j]? = some p) (he : p.part = part) (hk1 : p.kind = 1) (hkind : kind = 1) {ds : List Int} (hv : Sl wr (.slice dA dl dcap) ds) (hdl : ds.length = dl) (hdat : ∀ w' : World, Ch (Dq (st j).E (st j).vq) wr w' → Cl w' dA (ints ds)) (hsz : (dl : Int) = p.size) (hroom : ((st j).q.length : Int) < p.depth) {K : Act → World → Prop} {Q0 : Exit → Act → World → Prop} (hQ0 : ∀ x (a : Act) d v w, Q0 (.panic x) (a.put (some d) v) w → Q0 (.panic x) a w) (hK : ∀ (v16 v17 v18 v19 v20 v21 v22 v23 v92 v93 v94 v95 v96 v97 v98 v99 v100 v101 v102 v103 v104 v105 v106 v107 v108 v109 v110 v111 v112 v113 v114 v115 v116 v117 v118 v119 v120 v121 v122 v123 v124 v125 v126 v127 v128 v129 v130 v131 v132 v133 v134 v135 v136 v137 v138 v139 v140 v141 v142 v143 v144 v145 v146 v147 v148 v149 v150 v151 v152 v153 v154 v155 v156 v157 v158 v159 v160 v161 v162 v163 v164 v165 v166 v167 v168 v169 v170 v171 v172 v173 v174 v175 v176 v177 v178 v179 v180 v181 v182 v183 v184 v185 v186 v187 v188 v189 v190 v191 v192 v193 v194 v195 v196 v197 v198 v199 v200 v201 v202 v203 v204 v205 v206 v207 v208 v209 v210 v211 v212 v213 v214 v215 v216 v217 v218 v219 v220 v221 v222 v223 v224 v225 v226 v227 v228 v229 v230 v231 v232 v233 v234 v235 v236 v237 v238 v239 v240 v241 v242 v243 v244 v245 v246 v247 v248 v249 v250 v251 v252 v253 v254 v255 v256 v257 v258 v259 v260 v261 v262 v263 v264 v265 v266 v267 : Value) (w' : World) (st' : Nat → PoS), Ri w w' X G M gW gL (.slice B1 k1 d1) (.slice B2 n d2) f part ps st' → K ⟨#[u0, u1, u2, u3, u4, u5, u6, .pointer (some ⟨X, 0, none⟩), .int .i64 part, .pointer (some ⟨G, 0, none⟩), .slice (some ⟨gW, 0, none⟩) n n, .slice (some ⟨gL, 0, none⟩) n n, u12, .pointer (some ⟨B, 0, none⟩), .bool true, .bool true, v16, v17, v18, v19, v20, v21, v22, v23, u24, u25, u26, u27, u28, u29, u30, u31, u32, u33, u34, u35, u36, u37, u38, u39, u40, u41, u42, u43, u44, u45, u46, u47, u48, u49, u50, u51, u52, u53, u54, u55, u56, u57, u58, u59, u60, u61, u62, u63, u64, u65, u66, u67, u68, u69, u70, u71, u72, u73, u74, u75, u76, u77, u78, u79, u80, u81, u82, u83, u84, u85, u86, u87, u88, u89, u90, u91, v92, v93, v94, v95, v96, v97, v98, v99, v100, v101, v102, v103, v104, v105, v106, v107, v108, v109, v110, v111, v112, v113, v114, v115, v116, v117, v118, v119, v120, v121, v122, v123, v124, v125, v126, v127, v128, v129, v130, v131, v132, v133, v134, v135, v136, v137, v138, v139, v140, v141, v142, v143, v144, v145, v146, v147, v148, v149, v150, v151, v152, v153, v154, v155, v156, v157, v158, v159, v160, v161, v162, v163, v164, v165, v166, v167, v168, v169, v170, v171, v172, v173, v174, v175, v176, v177, v178, v179, v180, v181, v182, v183, v184, v185, v186, v187, v188, v189, v190, v191, v192, v193, v194, v195, v196, v197, v198, v199, v200, v201, v202, v203, v204, v205, v206, v207, v208, v209, v210, v211, v212, v213, v214, v215, v216, v217, v218, v219, v220, v221, v222, v223, v224, v225, v226, v227, v228, v229, v230, v231, v232, v233, v234, v235, v236, v237, v238, v239, v240, v241, v242, v243, v244, v245, v246, v247, v248, v249, v250, v251, v252, v253, v254, v255, v256, v257, v258, v259, v260, v261, v262, v263, v264, v265, v266, v267, u268, u269, u270, u271, u272, u273, u274, u275, u276, u277, u278, u279, u280, u281, u282, u283, u284, u285, u286, u287, u288, u289, u290, u291, u292, u293, u294, u295, u296, u297, u298, u299, u300, u301, u302, u303, u304, u305, u306, u307, u308, u309, u310, u311, u312, u313, u314, u315, u316, u317, u318, u319], []⟩ w') :
    Code.wp Try.prog sw5 (Exit.then K Q0) ⟨#[u0, u1, u2, u3, u4, u5, u6, .pointer (some ⟨X, 0, none⟩), .int .i64 part, .pointer (some ⟨G, 0, none⟩), .slice (some ⟨gW, 0, none⟩) n n, .slice (some ⟨gL, 0, none⟩) n n, u12, .pointer (some ⟨B, 0, none⟩), .bool true, .bool true, u16, u17, u18, u19, u20, u21, u22, u23, u24, u25, u26, u27, u28, u29, u30, u31, u32, u33, u34, u35, u36, u37, u38, u39, u40, u41, u42, u43, u44, u45, u46, u47, u48, u49, u50, u51, u52, u53, u54, u55, u56, u57, u58, u59, u60, u61, u62, u63, u64, u65, u66, u67, u68, u69, u70, u71, u72, u73, u74, u75, u76, u77, u78, u79, u80, u81, u82, u83, u84, u85, u86, u87, u88, u89, u90, u91, .pointer (some ⟨B, 0, none⟩), .int .i64 kind, u94, u95, u96, u97, u98, u99, u100, u101, u102, u103, u104, u105, u106, u107, u108, u109, u110, u111, u112, u113, u114, u115, u116, u117, u118, u119, u120, u121, u122, u123, u124, u125, u126, u127, u128, u129, u130, u131, u132, u133, u134, u135, u136, u137, u138, u139, u140, u141, u142, u143, u144, u145, u146, u147, u148, u149, u150, u151, u152, u153, u154, u155, u156, u157, u158, u159, u160, u161, u162, u163, u164, u165, u166, u167, u168, u169, u170, u171, u172, u173, u174, u175, u176, u177, u178, u179, u180, u181, u182, u183, u184, u185, u186, u187, u188, u189, u190, u191, u192, u193, u194, u195, u196, u197, u198, u199, u200, u201, u202, u203, u204, u205, u206, u207, u208, u209, u210, u211, u212, u213, u214, u215, u216, u217, u218, u219, u220, u221, u222, u223, u224, u225, u226, u227, u228, u229, u230, u231, u232, u233, u234, u235, u236, u237, u238, u239, u240, u241, u242, u243, u244, u245, u246, u247, u248, u249, u250, u251, u252, u253, u254, u255, u256, u257, u258, u259, u260, u261, u262, u263, u264, u265, u266, u267, u268, u269, u270, u271, u272, u273, u274, u275, u276, u277, u278, u279, u280, u281, u282, u283, u284, u285, u286, u287, u288, u289, u290, u291, u292, u293, u294, u295, u296, u297, u298, u299, u300, u301, u302, u303, u304, u305, u306, u307, u308, u309, u310, u311, u312, u313, u314, u315, u316, u317, u318, u319], []⟩ wr := by
  conv => arg 2; whnf
  have HR := Lib.hid hR
  have HB := Lib.hid hB
  have HK := Lib.hid hK
  have hjn : j < n := by
    have := (List.getElem?_eq_some_iff.1 hp).1
    omega
  have hn64 : n ≤ 64 := by
    have := hF.1
    omega
  have hw1 : wrap64 ((j : Int) + 1 - 1) = (j : Int) := by unfold wrap64; omega
  obtain ⟨gp, rfl, hpc⟩ := hR.pi.cells hp
  obtain ⟨Aw, cw, hvw, hmwl, hkp⟩ := hR.kept (j := j) (by omega)
  have HPC := Lib.hid hpc
  have HKP := Lib.hid hkp
  have hj6 : j * 6 ≤ 400 := by omega
  subst hkind
  have HQ := Lib.hid (hR.pi.push_yes hF hp he hk1 hv (by rw [hdl]; exact hsz) hroom)
  have bsz : ((dl : Int) == p.size) = true := by simp [hsz]
  have bfu : decide (((st j).q.length : Int) < p.depth) = true := decide_lt_t hroom
  have HFB := Lib.hid (hR.pi.far hp he (t := 57) (by decide) (by decide))
  have HFW := Lib.hid (hR.pi.far hp he (t := 31) (by decide) (by decide))
  have HF2 := Lib.hid (hR.pi.far hp he (t := 2) (by decide) (by decide))
  have HJ : Hid (j < ps.length) := by
    show j < ps.length
    omega
  have HJN := Lib.hid hjn
  have HP := Lib.hid hp
  have HDB : Hid (dl ≤ 1000000) := by
    have := hF.2 p (List.mem_of_getElem? hp)
    show dl ≤ 1000000
    omega
  have HML : Hid ((st j).mw.length < 1000000) := by
    have := hF.2 p (List.mem_of_getElem? hp)
    show _ < _
    rw [hmwl]
    omega
  have HDL := Lib.hid hdl
  have HVW := Lib.hid hvw
  have HSUB : Hid ((j : Int) = (j : Int) + 1 - 1) := by
    show _ = _
    omega
  have HJB : Hid (0 ≤ (j : Int) ∧ (j : Int) ≤ 9223372036854775807) := ⟨by omega, by omega⟩
  have HDAT : Hid (∀ w' : World, Ch (Dq (st j).E (st j).vq) wr w' → Cl w' dA (ints ds)) := hdat
  have HV := Lib.hid hv
  have c0 : wr.cell? ⟨B, 0, none⟩ = some (.int .i64 1) := by rw [HB.out.cell]; rfl
  have c1 : wr.cell? ⟨B, 1, none⟩ = some (.int .i64 ((j : Int) + 1)) := by rw [HB.out.cell]; rfl
  have c2 : wr.cell? ⟨B, 2, none⟩ = some (.slice dA dl dcap) := by rw [HB.out.cell]; rfl
  have c3 : wr.cell? ⟨B, 3, none⟩ = some (.int .i64 now) := by rw [HB.out.cell]; rfl
  obtain ⟨sz, hszz⟩ : ∃ s, p.size = s := ⟨_, rfl⟩
  obtain ⟨dp, hdpp⟩ : ∃ s, p.depth = s := ⟨_, rfl⟩
  rw [hszz] at bsz
  rw [hdpp] at bfu
  have HSZ := Lib.hid hszz
  have HDP := Lib.hid hdpp
  clear hszz hdpp
  obtain ⟨ql, hql⟩ : ∃ l, (st j).q.length = l := ⟨_, rfl⟩
  rw [hql] at bfu hvw HVW
  clear hR hB hK hF hn hp he hk1 hpc hkp hmwl hv hdl hsz hroom hvw hdat
  go_wp2_with (fail)
  refine HQ.out.mono ?_
  rintro e w2 ⟨rfl, vq', m2, hpi, hc2⟩
  have HB2 := Lib.hid (HB.out.keep hc2 (HFB.out _ _ HB.out))
  obtain ⟨S1, hS1⟩ : ∃ s, s = { st j with vq := vq', ms := (st j).ms ++ [m2], q := (st j).q ++ [ds] } := ⟨_, rfl⟩
  rw [← hS1] at hpi
  have e1 : S1.vw = (st j).vw ∧ S1.mw = (st j).mw ∧ S1.r = (st j).r ∧ S1.q = (st j).q ++ [ds] ∧ S1.lost = (st j).lost ∧ S1.los = (st j).los := by
    rw [hS1]
    exact ⟨rfl, rfl, rfl, rfl, rfl, rfl⟩
  have HPI := Lib.hid hpi
  have hq2 : Qv w2 (st j).vw (st j).mw := by
    have := hpi.qw j
    rw [updS_self, e1.1, e1.2.1] at this
    exact this
  have hm2 : Mss w2 (st j).mw (st j).r := by
    have := hpi.mw j
    rw [updS_self, e1.2.1, e1.2.2.1] at this
    exact this
  have HQV : Hid (Qv w2 (.slice Aw ql cw) (st j).mw) := by
    rw [← HVW.out]
    exact hq2
  have HZ : Hid (∀ w' : World, Ch No w2 w' → w'.cell? ⟨gW, j, none⟩ = some (.slice Aw ql cw)) := fun w' h => by
    rw [(hpi.rW.keepNo h).cell, List.getElem?_map, List.getElem?_range HJ.out]
    show some (updS st j S1 j).vw = _
    rw [updS_self, e1.1, HVW.out]
  obtain ⟨gp', egp, hpc2⟩ := hpi.cells HP.out
  have egp' : gp = gp' := by simpa using egp
  subst egp'
  have HM9 : Hid (∀ w' : World, Ch No w2 w' → Calls Try.prog 9 #[.slice dA dl dcap] w' (IsMarked w' ds)) := fun w' h => by
    have hc := hc2.trans h (D' := No) (fun _ _ h => h.elim)
    obtain ⟨A, c, e, hA, hl⟩ := HV.out
    refine marked_sl (v := .slice dA dl dcap) ⟨A, c, e, ?_, hl⟩ (by rw [HDL.out]; exact Nat.le_trans HDB.out (by decide))
    exact (HDAT.out w2 hc2).keepNo h |> fun hx => by
      simp at e
      obtain ⟨rfl, _, _⟩ := e
      exact hx
  have HSK : Hid (∀ w' : World, Ch No w2 w' → (fun w' : World => w'.cell? ⟨B, 1, none⟩ = some (.int .i64 ((j : Int) + 1)) ∧ w'.cell? ⟨B, 2, none⟩ = some (.slice dA dl dcap)) w') := fun w' h => by
    have hb := HB2.out.keepNo h
    exact ⟨by rw [hb.cell]; rfl, by rw [hb.cell]; rfl⟩
  have HAF : Hid (∀ (w5 w6 : World) (v6 m' : Value), Ch No w2 w5 → Qa w5 w6 (.slice Aw ql cw) v6 (st j).mw m' → ((fun w' : World => w'.cell? ⟨B, 1, none⟩ = some (.int .i64 ((j : Int) + 1)) ∧ w'.cell? ⟨B, 2, none⟩ = some (.slice dA dl dcap)) w6 ∧ (fun w' : World => w'.cell? ⟨B, 1, none⟩ = some (.int .i64 ((j : Int) + 1)) ∧ w'.cell? ⟨B, 2, none⟩ = some (.slice dA dl dcap)) (w6.setCell ⟨gW, j, none⟩ v6)) ∧ (w6.cell? ⟨gW, j, none⟩).isSome = true ∧ w6.frozen? ⟨gW, j, none⟩ = false) := fun w5 w6 v6 m' hc5 hqa => by
    have hq5 := HQV.out.keepNo hc5
    have hb := (HB2.out.keepNo hc5).keep hqa.ch (hq5.ne_row (HB2.out.keepNo hc5) (by decide))
    have hw := (hpi.rW.keepNo hc5).keep hqa.ch (hq5.ne_row (hpi.rW.keepNo hc5) (by decide))
    have hb7 : Row (w6.setCell ⟨gW, j, none⟩ v6) B 57 _ := hb.setOther (p := ⟨gW, j, none⟩) (row_ne hb hw (by decide)) v6
    refine ⟨⟨⟨by rw [hb.cell]; rfl, by rw [hb.cell]; rfl⟩, ⟨by rw [hb7.cell]; rfl, by rw [hb7.cell]; rfl⟩⟩, ?_, hw.frozen _⟩
    rw [hw.cell, List.getElem?_map, List.getElem?_range HJ.out]
    rfl
  have HFIN : Hid (∀ (w5 w6 : World) (m' v6 : Value), Ch No w2 w5 → Mg w5 m' ds → Qa w5 w6 (.slice Aw ql cw) v6 (st j).mw m' → Ri w (w6.setCell ⟨gW, j, none⟩ v6) X G M gW gL (.slice B1 k1 d1) (.slice (some ⟨gp, 0, none⟩) n d2) f part ps (updS (updS st j S1) j { (updS st j S1) j with vw := v6, mw := (st j).mw ++ [m'], r := (st j).r ++ [ds] })) := by
    intro w5 w6 m' v6 hc5 hmg hqa
    have hpi5 := hpi.keepNo hc5
    have hq5 := HQV.out.keepNo hc5
    have hw5 := hpi5.rW
    have hw6 := hw5.keep hqa.ch (hq5.ne_row hw5 (by decide))
    have hs : Ch (Is gW) w6 (w6.setCell ⟨gW, j, none⟩ v6) := Ch.setCell (D := Is gW) (p := ⟨gW, j, none⟩) (Ch.refl _ _) (fun _ => rfl) _
    have hch : Ch (fun k => k = gW ∨ qblk (updS st j S1 j).vw = some k) w5 (w6.setCell ⟨gW, j, none⟩ v6) := by
      rw [updS_self, e1.1, HVW.out]
      exact (hqa.ch.mono (D' := fun k => k = gW ∨ qblk (.slice Aw ql cw) = some k) (fun k _ hk => .inr hk)).trans hs (fun k _ hk => .inl hk)
    have hrow := hw6.set_ j v6
    rw [map_set] at hrow
    have hqn : Qv (w6.setCell ⟨gW, j, none⟩ v6) v6 ((st j).mw ++ [m']) := hqa.q.keep hs (fun k hk hd => by
      have e : k = gW := hd
      subst e
      exact hqa.q.ne_row hw6 (by decide) hk)
    have hms : Mss (w6.setCell ⟨gW, j, none⟩ v6) ((st j).mw ++ [m']) ((st j).r ++ [ds]) := by
      refine ((hm2.keep hc5 (fun _ _ _ => not_no _)).snoc hmg).keep hch (fun g' L' hg' hd => ?_)
      rw [updS_self, e1.1, HVW.out] at hd
      rcases hd with rfl | hd
      · exact absurd (hg'.eq_ hw5).1 (by decide)
      · exact hq5.ne_row hg' (by decide) hd
    refine ⟨hpi5.wait hrow hqn hms hch (fun k hk => ?_), fun i => ?_⟩
    · rw [updS_self, e1.1, HVW.out]
      exact hqa.blk k hk
    · by_cases e : i = j
      · subst e
        rw [updS_self, updS_self]
        refine ⟨?_, ?_⟩
        · show S1.q = (st i).r ++ [ds]
          rw [e1.2.2.2.1, (HR.out.eq i).1]
        · show S1.lost = S1.los
          rw [e1.2.2.2.2.1, e1.2.2.2.2.2]
          exact (HR.out.eq i).2
      · rw [updS_other _ _ e, updS_other _ _ e]
        exact HR.out.eq i
  obtain ⟨-, -, s3, s4⟩ := hpc2 w2 (Ch.refl _ _)
  rw [HSZ.out] at s3
  rw [HDP.out] at s4
  have z1 := HZ.out _ (Ch.refl _ _)
  have x1 : w2.cell? ⟨X, 1, none⟩ = some (.slice (some ⟨gp, 0, none⟩) n d2) := by rw [HPI.out.box.cell]; rfl
  clear hpi hq2 hm2 e1 hS1 hc2 c0 c1 c2 c3 hpc2 egp hql
  have c0 : w2.cell? ⟨B, 0, none⟩ = some (.int .i64 1) := by rw [HB2.out.cell]; rfl
  have c1 : w2.cell? ⟨B, 1, none⟩ = some (.int .i64 ((j : Int) + 1)) := by rw [HB2.out.cell]; rfl
  have c2 : w2.cell? ⟨B, 2, none⟩ = some (.slice dA dl dcap) := by rw [HB2.out.cell]; rfl
  have c3 : w2.cell? ⟨B, 3, none⟩ = some (.int .i64 now) := by rw [HB2.out.cell]; rfl
  go_wp2_with (fail)
  go_quiet (fail)
  go_wp2_with (fail)
  generalize nq = nqa
  go_quiet (fail)
  go_upto_region 21 with (fail)
  refine wp_region_held (S := fun w' : World => w'.cell? ⟨B, 1, none⟩ = some (.int .i64 ((j : Int) + 1)) ∧ w'.cell? ⟨B, 2, none⟩ = some (.slice dA dl dcap)) (by kernel_rfl) ?_
  change wpAnyH _ _ _ _ _ _ _ _ ((w2.drewN nqa).drewN nq).drew
  generalize hw3 : ((w2.drewN nqa).drewN nq).drew = w3
  have HC3 : Hid (Ch No w2 w3) := by
    rw [← hw3]
    exact (((Ch.refl No w2).drewN nqa).drewN nq).drew
  have HS0 := Lib.hid (HSK.out _ HC3.out)
  clear hw3 c0 c1 c2 c3 z1 x1 s3 s4
  refine wpAnyH_take (i := 0) (oi := ⟨some 155, _, _, _, _, _⟩) (v := .slice (some ⟨gW, 0, none⟩) n n) rfl (by kernel_rfl) (by kernel_rfl) (by kernel_rfl) (fun _ _ _ h => hQ0 _ _ _ _ _ h) (Or.inl ⟨by rfl, fun _ _ => by kernel_rfl⟩) HS0.out ?_
  simp only [Act.put, List.setIfInBounds_toArray, List.set_cons_zero, List.set_cons_succ]
  refine wpAnyH_take (i := 1) (oi := ⟨some 156, _, _, _, _, _⟩) (v := .pointer (some ⟨B, 1, none⟩)) rfl (by kernel_rfl) (by kernel_rfl) (by kernel_rfl) (fun _ _ _ h => hQ0 _ _ _ _ _ h) (Or.inl ⟨by rfl, fun _ _ => by kernel_rfl⟩) HS0.out ?_
  simp only [Act.put, List.setIfInBounds_toArray, List.set_cons_zero, List.set_cons_succ]
  refine wpAnyH_take (i := 2) (oi := ⟨some 157, _, _, _, _, _⟩) (v := .int .i64 ((j : Int) + 1)) rfl (by kernel_rfl) (by kernel_rfl) (by kernel_rfl) (fun _ _ _ h => hQ0 _ _ _ _ _ h) (Or.inl ⟨by rfl, fun _ hs => exec_load_cell 3 (.tmp 156) rfl ⟨B, 1, none⟩ rfl _ Try.underlying3 rfl _ hs.1⟩) HS0.out ?_
  simp only [Act.put, List.setIfInBounds_toArray, List.set_cons_zero, List.set_cons_succ]
  refine wpAnyH_take (i := 3) (oi := ⟨some 158, _, _, _, _, _⟩) (v := .int .i64 (j : Int)) rfl (by kernel_rfl) (by kernel_rfl) (by kernel_rfl) (fun _ _ _ h => hQ0 _ _ _ _ _ h) (Or.inl ⟨by rfl, fun _ _ => exec_sub1 (.tmp 157) rfl ((j : Int) + 1) (j : Int) rfl HSUB.out HJB.out⟩) HS0.out ?_
  simp only [Act.put, List.setIfInBounds_toArray, List.set_cons_zero, List.set_cons_succ]
  refine wpAnyH_take (i := 4) (oi := ⟨some 159, _, _, _, _, _⟩) (v := .slice (some ⟨gW, 0, none⟩) n n) rfl (by kernel_rfl) (by kernel_rfl) (by kernel_rfl) (fun _ _ _ h => hQ0 _ _ _ _ _ h) (Or.inl ⟨by rfl, fun _ _ => by kernel_rfl⟩) HS0.out ?_
  simp only [Act.put, List.setIfInBounds_toArray, List.set_cons_zero, List.set_cons_succ]
  refine wpAnyH_take (i := 5) (oi := ⟨some 160, _, _, _, _, _⟩) (v := .pointer (some ⟨B, 1, none⟩)) rfl (by kernel_rfl) (by kernel_rfl) (by kernel_rfl) (fun _ _ _ h => hQ0 _ _ _ _ _ h) (Or.inl ⟨by rfl, fun _ _ => by kernel_rfl⟩) HS0.out ?_
  simp only [Act.put, List.setIfInBounds_toArray, List.set_cons_zero, List.set_cons_succ]
  refine wpAnyH_take (i := 6) (oi := ⟨some 161, _, _, _, _, _⟩) (v := .int .i64 ((j : Int) + 1)) rfl (by kernel_rfl) (by kernel_rfl) (by kernel_rfl) (fun _ _ _ h => hQ0 _ _ _ _ _ h) (Or.inl ⟨by rfl, fun _ hs => exec_load_cell 3 (.tmp 160) rfl ⟨B, 1, none⟩ rfl _ Try.underlying3 rfl _ hs.1⟩) HS0.out ?_
  simp only [Act.put, List.setIfInBounds_toArray, List.set_cons_zero, List.set_cons_succ]
  refine wpAnyH_take (i := 7) (oi := ⟨some 162, _, _, _, _, _⟩) (v := .int .i64 (j : Int)) rfl (by kernel_rfl) (by kernel_rfl) (by kernel_rfl) (fun _ _ _ h => hQ0 _ _ _ _ _ h) (Or.inl ⟨by rfl, fun _ _ => exec_sub1 (.tmp 161) rfl ((j : Int) + 1) (j : Int) rfl HSUB.out HJB.out⟩) HS0.out ?_
  simp only [Act.put, List.setIfInBounds_toArray, List.set_cons_zero, List.set_cons_succ]
  refine wpAnyH_take (i := 8) (oi := ⟨some 163, _, _, _, _, _⟩) (v := .pointer (some ⟨gW, j, none⟩)) rfl (by kernel_rfl) (by kernel_rfl) (by kernel_rfl) (fun _ _ _ h => hQ0 _ _ _ _ _ h) (Or.inl ⟨by rfl, fun _ _ => exec_at0' 54 31 (.tmp 159) (.tmp 162) rfl Try.underlying54 size31 gW n n j rfl rfl HJN.out⟩) HS0.out ?_
  simp only [Act.put, List.setIfInBounds_toArray, List.set_cons_zero, List.set_cons_succ]
  refine wpAnyH_take (i := 10) (oi := ⟨some 165, _, _, _, _, _⟩) (v := .pointer (some ⟨B, 2, none⟩)) rfl (by kernel_rfl) (by kernel_rfl) (by kernel_rfl) (fun _ _ _ h => hQ0 _ _ _ _ _ h) (Or.inl ⟨by rfl, fun _ _ => by kernel_rfl⟩) HS0.out ?_
  simp only [Act.put, List.setIfInBounds_toArray, List.set_cons_zero, List.set_cons_succ]
  refine wpAnyH_take (i := 11) (oi := ⟨some 166, _, _, _, _, _⟩) (v := .slice dA dl dcap) rfl (by kernel_rfl) (by kernel_rfl) (by kernel_rfl) (fun _ _ _ h => hQ0 _ _ _ _ _ h) (Or.inl ⟨by rfl, fun _ hs => exec_load_cell 32 (.tmp 165) rfl ⟨B, 2, none⟩ rfl _ Try.underlying32 rfl _ hs.2⟩) HS0.out ?_
  simp only [Act.put, List.setIfInBounds_toArray, List.set_cons_zero, List.set_cons_succ]
  refine wpAnyH_norm 6 #[true, true, true, true, true, true, true, true, true, false, true, true, false, false, false, false, false] (by kernel_rfl) (by kernel_rfl) ?_
  refine wpAnyH_two (i := 9) (j := 12) (oi := ⟨some 164, _, _, _, _, _⟩) (oj := ⟨some 167, _, _, _, _, _⟩) (by kernel_rfl) rfl rfl (by rfl) (by rfl) ?_ ?_
  · refine wp_value (.slice Aw ql cw) (exec_load_cell 31 (.tmp 163) rfl ⟨gW, j, none⟩ rfl _ Try.underlying31 rfl _ (HZ.out _ HC3.out)) ?_
    refine And.intro (HSK.out _ HC3.out) ?_
    simp only [Act.put, List.setIfInBounds_toArray, List.set_cons_zero, List.set_cons_succ]
    refine wpAnyH_norm 5 #[true, true, true, true, true, true, true, true, true, true, true, true, false, false, false, false, false] (by kernel_rfl) (by kernel_rfl) ?_
    refine wpAnyH_one (i := 12) (o := ⟨some 167, _, _, _, _, _⟩) (by kernel_rfl) rfl (by rfl) ?_
    refine wp_call 9 #[.slice dA dl dcap] (by kernel_rfl) ((HM9.out _ HC3.out).mono ?_)
    rintro e w4 ⟨g9, cap9, rest9, rfl, hr9, -, -, -, hc9⟩
    rw [HDL.out]
    have HR9 := Lib.hid hr9
    have HC4 := Lib.hid (HC3.out.then_ hc9)
    clear hr9 hc9
    refine ⟨_, rfl, HSK.out _ HC4.out, ?_⟩
    simp only [Act.put, List.setIfInBounds_toArray, List.set_cons_zero, List.set_cons_succ]
    refine wpAnyH_norm 4 #[true, true, true, true, true, true, true, true, true, true, true, true, true, false, false, false, false] (by kernel_rfl) (by kernel_rfl) ?_
    refine wpAnyH_one (i := 13) (o := ⟨some 168, _, _, _, _, _⟩) (by kernel_rfl) rfl (by rfl) ?_
    obtain ⟨w5, hw5⟩ : ∃ w5, w5 = w4.alloc (.cells #[.slice (some ⟨g9, 0, none⟩) dl cap9] 32) := ⟨_, rfl⟩
    have HR5 : Hid (Row w5 w4.heap.size 32 [.slice (some ⟨g9, 0, none⟩) dl cap9]) := by
      rw [hw5]
      exact Row.new w4 32 _
    have HC5' : Hid (Ch No w4 w5) := by
      rw [hw5]
      exact (Ch.refl _ _).alloc _
    have HC5 := Lib.hid (HC4.out.then_ HC5'.out)
    refine wp_value_to (w' := w5) (.slice (some ⟨w4.heap.size, 0, none⟩) 1 1) (by rw [hw5]; kernel_rfl) ?_
    clear hw5
    refine And.intro (HSK.out _ HC5.out) ?_
    simp only [Act.put, List.setIfInBounds_toArray, List.set_cons_zero, List.set_cons_succ]
    refine wpAnyH_norm 3 #[true, true, true, true, true, true, true, true, true, true, true, true, true, true, false, false, false] (by kernel_rfl) (by kernel_rfl) ?_
    refine wpAnyH_one (i := 14) (o := ⟨some 169, _, _, _, _, _⟩) (by kernel_rfl) rfl (by rfl) ?_
    obtain ⟨v6, w6, hrun, hqa⟩ := qappend (HQV.out.keepNo HC5.out) 31 HR5.out rfl HML.out
    obtain ⟨A6, k6, q6, rfl⟩ := qv_slice hqa.q
    have HRUN := Lib.hid hrun
    have HQA := Lib.hid hqa
    obtain ⟨hs6, hw6s, hw6f⟩ := HAF.out _ _ _ _ HC5.out hqa
    have HS6 := Lib.hid hs6
    have HW6S := Lib.hid hw6s
    have HW6F := Lib.hid hw6f
    have HMG : Hid (Mg w5 (.slice (some ⟨g9, 0, none⟩) dl cap9) ds) := by
      have h1 := HR9.out.keepNo HC5'.out
      rw [ints_append, List.append_assoc] at h1
      exact ⟨g9, cap9, _, by rw [HDL.out], h1, by rw [HDL.out]; exact HDB.out⟩
    have HX := Lib.hid (HFIN.out _ _ _ _ HC5.out HMG.out HQA.out)
    clear hrun hqa hs6 hw6s hw6f
    refine Lib.wp_append_run w5 (.tmp 164) (.tmp 168) 31 31 rfl _ _ rfl rfl _ w6 HRUN.out ?_
    refine And.intro HS6.out.1 ?_
    simp only [Act.put, List.setIfInBounds_toArray, List.set_cons_zero, List.set_cons_succ]
    refine wpAnyH_take (i := 15) (oi := ⟨some 170, _, _, _, _, _⟩) (v := .pointer (some ⟨gW, j, none⟩)) rfl (by kernel_rfl) (by kernel_rfl) (by kernel_rfl) (fun _ _ _ h => hQ0 _ _ _ _ _ h) (Or.inl ⟨by rfl, fun _ _ => exec_at0' 54 31 (.tmp 155) (.tmp 158) rfl Try.underlying54 size31 gW n n j rfl rfl HJN.out⟩) HS6.out.1 ?_
    simp only [Act.put, List.setIfInBounds_toArray, List.set_cons_zero, List.set_cons_succ]
    refine wpAnyH_one (i := 16) (o := ⟨none, _, _, _, _, _⟩) (by kernel_rfl) rfl (by rfl) ?_
    refine wp_store_cell 31 (.tmp 170) (.tmp 169) rfl gW j (.slice A6 k6 q6) rfl rfl rfl size31 HW6S.out HW6F.out ?_
    refine And.intro HS6.out.2 ?_
    simp only [Act.put, List.setIfInBounds_toArray, List.set_cons_zero, List.set_cons_succ]
    refine wpAnyH_done (by kernel_rfl) ?_ _
    go_wp2_with (fail)
    exact HK.out _ _ _ _ _ _ _ _ _ _ _ _ _ _ _ _ _ _ _ _ _ _ _ _ _ _ _ _ _ _ _ _ _ _ _ _ _ _ _ _ _ _ _ _ _ _ _ _ _ _ _ _ _ _ _ _ _ _ _ _ _ _ _ _ _ _ _ _ _ _ _ _ _ _ _ _ _ _ _ _ _ _ _ _ _ _ _ _ _ _ _ _ _ _ _ _ _ _ _ _ _ _ _ _ _ _ _ _ _ _ _ _ _ _ _ _ _ _ _ _ _ _ _ _ _ _ _ _ _ _ _ _ _ _ _ _ _ _ _ _ _ _ _ _ _ _ _ _ _ _ _ _ _ _ _ _ _ _ _ _ _ _ _ _ _ _ _ _ _ _ _ _ _ _ _ _ _ _ _ _ _ _ _ _ _ _ HX.out
  · refine wp_call 9 #[.slice dA dl dcap] (by kernel_rfl) ((HM9.out _ HC3.out).mono ?_)
    rintro e w4 ⟨g9, cap9, rest9, rfl, hr9, -, -, -, hc9⟩
    rw [HDL.out]
    have HR9 := Lib.hid hr9
    have HC4 := Lib.hid (HC3.out.then_ hc9)
    clear hr9 hc9
    refine ⟨_, rfl, HSK.out _ HC4.out, ?_⟩
    simp only [Act.put, List.setIfInBounds_toArray, List.set_cons_zero, List.set_cons_succ]
    refine wpAnyH_norm 5 #[true, true, true, true, true, true, true, true, true, false, true, true, true, false, false, false, false] (by kernel_rfl) (by kernel_rfl) ?_
    refine wpAnyH_two (i := 9) (j := 13) (oi := ⟨some 164, _, _, _, _, _⟩) (oj := ⟨some 168, _, _, _, _, _⟩) (by kernel_rfl) rfl rfl (by rfl) (by rfl) ?_ ?_
    · refine wp_value (.slice Aw ql cw) (exec_load_cell 31 (.tmp 163) rfl ⟨gW, j, none⟩ rfl _ Try.underlying31 rfl _ (HZ.out _ HC4.out)) ?_
      refine And.intro (HSK.out _ HC4.out) ?_
      simp only [Act.put, List.setIfInBounds_toArray, List.set_cons_zero, List.set_cons_succ]
      refine wpAnyH_norm 4 #[true, true, true, true, true, true, true, true, true, true, true, true, true, false, false, false, false] (by kernel_rfl) (by kernel_rfl) ?_
      refine wpAnyH_one (i := 13) (o := ⟨some 168, _, _, _, _, _⟩) (by kernel_rfl) rfl (by rfl) ?_
      obtain ⟨w5, hw5⟩ : ∃ w5, w5 = w4.alloc (.cells #[.slice (some ⟨g9, 0, none⟩) dl cap9] 32) := ⟨_, rfl⟩
      have HR5 : Hid (Row w5 w4.heap.size 32 [.slice (some ⟨g9, 0, none⟩) dl cap9]) := by
        rw [hw5]
        exact Row.new w4 32 _
      have HC5' : Hid (Ch No w4 w5) := by
        rw [hw5]
        exact (Ch.refl _ _).alloc _
      have HC5 := Lib.hid (HC4.out.then_ HC5'.out)
      refine wp_value_to (w' := w5) (.slice (some ⟨w4.heap.size, 0, none⟩) 1 1) (by rw [hw5]; kernel_rfl) ?_
      clear hw5
      refine And.intro (HSK.out _ HC5.out) ?_
      simp only [Act.put, List.setIfInBounds_toArray, List.set_cons_zero, List.set_cons_succ]
      refine wpAnyH_norm 3 #[true, true, true, true, true, true, true, true, true, true, true, true, true, true, false, false, false] (by kernel_rfl) (by kernel_rfl) ?_
      refine wpAnyH_one (i := 14) (o := ⟨some 169, _, _, _, _, _⟩) (by kernel_rfl) rfl (by rfl) ?_
      obtain ⟨v6, w6, hrun, hqa⟩ := qappend (HQV.out.keepNo HC5.out) 31 HR5.out rfl HML.out
      obtain ⟨A6, k6, q6, rfl⟩ := qv_slice hqa.q
      have HRUN := Lib.hid hrun
      have HQA := Lib.hid hqa
      obtain ⟨hs6, hw6s, hw6f⟩ := HAF.out _ _ _ _ HC5.out hqa
      have HS6 := Lib.hid hs6
      have HW6S := Lib.hid hw6s
      have HW6F := Lib.hid hw6f
      have HMG : Hid (Mg w5 (.slice (some ⟨g9, 0, none⟩) dl cap9) ds) := by
        have h1 := HR9.out.keepNo HC5'.out
        rw [ints_append, List.append_assoc] at h1
        exact ⟨g9, cap9, _, by rw [HDL.out], h1, by rw [HDL.out]; exact HDB.out⟩
      have HX := Lib.hid (HFIN.out _ _ _ _ HC5.out HMG.out HQA.out)
      clear hrun hqa hs6 hw6s hw6f
      refine Lib.wp_append_run w5 (.tmp 164) (.tmp 168) 31 31 rfl _ _ rfl rfl _ w6 HRUN.out ?_
      refine And.intro HS6.out.1 ?_
      simp only [Act.put, List.setIfInBounds_toArray, List.set_cons_zero, List.set_cons_succ]
      refine wpAnyH_take (i := 15) (oi := ⟨some 170, _, _, _, _, _⟩) (v := .pointer (some ⟨gW, j, none⟩)) rfl (by kernel_rfl) (by kernel_rfl) (by kernel_rfl) (fun _ _ _ h => hQ0 _ _ _ _ _ h) (Or.inl ⟨by rfl, fun _ _ => exec_at0' 54 31 (.tmp 155) (.tmp 158) rfl Try.underlying54 size31 gW n n j rfl rfl HJN.out⟩) HS6.out.1 ?_
      simp only [Act.put, List.setIfInBounds_toArray, List.set_cons_zero, List.set_cons_succ]
      refine wpAnyH_one (i := 16) (o := ⟨none, _, _, _, _, _⟩) (by kernel_rfl) rfl (by rfl) ?_
      refine wp_store_cell 31 (.tmp 170) (.tmp 169) rfl gW j (.slice A6 k6 q6) rfl rfl rfl size31 HW6S.out HW6F.out ?_
      refine And.intro HS6.out.2 ?_
      simp only [Act.put, List.setIfInBounds_toArray, List.set_cons_zero, List.set_cons_succ]
      refine wpAnyH_done (by kernel_rfl) ?_ _
      go_wp2_with (fail)
      exact HK.out _ _ _ _ _ _ _ _ _ _ _ _ _ _ _ _ _ _ _ _ _ _ _ _ _ _ _ _ _ _ _ _ _ _ _ _ _ _ _ _ _ _ _ _ _ _ _ _ _ _ _ _ _ _ _ _ _ _ _ _ _ _ _ _ _ _ _ _ _ _ _ _ _ _ _ _ _ _ _ _ _ _ _ _ _ _ _ _ _ _ _ _ _ _ _ _ _ _ _ _ _ _ _ _ _ _ _ _ _ _ _ _ _ _ _ _ _ _ _ _ _ _ _ _ _ _ _ _ _ _ _ _ _ _ _ _ _ _ _ _ _ _ _ _ _ _ _ _ _ _ _ _ _ _ _ _ _ _ _ _ _ _ _ _ _ _ _ _ _ _ _ _ _ _ _ _ _ _ _ _ _ _ _ _ _ _ HX.out
    · obtain ⟨w5, hw5⟩ : ∃ w5, w5 = w4.alloc (.cells #[.slice (some ⟨g9, 0, none⟩) dl cap9] 32) := ⟨_, rfl⟩
      have HR5 : Hid (Row w5 w4.heap.size 32 [.slice (some ⟨g9, 0, none⟩) dl cap9]) := by
        rw [hw5]
        exact Row.new w4 32 _
      have HC5' : Hid (Ch No w4 w5) := by
        rw [hw5]
        exact (Ch.refl _ _).alloc _
      have HC5 := Lib.hid (HC4.out.then_ HC5'.out)
      refine wp_value_to (w' := w5) (.slice (some ⟨w4.heap.size, 0, none⟩) 1 1) (by rw [hw5]; kernel_rfl) ?_
      clear hw5
      refine And.intro (HSK.out _ HC5.out) ?_
      simp only [Act.put, List.setIfInBounds_toArray, List.set_cons_zero, List.set_cons_succ]
      refine wpAnyH_norm 4 #[true, true, true, true, true, true, true, true, true, false, true, true, true, true, false, false, false] (by kernel_rfl) (by kernel_rfl) ?_
      refine wpAnyH_one (i := 9) (o := ⟨some 164, _, _, _, _, _⟩) (by kernel_rfl) rfl (by rfl) ?_
      refine wp_value (.slice Aw ql cw) (exec_load_cell 31 (.tmp 163) rfl ⟨gW, j, none⟩ rfl _ Try.underlying31 rfl _ (HZ.out _ HC5.out)) ?_
      refine And.intro (HSK.out _ HC5.out) ?_
      simp only [Act.put, List.setIfInBounds_toArray, List.set_cons_zero, List.set_cons_succ]
      refine wpAnyH_norm 3 #[true, true, true, true, true, true, true, true, true, true, true, true, true, true, false, false, false] (by kernel_rfl) (by kernel_rfl) ?_
      refine wpAnyH_one (i := 14) (o := ⟨some 169, _, _, _, _, _⟩) (by kernel_rfl) rfl (by rfl) ?_
      obtain ⟨v6, w6, hrun, hqa⟩ := qappend (HQV.out.keepNo HC5.out) 31 HR5.out rfl HML.out
      obtain ⟨A6, k6, q6, rfl⟩ := qv_slice hqa.q
      have HRUN := Lib.hid hrun
      have HQA := Lib.hid hqa
      obtain ⟨hs6, hw6s, hw6f⟩ := HAF.out _ _ _ _ HC5.out hqa
      have HS6 := Lib.hid hs6
      have HW6S := Lib.hid hw6s
      have HW6F := Lib.hid hw6f
      have HMG : Hid (Mg w5 (.slice (some ⟨g9, 0, none⟩) dl cap9) ds) := by
        have h1 := HR9.out.keepNo HC5'.out
        rw [ints_append, List.append_assoc] at h1
        exact ⟨g9, cap9, _, by rw [HDL.out], h1, by rw [HDL.out]; exact HDB.out⟩
      have HX := Lib.hid (HFIN.out _ _ _ _ HC5.out HMG.out HQA.out)
      clear hrun hqa hs6 hw6s hw6f
      refine Lib.wp_append_run w5 (.tmp 164) (.tmp 168) 31 31 rfl _ _ rfl rfl _ w6 HRUN.out ?_
      refine And.intro HS6.out.1 ?_
      simp only [Act.put, List.setIfInBounds_toArray, List.set_cons_zero, List.set_cons_succ]
      refine wpAnyH_take (i := 15) (oi := ⟨some 170, _, _, _, _, _⟩) (v := .pointer (some ⟨gW, j, none⟩)) rfl (by kernel_rfl) (by kernel_rfl) (by kernel_rfl) (fun _ _ _ h => hQ0 _ _ _ _ _ h) (Or.inl ⟨by rfl, fun _ _ => exec_at0' 54 31 (.tmp 155) (.tmp 158) rfl Try.underlying54 size31 gW n n j rfl rfl HJN.out⟩) HS6.out.1 ?_
      simp only [Act.put, List.setIfInBounds_toArray, List.set_cons_zero, List.set_cons_succ]
      refine wpAnyH_one (i := 16) (o := ⟨none, _, _, _, _, _⟩) (by kernel_rfl) rfl (by rfl) ?_
      refine wp_store_cell 31 (.tmp 170) (.tmp 169) rfl gW j (.slice A6 k6 q6) rfl rfl rfl size31 HW6S.out HW6F.out ?_
      refine And.intro HS6.out.2 ?_
      simp only [Act.put, List.setIfInBounds_toArray, List.set_cons_zero, List.set_cons_succ]
      refine wpAnyH_done (by kernel_rfl) ?_ _
      go_wp2_with (fail)
      exact HK.out _ _ _ _ _ _ _ _ _ _ _ _ _ _ _ _ _ _ _ _ _ _ _ _ _ _ _ _ _ _ _ _ _ _ _ _ _ _ _ _ _ _ _ _ _ _ _ _ _ _ _ _ _ _ _ _ _ _ _ _ _ _ _ _ _ _ _ _ _ _ _ _ _ _ _ _ _ _ _ _ _ _ _ _ _ _ _ _ _ _ _ _ _ _ _ _ _ _ _ _ _ _ _ _ _ _ _ _ _ _ _ _ _ _ _ _ _ _ _ _ _ _ _ _ _ _ _ _ _ _ _ _ _ _ _ _ _ _ _ _ _ _ _ _ _ _ _ _ _ _ _ _ _ _ _ _ _ _ _ _ _ _ _ _ _ _ _ _ _ _ _ _ _ _ _ _ _ _ _ _ _ _ _ _ _ _ HX.out
end Go.Proofs.Ytlokpcbiomjcnaa
