/- PortInOrder: the counting loop, where it stands in the round. -/
import Derived.Test.YtlokpcbiomjcnaaE22
set_option linter.unusedVariables false
set_option linter.unusedSimpArgs false
namespace Go.Proofs.Ytlokpcbiomjcnaa
open Go.RowKit
set_option maxHeartbeats 8000000 in
set_option maxRecDepth 1000000 in
theorem cnt5_calls {w wr : World} {X G M gW gL : Nat} {B1 B2 : Option Addr} {k1 d1 n d2 : Nat} {f : Int → Option Nat} {part : Int} {ps : List Pt} {st : Nat → PoS} (u0 u1 u2 u3 u4 u5 u6 u12 u13 u14 u15 u16 u17 u18 u19 u20 u21 u22 u23 u25 u26 u27 u28 u29 u30 u31 u32 u33 u34 u35 u36 u37 u38 u39 u40 u41 u42 u43 u44 u45 u46 u47 u48 u49 u50 u51 u52 u53 u54 u55 u56 u57 u58 u59 u60 u61 u62 u63 u64 u65 u66 u67 u68 u69 u70 u71 u72 u73 u74 u75 u76 u77 u78 u79 u80 u81 u82 u83 u84 u85 u86 u87 u88 u89 u90 u91 u92 u93 u94 u95 u96 u97 u98 u99 u100 u101 u102 u103 u104 u105 u106 u107 u108 u109 u110 u111 u112 u113 u114 u115 u116 u117 u118 u119 u120 u121 u122 u123 u124 u125 u126 u127 u128 u129 u130 u131 u132 u133 u134 u135 u136 u137 u138 u139 u140 u141 u142 u143 u144 u145 u146 u147 u148 u149 u150 u151 u152 u153 u154 u155 u156 u157 u158 u159 u160 u161 u162 u163 u164 u165 u166 u167 u168 u169 u170 u171 u172 u173 u174 u175 u176 u177 u178 u179 u180 u181 u182 u183 u184 u185 u186 u187 u188 u189 u190 u191 u192 u193 u194 u195 u196 u197 u198 u199 u200 u201 u202 u203 u204 u205 u206 u207 u208 u209 u210 u211 u212 u213 u214 u215 u216 u217 u218 u219 u220 u221 u222 u223 u224 u225 u226 u227 u228 u229 u230 u231 u232 u233 u234 u235 u236 u237 u238 u239 u240 u241 u242 u243 u244 u245 u246 u247 u248 u249 u250 u251 u252 u253 u254 u255 u256 u257 u258 u259 u260 u261 u262 u263 u264 u265 u266 u267 u268 u269 u270 u271 u272 u273 u274 u275 u276 u277 u278 u279 u280 u281 u282 u283 u284 u285 u286 u287 u288 u289 u290 u291 u292 u293 u294 u295 u296 u297 u298 u299 u300 u301 u302 u303 u304 u305 u306 u307 u308 u309 u310 u311 u312 u313 u314 u315 u316 u317 u318 u319 : Value) (hR : Ri w wr X G M gW gL (.slice B1 k1 d1) (.slice B2 n d2) f part ps st) (hF : Fine ps) (hn : ps.length = n) {R : Exit → Act → World → Prop} (hK : ∀ (v6 v24 v25 v26 v27 v268 v269 v270 v271 v272 v273 v274 v275 v276 v277 v278 v279 v280 v281 v282 v283 v284 v285 v286 v287 v288 v289 v290 v291 v292 v293 v294 v295 v296 v297 v298 v299 v300 v301 v302 v303 v304 v305 v306 v307 v308 v309 v310 v311 v312 v313 v314 v315 v316 v317 v318 : Value) (w' : World), Ri w w' X G M gW gL (.slice B1 k1 d1) (.slice B2 n d2) f part ps st → R .normal ⟨#[u0, u1, u2, u3, u4, u5, v6, .pointer (some ⟨X, 0, none⟩), .int .i64 part, .pointer (some ⟨G, 0, none⟩), .slice (some ⟨gW, 0, none⟩) n n, .slice (some ⟨gL, 0, none⟩) n n, u12, u13, u14, u15, u16, u17, u18, u19, u20, u21, u22, u23, v24, v25, v26, v27, u28, u29, u30, u31, u32, u33, u34, u35, u36, u37, u38, u39, u40, u41, u42, u43, u44, u45, u46, u47, u48, u49, u50, u51, u52, u53, u54, u55, u56, u57, u58, u59, u60, u61, u62, u63, u64, u65, u66, u67, u68, u69, u70, u71, u72, u73, u74, u75, u76, u77, u78, u79, u80, u81, u82, u83, u84, u85, u86, u87, u88, u89, u90, u91, u92, u93, u94, u95, u96, u97, u98, u99, u100, u101, u102, u103, u104, u105, u106, u107, u108, u109, u110, u111, u112, u113, u114, u115, u116, u117, u118, u119, u120, u121, u122, u123, u124, u125, u126, u127, u128, u129, u130, u131, u132, u133, u134, u135, u136, u137, u138, u139, u140, u141, u142, u143, u144, u145, u146, u147, u148, u149, u150, u151, u152, u153, u154, u155, u156, u157, u158, u159, u160, u161, u162, u163, u164, u165, u166, u167, u168, u169, u170, u171, u172, u173, u174, u175, u176, u177, u178, u179, u180, u181, u182, u183, u184, u185, u186, u187, u188, u189, u190, u191, u192, u193, u194, u195, u196, u197, u198, u199, u200, u201, u202, u203, u204, u205, u206, u207, u208, u209, u210, u211, u212, u213, u214, u215, u216, u217, u218, u219, u220, u221, u222, u223, u224, u225, u226, u227, u228, u229, u230, u231, u232, u233, u234, u235, u236, u237, u238, u239, u240, u241, u242, u243, u244, u245, u246, u247, u248, u249, u250, u251, u252, u253, u254, u255, u256, u257, u258, u259, u260, u261, u262, u263, u264, u265, u266, u267, v268, v269, v270, v271, v272, v273, v274, v275, v276, v277, v278, v279, v280, v281, v282, v283, v284, v285, v286, v287, v288, v289, v290, v291, v292, v293, v294, v295, v296, v297, v298, v299, v300, v301, v302, v303, v304, v305, v306, v307, v308, v309, v310, v311, v312, v313, v314, v315, v316, v317, v318, u319], []⟩ w') :
    Code.wp Try.prog (cR in5) R ⟨#[u0, u1, u2, u3, u4, u5, u6, .pointer (some ⟨X, 0, none⟩), .int .i64 part, .pointer (some ⟨G, 0, none⟩), .slice (some ⟨gW, 0, none⟩) n n, .slice (some ⟨gL, 0, none⟩) n n, u12, u13, u14, u15, u16, u17, u18, u19, u20, u21, u22, u23, .int .i64 0, u25, u26, u27, u28, u29, u30, u31, u32, u33, u34, u35, u36, u37, u38, u39, u40, u41, u42, u43, u44, u45, u46, u47, u48, u49, u50, u51, u52, u53, u54, u55, u56, u57, u58, u59, u60, u61, u62, u63, u64, u65, u66, u67, u68, u69, u70, u71, u72, u73, u74, u75, u76, u77, u78, u79, u80, u81, u82, u83, u84, u85, u86, u87, u88, u89, u90, u91, u92, u93, u94, u95, u96, u97, u98, u99, u100, u101, u102, u103, u104, u105, u106, u107, u108, u109, u110, u111, u112, u113, u114, u115, u116, u117, u118, u119, u120, u121, u122, u123, u124, u125, u126, u127, u128, u129, u130, u131, u132, u133, u134, u135, u136, u137, u138, u139, u140, u141, u142, u143, u144, u145, u146, u147, u148, u149, u150, u151, u152, u153, u154, u155, u156, u157, u158, u159, u160, u161, u162, u163, u164, u165, u166, u167, u168, u169, u170, u171, u172, u173, u174, u175, u176, u177, u178, u179, u180, u181, u182, u183, u184, u185, u186, u187, u188, u189, u190, u191, u192, u193, u194, u195, u196, u197, u198, u199, u200, u201, u202, u203, u204, u205, u206, u207, u208, u209, u210, u211, u212, u213, u214, u215, u216, u217, u218, u219, u220, u221, u222, u223, u224, u225, u226, u227, u228, u229, u230, u231, u232, u233, u234, u235, u236, u237, u238, u239, u240, u241, u242, u243, u244, u245, u246, u247, u248, u249, u250, u251, u252, u253, u254, u255, u256, u257, u258, u259, u260, u261, u262, u263, u264, u265, u266, u267, u268, u269, u270, u271, u272, u273, u274, u275, u276, u277, u278, u279, u280, u281, u282, u283, u284, u285, u286, u287, u288, u289, u290, u291, u292, u293, u294, u295, u296, u297, u298, u299, u300, u301, u302, u303, u304, u305, u306, u307, u308, u309, u310, u311, u312, u313, u314, u315, u316, u317, u318, u319], []⟩ wr := by
  conv => arg 2; whnf
  have HR := Lib.hid hR
  have HF := Lib.hid hF
  have HN := Lib.hid hn
  have HK := Lib.hid hK
  have hn64 : n ≤ 64 := by
    have := hF.1
    omega
  have x1 : wr.cell? ⟨X, 1, none⟩ = some (.slice B2 n d2) := by
    rw [hR.pi.box.cell]
    rfl
  clear hR hF hn hK
  go_upto_region 41 with (fail)
  clear x1
  go_loopw [24] (fun i wr => ∃ m : Nat, m ≤ n ∧ i = .int .i64 m ∧ Hid (Ri w wr X G M gW gL (.slice B1 k1 d1) (.slice B2 n d2) f part ps st)) (fun i _ => n - (intOf i).toNat)
  case atStart => exact ⟨0, Nat.zero_le _, rfl, HR⟩
  case round =>
    clear HR
    obtain ⟨m, hm, rfl, HR⟩ := hrel
    have x1 : wr.cell? ⟨X, 1, none⟩ = some (.slice B2 n d2) := by
      rw [HR.out.pi.box.cell]
      rfl
    by_cases hlt : m < n
    · have e1 := decide_lt_t (show (m : Int) < (n : Int) by omega)
      obtain ⟨p, hp⟩ : ∃ p, ps[m]? = some p := ⟨_, List.getElem?_eq_getElem (by have := HN.out; omega)⟩
      obtain ⟨gp, rfl, hc⟩ := HR.out.pi.cells hp
      obtain ⟨c0, c1, -, -⟩ := hc wr (Ch.refl _ _)
      have hw : wrap64 ((m : Int) + 1) = (m : Int) + 1 := by unfold wrap64; omega
      have hm6 : m * 6 ≤ 400 := by omega
      by_cases hpt : p.part = part
      · have b0 : (p.part != part) = false := by simp [hpt]
        by_cases hkd : p.kind = 1
        · have b1 : (p.kind != 1) = false := by simp [hkd]
          have HCT := Lib.hid (HR.out.pi.count_is HF.out hp hpt hkd)
          obtain ⟨Aw, cw, -, -, hkp⟩ := HR.out.kept (j := m) (by have := HN.out; omega)
          have HKP := Lib.hid hkp
          generalize (st m).q.length = ql at *
          generalize (st m).lost = lo at *
          clear hp hpt hkd hc hkp
          go_wp2_with (fail)
          refine HCT.out.mono ?_
          rintro e w2 ⟨rfl, hc2⟩
          obtain ⟨z1, z2⟩ := HKP.out _ hc2
          have HR2 := Lib.hid (HR.out.keepNo hc2)
          clear hc2 c0 c1 x1
          go_wp2_with (fail)
          exact ⟨⟨m + 1, by omega, by go_num, HR2⟩, by simp [intOf]; omega⟩
        · have b1 : (p.kind != 1) = true := by simp [hkd]
          clear hp hpt hkd hc
          go_wp2_with (fail)
          exact ⟨⟨m + 1, by omega, by go_num, HR⟩, by simp [intOf]; omega⟩
      · have b0 : (p.part != part) = true := by simp [hpt]
        clear hp hpt hc
        go_wp2_with (fail)
        exact ⟨⟨m + 1, by omega, by go_num, HR⟩, by simp [intOf]; omega⟩
    · have e1 := decide_lt_f (show ¬ (m : Int) < (n : Int) by omega)
      go_wp2_with (fail)
      exact HK.out _ _ _ _ _ _ _ _ _ _ _ _ _ _ _ _ _ _ _ _ _ _ _ _ _ _ _ _ _ _ _ _ _ _ _ _ _ _ _ _ _ _ _ _ _ _ _ _ _ _ _ _ _ _ _ _ _ HR.out
end Go.Proofs.Ytlokpcbiomjcnaa
