/- PortInOrder, walked. -/
import Derived.Test.YtlokpcbiomjcnaaE26
import Derived.Test.YtlokpcbiomjcnaaE22b
import Derived.Deep.CutBlock
set_option linter.unusedVariables false
set_option linter.unusedSimpArgs false
namespace Go.Proofs.Ytlokpcbiomjcnaa
open Go.RowKit
set_option maxHeartbeats 8000000 in
set_option maxRecDepth 100000 in
theorem inorder_walk {w : World} {A : Option Addr} {n0 c : Nat} {ps0 : List Pt} (hn : n0 = ps0.length) (hn63 : n0 ≤ 9223372036854775807) (hA : Pts w A ps0) (pt : Int) (hp0 : 0 ≤ pt) (hp1 : pt ≤ 255) {S : Option Addr} {os : List OpR} {sc : Nat} (hs : Ops w S os) (hsm : os.length ≤ 9223372036854775807) :
    Calls Try.prog 5 #[.slice A n0 c, .int .u8 pt, .slice S os.length sc] w fun e w' => e = .returned (.bool true) ∧ Ch No w w' := by
  have HS := Lib.hid hs
  have HIM := Lib.hid (image_calls (c := c) hn hn63 hA)
  have HF := Lib.hid (imgPts_fine ps0)
  generalize imgPts ps0 = ps at HF HIM
  clear hs hA hn
  have hw1 : wrap64 (pt.tmod 2) = pt.tmod 2 := by
    have : pt.tmod 2 = pt % 2 := Int.tmod_eq_emod_of_nonneg hp0
    unfold wrap64
    omega
  have hw2 : wrap64 (1 + pt.tmod 2) = 1 + pt.tmod 2 := by
    have : pt.tmod 2 = pt % 2 := Int.tmod_eq_emod_of_nonneg hp0
    unfold wrap64
    omega
  go_enter Try.func5, Try.ntmps5
  go_wp2_with (fail)
  refine HIM.out.mono ?_
  rintro e w1 ⟨x, rfl, him, hc1⟩
  obtain ⟨B1, k1, d1, B2, k2, d2, rfl⟩ := him.slices
  have HI1 := Lib.hid him
  have HC1 := Lib.hid hc1
  clear him hc1 HIM
  go_upto_region 2 with (fail)
  have HX2 : Hid (Row (w1.alloc (.cells #[.slice B1 k1 d1, .slice B2 k2 d2, .slice none 0 0] 27)) w1.heap.size 27 [.slice B1 k1 d1, .slice B2 k2 d2, .slice none 0 0]) := Row.new w1 27 _
  have HI2 := Lib.hid (HI1.out.keepNo ((Ch.refl No w1).alloc (.cells #[.slice B1 k1 d1, .slice B2 k2 d2, .slice none 0 0] 27)))
  have HC2 := Lib.hid (HC1.out.alloc (.cells #[.slice B1 k1 d1, .slice B2 k2 d2, .slice none 0 0] 27))
  generalize w1.alloc (.cells #[.slice B1 k1 d1, .slice B2 k2 d2, .slice none 0 0] 27) = w2 at *
  generalize w1.heap.size = X at *
  go_upto_region 3 with (fail)
  have hpe : 1 + pt % 2 = 1 ∨ 1 + pt % 2 = 2 := by omega
  generalize 1 + pt % 2 = part at *
  have HV2 := Lib.hid HI2.out.ports
  obtain rfl : k2 = ps.length := own_count HV2.out
  have hpl : ps.length ≤ 64 := HF.out.1
  obtain ⟨n, hn⟩ : ∃ n, ps.length = n := ⟨_, rfl⟩
  have HN := Lib.hid hn
  have HNEW := Lib.hid (new_calls HI2.out (by omega) part)
  rw [hn] at hpl HNEW HX2 ⊢
  clear hn HI1 HI2 HC1
  go_wp2_with (first | ((with_reducible refine at_op (o := ⟨some 34, _, _, _, _, _⟩) ?_); refine pl_load (o := ⟨some 34, _, _, _, _, _⟩) rfl 27 _ rfl X rfl 27 [.slice B1 k1 d1, .slice B2 n d2, .slice none 0 0] HX2.out _ Try.underlying27 rfl size27 ?_))
  refine HNEW.out.mono ?_
  rintro e w3 ⟨G, M, f, rfl, hn3⟩
  have HN3 := Lib.hid hn3
  have HX3 : Hid (Row w3 X 27 [.slice B1 k1 d1, .slice B2 n d2, .slice none 0 0]) := HX2.out.keepNo hn3.ch
  have x1 : w3.cell? ⟨X, 1, none⟩ = some (.slice B2 n d2) := by rw [HX3.out.cell]; rfl
  have xlt : X < w3.heap.size := HX3.out.lt
  clear hn3 HNEW
  have hmk1 := run_make_one (P := Try.prog) 54 31 (.slice none 0 0) 24 Try.underlying54 info31 rfl (n : Int) (by omega) (by omega) (by omega)
  have hmk2 := run_make_one (P := Try.prog) 55 3 (.int .i64 0) 8 Try.underlying55 info3 rfl (n : Int) (by omega) (by omega) (by omega)
  simp only [Int.toNat_natCast] at hmk1 hmk2
  go_upto_region 9 with (fail)
  have HR : Hid (Ri w ((w3.alloc (.cells (Array.replicate n (Value.slice none 0 0)) 31)).alloc (.cells (Array.replicate n (Value.int .i64 0)) 3)) X G M w3.heap.size (w3.heap.size + 1) (.slice B1 k1 d1) (.slice B2 n d2) f part ps (st0 fun j => (f (j + 1)).getD 0)) := by
    have hx := HX2.out
    have h1 := (Row.new w3 31 (List.replicate n (Value.slice none 0 0))).alloc (.cells (List.replicate n (Value.int .i64 0)).toArray 3)
    have h2 := Row.new_at (w3.alloc (.cells (List.replicate n (Value.slice none 0 0)).toArray 31)) 3 (List.replicate n (Value.int .i64 0)) (g := w3.heap.size + 1) (by simp)
    rw [List.toArray_replicate] at h1 h2
    rw [List.toArray_replicate] at h1 h2
    refine pi_init (by rw [HN.out]; exact HN3.out) hx ?_ HC2.out (((Ch.refl No w3).alloc _).alloc _) ?_ ?_ (Nat.le_refl _) (Nat.le_succ _)
    · have := HV2.out
      rw [HN.out] at this ⊢
      exact this
    · rw [HN.out]
      exact h1
    · rw [HN.out]
      exact h2
  generalize ((w3.alloc (.cells (Array.replicate n (Value.slice none 0 0)) 31)).alloc (.cells (Array.replicate n (Value.int .i64 0)) 3)) = w5 at *
  obtain ⟨gL, hgL⟩ : ∃ g, g = w3.heap.size + 1 := ⟨_, rfl⟩
  rw [← hgL] at HR ⊢
  generalize w3.heap.size = gW at *
  generalize (st0 fun j => (f (j + 1)).getD 0) = s0 at *
  clear hgL xlt x1 hmk1 hmk2 HN3 HX3 HX2 HV2 HC2 hw1 hw2 hp0 hp1
  go_loopw [12] (fun i wr => ∃ (k : Nat) (st : Nat → PoS), k ≤ os.length ∧ i = .int .i64 k ∧ Hid (Ri w wr X G M gW gL (.slice B1 k1 d1) (.slice B2 n d2) f part ps st)) (fun i _ => os.length - (intOf i).toNat)
  case atStart => exact ⟨0, s0, Nat.zero_le _, rfl, HR⟩
  case round =>
    clear HR
    obtain ⟨k, st, hk, rfl, HR⟩ := hrel
    by_cases hlk : k < os.length
    · have e1 := decide_lt_t (show (k : Int) < (os.length : Int) by omega)
      obtain ⟨hok, ad, ead, hcell⟩ := (HS.out.keep HR.out.pi.ch) k _ (List.getElem?_eq_getElem hlk)
      subst ead
      have HOK := Lib.hid (HS.out k _ (List.getElem?_eq_getElem hlk)).1
      generalize os[k] = o at *
      have c0 := hcell.first rfl
      have c1 := hcell.next 0 rfl
      have c2 := hcell.next 1 rfl
      have c3 := hcell.next 2 rfl
      have c4 := hcell.next 3 rfl
      have c5 := hcell.next 4 rfl
      simp only [Nat.reduceAdd] at c1 c2 c3 c4 c5
      clear hcell hok
      obtain ⟨kind, port, dA, ds, dcap, now, sort, out⟩ := o
      simp only [] at c0 c1 c2 c3 c4 c5
      obtain ⟨dl, hdl⟩ : ∃ l, ds.length = l := ⟨_, rfl⟩
      have HDL := Lib.hid hdl
      rw [hdl] at c2
      have hdl63 : dl ≤ 9223372036854775807 := by
        have h1 := HOK.out.len
        have h2 := HOK.out.cap
        unfold maxLen at h2
        simp only [] at h1 h2
        omega
      clear hdl
      have hpw : (Lit.int .i64 port).wf = true := wf_of HOK.out.port.1 HOK.out.port.2
      have HPW := Lib.hid hpw
      have HDC : Hid (Cl w dA (ints ds)) := HOK.out.data
      clear hpw
      go_upto_region 12 with (fail)
      have HB : Hid (Row (wr.alloc (.cells #[.int .i64 kind, .int .i64 port, .slice dA dl dcap, .int .i64 now, .int .i64 sort, .bool out] 57)) wr.heap.size 57 [.int .i64 kind, .int .i64 port, .slice dA dl dcap, .int .i64 now, .int .i64 sort, .bool out]) := Row.new wr 57 _
      have HR6 := Lib.hid (HR.out.keepNo ((Ch.refl No wr).alloc (.cells #[.int .i64 kind, .int .i64 port, .slice dA dl dcap, .int .i64 now, .int .i64 sort, .bool out] 57)))
      generalize wr.alloc (.cells #[.int .i64 kind, .int .i64 port, .slice dA dl dcap, .int .i64 now, .int .i64 sort, .bool out] 57) = w6 at *
      generalize wr.heap.size = B at *
      clear c0 c1 c2 c3 c4 c5 HR
      have HSL : Hid (Sl w6 (.slice dA dl dcap) ds) := ⟨dA, dcap, by rw [HDL.out], HDC.out.keepNo HR6.out.pi.ch, by rw [HDL.out]; exact hdl63⟩
      have c0 : w6.cell? ⟨B, 0, none⟩ = some (.int .i64 kind) := by rw [HB.out.cell]; rfl
      have c1 : w6.cell? ⟨B, 1, none⟩ = some (.int .i64 port) := by rw [HB.out.cell]; rfl
      have x1 : w6.cell? ⟨X, 1, none⟩ = some (.slice B2 n d2) := by rw [HR6.out.pi.box.cell]; rfl
      by_cases h1 : 1 ≤ port
      · have g1 := decide_le_t h1
        by_cases h2 : port ≤ (n : Int)
        · have g2 := decide_le_t h2
          obtain ⟨j, rfl⟩ : ∃ j : Nat, port = (j : Int) + 1 := ⟨(port - 1).toNat, by omega⟩
          have hjn : j < n := by omega
          obtain ⟨p, hp⟩ : ∃ p, ps[j]? = some p := ⟨_, List.getElem?_eq_getElem (by have := HN.out; omega)⟩
          obtain ⟨gp, rfl, hpc⟩ := HR6.out.pi.cells hp
          obtain ⟨s0, s1, -, -⟩ := hpc w6 (Ch.refl _ _)
          have hw1 : wrap64 ((j : Int) + 1 - 1) = (j : Int) := by unfold wrap64; omega
          have hj6 : j * 6 ≤ 400 := by omega
          have HP := Lib.hid hp
          clear hpc hp h1 h2
          by_cases hpt : p.part = part
          · have b1 : (p.part == part) = true := by simp [hpt]
            have HPT := Lib.hid hpt
            clear hpt
            by_cases hkd : p.kind = 1
            · have b2 : (p.kind == 1) = true := by simp [hkd]
              have HKD := Lib.hid hkd
              have HDAT : Hid (∀ w' : World, Ch (Dq (st j).E (st j).vq) w6 w' → Cl w' dA (ints ds)) := fun w' hc => by
                refine HDC.out.keepNo (HR6.out.pi.ch.trans hc (fun i hi hd => ?_))
                rcases hd with hd | hd
                · have := (HR6.out.pi.ends j p HP.out HPT.out).2.2.1
                  omega
                · have := HR6.out.pi.qb j i hd
                  omega
              clear hkd
              go_upto_block 2 with (fail)
              refine sw_is _ _ _ _ _ _ _ _ _ _ _ _ _ _ _ _ _ _ _ _ _ _ _ _ _ _ _ _ _ _ _ _ _ _ _ _ _ _ _ _ _ _ _ _ _ _ _ _ _ _ _ _ _ _ _ _ _ _ _ _ _ _ _ _ _ _ _ _ _ _ _ _ _ _ _ _ _ _ _ _ _ _ _ _ _ _ _ _ _ _ _ _ _ _ _ _ _ _ _ _ _ _ _ _ _ _ _ _ _ _ _ _ _ _ _ _ _ _ _ _ _ _ _ _ _ _ _ _ _ _ _ _ _ _ _ _ _ _ _ _ _ _ _ _ _ _ _ _ _ _ _ _ _ _ _ _ _ _ _ _ _ _ _ _ _ _ _ _ _ _ _ _ _ _ _ _ _ _ _ _ _ _ _ _ _ _ _ _ _ _ _ _ _ _ _ _ _ _ _ _ _ _ _ _ _ _ _ _ _ _ _ _ _ _ _ _ _ _ _ _ _ _ _ _ _ _ _ _ _ _ _ _ _ _ _ _ _ _ _ _ _ _ _ _ _ _ _ _ _ _ _ _ _ _ _ _ _ _ _ _ _ _ _ _ _ _ _ _ _ _ _ _ _ _ _ _ _ _ _ _ _ _ _ _ _ _ _ _ _ _ _ _ _ _ _ _ _ _ _ _ _ _ _ _ _ _ _ _ _ _ HR6.out HB.out HF.out HN.out HP.out HPT.out HKD.out HSL.out HDL.out HDAT.out (fun _ _ _ _ _ h => h) ?_
              intro v16 v17 v18 v19 v20 v21 v22 v23 v92 v93 v94 v95 v96 v97 v98 v99 v100 v101 v102 v103 v104 v105 v106 v107 v108 v109 v110 v111 v112 v113 v114 v115 v116 v117 v118 v119 v120 v121 v122 v123 v124 v125 v126 v127 v128 v129 v130 v131 v132 v133 v134 v135 v136 v137 v138 v139 v140 v141 v142 v143 v144 v145 v146 v147 v148 v149 v150 v151 v152 v153 v154 v155 v156 v157 v158 v159 v160 v161 v162 v163 v164 v165 v166 v167 v168 v169 v170 v171 v172 v173 v174 v175 v176 v177 v178 v179 v180 v181 v182 v183 v184 v185 v186 v187 v188 v189 v190 v191 v192 v193 v194 v195 v196 v197 v198 v199 v200 v201 v202 v203 v204 v205 v206 v207 v208 v209 v210 v211 v212 v213 v214 v215 v216 v217 v218 v219 v220 v221 v222 v223 v224 v225 v226 v227 v228 v229 v230 v231 v232 v233 v234 v235 v236 v237 v238 v239 v240 v241 v242 v243 v244 v245 v246 v247 v248 v249 v250 v251 v252 v253 v254 v255 v256 v257 v258 v259 v260 v261 v262 v263 v264 v265 v266 v267 w7 st7 hR7
              have HR7 := Lib.hid hR7
              clear hR7 c0 c1 x1
              go_upto_block 3 with (fail)
              refine cnt5_calls _ _ _ _ _ _ _ _ _ _ _ _ _ _ _ _ _ _ _ _ _ _ _ _ _ _ _ _ _ _ _ _ _ _ _ _ _ _ _ _ _ _ _ _ _ _ _ _ _ _ _ _ _ _ _ _ _ _ _ _ _ _ _ _ _ _ _ _ _ _ _ _ _ _ _ _ _ _ _ _ _ _ _ _ _ _ _ _ _ _ _ _ _ _ _ _ _ _ _ _ _ _ _ _ _ _ _ _ _ _ _ _ _ _ _ _ _ _ _ _ _ _ _ _ _ _ _ _ _ _ _ _ _ _ _ _ _ _ _ _ _ _ _ _ _ _ _ _ _ _ _ _ _ _ _ _ _ _ _ _ _ _ _ _ _ _ _ _ _ _ _ _ _ _ _ _ _ _ _ _ _ _ _ _ _ _ _ _ _ _ _ _ _ _ _ _ _ _ _ _ _ _ _ _ _ _ _ _ _ _ _ _ _ _ _ _ _ _ _ _ _ _ _ _ _ _ _ _ _ _ _ _ _ _ _ _ _ _ _ _ _ _ _ _ _ _ _ _ _ _ _ _ _ _ _ _ _ _ _ _ _ _ _ _ _ _ _ _ _ _ _ _ _ _ _ _ _ _ _ _ _ _ _ _ _ _ _ _ _ _ _ _ _ _ _ _ _ _ _ _ _ _ _ _ _ _ _ _ _ _ _ _ _ _ HR7.out HF.out HN.out ?_
              intro y6 y24 y25 y26 y27 y268 y269 y270 y271 y272 y273 y274 y275 y276 y277 y278 y279 y280 y281 y282 y283 y284 y285 y286 y287 y288 y289 y290 y291 y292 y293 y294 y295 y296 y297 y298 y299 y300 y301 y302 y303 y304 y305 y306 y307 y308 y309 y310 y311 y312 y313 y314 y315 y316 y317 y318 w8 hR8
              have HR8 := Lib.hid hR8
              clear hR8 HR7
              go_wp2_with (fail)
              exact ⟨⟨k + 1, st7, by omega, by go_num, HR8⟩, by simp [intOf]; omega⟩
            · have b2 : (p.kind == 1) = false := by simp [hkd]
              have HKD := Lib.hid hkd
              clear hkd
              go_upto_block 2 with (fail)
              refine sw_not (mi := true) _ _ _ _ _ _ _ _ _ _ _ _ _ _ _ _ _ _ _ _ _ _ _ _ _ _ _ _ _ _ _ _ _ _ _ _ _ _ _ _ _ _ _ _ _ _ _ _ _ _ _ _ _ _ _ _ _ _ _ _ _ _ _ _ _ _ _ _ _ _ _ _ _ _ _ _ _ _ _ _ _ _ _ _ _ _ _ _ _ _ _ _ _ _ _ _ _ _ _ _ _ _ _ _ _ _ _ _ _ _ _ _ _ _ _ _ _ _ _ _ _ _ _ _ _ _ _ _ _ _ _ _ _ _ _ _ _ _ _ _ _ _ _ _ _ _ _ _ _ _ _ _ _ _ _ _ _ _ _ _ _ _ _ _ _ _ _ _ _ _ _ _ _ _ _ _ _ _ _ _ _ _ _ _ _ _ _ _ _ _ _ _ _ _ _ _ _ _ _ _ _ _ _ _ _ _ _ _ _ _ _ _ _ _ _ _ _ _ _ _ _ _ _ _ _ _ _ _ _ _ _ _ _ _ _ _ _ _ _ _ _ _ _ _ _ _ _ _ _ _ _ _ _ _ _ _ _ _ _ _ _ _ _ _ _ _ _ _ _ _ _ _ _ _ _ _ _ _ _ _ _ _ _ _ _ _ _ _ _ _ _ _ _ _ _ _ _ _ _ _ _ _ _ _ _ _ _ _ _ _ HR6.out HB.out HF.out HPW.out HSL.out (fun h => absurd h (by decide)) (.inr ⟨j, p, HP.out, HPT.out, rfl, HKD.out⟩) ?_
              intro v16 v17 v18 v19 v20 v21 v22 v23 v92 v93 v94 v95 v96 v97 v98 v99 v100 v101 v102 v103 v104 v105 v106 v107 v108 v109 v110 v111 v112 v113 v114 v115 v116 v117 v118 v119 v120 v121 v122 v123 v124 v125 v126 v127 v128 v129 v130 v131 v132 v133 v134 v135 v136 v137 v138 v139 v140 v141 v142 v143 v144 v145 v146 v147 v148 v149 v150 v151 v152 v153 v154 v155 v156 v157 v158 v159 v160 v161 v162 v163 v164 v165 v166 v167 v168 v169 v170 v171 v172 v173 v174 v175 v176 v177 v178 v179 v180 v181 v182 v183 v184 v185 v186 v187 v188 v189 v190 v191 v192 v193 v194 v195 v196 v197 v198 v199 v200 v201 v202 v203 v204 v205 v206 v207 v208 v209 v210 v211 v212 v213 v214 v215 v216 v217 v218 v219 v220 v221 v222 v223 v224 v225 v226 v227 v228 v229 v230 v231 v232 v233 v234 v235 v236 v237 v238 v239 v240 v241 v242 v243 v244 v245 v246 v247 v248 v249 v250 v251 v252 v253 v254 v255 v256 v257 v258 v259 v260 v261 v262 v263 v264 v265 v266 v267 w7 st7 hR7
              have HR7 := Lib.hid hR7
              clear hR7 c0 c1 x1
              go_upto_block 3 with (fail)
              refine cnt5_calls _ _ _ _ _ _ _ _ _ _ _ _ _ _ _ _ _ _ _ _ _ _ _ _ _ _ _ _ _ _ _ _ _ _ _ _ _ _ _ _ _ _ _ _ _ _ _ _ _ _ _ _ _ _ _ _ _ _ _ _ _ _ _ _ _ _ _ _ _ _ _ _ _ _ _ _ _ _ _ _ _ _ _ _ _ _ _ _ _ _ _ _ _ _ _ _ _ _ _ _ _ _ _ _ _ _ _ _ _ _ _ _ _ _ _ _ _ _ _ _ _ _ _ _ _ _ _ _ _ _ _ _ _ _ _ _ _ _ _ _ _ _ _ _ _ _ _ _ _ _ _ _ _ _ _ _ _ _ _ _ _ _ _ _ _ _ _ _ _ _ _ _ _ _ _ _ _ _ _ _ _ _ _ _ _ _ _ _ _ _ _ _ _ _ _ _ _ _ _ _ _ _ _ _ _ _ _ _ _ _ _ _ _ _ _ _ _ _ _ _ _ _ _ _ _ _ _ _ _ _ _ _ _ _ _ _ _ _ _ _ _ _ _ _ _ _ _ _ _ _ _ _ _ _ _ _ _ _ _ _ _ _ _ _ _ _ _ _ _ _ _ _ _ _ _ _ _ _ _ _ _ _ _ _ _ _ _ _ _ _ _ _ _ _ _ _ _ _ _ _ _ _ _ _ _ _ _ _ _ _ _ _ _ _ HR7.out HF.out HN.out ?_
              intro y6 y24 y25 y26 y27 y268 y269 y270 y271 y272 y273 y274 y275 y276 y277 y278 y279 y280 y281 y282 y283 y284 y285 y286 y287 y288 y289 y290 y291 y292 y293 y294 y295 y296 y297 y298 y299 y300 y301 y302 y303 y304 y305 y306 y307 y308 y309 y310 y311 y312 y313 y314 y315 y316 y317 y318 w8 hR8
              have HR8 := Lib.hid hR8
              clear hR8 HR7
              go_wp2_with (fail)
              exact ⟨⟨k + 1, st7, by omega, by go_num, HR8⟩, by simp [intOf]; omega⟩
          · have b1 : (p.part == part) = false := by simp [hpt]
            have HNO : Hid (NotOwn ps part ((j : Int) + 1)) := fun j' p' h1 h2 h3 => by
              obtain rfl : j = j' := by omega
              rw [HP.out] at h1
              cases h1
              exact hpt h2
            clear hpt
            go_upto_block 2 with (fail)
            refine sw_not (mi := false) _ _ _ _ _ _ _ _ _ _ _ _ _ _ _ _ _ _ _ _ _ _ _ _ _ _ _ _ _ _ _ _ _ _ _ _ _ _ _ _ _ _ _ _ _ _ _ _ _ _ _ _ _ _ _ _ _ _ _ _ _ _ _ _ _ _ _ _ _ _ _ _ _ _ _ _ _ _ _ _ _ _ _ _ _ _ _ _ _ _ _ _ _ _ _ _ _ _ _ _ _ _ _ _ _ _ _ _ _ _ _ _ _ _ _ _ _ _ _ _ _ _ _ _ _ _ _ _ _ _ _ _ _ _ _ _ _ _ _ _ _ _ _ _ _ _ _ _ _ _ _ _ _ _ _ _ _ _ _ _ _ _ _ _ _ _ _ _ _ _ _ _ _ _ _ _ _ _ _ _ _ _ _ _ _ _ _ _ _ _ _ _ _ _ _ _ _ _ _ _ _ _ _ _ _ _ _ _ _ _ _ _ _ _ _ _ _ _ _ _ _ _ _ _ _ _ _ _ _ _ _ _ _ _ _ _ _ _ _ _ _ _ _ _ _ _ _ _ _ _ _ _ _ _ _ _ _ _ _ _ _ _ _ _ _ _ _ _ _ _ _ _ _ _ _ _ _ _ _ _ _ _ _ _ _ _ _ _ _ _ _ _ _ _ _ _ _ _ _ _ _ _ _ _ _ _ _ _ _ _ HR6.out HB.out HF.out HPW.out HSL.out (fun _ => HNO.out) (.inl HNO.out) ?_
            intro v16 v17 v18 v19 v20 v21 v22 v23 v92 v93 v94 v95 v96 v97 v98 v99 v100 v101 v102 v103 v104 v105 v106 v107 v108 v109 v110 v111 v112 v113 v114 v115 v116 v117 v118 v119 v120 v121 v122 v123 v124 v125 v126 v127 v128 v129 v130 v131 v132 v133 v134 v135 v136 v137 v138 v139 v140 v141 v142 v143 v144 v145 v146 v147 v148 v149 v150 v151 v152 v153 v154 v155 v156 v157 v158 v159 v160 v161 v162 v163 v164 v165 v166 v167 v168 v169 v170 v171 v172 v173 v174 v175 v176 v177 v178 v179 v180 v181 v182 v183 v184 v185 v186 v187 v188 v189 v190 v191 v192 v193 v194 v195 v196 v197 v198 v199 v200 v201 v202 v203 v204 v205 v206 v207 v208 v209 v210 v211 v212 v213 v214 v215 v216 v217 v218 v219 v220 v221 v222 v223 v224 v225 v226 v227 v228 v229 v230 v231 v232 v233 v234 v235 v236 v237 v238 v239 v240 v241 v242 v243 v244 v245 v246 v247 v248 v249 v250 v251 v252 v253 v254 v255 v256 v257 v258 v259 v260 v261 v262 v263 v264 v265 v266 v267 w7 st7 hR7
            have HR7 := Lib.hid hR7
            clear hR7 c0 c1 x1
            go_upto_block 3 with (fail)
            refine cnt5_calls _ _ _ _ _ _ _ _ _ _ _ _ _ _ _ _ _ _ _ _ _ _ _ _ _ _ _ _ _ _ _ _ _ _ _ _ _ _ _ _ _ _ _ _ _ _ _ _ _ _ _ _ _ _ _ _ _ _ _ _ _ _ _ _ _ _ _ _ _ _ _ _ _ _ _ _ _ _ _ _ _ _ _ _ _ _ _ _ _ _ _ _ _ _ _ _ _ _ _ _ _ _ _ _ _ _ _ _ _ _ _ _ _ _ _ _ _ _ _ _ _ _ _ _ _ _ _ _ _ _ _ _ _ _ _ _ _ _ _ _ _ _ _ _ _ _ _ _ _ _ _ _ _ _ _ _ _ _ _ _ _ _ _ _ _ _ _ _ _ _ _ _ _ _ _ _ _ _ _ _ _ _ _ _ _ _ _ _ _ _ _ _ _ _ _ _ _ _ _ _ _ _ _ _ _ _ _ _ _ _ _ _ _ _ _ _ _ _ _ _ _ _ _ _ _ _ _ _ _ _ _ _ _ _ _ _ _ _ _ _ _ _ _ _ _ _ _ _ _ _ _ _ _ _ _ _ _ _ _ _ _ _ _ _ _ _ _ _ _ _ _ _ _ _ _ _ _ _ _ _ _ _ _ _ _ _ _ _ _ _ _ _ _ _ _ _ _ _ _ _ _ _ _ _ _ _ _ _ _ _ _ _ _ _ HR7.out HF.out HN.out ?_
            intro y6 y24 y25 y26 y27 y268 y269 y270 y271 y272 y273 y274 y275 y276 y277 y278 y279 y280 y281 y282 y283 y284 y285 y286 y287 y288 y289 y290 y291 y292 y293 y294 y295 y296 y297 y298 y299 y300 y301 y302 y303 y304 y305 y306 y307 y308 y309 y310 y311 y312 y313 y314 y315 y316 y317 y318 w8 hR8
            have HR8 := Lib.hid hR8
            clear hR8 HR7
            go_wp2_with (fail)
            exact ⟨⟨k + 1, st7, by omega, by go_num, HR8⟩, by simp [intOf]; omega⟩
        · have g2 := decide_le_f h2
          have HNO : Hid (NotOwn ps part port) := fun j' p' h3 _ h5 => by
            have := (List.getElem?_eq_some_iff.1 h3).1
            have := HN.out
            omega
          clear h1 h2
          go_upto_block 2 with (fail)
          refine sw_not (mi := false) _ _ _ _ _ _ _ _ _ _ _ _ _ _ _ _ _ _ _ _ _ _ _ _ _ _ _ _ _ _ _ _ _ _ _ _ _ _ _ _ _ _ _ _ _ _ _ _ _ _ _ _ _ _ _ _ _ _ _ _ _ _ _ _ _ _ _ _ _ _ _ _ _ _ _ _ _ _ _ _ _ _ _ _ _ _ _ _ _ _ _ _ _ _ _ _ _ _ _ _ _ _ _ _ _ _ _ _ _ _ _ _ _ _ _ _ _ _ _ _ _ _ _ _ _ _ _ _ _ _ _ _ _ _ _ _ _ _ _ _ _ _ _ _ _ _ _ _ _ _ _ _ _ _ _ _ _ _ _ _ _ _ _ _ _ _ _ _ _ _ _ _ _ _ _ _ _ _ _ _ _ _ _ _ _ _ _ _ _ _ _ _ _ _ _ _ _ _ _ _ _ _ _ _ _ _ _ _ _ _ _ _ _ _ _ _ _ _ _ _ _ _ _ _ _ _ _ _ _ _ _ _ _ _ _ _ _ _ _ _ _ _ _ _ _ _ _ _ _ _ _ _ _ _ _ _ _ _ _ _ _ _ _ _ _ _ _ _ _ _ _ _ _ _ _ _ _ _ _ _ _ _ _ _ _ _ _ _ _ _ _ _ _ _ _ _ _ _ _ _ _ _ _ _ _ _ _ _ _ _ HR6.out HB.out HF.out HPW.out HSL.out (fun _ => HNO.out) (.inl HNO.out) ?_
          intro v16 v17 v18 v19 v20 v21 v22 v23 v92 v93 v94 v95 v96 v97 v98 v99 v100 v101 v102 v103 v104 v105 v106 v107 v108 v109 v110 v111 v112 v113 v114 v115 v116 v117 v118 v119 v120 v121 v122 v123 v124 v125 v126 v127 v128 v129 v130 v131 v132 v133 v134 v135 v136 v137 v138 v139 v140 v141 v142 v143 v144 v145 v146 v147 v148 v149 v150 v151 v152 v153 v154 v155 v156 v157 v158 v159 v160 v161 v162 v163 v164 v165 v166 v167 v168 v169 v170 v171 v172 v173 v174 v175 v176 v177 v178 v179 v180 v181 v182 v183 v184 v185 v186 v187 v188 v189 v190 v191 v192 v193 v194 v195 v196 v197 v198 v199 v200 v201 v202 v203 v204 v205 v206 v207 v208 v209 v210 v211 v212 v213 v214 v215 v216 v217 v218 v219 v220 v221 v222 v223 v224 v225 v226 v227 v228 v229 v230 v231 v232 v233 v234 v235 v236 v237 v238 v239 v240 v241 v242 v243 v244 v245 v246 v247 v248 v249 v250 v251 v252 v253 v254 v255 v256 v257 v258 v259 v260 v261 v262 v263 v264 v265 v266 v267 w7 st7 hR7
          have HR7 := Lib.hid hR7
          clear hR7 c0 c1 x1
          go_upto_block 3 with (fail)
          refine cnt5_calls _ _ _ _ _ _ _ _ _ _ _ _ _ _ _ _ _ _ _ _ _ _ _ _ _ _ _ _ _ _ _ _ _ _ _ _ _ _ _ _ _ _ _ _ _ _ _ _ _ _ _ _ _ _ _ _ _ _ _ _ _ _ _ _ _ _ _ _ _ _ _ _ _ _ _ _ _ _ _ _ _ _ _ _ _ _ _ _ _ _ _ _ _ _ _ _ _ _ _ _ _ _ _ _ _ _ _ _ _ _ _ _ _ _ _ _ _ _ _ _ _ _ _ _ _ _ _ _ _ _ _ _ _ _ _ _ _ _ _ _ _ _ _ _ _ _ _ _ _ _ _ _ _ _ _ _ _ _ _ _ _ _ _ _ _ _ _ _ _ _ _ _ _ _ _ _ _ _ _ _ _ _ _ _ _ _ _ _ _ _ _ _ _ _ _ _ _ _ _ _ _ _ _ _ _ _ _ _ _ _ _ _ _ _ _ _ _ _ _ _ _ _ _ _ _ _ _ _ _ _ _ _ _ _ _ _ _ _ _ _ _ _ _ _ _ _ _ _ _ _ _ _ _ _ _ _ _ _ _ _ _ _ _ _ _ _ _ _ _ _ _ _ _ _ _ _ _ _ _ _ _ _ _ _ _ _ _ _ _ _ _ _ _ _ _ _ _ _ _ _ _ _ _ _ _ _ _ _ _ _ _ _ _ _ HR7.out HF.out HN.out ?_
          intro y6 y24 y25 y26 y27 y268 y269 y270 y271 y272 y273 y274 y275 y276 y277 y278 y279 y280 y281 y282 y283 y284 y285 y286 y287 y288 y289 y290 y291 y292 y293 y294 y295 y296 y297 y298 y299 y300 y301 y302 y303 y304 y305 y306 y307 y308 y309 y310 y311 y312 y313 y314 y315 y316 y317 y318 w8 hR8
          have HR8 := Lib.hid hR8
          clear hR8 HR7
          go_wp2_with (fail)
          exact ⟨⟨k + 1, st7, by omega, by go_num, HR8⟩, by simp [intOf]; omega⟩
      · have g1 := decide_le_f h1
        have HNO : Hid (NotOwn ps part port) := fun j' p' h3 _ h5 => by omega
        clear h1
        go_upto_block 2 with (fail)
        refine sw_not (mi := false) _ _ _ _ _ _ _ _ _ _ _ _ _ _ _ _ _ _ _ _ _ _ _ _ _ _ _ _ _ _ _ _ _ _ _ _ _ _ _ _ _ _ _ _ _ _ _ _ _ _ _ _ _ _ _ _ _ _ _ _ _ _ _ _ _ _ _ _ _ _ _ _ _ _ _ _ _ _ _ _ _ _ _ _ _ _ _ _ _ _ _ _ _ _ _ _ _ _ _ _ _ _ _ _ _ _ _ _ _ _ _ _ _ _ _ _ _ _ _ _ _ _ _ _ _ _ _ _ _ _ _ _ _ _ _ _ _ _ _ _ _ _ _ _ _ _ _ _ _ _ _ _ _ _ _ _ _ _ _ _ _ _ _ _ _ _ _ _ _ _ _ _ _ _ _ _ _ _ _ _ _ _ _ _ _ _ _ _ _ _ _ _ _ _ _ _ _ _ _ _ _ _ _ _ _ _ _ _ _ _ _ _ _ _ _ _ _ _ _ _ _ _ _ _ _ _ _ _ _ _ _ _ _ _ _ _ _ _ _ _ _ _ _ _ _ _ _ _ _ _ _ _ _ _ _ _ _ _ _ _ _ _ _ _ _ _ _ _ _ _ _ _ _ _ _ _ _ _ _ _ _ _ _ _ _ _ _ _ _ _ _ _ _ _ _ _ _ _ _ _ _ _ _ _ _ _ _ _ _ _ HR6.out HB.out HF.out HPW.out HSL.out (fun _ => HNO.out) (.inl HNO.out) ?_
        intro v16 v17 v18 v19 v20 v21 v22 v23 v92 v93 v94 v95 v96 v97 v98 v99 v100 v101 v102 v103 v104 v105 v106 v107 v108 v109 v110 v111 v112 v113 v114 v115 v116 v117 v118 v119 v120 v121 v122 v123 v124 v125 v126 v127 v128 v129 v130 v131 v132 v133 v134 v135 v136 v137 v138 v139 v140 v141 v142 v143 v144 v145 v146 v147 v148 v149 v150 v151 v152 v153 v154 v155 v156 v157 v158 v159 v160 v161 v162 v163 v164 v165 v166 v167 v168 v169 v170 v171 v172 v173 v174 v175 v176 v177 v178 v179 v180 v181 v182 v183 v184 v185 v186 v187 v188 v189 v190 v191 v192 v193 v194 v195 v196 v197 v198 v199 v200 v201 v202 v203 v204 v205 v206 v207 v208 v209 v210 v211 v212 v213 v214 v215 v216 v217 v218 v219 v220 v221 v222 v223 v224 v225 v226 v227 v228 v229 v230 v231 v232 v233 v234 v235 v236 v237 v238 v239 v240 v241 v242 v243 v244 v245 v246 v247 v248 v249 v250 v251 v252 v253 v254 v255 v256 v257 v258 v259 v260 v261 v262 v263 v264 v265 v266 v267 w7 st7 hR7
        have HR7 := Lib.hid hR7
        clear hR7 c0 c1 x1
        go_upto_block 3 with (fail)
        refine cnt5_calls _ _ _ _ _ _ _ _ _ _ _ _ _ _ _ _ _ _ _ _ _ _ _ _ _ _ _ _ _ _ _ _ _ _ _ _ _ _ _ _ _ _ _ _ _ _ _ _ _ _ _ _ _ _ _ _ _ _ _ _ _ _ _ _ _ _ _ _ _ _ _ _ _ _ _ _ _ _ _ _ _ _ _ _ _ _ _ _ _ _ _ _ _ _ _ _ _ _ _ _ _ _ _ _ _ _ _ _ _ _ _ _ _ _ _ _ _ _ _ _ _ _ _ _ _ _ _ _ _ _ _ _ _ _ _ _ _ _ _ _ _ _ _ _ _ _ _ _ _ _ _ _ _ _ _ _ _ _ _ _ _ _ _ _ _ _ _ _ _ _ _ _ _ _ _ _ _ _ _ _ _ _ _ _ _ _ _ _ _ _ _ _ _ _ _ _ _ _ _ _ _ _ _ _ _ _ _ _ _ _ _ _ _ _ _ _ _ _ _ _ _ _ _ _ _ _ _ _ _ _ _ _ _ _ _ _ _ _ _ _ _ _ _ _ _ _ _ _ _ _ _ _ _ _ _ _ _ _ _ _ _ _ _ _ _ _ _ _ _ _ _ _ _ _ _ _ _ _ _ _ _ _ _ _ _ _ _ _ _ _ _ _ _ _ _ _ _ _ _ _ _ _ _ _ _ _ _ _ _ _ _ _ _ _ HR7.out HF.out HN.out ?_
        intro y6 y24 y25 y26 y27 y268 y269 y270 y271 y272 y273 y274 y275 y276 y277 y278 y279 y280 y281 y282 y283 y284 y285 y286 y287 y288 y289 y290 y291 y292 y293 y294 y295 y296 y297 y298 y299 y300 y301 y302 y303 y304 y305 y306 y307 y308 y309 y310 y311 y312 y313 y314 y315 y316 y317 y318 w8 hR8
        have HR8 := Lib.hid hR8
        clear hR8 HR7
        go_wp2_with (fail)
        exact ⟨⟨k + 1, st7, by omega, by go_num, HR8⟩, by simp [intOf]; omega⟩
    · have e1 := decide_lt_f (show ¬ (k : Int) < (os.length : Int) by omega)
      go_wp2_with (fail)
      refine (works_calls _).mono ?_
      rintro e w9 ⟨rfl, hc9⟩
      have HC9 := Lib.hid (HR.out.pi.ch.then_ hc9)
      clear hc9
      go_wp2_with (fail)
      exact bodyPost_ret (v := .bool true) (by kernel_rfl) rfl ⟨rfl, HC9.out⟩
end Go.Proofs.Ytlokpcbiomjcnaa
