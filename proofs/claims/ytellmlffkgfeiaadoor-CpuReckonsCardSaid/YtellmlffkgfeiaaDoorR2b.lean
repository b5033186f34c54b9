/- CpuReckons: the walk, further ways. -/
import Derived.Test.YtellmlffkgfeiaaDoorR2a
set_option linter.unusedVariables false
set_option linter.unusedSimpArgs false
namespace Go.Proofs.YtellmlffkgfeiaaDoor
open Go.RowKit
set_option maxRecDepth 100000 in
set_option maxHeartbeats 4000000 in
theorem reckons_100lt (b c d s m p r a o x y z P k q t u e h : Int) (S_s : Hid (Sure 7 b c s)) (S_b1 : Hid (Sure 8 s c b)) (S_s2 : Hid (Sure 7 c b s)) (S_m : Hid (Sure 9 s d m)) (S_p1 : Hid (Sure 9 b d p)) (S_p2 : Hid (Sure 9 c d r)) (S_m2 : Hid (Sure 7 p r m)) (S_a : Hid (Sure 12 b c a)) (S_o : Hid (Sure 13 b c o)) (S_s3 : Hid (Sure 7 a o s)) (S_x : Hid (Sure 14 b c x)) (S_x2 : Hid (Sure 8 o a x)) (S_x3 : Hid (Sure 14 b c x)) (S_b2 : Hid (Sure 14 x c b)) (S_y : Hid (Sure 15 b d y)) (S_y2 : Hid (Sure 9 b P y)) (S_y3 : Hid (Sure 15 b d y)) (S_y4 : Hid (Sure 15 b k y)) (S_z : Hid (Sure 17 b d z)) (S_z2 : Hid (Sure 17 b k z)) (S_z3 : Hid (Sure 17 b k z)) (S_z4 : Hid (Sure 10 b P z)) (S_f1 : Hid (Sure 19 b c 1)) (S_f2 : Hid (Sure 19 c b 0)) (S_f3 : Hid (Sure 21 b c 0)) (S_f4 : Hid (Sure 21 b c 0)) (S_f5 : Hid (Sure 19 b c 1)) (S_u : Hid (Sure 20 b c u)) (S_b3 : Hid (Sure 14 b (-9223372036854775808) e)) (S_c3 : Hid (Sure 14 c (-9223372036854775808) h)) (S_u2 : Hid (Sure 19 e h u)) (HCUT : Hid (∀ W : World, Calls Tryd.prog 19 #[.int .i64 d, .int .i64 64] W fun e w' => e = .returned (.tuple #[.int .i64 q, .int .i64 k]) ∧ W = w')) (HPOW : Hid (∀ W : World, Calls Tryd.prog 20 #[.int .i64 k] W fun e w' => e = .returned (.int .i64 P) ∧ W = w')) (k63 : k < 63) (bp : b < 0) (kp : k ≤ 0) (bc : b < c) (be : (b == c) = false) (w : World) (hg : Glob w) :
    Calls Tryd.prog 4 #[.int .i64 b, .int .i64 c, .int .i64 d] w fun e w' => e = .returned (.bool true) ∧ Ch No w w' := by
  have HG := Lib.hid hg
  have HC := Lib.hid (Ch.refl No w)
  clear hg
  go_enter Tryd.func4, Tryd.ntmps4
  go_wp2_with (fail)
  refine (S_s.out _ HG.out).mono ?_
  rintro e w11 ⟨rfl, hc⟩
  have HG11 := Lib.hid (HG.out.keep hc (not_no _))
  have HC11 := Lib.hid (HC.out.then_ hc)
  clear hc
  go_wp2_with (fail)
  refine (known_calls _ HG11.out).mono ?_
  rintro e w12 ⟨rfl, hc⟩
  have HG12 := Lib.hid (HG11.out.keep hc (not_no _))
  have HC12 := Lib.hid (HC11.out.then_ hc)
  clear hc
  go_wp2_with (fail)
  refine (S_b1.out _ HG12.out).mono ?_
  rintro e w13 ⟨rfl, hc⟩
  have HG13 := Lib.hid (HG12.out.keep hc (not_no _))
  have HC13 := Lib.hid (HC12.out.then_ hc)
  clear hc
  go_wp2_with (fail)
  refine (S_s2.out _ HG13.out).mono ?_
  rintro e w14 ⟨rfl, hc⟩
  have HG14 := Lib.hid (HG13.out.keep hc (not_no _))
  have HC14 := Lib.hid (HC13.out.then_ hc)
  clear hc
  go_wp2_with (fail)
  refine (S_m.out _ HG14.out).mono ?_
  rintro e w15 ⟨rfl, hc⟩
  have HG15 := Lib.hid (HG14.out.keep hc (not_no _))
  have HC15 := Lib.hid (HC14.out.then_ hc)
  clear hc
  go_wp2_with (fail)
  refine (S_p1.out _ HG15.out).mono ?_
  rintro e w16 ⟨rfl, hc⟩
  have HG16 := Lib.hid (HG15.out.keep hc (not_no _))
  have HC16 := Lib.hid (HC15.out.then_ hc)
  clear hc
  go_wp2_with (fail)
  refine (S_p2.out _ HG16.out).mono ?_
  rintro e w17 ⟨rfl, hc⟩
  have HG17 := Lib.hid (HG16.out.keep hc (not_no _))
  have HC17 := Lib.hid (HC16.out.then_ hc)
  clear hc
  go_wp2_with (fail)
  refine (S_m2.out _ HG17.out).mono ?_
  rintro e w18 ⟨rfl, hc⟩
  have HG18 := Lib.hid (HG17.out.keep hc (not_no _))
  have HC18 := Lib.hid (HC17.out.then_ hc)
  clear hc
  go_wp2_with (fail)
  refine (S_a.out _ HG18.out).mono ?_
  rintro e w19 ⟨rfl, hc⟩
  have HG19 := Lib.hid (HG18.out.keep hc (not_no _))
  have HC19 := Lib.hid (HC18.out.then_ hc)
  clear hc
  go_wp2_with (fail)
  refine (S_o.out _ HG19.out).mono ?_
  rintro e w20 ⟨rfl, hc⟩
  have HG20 := Lib.hid (HG19.out.keep hc (not_no _))
  have HC20 := Lib.hid (HC19.out.then_ hc)
  clear hc
  go_wp2_with (fail)
  refine (S_s3.out _ HG20.out).mono ?_
  rintro e w21 ⟨rfl, hc⟩
  have HG21 := Lib.hid (HG20.out.keep hc (not_no _))
  have HC21 := Lib.hid (HC20.out.then_ hc)
  clear hc
  go_wp2_with (fail)
  refine (S_x.out _ HG21.out).mono ?_
  rintro e w22 ⟨rfl, hc⟩
  have HG22 := Lib.hid (HG21.out.keep hc (not_no _))
  have HC22 := Lib.hid (HC21.out.then_ hc)
  clear hc
  go_wp2_with (fail)
  refine (S_x2.out _ HG22.out).mono ?_
  rintro e w23 ⟨rfl, hc⟩
  have HG23 := Lib.hid (HG22.out.keep hc (not_no _))
  have HC23 := Lib.hid (HC22.out.then_ hc)
  clear hc
  go_wp2_with (fail)
  refine (S_x3.out _ HG23.out).mono ?_
  rintro e w24 ⟨rfl, hc⟩
  have HG24 := Lib.hid (HG23.out.keep hc (not_no _))
  have HC24 := Lib.hid (HC23.out.then_ hc)
  clear hc
  go_wp2_with (fail)
  refine (S_b2.out _ HG24.out).mono ?_
  rintro e w25 ⟨rfl, hc⟩
  have HG25 := Lib.hid (HG24.out.keep hc (not_no _))
  have HC25 := Lib.hid (HC24.out.then_ hc)
  clear hc
  go_wp2_with (fail)
  refine (HCUT.out _).mono ?_
  rintro e w26 ⟨rfl, rfl⟩
  go_wp2_with (fail)
  refine (S_y.out _ HG25.out).mono ?_
  rintro e w27 ⟨rfl, hc⟩
  have HG27 := Lib.hid (HG25.out.keep hc (not_no _))
  have HC27 := Lib.hid (HC25.out.then_ hc)
  clear hc
  go_wp2_with (fail)
  refine (HPOW.out _).mono ?_
  rintro e w28 ⟨rfl, rfl⟩
  go_wp2_with (fail)
  refine (S_y2.out _ HG27.out).mono ?_
  rintro e w29 ⟨rfl, hc⟩
  have HG29 := Lib.hid (HG27.out.keep hc (not_no _))
  have HC29 := Lib.hid (HC27.out.then_ hc)
  clear hc
  go_wp2_with (fail)
  refine (S_y3.out _ HG29.out).mono ?_
  rintro e w30 ⟨rfl, hc⟩
  have HG30 := Lib.hid (HG29.out.keep hc (not_no _))
  have HC30 := Lib.hid (HC29.out.then_ hc)
  clear hc
  go_wp2_with (fail)
  refine (S_y4.out _ HG30.out).mono ?_
  rintro e w31 ⟨rfl, hc⟩
  have HG31 := Lib.hid (HG30.out.keep hc (not_no _))
  have HC31 := Lib.hid (HC30.out.then_ hc)
  clear hc
  go_wp2_with (fail)
  refine (S_z.out _ HG31.out).mono ?_
  rintro e w32 ⟨rfl, hc⟩
  have HG32 := Lib.hid (HG31.out.keep hc (not_no _))
  have HC32 := Lib.hid (HC31.out.then_ hc)
  clear hc
  go_wp2_with (fail)
  refine (S_z2.out _ HG32.out).mono ?_
  rintro e w33 ⟨rfl, hc⟩
  have HG33 := Lib.hid (HG32.out.keep hc (not_no _))
  have HC33 := Lib.hid (HC32.out.then_ hc)
  clear hc
  go_wp2_with (fail)
  refine (S_z3.out _ HG33.out).mono ?_
  rintro e w34 ⟨rfl, hc⟩
  have HG34 := Lib.hid (HG33.out.keep hc (not_no _))
  have HC34 := Lib.hid (HC33.out.then_ hc)
  clear hc
  go_wp2_with (fail)
  refine (HPOW.out _).mono ?_
  rintro e w35 ⟨rfl, rfl⟩
  go_wp2_with (fail)
  refine (S_z4.out _ HG34.out).mono ?_
  rintro e w36 ⟨rfl, hc⟩
  have HG36 := Lib.hid (HG34.out.keep hc (not_no _))
  have HC36 := Lib.hid (HC34.out.then_ hc)
  clear hc
  go_wp2_with (fail)
  refine (S_f1.out _ HG36.out).mono ?_
  rintro e w37 ⟨rfl, hc⟩
  have HG37 := Lib.hid (HG36.out.keep hc (not_no _))
  have HC37 := Lib.hid (HC36.out.then_ hc)
  clear hc
  go_wp2_with (fail)
  refine (S_f2.out _ HG37.out).mono ?_
  rintro e w38 ⟨rfl, hc⟩
  have HG38 := Lib.hid (HG37.out.keep hc (not_no _))
  have HC38 := Lib.hid (HC37.out.then_ hc)
  clear hc
  go_wp2_with (fail)
  refine (S_f3.out _ HG38.out).mono ?_
  rintro e w39 ⟨rfl, hc⟩
  have HG39 := Lib.hid (HG38.out.keep hc (not_no _))
  have HC39 := Lib.hid (HC38.out.then_ hc)
  clear hc
  go_wp2_with (fail)
  refine (S_f4.out _ HG39.out).mono ?_
  rintro e w40 ⟨rfl, hc⟩
  have HG40 := Lib.hid (HG39.out.keep hc (not_no _))
  have HC40 := Lib.hid (HC39.out.then_ hc)
  clear hc
  go_wp2_with (fail)
  refine (S_f5.out _ HG40.out).mono ?_
  rintro e w41 ⟨rfl, hc⟩
  have HG41 := Lib.hid (HG40.out.keep hc (not_no _))
  have HC41 := Lib.hid (HC40.out.then_ hc)
  clear hc
  go_wp2_with (fail)
  refine (S_u.out _ HG41.out).mono ?_
  rintro e w42 ⟨rfl, hc⟩
  have HG42 := Lib.hid (HG41.out.keep hc (not_no _))
  have HC42 := Lib.hid (HC41.out.then_ hc)
  clear hc
  go_wp2_with (fail)
  refine (S_b3.out _ HG42.out).mono ?_
  rintro e w43 ⟨rfl, hc⟩
  have HG43 := Lib.hid (HG42.out.keep hc (not_no _))
  have HC43 := Lib.hid (HC42.out.then_ hc)
  clear hc
  go_wp2_with (fail)
  refine (S_c3.out _ HG43.out).mono ?_
  rintro e w44 ⟨rfl, hc⟩
  have HG44 := Lib.hid (HG43.out.keep hc (not_no _))
  have HC44 := Lib.hid (HC43.out.then_ hc)
  clear hc
  go_wp2_with (fail)
  refine (S_u2.out _ HG44.out).mono ?_
  rintro e w45 ⟨rfl, hc⟩
  have HG45 := Lib.hid (HG44.out.keep hc (not_no _))
  have HC45 := Lib.hid (HC44.out.then_ hc)
  clear hc
  go_wp2_with (fail)
  go_ret
  first | exact ⟨rfl, HC45.out⟩ | (refine ⟨?_, HC45.out⟩; simp_all; done)
set_option maxRecDepth 100000 in
set_option maxHeartbeats 4000000 in
theorem reckons_100eq (b c d s m p r a o x y z P k q t u e h : Int) (S_s : Hid (Sure 7 b c s)) (S_b1 : Hid (Sure 8 s c b)) (S_s2 : Hid (Sure 7 c b s)) (S_m : Hid (Sure 9 s d m)) (S_p1 : Hid (Sure 9 b d p)) (S_p2 : Hid (Sure 9 c d r)) (S_m2 : Hid (Sure 7 p r m)) (S_a : Hid (Sure 12 b c a)) (S_o : Hid (Sure 13 b c o)) (S_s3 : Hid (Sure 7 a o s)) (S_x : Hid (Sure 14 b c x)) (S_x2 : Hid (Sure 8 o a x)) (S_x3 : Hid (Sure 14 b c x)) (S_b2 : Hid (Sure 14 x c b)) (S_y : Hid (Sure 15 b d y)) (S_y2 : Hid (Sure 9 b P y)) (S_y3 : Hid (Sure 15 b d y)) (S_y4 : Hid (Sure 15 b k y)) (S_z : Hid (Sure 17 b d z)) (S_z2 : Hid (Sure 17 b k z)) (S_z3 : Hid (Sure 17 b k z)) (S_z4 : Hid (Sure 10 b P z)) (S_f1 : Hid (Sure 19 b c 0)) (S_f2 : Hid (Sure 19 c b 0)) (S_f3 : Hid (Sure 21 b c 1)) (S_f4 : Hid (Sure 21 b c 1)) (S_f5 : Hid (Sure 19 b c 0)) (S_u : Hid (Sure 20 b c u)) (S_b3 : Hid (Sure 14 b (-9223372036854775808) e)) (S_c3 : Hid (Sure 14 c (-9223372036854775808) h)) (S_u2 : Hid (Sure 19 e h u)) (HCUT : Hid (∀ W : World, Calls Tryd.prog 19 #[.int .i64 d, .int .i64 64] W fun e w' => e = .returned (.tuple #[.int .i64 q, .int .i64 k]) ∧ W = w')) (HPOW : Hid (∀ W : World, Calls Tryd.prog 20 #[.int .i64 k] W fun e w' => e = .returned (.int .i64 P) ∧ W = w')) (k63 : k < 63) (bp : b < 0) (kp : k ≤ 0) (bc : ¬ b < c) (be : (b == c) = true) (w : World) (hg : Glob w) :
    Calls Tryd.prog 4 #[.int .i64 b, .int .i64 c, .int .i64 d] w fun e w' => e = .returned (.bool true) ∧ Ch No w w' := by
  have HG := Lib.hid hg
  have HC := Lib.hid (Ch.refl No w)
  clear hg
  go_enter Tryd.func4, Tryd.ntmps4
  go_wp2_with (fail)
  refine (S_s.out _ HG.out).mono ?_
  rintro e w11 ⟨rfl, hc⟩
  have HG11 := Lib.hid (HG.out.keep hc (not_no _))
  have HC11 := Lib.hid (HC.out.then_ hc)
  clear hc
  go_wp2_with (fail)
  refine (known_calls _ HG11.out).mono ?_
  rintro e w12 ⟨rfl, hc⟩
  have HG12 := Lib.hid (HG11.out.keep hc (not_no _))
  have HC12 := Lib.hid (HC11.out.then_ hc)
  clear hc
  go_wp2_with (fail)
  refine (S_b1.out _ HG12.out).mono ?_
  rintro e w13 ⟨rfl, hc⟩
  have HG13 := Lib.hid (HG12.out.keep hc (not_no _))
  have HC13 := Lib.hid (HC12.out.then_ hc)
  clear hc
  go_wp2_with (fail)
  refine (S_s2.out _ HG13.out).mono ?_
  rintro e w14 ⟨rfl, hc⟩
  have HG14 := Lib.hid (HG13.out.keep hc (not_no _))
  have HC14 := Lib.hid (HC13.out.then_ hc)
  clear hc
  go_wp2_with (fail)
  refine (S_m.out _ HG14.out).mono ?_
  rintro e w15 ⟨rfl, hc⟩
  have HG15 := Lib.hid (HG14.out.keep hc (not_no _))
  have HC15 := Lib.hid (HC14.out.then_ hc)
  clear hc
  go_wp2_with (fail)
  refine (S_p1.out _ HG15.out).mono ?_
  rintro e w16 ⟨rfl, hc⟩
  have HG16 := Lib.hid (HG15.out.keep hc (not_no _))
  have HC16 := Lib.hid (HC15.out.then_ hc)
  clear hc
  go_wp2_with (fail)
  refine (S_p2.out _ HG16.out).mono ?_
  rintro e w17 ⟨rfl, hc⟩
  have HG17 := Lib.hid (HG16.out.keep hc (not_no _))
  have HC17 := Lib.hid (HC16.out.then_ hc)
  clear hc
  go_wp2_with (fail)
  refine (S_m2.out _ HG17.out).mono ?_
  rintro e w18 ⟨rfl, hc⟩
  have HG18 := Lib.hid (HG17.out.keep hc (not_no _))
  have HC18 := Lib.hid (HC17.out.then_ hc)
  clear hc
  go_wp2_with (fail)
  refine (S_a.out _ HG18.out).mono ?_
  rintro e w19 ⟨rfl, hc⟩
  have HG19 := Lib.hid (HG18.out.keep hc (not_no _))
  have HC19 := Lib.hid (HC18.out.then_ hc)
  clear hc
  go_wp2_with (fail)
  refine (S_o.out _ HG19.out).mono ?_
  rintro e w20 ⟨rfl, hc⟩
  have HG20 := Lib.hid (HG19.out.keep hc (not_no _))
  have HC20 := Lib.hid (HC19.out.then_ hc)
  clear hc
  go_wp2_with (fail)
  refine (S_s3.out _ HG20.out).mono ?_
  rintro e w21 ⟨rfl, hc⟩
  have HG21 := Lib.hid (HG20.out.keep hc (not_no _))
  have HC21 := Lib.hid (HC20.out.then_ hc)
  clear hc
  go_wp2_with (fail)
  refine (S_x.out _ HG21.out).mono ?_
  rintro e w22 ⟨rfl, hc⟩
  have HG22 := Lib.hid (HG21.out.keep hc (not_no _))
  have HC22 := Lib.hid (HC21.out.then_ hc)
  clear hc
  go_wp2_with (fail)
  refine (S_x2.out _ HG22.out).mono ?_
  rintro e w23 ⟨rfl, hc⟩
  have HG23 := Lib.hid (HG22.out.keep hc (not_no _))
  have HC23 := Lib.hid (HC22.out.then_ hc)
  clear hc
  go_wp2_with (fail)
  refine (S_x3.out _ HG23.out).mono ?_
  rintro e w24 ⟨rfl, hc⟩
  have HG24 := Lib.hid (HG23.out.keep hc (not_no _))
  have HC24 := Lib.hid (HC23.out.then_ hc)
  clear hc
  go_wp2_with (fail)
  refine (S_b2.out _ HG24.out).mono ?_
  rintro e w25 ⟨rfl, hc⟩
  have HG25 := Lib.hid (HG24.out.keep hc (not_no _))
  have HC25 := Lib.hid (HC24.out.then_ hc)
  clear hc
  go_wp2_with (fail)
  refine (HCUT.out _).mono ?_
  rintro e w26 ⟨rfl, rfl⟩
  go_wp2_with (fail)
  refine (S_y.out _ HG25.out).mono ?_
  rintro e w27 ⟨rfl, hc⟩
  have HG27 := Lib.hid (HG25.out.keep hc (not_no _))
  have HC27 := Lib.hid (HC25.out.then_ hc)
  clear hc
  go_wp2_with (fail)
  refine (HPOW.out _).mono ?_
  rintro e w28 ⟨rfl, rfl⟩
  go_wp2_with (fail)
  refine (S_y2.out _ HG27.out).mono ?_
  rintro e w29 ⟨rfl, hc⟩
  have HG29 := Lib.hid (HG27.out.keep hc (not_no _))
  have HC29 := Lib.hid (HC27.out.then_ hc)
  clear hc
  go_wp2_with (fail)
  refine (S_y3.out _ HG29.out).mono ?_
  rintro e w30 ⟨rfl, hc⟩
  have HG30 := Lib.hid (HG29.out.keep hc (not_no _))
  have HC30 := Lib.hid (HC29.out.then_ hc)
  clear hc
  go_wp2_with (fail)
  refine (S_y4.out _ HG30.out).mono ?_
  rintro e w31 ⟨rfl, hc⟩
  have HG31 := Lib.hid (HG30.out.keep hc (not_no _))
  have HC31 := Lib.hid (HC30.out.then_ hc)
  clear hc
  go_wp2_with (fail)
  refine (S_z.out _ HG31.out).mono ?_
  rintro e w32 ⟨rfl, hc⟩
  have HG32 := Lib.hid (HG31.out.keep hc (not_no _))
  have HC32 := Lib.hid (HC31.out.then_ hc)
  clear hc
  go_wp2_with (fail)
  refine (S_z2.out _ HG32.out).mono ?_
  rintro e w33 ⟨rfl, hc⟩
  have HG33 := Lib.hid (HG32.out.keep hc (not_no _))
  have HC33 := Lib.hid (HC32.out.then_ hc)
  clear hc
  go_wp2_with (fail)
  refine (S_z3.out _ HG33.out).mono ?_
  rintro e w34 ⟨rfl, hc⟩
  have HG34 := Lib.hid (HG33.out.keep hc (not_no _))
  have HC34 := Lib.hid (HC33.out.then_ hc)
  clear hc
  go_wp2_with (fail)
  refine (HPOW.out _).mono ?_
  rintro e w35 ⟨rfl, rfl⟩
  go_wp2_with (fail)
  refine (S_z4.out _ HG34.out).mono ?_
  rintro e w36 ⟨rfl, hc⟩
  have HG36 := Lib.hid (HG34.out.keep hc (not_no _))
  have HC36 := Lib.hid (HC34.out.then_ hc)
  clear hc
  go_wp2_with (fail)
  refine (S_f1.out _ HG36.out).mono ?_
  rintro e w37 ⟨rfl, hc⟩
  have HG37 := Lib.hid (HG36.out.keep hc (not_no _))
  have HC37 := Lib.hid (HC36.out.then_ hc)
  clear hc
  go_wp2_with (fail)
  refine (S_f2.out _ HG37.out).mono ?_
  rintro e w38 ⟨rfl, hc⟩
  have HG38 := Lib.hid (HG37.out.keep hc (not_no _))
  have HC38 := Lib.hid (HC37.out.then_ hc)
  clear hc
  go_wp2_with (fail)
  refine (S_f3.out _ HG38.out).mono ?_
  rintro e w39 ⟨rfl, hc⟩
  have HG39 := Lib.hid (HG38.out.keep hc (not_no _))
  have HC39 := Lib.hid (HC38.out.then_ hc)
  clear hc
  go_wp2_with (fail)
  refine (S_f4.out _ HG39.out).mono ?_
  rintro e w40 ⟨rfl, hc⟩
  have HG40 := Lib.hid (HG39.out.keep hc (not_no _))
  have HC40 := Lib.hid (HC39.out.then_ hc)
  clear hc
  go_wp2_with (fail)
  refine (S_f5.out _ HG40.out).mono ?_
  rintro e w41 ⟨rfl, hc⟩
  have HG41 := Lib.hid (HG40.out.keep hc (not_no _))
  have HC41 := Lib.hid (HC40.out.then_ hc)
  clear hc
  go_wp2_with (fail)
  refine (S_u.out _ HG41.out).mono ?_
  rintro e w42 ⟨rfl, hc⟩
  have HG42 := Lib.hid (HG41.out.keep hc (not_no _))
  have HC42 := Lib.hid (HC41.out.then_ hc)
  clear hc
  go_wp2_with (fail)
  refine (S_b3.out _ HG42.out).mono ?_
  rintro e w43 ⟨rfl, hc⟩
  have HG43 := Lib.hid (HG42.out.keep hc (not_no _))
  have HC43 := Lib.hid (HC42.out.then_ hc)
  clear hc
  go_wp2_with (fail)
  refine (S_c3.out _ HG43.out).mono ?_
  rintro e w44 ⟨rfl, hc⟩
  have HG44 := Lib.hid (HG43.out.keep hc (not_no _))
  have HC44 := Lib.hid (HC43.out.then_ hc)
  clear hc
  go_wp2_with (fail)
  refine (S_u2.out _ HG44.out).mono ?_
  rintro e w45 ⟨rfl, hc⟩
  have HG45 := Lib.hid (HG44.out.keep hc (not_no _))
  have HC45 := Lib.hid (HC44.out.then_ hc)
  clear hc
  go_wp2_with (fail)
  go_ret
  first | exact ⟨rfl, HC45.out⟩ | (refine ⟨?_, HC45.out⟩; simp_all; done)
set_option maxRecDepth 100000 in
set_option maxHeartbeats 4000000 in
theorem reckons_100gt (b c d s m p r a o x y z P k q t u e h : Int) (S_s : Hid (Sure 7 b c s)) (S_b1 : Hid (Sure 8 s c b)) (S_s2 : Hid (Sure 7 c b s)) (S_m : Hid (Sure 9 s d m)) (S_p1 : Hid (Sure 9 b d p)) (S_p2 : Hid (Sure 9 c d r)) (S_m2 : Hid (Sure 7 p r m)) (S_a : Hid (Sure 12 b c a)) (S_o : Hid (Sure 13 b c o)) (S_s3 : Hid (Sure 7 a o s)) (S_x : Hid (Sure 14 b c x)) (S_x2 : Hid (Sure 8 o a x)) (S_x3 : Hid (Sure 14 b c x)) (S_b2 : Hid (Sure 14 x c b)) (S_y : Hid (Sure 15 b d y)) (S_y2 : Hid (Sure 9 b P y)) (S_y3 : Hid (Sure 15 b d y)) (S_y4 : Hid (Sure 15 b k y)) (S_z : Hid (Sure 17 b d z)) (S_z2 : Hid (Sure 17 b k z)) (S_z3 : Hid (Sure 17 b k z)) (S_z4 : Hid (Sure 10 b P z)) (S_f1 : Hid (Sure 19 b c 0)) (S_f2 : Hid (Sure 19 c b 1)) (S_f3 : Hid (Sure 21 b c 0)) (S_f4 : Hid (Sure 21 b c 0)) (S_f5 : Hid (Sure 19 b c 0)) (S_u : Hid (Sure 20 b c u)) (S_b3 : Hid (Sure 14 b (-9223372036854775808) e)) (S_c3 : Hid (Sure 14 c (-9223372036854775808) h)) (S_u2 : Hid (Sure 19 e h u)) (HCUT : Hid (∀ W : World, Calls Tryd.prog 19 #[.int .i64 d, .int .i64 64] W fun e w' => e = .returned (.tuple #[.int .i64 q, .int .i64 k]) ∧ W = w')) (HPOW : Hid (∀ W : World, Calls Tryd.prog 20 #[.int .i64 k] W fun e w' => e = .returned (.int .i64 P) ∧ W = w')) (k63 : k < 63) (bp : b < 0) (kp : k ≤ 0) (bc : ¬ b < c) (be : (b == c) = false) (w : World) (hg : Glob w) :
    Calls Tryd.prog 4 #[.int .i64 b, .int .i64 c, .int .i64 d] w fun e w' => e = .returned (.bool true) ∧ Ch No w w' := by
  have HG := Lib.hid hg
  have HC := Lib.hid (Ch.refl No w)
  clear hg
  go_enter Tryd.func4, Tryd.ntmps4
  go_wp2_with (fail)
  refine (S_s.out _ HG.out).mono ?_
  rintro e w11 ⟨rfl, hc⟩
  have HG11 := Lib.hid (HG.out.keep hc (not_no _))
  have HC11 := Lib.hid (HC.out.then_ hc)
  clear hc
  go_wp2_with (fail)
  refine (known_calls _ HG11.out).mono ?_
  rintro e w12 ⟨rfl, hc⟩
  have HG12 := Lib.hid (HG11.out.keep hc (not_no _))
  have HC12 := Lib.hid (HC11.out.then_ hc)
  clear hc
  go_wp2_with (fail)
  refine (S_b1.out _ HG12.out).mono ?_
  rintro e w13 ⟨rfl, hc⟩
  have HG13 := Lib.hid (HG12.out.keep hc (not_no _))
  have HC13 := Lib.hid (HC12.out.then_ hc)
  clear hc
  go_wp2_with (fail)
  refine (S_s2.out _ HG13.out).mono ?_
  rintro e w14 ⟨rfl, hc⟩
  have HG14 := Lib.hid (HG13.out.keep hc (not_no _))
  have HC14 := Lib.hid (HC13.out.then_ hc)
  clear hc
  go_wp2_with (fail)
  refine (S_m.out _ HG14.out).mono ?_
  rintro e w15 ⟨rfl, hc⟩
  have HG15 := Lib.hid (HG14.out.keep hc (not_no _))
  have HC15 := Lib.hid (HC14.out.then_ hc)
  clear hc
  go_wp2_with (fail)
  refine (S_p1.out _ HG15.out).mono ?_
  rintro e w16 ⟨rfl, hc⟩
  have HG16 := Lib.hid (HG15.out.keep hc (not_no _))
  have HC16 := Lib.hid (HC15.out.then_ hc)
  clear hc
  go_wp2_with (fail)
  refine (S_p2.out _ HG16.out).mono ?_
  rintro e w17 ⟨rfl, hc⟩
  have HG17 := Lib.hid (HG16.out.keep hc (not_no _))
  have HC17 := Lib.hid (HC16.out.then_ hc)
  clear hc
  go_wp2_with (fail)
  refine (S_m2.out _ HG17.out).mono ?_
  rintro e w18 ⟨rfl, hc⟩
  have HG18 := Lib.hid (HG17.out.keep hc (not_no _))
  have HC18 := Lib.hid (HC17.out.then_ hc)
  clear hc
  go_wp2_with (fail)
  refine (S_a.out _ HG18.out).mono ?_
  rintro e w19 ⟨rfl, hc⟩
  have HG19 := Lib.hid (HG18.out.keep hc (not_no _))
  have HC19 := Lib.hid (HC18.out.then_ hc)
  clear hc
  go_wp2_with (fail)
  refine (S_o.out _ HG19.out).mono ?_
  rintro e w20 ⟨rfl, hc⟩
  have HG20 := Lib.hid (HG19.out.keep hc (not_no _))
  have HC20 := Lib.hid (HC19.out.then_ hc)
  clear hc
  go_wp2_with (fail)
  refine (S_s3.out _ HG20.out).mono ?_
  rintro e w21 ⟨rfl, hc⟩
  have HG21 := Lib.hid (HG20.out.keep hc (not_no _))
  have HC21 := Lib.hid (HC20.out.then_ hc)
  clear hc
  go_wp2_with (fail)
  refine (S_x.out _ HG21.out).mono ?_
  rintro e w22 ⟨rfl, hc⟩
  have HG22 := Lib.hid (HG21.out.keep hc (not_no _))
  have HC22 := Lib.hid (HC21.out.then_ hc)
  clear hc
  go_wp2_with (fail)
  refine (S_x2.out _ HG22.out).mono ?_
  rintro e w23 ⟨rfl, hc⟩
  have HG23 := Lib.hid (HG22.out.keep hc (not_no _))
  have HC23 := Lib.hid (HC22.out.then_ hc)
  clear hc
  go_wp2_with (fail)
  refine (S_x3.out _ HG23.out).mono ?_
  rintro e w24 ⟨rfl, hc⟩
  have HG24 := Lib.hid (HG23.out.keep hc (not_no _))
  have HC24 := Lib.hid (HC23.out.then_ hc)
  clear hc
  go_wp2_with (fail)
  refine (S_b2.out _ HG24.out).mono ?_
  rintro e w25 ⟨rfl, hc⟩
  have HG25 := Lib.hid (HG24.out.keep hc (not_no _))
  have HC25 := Lib.hid (HC24.out.then_ hc)
  clear hc
  go_wp2_with (fail)
  refine (HCUT.out _).mono ?_
  rintro e w26 ⟨rfl, rfl⟩
  go_wp2_with (fail)
  refine (S_y.out _ HG25.out).mono ?_
  rintro e w27 ⟨rfl, hc⟩
  have HG27 := Lib.hid (HG25.out.keep hc (not_no _))
  have HC27 := Lib.hid (HC25.out.then_ hc)
  clear hc
  go_wp2_with (fail)
  refine (HPOW.out _).mono ?_
  rintro e w28 ⟨rfl, rfl⟩
  go_wp2_with (fail)
  refine (S_y2.out _ HG27.out).mono ?_
  rintro e w29 ⟨rfl, hc⟩
  have HG29 := Lib.hid (HG27.out.keep hc (not_no _))
  have HC29 := Lib.hid (HC27.out.then_ hc)
  clear hc
  go_wp2_with (fail)
  refine (S_y3.out _ HG29.out).mono ?_
  rintro e w30 ⟨rfl, hc⟩
  have HG30 := Lib.hid (HG29.out.keep hc (not_no _))
  have HC30 := Lib.hid (HC29.out.then_ hc)
  clear hc
  go_wp2_with (fail)
  refine (S_y4.out _ HG30.out).mono ?_
  rintro e w31 ⟨rfl, hc⟩
  have HG31 := Lib.hid (HG30.out.keep hc (not_no _))
  have HC31 := Lib.hid (HC30.out.then_ hc)
  clear hc
  go_wp2_with (fail)
  refine (S_z.out _ HG31.out).mono ?_
  rintro e w32 ⟨rfl, hc⟩
  have HG32 := Lib.hid (HG31.out.keep hc (not_no _))
  have HC32 := Lib.hid (HC31.out.then_ hc)
  clear hc
  go_wp2_with (fail)
  refine (S_z2.out _ HG32.out).mono ?_
  rintro e w33 ⟨rfl, hc⟩
  have HG33 := Lib.hid (HG32.out.keep hc (not_no _))
  have HC33 := Lib.hid (HC32.out.then_ hc)
  clear hc
  go_wp2_with (fail)
  refine (S_z3.out _ HG33.out).mono ?_
  rintro e w34 ⟨rfl, hc⟩
  have HG34 := Lib.hid (HG33.out.keep hc (not_no _))
  have HC34 := Lib.hid (HC33.out.then_ hc)
  clear hc
  go_wp2_with (fail)
  refine (HPOW.out _).mono ?_
  rintro e w35 ⟨rfl, rfl⟩
  go_wp2_with (fail)
  refine (S_z4.out _ HG34.out).mono ?_
  rintro e w36 ⟨rfl, hc⟩
  have HG36 := Lib.hid (HG34.out.keep hc (not_no _))
  have HC36 := Lib.hid (HC34.out.then_ hc)
  clear hc
  go_wp2_with (fail)
  refine (S_f1.out _ HG36.out).mono ?_
  rintro e w37 ⟨rfl, hc⟩
  have HG37 := Lib.hid (HG36.out.keep hc (not_no _))
  have HC37 := Lib.hid (HC36.out.then_ hc)
  clear hc
  go_wp2_with (fail)
  refine (S_f2.out _ HG37.out).mono ?_
  rintro e w38 ⟨rfl, hc⟩
  have HG38 := Lib.hid (HG37.out.keep hc (not_no _))
  have HC38 := Lib.hid (HC37.out.then_ hc)
  clear hc
  go_wp2_with (fail)
  refine (S_f3.out _ HG38.out).mono ?_
  rintro e w39 ⟨rfl, hc⟩
  have HG39 := Lib.hid (HG38.out.keep hc (not_no _))
  have HC39 := Lib.hid (HC38.out.then_ hc)
  clear hc
  go_wp2_with (fail)
  refine (S_f4.out _ HG39.out).mono ?_
  rintro e w40 ⟨rfl, hc⟩
  have HG40 := Lib.hid (HG39.out.keep hc (not_no _))
  have HC40 := Lib.hid (HC39.out.then_ hc)
  clear hc
  go_wp2_with (fail)
  refine (S_f5.out _ HG40.out).mono ?_
  rintro e w41 ⟨rfl, hc⟩
  have HG41 := Lib.hid (HG40.out.keep hc (not_no _))
  have HC41 := Lib.hid (HC40.out.then_ hc)
  clear hc
  go_wp2_with (fail)
  refine (S_u.out _ HG41.out).mono ?_
  rintro e w42 ⟨rfl, hc⟩
  have HG42 := Lib.hid (HG41.out.keep hc (not_no _))
  have HC42 := Lib.hid (HC41.out.then_ hc)
  clear hc
  go_wp2_with (fail)
  refine (S_b3.out _ HG42.out).mono ?_
  rintro e w43 ⟨rfl, hc⟩
  have HG43 := Lib.hid (HG42.out.keep hc (not_no _))
  have HC43 := Lib.hid (HC42.out.then_ hc)
  clear hc
  go_wp2_with (fail)
  refine (S_c3.out _ HG43.out).mono ?_
  rintro e w44 ⟨rfl, hc⟩
  have HG44 := Lib.hid (HG43.out.keep hc (not_no _))
  have HC44 := Lib.hid (HC43.out.then_ hc)
  clear hc
  go_wp2_with (fail)
  refine (S_u2.out _ HG44.out).mono ?_
  rintro e w45 ⟨rfl, hc⟩
  have HG45 := Lib.hid (HG44.out.keep hc (not_no _))
  have HC45 := Lib.hid (HC44.out.then_ hc)
  clear hc
  go_wp2_with (fail)
  go_ret
  first | exact ⟨rfl, HC45.out⟩ | (refine ⟨?_, HC45.out⟩; simp_all; done)
set_option maxRecDepth 100000 in
set_option maxHeartbeats 4000000 in
theorem reckons_101lt (b c d s m p r a o x y z P k q t u e h : Int) (S_s : Hid (Sure 7 b c s)) (S_b1 : Hid (Sure 8 s c b)) (S_s2 : Hid (Sure 7 c b s)) (S_m : Hid (Sure 9 s d m)) (S_p1 : Hid (Sure 9 b d p)) (S_p2 : Hid (Sure 9 c d r)) (S_m2 : Hid (Sure 7 p r m)) (S_a : Hid (Sure 12 b c a)) (S_o : Hid (Sure 13 b c o)) (S_s3 : Hid (Sure 7 a o s)) (S_x : Hid (Sure 14 b c x)) (S_x2 : Hid (Sure 8 o a x)) (S_x3 : Hid (Sure 14 b c x)) (S_b2 : Hid (Sure 14 x c b)) (S_y : Hid (Sure 15 b d y)) (S_y2 : Hid (Sure 9 b P y)) (S_y3 : Hid (Sure 15 b d y)) (S_y4 : Hid (Sure 15 b k y)) (S_z : Hid (Sure 17 b d z)) (S_z2 : Hid (Sure 17 b k z)) (S_z3 : Hid (Sure 17 b k z)) (S_z4 : Hid (Sure 10 b P z)) (S_t2 : Hid (Sure 16 b d t)) (S_f1 : Hid (Sure 19 b c 1)) (S_f2 : Hid (Sure 19 c b 0)) (S_f3 : Hid (Sure 21 b c 0)) (S_f4 : Hid (Sure 21 b c 0)) (S_f5 : Hid (Sure 19 b c 1)) (S_u : Hid (Sure 20 b c u)) (S_b3 : Hid (Sure 14 b (-9223372036854775808) e)) (S_c3 : Hid (Sure 14 c (-9223372036854775808) h)) (S_u2 : Hid (Sure 19 e h u)) (HCUT : Hid (∀ W : World, Calls Tryd.prog 19 #[.int .i64 d, .int .i64 64] W fun e w' => e = .returned (.tuple #[.int .i64 q, .int .i64 k]) ∧ W = w')) (HPOW : Hid (∀ W : World, Calls Tryd.prog 20 #[.int .i64 k] W fun e w' => e = .returned (.int .i64 P) ∧ W = w')) (k63 : k < 63) (bp : b < 0) (kp : 0 < k) (tp : 0 ≤ t) (bc : b < c) (be : (b == c) = false) (w : World) (hg : Glob w) :
    Calls Tryd.prog 4 #[.int .i64 b, .int .i64 c, .int .i64 d] w fun e w' => e = .returned (.bool true) ∧ Ch No w w' := by
  have HG := Lib.hid hg
  have HC := Lib.hid (Ch.refl No w)
  clear hg
  go_enter Tryd.func4, Tryd.ntmps4
  go_wp2_with (fail)
  refine (S_s.out _ HG.out).mono ?_
  rintro e w11 ⟨rfl, hc⟩
  have HG11 := Lib.hid (HG.out.keep hc (not_no _))
  have HC11 := Lib.hid (HC.out.then_ hc)
  clear hc
  go_wp2_with (fail)
  refine (known_calls _ HG11.out).mono ?_
  rintro e w12 ⟨rfl, hc⟩
  have HG12 := Lib.hid (HG11.out.keep hc (not_no _))
  have HC12 := Lib.hid (HC11.out.then_ hc)
  clear hc
  go_wp2_with (fail)
  refine (S_b1.out _ HG12.out).mono ?_
  rintro e w13 ⟨rfl, hc⟩
  have HG13 := Lib.hid (HG12.out.keep hc (not_no _))
  have HC13 := Lib.hid (HC12.out.then_ hc)
  clear hc
  go_wp2_with (fail)
  refine (S_s2.out _ HG13.out).mono ?_
  rintro e w14 ⟨rfl, hc⟩
  have HG14 := Lib.hid (HG13.out.keep hc (not_no _))
  have HC14 := Lib.hid (HC13.out.then_ hc)
  clear hc
  go_wp2_with (fail)
  refine (S_m.out _ HG14.out).mono ?_
  rintro e w15 ⟨rfl, hc⟩
  have HG15 := Lib.hid (HG14.out.keep hc (not_no _))
  have HC15 := Lib.hid (HC14.out.then_ hc)
  clear hc
  go_wp2_with (fail)
  refine (S_p1.out _ HG15.out).mono ?_
  rintro e w16 ⟨rfl, hc⟩
  have HG16 := Lib.hid (HG15.out.keep hc (not_no _))
  have HC16 := Lib.hid (HC15.out.then_ hc)
  clear hc
  go_wp2_with (fail)
  refine (S_p2.out _ HG16.out).mono ?_
  rintro e w17 ⟨rfl, hc⟩
  have HG17 := Lib.hid (HG16.out.keep hc (not_no _))
  have HC17 := Lib.hid (HC16.out.then_ hc)
  clear hc
  go_wp2_with (fail)
  refine (S_m2.out _ HG17.out).mono ?_
  rintro e w18 ⟨rfl, hc⟩
  have HG18 := Lib.hid (HG17.out.keep hc (not_no _))
  have HC18 := Lib.hid (HC17.out.then_ hc)
  clear hc
  go_wp2_with (fail)
  refine (S_a.out _ HG18.out).mono ?_
  rintro e w19 ⟨rfl, hc⟩
  have HG19 := Lib.hid (HG18.out.keep hc (not_no _))
  have HC19 := Lib.hid (HC18.out.then_ hc)
  clear hc
  go_wp2_with (fail)
  refine (S_o.out _ HG19.out).mono ?_
  rintro e w20 ⟨rfl, hc⟩
  have HG20 := Lib.hid (HG19.out.keep hc (not_no _))
  have HC20 := Lib.hid (HC19.out.then_ hc)
  clear hc
  go_wp2_with (fail)
  refine (S_s3.out _ HG20.out).mono ?_
  rintro e w21 ⟨rfl, hc⟩
  have HG21 := Lib.hid (HG20.out.keep hc (not_no _))
  have HC21 := Lib.hid (HC20.out.then_ hc)
  clear hc
  go_wp2_with (fail)
  refine (S_x.out _ HG21.out).mono ?_
  rintro e w22 ⟨rfl, hc⟩
  have HG22 := Lib.hid (HG21.out.keep hc (not_no _))
  have HC22 := Lib.hid (HC21.out.then_ hc)
  clear hc
  go_wp2_with (fail)
  refine (S_x2.out _ HG22.out).mono ?_
  rintro e w23 ⟨rfl, hc⟩
  have HG23 := Lib.hid (HG22.out.keep hc (not_no _))
  have HC23 := Lib.hid (HC22.out.then_ hc)
  clear hc
  go_wp2_with (fail)
  refine (S_x3.out _ HG23.out).mono ?_
  rintro e w24 ⟨rfl, hc⟩
  have HG24 := Lib.hid (HG23.out.keep hc (not_no _))
  have HC24 := Lib.hid (HC23.out.then_ hc)
  clear hc
  go_wp2_with (fail)
  refine (S_b2.out _ HG24.out).mono ?_
  rintro e w25 ⟨rfl, hc⟩
  have HG25 := Lib.hid (HG24.out.keep hc (not_no _))
  have HC25 := Lib.hid (HC24.out.then_ hc)
  clear hc
  go_wp2_with (fail)
  refine (HCUT.out _).mono ?_
  rintro e w26 ⟨rfl, rfl⟩
  go_wp2_with (fail)
  refine (S_y.out _ HG25.out).mono ?_
  rintro e w27 ⟨rfl, hc⟩
  have HG27 := Lib.hid (HG25.out.keep hc (not_no _))
  have HC27 := Lib.hid (HC25.out.then_ hc)
  clear hc
  go_wp2_with (fail)
  refine (HPOW.out _).mono ?_
  rintro e w28 ⟨rfl, rfl⟩
  go_wp2_with (fail)
  refine (S_y2.out _ HG27.out).mono ?_
  rintro e w29 ⟨rfl, hc⟩
  have HG29 := Lib.hid (HG27.out.keep hc (not_no _))
  have HC29 := Lib.hid (HC27.out.then_ hc)
  clear hc
  go_wp2_with (fail)
  refine (S_y3.out _ HG29.out).mono ?_
  rintro e w30 ⟨rfl, hc⟩
  have HG30 := Lib.hid (HG29.out.keep hc (not_no _))
  have HC30 := Lib.hid (HC29.out.then_ hc)
  clear hc
  go_wp2_with (fail)
  refine (S_y4.out _ HG30.out).mono ?_
  rintro e w31 ⟨rfl, hc⟩
  have HG31 := Lib.hid (HG30.out.keep hc (not_no _))
  have HC31 := Lib.hid (HC30.out.then_ hc)
  clear hc
  go_wp2_with (fail)
  refine (S_z.out _ HG31.out).mono ?_
  rintro e w32 ⟨rfl, hc⟩
  have HG32 := Lib.hid (HG31.out.keep hc (not_no _))
  have HC32 := Lib.hid (HC31.out.then_ hc)
  clear hc
  go_wp2_with (fail)
  refine (S_z2.out _ HG32.out).mono ?_
  rintro e w33 ⟨rfl, hc⟩
  have HG33 := Lib.hid (HG32.out.keep hc (not_no _))
  have HC33 := Lib.hid (HC32.out.then_ hc)
  clear hc
  go_wp2_with (fail)
  refine (S_z3.out _ HG33.out).mono ?_
  rintro e w34 ⟨rfl, hc⟩
  have HG34 := Lib.hid (HG33.out.keep hc (not_no _))
  have HC34 := Lib.hid (HC33.out.then_ hc)
  clear hc
  go_wp2_with (fail)
  refine (HPOW.out _).mono ?_
  rintro e w35 ⟨rfl, rfl⟩
  go_wp2_with (fail)
  refine (S_z4.out _ HG34.out).mono ?_
  rintro e w36 ⟨rfl, hc⟩
  have HG36 := Lib.hid (HG34.out.keep hc (not_no _))
  have HC36 := Lib.hid (HC34.out.then_ hc)
  clear hc
  go_wp2_with (fail)
  refine (S_t2.out _ HG36.out).mono ?_
  rintro e w37 ⟨rfl, hc⟩
  have HG37 := Lib.hid (HG36.out.keep hc (not_no _))
  have HC37 := Lib.hid (HC36.out.then_ hc)
  clear hc
  go_wp2_with (fail)
  refine (S_f1.out _ HG37.out).mono ?_
  rintro e w38 ⟨rfl, hc⟩
  have HG38 := Lib.hid (HG37.out.keep hc (not_no _))
  have HC38 := Lib.hid (HC37.out.then_ hc)
  clear hc
  go_wp2_with (fail)
  refine (S_f2.out _ HG38.out).mono ?_
  rintro e w39 ⟨rfl, hc⟩
  have HG39 := Lib.hid (HG38.out.keep hc (not_no _))
  have HC39 := Lib.hid (HC38.out.then_ hc)
  clear hc
  go_wp2_with (fail)
  refine (S_f3.out _ HG39.out).mono ?_
  rintro e w40 ⟨rfl, hc⟩
  have HG40 := Lib.hid (HG39.out.keep hc (not_no _))
  have HC40 := Lib.hid (HC39.out.then_ hc)
  clear hc
  go_wp2_with (fail)
  refine (S_f4.out _ HG40.out).mono ?_
  rintro e w41 ⟨rfl, hc⟩
  have HG41 := Lib.hid (HG40.out.keep hc (not_no _))
  have HC41 := Lib.hid (HC40.out.then_ hc)
  clear hc
  go_wp2_with (fail)
  refine (S_f5.out _ HG41.out).mono ?_
  rintro e w42 ⟨rfl, hc⟩
  have HG42 := Lib.hid (HG41.out.keep hc (not_no _))
  have HC42 := Lib.hid (HC41.out.then_ hc)
  clear hc
  go_wp2_with (fail)
  refine (S_u.out _ HG42.out).mono ?_
  rintro e w43 ⟨rfl, hc⟩
  have HG43 := Lib.hid (HG42.out.keep hc (not_no _))
  have HC43 := Lib.hid (HC42.out.then_ hc)
  clear hc
  go_wp2_with (fail)
  refine (S_b3.out _ HG43.out).mono ?_
  rintro e w44 ⟨rfl, hc⟩
  have HG44 := Lib.hid (HG43.out.keep hc (not_no _))
  have HC44 := Lib.hid (HC43.out.then_ hc)
  clear hc
  go_wp2_with (fail)
  refine (S_c3.out _ HG44.out).mono ?_
  rintro e w45 ⟨rfl, hc⟩
  have HG45 := Lib.hid (HG44.out.keep hc (not_no _))
  have HC45 := Lib.hid (HC44.out.then_ hc)
  clear hc
  go_wp2_with (fail)
  refine (S_u2.out _ HG45.out).mono ?_
  rintro e w46 ⟨rfl, hc⟩
  have HG46 := Lib.hid (HG45.out.keep hc (not_no _))
  have HC46 := Lib.hid (HC45.out.then_ hc)
  clear hc
  go_wp2_with (fail)
  go_ret
  first | exact ⟨rfl, HC46.out⟩ | (refine ⟨?_, HC46.out⟩; simp_all; done)
set_option maxRecDepth 100000 in
set_option maxHeartbeats 4000000 in
theorem reckons_101eq (b c d s m p r a o x y z P k q t u e h : Int) (S_s : Hid (Sure 7 b c s)) (S_b1 : Hid (Sure 8 s c b)) (S_s2 : Hid (Sure 7 c b s)) (S_m : Hid (Sure 9 s d m)) (S_p1 : Hid (Sure 9 b d p)) (S_p2 : Hid (Sure 9 c d r)) (S_m2 : Hid (Sure 7 p r m)) (S_a : Hid (Sure 12 b c a)) (S_o : Hid (Sure 13 b c o)) (S_s3 : Hid (Sure 7 a o s)) (S_x : Hid (Sure 14 b c x)) (S_x2 : Hid (Sure 8 o a x)) (S_x3 : Hid (Sure 14 b c x)) (S_b2 : Hid (Sure 14 x c b)) (S_y : Hid (Sure 15 b d y)) (S_y2 : Hid (Sure 9 b P y)) (S_y3 : Hid (Sure 15 b d y)) (S_y4 : Hid (Sure 15 b k y)) (S_z : Hid (Sure 17 b d z)) (S_z2 : Hid (Sure 17 b k z)) (S_z3 : Hid (Sure 17 b k z)) (S_z4 : Hid (Sure 10 b P z)) (S_t2 : Hid (Sure 16 b d t)) (S_f1 : Hid (Sure 19 b c 0)) (S_f2 : Hid (Sure 19 c b 0)) (S_f3 : Hid (Sure 21 b c 1)) (S_f4 : Hid (Sure 21 b c 1)) (S_f5 : Hid (Sure 19 b c 0)) (S_u : Hid (Sure 20 b c u)) (S_b3 : Hid (Sure 14 b (-9223372036854775808) e)) (S_c3 : Hid (Sure 14 c (-9223372036854775808) h)) (S_u2 : Hid (Sure 19 e h u)) (HCUT : Hid (∀ W : World, Calls Tryd.prog 19 #[.int .i64 d, .int .i64 64] W fun e w' => e = .returned (.tuple #[.int .i64 q, .int .i64 k]) ∧ W = w')) (HPOW : Hid (∀ W : World, Calls Tryd.prog 20 #[.int .i64 k] W fun e w' => e = .returned (.int .i64 P) ∧ W = w')) (k63 : k < 63) (bp : b < 0) (kp : 0 < k) (tp : 0 ≤ t) (bc : ¬ b < c) (be : (b == c) = true) (w : World) (hg : Glob w) :
    Calls Tryd.prog 4 #[.int .i64 b, .int .i64 c, .int .i64 d] w fun e w' => e = .returned (.bool true) ∧ Ch No w w' := by
  have HG := Lib.hid hg
  have HC := Lib.hid (Ch.refl No w)
  clear hg
  go_enter Tryd.func4, Tryd.ntmps4
  go_wp2_with (fail)
  refine (S_s.out _ HG.out).mono ?_
  rintro e w11 ⟨rfl, hc⟩
  have HG11 := Lib.hid (HG.out.keep hc (not_no _))
  have HC11 := Lib.hid (HC.out.then_ hc)
  clear hc
  go_wp2_with (fail)
  refine (known_calls _ HG11.out).mono ?_
  rintro e w12 ⟨rfl, hc⟩
  have HG12 := Lib.hid (HG11.out.keep hc (not_no _))
  have HC12 := Lib.hid (HC11.out.then_ hc)
  clear hc
  go_wp2_with (fail)
  refine (S_b1.out _ HG12.out).mono ?_
  rintro e w13 ⟨rfl, hc⟩
  have HG13 := Lib.hid (HG12.out.keep hc (not_no _))
  have HC13 := Lib.hid (HC12.out.then_ hc)
  clear hc
  go_wp2_with (fail)
  refine (S_s2.out _ HG13.out).mono ?_
  rintro e w14 ⟨rfl, hc⟩
  have HG14 := Lib.hid (HG13.out.keep hc (not_no _))
  have HC14 := Lib.hid (HC13.out.then_ hc)
  clear hc
  go_wp2_with (fail)
  refine (S_m.out _ HG14.out).mono ?_
  rintro e w15 ⟨rfl, hc⟩
  have HG15 := Lib.hid (HG14.out.keep hc (not_no _))
  have HC15 := Lib.hid (HC14.out.then_ hc)
  clear hc
  go_wp2_with (fail)
  refine (S_p1.out _ HG15.out).mono ?_
  rintro e w16 ⟨rfl, hc⟩
  have HG16 := Lib.hid (HG15.out.keep hc (not_no _))
  have HC16 := Lib.hid (HC15.out.then_ hc)
  clear hc
  go_wp2_with (fail)
  refine (S_p2.out _ HG16.out).mono ?_
  rintro e w17 ⟨rfl, hc⟩
  have HG17 := Lib.hid (HG16.out.keep hc (not_no _))
  have HC17 := Lib.hid (HC16.out.then_ hc)
  clear hc
  go_wp2_with (fail)
  refine (S_m2.out _ HG17.out).mono ?_
  rintro e w18 ⟨rfl, hc⟩
  have HG18 := Lib.hid (HG17.out.keep hc (not_no _))
  have HC18 := Lib.hid (HC17.out.then_ hc)
  clear hc
  go_wp2_with (fail)
  refine (S_a.out _ HG18.out).mono ?_
  rintro e w19 ⟨rfl, hc⟩
  have HG19 := Lib.hid (HG18.out.keep hc (not_no _))
  have HC19 := Lib.hid (HC18.out.then_ hc)
  clear hc
  go_wp2_with (fail)
  refine (S_o.out _ HG19.out).mono ?_
  rintro e w20 ⟨rfl, hc⟩
  have HG20 := Lib.hid (HG19.out.keep hc (not_no _))
  have HC20 := Lib.hid (HC19.out.then_ hc)
  clear hc
  go_wp2_with (fail)
  refine (S_s3.out _ HG20.out).mono ?_
  rintro e w21 ⟨rfl, hc⟩
  have HG21 := Lib.hid (HG20.out.keep hc (not_no _))
  have HC21 := Lib.hid (HC20.out.then_ hc)
  clear hc
  go_wp2_with (fail)
  refine (S_x.out _ HG21.out).mono ?_
  rintro e w22 ⟨rfl, hc⟩
  have HG22 := Lib.hid (HG21.out.keep hc (not_no _))
  have HC22 := Lib.hid (HC21.out.then_ hc)
  clear hc
  go_wp2_with (fail)
  refine (S_x2.out _ HG22.out).mono ?_
  rintro e w23 ⟨rfl, hc⟩
  have HG23 := Lib.hid (HG22.out.keep hc (not_no _))
  have HC23 := Lib.hid (HC22.out.then_ hc)
  clear hc
  go_wp2_with (fail)
  refine (S_x3.out _ HG23.out).mono ?_
  rintro e w24 ⟨rfl, hc⟩
  have HG24 := Lib.hid (HG23.out.keep hc (not_no _))
  have HC24 := Lib.hid (HC23.out.then_ hc)
  clear hc
  go_wp2_with (fail)
  refine (S_b2.out _ HG24.out).mono ?_
  rintro e w25 ⟨rfl, hc⟩
  have HG25 := Lib.hid (HG24.out.keep hc (not_no _))
  have HC25 := Lib.hid (HC24.out.then_ hc)
  clear hc
  go_wp2_with (fail)
  refine (HCUT.out _).mono ?_
  rintro e w26 ⟨rfl, rfl⟩
  go_wp2_with (fail)
  refine (S_y.out _ HG25.out).mono ?_
  rintro e w27 ⟨rfl, hc⟩
  have HG27 := Lib.hid (HG25.out.keep hc (not_no _))
  have HC27 := Lib.hid (HC25.out.then_ hc)
  clear hc
  go_wp2_with (fail)
  refine (HPOW.out _).mono ?_
  rintro e w28 ⟨rfl, rfl⟩
  go_wp2_with (fail)
  refine (S_y2.out _ HG27.out).mono ?_
  rintro e w29 ⟨rfl, hc⟩
  have HG29 := Lib.hid (HG27.out.keep hc (not_no _))
  have HC29 := Lib.hid (HC27.out.then_ hc)
  clear hc
  go_wp2_with (fail)
  refine (S_y3.out _ HG29.out).mono ?_
  rintro e w30 ⟨rfl, hc⟩
  have HG30 := Lib.hid (HG29.out.keep hc (not_no _))
  have HC30 := Lib.hid (HC29.out.then_ hc)
  clear hc
  go_wp2_with (fail)
  refine (S_y4.out _ HG30.out).mono ?_
  rintro e w31 ⟨rfl, hc⟩
  have HG31 := Lib.hid (HG30.out.keep hc (not_no _))
  have HC31 := Lib.hid (HC30.out.then_ hc)
  clear hc
  go_wp2_with (fail)
  refine (S_z.out _ HG31.out).mono ?_
  rintro e w32 ⟨rfl, hc⟩
  have HG32 := Lib.hid (HG31.out.keep hc (not_no _))
  have HC32 := Lib.hid (HC31.out.then_ hc)
  clear hc
  go_wp2_with (fail)
  refine (S_z2.out _ HG32.out).mono ?_
  rintro e w33 ⟨rfl, hc⟩
  have HG33 := Lib.hid (HG32.out.keep hc (not_no _))
  have HC33 := Lib.hid (HC32.out.then_ hc)
  clear hc
  go_wp2_with (fail)
  refine (S_z3.out _ HG33.out).mono ?_
  rintro e w34 ⟨rfl, hc⟩
  have HG34 := Lib.hid (HG33.out.keep hc (not_no _))
  have HC34 := Lib.hid (HC33.out.then_ hc)
  clear hc
  go_wp2_with (fail)
  refine (HPOW.out _).mono ?_
  rintro e w35 ⟨rfl, rfl⟩
  go_wp2_with (fail)
  refine (S_z4.out _ HG34.out).mono ?_
  rintro e w36 ⟨rfl, hc⟩
  have HG36 := Lib.hid (HG34.out.keep hc (not_no _))
  have HC36 := Lib.hid (HC34.out.then_ hc)
  clear hc
  go_wp2_with (fail)
  refine (S_t2.out _ HG36.out).mono ?_
  rintro e w37 ⟨rfl, hc⟩
  have HG37 := Lib.hid (HG36.out.keep hc (not_no _))
  have HC37 := Lib.hid (HC36.out.then_ hc)
  clear hc
  go_wp2_with (fail)
  refine (S_f1.out _ HG37.out).mono ?_
  rintro e w38 ⟨rfl, hc⟩
  have HG38 := Lib.hid (HG37.out.keep hc (not_no _))
  have HC38 := Lib.hid (HC37.out.then_ hc)
  clear hc
  go_wp2_with (fail)
  refine (S_f2.out _ HG38.out).mono ?_
  rintro e w39 ⟨rfl, hc⟩
  have HG39 := Lib.hid (HG38.out.keep hc (not_no _))
  have HC39 := Lib.hid (HC38.out.then_ hc)
  clear hc
  go_wp2_with (fail)
  refine (S_f3.out _ HG39.out).mono ?_
  rintro e w40 ⟨rfl, hc⟩
  have HG40 := Lib.hid (HG39.out.keep hc (not_no _))
  have HC40 := Lib.hid (HC39.out.then_ hc)
  clear hc
  go_wp2_with (fail)
  refine (S_f4.out _ HG40.out).mono ?_
  rintro e w41 ⟨rfl, hc⟩
  have HG41 := Lib.hid (HG40.out.keep hc (not_no _))
  have HC41 := Lib.hid (HC40.out.then_ hc)
  clear hc
  go_wp2_with (fail)
  refine (S_f5.out _ HG41.out).mono ?_
  rintro e w42 ⟨rfl, hc⟩
  have HG42 := Lib.hid (HG41.out.keep hc (not_no _))
  have HC42 := Lib.hid (HC41.out.then_ hc)
  clear hc
  go_wp2_with (fail)
  refine (S_u.out _ HG42.out).mono ?_
  rintro e w43 ⟨rfl, hc⟩
  have HG43 := Lib.hid (HG42.out.keep hc (not_no _))
  have HC43 := Lib.hid (HC42.out.then_ hc)
  clear hc
  go_wp2_with (fail)
  refine (S_b3.out _ HG43.out).mono ?_
  rintro e w44 ⟨rfl, hc⟩
  have HG44 := Lib.hid (HG43.out.keep hc (not_no _))
  have HC44 := Lib.hid (HC43.out.then_ hc)
  clear hc
  go_wp2_with (fail)
  refine (S_c3.out _ HG44.out).mono ?_
  rintro e w45 ⟨rfl, hc⟩
  have HG45 := Lib.hid (HG44.out.keep hc (not_no _))
  have HC45 := Lib.hid (HC44.out.then_ hc)
  clear hc
  go_wp2_with (fail)
  refine (S_u2.out _ HG45.out).mono ?_
  rintro e w46 ⟨rfl, hc⟩
  have HG46 := Lib.hid (HG45.out.keep hc (not_no _))
  have HC46 := Lib.hid (HC45.out.then_ hc)
  clear hc
  go_wp2_with (fail)
  go_ret
  first | exact ⟨rfl, HC46.out⟩ | (refine ⟨?_, HC46.out⟩; simp_all; done)
set_option maxRecDepth 100000 in
set_option maxHeartbeats 4000000 in
theorem reckons_101gt (b c d s m p r a o x y z P k q t u e h : Int) (S_s : Hid (Sure 7 b c s)) (S_b1 : Hid (Sure 8 s c b)) (S_s2 : Hid (Sure 7 c b s)) (S_m : Hid (Sure 9 s d m)) (S_p1 : Hid (Sure 9 b d p)) (S_p2 : Hid (Sure 9 c d r)) (S_m2 : Hid (Sure 7 p r m)) (S_a : Hid (Sure 12 b c a)) (S_o : Hid (Sure 13 b c o)) (S_s3 : Hid (Sure 7 a o s)) (S_x : Hid (Sure 14 b c x)) (S_x2 : Hid (Sure 8 o a x)) (S_x3 : Hid (Sure 14 b c x)) (S_b2 : Hid (Sure 14 x c b)) (S_y : Hid (Sure 15 b d y)) (S_y2 : Hid (Sure 9 b P y)) (S_y3 : Hid (Sure 15 b d y)) (S_y4 : Hid (Sure 15 b k y)) (S_z : Hid (Sure 17 b d z)) (S_z2 : Hid (Sure 17 b k z)) (S_z3 : Hid (Sure 17 b k z)) (S_z4 : Hid (Sure 10 b P z)) (S_t2 : Hid (Sure 16 b d t)) (S_f1 : Hid (Sure 19 b c 0)) (S_f2 : Hid (Sure 19 c b 1)) (S_f3 : Hid (Sure 21 b c 0)) (S_f4 : Hid (Sure 21 b c 0)) (S_f5 : Hid (Sure 19 b c 0)) (S_u : Hid (Sure 20 b c u)) (S_b3 : Hid (Sure 14 b (-9223372036854775808) e)) (S_c3 : Hid (Sure 14 c (-9223372036854775808) h)) (S_u2 : Hid (Sure 19 e h u)) (HCUT : Hid (∀ W : World, Calls Tryd.prog 19 #[.int .i64 d, .int .i64 64] W fun e w' => e = .returned (.tuple #[.int .i64 q, .int .i64 k]) ∧ W = w')) (HPOW : Hid (∀ W : World, Calls Tryd.prog 20 #[.int .i64 k] W fun e w' => e = .returned (.int .i64 P) ∧ W = w')) (k63 : k < 63) (bp : b < 0) (kp : 0 < k) (tp : 0 ≤ t) (bc : ¬ b < c) (be : (b == c) = false) (w : World) (hg : Glob w) :
    Calls Tryd.prog 4 #[.int .i64 b, .int .i64 c, .int .i64 d] w fun e w' => e = .returned (.bool true) ∧ Ch No w w' := by
  have HG := Lib.hid hg
  have HC := Lib.hid (Ch.refl No w)
  clear hg
  go_enter Tryd.func4, Tryd.ntmps4
  go_wp2_with (fail)
  refine (S_s.out _ HG.out).mono ?_
  rintro e w11 ⟨rfl, hc⟩
  have HG11 := Lib.hid (HG.out.keep hc (not_no _))
  have HC11 := Lib.hid (HC.out.then_ hc)
  clear hc
  go_wp2_with (fail)
  refine (known_calls _ HG11.out).mono ?_
  rintro e w12 ⟨rfl, hc⟩
  have HG12 := Lib.hid (HG11.out.keep hc (not_no _))
  have HC12 := Lib.hid (HC11.out.then_ hc)
  clear hc
  go_wp2_with (fail)
  refine (S_b1.out _ HG12.out).mono ?_
  rintro e w13 ⟨rfl, hc⟩
  have HG13 := Lib.hid (HG12.out.keep hc (not_no _))
  have HC13 := Lib.hid (HC12.out.then_ hc)
  clear hc
  go_wp2_with (fail)
  refine (S_s2.out _ HG13.out).mono ?_
  rintro e w14 ⟨rfl, hc⟩
  have HG14 := Lib.hid (HG13.out.keep hc (not_no _))
  have HC14 := Lib.hid (HC13.out.then_ hc)
  clear hc
  go_wp2_with (fail)
  refine (S_m.out _ HG14.out).mono ?_
  rintro e w15 ⟨rfl, hc⟩
  have HG15 := Lib.hid (HG14.out.keep hc (not_no _))
  have HC15 := Lib.hid (HC14.out.then_ hc)
  clear hc
  go_wp2_with (fail)
  refine (S_p1.out _ HG15.out).mono ?_
  rintro e w16 ⟨rfl, hc⟩
  have HG16 := Lib.hid (HG15.out.keep hc (not_no _))
  have HC16 := Lib.hid (HC15.out.then_ hc)
  clear hc
  go_wp2_with (fail)
  refine (S_p2.out _ HG16.out).mono ?_
  rintro e w17 ⟨rfl, hc⟩
  have HG17 := Lib.hid (HG16.out.keep hc (not_no _))
  have HC17 := Lib.hid (HC16.out.then_ hc)
  clear hc
  go_wp2_with (fail)
  refine (S_m2.out _ HG17.out).mono ?_
  rintro e w18 ⟨rfl, hc⟩
  have HG18 := Lib.hid (HG17.out.keep hc (not_no _))
  have HC18 := Lib.hid (HC17.out.then_ hc)
  clear hc
  go_wp2_with (fail)
  refine (S_a.out _ HG18.out).mono ?_
  rintro e w19 ⟨rfl, hc⟩
  have HG19 := Lib.hid (HG18.out.keep hc (not_no _))
  have HC19 := Lib.hid (HC18.out.then_ hc)
  clear hc
  go_wp2_with (fail)
  refine (S_o.out _ HG19.out).mono ?_
  rintro e w20 ⟨rfl, hc⟩
  have HG20 := Lib.hid (HG19.out.keep hc (not_no _))
  have HC20 := Lib.hid (HC19.out.then_ hc)
  clear hc
  go_wp2_with (fail)
  refine (S_s3.out _ HG20.out).mono ?_
  rintro e w21 ⟨rfl, hc⟩
  have HG21 := Lib.hid (HG20.out.keep hc (not_no _))
  have HC21 := Lib.hid (HC20.out.then_ hc)
  clear hc
  go_wp2_with (fail)
  refine (S_x.out _ HG21.out).mono ?_
  rintro e w22 ⟨rfl, hc⟩
  have HG22 := Lib.hid (HG21.out.keep hc (not_no _))
  have HC22 := Lib.hid (HC21.out.then_ hc)
  clear hc
  go_wp2_with (fail)
  refine (S_x2.out _ HG22.out).mono ?_
  rintro e w23 ⟨rfl, hc⟩
  have HG23 := Lib.hid (HG22.out.keep hc (not_no _))
  have HC23 := Lib.hid (HC22.out.then_ hc)
  clear hc
  go_wp2_with (fail)
  refine (S_x3.out _ HG23.out).mono ?_
  rintro e w24 ⟨rfl, hc⟩
  have HG24 := Lib.hid (HG23.out.keep hc (not_no _))
  have HC24 := Lib.hid (HC23.out.then_ hc)
  clear hc
  go_wp2_with (fail)
  refine (S_b2.out _ HG24.out).mono ?_
  rintro e w25 ⟨rfl, hc⟩
  have HG25 := Lib.hid (HG24.out.keep hc (not_no _))
  have HC25 := Lib.hid (HC24.out.then_ hc)
  clear hc
  go_wp2_with (fail)
  refine (HCUT.out _).mono ?_
  rintro e w26 ⟨rfl, rfl⟩
  go_wp2_with (fail)
  refine (S_y.out _ HG25.out).mono ?_
  rintro e w27 ⟨rfl, hc⟩
  have HG27 := Lib.hid (HG25.out.keep hc (not_no _))
  have HC27 := Lib.hid (HC25.out.then_ hc)
  clear hc
  go_wp2_with (fail)
  refine (HPOW.out _).mono ?_
  rintro e w28 ⟨rfl, rfl⟩
  go_wp2_with (fail)
  refine (S_y2.out _ HG27.out).mono ?_
  rintro e w29 ⟨rfl, hc⟩
  have HG29 := Lib.hid (HG27.out.keep hc (not_no _))
  have HC29 := Lib.hid (HC27.out.then_ hc)
  clear hc
  go_wp2_with (fail)
  refine (S_y3.out _ HG29.out).mono ?_
  rintro e w30 ⟨rfl, hc⟩
  have HG30 := Lib.hid (HG29.out.keep hc (not_no _))
  have HC30 := Lib.hid (HC29.out.then_ hc)
  clear hc
  go_wp2_with (fail)
  refine (S_y4.out _ HG30.out).mono ?_
  rintro e w31 ⟨rfl, hc⟩
  have HG31 := Lib.hid (HG30.out.keep hc (not_no _))
  have HC31 := Lib.hid (HC30.out.then_ hc)
  clear hc
  go_wp2_with (fail)
  refine (S_z.out _ HG31.out).mono ?_
  rintro e w32 ⟨rfl, hc⟩
  have HG32 := Lib.hid (HG31.out.keep hc (not_no _))
  have HC32 := Lib.hid (HC31.out.then_ hc)
  clear hc
  go_wp2_with (fail)
  refine (S_z2.out _ HG32.out).mono ?_
  rintro e w33 ⟨rfl, hc⟩
  have HG33 := Lib.hid (HG32.out.keep hc (not_no _))
  have HC33 := Lib.hid (HC32.out.then_ hc)
  clear hc
  go_wp2_with (fail)
  refine (S_z3.out _ HG33.out).mono ?_
  rintro e w34 ⟨rfl, hc⟩
  have HG34 := Lib.hid (HG33.out.keep hc (not_no _))
  have HC34 := Lib.hid (HC33.out.then_ hc)
  clear hc
  go_wp2_with (fail)
  refine (HPOW.out _).mono ?_
  rintro e w35 ⟨rfl, rfl⟩
  go_wp2_with (fail)
  refine (S_z4.out _ HG34.out).mono ?_
  rintro e w36 ⟨rfl, hc⟩
  have HG36 := Lib.hid (HG34.out.keep hc (not_no _))
  have HC36 := Lib.hid (HC34.out.then_ hc)
  clear hc
  go_wp2_with (fail)
  refine (S_t2.out _ HG36.out).mono ?_
  rintro e w37 ⟨rfl, hc⟩
  have HG37 := Lib.hid (HG36.out.keep hc (not_no _))
  have HC37 := Lib.hid (HC36.out.then_ hc)
  clear hc
  go_wp2_with (fail)
  refine (S_f1.out _ HG37.out).mono ?_
  rintro e w38 ⟨rfl, hc⟩
  have HG38 := Lib.hid (HG37.out.keep hc (not_no _))
  have HC38 := Lib.hid (HC37.out.then_ hc)
  clear hc
  go_wp2_with (fail)
  refine (S_f2.out _ HG38.out).mono ?_
  rintro e w39 ⟨rfl, hc⟩
  have HG39 := Lib.hid (HG38.out.keep hc (not_no _))
  have HC39 := Lib.hid (HC38.out.then_ hc)
  clear hc
  go_wp2_with (fail)
  refine (S_f3.out _ HG39.out).mono ?_
  rintro e w40 ⟨rfl, hc⟩
  have HG40 := Lib.hid (HG39.out.keep hc (not_no _))
  have HC40 := Lib.hid (HC39.out.then_ hc)
  clear hc
  go_wp2_with (fail)
  refine (S_f4.out _ HG40.out).mono ?_
  rintro e w41 ⟨rfl, hc⟩
  have HG41 := Lib.hid (HG40.out.keep hc (not_no _))
  have HC41 := Lib.hid (HC40.out.then_ hc)
  clear hc
  go_wp2_with (fail)
  refine (S_f5.out _ HG41.out).mono ?_
  rintro e w42 ⟨rfl, hc⟩
  have HG42 := Lib.hid (HG41.out.keep hc (not_no _))
  have HC42 := Lib.hid (HC41.out.then_ hc)
  clear hc
  go_wp2_with (fail)
  refine (S_u.out _ HG42.out).mono ?_
  rintro e w43 ⟨rfl, hc⟩
  have HG43 := Lib.hid (HG42.out.keep hc (not_no _))
  have HC43 := Lib.hid (HC42.out.then_ hc)
  clear hc
  go_wp2_with (fail)
  refine (S_b3.out _ HG43.out).mono ?_
  rintro e w44 ⟨rfl, hc⟩
  have HG44 := Lib.hid (HG43.out.keep hc (not_no _))
  have HC44 := Lib.hid (HC43.out.then_ hc)
  clear hc
  go_wp2_with (fail)
  refine (S_c3.out _ HG44.out).mono ?_
  rintro e w45 ⟨rfl, hc⟩
  have HG45 := Lib.hid (HG44.out.keep hc (not_no _))
  have HC45 := Lib.hid (HC44.out.then_ hc)
  clear hc
  go_wp2_with (fail)
  refine (S_u2.out _ HG45.out).mono ?_
  rintro e w46 ⟨rfl, hc⟩
  have HG46 := Lib.hid (HG45.out.keep hc (not_no _))
  have HC46 := Lib.hid (HC45.out.then_ hc)
  clear hc
  go_wp2_with (fail)
  go_ret
  first | exact ⟨rfl, HC46.out⟩ | (refine ⟨?_, HC46.out⟩; simp_all; done)
end Go.Proofs.YtellmlffkgfeiaaDoor
