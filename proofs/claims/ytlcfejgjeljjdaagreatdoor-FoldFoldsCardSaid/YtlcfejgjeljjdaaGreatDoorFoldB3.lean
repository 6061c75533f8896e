/- Two numbers reckoned: the program -/
import Derived.Test.YtlcfejgjeljjdaaGreatDoorFoldB2
namespace Go.Proofs.YtlcfejgjeljjdaaGreatDoor
open Go.RowKit
theorem mul_words (a b:Int):mulW (a % 4294967296) (b % 4294967296) = mulW a b:=by unfold mulW;rw [mod_twice,mod_twice]
theorem mul_range (a b:Int):0 ≤ mulW a b ∧ mulW a b < 4294967296:=by unfold mulW;omega
theorem tdiv_range {a b:Int} (h:-2147483648 ≤ a ∧ a < 4294967296):-4294967296 ≤ a.tdiv b ∧ a.tdiv b ≤ 4294967296:=by
 have h1:(a.tdiv b).natAbs ≤ a.natAbs:=by rw [Int.natAbs_tdiv];exact Nat.div_le_self _ _
 omega
theorem tmod_range {a b:Int} (h:-2147483648 ≤ a ∧ a < 4294967296):-4294967296 ≤ a.tmod b ∧ a.tmod b ≤ 4294967296:=by
 have h1:(a.tmod b).natAbs ≤ a.natAbs:=by rw [Int.natAbs_tmod];exact Nat.mod_le _ _
 omega
set_option maxRecDepth 100000 in
set_option maxHeartbeats 2000000 in
theorem binary_mul (x y:Num) (hx:IntT x.1) (hy:IntT y.1) (w:World) (hE:TE w):Calls Tryz.prog 29 #[.string mMul,numV x,numV y] w fun e w'=>e = .returned (.tuple #[numV (commI x.1 y.1,asI (mulW (asI x.2 (commI x.1 y.1)) (asI y.2 (commI x.1 y.1))) (commI x.1 y.1)),.bool true]) ∧ Below w.heap.size w w':=by
 obtain ⟨hb,hX,hY,hR⟩:=three_boxes w x y ((⟨#[]⟩,0):Num)
 have t0:(mMul.toList == [38,38]) = false:=lit_eq rfl rfl
 have t1:(mMul.toList == [124,124]) = false:=lit_eq rfl rfl
 have t2:(mMul.toList == [60,60]) = false:=lit_eq rfl rfl
 have t3:(mMul.toList == [62,62]) = false:=lit_eq rfl rfl
 have t4:(mMul.toList == [42]) = true:=lit_eq rfl rfl
 have hra:=asI_range x.2 (commI x.1 y.1)
 have hrb:=asI_range y.2 (commI x.1 y.1)
 have HC:=Hd (fun w hE=>(commonV_int hx hy) ▸ common_ok x.1 y.1 w hE)
 have HA1:=Hd (fun w=>as_ok x.2 (commI x.1 y.1) w)
 have HA2:=Hd (fun w=>as_ok y.2 (commI x.1 y.1) w)
 have HD:=Hd (fun w=>compared_no mMul (lit_eq rfl rfl) (lit_eq rfl rfl) (lit_eq rfl rfl) (lit_eq rfl rfl) (lit_eq rfl rfl) (lit_eq rfl rfl) (asI x.2 (commI x.1 y.1)) (asI y.2 (commI x.1 y.1)) w)
 have HA:=Hd (fun w=>as_ok (mulW (asI x.2 (commI x.1 y.1)) (asI y.2 (commI x.1 y.1))) (commI x.1 y.1) w)
 obtain ⟨t,n⟩:=x
 obtain ⟨u,m⟩:=y
 have HB:=Hd hb
 have HR:=Hd hR
 have HX:=Hd hX
 have HY:=Hd hY
 have HE:=Hd (hE.below hb)
 clear hX hY hR hb hx hy hE
 simp only [numO] at *
 generalize commI t u = ct at *
 generalize asI n ct = an at *
 generalize asI m ct = bm at *
 have hmr:=mul_range an bm
 have HW1:=Hd (fun w=>wof_ok an w)
 have HW2:=Hd (fun w=>wof_ok bm w)
 have HM:=Hd (fun w=>mul_words an bm ▸ wmul_ok (an % 4294967296) (bm % 4294967296) w (by omega) (by omega))
 generalize mulW an bm = z at *
 generalize asI z ct = r at *
 unfold numV at *
 generalize mMul = mk at *
 go_enter Tryz.func29,Tryz.ntmps29
 go_upto_region 7 with fail
 generalize ((w.alloc (.cells #[.string t,.int .i64 n] 50)).alloc (.cells #[.string u,.int .i64 m] 50)).alloc (.cells #[.string ⟨#[]⟩,.int .i64 0] 50) = w1 at *
 obtain ⟨⟨x0,x1⟩,_⟩:=HX.out.cells
 obtain ⟨⟨y0,y1⟩,_⟩:=HY.out.cells
 have HC1:=Hd (HC.out w1 HE.out)
 go_upto_region 16 with (go_at_call 59;(with_reducible refine HC1.out.mono ?_);rintro e w2 ⟨rfl,hb2⟩;have HB2:=Hd hb2;clear hb2)
 clear x0 x1 y0 y1
 obtain ⟨⟨x0,x1⟩,_⟩:=(HX.out.below HB2.out).cells
 obtain ⟨⟨y0,y1⟩,_⟩:=(HY.out.below HB2.out).cells
 go_quiet (first | (go_at_call_of 30 n;exact Calls.quiet_of_same (HA1.out _)) | (go_at_call_of 30 m;exact Calls.quiet_of_same (HA2.out _)))
 go_upto_region 18 with (go_at_call 60;(with_reducible refine (HD.out _).mono ?_);rintro e w3 ⟨rfl,hb3⟩;have HB3:=Hd (HB2.out.trans (((Below.drewN' _ _).trans (hb3.mono (Nat.le_refl _))).mono HB2.out.size));clear hb3)
 have HR4:=Hd ((HR.out.below HB3.out).below (ba1 w3 (numO (⟨#[]⟩,0))))
 have HB4:=Hd (HB.out.trans ((HB3.out.trans ((ba1 w3 (numO (⟨#[]⟩,0))).mono HB3.out.size)).mono HB.out.size))
 simp only [numO] at HR4 HB4
 generalize w3.alloc (.cells #[.string ⟨#[]⟩,.int .i64 0] 50) = w4 at *
 obtain ⟨⟨r0,r1⟩,rf⟩:=HR4.out.cells
 have f0:=rf 0
 have f1:=rf 1
 clear rf x0 x1 y0 y1
 go_wp2_with (first | (go_at_call_of 55 an;(with_reducible refine (HW1.out _).mono ?_);rintro e w5 ⟨rfl,rfl⟩) | (go_at_call_of 55 bm;(with_reducible refine (HW2.out _).mono ?_);rintro e w5 ⟨rfl,rfl⟩) | (go_at_call 61;(with_reducible refine (HM.out _).mono ?_);rintro e w5 ⟨⟨hi,rfl⟩,rfl⟩) | (go_at_call 30;(with_reducible refine (HA.out _).mono ?_);rintro e w6 ⟨rfl,rfl⟩))
 exact bodyPost_ret (v:=.tuple #[numV (ct,r),.bool true]) (by simp [results,Tryz.results29,go_sem,r0,r1];rfl) rfl ⟨rfl,below_set2 HB4.out (by omega) _ _⟩
set_option maxRecDepth 100000 in
set_option maxHeartbeats 2000000 in
theorem binary_div0 (x y:Num) (hx:IntT x.1) (hy:IntT y.1) (hz:asI y.2 (commI x.1 y.1) = 0) (w:World) (hE:TE w):Calls Tryz.prog 29 #[.string mDiv,numV x,numV y] w fun e w'=>e = .returned (.tuple #[numV (⟨#[]⟩,0),.bool false]) ∧ Below w.heap.size w w':=by
 obtain ⟨hb,hX,hY,hR⟩:=three_boxes w x y ((⟨#[]⟩,0):Num)
 have t0:(mDiv.toList == [38,38]) = false:=lit_eq rfl rfl
 have t1:(mDiv.toList == [124,124]) = false:=lit_eq rfl rfl
 have t2:(mDiv.toList == [60,60]) = false:=lit_eq rfl rfl
 have t3:(mDiv.toList == [62,62]) = false:=lit_eq rfl rfl
 have t4:(mDiv.toList == [42]) = false:=lit_eq rfl rfl
 have t5:(mDiv.toList == [47]) = true:=lit_eq rfl rfl
 have t6:(mDiv.toList == [37]) = false:=lit_eq rfl rfl
 have hra:=asI_range x.2 (commI x.1 y.1)
 have hrb:=asI_range y.2 (commI x.1 y.1)
 have HC:=Hd (fun w hE=>(commonV_int hx hy) ▸ common_ok x.1 y.1 w hE)
 have HA1:=Hd (fun w=>as_ok x.2 (commI x.1 y.1) w)
 have HA2:=Hd (fun w=>as_ok y.2 (commI x.1 y.1) w)
 have HD:=Hd (fun w=>compared_no mDiv (lit_eq rfl rfl) (lit_eq rfl rfl) (lit_eq rfl rfl) (lit_eq rfl rfl) (lit_eq rfl rfl) (lit_eq rfl rfl) (asI x.2 (commI x.1 y.1)) (asI y.2 (commI x.1 y.1)) w)
 obtain ⟨t,n⟩:=x
 obtain ⟨u,m⟩:=y
 have HB:=Hd hb
 have HR:=Hd hR
 have HX:=Hd hX
 have HY:=Hd hY
 have HE:=Hd (hE.below hb)
 clear hX hY hR hb hx hy hE
 simp only [numO] at *
 generalize commI t u = ct at *
 generalize asI n ct = an at *
 generalize asI m ct = bm at *
 have HZ:=Hd hz
 clear hz
 unfold numV at *
 generalize mDiv = mk at *
 go_enter Tryz.func29,Tryz.ntmps29
 go_upto_region 7 with fail
 generalize ((w.alloc (.cells #[.string t,.int .i64 n] 50)).alloc (.cells #[.string u,.int .i64 m] 50)).alloc (.cells #[.string ⟨#[]⟩,.int .i64 0] 50) = w1 at *
 obtain ⟨⟨x0,x1⟩,_⟩:=HX.out.cells
 obtain ⟨⟨y0,y1⟩,_⟩:=HY.out.cells
 have HC1:=Hd (HC.out w1 HE.out)
 go_upto_region 16 with (go_at_call 59;(with_reducible refine HC1.out.mono ?_);rintro e w2 ⟨rfl,hb2⟩;have HB2:=Hd hb2;clear hb2)
 clear x0 x1 y0 y1
 obtain ⟨⟨x0,x1⟩,_⟩:=(HX.out.below HB2.out).cells
 obtain ⟨⟨y0,y1⟩,_⟩:=(HY.out.below HB2.out).cells
 go_quiet (first | (go_at_call_of 30 n;exact Calls.quiet_of_same (HA1.out _)) | (go_at_call_of 30 m;exact Calls.quiet_of_same (HA2.out _)))
 go_upto_region 18 with (go_at_call 60;(with_reducible refine (HD.out _).mono ?_);rintro e w3 ⟨rfl,hb3⟩;have HB3:=Hd (HB2.out.trans (((Below.drewN' _ _).trans (hb3.mono (Nat.le_refl _))).mono HB2.out.size));clear hb3)
 have HR4:=Hd ((HR.out.below HB3.out).below (ba1 w3 (numO (⟨#[]⟩,0))))
 have HB4:=Hd (HB.out.trans ((HB3.out.trans ((ba1 w3 (numO (⟨#[]⟩,0))).mono HB3.out.size)).mono HB.out.size))
 simp only [numO] at HR4 HB4
 generalize w3.alloc (.cells #[.string ⟨#[]⟩,.int .i64 0] 50) = w4 at *
 obtain ⟨⟨r0,r1⟩,rf⟩:=HR4.out.cells
 have f0:=rf 0
 have f1:=rf 1
 clear rf x0 x1 y0 y1
 have hzb:(bm == 0) = true:=by simpa using HZ.out
 go_wp2_with fail
 exact bodyPost_ret (v:=.tuple #[numV (⟨#[]⟩,0),.bool false]) (by simp [results,Tryz.results29,go_sem,r0,r1];rfl) rfl ⟨rfl,below_set2 HB4.out (by omega) _ _⟩
set_option maxRecDepth 100000 in
set_option maxHeartbeats 2000000 in
theorem binary_div1 (x y:Num) (hx:IntT x.1) (hy:IntT y.1) (hz:asI y.2 (commI x.1 y.1) ≠ 0) (w:World) (hE:TE w):Calls Tryz.prog 29 #[.string mDiv,numV x,numV y] w fun e w'=>e = .returned (.tuple #[numV (commI x.1 y.1,asI ((asI x.2 (commI x.1 y.1)).tdiv (asI y.2 (commI x.1 y.1))) (commI x.1 y.1)),.bool true]) ∧ Below w.heap.size w w':=by
 obtain ⟨hb,hX,hY,hR⟩:=three_boxes w x y ((⟨#[]⟩,0):Num)
 have t0:(mDiv.toList == [38,38]) = false:=lit_eq rfl rfl
 have t1:(mDiv.toList == [124,124]) = false:=lit_eq rfl rfl
 have t2:(mDiv.toList == [60,60]) = false:=lit_eq rfl rfl
 have t3:(mDiv.toList == [62,62]) = false:=lit_eq rfl rfl
 have t4:(mDiv.toList == [42]) = false:=lit_eq rfl rfl
 have t5:(mDiv.toList == [47]) = true:=lit_eq rfl rfl
 have t6:(mDiv.toList == [37]) = false:=lit_eq rfl rfl
 have hra:=asI_range x.2 (commI x.1 y.1)
 have hrb:=asI_range y.2 (commI x.1 y.1)
 have HC:=Hd (fun w hE=>(commonV_int hx hy) ▸ common_ok x.1 y.1 w hE)
 have HA1:=Hd (fun w=>as_ok x.2 (commI x.1 y.1) w)
 have HA2:=Hd (fun w=>as_ok y.2 (commI x.1 y.1) w)
 have HD:=Hd (fun w=>compared_no mDiv (lit_eq rfl rfl) (lit_eq rfl rfl) (lit_eq rfl rfl) (lit_eq rfl rfl) (lit_eq rfl rfl) (lit_eq rfl rfl) (asI x.2 (commI x.1 y.1)) (asI y.2 (commI x.1 y.1)) w)
 have HA:=Hd (fun w=>as_ok ((asI x.2 (commI x.1 y.1)).tdiv (asI y.2 (commI x.1 y.1))) (commI x.1 y.1) w)
 obtain ⟨t,n⟩:=x
 obtain ⟨u,m⟩:=y
 have HB:=Hd hb
 have HR:=Hd hR
 have HX:=Hd hX
 have HY:=Hd hY
 have HE:=Hd (hE.below hb)
 clear hX hY hR hb hx hy hE
 simp only [numO] at *
 generalize commI t u = ct at *
 generalize asI n ct = an at *
 generalize asI m ct = bm at *
 have hzb:(bm == 0) = false:=by simpa using hz
 have hqr:=tdiv_range (b:=bm) hra
 generalize asI (an.tdiv bm) ct = r at *
 unfold numV at *
 generalize mDiv = mk at *
 go_enter Tryz.func29,Tryz.ntmps29
 go_upto_region 7 with fail
 generalize ((w.alloc (.cells #[.string t,.int .i64 n] 50)).alloc (.cells #[.string u,.int .i64 m] 50)).alloc (.cells #[.string ⟨#[]⟩,.int .i64 0] 50) = w1 at *
 obtain ⟨⟨x0,x1⟩,_⟩:=HX.out.cells
 obtain ⟨⟨y0,y1⟩,_⟩:=HY.out.cells
 have HC1:=Hd (HC.out w1 HE.out)
 go_upto_region 16 with (go_at_call 59;(with_reducible refine HC1.out.mono ?_);rintro e w2 ⟨rfl,hb2⟩;have HB2:=Hd hb2;clear hb2)
 clear x0 x1 y0 y1
 obtain ⟨⟨x0,x1⟩,_⟩:=(HX.out.below HB2.out).cells
 obtain ⟨⟨y0,y1⟩,_⟩:=(HY.out.below HB2.out).cells
 go_quiet (first | (go_at_call_of 30 n;exact Calls.quiet_of_same (HA1.out _)) | (go_at_call_of 30 m;exact Calls.quiet_of_same (HA2.out _)))
 go_upto_region 18 with (go_at_call 60;(with_reducible refine (HD.out _).mono ?_);rintro e w3 ⟨rfl,hb3⟩;have HB3:=Hd (HB2.out.trans (((Below.drewN' _ _).trans (hb3.mono (Nat.le_refl _))).mono HB2.out.size));clear hb3)
 have HR4:=Hd ((HR.out.below HB3.out).below (ba1 w3 (numO (⟨#[]⟩,0))))
 have HB4:=Hd (HB.out.trans ((HB3.out.trans ((ba1 w3 (numO (⟨#[]⟩,0))).mono HB3.out.size)).mono HB.out.size))
 simp only [numO] at HR4 HB4
 generalize w3.alloc (.cells #[.string ⟨#[]⟩,.int .i64 0] 50) = w4 at *
 obtain ⟨⟨r0,r1⟩,rf⟩:=HR4.out.cells
 have f0:=rf 0
 have f1:=rf 1
 clear rf x0 x1 y0 y1
 go_wp2_with (first | (go_at_call 30;(with_reducible refine (HA.out _).mono ?_);rintro e w6 ⟨rfl,rfl⟩))
 exact bodyPost_ret (v:=.tuple #[numV (ct,r),.bool true]) (by simp [results,Tryz.results29,go_sem,r0,r1];rfl) rfl ⟨rfl,below_set2 HB4.out (by omega) _ _⟩
set_option maxRecDepth 100000 in
set_option maxHeartbeats 2000000 in
theorem binary_rem0 (x y:Num) (hx:IntT x.1) (hy:IntT y.1) (hz:asI y.2 (commI x.1 y.1) = 0) (w:World) (hE:TE w):Calls Tryz.prog 29 #[.string mRem,numV x,numV y] w fun e w'=>e = .returned (.tuple #[numV (⟨#[]⟩,0),.bool false]) ∧ Below w.heap.size w w':=by
 obtain ⟨hb,hX,hY,hR⟩:=three_boxes w x y ((⟨#[]⟩,0):Num)
 have t0:(mRem.toList == [38,38]) = false:=lit_eq rfl rfl
 have t1:(mRem.toList == [124,124]) = false:=lit_eq rfl rfl
 have t2:(mRem.toList == [60,60]) = false:=lit_eq rfl rfl
 have t3:(mRem.toList == [62,62]) = false:=lit_eq rfl rfl
 have t4:(mRem.toList == [42]) = false:=lit_eq rfl rfl
 have t5:(mRem.toList == [47]) = false:=lit_eq rfl rfl
 have t6:(mRem.toList == [37]) = true:=lit_eq rfl rfl
 have hra:=asI_range x.2 (commI x.1 y.1)
 have hrb:=asI_range y.2 (commI x.1 y.1)
 have HC:=Hd (fun w hE=>(commonV_int hx hy) ▸ common_ok x.1 y.1 w hE)
 have HA1:=Hd (fun w=>as_ok x.2 (commI x.1 y.1) w)
 have HA2:=Hd (fun w=>as_ok y.2 (commI x.1 y.1) w)
 have HD:=Hd (fun w=>compared_no mRem (lit_eq rfl rfl) (lit_eq rfl rfl) (lit_eq rfl rfl) (lit_eq rfl rfl) (lit_eq rfl rfl) (lit_eq rfl rfl) (asI x.2 (commI x.1 y.1)) (asI y.2 (commI x.1 y.1)) w)
 obtain ⟨t,n⟩:=x
 obtain ⟨u,m⟩:=y
 have HB:=Hd hb
 have HR:=Hd hR
 have HX:=Hd hX
 have HY:=Hd hY
 have HE:=Hd (hE.below hb)
 clear hX hY hR hb hx hy hE
 simp only [numO] at *
 generalize commI t u = ct at *
 generalize asI n ct = an at *
 generalize asI m ct = bm at *
 have HZ:=Hd hz
 clear hz
 unfold numV at *
 generalize mRem = mk at *
 go_enter Tryz.func29,Tryz.ntmps29
 go_upto_region 7 with fail
 generalize ((w.alloc (.cells #[.string t,.int .i64 n] 50)).alloc (.cells #[.string u,.int .i64 m] 50)).alloc (.cells #[.string ⟨#[]⟩,.int .i64 0] 50) = w1 at *
 obtain ⟨⟨x0,x1⟩,_⟩:=HX.out.cells
 obtain ⟨⟨y0,y1⟩,_⟩:=HY.out.cells
 have HC1:=Hd (HC.out w1 HE.out)
 go_upto_region 16 with (go_at_call 59;(with_reducible refine HC1.out.mono ?_);rintro e w2 ⟨rfl,hb2⟩;have HB2:=Hd hb2;clear hb2)
 clear x0 x1 y0 y1
 obtain ⟨⟨x0,x1⟩,_⟩:=(HX.out.below HB2.out).cells
 obtain ⟨⟨y0,y1⟩,_⟩:=(HY.out.below HB2.out).cells
 go_quiet (first | (go_at_call_of 30 n;exact Calls.quiet_of_same (HA1.out _)) | (go_at_call_of 30 m;exact Calls.quiet_of_same (HA2.out _)))
 go_upto_region 18 with (go_at_call 60;(with_reducible refine (HD.out _).mono ?_);rintro e w3 ⟨rfl,hb3⟩;have HB3:=Hd (HB2.out.trans (((Below.drewN' _ _).trans (hb3.mono (Nat.le_refl _))).mono HB2.out.size));clear hb3)
 have HR4:=Hd ((HR.out.below HB3.out).below (ba1 w3 (numO (⟨#[]⟩,0))))
 have HB4:=Hd (HB.out.trans ((HB3.out.trans ((ba1 w3 (numO (⟨#[]⟩,0))).mono HB3.out.size)).mono HB.out.size))
 simp only [numO] at HR4 HB4
 generalize w3.alloc (.cells #[.string ⟨#[]⟩,.int .i64 0] 50) = w4 at *
 obtain ⟨⟨r0,r1⟩,rf⟩:=HR4.out.cells
 have f0:=rf 0
 have f1:=rf 1
 clear rf x0 x1 y0 y1
 have hzb:(bm == 0) = true:=by simpa using HZ.out
 go_wp2_with fail
 exact bodyPost_ret (v:=.tuple #[numV (⟨#[]⟩,0),.bool false]) (by simp [results,Tryz.results29,go_sem,r0,r1];rfl) rfl ⟨rfl,below_set2 HB4.out (by omega) _ _⟩
set_option maxRecDepth 100000 in
set_option maxHeartbeats 2000000 in
theorem binary_rem1 (x y:Num) (hx:IntT x.1) (hy:IntT y.1) (hz:asI y.2 (commI x.1 y.1) ≠ 0) (w:World) (hE:TE w):Calls Tryz.prog 29 #[.string mRem,numV x,numV y] w fun e w'=>e = .returned (.tuple #[numV (commI x.1 y.1,asI ((asI x.2 (commI x.1 y.1)).tmod (asI y.2 (commI x.1 y.1))) (commI x.1 y.1)),.bool true]) ∧ Below w.heap.size w w':=by
 obtain ⟨hb,hX,hY,hR⟩:=three_boxes w x y ((⟨#[]⟩,0):Num)
 have t0:(mRem.toList == [38,38]) = false:=lit_eq rfl rfl
 have t1:(mRem.toList == [124,124]) = false:=lit_eq rfl rfl
 have t2:(mRem.toList == [60,60]) = false:=lit_eq rfl rfl
 have t3:(mRem.toList == [62,62]) = false:=lit_eq rfl rfl
 have t4:(mRem.toList == [42]) = false:=lit_eq rfl rfl
 have t5:(mRem.toList == [47]) = false:=lit_eq rfl rfl
 have t6:(mRem.toList == [37]) = true:=lit_eq rfl rfl
 have hra:=asI_range x.2 (commI x.1 y.1)
 have hrb:=asI_range y.2 (commI x.1 y.1)
 have HC:=Hd (fun w hE=>(commonV_int hx hy) ▸ common_ok x.1 y.1 w hE)
 have HA1:=Hd (fun w=>as_ok x.2 (commI x.1 y.1) w)
 have HA2:=Hd (fun w=>as_ok y.2 (commI x.1 y.1) w)
 have HD:=Hd (fun w=>compared_no mRem (lit_eq rfl rfl) (lit_eq rfl rfl) (lit_eq rfl rfl) (lit_eq rfl rfl) (lit_eq rfl rfl) (lit_eq rfl rfl) (asI x.2 (commI x.1 y.1)) (asI y.2 (commI x.1 y.1)) w)
 have HA:=Hd (fun w=>as_ok ((asI x.2 (commI x.1 y.1)).tmod (asI y.2 (commI x.1 y.1))) (commI x.1 y.1) w)
 obtain ⟨t,n⟩:=x
 obtain ⟨u,m⟩:=y
 have HB:=Hd hb
 have HR:=Hd hR
 have HX:=Hd hX
 have HY:=Hd hY
 have HE:=Hd (hE.below hb)
 clear hX hY hR hb hx hy hE
 simp only [numO] at *
 generalize commI t u = ct at *
 generalize asI n ct = an at *
 generalize asI m ct = bm at *
 have hzb:(bm == 0) = false:=by simpa using hz
 have hqr:=tmod_range (b:=bm) hra
 have hqr2:=tdiv_range (b:=bm) hra
 generalize asI (an.tmod bm) ct = r at *
 unfold numV at *
 generalize mRem = mk at *
 go_enter Tryz.func29,Tryz.ntmps29
 go_upto_region 7 with fail
 generalize ((w.alloc (.cells #[.string t,.int .i64 n] 50)).alloc (.cells #[.string u,.int .i64 m] 50)).alloc (.cells #[.string ⟨#[]⟩,.int .i64 0] 50) = w1 at *
 obtain ⟨⟨x0,x1⟩,_⟩:=HX.out.cells
 obtain ⟨⟨y0,y1⟩,_⟩:=HY.out.cells
 have HC1:=Hd (HC.out w1 HE.out)
 go_upto_region 16 with (go_at_call 59;(with_reducible refine HC1.out.mono ?_);rintro e w2 ⟨rfl,hb2⟩;have HB2:=Hd hb2;clear hb2)
 clear x0 x1 y0 y1
 obtain ⟨⟨x0,x1⟩,_⟩:=(HX.out.below HB2.out).cells
 obtain ⟨⟨y0,y1⟩,_⟩:=(HY.out.below HB2.out).cells
 go_quiet (first | (go_at_call_of 30 n;exact Calls.quiet_of_same (HA1.out _)) | (go_at_call_of 30 m;exact Calls.quiet_of_same (HA2.out _)))
 go_upto_region 18 with (go_at_call 60;(with_reducible refine (HD.out _).mono ?_);rintro e w3 ⟨rfl,hb3⟩;have HB3:=Hd (HB2.out.trans (((Below.drewN' _ _).trans (hb3.mono (Nat.le_refl _))).mono HB2.out.size));clear hb3)
 have HR4:=Hd ((HR.out.below HB3.out).below (ba1 w3 (numO (⟨#[]⟩,0))))
 have HB4:=Hd (HB.out.trans ((HB3.out.trans ((ba1 w3 (numO (⟨#[]⟩,0))).mono HB3.out.size)).mono HB.out.size))
 simp only [numO] at HR4 HB4
 generalize w3.alloc (.cells #[.string ⟨#[]⟩,.int .i64 0] 50) = w4 at *
 obtain ⟨⟨r0,r1⟩,rf⟩:=HR4.out.cells
 have f0:=rf 0
 have f1:=rf 1
 clear rf x0 x1 y0 y1
 go_wp2_with (first | (go_at_call 30;(with_reducible refine (HA.out _).mono ?_);rintro e w6 ⟨rfl,rfl⟩))
 exact bodyPost_ret (v:=.tuple #[numV (ct,r),.bool true]) (by simp [results,Tryz.results29,go_sem,r0,r1];rfl) rfl ⟨rfl,below_set2 HB4.out (by omega) _ _⟩
set_option maxRecDepth 100000 in
set_option maxHeartbeats 2000000 in
theorem binary_add (x y:Num) (hx:IntT x.1) (hy:IntT y.1) (w:World) (hE:TE w):Calls Tryz.prog 29 #[.string mAdd,numV x,numV y] w fun e w'=>e = .returned (.tuple #[numV (commI x.1 y.1,asI ((asI x.2 (commI x.1 y.1)) + (asI y.2 (commI x.1 y.1))) (commI x.1 y.1)),.bool true]) ∧ Below w.heap.size w w':=by
 obtain ⟨hb,hX,hY,hR⟩:=three_boxes w x y ((⟨#[]⟩,0):Num)
 have t0:(mAdd.toList == [38,38]) = false:=lit_eq rfl rfl
 have t1:(mAdd.toList == [124,124]) = false:=lit_eq rfl rfl
 have t2:(mAdd.toList == [60,60]) = false:=lit_eq rfl rfl
 have t3:(mAdd.toList == [62,62]) = false:=lit_eq rfl rfl
 have t4:(mAdd.toList == [42]) = false:=lit_eq rfl rfl
 have t5:(mAdd.toList == [47]) = false:=lit_eq rfl rfl
 have t6:(mAdd.toList == [37]) = false:=lit_eq rfl rfl
 have t7:(mAdd.toList == [43]) = true:=lit_eq rfl rfl
 have hra:=asI_range x.2 (commI x.1 y.1)
 have hrb:=asI_range y.2 (commI x.1 y.1)
 have HC:=Hd (fun w hE=>(commonV_int hx hy) ▸ common_ok x.1 y.1 w hE)
 have HA1:=Hd (fun w=>as_ok x.2 (commI x.1 y.1) w)
 have HA2:=Hd (fun w=>as_ok y.2 (commI x.1 y.1) w)
 have HD:=Hd (fun w=>compared_no mAdd (lit_eq rfl rfl) (lit_eq rfl rfl) (lit_eq rfl rfl) (lit_eq rfl rfl) (lit_eq rfl rfl) (lit_eq rfl rfl) (asI x.2 (commI x.1 y.1)) (asI y.2 (commI x.1 y.1)) w)
 have HA:=Hd (fun w=>as_ok ((asI x.2 (commI x.1 y.1)) + (asI y.2 (commI x.1 y.1))) (commI x.1 y.1) w)
 obtain ⟨t,n⟩:=x
 obtain ⟨u,m⟩:=y
 have HB:=Hd hb
 have HR:=Hd hR
 have HX:=Hd hX
 have HY:=Hd hY
 have HE:=Hd (hE.below hb)
 clear hX hY hR hb hx hy hE
 simp only [numO] at *
 generalize commI t u = ct at *
 generalize asI n ct = an at *
 generalize asI m ct = bm at *
 generalize asI (an + bm) ct = r at *
 unfold numV at *
 generalize mAdd = mk at *
 go_enter Tryz.func29,Tryz.ntmps29
 go_upto_region 7 with fail
 generalize ((w.alloc (.cells #[.string t,.int .i64 n] 50)).alloc (.cells #[.string u,.int .i64 m] 50)).alloc (.cells #[.string ⟨#[]⟩,.int .i64 0] 50) = w1 at *
 obtain ⟨⟨x0,x1⟩,_⟩:=HX.out.cells
 obtain ⟨⟨y0,y1⟩,_⟩:=HY.out.cells
 have HC1:=Hd (HC.out w1 HE.out)
 go_upto_region 16 with (go_at_call 59;(with_reducible refine HC1.out.mono ?_);rintro e w2 ⟨rfl,hb2⟩;have HB2:=Hd hb2;clear hb2)
 clear x0 x1 y0 y1
 obtain ⟨⟨x0,x1⟩,_⟩:=(HX.out.below HB2.out).cells
 obtain ⟨⟨y0,y1⟩,_⟩:=(HY.out.below HB2.out).cells
 go_quiet (first | (go_at_call_of 30 n;exact Calls.quiet_of_same (HA1.out _)) | (go_at_call_of 30 m;exact Calls.quiet_of_same (HA2.out _)))
 go_upto_region 18 with (go_at_call 60;(with_reducible refine (HD.out _).mono ?_);rintro e w3 ⟨rfl,hb3⟩;have HB3:=Hd (HB2.out.trans (((Below.drewN' _ _).trans (hb3.mono (Nat.le_refl _))).mono HB2.out.size));clear hb3)
 have HR4:=Hd ((HR.out.below HB3.out).below (ba1 w3 (numO (⟨#[]⟩,0))))
 have HB4:=Hd (HB.out.trans ((HB3.out.trans ((ba1 w3 (numO (⟨#[]⟩,0))).mono HB3.out.size)).mono HB.out.size))
 simp only [numO] at HR4 HB4
 generalize w3.alloc (.cells #[.string ⟨#[]⟩,.int .i64 0] 50) = w4 at *
 obtain ⟨⟨r0,r1⟩,rf⟩:=HR4.out.cells
 have f0:=rf 0
 have f1:=rf 1
 clear rf x0 x1 y0 y1
 go_wp2_with (first | (go_at_call 30;(with_reducible refine (HA.out _).mono ?_);rintro e w6 ⟨rfl,rfl⟩))
 exact bodyPost_ret (v:=.tuple #[numV (ct,r),.bool true]) (by simp [results,Tryz.results29,go_sem,r0,r1];rfl) rfl ⟨rfl,below_set2 HB4.out (by omega) _ _⟩
set_option maxRecDepth 100000 in
set_option maxHeartbeats 2000000 in
theorem binary_sub (x y:Num) (hx:IntT x.1) (hy:IntT y.1) (w:World) (hE:TE w):Calls Tryz.prog 29 #[.string mSub,numV x,numV y] w fun e w'=>e = .returned (.tuple #[numV (commI x.1 y.1,asI ((asI x.2 (commI x.1 y.1)) - (asI y.2 (commI x.1 y.1))) (commI x.1 y.1)),.bool true]) ∧ Below w.heap.size w w':=by
 obtain ⟨hb,hX,hY,hR⟩:=three_boxes w x y ((⟨#[]⟩,0):Num)
 have t0:(mSub.toList == [38,38]) = false:=lit_eq rfl rfl
 have t1:(mSub.toList == [124,124]) = false:=lit_eq rfl rfl
 have t2:(mSub.toList == [60,60]) = false:=lit_eq rfl rfl
 have t3:(mSub.toList == [62,62]) = false:=lit_eq rfl rfl
 have t4:(mSub.toList == [42]) = false:=lit_eq rfl rfl
 have t5:(mSub.toList == [47]) = false:=lit_eq rfl rfl
 have t6:(mSub.toList == [37]) = false:=lit_eq rfl rfl
 have t7:(mSub.toList == [43]) = false:=lit_eq rfl rfl
 have t8:(mSub.toList == [45]) = true:=lit_eq rfl rfl
 have hra:=asI_range x.2 (commI x.1 y.1)
 have hrb:=asI_range y.2 (commI x.1 y.1)
 have HC:=Hd (fun w hE=>(commonV_int hx hy) ▸ common_ok x.1 y.1 w hE)
 have HA1:=Hd (fun w=>as_ok x.2 (commI x.1 y.1) w)
 have HA2:=Hd (fun w=>as_ok y.2 (commI x.1 y.1) w)
 have HD:=Hd (fun w=>compared_no mSub (lit_eq rfl rfl) (lit_eq rfl rfl) (lit_eq rfl rfl) (lit_eq rfl rfl) (lit_eq rfl rfl) (lit_eq rfl rfl) (asI x.2 (commI x.1 y.1)) (asI y.2 (commI x.1 y.1)) w)
 have HA:=Hd (fun w=>as_ok ((asI x.2 (commI x.1 y.1)) - (asI y.2 (commI x.1 y.1))) (commI x.1 y.1) w)
 obtain ⟨t,n⟩:=x
 obtain ⟨u,m⟩:=y
 have HB:=Hd hb
 have HR:=Hd hR
 have HX:=Hd hX
 have HY:=Hd hY
 have HE:=Hd (hE.below hb)
 clear hX hY hR hb hx hy hE
 simp only [numO] at *
 generalize commI t u = ct at *
 generalize asI n ct = an at *
 generalize asI m ct = bm at *
 generalize asI (an - bm) ct = r at *
 unfold numV at *
 generalize mSub = mk at *
 go_enter Tryz.func29,Tryz.ntmps29
 go_upto_region 7 with fail
 generalize ((w.alloc (.cells #[.string t,.int .i64 n] 50)).alloc (.cells #[.string u,.int .i64 m] 50)).alloc (.cells #[.string ⟨#[]⟩,.int .i64 0] 50) = w1 at *
 obtain ⟨⟨x0,x1⟩,_⟩:=HX.out.cells
 obtain ⟨⟨y0,y1⟩,_⟩:=HY.out.cells
 have HC1:=Hd (HC.out w1 HE.out)
 go_upto_region 16 with (go_at_call 59;(with_reducible refine HC1.out.mono ?_);rintro e w2 ⟨rfl,hb2⟩;have HB2:=Hd hb2;clear hb2)
 clear x0 x1 y0 y1
 obtain ⟨⟨x0,x1⟩,_⟩:=(HX.out.below HB2.out).cells
 obtain ⟨⟨y0,y1⟩,_⟩:=(HY.out.below HB2.out).cells
 go_quiet (first | (go_at_call_of 30 n;exact Calls.quiet_of_same (HA1.out _)) | (go_at_call_of 30 m;exact Calls.quiet_of_same (HA2.out _)))
 go_upto_region 18 with (go_at_call 60;(with_reducible refine (HD.out _).mono ?_);rintro e w3 ⟨rfl,hb3⟩;have HB3:=Hd (HB2.out.trans (((Below.drewN' _ _).trans (hb3.mono (Nat.le_refl _))).mono HB2.out.size));clear hb3)
 have HR4:=Hd ((HR.out.below HB3.out).below (ba1 w3 (numO (⟨#[]⟩,0))))
 have HB4:=Hd (HB.out.trans ((HB3.out.trans ((ba1 w3 (numO (⟨#[]⟩,0))).mono HB3.out.size)).mono HB.out.size))
 simp only [numO] at HR4 HB4
 generalize w3.alloc (.cells #[.string ⟨#[]⟩,.int .i64 0] 50) = w4 at *
 obtain ⟨⟨r0,r1⟩,rf⟩:=HR4.out.cells
 have f0:=rf 0
 have f1:=rf 1
 clear rf x0 x1 y0 y1
 go_wp2_with (first | (go_at_call 30;(with_reducible refine (HA.out _).mono ?_);rintro e w6 ⟨rfl,rfl⟩))
 exact bodyPost_ret (v:=.tuple #[numV (ct,r),.bool true]) (by simp [results,Tryz.results29,go_sem,r0,r1];rfl) rfl ⟨rfl,below_set2 HB4.out (by omega) _ _⟩
set_option maxRecDepth 100000 in
set_option maxHeartbeats 2000000 in
theorem binary_and (x y:Num) (hx:IntT x.1) (hy:IntT y.1) (w:World) (hE:TE w):Calls Tryz.prog 29 #[.string mAnd,numV x,numV y] w fun e w'=>e = .returned (.tuple #[numV (commI x.1 y.1,asI (bits .and .i64 (asI x.2 (commI x.1 y.1)) (asI y.2 (commI x.1 y.1))) (commI x.1 y.1)),.bool true]) ∧ Below w.heap.size w w':=by
 obtain ⟨hb,hX,hY,hR⟩:=three_boxes w x y ((⟨#[]⟩,0):Num)
 have t0:(mAnd.toList == [38,38]) = false:=lit_eq rfl rfl
 have t1:(mAnd.toList == [124,124]) = false:=lit_eq rfl rfl
 have t2:(mAnd.toList == [60,60]) = false:=lit_eq rfl rfl
 have t3:(mAnd.toList == [62,62]) = false:=lit_eq rfl rfl
 have t4:(mAnd.toList == [42]) = false:=lit_eq rfl rfl
 have t5:(mAnd.toList == [47]) = false:=lit_eq rfl rfl
 have t6:(mAnd.toList == [37]) = false:=lit_eq rfl rfl
 have t7:(mAnd.toList == [43]) = false:=lit_eq rfl rfl
 have t8:(mAnd.toList == [45]) = false:=lit_eq rfl rfl
 have t9:(mAnd.toList == [38]) = true:=lit_eq rfl rfl
 have hra:=asI_range x.2 (commI x.1 y.1)
 have hrb:=asI_range y.2 (commI x.1 y.1)
 have HC:=Hd (fun w hE=>(commonV_int hx hy) ▸ common_ok x.1 y.1 w hE)
 have HA1:=Hd (fun w=>as_ok x.2 (commI x.1 y.1) w)
 have HA2:=Hd (fun w=>as_ok y.2 (commI x.1 y.1) w)
 have HD:=Hd (fun w=>compared_no mAnd (lit_eq rfl rfl) (lit_eq rfl rfl) (lit_eq rfl rfl) (lit_eq rfl rfl) (lit_eq rfl rfl) (lit_eq rfl rfl) (asI x.2 (commI x.1 y.1)) (asI y.2 (commI x.1 y.1)) w)
 have HA:=Hd (fun w=>as_ok (bits .and .i64 (asI x.2 (commI x.1 y.1)) (asI y.2 (commI x.1 y.1))) (commI x.1 y.1) w)
 obtain ⟨t,n⟩:=x
 obtain ⟨u,m⟩:=y
 have HB:=Hd hb
 have HR:=Hd hR
 have HX:=Hd hX
 have HY:=Hd hY
 have HE:=Hd (hE.below hb)
 clear hX hY hR hb hx hy hE
 simp only [numO] at *
 generalize commI t u = ct at *
 generalize asI n ct = an at *
 generalize asI m ct = bm at *
 generalize hzz:bits .and .i64 an bm = z at *
 generalize asI z ct = r at *
 unfold numV at *
 generalize mAnd = mk at *
 go_enter Tryz.func29,Tryz.ntmps29
 go_upto_region 7 with fail
 generalize ((w.alloc (.cells #[.string t,.int .i64 n] 50)).alloc (.cells #[.string u,.int .i64 m] 50)).alloc (.cells #[.string ⟨#[]⟩,.int .i64 0] 50) = w1 at *
 obtain ⟨⟨x0,x1⟩,_⟩:=HX.out.cells
 obtain ⟨⟨y0,y1⟩,_⟩:=HY.out.cells
 have HC1:=Hd (HC.out w1 HE.out)
 go_upto_region 16 with (go_at_call 59;(with_reducible refine HC1.out.mono ?_);rintro e w2 ⟨rfl,hb2⟩;have HB2:=Hd hb2;clear hb2)
 clear x0 x1 y0 y1
 obtain ⟨⟨x0,x1⟩,_⟩:=(HX.out.below HB2.out).cells
 obtain ⟨⟨y0,y1⟩,_⟩:=(HY.out.below HB2.out).cells
 go_quiet (first | (go_at_call_of 30 n;exact Calls.quiet_of_same (HA1.out _)) | (go_at_call_of 30 m;exact Calls.quiet_of_same (HA2.out _)))
 go_upto_region 18 with (go_at_call 60;(with_reducible refine (HD.out _).mono ?_);rintro e w3 ⟨rfl,hb3⟩;have HB3:=Hd (HB2.out.trans (((Below.drewN' _ _).trans (hb3.mono (Nat.le_refl _))).mono HB2.out.size));clear hb3)
 have HR4:=Hd ((HR.out.below HB3.out).below (ba1 w3 (numO (⟨#[]⟩,0))))
 have HB4:=Hd (HB.out.trans ((HB3.out.trans ((ba1 w3 (numO (⟨#[]⟩,0))).mono HB3.out.size)).mono HB.out.size))
 simp only [numO] at HR4 HB4
 generalize w3.alloc (.cells #[.string ⟨#[]⟩,.int .i64 0] 50) = w4 at *
 obtain ⟨⟨r0,r1⟩,rf⟩:=HR4.out.cells
 have f0:=rf 0
 have f1:=rf 1
 clear rf x0 x1 y0 y1
 go_wp2_with (first | (go_at_call 30;(with_reducible refine (HA.out _).mono ?_);rintro e w6 ⟨rfl,rfl⟩))
 exact bodyPost_ret (v:=.tuple #[numV (ct,r),.bool true]) (by simp [results,Tryz.results29,go_sem,r0,r1];rfl) rfl ⟨rfl,below_set2 HB4.out (by omega) _ _⟩
set_option maxRecDepth 100000 in
set_option maxHeartbeats 2000000 in
theorem binary_xor (x y:Num) (hx:IntT x.1) (hy:IntT y.1) (w:World) (hE:TE w):Calls Tryz.prog 29 #[.string mXor,numV x,numV y] w fun e w'=>e = .returned (.tuple #[numV (commI x.1 y.1,asI (bits .xor .i64 (asI x.2 (commI x.1 y.1)) (asI y.2 (commI x.1 y.1))) (commI x.1 y.1)),.bool true]) ∧ Below w.heap.size w w':=by
 obtain ⟨hb,hX,hY,hR⟩:=three_boxes w x y ((⟨#[]⟩,0):Num)
 have t0:(mXor.toList == [38,38]) = false:=lit_eq rfl rfl
 have t1:(mXor.toList == [124,124]) = false:=lit_eq rfl rfl
 have t2:(mXor.toList == [60,60]) = false:=lit_eq rfl rfl
 have t3:(mXor.toList == [62,62]) = false:=lit_eq rfl rfl
 have t4:(mXor.toList == [42]) = false:=lit_eq rfl rfl
 have t5:(mXor.toList == [47]) = false:=lit_eq rfl rfl
 have t6:(mXor.toList == [37]) = false:=lit_eq rfl rfl
 have t7:(mXor.toList == [43]) = false:=lit_eq rfl rfl
 have t8:(mXor.toList == [45]) = false:=lit_eq rfl rfl
 have t9:(mXor.toList == [38]) = false:=lit_eq rfl rfl
 have t10:(mXor.toList == [94]) = true:=lit_eq rfl rfl
 have hra:=asI_range x.2 (commI x.1 y.1)
 have hrb:=asI_range y.2 (commI x.1 y.1)
 have HC:=Hd (fun w hE=>(commonV_int hx hy) ▸ common_ok x.1 y.1 w hE)
 have HA1:=Hd (fun w=>as_ok x.2 (commI x.1 y.1) w)
 have HA2:=Hd (fun w=>as_ok y.2 (commI x.1 y.1) w)
 have HD:=Hd (fun w=>compared_no mXor (lit_eq rfl rfl) (lit_eq rfl rfl) (lit_eq rfl rfl) (lit_eq rfl rfl) (lit_eq rfl rfl) (lit_eq rfl rfl) (asI x.2 (commI x.1 y.1)) (asI y.2 (commI x.1 y.1)) w)
 have HA:=Hd (fun w=>as_ok (bits .xor .i64 (asI x.2 (commI x.1 y.1)) (asI y.2 (commI x.1 y.1))) (commI x.1 y.1) w)
 obtain ⟨t,n⟩:=x
 obtain ⟨u,m⟩:=y
 have HB:=Hd hb
 have HR:=Hd hR
 have HX:=Hd hX
 have HY:=Hd hY
 have HE:=Hd (hE.below hb)
 clear hX hY hR hb hx hy hE
 simp only [numO] at *
 generalize commI t u = ct at *
 generalize asI n ct = an at *
 generalize asI m ct = bm at *
 generalize hzz:bits .xor .i64 an bm = z at *
 generalize asI z ct = r at *
 unfold numV at *
 generalize mXor = mk at *
 go_enter Tryz.func29,Tryz.ntmps29
 go_upto_region 7 with fail
 generalize ((w.alloc (.cells #[.string t,.int .i64 n] 50)).alloc (.cells #[.string u,.int .i64 m] 50)).alloc (.cells #[.string ⟨#[]⟩,.int .i64 0] 50) = w1 at *
 obtain ⟨⟨x0,x1⟩,_⟩:=HX.out.cells
 obtain ⟨⟨y0,y1⟩,_⟩:=HY.out.cells
 have HC1:=Hd (HC.out w1 HE.out)
 go_upto_region 16 with (go_at_call 59;(with_reducible refine HC1.out.mono ?_);rintro e w2 ⟨rfl,hb2⟩;have HB2:=Hd hb2;clear hb2)
 clear x0 x1 y0 y1
 obtain ⟨⟨x0,x1⟩,_⟩:=(HX.out.below HB2.out).cells
 obtain ⟨⟨y0,y1⟩,_⟩:=(HY.out.below HB2.out).cells
 go_quiet (first | (go_at_call_of 30 n;exact Calls.quiet_of_same (HA1.out _)) | (go_at_call_of 30 m;exact Calls.quiet_of_same (HA2.out _)))
 go_upto_region 18 with (go_at_call 60;(with_reducible refine (HD.out _).mono ?_);rintro e w3 ⟨rfl,hb3⟩;have HB3:=Hd (HB2.out.trans (((Below.drewN' _ _).trans (hb3.mono (Nat.le_refl _))).mono HB2.out.size));clear hb3)
 have HR4:=Hd ((HR.out.below HB3.out).below (ba1 w3 (numO (⟨#[]⟩,0))))
 have HB4:=Hd (HB.out.trans ((HB3.out.trans ((ba1 w3 (numO (⟨#[]⟩,0))).mono HB3.out.size)).mono HB.out.size))
 simp only [numO] at HR4 HB4
 generalize w3.alloc (.cells #[.string ⟨#[]⟩,.int .i64 0] 50) = w4 at *
 obtain ⟨⟨r0,r1⟩,rf⟩:=HR4.out.cells
 have f0:=rf 0
 have f1:=rf 1
 clear rf x0 x1 y0 y1
 go_wp2_with (first | (go_at_call 30;(with_reducible refine (HA.out _).mono ?_);rintro e w6 ⟨rfl,rfl⟩))
 exact bodyPost_ret (v:=.tuple #[numV (ct,r),.bool true]) (by simp [results,Tryz.results29,go_sem,r0,r1];rfl) rfl ⟨rfl,below_set2 HB4.out (by omega) _ _⟩
set_option maxRecDepth 100000 in
set_option maxHeartbeats 2000000 in
theorem binary_or (x y:Num) (hx:IntT x.1) (hy:IntT y.1) (w:World) (hE:TE w):Calls Tryz.prog 29 #[.string mOr,numV x,numV y] w fun e w'=>e = .returned (.tuple #[numV (commI x.1 y.1,asI (bits .or .i64 (asI x.2 (commI x.1 y.1)) (asI y.2 (commI x.1 y.1))) (commI x.1 y.1)),.bool true]) ∧ Below w.heap.size w w':=by
 obtain ⟨hb,hX,hY,hR⟩:=three_boxes w x y ((⟨#[]⟩,0):Num)
 have t0:(mOr.toList == [38,38]) = false:=lit_eq rfl rfl
 have t1:(mOr.toList == [124,124]) = false:=lit_eq rfl rfl
 have t2:(mOr.toList == [60,60]) = false:=lit_eq rfl rfl
 have t3:(mOr.toList == [62,62]) = false:=lit_eq rfl rfl
 have t4:(mOr.toList == [42]) = false:=lit_eq rfl rfl
 have t5:(mOr.toList == [47]) = false:=lit_eq rfl rfl
 have t6:(mOr.toList == [37]) = false:=lit_eq rfl rfl
 have t7:(mOr.toList == [43]) = false:=lit_eq rfl rfl
 have t8:(mOr.toList == [45]) = false:=lit_eq rfl rfl
 have t9:(mOr.toList == [38]) = false:=lit_eq rfl rfl
 have t10:(mOr.toList == [94]) = false:=lit_eq rfl rfl
 have t11:(mOr.toList == [124]) = true:=lit_eq rfl rfl
 have hra:=asI_range x.2 (commI x.1 y.1)
 have hrb:=asI_range y.2 (commI x.1 y.1)
 have HC:=Hd (fun w hE=>(commonV_int hx hy) ▸ common_ok x.1 y.1 w hE)
 have HA1:=Hd (fun w=>as_ok x.2 (commI x.1 y.1) w)
 have HA2:=Hd (fun w=>as_ok y.2 (commI x.1 y.1) w)
 have HD:=Hd (fun w=>compared_no mOr (lit_eq rfl rfl) (lit_eq rfl rfl) (lit_eq rfl rfl) (lit_eq rfl rfl) (lit_eq rfl rfl) (lit_eq rfl rfl) (asI x.2 (commI x.1 y.1)) (asI y.2 (commI x.1 y.1)) w)
 have HA:=Hd (fun w=>as_ok (bits .or .i64 (asI x.2 (commI x.1 y.1)) (asI y.2 (commI x.1 y.1))) (commI x.1 y.1) w)
 obtain ⟨t,n⟩:=x
 obtain ⟨u,m⟩:=y
 have HB:=Hd hb
 have HR:=Hd hR
 have HX:=Hd hX
 have HY:=Hd hY
 have HE:=Hd (hE.below hb)
 clear hX hY hR hb hx hy hE
 simp only [numO] at *
 generalize commI t u = ct at *
 generalize asI n ct = an at *
 generalize asI m ct = bm at *
 generalize hzz:bits .or .i64 an bm = z at *
 generalize asI z ct = r at *
 unfold numV at *
 generalize mOr = mk at *
 go_enter Tryz.func29,Tryz.ntmps29
 go_upto_region 7 with fail
 generalize ((w.alloc (.cells #[.string t,.int .i64 n] 50)).alloc (.cells #[.string u,.int .i64 m] 50)).alloc (.cells #[.string ⟨#[]⟩,.int .i64 0] 50) = w1 at *
 obtain ⟨⟨x0,x1⟩,_⟩:=HX.out.cells
 obtain ⟨⟨y0,y1⟩,_⟩:=HY.out.cells
 have HC1:=Hd (HC.out w1 HE.out)
 go_upto_region 16 with (go_at_call 59;(with_reducible refine HC1.out.mono ?_);rintro e w2 ⟨rfl,hb2⟩;have HB2:=Hd hb2;clear hb2)
 clear x0 x1 y0 y1
 obtain ⟨⟨x0,x1⟩,_⟩:=(HX.out.below HB2.out).cells
 obtain ⟨⟨y0,y1⟩,_⟩:=(HY.out.below HB2.out).cells
 go_quiet (first | (go_at_call_of 30 n;exact Calls.quiet_of_same (HA1.out _)) | (go_at_call_of 30 m;exact Calls.quiet_of_same (HA2.out _)))
 go_upto_region 18 with (go_at_call 60;(with_reducible refine (HD.out _).mono ?_);rintro e w3 ⟨rfl,hb3⟩;have HB3:=Hd (HB2.out.trans (((Below.drewN' _ _).trans (hb3.mono (Nat.le_refl _))).mono HB2.out.size));clear hb3)
 have HR4:=Hd ((HR.out.below HB3.out).below (ba1 w3 (numO (⟨#[]⟩,0))))
 have HB4:=Hd (HB.out.trans ((HB3.out.trans ((ba1 w3 (numO (⟨#[]⟩,0))).mono HB3.out.size)).mono HB.out.size))
 simp only [numO] at HR4 HB4
 generalize w3.alloc (.cells #[.string ⟨#[]⟩,.int .i64 0] 50) = w4 at *
 obtain ⟨⟨r0,r1⟩,rf⟩:=HR4.out.cells
 have f0:=rf 0
 have f1:=rf 1
 clear rf x0 x1 y0 y1
 go_wp2_with (first | (go_at_call 30;(with_reducible refine (HA.out _).mono ?_);rintro e w6 ⟨rfl,rfl⟩))
 exact bodyPost_ret (v:=.tuple #[numV (ct,r),.bool true]) (by simp [results,Tryz.results29,go_sem,r0,r1];rfl) rfl ⟨rfl,below_set2 HB4.out (by omega) _ _⟩
end Go.Proofs.YtlcfejgjeljjdaaGreatDoor
