/- Two numbers of one type: the program -/
import Derived.Test.YtlcfejgjeljjdaaGreatDoorFoldB
namespace Go.Proofs.YtlcfejgjeljjdaaGreatDoor
open Go.RowKit
set_option maxRecDepth 100000 in
set_option maxHeartbeats 2000000 in
theorem binary_lt (x y:Num) (hx:IntT x.1) (hy:IntT y.1) (w:World) (hE:TE w):Calls Tryz.prog 29 #[.string mLt,numV x,numV y] w fun e w'=>e = .returned (.tuple #[numV (iText12,truthI (decide (asI x.2 (commI x.1 y.1) < asI y.2 (commI x.1 y.1)))),.bool true]) ∧ Below w.heap.size w w':=by
 obtain ⟨hb,hX,hY,hR⟩:=three_boxes w x y ((⟨#[]⟩,0):Num)
 have t0:(mLt.toList == [38,38]) = false:=lit_eq rfl rfl
 have t1:(mLt.toList == [124,124]) = false:=lit_eq rfl rfl
 have t2:(mLt.toList == [60,60]) = false:=lit_eq rfl rfl
 have t3:(mLt.toList == [62,62]) = false:=lit_eq rfl rfl
 have hra:=asI_range x.2 (commI x.1 y.1)
 have hrb:=asI_range y.2 (commI x.1 y.1)
 have HC:=Hd (fun w hE=>(commonV_int hx hy) ▸ common_ok x.1 y.1 w hE)
 have HA1:=Hd (fun w=>as_ok x.2 (commI x.1 y.1) w)
 have HA2:=Hd (fun w=>as_ok y.2 (commI x.1 y.1) w)
 have HD:=Hd (fun w=>compared_Lt (asI x.2 (commI x.1 y.1)) (asI y.2 (commI x.1 y.1)) w)
 obtain ⟨t,n⟩:=x
 obtain ⟨u,m⟩:=y
 have HB:=Hd hb
 have HR:=Hd hR
 have HX:=Hd hX
 have HY:=Hd hY
 have HE:=Hd (hE.below hb)
 clear hX hY hR hb hx hy hE
 simp only [numO] at *
 generalize commI t u = ct at *
 generalize asI n ct = an at *
 generalize asI m ct = bm at *
 generalize truthI _ = r at *
 unfold numV at *
 generalize mLt = mk at *
 go_enter Tryz.func29,Tryz.ntmps29
 go_upto_region 7 with fail
 generalize ((w.alloc (.cells #[.string t,.int .i64 n] 50)).alloc (.cells #[.string u,.int .i64 m] 50)).alloc (.cells #[.string ⟨#[]⟩,.int .i64 0] 50) = w1 at *
 obtain ⟨⟨x0,x1⟩,_⟩:=HX.out.cells
 obtain ⟨⟨y0,y1⟩,_⟩:=HY.out.cells
 have HC1:=Hd (HC.out w1 HE.out)
 go_upto_region 16 with (go_at_call 59;(with_reducible refine HC1.out.mono ?_);rintro e w2 ⟨rfl,hb2⟩;have HB2:=Hd hb2;clear hb2)
 clear x0 x1 y0 y1
 obtain ⟨⟨x0,x1⟩,_⟩:=(HX.out.below HB2.out).cells
 obtain ⟨⟨y0,y1⟩,_⟩:=(HY.out.below HB2.out).cells
 go_quiet (first | (go_at_call_of 30 n;exact Calls.quiet_of_same (HA1.out _)) | (go_at_call_of 30 m;exact Calls.quiet_of_same (HA2.out _)))
 go_upto_region 18 with (go_at_call 60;(with_reducible refine (HD.out _).mono ?_);rintro e w3 ⟨rfl,hb3⟩;have HB3:=Hd (HB2.out.trans (((Below.drewN' _ _).trans (hb3.mono (Nat.le_refl _))).mono HB2.out.size));clear hb3)
 have HV:=Hd (numAt_new w3 (iText12,r))
 have HR4:=Hd ((HR.out.below HB3.out).below (ba1 w3 (numO (iText12,r))))
 have HB4:=Hd (HB.out.trans ((HB3.out.trans ((ba1 w3 (numO (iText12,r))).mono HB3.out.size)).mono HB.out.size))
 simp only [numO] at HV HR4 HB4
 generalize w3.alloc (.cells #[.string iText12,.int .i64 r] 50) = w4 at *
 obtain ⟨⟨v0,v1⟩,_⟩:=HV.out.cells
 obtain ⟨⟨r0,r1⟩,rf⟩:=HR4.out.cells
 have f0:=rf 0
 have f1:=rf 1
 clear rf x0 x1 y0 y1
 go_wp2_with fail
 exact bodyPost_ret (v:=.tuple #[numV (iText12,r),.bool true]) (by simp [results,Tryz.results29,go_sem,r0,r1];rfl) rfl ⟨rfl,below_set2 HB4.out (by omega) _ _⟩
set_option maxRecDepth 100000 in
set_option maxHeartbeats 2000000 in
theorem binary_gt (x y:Num) (hx:IntT x.1) (hy:IntT y.1) (w:World) (hE:TE w):Calls Tryz.prog 29 #[.string mGt,numV x,numV y] w fun e w'=>e = .returned (.tuple #[numV (iText12,truthI (decide (asI y.2 (commI x.1 y.1) < asI x.2 (commI x.1 y.1)))),.bool true]) ∧ Below w.heap.size w w':=by
 obtain ⟨hb,hX,hY,hR⟩:=three_boxes w x y ((⟨#[]⟩,0):Num)
 have t0:(mGt.toList == [38,38]) = false:=lit_eq rfl rfl
 have t1:(mGt.toList == [124,124]) = false:=lit_eq rfl rfl
 have t2:(mGt.toList == [60,60]) = false:=lit_eq rfl rfl
 have t3:(mGt.toList == [62,62]) = false:=lit_eq rfl rfl
 have hra:=asI_range x.2 (commI x.1 y.1)
 have hrb:=asI_range y.2 (commI x.1 y.1)
 have HC:=Hd (fun w hE=>(commonV_int hx hy) ▸ common_ok x.1 y.1 w hE)
 have HA1:=Hd (fun w=>as_ok x.2 (commI x.1 y.1) w)
 have HA2:=Hd (fun w=>as_ok y.2 (commI x.1 y.1) w)
 have HD:=Hd (fun w=>compared_Gt (asI x.2 (commI x.1 y.1)) (asI y.2 (commI x.1 y.1)) w)
 obtain ⟨t,n⟩:=x
 obtain ⟨u,m⟩:=y
 have HB:=Hd hb
 have HR:=Hd hR
 have HX:=Hd hX
 have HY:=Hd hY
 have HE:=Hd (hE.below hb)
 clear hX hY hR hb hx hy hE
 simp only [numO] at *
 generalize commI t u = ct at *
 generalize asI n ct = an at *
 generalize asI m ct = bm at *
 generalize truthI _ = r at *
 unfold numV at *
 generalize mGt = mk at *
 go_enter Tryz.func29,Tryz.ntmps29
 go_upto_region 7 with fail
 generalize ((w.alloc (.cells #[.string t,.int .i64 n] 50)).alloc (.cells #[.string u,.int .i64 m] 50)).alloc (.cells #[.string ⟨#[]⟩,.int .i64 0] 50) = w1 at *
 obtain ⟨⟨x0,x1⟩,_⟩:=HX.out.cells
 obtain ⟨⟨y0,y1⟩,_⟩:=HY.out.cells
 have HC1:=Hd (HC.out w1 HE.out)
 go_upto_region 16 with (go_at_call 59;(with_reducible refine HC1.out.mono ?_);rintro e w2 ⟨rfl,hb2⟩;have HB2:=Hd hb2;clear hb2)
 clear x0 x1 y0 y1
 obtain ⟨⟨x0,x1⟩,_⟩:=(HX.out.below HB2.out).cells
 obtain ⟨⟨y0,y1⟩,_⟩:=(HY.out.below HB2.out).cells
 go_quiet (first | (go_at_call_of 30 n;exact Calls.quiet_of_same (HA1.out _)) | (go_at_call_of 30 m;exact Calls.quiet_of_same (HA2.out _)))
 go_upto_region 18 with (go_at_call 60;(with_reducible refine (HD.out _).mono ?_);rintro e w3 ⟨rfl,hb3⟩;have HB3:=Hd (HB2.out.trans (((Below.drewN' _ _).trans (hb3.mono (Nat.le_refl _))).mono HB2.out.size));clear hb3)
 have HV:=Hd (numAt_new w3 (iText12,r))
 have HR4:=Hd ((HR.out.below HB3.out).below (ba1 w3 (numO (iText12,r))))
 have HB4:=Hd (HB.out.trans ((HB3.out.trans ((ba1 w3 (numO (iText12,r))).mono HB3.out.size)).mono HB.out.size))
 simp only [numO] at HV HR4 HB4
 generalize w3.alloc (.cells #[.string iText12,.int .i64 r] 50) = w4 at *
 obtain ⟨⟨v0,v1⟩,_⟩:=HV.out.cells
 obtain ⟨⟨r0,r1⟩,rf⟩:=HR4.out.cells
 have f0:=rf 0
 have f1:=rf 1
 clear rf x0 x1 y0 y1
 go_wp2_with fail
 exact bodyPost_ret (v:=.tuple #[numV (iText12,r),.bool true]) (by simp [results,Tryz.results29,go_sem,r0,r1];rfl) rfl ⟨rfl,below_set2 HB4.out (by omega) _ _⟩
set_option maxRecDepth 100000 in
set_option maxHeartbeats 2000000 in
theorem binary_le (x y:Num) (hx:IntT x.1) (hy:IntT y.1) (w:World) (hE:TE w):Calls Tryz.prog 29 #[.string mLe,numV x,numV y] w fun e w'=>e = .returned (.tuple #[numV (iText12,truthI (decide (asI x.2 (commI x.1 y.1) ≤ asI y.2 (commI x.1 y.1)))),.bool true]) ∧ Below w.heap.size w w':=by
 obtain ⟨hb,hX,hY,hR⟩:=three_boxes w x y ((⟨#[]⟩,0):Num)
 have t0:(mLe.toList == [38,38]) = false:=lit_eq rfl rfl
 have t1:(mLe.toList == [124,124]) = false:=lit_eq rfl rfl
 have t2:(mLe.toList == [60,60]) = false:=lit_eq rfl rfl
 have t3:(mLe.toList == [62,62]) = false:=lit_eq rfl rfl
 have hra:=asI_range x.2 (commI x.1 y.1)
 have hrb:=asI_range y.2 (commI x.1 y.1)
 have HC:=Hd (fun w hE=>(commonV_int hx hy) ▸ common_ok x.1 y.1 w hE)
 have HA1:=Hd (fun w=>as_ok x.2 (commI x.1 y.1) w)
 have HA2:=Hd (fun w=>as_ok y.2 (commI x.1 y.1) w)
 have HD:=Hd (fun w=>compared_Le (asI x.2 (commI x.1 y.1)) (asI y.2 (commI x.1 y.1)) w)
 obtain ⟨t,n⟩:=x
 obtain ⟨u,m⟩:=y
 have HB:=Hd hb
 have HR:=Hd hR
 have HX:=Hd hX
 have HY:=Hd hY
 have HE:=Hd (hE.below hb)
 clear hX hY hR hb hx hy hE
 simp only [numO] at *
 generalize commI t u = ct at *
 generalize asI n ct = an at *
 generalize asI m ct = bm at *
 generalize truthI _ = r at *
 unfold numV at *
 generalize mLe = mk at *
 go_enter Tryz.func29,Tryz.ntmps29
 go_upto_region 7 with fail
 generalize ((w.alloc (.cells #[.string t,.int .i64 n] 50)).alloc (.cells #[.string u,.int .i64 m] 50)).alloc (.cells #[.string ⟨#[]⟩,.int .i64 0] 50) = w1 at *
 obtain ⟨⟨x0,x1⟩,_⟩:=HX.out.cells
 obtain ⟨⟨y0,y1⟩,_⟩:=HY.out.cells
 have HC1:=Hd (HC.out w1 HE.out)
 go_upto_region 16 with (go_at_call 59;(with_reducible refine HC1.out.mono ?_);rintro e w2 ⟨rfl,hb2⟩;have HB2:=Hd hb2;clear hb2)
 clear x0 x1 y0 y1
 obtain ⟨⟨x0,x1⟩,_⟩:=(HX.out.below HB2.out).cells
 obtain ⟨⟨y0,y1⟩,_⟩:=(HY.out.below HB2.out).cells
 go_quiet (first | (go_at_call_of 30 n;exact Calls.quiet_of_same (HA1.out _)) | (go_at_call_of 30 m;exact Calls.quiet_of_same (HA2.out _)))
 go_upto_region 18 with (go_at_call 60;(with_reducible refine (HD.out _).mono ?_);rintro e w3 ⟨rfl,hb3⟩;have HB3:=Hd (HB2.out.trans (((Below.drewN' _ _).trans (hb3.mono (Nat.le_refl _))).mono HB2.out.size));clear hb3)
 have HV:=Hd (numAt_new w3 (iText12,r))
 have HR4:=Hd ((HR.out.below HB3.out).below (ba1 w3 (numO (iText12,r))))
 have HB4:=Hd (HB.out.trans ((HB3.out.trans ((ba1 w3 (numO (iText12,r))).mono HB3.out.size)).mono HB.out.size))
 simp only [numO] at HV HR4 HB4
 generalize w3.alloc (.cells #[.string iText12,.int .i64 r] 50) = w4 at *
 obtain ⟨⟨v0,v1⟩,_⟩:=HV.out.cells
 obtain ⟨⟨r0,r1⟩,rf⟩:=HR4.out.cells
 have f0:=rf 0
 have f1:=rf 1
 clear rf x0 x1 y0 y1
 go_wp2_with fail
 exact bodyPost_ret (v:=.tuple #[numV (iText12,r),.bool true]) (by simp [results,Tryz.results29,go_sem,r0,r1];rfl) rfl ⟨rfl,below_set2 HB4.out (by omega) _ _⟩
set_option maxRecDepth 100000 in
set_option maxHeartbeats 2000000 in
theorem binary_ge (x y:Num) (hx:IntT x.1) (hy:IntT y.1) (w:World) (hE:TE w):Calls Tryz.prog 29 #[.string mGe,numV x,numV y] w fun e w'=>e = .returned (.tuple #[numV (iText12,truthI (decide (asI y.2 (commI x.1 y.1) ≤ asI x.2 (commI x.1 y.1)))),.bool true]) ∧ Below w.heap.size w w':=by
 obtain ⟨hb,hX,hY,hR⟩:=three_boxes w x y ((⟨#[]⟩,0):Num)
 have t0:(mGe.toList == [38,38]) = false:=lit_eq rfl rfl
 have t1:(mGe.toList == [124,124]) = false:=lit_eq rfl rfl
 have t2:(mGe.toList == [60,60]) = false:=lit_eq rfl rfl
 have t3:(mGe.toList == [62,62]) = false:=lit_eq rfl rfl
 have hra:=asI_range x.2 (commI x.1 y.1)
 have hrb:=asI_range y.2 (commI x.1 y.1)
 have HC:=Hd (fun w hE=>(commonV_int hx hy) ▸ common_ok x.1 y.1 w hE)
 have HA1:=Hd (fun w=>as_ok x.2 (commI x.1 y.1) w)
 have HA2:=Hd (fun w=>as_ok y.2 (commI x.1 y.1) w)
 have HD:=Hd (fun w=>compared_Ge (asI x.2 (commI x.1 y.1)) (asI y.2 (commI x.1 y.1)) w)
 obtain ⟨t,n⟩:=x
 obtain ⟨u,m⟩:=y
 have HB:=Hd hb
 have HR:=Hd hR
 have HX:=Hd hX
 have HY:=Hd hY
 have HE:=Hd (hE.below hb)
 clear hX hY hR hb hx hy hE
 simp only [numO] at *
 generalize commI t u = ct at *
 generalize asI n ct = an at *
 generalize asI m ct = bm at *
 generalize truthI _ = r at *
 unfold numV at *
 generalize mGe = mk at *
 go_enter Tryz.func29,Tryz.ntmps29
 go_upto_region 7 with fail
 generalize ((w.alloc (.cells #[.string t,.int .i64 n] 50)).alloc (.cells #[.string u,.int .i64 m] 50)).alloc (.cells #[.string ⟨#[]⟩,.int .i64 0] 50) = w1 at *
 obtain ⟨⟨x0,x1⟩,_⟩:=HX.out.cells
 obtain ⟨⟨y0,y1⟩,_⟩:=HY.out.cells
 have HC1:=Hd (HC.out w1 HE.out)
 go_upto_region 16 with (go_at_call 59;(with_reducible refine HC1.out.mono ?_);rintro e w2 ⟨rfl,hb2⟩;have HB2:=Hd hb2;clear hb2)
 clear x0 x1 y0 y1
 obtain ⟨⟨x0,x1⟩,_⟩:=(HX.out.below HB2.out).cells
 obtain ⟨⟨y0,y1⟩,_⟩:=(HY.out.below HB2.out).cells
 go_quiet (first | (go_at_call_of 30 n;exact Calls.quiet_of_same (HA1.out _)) | (go_at_call_of 30 m;exact Calls.quiet_of_same (HA2.out _)))
 go_upto_region 18 with (go_at_call 60;(with_reducible refine (HD.out _).mono ?_);rintro e w3 ⟨rfl,hb3⟩;have HB3:=Hd (HB2.out.trans (((Below.drewN' _ _).trans (hb3.mono (Nat.le_refl _))).mono HB2.out.size));clear hb3)
 have HV:=Hd (numAt_new w3 (iText12,r))
 have HR4:=Hd ((HR.out.below HB3.out).below (ba1 w3 (numO (iText12,r))))
 have HB4:=Hd (HB.out.trans ((HB3.out.trans ((ba1 w3 (numO (iText12,r))).mono HB3.out.size)).mono HB.out.size))
 simp only [numO] at HV HR4 HB4
 generalize w3.alloc (.cells #[.string iText12,.int .i64 r] 50) = w4 at *
 obtain ⟨⟨v0,v1⟩,_⟩:=HV.out.cells
 obtain ⟨⟨r0,r1⟩,rf⟩:=HR4.out.cells
 have f0:=rf 0
 have f1:=rf 1
 clear rf x0 x1 y0 y1
 go_wp2_with fail
 exact bodyPost_ret (v:=.tuple #[numV (iText12,r),.bool true]) (by simp [results,Tryz.results29,go_sem,r0,r1];rfl) rfl ⟨rfl,below_set2 HB4.out (by omega) _ _⟩
set_option maxRecDepth 100000 in
set_option maxHeartbeats 2000000 in
theorem binary_eq (x y:Num) (hx:IntT x.1) (hy:IntT y.1) (w:World) (hE:TE w):Calls Tryz.prog 29 #[.string mEq,numV x,numV y] w fun e w'=>e = .returned (.tuple #[numV (iText12,truthI ((asI x.2 (commI x.1 y.1) == asI y.2 (commI x.1 y.1)))),.bool true]) ∧ Below w.heap.size w w':=by
 obtain ⟨hb,hX,hY,hR⟩:=three_boxes w x y ((⟨#[]⟩,0):Num)
 have t0:(mEq.toList == [38,38]) = false:=lit_eq rfl rfl
 have t1:(mEq.toList == [124,124]) = false:=lit_eq rfl rfl
 have t2:(mEq.toList == [60,60]) = false:=lit_eq rfl rfl
 have t3:(mEq.toList == [62,62]) = false:=lit_eq rfl rfl
 have hra:=asI_range x.2 (commI x.1 y.1)
 have hrb:=asI_range y.2 (commI x.1 y.1)
 have HC:=Hd (fun w hE=>(commonV_int hx hy) ▸ common_ok x.1 y.1 w hE)
 have HA1:=Hd (fun w=>as_ok x.2 (commI x.1 y.1) w)
 have HA2:=Hd (fun w=>as_ok y.2 (commI x.1 y.1) w)
 have HD:=Hd (fun w=>compared_Eq (asI x.2 (commI x.1 y.1)) (asI y.2 (commI x.1 y.1)) w)
 obtain ⟨t,n⟩:=x
 obtain ⟨u,m⟩:=y
 have HB:=Hd hb
 have HR:=Hd hR
 have HX:=Hd hX
 have HY:=Hd hY
 have HE:=Hd (hE.below hb)
 clear hX hY hR hb hx hy hE
 simp only [numO] at *
 generalize commI t u = ct at *
 generalize asI n ct = an at *
 generalize asI m ct = bm at *
 generalize truthI _ = r at *
 unfold numV at *
 generalize mEq = mk at *
 go_enter Tryz.func29,Tryz.ntmps29
 go_upto_region 7 with fail
 generalize ((w.alloc (.cells #[.string t,.int .i64 n] 50)).alloc (.cells #[.string u,.int .i64 m] 50)).alloc (.cells #[.string ⟨#[]⟩,.int .i64 0] 50) = w1 at *
 obtain ⟨⟨x0,x1⟩,_⟩:=HX.out.cells
 obtain ⟨⟨y0,y1⟩,_⟩:=HY.out.cells
 have HC1:=Hd (HC.out w1 HE.out)
 go_upto_region 16 with (go_at_call 59;(with_reducible refine HC1.out.mono ?_);rintro e w2 ⟨rfl,hb2⟩;have HB2:=Hd hb2;clear hb2)
 clear x0 x1 y0 y1
 obtain ⟨⟨x0,x1⟩,_⟩:=(HX.out.below HB2.out).cells
 obtain ⟨⟨y0,y1⟩,_⟩:=(HY.out.below HB2.out).cells
 go_quiet (first | (go_at_call_of 30 n;exact Calls.quiet_of_same (HA1.out _)) | (go_at_call_of 30 m;exact Calls.quiet_of_same (HA2.out _)))
 go_upto_region 18 with (go_at_call 60;(with_reducible refine (HD.out _).mono ?_);rintro e w3 ⟨rfl,hb3⟩;have HB3:=Hd (HB2.out.trans (((Below.drewN' _ _).trans (hb3.mono (Nat.le_refl _))).mono HB2.out.size));clear hb3)
 have HV:=Hd (numAt_new w3 (iText12,r))
 have HR4:=Hd ((HR.out.below HB3.out).below (ba1 w3 (numO (iText12,r))))
 have HB4:=Hd (HB.out.trans ((HB3.out.trans ((ba1 w3 (numO (iText12,r))).mono HB3.out.size)).mono HB.out.size))
 simp only [numO] at HV HR4 HB4
 generalize w3.alloc (.cells #[.string iText12,.int .i64 r] 50) = w4 at *
 obtain ⟨⟨v0,v1⟩,_⟩:=HV.out.cells
 obtain ⟨⟨r0,r1⟩,rf⟩:=HR4.out.cells
 have f0:=rf 0
 have f1:=rf 1
 clear rf x0 x1 y0 y1
 go_wp2_with fail
 exact bodyPost_ret (v:=.tuple #[numV (iText12,r),.bool true]) (by simp [results,Tryz.results29,go_sem,r0,r1];rfl) rfl ⟨rfl,below_set2 HB4.out (by omega) _ _⟩
set_option maxRecDepth 100000 in
set_option maxHeartbeats 2000000 in
theorem binary_ne (x y:Num) (hx:IntT x.1) (hy:IntT y.1) (w:World) (hE:TE w):Calls Tryz.prog 29 #[.string mNe,numV x,numV y] w fun e w'=>e = .returned (.tuple #[numV (iText12,truthI ((asI x.2 (commI x.1 y.1) != asI y.2 (commI x.1 y.1)))),.bool true]) ∧ Below w.heap.size w w':=by
 obtain ⟨hb,hX,hY,hR⟩:=three_boxes w x y ((⟨#[]⟩,0):Num)
 have t0:(mNe.toList == [38,38]) = false:=lit_eq rfl rfl
 have t1:(mNe.toList == [124,124]) = false:=lit_eq rfl rfl
 have t2:(mNe.toList == [60,60]) = false:=lit_eq rfl rfl
 have t3:(mNe.toList == [62,62]) = false:=lit_eq rfl rfl
 have hra:=asI_range x.2 (commI x.1 y.1)
 have hrb:=asI_range y.2 (commI x.1 y.1)
 have HC:=Hd (fun w hE=>(commonV_int hx hy) ▸ common_ok x.1 y.1 w hE)
 have HA1:=Hd (fun w=>as_ok x.2 (commI x.1 y.1) w)
 have HA2:=Hd (fun w=>as_ok y.2 (commI x.1 y.1) w)
 have HD:=Hd (fun w=>compared_Ne (asI x.2 (commI x.1 y.1)) (asI y.2 (commI x.1 y.1)) w)
 obtain ⟨t,n⟩:=x
 obtain ⟨u,m⟩:=y
 have HB:=Hd hb
 have HR:=Hd hR
 have HX:=Hd hX
 have HY:=Hd hY
 have HE:=Hd (hE.below hb)
 clear hX hY hR hb hx hy hE
 simp only [numO] at *
 generalize commI t u = ct at *
 generalize asI n ct = an at *
 generalize asI m ct = bm at *
 generalize truthI _ = r at *
 unfold numV at *
 generalize mNe = mk at *
 go_enter Tryz.func29,Tryz.ntmps29
 go_upto_region 7 with fail
 generalize ((w.alloc (.cells #[.string t,.int .i64 n] 50)).alloc (.cells #[.string u,.int .i64 m] 50)).alloc (.cells #[.string ⟨#[]⟩,.int .i64 0] 50) = w1 at *
 obtain ⟨⟨x0,x1⟩,_⟩:=HX.out.cells
 obtain ⟨⟨y0,y1⟩,_⟩:=HY.out.cells
 have HC1:=Hd (HC.out w1 HE.out)
 go_upto_region 16 with (go_at_call 59;(with_reducible refine HC1.out.mono ?_);rintro e w2 ⟨rfl,hb2⟩;have HB2:=Hd hb2;clear hb2)
 clear x0 x1 y0 y1
 obtain ⟨⟨x0,x1⟩,_⟩:=(HX.out.below HB2.out).cells
 obtain ⟨⟨y0,y1⟩,_⟩:=(HY.out.below HB2.out).cells
 go_quiet (first | (go_at_call_of 30 n;exact Calls.quiet_of_same (HA1.out _)) | (go_at_call_of 30 m;exact Calls.quiet_of_same (HA2.out _)))
 go_upto_region 18 with (go_at_call 60;(with_reducible refine (HD.out _).mono ?_);rintro e w3 ⟨rfl,hb3⟩;have HB3:=Hd (HB2.out.trans (((Below.drewN' _ _).trans (hb3.mono (Nat.le_refl _))).mono HB2.out.size));clear hb3)
 have HV:=Hd (numAt_new w3 (iText12,r))
 have HR4:=Hd ((HR.out.below HB3.out).below (ba1 w3 (numO (iText12,r))))
 have HB4:=Hd (HB.out.trans ((HB3.out.trans ((ba1 w3 (numO (iText12,r))).mono HB3.out.size)).mono HB.out.size))
 simp only [numO] at HV HR4 HB4
 generalize w3.alloc (.cells #[.string iText12,.int .i64 r] 50) = w4 at *
 obtain ⟨⟨v0,v1⟩,_⟩:=HV.out.cells
 obtain ⟨⟨r0,r1⟩,rf⟩:=HR4.out.cells
 have f0:=rf 0
 have f1:=rf 1
 clear rf x0 x1 y0 y1
 go_wp2_with fail
 exact bodyPost_ret (v:=.tuple #[numV (iText12,r),.bool true]) (by simp [results,Tryz.results29,go_sem,r0,r1];rfl) rfl ⟨rfl,below_set2 HB4.out (by omega) _ _⟩
end Go.Proofs.YtlcfejgjeljjdaaGreatDoor
