/- Two numbers: shifts, both and either: the program -/
import Derived.Test.YtlcfejgjeljjdaaGreatDoorFoldC
import Derived.Deep.RegionHeld3
import Derived.Deep.DeepCutAuto
namespace Go.Proofs.YtlcfejgjeljjdaaGreatDoor
open Go.RowKit
theorem three_boxes (w:World) (a b r:Num):Below w.heap.size w (((w.alloc (numO a)).alloc (numO b)).alloc (numO r)) ∧ NumAt (((w.alloc (numO a)).alloc (numO b)).alloc (numO r)) w.heap.size a ∧ NumAt (((w.alloc (numO a)).alloc (numO b)).alloc (numO r)) (w.heap.size + 1) b ∧ NumAt (((w.alloc (numO a)).alloc (numO b)).alloc (numO r)) (w.heap.size + 1 + 1) r:=by
 obtain ⟨h1,h2,h3⟩:=two_boxes w a b
 have hR:=numAt_new ((w.alloc (numO a)).alloc (numO b)) r
 rw [show ((w.alloc (numO a)).alloc (numO b)).heap.size = w.heap.size + 1 + 1 by simp] at hR
 have hb:=ba1 ((w.alloc (numO a)).alloc (numO b)) (numO r)
 exact ⟨h1.trans (hb.mono h1.size),h2.below hb,h3.below hb,hR⟩
theorem mod_twice (n:Int):n % 4294967296 % 4294967296 = n % 4294967296:=Int.emod_emod_of_dvd _ (Int.dvd_refl _)
theorem shl_words (a y:Int):shlW (a % 4294967296) (y % 4294967296) = shlW a y:=by unfold shlW;rw [mod_twice,mod_twice]
theorem shru_words (a y:Int):shruW (a % 4294967296) (y % 4294967296) = shruW a y:=by unfold shruW;rw [mod_twice,mod_twice]
theorem sgn32_word (a:Int):sgnI 32 (a % 4294967296) = sgnI 32 a:=by rw [sgn32,sgn32];omega
theorem shrs_words (a y:Int):shrsW (a % 4294967296) (y % 4294967296) = shrsW a y:=by unfold shrsW;rw [sgn32_word,mod_twice]
theorem shl_range (a y:Int):0 ≤ shlW a y ∧ shlW a y < 4294967296:=by unfold shlW;omega
theorem shrs_range (a y:Int):0 ≤ shrsW a y ∧ shrsW a y < 4294967296:=by unfold shrsW;omega
theorem shru_range (a y:Int):0 ≤ shruW a y ∧ shruW a y < 4294967296:=by
 unfold shruW
 have h:(0:Int) < 2 ^ ((y % 4294967296) % 32).toNat:=Int.pow_pos (by decide)
 have h0:0 ≤ a % 4294967296 ∧ a % 4294967296 < 4294967296:=by omega
 exact ⟨Int.ediv_nonneg h0.1 (Int.le_of_lt h),Int.lt_of_le_of_lt (Int.ediv_le_self _ h0.1) h0.2⟩
set_option maxRecDepth 100000 in
set_option maxHeartbeats 2000000 in
theorem binary_shl (x y:Num) (hx:IntT x.1) (w:World) (hE:TE w):Calls Tryz.prog 29 #[.string mShl,numV x,numV y] w fun e w'=>e = .returned (.tuple #[numV (promI x.1,asI (shlW (asI x.2 (promI x.1)) y.2) (promI x.1)),.bool true]) ∧ Below w.heap.size w w':=by
 obtain ⟨hb,hX,hY,hR⟩:=three_boxes w x y ((⟨#[]⟩,0):Num)
 have t0:(mShl.toList == [38,38]) = false:=lit_eq rfl rfl
 have t1:(mShl.toList == [124,124]) = false:=lit_eq rfl rfl
 have t2:(mShl.toList == [60,60]) = true:=lit_eq rfl rfl
 have t3:(mShl.toList == [62,62]) = false:=lit_eq rfl rfl
 have HP:=Hd (fun w hE=>promoted_ok x hx w hE)
 obtain ⟨t,n⟩:=x
 obtain ⟨u,m⟩:=y
 simp only at hx ⊢
 generalize hpt:promI t = pt at *
 generalize hpn:asI n pt = pn at *
 have hm1:0 ≤ m % 4294967296 ∧ m % 4294967296 < 4294967296:=by omega
 have hm2:0 ≤ pn % 4294967296 ∧ pn % 4294967296 < 4294967296:=by omega
 have hsr:=shl_range pn m
 have HW1:=Hd (fun w=>wof_ok m w)
 have HW2:=Hd (fun w=>wof_ok pn w)
 have HS:=Hd (fun w=>shl_words pn m ▸ wshl_ok (pn % 4294967296) (m % 4294967296) w hm2 hm1)
 have HA:=Hd (fun w=>as_ok (shlW pn m) pt w)
 have HB:=Hd hb
 have HR:=Hd hR
 have HX:=Hd hX
 have HY:=Hd hY
 have HE:=Hd (hE.below hb)
 unfold numV at HP ⊢
 clear hX hY hR hb hx hE hpt hpn hm1 hm2
 simp only [numO] at HR HX HY HB HP HE ⊢
 generalize mShl = mk at *
 generalize shlW pn m = sh at *
 have hsw:IntKind.i64.wrap sh = sh:=by rw [IntKind.wrap_i64];omega
 generalize asI sh pt = r at *
 go_enter Tryz.func29,Tryz.ntmps29
 go_upto_region 7 with fail
 generalize ((w.alloc (.cells #[.string t,.int .i64 n] 50)).alloc (.cells #[.string u,.int .i64 m] 50)).alloc (.cells #[.string ⟨#[]⟩,.int .i64 0] 50) = w1 at *
 have HCl:=Hd (fun w' (h:Below w1.heap.size w1 w')=>show w'.cell? ⟨w.heap.size,0,none⟩ = some (.string t) ∧ w'.cell? ⟨w.heap.size,1,none⟩ = some (.int .i64 n) ∧ w'.cell? ⟨w.heap.size + 1,1,none⟩ = some (.int .i64 m) from ⟨(HX.out.below h).cells.1.1,(HX.out.below h).cells.1.2,(HY.out.below h).cells.1.2⟩)
 obtain ⟨x0,x1,y1⟩:=HCl.out w1 (Below.refl _ _)
 have hz:=numAt_new w1 ((⟨#[]⟩,0):Num)
 simp only [numO] at hz
 have HZ:=Hd hz
 have HP1:=Hd (HP.out w1.drew (HE.out.below (Below.refl _ _).drew))
 have HP2:=Hd (HP.out (w1.alloc (.cells #[.string ⟨#[]⟩,.int .i64 0] 50)).drew (HE.out.below ((Below.refl _ _).alloc (Nat.le_refl _) _).drew))
 clear hz
 go_upto_region 8 with fail
 go_cut [8,9] (fun s8 s9 wx=>Hid (∃ q,s8 = .pointer (some ⟨q,0,none⟩) ∧ s9 = .int .u32 (m % 4294967296) ∧ NumAt wx q (pt,pn) ∧ NumAt wx (w.heap.size + 1 + 1) (⟨#[]⟩,0) ∧ Below w.heap.size w wx))
 case first=>
  go_region_held3 (fun w'=>w'.cell? ⟨w.heap.size,0,none⟩ = some (.string t) ∧ w'.cell? ⟨w.heap.size,1,none⟩ = some (.int .i64 n) ∧ w'.cell? ⟨w.heap.size + 1,1,none⟩ = some (.int .i64 m))
   ((refine HCl.out _ ?_;first | exact (Below.refl _ _).drew | exact ((Below.refl _ _).alloc (Nat.le_refl _) _).drew | exact (HB2).out | (have hq:=HB2;exact hq.out.alloc hq.out.size _) | (have hq:=HB2;exact below_set2 hq.out (Nat.le_refl _) _ _)))
   (first
     | (go_at_call 54;(with_reducible refine HP1.out.mono ?_);rintro e w2 ⟨rfl,hb2⟩;have HB2:=Hd (show Below w1.heap.size w1 w2 from (Below.refl _ _).drew.trans (hb2.mono (Nat.le_refl _)));clear hb2)
     | (go_at_call 54;(with_reducible refine HP2.out.mono ?_);rintro e w2 ⟨rfl,hb2⟩;have HB2:=Hd (show Below w1.heap.size w1 w2 from ((Below.refl _ _).alloc (Nat.le_refl _) _).drew.trans (hb2.mono (by simp)));have hqn:=(show NumAt w2 w1.heap.size _ from (HZ.out.below (Below.refl _ _).drew).below hb2);have HQ:=Hd hqn;obtain ⟨⟨q0,q1⟩,qf⟩:=hqn.cells;have qf0:=qf 0;have qf1:=qf 1;clear hb2 qf hqn)
     | (go_at_call 55;(with_reducible refine (HW1.out _).mono ?_);rintro e w3 ⟨rfl,rfl⟩))
  all_goals go_wp2_with fail
  all_goals go_meet
  all_goals refine Hd ⟨_,rfl,rfl,?_,?_,?_⟩
  ·exact numAt_new _ (pt,pn)
  ·exact (HR.out.below HB2.out).below (ba1 _ _)
  ·exact (HB.out.trans (HB2.out.mono HB.out.size)).alloc (Nat.le_trans HB.out.size HB2.out.size) _
  ·exact numAt_new _ (pt,pn)
  ·exact (HR.out.below HB2.out).below (ba1 _ _)
  ·exact (HB.out.trans (HB2.out.mono HB.out.size)).alloc (Nat.le_trans HB.out.size HB2.out.size) _
  ·exact HQ.out.set (pt,pn)
  ·exact (HR.out.below HB2.out).other (Nat.ne_of_lt HR.out.lt) _ _
  ·exact below_set2 (HB.out.trans (HB2.out.mono HB.out.size)) HB.out.size _ _
 case rest=>
  obtain ⟨q,rfl,rfl,hq,hr,hbc⟩:=hcut.out
  have HQ:=Hd hq
  obtain ⟨⟨q0,q1⟩,_⟩:=hq.cells
  obtain ⟨⟨r0,r1⟩,rf⟩:=hr.cells
  have f0:=rf 0
  have f1:=rf 1
  have HBc:=Hd hbc
  clear hq hr hbc rf hcut
  go_wp2_with (first | (go_at_call 55;(with_reducible refine (HW2.out _).mono ?_);rintro e w5 ⟨rfl,rfl⟩) | (go_at_call 56;(with_reducible refine (HS.out _).mono ?_);rintro e w5 ⟨rfl,rfl⟩))
  go_region_with (go_at_call 30;(with_reducible refine (HA.out _).mono ?_);rintro e w6 ⟨rfl,rfl⟩)
  all_goals
   go_wp2_with fail
   exact bodyPost_ret (v:=.tuple #[numV (pt,r),.bool true]) (by simp [results,Tryz.results29,go_sem,r0,r1];rfl) rfl ⟨rfl,(below_set2 HBc.out (by omega) _ _).drew⟩
set_option maxRecDepth 100000 in
set_option maxHeartbeats 2000000 in
theorem binary_shru (x y:Num) (hx:IntT x.1) (hpi:promI x.1 = uText12) (w:World) (hE:TE w):Calls Tryz.prog 29 #[.string mShr,numV x,numV y] w fun e w'=>e = .returned (.tuple #[numV (promI x.1,asI (shruW (asI x.2 (promI x.1)) y.2) (promI x.1)),.bool true]) ∧ Below w.heap.size w w':=by
 obtain ⟨hb,hX,hY,hR⟩:=three_boxes w x y ((⟨#[]⟩,0):Num)
 have t0:(mShr.toList == [38,38]) = false:=lit_eq rfl rfl
 have t1:(mShr.toList == [124,124]) = false:=lit_eq rfl rfl
 have t2:(mShr.toList == [60,60]) = false:=lit_eq rfl rfl
 have t3:(mShr.toList == [62,62]) = true:=lit_eq rfl rfl
 have HP:=Hd (fun w hE=>promoted_ok x hx w hE)
 obtain ⟨t,n⟩:=x
 obtain ⟨u,m⟩:=y
 simp only at hx hpi ⊢
 have tp:((promI t).toList == [105]) = false:=by rw [hpi];exact lit_eq rfl rfl
 generalize hpt:promI t = pt at *
 generalize hpn:asI n pt = pn at *
 have hm1:0 ≤ m % 4294967296 ∧ m % 4294967296 < 4294967296:=by omega
 have hm2:0 ≤ pn % 4294967296 ∧ pn % 4294967296 < 4294967296:=by omega
 have hsr:=shru_range pn m
 have HW1:=Hd (fun w=>wof_ok m w)
 have HW2:=Hd (fun w=>wof_ok pn w)
 have HS:=Hd (fun w=>shl_words pn m ▸ wshl_ok (pn % 4294967296) (m % 4294967296) w hm2 hm1)
 have HSu:=Hd (fun w=>shru_words pn m ▸ wshru_ok (pn % 4294967296) (m % 4294967296) w hm2 hm1)
 have HA:=Hd (fun w=>as_ok (shruW pn m) pt w)
 have HB:=Hd hb
 have HR:=Hd hR
 have HX:=Hd hX
 have HY:=Hd hY
 have HE:=Hd (hE.below hb)
 unfold numV at HP ⊢
 clear hX hY hR hb hx hE hpt hpn hm1 hm2 hpi
 simp only [numO] at HR HX HY HB HP HE ⊢
 generalize mShr = mk at *
 generalize shruW pn m = sh at *
 have hsw:IntKind.i64.wrap sh = sh:=by rw [IntKind.wrap_i64];omega
 generalize asI sh pt = r at *
 go_enter Tryz.func29,Tryz.ntmps29
 go_upto_region 7 with fail
 generalize ((w.alloc (.cells #[.string t,.int .i64 n] 50)).alloc (.cells #[.string u,.int .i64 m] 50)).alloc (.cells #[.string ⟨#[]⟩,.int .i64 0] 50) = w1 at *
 have HCl:=Hd (fun w' (h:Below w1.heap.size w1 w')=>show w'.cell? ⟨w.heap.size,0,none⟩ = some (.string t) ∧ w'.cell? ⟨w.heap.size,1,none⟩ = some (.int .i64 n) ∧ w'.cell? ⟨w.heap.size + 1,1,none⟩ = some (.int .i64 m) from ⟨(HX.out.below h).cells.1.1,(HX.out.below h).cells.1.2,(HY.out.below h).cells.1.2⟩)
 obtain ⟨x0,x1,y1⟩:=HCl.out w1 (Below.refl _ _)
 have hz:=numAt_new w1 ((⟨#[]⟩,0):Num)
 simp only [numO] at hz
 have HZ:=Hd hz
 have HP1:=Hd (HP.out w1.drew (HE.out.below (Below.refl _ _).drew))
 have HP2:=Hd (HP.out (w1.alloc (.cells #[.string ⟨#[]⟩,.int .i64 0] 50)).drew (HE.out.below ((Below.refl _ _).alloc (Nat.le_refl _) _).drew))
 clear hz
 go_upto_region 8 with fail
 go_cut [8,9] (fun s8 s9 wx=>Hid (∃ q,s8 = .pointer (some ⟨q,0,none⟩) ∧ s9 = .int .u32 (m % 4294967296) ∧ NumAt wx q (pt,pn) ∧ NumAt wx (w.heap.size + 1 + 1) (⟨#[]⟩,0) ∧ Below w.heap.size w wx))
 case first=>
  go_region_held3 (fun w'=>w'.cell? ⟨w.heap.size,0,none⟩ = some (.string t) ∧ w'.cell? ⟨w.heap.size,1,none⟩ = some (.int .i64 n) ∧ w'.cell? ⟨w.heap.size + 1,1,none⟩ = some (.int .i64 m))
   ((refine HCl.out _ ?_;first | exact (Below.refl _ _).drew | exact ((Below.refl _ _).alloc (Nat.le_refl _) _).drew | exact (HB2).out | (have hq:=HB2;exact hq.out.alloc hq.out.size _) | (have hq:=HB2;exact below_set2 hq.out (Nat.le_refl _) _ _)))
   (first
     | (go_at_call 54;(with_reducible refine HP1.out.mono ?_);rintro e w2 ⟨rfl,hb2⟩;have HB2:=Hd (show Below w1.heap.size w1 w2 from (Below.refl _ _).drew.trans (hb2.mono (Nat.le_refl _)));clear hb2)
     | (go_at_call 54;(with_reducible refine HP2.out.mono ?_);rintro e w2 ⟨rfl,hb2⟩;have HB2:=Hd (show Below w1.heap.size w1 w2 from ((Below.refl _ _).alloc (Nat.le_refl _) _).drew.trans (hb2.mono (by simp)));have hqn:=(show NumAt w2 w1.heap.size _ from (HZ.out.below (Below.refl _ _).drew).below hb2);have HQ:=Hd hqn;obtain ⟨⟨q0,q1⟩,qf⟩:=hqn.cells;have qf0:=qf 0;have qf1:=qf 1;clear hb2 qf hqn)
     | (go_at_call 55;(with_reducible refine (HW1.out _).mono ?_);rintro e w3 ⟨rfl,rfl⟩))
  all_goals go_wp2_with fail
  all_goals go_meet
  all_goals refine Hd ⟨_,rfl,rfl,?_,?_,?_⟩
  ·exact numAt_new _ (pt,pn)
  ·exact (HR.out.below HB2.out).below (ba1 _ _)
  ·exact (HB.out.trans (HB2.out.mono HB.out.size)).alloc (Nat.le_trans HB.out.size HB2.out.size) _
  ·exact numAt_new _ (pt,pn)
  ·exact (HR.out.below HB2.out).below (ba1 _ _)
  ·exact (HB.out.trans (HB2.out.mono HB.out.size)).alloc (Nat.le_trans HB.out.size HB2.out.size) _
  ·exact HQ.out.set (pt,pn)
  ·exact (HR.out.below HB2.out).other (Nat.ne_of_lt HR.out.lt) _ _
  ·exact below_set2 (HB.out.trans (HB2.out.mono HB.out.size)) HB.out.size _ _
 case rest=>
  obtain ⟨q,rfl,rfl,hq,hr,hbc⟩:=hcut.out
  have HQ:=Hd hq
  obtain ⟨⟨q0,q1⟩,_⟩:=hq.cells
  obtain ⟨⟨r0,r1⟩,rf⟩:=hr.cells
  have f0:=rf 0
  have f1:=rf 1
  have HBc:=Hd hbc
  clear hq hr hbc rf hcut
  go_wp2_with (first | (go_at_call 55;(with_reducible refine (HW2.out _).mono ?_);rintro e w5 ⟨rfl,rfl⟩) | (go_at_call 56;(with_reducible refine (HS.out _).mono ?_);rintro e w5 ⟨rfl,rfl⟩) | (go_at_call 57;(with_reducible refine (HSu.out _).mono ?_);rintro e w5 ⟨rfl,rfl⟩))
  go_region_with (go_at_call 30;(with_reducible refine (HA.out _).mono ?_);rintro e w6 ⟨rfl,rfl⟩)
  all_goals
   go_wp2_with fail
   exact bodyPost_ret (v:=.tuple #[numV (pt,r),.bool true]) (by simp [results,Tryz.results29,go_sem,r0,r1];rfl) rfl ⟨rfl,(below_set2 HBc.out (by omega) _ _).drew⟩
set_option maxRecDepth 100000 in
set_option maxHeartbeats 2000000 in
theorem binary_shrs (x y:Num) (hx:IntT x.1) (hpi:promI x.1 = iText12) (w:World) (hE:TE w):Calls Tryz.prog 29 #[.string mShr,numV x,numV y] w fun e w'=>e = .returned (.tuple #[numV (promI x.1,asI (shrsW (asI x.2 (promI x.1)) y.2) (promI x.1)),.bool true]) ∧ Below w.heap.size w w':=by
 obtain ⟨hb,hX,hY,hR⟩:=three_boxes w x y ((⟨#[]⟩,0):Num)
 have t0:(mShr.toList == [38,38]) = false:=lit_eq rfl rfl
 have t1:(mShr.toList == [124,124]) = false:=lit_eq rfl rfl
 have t2:(mShr.toList == [60,60]) = false:=lit_eq rfl rfl
 have t3:(mShr.toList == [62,62]) = true:=lit_eq rfl rfl
 have HP:=Hd (fun w hE=>promoted_ok x hx w hE)
 obtain ⟨t,n⟩:=x
 obtain ⟨u,m⟩:=y
 simp only at hx hpi ⊢
 have tp:((promI t).toList == [105]) = true:=by rw [hpi];exact lit_eq rfl rfl
 generalize hpt:promI t = pt at *
 generalize hpn:asI n pt = pn at *
 have hm1:0 ≤ m % 4294967296 ∧ m % 4294967296 < 4294967296:=by omega
 have hm2:0 ≤ pn % 4294967296 ∧ pn % 4294967296 < 4294967296:=by omega
 have hsr:=shrs_range pn m
 have HW1:=Hd (fun w=>wof_ok m w)
 have HW2:=Hd (fun w=>wof_ok pn w)
 have HS:=Hd (fun w=>shl_words pn m ▸ wshl_ok (pn % 4294967296) (m % 4294967296) w hm2 hm1)
 have HSu:=Hd (fun w=>shru_words pn m ▸ wshru_ok (pn % 4294967296) (m % 4294967296) w hm2 hm1)
 have HSs:=Hd (fun w=>shrs_words pn m ▸ wshr_ok (pn % 4294967296) (m % 4294967296) w hm1)
 have HA:=Hd (fun w=>as_ok (shrsW pn m) pt w)
 have HB:=Hd hb
 have HR:=Hd hR
 have HX:=Hd hX
 have HY:=Hd hY
 have HE:=Hd (hE.below hb)
 unfold numV at HP ⊢
 clear hX hY hR hb hx hE hpt hpn hm1 hm2 hpi
 simp only [numO] at HR HX HY HB HP HE ⊢
 generalize mShr = mk at *
 generalize shrsW pn m = sh at *
 have hsw:IntKind.i64.wrap sh = sh:=by rw [IntKind.wrap_i64];omega
 generalize asI sh pt = r at *
 go_enter Tryz.func29,Tryz.ntmps29
 go_upto_region 7 with fail
 generalize ((w.alloc (.cells #[.string t,.int .i64 n] 50)).alloc (.cells #[.string u,.int .i64 m] 50)).alloc (.cells #[.string ⟨#[]⟩,.int .i64 0] 50) = w1 at *
 have HCl:=Hd (fun w' (h:Below w1.heap.size w1 w')=>show w'.cell? ⟨w.heap.size,0,none⟩ = some (.string t) ∧ w'.cell? ⟨w.heap.size,1,none⟩ = some (.int .i64 n) ∧ w'.cell? ⟨w.heap.size + 1,1,none⟩ = some (.int .i64 m) from ⟨(HX.out.below h).cells.1.1,(HX.out.below h).cells.1.2,(HY.out.below h).cells.1.2⟩)
 obtain ⟨x0,x1,y1⟩:=HCl.out w1 (Below.refl _ _)
 have hz:=numAt_new w1 ((⟨#[]⟩,0):Num)
 simp only [numO] at hz
 have HZ:=Hd hz
 have HP1:=Hd (HP.out w1.drew (HE.out.below (Below.refl _ _).drew))
 have HP2:=Hd (HP.out (w1.alloc (.cells #[.string ⟨#[]⟩,.int .i64 0] 50)).drew (HE.out.below ((Below.refl _ _).alloc (Nat.le_refl _) _).drew))
 clear hz
 go_upto_region 8 with fail
 go_cut [8,9] (fun s8 s9 wx=>Hid (∃ q,s8 = .pointer (some ⟨q,0,none⟩) ∧ s9 = .int .u32 (m % 4294967296) ∧ NumAt wx q (pt,pn) ∧ NumAt wx (w.heap.size + 1 + 1) (⟨#[]⟩,0) ∧ Below w.heap.size w wx))
 case first=>
  go_region_held3 (fun w'=>w'.cell? ⟨w.heap.size,0,none⟩ = some (.string t) ∧ w'.cell? ⟨w.heap.size,1,none⟩ = some (.int .i64 n) ∧ w'.cell? ⟨w.heap.size + 1,1,none⟩ = some (.int .i64 m))
   ((refine HCl.out _ ?_;first | exact (Below.refl _ _).drew | exact ((Below.refl _ _).alloc (Nat.le_refl _) _).drew | exact (HB2).out | (have hq:=HB2;exact hq.out.alloc hq.out.size _) | (have hq:=HB2;exact below_set2 hq.out (Nat.le_refl _) _ _)))
   (first
     | (go_at_call 54;(with_reducible refine HP1.out.mono ?_);rintro e w2 ⟨rfl,hb2⟩;have HB2:=Hd (show Below w1.heap.size w1 w2 from (Below.refl _ _).drew.trans (hb2.mono (Nat.le_refl _)));clear hb2)
     | (go_at_call 54;(with_reducible refine HP2.out.mono ?_);rintro e w2 ⟨rfl,hb2⟩;have HB2:=Hd (show Below w1.heap.size w1 w2 from ((Below.refl _ _).alloc (Nat.le_refl _) _).drew.trans (hb2.mono (by simp)));have hqn:=(show NumAt w2 w1.heap.size _ from (HZ.out.below (Below.refl _ _).drew).below hb2);have HQ:=Hd hqn;obtain ⟨⟨q0,q1⟩,qf⟩:=hqn.cells;have qf0:=qf 0;have qf1:=qf 1;clear hb2 qf hqn)
     | (go_at_call 55;(with_reducible refine (HW1.out _).mono ?_);rintro e w3 ⟨rfl,rfl⟩))
  all_goals go_wp2_with fail
  all_goals go_meet
  all_goals refine Hd ⟨_,rfl,rfl,?_,?_,?_⟩
  ·exact numAt_new _ (pt,pn)
  ·exact (HR.out.below HB2.out).below (ba1 _ _)
  ·exact (HB.out.trans (HB2.out.mono HB.out.size)).alloc (Nat.le_trans HB.out.size HB2.out.size) _
  ·exact numAt_new _ (pt,pn)
  ·exact (HR.out.below HB2.out).below (ba1 _ _)
  ·exact (HB.out.trans (HB2.out.mono HB.out.size)).alloc (Nat.le_trans HB.out.size HB2.out.size) _
  ·exact HQ.out.set (pt,pn)
  ·exact (HR.out.below HB2.out).other (Nat.ne_of_lt HR.out.lt) _ _
  ·exact below_set2 (HB.out.trans (HB2.out.mono HB.out.size)) HB.out.size _ _
 case rest=>
  obtain ⟨q,rfl,rfl,hq,hr,hbc⟩:=hcut.out
  have HQ:=Hd hq
  obtain ⟨⟨q0,q1⟩,_⟩:=hq.cells
  obtain ⟨⟨r0,r1⟩,rf⟩:=hr.cells
  have f0:=rf 0
  have f1:=rf 1
  have HBc:=Hd hbc
  clear hq hr hbc rf hcut
  go_wp2_with (first | (go_at_call 55;(with_reducible refine (HW2.out _).mono ?_);rintro e w5 ⟨rfl,rfl⟩) | (go_at_call 56;(with_reducible refine (HS.out _).mono ?_);rintro e w5 ⟨rfl,rfl⟩) | (go_at_call 57;(with_reducible refine (HSu.out _).mono ?_);rintro e w5 ⟨rfl,rfl⟩) | (go_at_call 58;(with_reducible refine (HSs.out _).mono ?_);rintro e w5 ⟨rfl,rfl⟩))
  go_region_with (go_at_call 30;(with_reducible refine (HA.out _).mono ?_);rintro e w6 ⟨rfl,rfl⟩)
  all_goals
   go_wp2_with fail
   exact bodyPost_ret (v:=.tuple #[numV (pt,r),.bool true]) (by simp [results,Tryz.results29,go_sem,r0,r1];rfl) rfl ⟨rfl,(below_set2 HBc.out (by omega) _ _).drew⟩
set_option maxRecDepth 100000 in
set_option maxHeartbeats 2000000 in
theorem binary_both0 (x y:Num) (hz:x.2 = 0) (w:World):Calls Tryz.prog 29 #[.string mAnd2,numV x,numV y] w fun e w'=>e = .returned (.tuple #[numV (iText12,truthI (decide (x.2 ≠ 0) && decide (y.2 ≠ 0))),.bool true]) ∧ Below w.heap.size w w':=by
 obtain ⟨hb,hX,hY,hR⟩:=three_boxes w x y ((⟨#[]⟩,0):Num)
 have t0:(mAnd2.toList == [38,38]) = true:=lit_eq rfl rfl
 have hzb:(x.2 != 0) = false:=by simpa using hz
 have hd:(decide (x.2 ≠ 0) && decide (y.2 ≠ 0)) = false:=by rw [Bool.eq_iff_iff];simp [hz]
 rw [hd]
 have HT:=Hd (fun w=>truth_ok false w)
 obtain ⟨t,n⟩:=x
 obtain ⟨u,m⟩:=y
 simp only at hzb HT ⊢
 clear hd hz
 generalize truthI _ = r at *
 have HB:=Hd hb
 have HR:=Hd hR
 have HX:=Hd hX
 have HY:=Hd hY
 unfold numV at HT ⊢
 clear hX hY hR hb
 simp only [numO] at HR HX HY HB HT ⊢
 generalize mAnd2 = mk at *
 go_enter Tryz.func29,Tryz.ntmps29
 go_upto_region 1 with fail
 generalize ((w.alloc (.cells #[.string t,.int .i64 n] 50)).alloc (.cells #[.string u,.int .i64 m] 50)).alloc (.cells #[.string ⟨#[]⟩,.int .i64 0] 50) = w1 at *
 obtain ⟨⟨_,x1⟩,_⟩:=HX.out.cells
 obtain ⟨⟨_,y1⟩,_⟩:=HY.out.cells
 have HT1:=Hd (HT.out w1)
 go_wp2_with (go_at_call 53;(with_reducible refine HT1.out.mono ?_);rintro e w2 ⟨rfl,hb2⟩;have HB2:=Hd hb2;clear hb2;obtain ⟨⟨r0,r1⟩,rf⟩:=(HR.out.below HB2.out).cells;have f0:=rf 0;have f1:=rf 1;clear rf)
 exact bodyPost_ret (v:=.tuple #[numV (iText12,r),.bool true]) (by simp [results,Tryz.results29,go_sem,r0,r1];rfl) rfl ⟨rfl,below_set2 (HB.out.trans (HB2.out.mono HB.out.size)) (by omega) _ _⟩
set_option maxRecDepth 100000 in
set_option maxHeartbeats 2000000 in
theorem binary_both1 (x y:Num) (hz:x.2 ≠ 0) (w:World):Calls Tryz.prog 29 #[.string mAnd2,numV x,numV y] w fun e w'=>e = .returned (.tuple #[numV (iText12,truthI (decide (x.2 ≠ 0) && decide (y.2 ≠ 0))),.bool true]) ∧ Below w.heap.size w w':=by
 obtain ⟨hb,hX,hY,hR⟩:=three_boxes w x y ((⟨#[]⟩,0):Num)
 have t0:(mAnd2.toList == [38,38]) = true:=lit_eq rfl rfl
 have hzb:(x.2 != 0) = true:=by simpa using hz
 have hd:(decide (x.2 ≠ 0) && decide (y.2 ≠ 0)) = (y.2 != 0):=by rw [Bool.eq_iff_iff];simp [hz]
 rw [hd]
 have HT:=Hd (fun w=>truth_ok (y.2 != 0) w)
 obtain ⟨t,n⟩:=x
 obtain ⟨u,m⟩:=y
 simp only at hzb HT ⊢
 clear hd hz
 generalize truthI _ = r at *
 have HB:=Hd hb
 have HR:=Hd hR
 have HX:=Hd hX
 have HY:=Hd hY
 unfold numV at HT ⊢
 clear hX hY hR hb
 simp only [numO] at HR HX HY HB HT ⊢
 generalize mAnd2 = mk at *
 go_enter Tryz.func29,Tryz.ntmps29
 go_upto_region 1 with fail
 generalize ((w.alloc (.cells #[.string t,.int .i64 n] 50)).alloc (.cells #[.string u,.int .i64 m] 50)).alloc (.cells #[.string ⟨#[]⟩,.int .i64 0] 50) = w1 at *
 obtain ⟨⟨_,x1⟩,_⟩:=HX.out.cells
 obtain ⟨⟨_,y1⟩,_⟩:=HY.out.cells
 have HT1:=Hd (HT.out w1)
 go_wp2_with (go_at_call 53;(with_reducible refine HT1.out.mono ?_);rintro e w2 ⟨rfl,hb2⟩;have HB2:=Hd hb2;clear hb2;obtain ⟨⟨r0,r1⟩,rf⟩:=(HR.out.below HB2.out).cells;have f0:=rf 0;have f1:=rf 1;clear rf)
 exact bodyPost_ret (v:=.tuple #[numV (iText12,r),.bool true]) (by simp [results,Tryz.results29,go_sem,r0,r1];rfl) rfl ⟨rfl,below_set2 (HB.out.trans (HB2.out.mono HB.out.size)) (by omega) _ _⟩
set_option maxRecDepth 100000 in
set_option maxHeartbeats 2000000 in
theorem binary_either0 (x y:Num) (hz:x.2 = 0) (w:World):Calls Tryz.prog 29 #[.string mOr2,numV x,numV y] w fun e w'=>e = .returned (.tuple #[numV (iText12,truthI (decide (x.2 ≠ 0) || decide (y.2 ≠ 0))),.bool true]) ∧ Below w.heap.size w w':=by
 obtain ⟨hb,hX,hY,hR⟩:=three_boxes w x y ((⟨#[]⟩,0):Num)
 have t0:(mOr2.toList == [38,38]) = false:=lit_eq rfl rfl
 have t1:(mOr2.toList == [124,124]) = true:=lit_eq rfl rfl
 have hzb:(x.2 != 0) = false:=by simpa using hz
 have hd:(decide (x.2 ≠ 0) || decide (y.2 ≠ 0)) = (y.2 != 0):=by rw [Bool.eq_iff_iff];simp [hz]
 rw [hd]
 have HT:=Hd (fun w=>truth_ok (y.2 != 0) w)
 obtain ⟨t,n⟩:=x
 obtain ⟨u,m⟩:=y
 simp only at hzb HT ⊢
 clear hd hz
 generalize truthI _ = r at *
 have HB:=Hd hb
 have HR:=Hd hR
 have HX:=Hd hX
 have HY:=Hd hY
 unfold numV at HT ⊢
 clear hX hY hR hb
 simp only [numO] at HR HX HY HB HT ⊢
 generalize mOr2 = mk at *
 go_enter Tryz.func29,Tryz.ntmps29
 go_upto_region 1 with fail
 generalize ((w.alloc (.cells #[.string t,.int .i64 n] 50)).alloc (.cells #[.string u,.int .i64 m] 50)).alloc (.cells #[.string ⟨#[]⟩,.int .i64 0] 50) = w1 at *
 obtain ⟨⟨_,x1⟩,_⟩:=HX.out.cells
 obtain ⟨⟨_,y1⟩,_⟩:=HY.out.cells
 have HT1:=Hd (HT.out w1)
 go_wp2_with (go_at_call 53;(with_reducible refine HT1.out.mono ?_);rintro e w2 ⟨rfl,hb2⟩;have HB2:=Hd hb2;clear hb2;obtain ⟨⟨r0,r1⟩,rf⟩:=(HR.out.below HB2.out).cells;have f0:=rf 0;have f1:=rf 1;clear rf)
 exact bodyPost_ret (v:=.tuple #[numV (iText12,r),.bool true]) (by simp [results,Tryz.results29,go_sem,r0,r1];rfl) rfl ⟨rfl,below_set2 (HB.out.trans (HB2.out.mono HB.out.size)) (by omega) _ _⟩
set_option maxRecDepth 100000 in
set_option maxHeartbeats 2000000 in
theorem binary_either1 (x y:Num) (hz:x.2 ≠ 0) (w:World):Calls Tryz.prog 29 #[.string mOr2,numV x,numV y] w fun e w'=>e = .returned (.tuple #[numV (iText12,truthI (decide (x.2 ≠ 0) || decide (y.2 ≠ 0))),.bool true]) ∧ Below w.heap.size w w':=by
 obtain ⟨hb,hX,hY,hR⟩:=three_boxes w x y ((⟨#[]⟩,0):Num)
 have t0:(mOr2.toList == [38,38]) = false:=lit_eq rfl rfl
 have t1:(mOr2.toList == [124,124]) = true:=lit_eq rfl rfl
 have hzb:(x.2 != 0) = true:=by simpa using hz
 have hd:(decide (x.2 ≠ 0) || decide (y.2 ≠ 0)) = true:=by rw [Bool.eq_iff_iff];simp [hz]
 rw [hd]
 have HT:=Hd (fun w=>truth_ok true w)
 obtain ⟨t,n⟩:=x
 obtain ⟨u,m⟩:=y
 simp only at hzb HT ⊢
 clear hd hz
 generalize truthI _ = r at *
 have HB:=Hd hb
 have HR:=Hd hR
 have HX:=Hd hX
 have HY:=Hd hY
 unfold numV at HT ⊢
 clear hX hY hR hb
 simp only [numO] at HR HX HY HB HT ⊢
 generalize mOr2 = mk at *
 go_enter Tryz.func29,Tryz.ntmps29
 go_upto_region 1 with fail
 generalize ((w.alloc (.cells #[.string t,.int .i64 n] 50)).alloc (.cells #[.string u,.int .i64 m] 50)).alloc (.cells #[.string ⟨#[]⟩,.int .i64 0] 50) = w1 at *
 obtain ⟨⟨_,x1⟩,_⟩:=HX.out.cells
 obtain ⟨⟨_,y1⟩,_⟩:=HY.out.cells
 have HT1:=Hd (HT.out w1)
 go_wp2_with (go_at_call 53;(with_reducible refine HT1.out.mono ?_);rintro e w2 ⟨rfl,hb2⟩;have HB2:=Hd hb2;clear hb2;obtain ⟨⟨r0,r1⟩,rf⟩:=(HR.out.below HB2.out).cells;have f0:=rf 0;have f1:=rf 1;clear rf)
 exact bodyPost_ret (v:=.tuple #[numV (iText12,r),.bool true]) (by simp [results,Tryz.results29,go_sem,r0,r1];rfl) rfl ⟨rfl,below_set2 (HB.out.trans (HB2.out.mono HB.out.size)) (by omega) _ _⟩
end Go.Proofs.YtlcfejgjeljjdaaGreatDoor
