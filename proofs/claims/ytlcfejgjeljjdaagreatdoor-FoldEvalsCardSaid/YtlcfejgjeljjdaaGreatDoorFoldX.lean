/- One operation on numbers: the program. -/
import Derived.Test.YtlcfejgjeljjdaaGreatDoorMg9
import Derived.Test.YtlcfejgjeljjdaaGreatDoorMg6
import Derived.Test.YtlcfejgjeljjdaaGreatDoorMg13
import Derived.Test.YtlcfejgjeljjdaaGreatDoorMg14
namespace Go.Proofs.YtlcfejgjeljjdaaGreatDoor
open Go.RowKit
def numV (v:Num):Value:=.agg #[.string v.1,.int .i64 v.2]
abbrev numO (v:Num):Obj:=.cells #[.string v.1,.int .i64 v.2] 50
def NumAt (w:World) (b:Nat) (v:Num):Prop:=w.heap[b]? = some (.cells #[.string v.1,.int .i64 v.2] 50 (0,0))
theorem numAt_new (w:World) (v:Num):NumAt (w.alloc (numO v)) w.heap.size v:=heap_alloc_new _ _
theorem NumAt.lt {w:World} {b:Nat} {v:Num} (h:NumAt w b v):b < w.heap.size:=lt_of_heap h
theorem NumAt.below {w w':World} {b:Nat} {v:Num} (h:NumAt w b v) (hb:Below w.heap.size w w'):NumAt w' b v:=(hb.block _ h.lt).trans h
theorem NumAt.cells {w:World} {b:Nat} {v:Num} (h:NumAt w b v):(w.cell? ⟨b,0,none⟩ = some (.string v.1) ∧ w.cell? ⟨b,1,none⟩ = some (.int .i64 v.2)) ∧ ∀ j,w.frozen? ⟨b,j,none⟩ = false:=two_block h
theorem truth_ok (b:Bool) (w:World):Calls Tryz.prog 53 #[.bool b] w fun e w'=>e = .returned (numV (iText12,truthI b)) ∧ Below w.heap.size w w':=by
 cases b
 ·go_enter Tryz.func53,Tryz.ntmps53
  go_wp2_with fail
  exact bodyPost_ret (v:=numV (iText12,truthI false)) (by simp [results,Tryz.results53,go_sem];rfl) rfl ⟨rfl,ba1 _ _⟩
 ·go_enter Tryz.func53,Tryz.ntmps53
  go_wp2_with fail
  exact bodyPost_ret (v:=numV (iText12,truthI true)) (by simp [results,Tryz.results53,go_sem];rfl) rfl ⟨rfl,ba1 _ _⟩
theorem promoted_ok (v:Num) (hv:IntT v.1) (w:World) (hE:TE w):Calls Tryz.prog 54 #[numV v] w fun e w'=>e = .returned (numV (promI v.1,asI v.2 (promI v.1))) ∧ Below w.heap.size w w':=by
 have hN:=numAt_new w v
 have hR:=numAt_new (w.alloc (numO v)) ((⟨#[]⟩,0):Num)
 have hb:=(ba1 w (numO v)).trans ((ba1 (w.alloc (numO v)) (numO ((⟨#[]⟩,0):Num))).mono (ba1 w (numO v)).size)
 have hN2:=hN.below (ba1 (w.alloc (numO v)) (numO ((⟨#[]⟩,0):Num)))
 have hs:(w.alloc (numO v)).heap.size = w.heap.size + 1:=by simp
 rw [hs] at hR
 clear hN hs
 obtain ⟨t,n⟩:=v
 unfold numV
 simp only at hv ⊢
 have HP:=Hd (fun w hE=>(promoteV_int hv) ▸ promote_ok t w hE)
 have HA:=Hd (fun w=>as_ok n (promI t) w)
 have HE:=Hd (hE.below hb)
 have HB:=Hd hb
 have HR:=Hd hR
 have HN:=Hd hN2
 clear hv hE hN2 hR hb
 simp only [numO] at HR HN HE HB
 go_enter Tryz.func54,Tryz.ntmps54
 go_upto_region 1 with fail
 generalize (w.alloc (.cells #[.string t,.int .i64 n] 50)).alloc (.cells #[.string ⟨#[]⟩,.int .i64 0] 50) = w1 at *
 obtain ⟨⟨x0,x1⟩,_⟩:=HN.out.cells
 have HP1:=Hd (HP.out w1 HE.out)
 go_upto_region 2 with (go_at_call 89;(with_reducible refine HP1.out.mono ?_);rintro e w2 ⟨rfl,hb2⟩;have HB2:=Hd hb2;clear hb2)
 clear x0 x1
 obtain ⟨⟨x0,x1⟩,_⟩:=(HN.out.below HB2.out).cells
 obtain ⟨⟨r0,r1⟩,rf⟩:=(HR.out.below HB2.out).cells
 have f0:=rf 0
 have f1:=rf 1
 have HA2:=Hd (HA.out w2)
 clear rf
 go_wp2_with (go_at_call 30;(with_reducible refine HA2.out.mono ?_);rintro e w3 ⟨rfl,rfl⟩)
 exact bodyPost_ret (v:=numV (promI t,asI n (promI t))) (by simp [results,Tryz.results54,go_sem,r0,r1];rfl) rfl ⟨rfl,((HB.out.trans (HB2.out.mono HB.out.size)).setCell (Nat.le_succ _) _).setCell (Nat.le_succ _) _⟩
theorem two_boxes (w:World) (a r:Num):Below w.heap.size w ((w.alloc (numO a)).alloc (numO r)) ∧ NumAt ((w.alloc (numO a)).alloc (numO r)) w.heap.size a ∧ NumAt ((w.alloc (numO a)).alloc (numO r)) (w.heap.size + 1) r:=by
 have hR:=numAt_new (w.alloc (numO a)) r
 rw [show (w.alloc (numO a)).heap.size = w.heap.size + 1 by simp] at hR
 exact ⟨(ba1 w (numO a)).trans ((ba1 (w.alloc (numO a)) (numO r)).mono (ba1 w (numO a)).size),(numAt_new w a).below (ba1 (w.alloc (numO a)) (numO r)),hR⟩
theorem NumAt.set {w:World} {b:Nat} {v:Num} (h:NumAt w b v) (u:Num):NumAt ((w.setCell ⟨b,0,none⟩ (.string u.1)).setCell ⟨b,1,none⟩ (.int .i64 u.2)) b u:=by
 unfold NumAt at h ⊢
 simp [World.setCell,Array.getElem?_modify,h]
theorem NumAt.other {w:World} {b:Nat} {v:Num} (h:NumAt w b v) {c:Nat} (hc:b ≠ c) (x y:Value):NumAt ((w.setCell ⟨c,0,none⟩ x).setCell ⟨c,1,none⟩ y) b v:=by
 unfold NumAt at h ⊢
 rw [Below.heap_setCell _ _ _ _ (by exact hc),Below.heap_setCell _ _ _ _ (by exact hc)]
 exact h
theorem below_set2 {n:Nat} {w0 w:World} (h:Below n w0 w) {c:Nat} (hc:n ≤ c) (x y:Value):Below n w0 ((w.setCell ⟨c,0,none⟩ x).setCell ⟨c,1,none⟩ y):=(h.setCell hc _).setCell hc _
set_option maxHeartbeats 1000000 in
theorem unary_not (v:Num) (w:World):Calls Tryz.prog 39 #[.string mNot,numV v] w fun e w'=>e = .returned (.tuple #[numV (iText12,truthI (decide (v.2 = 0))),.bool true]) ∧ Below w.heap.size w w':=by
 obtain ⟨hb,hN,hR⟩:=two_boxes w v ((⟨#[]⟩,0):Num)
 obtain ⟨t,n⟩:=v
 have t1:(mNot.toList == [33]) = true:=lit_eq rfl rfl
 have HT:=Hd (fun w=>show Calls Tryz.prog 53 #[.bool (n == 0)] w fun e w'=>e = .returned (numV (iText12,truthI (decide (n = 0)))) ∧ Below w.heap.size w w' by
  rw [show decide (n = 0) = (n == 0) by rw [Bool.eq_iff_iff];simp];exact truth_ok (n == 0) w)
 simp only
 generalize truthI (decide (n = 0)) = r at *
 have HB:=Hd hb
 have HR:=Hd hR
 have HN:=Hd hN
 unfold numV at HT ⊢
 clear hN hR hb
 simp only [numO] at HR HN HB ⊢
 generalize mNot = m at *
 go_enter Tryz.func39,Tryz.ntmps39
 go_upto_region 1 with fail
 generalize (w.alloc (.cells #[.string t,.int .i64 n] 50)).alloc (.cells #[.string ⟨#[]⟩,.int .i64 0] 50) = w1 at *
 obtain ⟨⟨x0,x1⟩,_⟩:=HN.out.cells
 have HP1:=Hd (HT.out w1)
 go_wp2_with (go_at_call 53;(with_reducible refine HP1.out.mono ?_);rintro e w2 ⟨rfl,hb2⟩;have HB2:=Hd hb2;clear hb2;obtain ⟨⟨r0,r1⟩,rf⟩:=(HR.out.below HB2.out).cells;have f0:=rf 0;have f1:=rf 1;clear rf)
 exact bodyPost_ret (v:=.tuple #[numV (iText12,r),.bool true]) (by simp [results,Tryz.results39,go_sem,r0,r1];rfl) rfl ⟨rfl,below_set2 (HB.out.trans (HB2.out.mono HB.out.size)) (Nat.le_succ _) _ _⟩
set_option maxHeartbeats 2000000 in
theorem unary_neg (v:Num) (hv:IntT v.1) (w:World) (hE:TE w):Calls Tryz.prog 39 #[.string mSub,numV v] w fun e w'=>e = .returned (.tuple #[numV (promI v.1,asI (-(asI v.2 (promI v.1))) (promI v.1)),.bool true]) ∧ Below w.heap.size w w':=by
 obtain ⟨hb,hN,hR⟩:=two_boxes w v ((⟨#[]⟩,0):Num)
 have HP:=Hd (fun w hE=>promoted_ok v hv w hE)
 have hr:=asI_range v.2 (promI v.1)
 obtain ⟨t,n⟩:=v
 have t1:(mSub.toList == [33]) = false:=lit_eq rfl rfl
 have t2:(mSub.toList == [45]) = true:=lit_eq rfl rfl
 simp only at hr ⊢
 have HA:=Hd (fun w=>as_ok (-(asI n (promI t))) (promI t) w)
 have HB:=Hd hb
 have HR:=Hd hR
 have HN:=Hd hN
 have HE:=Hd (hE.below hb)
 unfold numV at HP ⊢
 clear hN hR hb hv hE
 simp only [numO] at HR HN HB HP HE ⊢
 generalize mSub = m at *
 generalize promI t = pt at *
 generalize asI n pt = pn at *
 generalize asI (-pn) pt = r at *
 have hw:IntKind.i64.wrap (-pn) = -pn:=by rw [IntKind.wrap_i64];omega
 go_enter Tryz.func39,Tryz.ntmps39
 go_upto_region 1 with fail
 generalize (w.alloc (.cells #[.string t,.int .i64 n] 50)).alloc (.cells #[.string ⟨#[]⟩,.int .i64 0] 50) = w1 at *
 obtain ⟨⟨x0,x1⟩,_⟩:=HN.out.cells
 have HP1:=Hd (HP.out w1 HE.out)
 go_upto_region 4 with (go_at_call 54;(with_reducible refine HP1.out.mono ?_);rintro e w2 ⟨rfl,hb2⟩;have HB2:=Hd hb2;clear hb2;clear x0 x1;obtain ⟨⟨x0,x1⟩,rf⟩:=(HN.out.below HB2.out).cells;have f0:=rf 0;have f1:=rf 1;clear rf)
 have HN3:=Hd ((HN.out.below HB2.out).set (pt,pn))
 have HR3:=Hd ((HR.out.below HB2.out).other (Nat.succ_ne_self _) (.string pt) (.int .i64 pn))
 have HB3:=Hd (below_set2 (HB.out.trans (HB2.out.mono HB.out.size)) (Nat.le_refl w.heap.size) (.string pt) (.int .i64 pn))
 simp only at HN3
 generalize (w2.setCell ⟨w.heap.size,0,none⟩ (.string pt)).setCell ⟨w.heap.size,1,none⟩ (.int .i64 pn) = w3 at *
 clear x0 x1 f0 f1
 obtain ⟨⟨x0,x1⟩,_⟩:=HN3.out.cells
 obtain ⟨⟨r0,r1⟩,rf⟩:=HR3.out.cells
 have f0:=rf 0
 have f1:=rf 1
 clear rf
 go_upto_region 5 with fail
 go_wp2_with fail
 go_region_with (go_at_call 30;(with_reducible refine (HA.out _).mono ?_);rintro e w4 ⟨rfl,rfl⟩)
 all_goals
  go_wp2_with fail
  exact bodyPost_ret (v:=.tuple #[numV (pt,r),.bool true]) (by simp [results,Tryz.results39,go_sem,r0,r1];rfl) rfl ⟨rfl,(below_set2 HB3.out (Nat.le_succ _) _ _).drew⟩
set_option maxHeartbeats 2000000 in
theorem unary_cpl (v:Num) (hv:IntT v.1) (w:World) (hE:TE w):Calls Tryz.prog 39 #[.string mCpl,numV v] w fun e w'=>e = .returned (.tuple #[numV (promI v.1,asI (-(asI v.2 (promI v.1)) - 1) (promI v.1)),.bool true]) ∧ Below w.heap.size w w':=by
 obtain ⟨hb,hN,hR⟩:=two_boxes w v ((⟨#[]⟩,0):Num)
 have HP:=Hd (fun w hE=>promoted_ok v hv w hE)
 have hr:=asI_range v.2 (promI v.1)
 obtain ⟨t,n⟩:=v
 have t1:(mCpl.toList == [33]) = false:=lit_eq rfl rfl
 have t2:(mCpl.toList == [45]) = false:=lit_eq rfl rfl
 have t3:(mCpl.toList == [126]) = true:=lit_eq rfl rfl
 simp only at hr ⊢
 have HA:=Hd (fun w=>as_ok (-(asI n (promI t)) - 1) (promI t) w)
 have HB:=Hd hb
 have HR:=Hd hR
 have HN:=Hd hN
 have HE:=Hd (hE.below hb)
 unfold numV at HP ⊢
 clear hN hR hb hv hE
 simp only [numO] at HR HN HB HP HE ⊢
 generalize mCpl = m at *
 generalize promI t = pt at *
 generalize asI n pt = pn at *
 generalize asI (-pn - 1) pt = r at *
 have hw:IntKind.i64.wrap (-pn) = -pn:=by rw [IntKind.wrap_i64];omega
 have hw2:IntKind.i64.wrap (-pn - 1) = -pn - 1:=by rw [IntKind.wrap_i64];omega
 go_enter Tryz.func39,Tryz.ntmps39
 go_upto_region 1 with fail
 generalize (w.alloc (.cells #[.string t,.int .i64 n] 50)).alloc (.cells #[.string ⟨#[]⟩,.int .i64 0] 50) = w1 at *
 obtain ⟨⟨x0,x1⟩,_⟩:=HN.out.cells
 have HP1:=Hd (HP.out w1 HE.out)
 go_upto_region 4 with (go_at_call 54;(with_reducible refine HP1.out.mono ?_);rintro e w2 ⟨rfl,hb2⟩;have HB2:=Hd hb2;clear hb2;clear x0 x1;obtain ⟨⟨x0,x1⟩,rf⟩:=(HN.out.below HB2.out).cells;have f0:=rf 0;have f1:=rf 1;clear rf)
 have HN3:=Hd ((HN.out.below HB2.out).set (pt,pn))
 have HR3:=Hd ((HR.out.below HB2.out).other (Nat.succ_ne_self _) (.string pt) (.int .i64 pn))
 have HB3:=Hd (below_set2 (HB.out.trans (HB2.out.mono HB.out.size)) (Nat.le_refl w.heap.size) (.string pt) (.int .i64 pn))
 simp only at HN3
 generalize (w2.setCell ⟨w.heap.size,0,none⟩ (.string pt)).setCell ⟨w.heap.size,1,none⟩ (.int .i64 pn) = w3 at *
 clear x0 x1 f0 f1
 obtain ⟨⟨x0,x1⟩,_⟩:=HN3.out.cells
 obtain ⟨⟨r0,r1⟩,rf⟩:=HR3.out.cells
 have f0:=rf 0
 have f1:=rf 1
 clear rf
 go_upto_region 7 with fail
 go_wp2_with fail
 go_region_with (go_at_call 30;(with_reducible refine (HA.out _).mono ?_);rintro e w4 ⟨rfl,rfl⟩)
 all_goals
  go_wp2_with fail
  exact bodyPost_ret (v:=.tuple #[numV (pt,r),.bool true]) (by simp [results,Tryz.results39,go_sem,r0,r1];rfl) rfl ⟨rfl,(below_set2 HB3.out (Nat.le_succ _) _ _).drew⟩
end Go.Proofs.YtlcfejgjeljjdaaGreatDoor
