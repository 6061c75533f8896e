/- What a part comes to: the program -/
import Derived.Test.YtlcfejgjeljjdaaGreatDoorFoldV
namespace Go.Proofs.YtlcfejgjeljjdaaGreatDoor
open Go.RowKit
def EvalEnd:Option Num → World → Ending → World → Prop
 | some u,w,e,w'=>e = .returned (.tuple #[numV u,.bool true]) ∧ Below w.heap.size w w'
 | none,w,e,w'=>(∃ v:Num,e = .returned (.tuple #[numV v,.bool false])) ∧ Below w.heap.size w w'
theorem evalSome {r:Option Num} {u:Num} {w w':World} {t:ByteArray} {n:Int} (h:r = some u) (hu:(t,n) = u) (hb:Below w.heap.size w w'):EvalEnd r w (.returned (.tuple #[.agg #[.string t,.int .i64 n],.bool true])) w':=by
 subst h;subst hu;exact ⟨rfl,hb⟩
theorem evalNone {r:Option Num} {w w':World} {t:ByteArray} {n:Int} (h:r = none) (hb:Below w.heap.size w w'):EvalEnd r w (.returned (.tuple #[.agg #[.string t,.int .i64 n],.bool false])) w':=by
 subst h;exact ⟨⟨(t,n),rfl⟩,hb⟩
theorem evalRaw0 {F:FuncId} {xs:Array Value} {w:World} (h:Calls Tryz.prog F xs w (EvalEnd none w)):Calls Tryz.prog F xs w fun e w'=>(∃ (t:ByteArray) (n:Int),e = .returned (.tuple #[.agg #[.string t,.int .i64 n],.bool false])) ∧ Below w.heap.size w w':=h.mono fun _ _ ⟨⟨v,hv⟩,hb⟩=>⟨⟨v.1,v.2,hv⟩,hb⟩
theorem evalRaw1 {F:FuncId} {xs:Array Value} {w:World} {t:ByteArray} {n:Int} (h:Calls Tryz.prog F xs w (EvalEnd (some (t,n)) w)):Calls Tryz.prog F xs w fun e w'=>e = .returned (.tuple #[.agg #[.string t,.int .i64 n],.bool true]) ∧ Below w.heap.size w w':=h
set_option maxRecDepth 100000 in
set_option maxHeartbeats 8000000 in
theorem eval_step {f:Nat} {a:Option Addr} {cap:Nat} {t:List Nd} {l:Option Addr} {lc:Nat} {L:List Sr} {mv:List Value} {b:Option Addr} {cb:Nat} {fr:List Nat} {B:Nat} {k:Nat} {x:Nd} {P:List Nat} {K:Nat → ByteArray} {V:Nat → Option Num} (w:World) (hFo:FoldAt B w f a cap t l lc L mv b cb fr) (hl:t.length ≤ 4096) (hf:Formed t fr) (hx:t[k]? = some x) (hP:partsAt t fr k = P)
 (hk:x.kind = 1 ∨ x.kind = 9 ∨ x.kind = 7 ∨ x.kind = 4 ∨ x.kind = 15 ∨ x.kind = 17) (h4:x.kind = 4 → P.length = 1 ∧ Lib.containsS unMarks x.text = true) (h15:x.kind = 15 → P.length = 1) (h7:x.kind = 7 → P.length = 2 ∧ Lib.containsS binMarks x.text = true) (h9:x.kind = 9 → P.length = 3)
 (hI:∀ p ∈ P,∀ v,V p = some v → IntT v.1)
 (hkd:∀ w',FoldAt B w' f a cap t l lc L mv b cb fr → Calls Tryz.prog 80 #[.pointer (some ⟨f,0,none⟩),.int .i64 (k:Int)] w' (KindEnd (kindN x (P.map K)) w'))
 (ih:∀ p ∈ P,∀ w',FoldAt B w' f a cap t l lc L mv b cb fr → Calls Tryz.prog 48 #[.pointer (some ⟨f,0,none⟩),.int .i64 (p:Int)] w' (EvalEnd (V p) w')) :
 Calls Tryz.prog 48 #[.pointer (some ⟨f,0,none⟩),.int .i64 (k:Int)] w (EvalEnd (evalN L x (kindN x (P.map K)) (P.map V)) w):=by
 obtain ⟨hkl,hgx⟩:=List.getElem?_eq_some_iff.1 hx
 have HPt:=Hd (fun w' (h:FoldAt B w' f a cap t l lc L mv b cb fr)=>hP ▸ fparts_ok w' h hl hf k hkl)
 have HKd:=Hd hkd
 have hb1:=ba1 w (numO ((⟨#[]⟩,0):Num))
 have HR1:=Hd (numAt_new w ((⟨#[]⟩,0):Num))
 have hF1:=hFo.below hb1
 have HB1:=Hd hb1
 simp only [numO] at hF1 HR1 HB1
 go_enter Tryz.func48,Tryz.ntmps48
 go_upto_region 1 with fail
 generalize w.alloc (.cells #[.string ⟨#[]⟩,.int .i64 0] 50) = w1 at *
 obtain ⟨z0,z1,_⟩:=hF1.cells
 obtain ⟨ba,off,ha,hbl,x0,x1,x2,x3,x4,x5⟩:=nds_at hF1.nodes hkl
 rw [hgx] at x0 x1 x2 x3 x4 x5
 subst ha
 have HF:=Hd hF1
 have HIh:=Hd ih
 have HI:=Hd hI
 have hfw:=Nat.lt_of_lt_of_le hF1.flt hF1.le
 have haw:=Nat.lt_of_lt_of_le hbl hF1.le
 have HCl:=Hd (fun w' (h:Below w1.heap.size w1 w')=>show w'.cell? ⟨f,0,none⟩ = some (.slice (some ⟨ba,off,none⟩) t.length cap) ∧ w'.cell? ⟨ba,off + k * 6,none⟩ = some (.int .i64 x.kind) ∧ w'.cell? ⟨ba,off + k * 6 + 1,none⟩ = some (.int .i64 x.n) ∧ w'.cell? ⟨ba,off + k * 6 + 2,none⟩ = some (.int .i64 x.at_) ∧ w'.cell? ⟨ba,off + k * 6 + 3,none⟩ = some (.int .i64 x.int) ∧ w'.cell? ⟨ba,off + k * 6 + 4,none⟩ = some (.string x.text) ∧ w'.cell? ⟨ba,off + k * 6 + 5,none⟩ = some (.string x.type) from by
  rw [h.cell hfw,h.cell haw,h.cell haw,h.cell haw,h.cell haw,h.cell haw,h.cell haw];exact ⟨z0,x0,x1,x2,x3,x4,x5⟩)
 clear hFo ih hI hf hx hP hgx hF1 hkd hb1 z1
 have HP1:=Hd (HPt.out w1.drew (HF.out.below (Below.refl _ _).drew))
 have HP2:=Hd (HPt.out (w1.alloc (ndObj ⟨0,0,0,0,⟨#[]⟩,⟨#[]⟩⟩)).drew (HF.out.below ((Below.refl _ _).alloc (Nat.le_refl _) _).drew))
 have HZ:=Hd (nodeAt_new w1 ⟨0,0,0,0,⟨#[]⟩,⟨#[]⟩⟩)
 simp only [ndObj] at HP2 HZ
 go_cut [6,7] (fun s5 s6 wx=>Hid (∃ q,s5 = .pointer (some ⟨q,0,none⟩) ∧ NodeAt wx q x ∧ PlacesV wx s6 P ∧ Below w1.heap.size w1 wx))
 case first=>
  go_region_held3 (fun w'=>w'.cell? ⟨f,0,none⟩ = some (.slice (some ⟨ba,off,none⟩) t.length cap) ∧ w'.cell? ⟨ba,off + k * 6,none⟩ = some (.int .i64 x.kind) ∧ w'.cell? ⟨ba,off + k * 6 + 1,none⟩ = some (.int .i64 x.n) ∧ w'.cell? ⟨ba,off + k * 6 + 2,none⟩ = some (.int .i64 x.at_) ∧ w'.cell? ⟨ba,off + k * 6 + 3,none⟩ = some (.int .i64 x.int) ∧ w'.cell? ⟨ba,off + k * 6 + 4,none⟩ = some (.string x.text) ∧ w'.cell? ⟨ba,off + k * 6 + 5,none⟩ = some (.string x.type))
   ((refine HCl.out _ ?_;first | with_reducible exact (Below.refl _ _).drew | with_reducible exact ((Below.refl _ _).alloc (Nat.le_refl _) _).drew | with_reducible exact (HB2).out | (have hq:=HB2;with_reducible exact hq.out.alloc hq.out.size _) | (have hq:=HB2;with_reducible exact below_set6 hq.out (Nat.le_refl _) x)))
   (first
     | (go_at_call 74;(with_reducible refine HP1.out.mono ?_);rintro e w2 ⟨⟨v2,rfl,hrow⟩,hb2⟩;have HB2:=Hd (show Below w1.heap.size w1 w2 from (Below.refl _ _).drew.trans (hb2.mono (Nat.le_refl _)));have HRow:=Hd (PartEnd.row hrow);clear hb2 hrow)
     | (go_at_call 74;(with_reducible refine HP2.out.mono ?_);rintro e w2 ⟨⟨v2,rfl,hrow⟩,hb2⟩;have HB2:=Hd (show Below w1.heap.size w1 w2 from ((Below.refl _ _).alloc (Nat.le_refl _) _).drew.trans (hb2.mono (by simp)));have hqn:=(show NodeAt w2 w1.heap.size _ from (HZ.out.below (Below.refl _ _).drew).below hb2);have HQ:=Hd hqn;have HRw:=Hd hrow;obtain ⟨⟨q0,q1,q2,q3,q4,q5⟩,qf⟩:=six_block hqn;have qf0:=qf 0;have qf1:=qf 1;have qf2:=qf 2;have qf3:=qf 3;have qf4:=qf 4;have qf5:=qf 5;clear hb2 qf hqn hrow))
  all_goals go_wp2_with fail
  all_goals go_meet
  all_goals refine Hd ⟨_,rfl,?_,?_,?_⟩
  ·exact nodeAt_new _ x
  ·exact HRow.out.below (ba1 _ _)
  ·exact HB2.out.alloc HB2.out.size _
  ·exact HQ.out.set x
  ·exact PlacesV.set6 HRw.out (by simp)
  ·exact below_set6 HB2.out (Nat.le_refl _) x
 case rest=>
  clear z0 x0 x1 x2 x3 x4 x5 HCl HP1 HP2 HZ HPt
  obtain ⟨q,rfl,hq,hpv,hbx⟩:=hcut.out
  obtain ⟨pa,pc,rfl,hps⟩:=hpv
  have HFx:=Hd (HF.out.below hbx)
  have HRx:=Hd (HR1.out.below hbx)
  have HBx:=Ht HB1 hbx
  have HPs:=Hd hps
  have HQ:=Hd hq
  obtain ⟨⟨x0,_,_,x3,x4,x5⟩,_⟩:=six_block hq
  obtain ⟨kk,n,pp,ii,sx,ty⟩:=x
  have hRl:=HRx.out.lt
  clear hq hps hbx hcut
  simp only at hk h4 h7 h9 h15 x0 x3 x4 x5
  rcases hk with rfl | rfl | rfl | rfl | rfl | rfl
  ·clear h4 h7 h9 h15
   obtain ⟨⟨r0,r1⟩,rf⟩:=HRx.out.cells
   have f0:=rf 0
   have f1:=rf 1
   clear rf
   have HA:=Hd (fun w=>as_ok ii ty w)
   generalize hr:asI ii ty = r at *
   have HFin:=Hd (show evalN L ⟨1,n,pp,ii,sx,ty⟩ (kindN ⟨1,n,pp,ii,sx,ty⟩ (P.map K)) (P.map V) = some (ty,r) from by rw [← hr];rfl)
   clear hr
   go_upto_region 4 with fail
   go_region_with (go_at_call 30;(with_reducible refine (HA.out _).mono ?_);rintro e w4 ⟨rfl,rfl⟩)
   all_goals
    go_wp2_with fail
    exact bodyPost_ret (v:=.tuple #[.agg #[.string ty,.int .i64 r],.bool true]) (by simp [results,Tryz.results48,go_sem,r0,r1]) rfl (evalSome HFin.out rfl ((below_set2 HBx.out (Nat.le_refl w.heap.size) _ _).drew))
  ·clear h4 h7 h15
   have hlen:=h9 rfl
   clear h9
   have hm0:0 < P.length:=by omega
   have HE0:=Hd (HIh.out P[0] (List.getElem_mem hm0))
   have HT0:=Hd (HI.out P[0] (List.getElem_mem hm0))
   have HV0:=Hd (getD_map V P 0 none hm0)
   obtain ⟨pb,po,hpa,hpl,c0⟩:=nats_at HPs.out hm0
   rw [Nat.add_zero] at c0
   subst hpa
   generalize P[0] = p0 at *
   have HE:=Hd (HE0.out wc HFx.out)
   rcases hv0:V p0 with _ | ⟨vt,vn⟩
   ·rw [hv0] at HE HV0
    have HE:=Hd (evalRaw0 HE.out)
    go_upto_region 9 with (go_at_call 48;(with_reducible refine HE.out.mono ?_);rintro e w3 ⟨⟨vt,vn,rfl⟩,hb3⟩;have HB3:=Hd hb3;clear hb3)
    have HN4:=Hd (numAt_new w3 (vt,vn))
    have HB34:=Hd (HB3.out.trans ((ba1 w3 (numO (vt,vn))).mono HB3.out.size))
    simp only [numO] at HN4 HB34
    generalize hnb:w3.heap.size = nb at *
    have hnr:w.heap.size ≠ nb:=by have:=HB3.out.size;omega
    generalize w3.alloc (.cells #[.string vt,.int .i64 vn] 50) = w4 at *
    have HR4:=Hd (HRx.out.below HB34.out)
    have HQ4:=Hd (HQ.out.below HB34.out)
    have HF4:=Hd (HFx.out.below HB34.out)
    have HB4:=Hd (HBx.out.trans (HB34.out.mono HBx.out.size))
    have c0s:=HB34.out.size
    clear x0 x3 x4 x5
    obtain ⟨⟨x0,_,_,x3,x4,x5⟩,_⟩:=six_block HQ4.out
    obtain ⟨⟨y0,y1⟩,_⟩:=HN4.out.cells
    obtain ⟨⟨r0,r1⟩,rf⟩:=HR4.out.cells
    have f0:=rf 0
    have f1:=rf 1
    clear rf
    have HFin:=Hd (show evalN L ⟨9,n,pp,ii,sx,ty⟩ (kindN ⟨9,n,pp,ii,sx,ty⟩ (P.map K)) (P.map V) = none from by unfold evalN;rw [HV0.out];rfl)
    go_wp2_with fail
    exact bodyPost_ret (v:=.tuple #[.agg #[.string vt,.int .i64 vn],.bool false]) (by simp [results,Tryz.results48,go_sem,r0,r1]) rfl (evalNone HFin.out (below_set2 HB4.out (Nat.le_refl w.heap.size) _ _))
   ·rw [hv0] at HE HV0 HT0
    have HE:=Hd (evalRaw1 HE.out)
    have hvi:=HT0.out _ rfl
    simp only at hvi
    go_upto_region 9 with (go_at_call 48;(with_reducible refine HE.out.mono ?_);rintro e w3 ⟨rfl,hb3⟩;have HB3:=Hd hb3;clear hb3)
    have HN4:=Hd (numAt_new w3 (vt,vn))
    have HB34:=Hd (HB3.out.trans ((ba1 w3 (numO (vt,vn))).mono HB3.out.size))
    simp only [numO] at HN4 HB34
    generalize hnb:w3.heap.size = nb at *
    have hnr:w.heap.size ≠ nb:=by have:=HB3.out.size;omega
    generalize w3.alloc (.cells #[.string vt,.int .i64 vn] 50) = w4 at *
    have HR4:=Hd (HRx.out.below HB34.out)
    have HQ4:=Hd (HQ.out.below HB34.out)
    have HF4:=Hd (HFx.out.below HB34.out)
    have HB4:=Hd (HBx.out.trans (HB34.out.mono HBx.out.size))
    have c0s:=HB34.out.size
    clear x0 x3 x4 x5
    obtain ⟨⟨x0,_,_,x3,x4,x5⟩,_⟩:=six_block HQ4.out
    obtain ⟨⟨y0,y1⟩,_⟩:=HN4.out.cells
    obtain ⟨⟨r0,r1⟩,rf⟩:=HR4.out.cells
    have f0:=rf 0
    have f1:=rf 1
    clear rf
    by_cases hz:vn = 0
    ·have hm2:2 < P.length:=by omega
     have HE2:=Hd (HIh.out P[2] (List.getElem_mem hm2))
     have HV2:=Hd (getD_map V P 2 none hm2)
     have HPs4:=Hd ((HPs.out.below HB34.out (Nat.le_refl _)))
     have hm1:1 < P.length:=by omega
     obtain ⟨pb1,po1,hpa,hpl1,c1⟩:=nats_at HPs4.out hm1
     cases hpa
     have hm2:2 < P.length:=by omega
     obtain ⟨pb1,po1,hpa,hpl2,c2⟩:=nats_at HPs4.out hm2
     cases hpa
     have tz:(vn == 0) = true:=by simpa using hz
     generalize P[1] = p1 at *
     generalize P[2] = p2 at *
     have HE5:=Hd (HE2.out w4 HF4.out)
     generalize hkk:kindN ⟨9,n,pp,ii,sx,ty⟩ (P.map K) = kd at *
     rcases hv1:V p2 with _ | ⟨ut,un⟩
     ·rw [hv1] at HE5 HV2
      have HE5:=Hd (evalRaw0 HE5.out)
      go_upto_region 21 with (go_at_call 48;(with_reducible refine HE5.out.mono ?_);rintro e w5 ⟨⟨ut,un,rfl⟩,hb5⟩;have HB5:=Hd hb5;clear hb5)
      have HN6:=Hd (numAt_new w5 (ut,un))
      have HB46:=Hd (HB5.out.trans ((ba1 w5 (numO (ut,un))).mono HB5.out.size))
      simp only [numO] at HN6 HB46
      generalize hub:w5.heap.size = ub at *
      generalize w5.alloc (.cells #[.string ut,.int .i64 un] 50) = w6 at *
      have HKd6:=Hd (HKd.out w6 (HF4.out.below HB46.out))
      clear x0 x3 x4 x5 y0 y1 r0 r1 f0 f1
      go_upto_region 22 with (go_at_call 80;(with_reducible refine HKd6.out.mono ?_);rintro e w7 ⟨rfl,hb7⟩;have HB7:=Hd hb7;clear hb7)
      have HB8:=Hd (HB46.out.trans (HB7.out.mono HB46.out.size))
      have HBe:=Hd (HB4.out.trans (HB8.out.mono HB4.out.size))
      obtain ⟨⟨u0,u1⟩,_⟩:=(HN6.out.below HB7.out).cells
      obtain ⟨⟨r0,r1⟩,rf⟩:=(HR4.out.below HB8.out).cells
      have f0:=rf 0
      have f1:=rf 1
      clear rf
      have HA:=Hd (as_ok un kd w7)
      generalize hr:asI un kd = r at *
      have HFin:=Hd (show evalN L ⟨9,n,pp,ii,sx,ty⟩ (kindN ⟨9,n,pp,ii,sx,ty⟩ (P.map K)) (P.map V) = none from by unfold evalN;rw [HV0.out];simp only [show ((9:Int) = 1) = False by simp,show ((9:Int) = 17) = False by simp,show ((9:Int) = 4) = False by simp,show ((9:Int) = 15) = False by simp,if_false,if_true];rw [if_pos hz,HV2.out];rfl)
      rw [hkk] at HFin
      clear hr hkk
      go_wp2_with (go_at_call 30;(with_reducible refine HA.out.mono ?_);rintro e w8 ⟨rfl,rfl⟩)
      exact bodyPost_ret (v:=.tuple #[.agg #[.string kd,.int .i64 r],.bool false]) (by simp [results,Tryz.results48,go_sem,r0,r1]) rfl (evalNone HFin.out (below_set2 HBe.out (Nat.le_refl w.heap.size) _ _))
     ·rw [hv1] at HE5 HV2
      have HE5:=Hd (evalRaw1 HE5.out)
      go_upto_region 21 with (go_at_call 48;(with_reducible refine HE5.out.mono ?_);rintro e w5 ⟨rfl,hb5⟩;have HB5:=Hd hb5;clear hb5)
      have HN6:=Hd (numAt_new w5 (ut,un))
      have HB46:=Hd (HB5.out.trans ((ba1 w5 (numO (ut,un))).mono HB5.out.size))
      simp only [numO] at HN6 HB46
      generalize hub:w5.heap.size = ub at *
      generalize w5.alloc (.cells #[.string ut,.int .i64 un] 50) = w6 at *
      have HKd6:=Hd (HKd.out w6 (HF4.out.below HB46.out))
      clear x0 x3 x4 x5 y0 y1 r0 r1 f0 f1
      go_upto_region 22 with (go_at_call 80;(with_reducible refine HKd6.out.mono ?_);rintro e w7 ⟨rfl,hb7⟩;have HB7:=Hd hb7;clear hb7)
      have HB8:=Hd (HB46.out.trans (HB7.out.mono HB46.out.size))
      have HBe:=Hd (HB4.out.trans (HB8.out.mono HB4.out.size))
      obtain ⟨⟨u0,u1⟩,_⟩:=(HN6.out.below HB7.out).cells
      obtain ⟨⟨r0,r1⟩,rf⟩:=(HR4.out.below HB8.out).cells
      have f0:=rf 0
      have f1:=rf 1
      clear rf
      have HA:=Hd (as_ok un kd w7)
      generalize hr:asI un kd = r at *
      have HFin:=Hd (show evalN L ⟨9,n,pp,ii,sx,ty⟩ (kindN ⟨9,n,pp,ii,sx,ty⟩ (P.map K)) (P.map V) = some (kd,r) from by unfold evalN;rw [HV0.out];simp only [show ((9:Int) = 1) = False by simp,show ((9:Int) = 17) = False by simp,show ((9:Int) = 4) = False by simp,show ((9:Int) = 15) = False by simp,if_false,if_true];rw [if_pos hz,HV2.out,hkk,← hr];rfl)
      rw [hkk] at HFin
      clear hr hkk
      go_wp2_with (go_at_call 30;(with_reducible refine HA.out.mono ?_);rintro e w8 ⟨rfl,rfl⟩)
      exact bodyPost_ret (v:=.tuple #[.agg #[.string kd,.int .i64 r],.bool true]) (by simp [results,Tryz.results48,go_sem,r0,r1]) rfl (evalSome HFin.out rfl (below_set2 HBe.out (Nat.le_refl w.heap.size) _ _))
    ·have hm1:1 < P.length:=by omega
     have HE1:=Hd (HIh.out P[1] (List.getElem_mem hm1))
     have HV1:=Hd (getD_map V P 1 none hm1)
     have HPs4:=Hd ((HPs.out.below HB34.out (Nat.le_refl _)))
     have hm1:1 < P.length:=by omega
     obtain ⟨pb1,po1,hpa,hpl1,c1⟩:=nats_at HPs4.out hm1
     cases hpa
     have hm2:2 < P.length:=by omega
     obtain ⟨pb1,po1,hpa,hpl2,c2⟩:=nats_at HPs4.out hm2
     cases hpa
     have tz:(vn == 0) = false:=by simpa using hz
     generalize P[1] = p1 at *
     generalize P[2] = p2 at *
     have HE5:=Hd (HE1.out w4 HF4.out)
     generalize hkk:kindN ⟨9,n,pp,ii,sx,ty⟩ (P.map K) = kd at *
     rcases hv1:V p1 with _ | ⟨ut,un⟩
     ·rw [hv1] at HE5 HV1
      have HE5:=Hd (evalRaw0 HE5.out)
      go_upto_region 21 with (go_at_call 48;(with_reducible refine HE5.out.mono ?_);rintro e w5 ⟨⟨ut,un,rfl⟩,hb5⟩;have HB5:=Hd hb5;clear hb5)
      have HN6:=Hd (numAt_new w5 (ut,un))
      have HB46:=Hd (HB5.out.trans ((ba1 w5 (numO (ut,un))).mono HB5.out.size))
      simp only [numO] at HN6 HB46
      generalize hub:w5.heap.size = ub at *
      generalize w5.alloc (.cells #[.string ut,.int .i64 un] 50) = w6 at *
      have HKd6:=Hd (HKd.out w6 (HF4.out.below HB46.out))
      clear x0 x3 x4 x5 y0 y1 r0 r1 f0 f1
      go_upto_region 22 with (go_at_call 80;(with_reducible refine HKd6.out.mono ?_);rintro e w7 ⟨rfl,hb7⟩;have HB7:=Hd hb7;clear hb7)
      have HB8:=Hd (HB46.out.trans (HB7.out.mono HB46.out.size))
      have HBe:=Hd (HB4.out.trans (HB8.out.mono HB4.out.size))
      obtain ⟨⟨u0,u1⟩,_⟩:=(HN6.out.below HB7.out).cells
      obtain ⟨⟨r0,r1⟩,rf⟩:=(HR4.out.below HB8.out).cells
      have f0:=rf 0
      have f1:=rf 1
      clear rf
      have HA:=Hd (as_ok un kd w7)
      generalize hr:asI un kd = r at *
      have HFin:=Hd (show evalN L ⟨9,n,pp,ii,sx,ty⟩ (kindN ⟨9,n,pp,ii,sx,ty⟩ (P.map K)) (P.map V) = none from by unfold evalN;rw [HV0.out];simp only [show ((9:Int) = 1) = False by simp,show ((9:Int) = 17) = False by simp,show ((9:Int) = 4) = False by simp,show ((9:Int) = 15) = False by simp,if_false,if_true];rw [if_neg hz,HV1.out];rfl)
      rw [hkk] at HFin
      clear hr hkk
      go_wp2_with (go_at_call 30;(with_reducible refine HA.out.mono ?_);rintro e w8 ⟨rfl,rfl⟩)
      exact bodyPost_ret (v:=.tuple #[.agg #[.string kd,.int .i64 r],.bool false]) (by simp [results,Tryz.results48,go_sem,r0,r1]) rfl (evalNone HFin.out (below_set2 HBe.out (Nat.le_refl w.heap.size) _ _))
     ·rw [hv1] at HE5 HV1
      have HE5:=Hd (evalRaw1 HE5.out)
      go_upto_region 21 with (go_at_call 48;(with_reducible refine HE5.out.mono ?_);rintro e w5 ⟨rfl,hb5⟩;have HB5:=Hd hb5;clear hb5)
      have HN6:=Hd (numAt_new w5 (ut,un))
      have HB46:=Hd (HB5.out.trans ((ba1 w5 (numO (ut,un))).mono HB5.out.size))
      simp only [numO] at HN6 HB46
      generalize hub:w5.heap.size = ub at *
      generalize w5.alloc (.cells #[.string ut,.int .i64 un] 50) = w6 at *
      have HKd6:=Hd (HKd.out w6 (HF4.out.below HB46.out))
      clear x0 x3 x4 x5 y0 y1 r0 r1 f0 f1
      go_upto_region 22 with (go_at_call 80;(with_reducible refine HKd6.out.mono ?_);rintro e w7 ⟨rfl,hb7⟩;have HB7:=Hd hb7;clear hb7)
      have HB8:=Hd (HB46.out.trans (HB7.out.mono HB46.out.size))
      have HBe:=Hd (HB4.out.trans (HB8.out.mono HB4.out.size))
      obtain ⟨⟨u0,u1⟩,_⟩:=(HN6.out.below HB7.out).cells
      obtain ⟨⟨r0,r1⟩,rf⟩:=(HR4.out.below HB8.out).cells
      have f0:=rf 0
      have f1:=rf 1
      clear rf
      have HA:=Hd (as_ok un kd w7)
      generalize hr:asI un kd = r at *
      have HFin:=Hd (show evalN L ⟨9,n,pp,ii,sx,ty⟩ (kindN ⟨9,n,pp,ii,sx,ty⟩ (P.map K)) (P.map V) = some (kd,r) from by unfold evalN;rw [HV0.out];simp only [show ((9:Int) = 1) = False by simp,show ((9:Int) = 17) = False by simp,show ((9:Int) = 4) = False by simp,show ((9:Int) = 15) = False by simp,if_false,if_true];rw [if_neg hz,HV1.out,hkk,← hr];rfl)
      rw [hkk] at HFin
      clear hr hkk
      go_wp2_with (go_at_call 30;(with_reducible refine HA.out.mono ?_);rintro e w8 ⟨rfl,rfl⟩)
      exact bodyPost_ret (v:=.tuple #[.agg #[.string kd,.int .i64 r],.bool true]) (by simp [results,Tryz.results48,go_sem,r0,r1]) rfl (evalSome HFin.out rfl (below_set2 HBe.out (Nat.le_refl w.heap.size) _ _))
  ·clear h4 h9 h15
   obtain ⟨hlen,hmk⟩:=h7 rfl
   clear h7
   have hm0:0 < P.length:=by omega
   have HE0:=Hd (HIh.out P[0] (List.getElem_mem hm0))
   have HT0:=Hd (HI.out P[0] (List.getElem_mem hm0))
   have HV0:=Hd (getD_map V P 0 none hm0)
   obtain ⟨pb,po,hpa,hpl,c0⟩:=nats_at HPs.out hm0
   rw [Nat.add_zero] at c0
   subst hpa
   generalize P[0] = p0 at *
   have HE:=Hd (HE0.out wc HFx.out)
   rcases hv0:V p0 with _ | ⟨vt,vn⟩
   ·rw [hv0] at HE HV0
    have HE:=Hd (evalRaw0 HE.out)
    go_upto_region 9 with (go_at_call 48;(with_reducible refine HE.out.mono ?_);rintro e w3 ⟨⟨vt,vn,rfl⟩,hb3⟩;have HB3:=Hd hb3;clear hb3)
    have HN4:=Hd (numAt_new w3 (vt,vn))
    have HB34:=Hd (HB3.out.trans ((ba1 w3 (numO (vt,vn))).mono HB3.out.size))
    simp only [numO] at HN4 HB34
    generalize hnb:w3.heap.size = nb at *
    have hnr:w.heap.size ≠ nb:=by have:=HB3.out.size;omega
    generalize w3.alloc (.cells #[.string vt,.int .i64 vn] 50) = w4 at *
    have HR4:=Hd (HRx.out.below HB34.out)
    have HQ4:=Hd (HQ.out.below HB34.out)
    have HF4:=Hd (HFx.out.below HB34.out)
    have HB4:=Hd (HBx.out.trans (HB34.out.mono HBx.out.size))
    have c0s:=HB34.out.size
    clear x0 x3 x4 x5
    obtain ⟨⟨x0,_,_,x3,x4,x5⟩,_⟩:=six_block HQ4.out
    obtain ⟨⟨y0,y1⟩,_⟩:=HN4.out.cells
    obtain ⟨⟨r0,r1⟩,rf⟩:=HR4.out.cells
    have f0:=rf 0
    have f1:=rf 1
    clear rf
    have HFin:=Hd (show evalN L ⟨7,n,pp,ii,sx,ty⟩ (kindN ⟨7,n,pp,ii,sx,ty⟩ (P.map K)) (P.map V) = none from by unfold evalN;rw [HV0.out];rfl)
    go_wp2_with fail
    exact bodyPost_ret (v:=.tuple #[.agg #[.string vt,.int .i64 vn],.bool false]) (by simp [results,Tryz.results48,go_sem,r0,r1]) rfl (evalNone HFin.out (below_set2 HB4.out (Nat.le_refl w.heap.size) _ _))
   ·rw [hv0] at HE HV0 HT0
    have HE:=Hd (evalRaw1 HE.out)
    have hvi:=HT0.out _ rfl
    simp only at hvi
    go_upto_region 9 with (go_at_call 48;(with_reducible refine HE.out.mono ?_);rintro e w3 ⟨rfl,hb3⟩;have HB3:=Hd hb3;clear hb3)
    have HN4:=Hd (numAt_new w3 (vt,vn))
    have HB34:=Hd (HB3.out.trans ((ba1 w3 (numO (vt,vn))).mono HB3.out.size))
    simp only [numO] at HN4 HB34
    generalize hnb:w3.heap.size = nb at *
    have hnr:w.heap.size ≠ nb:=by have:=HB3.out.size;omega
    generalize w3.alloc (.cells #[.string vt,.int .i64 vn] 50) = w4 at *
    have HR4:=Hd (HRx.out.below HB34.out)
    have HQ4:=Hd (HQ.out.below HB34.out)
    have HF4:=Hd (HFx.out.below HB34.out)
    have HB4:=Hd (HBx.out.trans (HB34.out.mono HBx.out.size))
    have c0s:=HB34.out.size
    clear x0 x3 x4 x5
    obtain ⟨⟨x0,_,_,x3,x4,x5⟩,_⟩:=six_block HQ4.out
    obtain ⟨⟨y0,y1⟩,_⟩:=HN4.out.cells
    obtain ⟨⟨r0,r1⟩,rf⟩:=HR4.out.cells
    have f0:=rf 0
    have f1:=rf 1
    clear rf
    by_cases hma:sx = mAnd2
    ·have ta:(sx.toList == [38,38]) = true:=by rw [hma];exact lit_eq rfl rfl
     by_cases hz:vn = 0
     ·have tz:(vn == 0) = true:=by simpa using hz
      have tzn:(vn != 0) = false:=by simpa using hz
      have hsc:(sx = mAnd2 ∧ vn = 0) ∨ (sx = mOr2 ∧ vn ≠ 0):=.inl ⟨hma,hz⟩
      clear hma hz
      have HFin:=Hd (show evalN L ⟨7,n,pp,ii,sx,ty⟩ (kindN ⟨7,n,pp,ii,sx,ty⟩ (P.map K)) (P.map V) = some (iText12,truthI (decide (vn ≠ 0))) from by unfold evalN;rw [HV0.out];simp [hsc])
      have HTr:=Hd (fun w=>show Calls Tryz.prog 53 #[.bool (vn != 0)] w fun e w'=>e = .returned (numV (iText12,truthI (decide (vn ≠ 0)))) ∧ Below w.heap.size w w' by rw [← bne_dec];exact truth_ok (vn != 0) w)
      generalize truthI (decide (vn ≠ 0)) = r at *
      unfold numV at HTr
      simp only at HTr
      have HT4:=Hd (HTr.out w4)
      have HT4b:=Hd (tzn ▸ HTr.out w4)
      clear hsc
      go_wp2_with (go_at_call 53;(first | (with_reducible refine HT4b.out.mono ?_) | (with_reducible refine HT4.out.mono ?_));rintro e w6 ⟨rfl,hb6⟩;have HB6:=Hd hb6;clear hb6;clear r0 r1 f0 f1;obtain ⟨⟨r0,r1⟩,rf⟩:=(HR4.out.below HB6.out).cells;have f0:=rf 0;have f1:=rf 1;clear rf)
      exact bodyPost_ret (v:=.tuple #[.agg #[.string iText12,.int .i64 r],.bool true]) (by simp [results,Tryz.results48,go_sem,r0,r1]) rfl (evalSome HFin.out rfl (below_set2 (HB4.out.trans (HB6.out.mono HB4.out.size)) (Nat.le_refl w.heap.size) _ _))
     ·have tz:(vn == 0) = false:=by simpa using hz
      have tzn:(vn != 0) = true:=by simpa using hz
      have to_:(sx.toList == [124,124]) = false:=by rw [hma];exact lit_eq rfl rfl
      have hns:¬ ((sx = mAnd2 ∧ vn = 0) ∨ (sx = mOr2 ∧ vn ≠ 0)):=by rw [hma];rintro (⟨_,h⟩ | ⟨h,_⟩);exact hz h;exact absurd h (by decide)
      clear hma hz
      have hm1:1 < P.length:=by omega
      have HE1:=Hd (HIh.out P[1] (List.getElem_mem hm1))
      have HT1:=Hd (HI.out P[1] (List.getElem_mem hm1))
      have HV1:=Hd (getD_map V P 1 none hm1)
      have HPs4:=Hd ((HPs.out.below HB34.out (Nat.le_refl _)))
      obtain ⟨pb1,po1,hpa,hpl1,c1⟩:=nats_at HPs4.out hm1
      cases hpa
      generalize P[1] = p1 at *
      have HE5:=Hd (HE1.out w4 HF4.out)
      rcases hv1:V p1 with _ | ⟨ut,un⟩
      ·rw [hv1] at HE5 HV1
       have HE5:=Hd (evalRaw0 HE5.out)
       go_upto_region 26 with (go_at_call 48;(with_reducible refine HE5.out.mono ?_);rintro e w5 ⟨⟨ut,un,rfl⟩,hb5⟩;have HB5:=Hd hb5;clear hb5)
       have HN6:=Hd (numAt_new w5 (ut,un))
       have HB46:=Hd (HB5.out.trans ((ba1 w5 (numO (ut,un))).mono HB5.out.size))
       simp only [numO] at HN6 HB46
       generalize hub:w5.heap.size = ub at *
       have hur:w.heap.size ≠ ub:=by have:=HB5.out.size;have:=HR4.out.lt;omega
       generalize w5.alloc (.cells #[.string ut,.int .i64 un] 50) = w6 at *
       clear x0 x3 x4 x5 y0 y1 r0 r1 f0 f1
       obtain ⟨⟨u0,u1⟩,_⟩:=HN6.out.cells
       obtain ⟨⟨y0,y1⟩,_⟩:=(HN4.out.below HB46.out).cells
       obtain ⟨⟨x0,_,_,x3,x4,x5⟩,_⟩:=six_block (HQ4.out.below HB46.out)
       obtain ⟨⟨r0,r1⟩,rf⟩:=(HR4.out.below HB46.out).cells
       have f0:=rf 0
       have f1:=rf 1
       clear rf
       have HBe:=Hd (HB4.out.trans (HB46.out.mono HB4.out.size))
       have HFin:=Hd (show evalN L ⟨7,n,pp,ii,sx,ty⟩ (kindN ⟨7,n,pp,ii,sx,ty⟩ (P.map K)) (P.map V) = none from by unfold evalN;rw [HV0.out];simp only [show ((7:Int) = 1) = False by simp,show ((7:Int) = 17) = False by simp,show ((7:Int) = 4) = False by simp,show ((7:Int) = 15) = False by simp,show ((7:Int) = 9) = False by simp,if_false];rw [if_neg hns];rw [HV1.out])
       clear hns
       go_wp2_with fail
       exact bodyPost_ret (v:=.tuple #[.agg #[.string ut,.int .i64 un],.bool false]) (by simp [results,Tryz.results48,go_sem,r0,r1]) rfl (evalNone HFin.out (below_set2 HBe.out (Nat.le_refl w.heap.size) _ _))
      ·rw [hv1] at HE5 HV1 HT1
       have HE5:=Hd (evalRaw1 HE5.out)
       have huj:=HT1.out _ rfl
       simp only at huj
       go_upto_region 26 with (go_at_call 48;(with_reducible refine HE5.out.mono ?_);rintro e w5 ⟨rfl,hb5⟩;have HB5:=Hd hb5;clear hb5)
       have HN6:=Hd (numAt_new w5 (ut,un))
       have HB46:=Hd (HB5.out.trans ((ba1 w5 (numO (ut,un))).mono HB5.out.size))
       simp only [numO] at HN6 HB46
       generalize hub:w5.heap.size = ub at *
       have hur:w.heap.size ≠ ub:=by have:=HB5.out.size;have:=HR4.out.lt;omega
       generalize w5.alloc (.cells #[.string ut,.int .i64 un] 50) = w6 at *
       clear x0 x3 x4 x5 y0 y1 r0 r1 f0 f1
       obtain ⟨⟨u0,u1⟩,_⟩:=HN6.out.cells
       obtain ⟨⟨y0,y1⟩,_⟩:=(HN4.out.below HB46.out).cells
       obtain ⟨⟨x0,_,_,x3,x4,x5⟩,_⟩:=six_block (HQ4.out.below HB46.out)
       obtain ⟨⟨r0,r1⟩,rf⟩:=(HR4.out.below HB46.out).cells
       have f0:=rf 0
       have f1:=rf 1
       clear rf
       have HBe:=Hd (HB4.out.trans (HB46.out.mono HB4.out.size))
       have HBi:=Hd (binary_ok sx hmk (vt,vn) (ut,un) hvi huj w6 (HF4.out.below HB46.out).te)
       simp only at HBi
       have HFin:=Hd (show evalN L ⟨7,n,pp,ii,sx,ty⟩ (kindN ⟨7,n,pp,ii,sx,ty⟩ (P.map K)) (P.map V) = binI sx vt vn ut un from by unfold evalN;rw [HV0.out];simp only [show ((7:Int) = 1) = False by simp,show ((7:Int) = 17) = False by simp,show ((7:Int) = 4) = False by simp,show ((7:Int) = 15) = False by simp,show ((7:Int) = 9) = False by simp,if_false];rw [if_neg hns];rw [HV1.out])
       clear hns
       generalize binI sx vt vn ut un = r at *
       rcases r with _ | ⟨rt,rn⟩
       ·unfold numR numV at HBi
        simp only at HBi
        go_wp2_with (go_at_call 29;(with_reducible refine HBi.out.mono ?_);rintro e w8 ⟨rfl,hb8⟩;have HB8:=Hd hb8;clear hb8;clear r0 r1 f0 f1;obtain ⟨⟨r0,r1⟩,rf⟩:=((HR4.out.below HB46.out).below HB8.out).cells;have f0:=rf 0;have f1:=rf 1;clear rf)
        exact bodyPost_ret (v:=.tuple #[.agg #[.string ⟨#[]⟩,.int .i64 0],.bool false]) (by simp [results,Tryz.results48,go_sem,r0,r1]) rfl (evalNone HFin.out (below_set2 (HBe.out.trans (HB8.out.mono HBe.out.size)) (Nat.le_refl w.heap.size) _ _))
       ·unfold numR numV at HBi
        simp only at HBi
        go_wp2_with (go_at_call 29;(with_reducible refine HBi.out.mono ?_);rintro e w8 ⟨rfl,hb8⟩;have HB8:=Hd hb8;clear hb8;clear r0 r1 f0 f1;obtain ⟨⟨r0,r1⟩,rf⟩:=((HR4.out.below HB46.out).below HB8.out).cells;have f0:=rf 0;have f1:=rf 1;clear rf)
        exact bodyPost_ret (v:=.tuple #[.agg #[.string rt,.int .i64 rn],.bool true]) (by simp [results,Tryz.results48,go_sem,r0,r1]) rfl (evalSome HFin.out rfl (below_set2 (HBe.out.trans (HB8.out.mono HBe.out.size)) (Nat.le_refl w.heap.size) _ _))
    ·have ta:(sx.toList == [38,38]) = false:=lit_ne (fun e=>hma (bytes_of e))
     by_cases hmo:sx = mOr2
     ·have to_:(sx.toList == [124,124]) = true:=by rw [hmo];exact lit_eq rfl rfl
      by_cases hz:vn = 0
      ·have tz:(vn == 0) = true:=by simpa using hz
       have tzn:(vn != 0) = false:=by simpa using hz
       have hns:¬ ((sx = mAnd2 ∧ vn = 0) ∨ (sx = mOr2 ∧ vn ≠ 0)):=by rintro (⟨h,_⟩ | ⟨_,h⟩);exact hma h;exact h hz
       clear hma hmo hz
       have hm1:1 < P.length:=by omega
       have HE1:=Hd (HIh.out P[1] (List.getElem_mem hm1))
       have HT1:=Hd (HI.out P[1] (List.getElem_mem hm1))
       have HV1:=Hd (getD_map V P 1 none hm1)
       have HPs4:=Hd ((HPs.out.below HB34.out (Nat.le_refl _)))
       obtain ⟨pb1,po1,hpa,hpl1,c1⟩:=nats_at HPs4.out hm1
       cases hpa
       generalize P[1] = p1 at *
       have HE5:=Hd (HE1.out w4 HF4.out)
       rcases hv1:V p1 with _ | ⟨ut,un⟩
       ·rw [hv1] at HE5 HV1
        have HE5:=Hd (evalRaw0 HE5.out)
        go_upto_region 26 with (go_at_call 48;(with_reducible refine HE5.out.mono ?_);rintro e w5 ⟨⟨ut,un,rfl⟩,hb5⟩;have HB5:=Hd hb5;clear hb5)
        have HN6:=Hd (numAt_new w5 (ut,un))
        have HB46:=Hd (HB5.out.trans ((ba1 w5 (numO (ut,un))).mono HB5.out.size))
        simp only [numO] at HN6 HB46
        generalize hub:w5.heap.size = ub at *
        have hur:w.heap.size ≠ ub:=by have:=HB5.out.size;have:=HR4.out.lt;omega
        generalize w5.alloc (.cells #[.string ut,.int .i64 un] 50) = w6 at *
        clear x0 x3 x4 x5 y0 y1 r0 r1 f0 f1
        obtain ⟨⟨u0,u1⟩,_⟩:=HN6.out.cells
        obtain ⟨⟨y0,y1⟩,_⟩:=(HN4.out.below HB46.out).cells
        obtain ⟨⟨x0,_,_,x3,x4,x5⟩,_⟩:=six_block (HQ4.out.below HB46.out)
        obtain ⟨⟨r0,r1⟩,rf⟩:=(HR4.out.below HB46.out).cells
        have f0:=rf 0
        have f1:=rf 1
        clear rf
        have HBe:=Hd (HB4.out.trans (HB46.out.mono HB4.out.size))
        have HFin:=Hd (show evalN L ⟨7,n,pp,ii,sx,ty⟩ (kindN ⟨7,n,pp,ii,sx,ty⟩ (P.map K)) (P.map V) = none from by unfold evalN;rw [HV0.out];simp only [show ((7:Int) = 1) = False by simp,show ((7:Int) = 17) = False by simp,show ((7:Int) = 4) = False by simp,show ((7:Int) = 15) = False by simp,show ((7:Int) = 9) = False by simp,if_false];rw [if_neg hns];rw [HV1.out])
        clear hns
        go_wp2_with fail
        exact bodyPost_ret (v:=.tuple #[.agg #[.string ut,.int .i64 un],.bool false]) (by simp [results,Tryz.results48,go_sem,r0,r1]) rfl (evalNone HFin.out (below_set2 HBe.out (Nat.le_refl w.heap.size) _ _))
       ·rw [hv1] at HE5 HV1 HT1
        have HE5:=Hd (evalRaw1 HE5.out)
        have huj:=HT1.out _ rfl
        simp only at huj
        go_upto_region 26 with (go_at_call 48;(with_reducible refine HE5.out.mono ?_);rintro e w5 ⟨rfl,hb5⟩;have HB5:=Hd hb5;clear hb5)
        have HN6:=Hd (numAt_new w5 (ut,un))
        have HB46:=Hd (HB5.out.trans ((ba1 w5 (numO (ut,un))).mono HB5.out.size))
        simp only [numO] at HN6 HB46
        generalize hub:w5.heap.size = ub at *
        have hur:w.heap.size ≠ ub:=by have:=HB5.out.size;have:=HR4.out.lt;omega
        generalize w5.alloc (.cells #[.string ut,.int .i64 un] 50) = w6 at *
        clear x0 x3 x4 x5 y0 y1 r0 r1 f0 f1
        obtain ⟨⟨u0,u1⟩,_⟩:=HN6.out.cells
        obtain ⟨⟨y0,y1⟩,_⟩:=(HN4.out.below HB46.out).cells
        obtain ⟨⟨x0,_,_,x3,x4,x5⟩,_⟩:=six_block (HQ4.out.below HB46.out)
        obtain ⟨⟨r0,r1⟩,rf⟩:=(HR4.out.below HB46.out).cells
        have f0:=rf 0
        have f1:=rf 1
        clear rf
        have HBe:=Hd (HB4.out.trans (HB46.out.mono HB4.out.size))
        have HBi:=Hd (binary_ok sx hmk (vt,vn) (ut,un) hvi huj w6 (HF4.out.below HB46.out).te)
        simp only at HBi
        have HFin:=Hd (show evalN L ⟨7,n,pp,ii,sx,ty⟩ (kindN ⟨7,n,pp,ii,sx,ty⟩ (P.map K)) (P.map V) = binI sx vt vn ut un from by unfold evalN;rw [HV0.out];simp only [show ((7:Int) = 1) = False by simp,show ((7:Int) = 17) = False by simp,show ((7:Int) = 4) = False by simp,show ((7:Int) = 15) = False by simp,show ((7:Int) = 9) = False by simp,if_false];rw [if_neg hns];rw [HV1.out])
        clear hns
        generalize binI sx vt vn ut un = r at *
        rcases r with _ | ⟨rt,rn⟩
        ·unfold numR numV at HBi
         simp only at HBi
         go_wp2_with (go_at_call 29;(with_reducible refine HBi.out.mono ?_);rintro e w8 ⟨rfl,hb8⟩;have HB8:=Hd hb8;clear hb8;clear r0 r1 f0 f1;obtain ⟨⟨r0,r1⟩,rf⟩:=((HR4.out.below HB46.out).below HB8.out).cells;have f0:=rf 0;have f1:=rf 1;clear rf)
         exact bodyPost_ret (v:=.tuple #[.agg #[.string ⟨#[]⟩,.int .i64 0],.bool false]) (by simp [results,Tryz.results48,go_sem,r0,r1]) rfl (evalNone HFin.out (below_set2 (HBe.out.trans (HB8.out.mono HBe.out.size)) (Nat.le_refl w.heap.size) _ _))
        ·unfold numR numV at HBi
         simp only at HBi
         go_wp2_with (go_at_call 29;(with_reducible refine HBi.out.mono ?_);rintro e w8 ⟨rfl,hb8⟩;have HB8:=Hd hb8;clear hb8;clear r0 r1 f0 f1;obtain ⟨⟨r0,r1⟩,rf⟩:=((HR4.out.below HB46.out).below HB8.out).cells;have f0:=rf 0;have f1:=rf 1;clear rf)
         exact bodyPost_ret (v:=.tuple #[.agg #[.string rt,.int .i64 rn],.bool true]) (by simp [results,Tryz.results48,go_sem,r0,r1]) rfl (evalSome HFin.out rfl (below_set2 (HBe.out.trans (HB8.out.mono HBe.out.size)) (Nat.le_refl w.heap.size) _ _))
      ·have tz:(vn == 0) = false:=by simpa using hz
       have tzn:(vn != 0) = true:=by simpa using hz
       have hsc:(sx = mAnd2 ∧ vn = 0) ∨ (sx = mOr2 ∧ vn ≠ 0):=.inr ⟨hmo,hz⟩
       clear hma hmo hz
       have HFin:=Hd (show evalN L ⟨7,n,pp,ii,sx,ty⟩ (kindN ⟨7,n,pp,ii,sx,ty⟩ (P.map K)) (P.map V) = some (iText12,truthI (decide (vn ≠ 0))) from by unfold evalN;rw [HV0.out];simp [hsc])
       have HTr:=Hd (fun w=>show Calls Tryz.prog 53 #[.bool (vn != 0)] w fun e w'=>e = .returned (numV (iText12,truthI (decide (vn ≠ 0)))) ∧ Below w.heap.size w w' by rw [← bne_dec];exact truth_ok (vn != 0) w)
       generalize truthI (decide (vn ≠ 0)) = r at *
       unfold numV at HTr
       simp only at HTr
       have HT4:=Hd (HTr.out w4)
       have HT4b:=Hd (tzn ▸ HTr.out w4)
       clear hsc
       go_wp2_with (go_at_call 53;(first | (with_reducible refine HT4b.out.mono ?_) | (with_reducible refine HT4.out.mono ?_));rintro e w6 ⟨rfl,hb6⟩;have HB6:=Hd hb6;clear hb6;clear r0 r1 f0 f1;obtain ⟨⟨r0,r1⟩,rf⟩:=(HR4.out.below HB6.out).cells;have f0:=rf 0;have f1:=rf 1;clear rf)
       exact bodyPost_ret (v:=.tuple #[.agg #[.string iText12,.int .i64 r],.bool true]) (by simp [results,Tryz.results48,go_sem,r0,r1]) rfl (evalSome HFin.out rfl (below_set2 (HB4.out.trans (HB6.out.mono HB4.out.size)) (Nat.le_refl w.heap.size) _ _))
     ·have to_:(sx.toList == [124,124]) = false:=lit_ne (fun e=>hmo (bytes_of e))
      have hns:¬ ((sx = mAnd2 ∧ vn = 0) ∨ (sx = mOr2 ∧ vn ≠ 0)):=by rintro (⟨h,_⟩ | ⟨h,_⟩);exact hma h;exact hmo h
      clear hma hmo
      have hm1:1 < P.length:=by omega
      have HE1:=Hd (HIh.out P[1] (List.getElem_mem hm1))
      have HT1:=Hd (HI.out P[1] (List.getElem_mem hm1))
      have HV1:=Hd (getD_map V P 1 none hm1)
      have HPs4:=Hd ((HPs.out.below HB34.out (Nat.le_refl _)))
      obtain ⟨pb1,po1,hpa,hpl1,c1⟩:=nats_at HPs4.out hm1
      cases hpa
      generalize P[1] = p1 at *
      have HE5:=Hd (HE1.out w4 HF4.out)
      rcases hv1:V p1 with _ | ⟨ut,un⟩
      ·rw [hv1] at HE5 HV1
       have HE5:=Hd (evalRaw0 HE5.out)
       go_upto_region 26 with (go_at_call 48;(with_reducible refine HE5.out.mono ?_);rintro e w5 ⟨⟨ut,un,rfl⟩,hb5⟩;have HB5:=Hd hb5;clear hb5)
       have HN6:=Hd (numAt_new w5 (ut,un))
       have HB46:=Hd (HB5.out.trans ((ba1 w5 (numO (ut,un))).mono HB5.out.size))
       simp only [numO] at HN6 HB46
       generalize hub:w5.heap.size = ub at *
       have hur:w.heap.size ≠ ub:=by have:=HB5.out.size;have:=HR4.out.lt;omega
       generalize w5.alloc (.cells #[.string ut,.int .i64 un] 50) = w6 at *
       clear x0 x3 x4 x5 y0 y1 r0 r1 f0 f1
       obtain ⟨⟨u0,u1⟩,_⟩:=HN6.out.cells
       obtain ⟨⟨y0,y1⟩,_⟩:=(HN4.out.below HB46.out).cells
       obtain ⟨⟨x0,_,_,x3,x4,x5⟩,_⟩:=six_block (HQ4.out.below HB46.out)
       obtain ⟨⟨r0,r1⟩,rf⟩:=(HR4.out.below HB46.out).cells
       have f0:=rf 0
       have f1:=rf 1
       clear rf
       have HBe:=Hd (HB4.out.trans (HB46.out.mono HB4.out.size))
       have HFin:=Hd (show evalN L ⟨7,n,pp,ii,sx,ty⟩ (kindN ⟨7,n,pp,ii,sx,ty⟩ (P.map K)) (P.map V) = none from by unfold evalN;rw [HV0.out];simp only [show ((7:Int) = 1) = False by simp,show ((7:Int) = 17) = False by simp,show ((7:Int) = 4) = False by simp,show ((7:Int) = 15) = False by simp,show ((7:Int) = 9) = False by simp,if_false];rw [if_neg hns];rw [HV1.out])
       clear hns
       go_wp2_with fail
       exact bodyPost_ret (v:=.tuple #[.agg #[.string ut,.int .i64 un],.bool false]) (by simp [results,Tryz.results48,go_sem,r0,r1]) rfl (evalNone HFin.out (below_set2 HBe.out (Nat.le_refl w.heap.size) _ _))
      ·rw [hv1] at HE5 HV1 HT1
       have HE5:=Hd (evalRaw1 HE5.out)
       have huj:=HT1.out _ rfl
       simp only at huj
       go_upto_region 26 with (go_at_call 48;(with_reducible refine HE5.out.mono ?_);rintro e w5 ⟨rfl,hb5⟩;have HB5:=Hd hb5;clear hb5)
       have HN6:=Hd (numAt_new w5 (ut,un))
       have HB46:=Hd (HB5.out.trans ((ba1 w5 (numO (ut,un))).mono HB5.out.size))
       simp only [numO] at HN6 HB46
       generalize hub:w5.heap.size = ub at *
       have hur:w.heap.size ≠ ub:=by have:=HB5.out.size;have:=HR4.out.lt;omega
       generalize w5.alloc (.cells #[.string ut,.int .i64 un] 50) = w6 at *
       clear x0 x3 x4 x5 y0 y1 r0 r1 f0 f1
       obtain ⟨⟨u0,u1⟩,_⟩:=HN6.out.cells
       obtain ⟨⟨y0,y1⟩,_⟩:=(HN4.out.below HB46.out).cells
       obtain ⟨⟨x0,_,_,x3,x4,x5⟩,_⟩:=six_block (HQ4.out.below HB46.out)
       obtain ⟨⟨r0,r1⟩,rf⟩:=(HR4.out.below HB46.out).cells
       have f0:=rf 0
       have f1:=rf 1
       clear rf
       have HBe:=Hd (HB4.out.trans (HB46.out.mono HB4.out.size))
       have HBi:=Hd (binary_ok sx hmk (vt,vn) (ut,un) hvi huj w6 (HF4.out.below HB46.out).te)
       simp only at HBi
       have HFin:=Hd (show evalN L ⟨7,n,pp,ii,sx,ty⟩ (kindN ⟨7,n,pp,ii,sx,ty⟩ (P.map K)) (P.map V) = binI sx vt vn ut un from by unfold evalN;rw [HV0.out];simp only [show ((7:Int) = 1) = False by simp,show ((7:Int) = 17) = False by simp,show ((7:Int) = 4) = False by simp,show ((7:Int) = 15) = False by simp,show ((7:Int) = 9) = False by simp,if_false];rw [if_neg hns];rw [HV1.out])
       clear hns
       generalize binI sx vt vn ut un = r at *
       rcases r with _ | ⟨rt,rn⟩
       ·unfold numR numV at HBi
        simp only at HBi
        go_wp2_with (go_at_call 29;(with_reducible refine HBi.out.mono ?_);rintro e w8 ⟨rfl,hb8⟩;have HB8:=Hd hb8;clear hb8;clear r0 r1 f0 f1;obtain ⟨⟨r0,r1⟩,rf⟩:=((HR4.out.below HB46.out).below HB8.out).cells;have f0:=rf 0;have f1:=rf 1;clear rf)
        exact bodyPost_ret (v:=.tuple #[.agg #[.string ⟨#[]⟩,.int .i64 0],.bool false]) (by simp [results,Tryz.results48,go_sem,r0,r1]) rfl (evalNone HFin.out (below_set2 (HBe.out.trans (HB8.out.mono HBe.out.size)) (Nat.le_refl w.heap.size) _ _))
       ·unfold numR numV at HBi
        simp only at HBi
        go_wp2_with (go_at_call 29;(with_reducible refine HBi.out.mono ?_);rintro e w8 ⟨rfl,hb8⟩;have HB8:=Hd hb8;clear hb8;clear r0 r1 f0 f1;obtain ⟨⟨r0,r1⟩,rf⟩:=((HR4.out.below HB46.out).below HB8.out).cells;have f0:=rf 0;have f1:=rf 1;clear rf)
        exact bodyPost_ret (v:=.tuple #[.agg #[.string rt,.int .i64 rn],.bool true]) (by simp [results,Tryz.results48,go_sem,r0,r1]) rfl (evalSome HFin.out rfl (below_set2 (HBe.out.trans (HB8.out.mono HBe.out.size)) (Nat.le_refl w.heap.size) _ _))
  ·clear h7 h9 h15
   obtain ⟨hlen,hmk⟩:=h4 rfl
   clear h4
   have hm0:0 < P.length:=by omega
   have HE0:=Hd (HIh.out P[0] (List.getElem_mem hm0))
   have HT0:=Hd (HI.out P[0] (List.getElem_mem hm0))
   have HV0:=Hd (getD_map V P 0 none hm0)
   obtain ⟨pb,po,hpa,hpl,c0⟩:=nats_at HPs.out hm0
   rw [Nat.add_zero] at c0
   subst hpa
   generalize P[0] = p0 at *
   have HE:=Hd (HE0.out wc HFx.out)
   rcases hv0:V p0 with _ | ⟨vt,vn⟩
   ·rw [hv0] at HE HV0
    have HE:=Hd (evalRaw0 HE.out)
    go_upto_region 9 with (go_at_call 48;(with_reducible refine HE.out.mono ?_);rintro e w3 ⟨⟨vt,vn,rfl⟩,hb3⟩;have HB3:=Hd hb3;clear hb3)
    have HN4:=Hd (numAt_new w3 (vt,vn))
    have HB34:=Hd (HB3.out.trans ((ba1 w3 (numO (vt,vn))).mono HB3.out.size))
    simp only [numO] at HN4 HB34
    generalize hnb:w3.heap.size = nb at *
    have hnr:w.heap.size ≠ nb:=by have:=HB3.out.size;omega
    generalize w3.alloc (.cells #[.string vt,.int .i64 vn] 50) = w4 at *
    have HR4:=Hd (HRx.out.below HB34.out)
    have HQ4:=Hd (HQ.out.below HB34.out)
    have HF4:=Hd (HFx.out.below HB34.out)
    have HB4:=Hd (HBx.out.trans (HB34.out.mono HBx.out.size))
    have c0s:=HB34.out.size
    clear x0 x3 x4 x5
    obtain ⟨⟨x0,_,_,x3,x4,x5⟩,_⟩:=six_block HQ4.out
    obtain ⟨⟨y0,y1⟩,_⟩:=HN4.out.cells
    obtain ⟨⟨r0,r1⟩,rf⟩:=HR4.out.cells
    have f0:=rf 0
    have f1:=rf 1
    clear rf
    have HFin:=Hd (show evalN L ⟨4,n,pp,ii,sx,ty⟩ (kindN ⟨4,n,pp,ii,sx,ty⟩ (P.map K)) (P.map V) = none from by unfold evalN;rw [HV0.out];rfl)
    go_wp2_with fail
    exact bodyPost_ret (v:=.tuple #[.agg #[.string vt,.int .i64 vn],.bool false]) (by simp [results,Tryz.results48,go_sem,r0,r1]) rfl (evalNone HFin.out (below_set2 HB4.out (Nat.le_refl w.heap.size) _ _))
   ·rw [hv0] at HE HV0 HT0
    have HE:=Hd (evalRaw1 HE.out)
    have hvi:=HT0.out _ rfl
    simp only at hvi
    go_upto_region 9 with (go_at_call 48;(with_reducible refine HE.out.mono ?_);rintro e w3 ⟨rfl,hb3⟩;have HB3:=Hd hb3;clear hb3)
    have HN4:=Hd (numAt_new w3 (vt,vn))
    have HB34:=Hd (HB3.out.trans ((ba1 w3 (numO (vt,vn))).mono HB3.out.size))
    simp only [numO] at HN4 HB34
    generalize hnb:w3.heap.size = nb at *
    have hnr:w.heap.size ≠ nb:=by have:=HB3.out.size;omega
    generalize w3.alloc (.cells #[.string vt,.int .i64 vn] 50) = w4 at *
    have HR4:=Hd (HRx.out.below HB34.out)
    have HQ4:=Hd (HQ.out.below HB34.out)
    have HF4:=Hd (HFx.out.below HB34.out)
    have HB4:=Hd (HBx.out.trans (HB34.out.mono HBx.out.size))
    have c0s:=HB34.out.size
    clear x0 x3 x4 x5
    obtain ⟨⟨x0,_,_,x3,x4,x5⟩,_⟩:=six_block HQ4.out
    obtain ⟨⟨y0,y1⟩,_⟩:=HN4.out.cells
    obtain ⟨⟨r0,r1⟩,rf⟩:=HR4.out.cells
    have f0:=rf 0
    have f1:=rf 1
    clear rf
    obtain ⟨⟨rt,rn⟩,hr⟩:=unI_some (x:=vt) (a:=vn) hmk
    have HUn:=Hd (unary_ok sx hmk (vt,vn) hvi w4 HF4.out.te)
    simp only at HUn
    have HFin:=Hd (show evalN L ⟨4,n,pp,ii,sx,ty⟩ (kindN ⟨4,n,pp,ii,sx,ty⟩ (P.map K)) (P.map V) = some (rt,rn) from by unfold evalN;rw [HV0.out];exact hr)
    rw [hr] at HUn
    unfold numR numV at HUn
    simp only at HUn
    clear hr
    go_wp2_with (go_at_call 39;(with_reducible refine HUn.out.mono ?_);rintro e w8 ⟨rfl,hb8⟩;have HB8:=Hd hb8;clear hb8;clear r0 r1 f0 f1;obtain ⟨⟨r0,r1⟩,rf⟩:=(HR4.out.below HB8.out).cells;have f0:=rf 0;have f1:=rf 1;clear rf)
    exact bodyPost_ret (v:=.tuple #[.agg #[.string rt,.int .i64 rn],.bool true]) (by simp [results,Tryz.results48,go_sem,r0,r1]) rfl (evalSome HFin.out rfl (below_set2 (HB4.out.trans (HB8.out.mono HB4.out.size)) (Nat.le_refl w.heap.size) _ _))
  ·clear h4 h7 h9
   have hlen:=h15 rfl
   clear h15
   have hm0:0 < P.length:=by omega
   have HE0:=Hd (HIh.out P[0] (List.getElem_mem hm0))
   have HT0:=Hd (HI.out P[0] (List.getElem_mem hm0))
   have HV0:=Hd (getD_map V P 0 none hm0)
   obtain ⟨pb,po,hpa,hpl,c0⟩:=nats_at HPs.out hm0
   rw [Nat.add_zero] at c0
   subst hpa
   generalize P[0] = p0 at *
   have HE:=Hd (HE0.out wc HFx.out)
   rcases hv0:V p0 with _ | ⟨vt,vn⟩
   ·rw [hv0] at HE HV0
    have HE:=Hd (evalRaw0 HE.out)
    go_upto_region 9 with (go_at_call 48;(with_reducible refine HE.out.mono ?_);rintro e w3 ⟨⟨vt,vn,rfl⟩,hb3⟩;have HB3:=Hd hb3;clear hb3)
    have HN4:=Hd (numAt_new w3 (vt,vn))
    have HB34:=Hd (HB3.out.trans ((ba1 w3 (numO (vt,vn))).mono HB3.out.size))
    simp only [numO] at HN4 HB34
    generalize hnb:w3.heap.size = nb at *
    have hnr:w.heap.size ≠ nb:=by have:=HB3.out.size;omega
    generalize w3.alloc (.cells #[.string vt,.int .i64 vn] 50) = w4 at *
    have HR4:=Hd (HRx.out.below HB34.out)
    have HQ4:=Hd (HQ.out.below HB34.out)
    have HF4:=Hd (HFx.out.below HB34.out)
    have HB4:=Hd (HBx.out.trans (HB34.out.mono HBx.out.size))
    have c0s:=HB34.out.size
    clear x0 x3 x4 x5
    obtain ⟨⟨x0,_,_,x3,x4,x5⟩,_⟩:=six_block HQ4.out
    obtain ⟨⟨y0,y1⟩,_⟩:=HN4.out.cells
    obtain ⟨⟨r0,r1⟩,rf⟩:=HR4.out.cells
    have f0:=rf 0
    have f1:=rf 1
    clear rf
    have HFin:=Hd (show evalN L ⟨15,n,pp,ii,sx,ty⟩ (kindN ⟨15,n,pp,ii,sx,ty⟩ (P.map K)) (P.map V) = none from by unfold evalN;rw [HV0.out];rfl)
    go_wp2_with fail
    exact bodyPost_ret (v:=.tuple #[.agg #[.string vt,.int .i64 vn],.bool false]) (by simp [results,Tryz.results48,go_sem,r0,r1]) rfl (evalNone HFin.out (below_set2 HB4.out (Nat.le_refl w.heap.size) _ _))
   ·rw [hv0] at HE HV0 HT0
    have HE:=Hd (evalRaw1 HE.out)
    have hvi:=HT0.out _ rfl
    simp only at hvi
    go_upto_region 9 with (go_at_call 48;(with_reducible refine HE.out.mono ?_);rintro e w3 ⟨rfl,hb3⟩;have HB3:=Hd hb3;clear hb3)
    have HN4:=Hd (numAt_new w3 (vt,vn))
    have HB34:=Hd (HB3.out.trans ((ba1 w3 (numO (vt,vn))).mono HB3.out.size))
    simp only [numO] at HN4 HB34
    generalize hnb:w3.heap.size = nb at *
    have hnr:w.heap.size ≠ nb:=by have:=HB3.out.size;omega
    generalize w3.alloc (.cells #[.string vt,.int .i64 vn] 50) = w4 at *
    have HR4:=Hd (HRx.out.below HB34.out)
    have HQ4:=Hd (HQ.out.below HB34.out)
    have HF4:=Hd (HFx.out.below HB34.out)
    have HB4:=Hd (HBx.out.trans (HB34.out.mono HBx.out.size))
    have c0s:=HB34.out.size
    clear x0 x3 x4 x5
    obtain ⟨⟨x0,_,_,x3,x4,x5⟩,_⟩:=six_block HQ4.out
    obtain ⟨⟨y0,y1⟩,_⟩:=HN4.out.cells
    obtain ⟨⟨r0,r1⟩,rf⟩:=HR4.out.cells
    have f0:=rf 0
    have f1:=rf 1
    clear rf
    have HA:=Hd (fun w=>as_ok vn ty w)
    generalize hr:asI vn ty = r at *
    have HFin:=Hd (show evalN L ⟨15,n,pp,ii,sx,ty⟩ (kindN ⟨15,n,pp,ii,sx,ty⟩ (P.map K)) (P.map V) = some (ty,r) from by unfold evalN;rw [HV0.out,← hr];rfl)
    clear hr
    go_upto_region 15 with fail
    go_region_with (go_at_call 30;(with_reducible refine (HA.out _).mono ?_);rintro e w8 ⟨rfl,rfl⟩)
    all_goals
     go_wp2_with fail
     exact bodyPost_ret (v:=.tuple #[.agg #[.string ty,.int .i64 r],.bool true]) (by simp [results,Tryz.results48,go_sem,r0,r1]) rfl (evalSome HFin.out rfl ((below_set2 HB4.out (Nat.le_refl w.heap.size) _ _).drew))
  ·clear h4 h7 h9 h15
   obtain ⟨_,z1,_⟩:=HFx.out.cells
   have HS:=Hd (fun (w':World) (h:FoldAt B w' f (some ⟨ba,off,none⟩) cap t l lc L mv b cb fr)=>size_ok ty l lc L mv w' h.te (h.srs.mono h.le))
   have HS2:=Hd (HS.out _ (HFx.out.below (Below.refl _ _).drew))
   have HFin:=Hd (show evalN L ⟨17,n,pp,ii,sx,ty⟩ (kindN ⟨17,n,pp,ii,sx,ty⟩ (P.map K)) (P.map V) = some (uText12,(sizeR L ty).1) from by rfl)
   generalize sizeR L ty = sz at *
   obtain ⟨s1,s2,s3⟩:=sz
   simp only at HS2 HFin
   go_upto_region 6 with fail
   go_region_with (go_at_call 79;(with_reducible refine HS2.out.mono ?_);rintro e w3 ⟨rfl,hb3⟩;have HB3:=Hd (show Below wc.heap.size wc w3 from (Below.refl _ _).drew.trans (hb3.mono (Nat.le_refl _)));clear hb3;obtain ⟨⟨r0,r1⟩,rf⟩:=(HRx.out.below HB3.out).cells;have f0:=rf 0;have f1:=rf 1;clear rf)
   all_goals
    go_wp2_with fail
    exact bodyPost_ret (v:=.tuple #[.agg #[.string ⟨#[117]⟩,.int .i64 s1],.bool true]) (by simp [results,Tryz.results48,go_sem,r0,r1]) rfl (evalSome HFin.out rfl (below_set2 (HBx.out.trans (HB3.out.mono HBx.out.size)) (Nat.le_refl w.heap.size) _ _))
end Go.Proofs.YtlcfejgjeljjdaaGreatDoor
