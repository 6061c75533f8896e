/- What a part comes to: the reference of fold. -/
import Derived.Test.YtlcfejgjeljjdaaGreatDoorFoldRE
namespace Go.Proofs.YtlcfejgjeljjdaaGreatDoor
open Go.RowKit
def ValEnd:Option Num → World → Ending → World → Prop
 | none,w,e,w'=>(∃ n,e = .returned (.tuple #[.int .i64 n,.bool false])) ∧ Below w.heap.size w w'
 | some v,w,e,w'=>e = .returned (.tuple #[.int .i64 v.2,.bool true]) ∧ Below w.heap.size w w'
theorem valEnd_none {r:Option Num} {n:Int} {w w':World} (h:r = none) (hb:Below w.heap.size w w'):ValEnd r w (.returned (.tuple #[.int .i64 n,.bool false])) w':=by subst h;exact ⟨⟨n,rfl⟩,hb⟩
theorem valEnd_some {r:Option Num} {t:ByteArray} {n:Int} {w w':World} (h:r = some (t,n)) (hb:Below w.heap.size w w'):ValEnd r w (.returned (.tuple #[.int .i64 n,.bool true])) w':=by subst h;exact ⟨rfl,hb⟩
theorem valRaw0 {F:FuncId} {xs:Array Value} {w:World} (h:Calls Tryz.prog F xs w (ValEnd none w)):Calls Tryz.prog F xs w fun e w'=>(∃ n,e = .returned (.tuple #[.int .i64 n,.bool false])) ∧ Below w.heap.size w w':=h
theorem valRaw1 {F:FuncId} {xs:Array Value} {w:World} {t:ByteArray} {n:Int} (h:Calls Tryz.prog F xs w (ValEnd (some (t,n)) w)):Calls Tryz.prog F xs w fun e w'=>e = .returned (.tuple #[.int .i64 n,.bool true]) ∧ Below w.heap.size w w':=h
theorem suchRaw {F:FuncId} {xs:Array Value} {w:World} {s:ByteArray} (h:Calls Tryz.prog F xs w (SuchEnd true s w)):Calls Tryz.prog F xs w fun e w'=>e = .returned (.tuple #[.string s,.bool true]) ∧ Below w.heap.size w w':=
 h.mono fun e w' ⟨⟨u,he,hu⟩,hb⟩=>by obtain rfl:=hu rfl;exact ⟨he,hb⟩
theorem unE_kept {m x:ByteArray} {a:Int} (hm:Lib.containsS unMarks m = true) (hx:IntT x) (hk:asI a x = a):∃ v,unI m x a = some v ∧ unE m a x = (v.2,v.1,0):=by
 have hu:unE m a x = match unI m x a with | none=>(0,⟨#[]⟩,0) | some v=>(v.2,v.1,0):=by
  unfold unE
  rw [if_neg (by rw [hm];simp),if_neg (by rw [isIntS_of hx];simp),hk]
  rfl
 rcases mem_un hm with rfl | rfl | rfl
 ·exact ⟨_,rfl,by rw [hu];rfl⟩
 ·exact ⟨_,rfl,by rw [hu];rfl⟩
 ·exact ⟨_,rfl,by rw [hu];rfl⟩
theorem binE_kept {m x y:ByteArray} {a b:Int} (hm:Lib.containsS binMarks m = true) (hx:IntT x) (hy:IntT y) (ha:asI a x = a) (hb:asI b y = b):binE m a x b y = match binI m x a y b with | none=>(0,⟨#[]⟩,120) | some v=>(v.2,v.1,0):=by
 unfold binE
 rw [if_neg (by rw [hm];simp),if_neg (by rw [isIntS_of hx,isIntS_of hy];simp),ha,hb]
 rfl
theorem evalN_2 {L:List Sr} {x:Nd} {kd:ByteArray} {P:List Nat} {V:Nat → Option Num} (h1:x.kind ≠ 1) (h2:x.kind ≠ 17) {p0:Nat} {r:List Nat} (hP:P = p0 :: r) (hv:V p0 = none):evalN L x kd (P.map V) = none:=by
 subst hP
 unfold evalN
 rw [if_neg h1,if_neg h2]
 simp only [List.map_cons,List.getD_cons_zero,hv]
set_option maxRecDepth 100000 in
set_option maxHeartbeats 16000000 in
theorem value_step {a:Option Addr} {cap:Nat} {t:List Nd} {l:Option Addr} {lc:Nat} {L:List Sr} {mv:List Value} {fr:List Nat} {k:Nat} {x:Nd} {P:List Nat} {G:Nat → ByteArray} {V:Nat → Option Num} {kd:ByteArray} (w:World) (hA:RAt w a t l L mv) (hl:t.length ≤ 4096) (hb:beginsN t = some fr) (hx:t[k]? = some x) (hP:partsAt t fr k = P) (hlc:L.length ≤ lc) (hcm:lc ≤ maxLen)
 (hkn:x.kind = 1 ∨ x.kind = 9 ∨ x.kind = 7 ∨ x.kind = 4 ∨ x.kind = 15 ∨ x.kind = 17) (h1:x.kind = 4 ∨ x.kind = 15 → P.length = 1) (h2:x.kind = 7 → P.length = 2) (h3:x.kind = 9 → P.length = 3)
 (hnum:x.kind = 1 → asI x.int x.type = x.int) (hun:x.kind = 4 → Lib.containsS unMarks x.text = true) (hbn:x.kind = 7 → Lib.containsS binMarks x.text = true)
 (hG:∀ p ∈ P,IntT (G p)) (hV:∀ p ∈ P,∀ v,V p = some v → v.1 = G p ∧ Kept v)
 (hsu:∀ w',RAt w' a t l L mv → Calls Tryz.prog 24 #[.slice a t.length cap,.slice l L.length lc,.int .i64 (k:Int)] w' (SuchEnd true kd w'))
 (hsp:∀ p ∈ P,∀ w',RAt w' a t l L mv → Calls Tryz.prog 24 #[.slice a t.length cap,.slice l L.length lc,.int .i64 (p:Int)] w' (SuchEnd true (G p) w'))
 (ih:∀ p ∈ P,∀ w',RAt w' a t l L mv → Calls Tryz.prog 25 #[.slice a t.length cap,.slice l L.length lc,.int .i64 (p:Int)] w' (ValEnd (V p) w')) :
 Calls Tryz.prog 25 #[.slice a t.length cap,.slice l L.length lc,.int .i64 (k:Int)] w (ValEnd (evalN L x kd (P.map V)) w):=by
 obtain ⟨hkl,hgx⟩:=List.getElem?_eq_some_iff.1 hx
 have HPt:=Hd (fun w' (h:RAt w' a t l L mv)=>hP ▸ rparts_ok a cap t fr w' h.nodes hl hb k hkl)
 have HA:=Hd hA
 have HSu:=Hd (fun w' (h:RAt w' a t l L mv)=>suchRaw (hsu w' h))
 have HSp:=Hd (fun p (hp:p ∈ P) w' (h:RAt w' a t l L mv)=>suchRaw (hsp p hp w' h))
 have HIh:=Hd ih
 obtain ⟨ba,off,ha,hbl,x0,x1,x2,x3,x4,x5⟩:=nds_at hA.nodes hkl
 rw [hgx] at x0 x1 x2 x3 x4 x5
 subst ha
 have HG:=Hd (fun p hp=>(hG p hp))
 have HV:=Hd hV
 have H1:=Hd (And.intro h1 (And.intro h2 h3))
 have HM:=Hd (And.intro hnum (And.intro hun hbn))
 have HK:=Hd hkn
 have HSz:=Hd (fun w' (h:RAt w' (some ⟨ba,off,none⟩) t l L mv) s=>refSizeAll_ok s l lc L mv w' h.srs hlc hcm)
 unfold PartEnd at HPt
 clear hA hb hx hP hG hV h1 h2 h3 hnum hun hbn hkn ih hgx hsu hsp
 obtain ⟨kk,n,pp,ii,sx,ty⟩:=x
 simp only at x0 x1 x2 x3 x4 x5 H1 HM HK
 go_enter Tryz.func25,Tryz.ntmps25
 go_upto_region 2 with fail
 have hq:=nodeAt_new w ⟨kk,n,pp,ii,sx,ty⟩
 have hbn:=ba1 w (ndObj ⟨kk,n,pp,ii,sx,ty⟩)
 simp only [ndObj] at hq hbn
 generalize w.alloc (.cells #[.int .i64 kk,.int .i64 n,.int .i64 pp,.int .i64 ii,.string sx,.string ty] 42) = w2 at *
 clear x0 x1 x2 x3 x4 x5
 have HQ:=Hd hq
 have HB2:=Hd hbn
 have HA2:=Hd (HA.out.below hbn)
 clear hq hbn
 have HP2:=Hd (HPt.out w2 HA2.out)
 go_upto_region 4 with (first
  | (go_at_call 51;(with_reducible refine HP2.out.mono ?_);rintro e w3 ⟨⟨v,rfl,hrow⟩,hb3⟩;obtain ⟨pa,pc,rfl,hpn,_⟩:=hrow.is;have HN3:=Hd hpn;have HB3:=Hd hb3;have HS3:=Hd (HSu.out w3 (HA2.out.below hb3));clear hrow hpn hb3)
  | (go_at_call 24;(with_reducible refine HS3.out.mono ?_);rintro e w5 ⟨rfl,hb5⟩;have HB5:=Ht HB3 hb5;have HN5:=Hd ((HN3.out.below hb5 (Nat.le_refl _)).mono hb5.size);clear hb5))
 have HA5:=Hd (HA2.out.below HB5.out)
 have HBx:=Hd (HB2.out.trans (HB5.out.mono HB2.out.size))
 have HNd:=Hd (fun w' (h:Below w5.heap.size w5 w')=>(six_block ((HQ.out.below HB5.out).below h)).1)
 obtain ⟨x0,x1,x2,x3,x4,x5⟩:=HNd.out w5 (Below.refl _ _)
 generalize w.heap.size = qb at HNd x0 x1 x2 x3 x4 x5 ⊢
 -- BEGIN
 by_cases k1:kk = 1
 ·subst k1
  have HF:=Hd (show evalN L ⟨1,n,pp,ii,sx,ty⟩ kd (P.map V) = some (ty,ii) from by unfold evalN;simp only;rw [if_pos trivial,HM.out.1 rfl])
  go_wp2_with fail
  go_ret2
  exact valEnd_some HF.out HBx.out
 by_cases k17:kk = 17
 ·subst k17
  have HF:=Hd (show evalN L ⟨17,n,pp,ii,sx,ty⟩ kd (P.map V) = some (uText12,(sizeR L ty).1) from by unfold evalN;simp only;rw [if_neg (by decide),if_pos trivial])
  have HSz1:=Hd (HSz.out w5 HA5.out ty)
  generalize sizeR L ty = z at HSz1 HF
  obtain ⟨z1,z2,z3⟩:=z
  simp only at HSz1 HF
  go_wp2_with (go_at_call 52;(with_reducible refine HSz1.out.mono ?_);rintro e w6 ⟨rfl,hbw6⟩;have HBw6:=Ht HBx hbw6;clear hbw6)
  go_ret2
  exact valEnd_some HF.out HBw6.out
 obtain ⟨p0,r0,rfl⟩:∃ p0 r0,P = p0 :: r0:=by
  have hl:0 < P.length:=by
   rcases HK.out with h | h | h | h | h | h
   ·exact absurd h k1
   ·have:=H1.out.2.2 h;omega
   ·have:=H1.out.2.1 h;omega
   ·have:=H1.out.1 (.inl h);omega
   ·have:=H1.out.1 (.inr h);omega
   ·exact absurd h k17
  cases P with
  | nil=>simp at hl
  | cons p0 r0=>exact ⟨p0,r0,rfl⟩
 have t1:(kk == 1) = false:=by simpa using k1
 have t17:(kk == 17) = false:=by simpa using k17
 obtain ⟨pb,po,hpa,hpb,c0⟩:=nats_at HN5.out (show 0 < (p0 :: r0).length by simp)
 subst hpa
 rw [Nat.add_zero,List.getElem_cons_zero] at c0
 have HC0:=Hd (fun w' (h:Below w5.heap.size w5 w')=>(h.cell (p:=⟨pb,po,none⟩) hpb).trans c0)
 have HI0:=Hd (HIh.out p0 (by simp) w5 HA5.out)
 rcases hv:V p0 with _ | ⟨vt,vn⟩
 ·rw [hv] at HI0
  have HI1:=Hd (valRaw0 HI0.out)
  have HF:=Hd (evalN_2 (L:=L) (x:=⟨kk,n,pp,ii,sx,ty⟩) (kd:=kd) (P:=p0 :: r0) (V:=V) k1 k17 rfl hv)
  clear k1 k17 hv
  go_wp2_with (go_at_call 25;(with_reducible refine HI1.out.mono ?_);rintro e w6 ⟨⟨n1,rfl⟩,hbw6⟩;have HBw6:=Ht HBx hbw6;clear hbw6)
  go_ret2
  exact valEnd_none HF.out HBw6.out
 rw [hv] at HI0
 have HI1:=Hd (valRaw1 HI0.out)
 obtain ⟨hvt,hkv⟩:=HV.out p0 (by simp) _ hv
 simp only at hvt
 subst hvt
 unfold Kept at hkv
 simp only at hkv
 go_upto_region 14 with (first
  | (go_at_call 25;(with_reducible refine HI1.out.mono ?_);rintro e w6 ⟨rfl,hbw6⟩;have HBw6:=Hd (hbw6);have c0:=HC0.out w6 hbw6;have HS0:=Hd (HSp.out p0 (by simp) w6 (HA5.out.below hbw6));clear hbw6)
  | (go_at_call 24;(with_reducible refine HS0.out.mono ?_);rintro e w7 ⟨rfl,hbw7⟩;have HBw7:=Ht HBw6 hbw7;clear hbw7))
 have HBy:=Hd (HBx.out.trans (HBw7.out.mono HBx.out.size))
 have HA7:=Hd (HA5.out.below HBw7.out)
 obtain ⟨x0,x1,x2,x3,x4,x5⟩:=HNd.out w7 HBw7.out
 by_cases k4:kk = 4
 ·subst k4
  obtain ⟨v,hv1,hv2⟩:=unE_kept (HM.out.2.1 rfl) (HG.out p0 (by simp)) hkv
  have hu:=fun w=>runary_ok sx vn (G p0) w
  rw [hv2] at hu
  unfold trip at hu
  have HU:=Hd hu
  have HF:=Hd (show evalN L ⟨4,n,pp,ii,sx,ty⟩ kd ((p0 :: r0).map V) = some v from by unfold evalN;simp only [List.map_cons,List.getD_cons_zero,hv];rw [if_neg (by decide),if_neg (by decide),if_pos trivial,hv1])
  clear k1 k17 hv hv1 hv2 hu hkv
  obtain ⟨v1,v2⟩:=v
  simp only at HU
  go_wp2_with (go_at_call 16;(with_reducible refine (HU.out _).mono ?_);rintro e w8 ⟨rfl,hbw8⟩;have HBw8:=Ht HBy hbw8;clear hbw8)
  go_ret2
  exact valEnd_some HF.out HBw8.out
 have t4:(kk == 4) = false:=by simpa using k4
 by_cases k15:kk = 15
 ·subst k15
  have HF:=Hd (show evalN L ⟨15,n,pp,ii,sx,ty⟩ kd ((p0 :: r0).map V) = some (ty,asI vn ty) from by unfold evalN;simp only [List.map_cons,List.getD_cons_zero,hv];rw [if_neg (by decide),if_neg (by decide),if_neg (by decide),if_pos trivial])
  have HRa:=Hd (fun w=>ras_ok vn ty w)
  clear k1 k17 k4 hv hkv
  generalize asI vn ty = av at *
  go_wp2_with (go_at_call 34;(with_reducible refine (HRa.out _).mono ?_);rintro e wc ⟨rfl,hwc⟩;subst wc)
  go_ret2
  exact valEnd_some HF.out HBy.out
 have t15:(kk == 15) = false:=by simpa using k15
 by_cases k9:kk = 9
 ·subst k9
  obtain ⟨p1,p2,rfl⟩:∃ p1 p2,r0 = [p1,p2]:=by
   have:=H1.out.2.2 rfl
   match r0,this with
   | [p1,p2],_=>exact ⟨p1,p2,rfl⟩
  obtain ⟨_,_,e1,_,c1⟩:=nats_at HN5.out (show 1 < [p0,p1,p2].length by simp)
  cases e1
  obtain ⟨_,_,e2,_,c2⟩:=nats_at HN5.out (show 2 < [p0,p1,p2].length by simp)
  cases e2
  simp only [List.getElem_cons_succ,List.getElem_cons_zero] at c1 c2
  rw [← HBw7.out.cell hpb] at c1 c2
  have HEv:=Hd (show evalN L ⟨9,n,pp,ii,sx,ty⟩ kd ([p0,p1,p2].map V) = (V (if vn = 0 then p2 else p1)).map fun y=>(kd,asI y.2 kd) from by
   unfold evalN;simp only [List.map_cons,List.map_nil,List.getD_cons_zero,hv]
   rw [if_neg (by decide),if_neg (by decide),if_neg (by decide),if_neg (by decide),if_pos trivial]
   by_cases hz:vn = 0
   ·rw [if_pos hz,if_pos hz];rfl
   ·rw [if_neg hz,if_neg hz];rfl)
  clear k1 k17 k4 k15 hv hkv
  by_cases hz:vn = 0
  ·have t0:(vn != 0) = false:=by simpa using hz
   rw [if_pos hz] at HEv
   have HI2:=Hd (HIh.out p2 (by simp) w7 HA7.out)
   clear hz
   rcases hv:V p2 with _ | ⟨wt,wn⟩
   ·rw [hv] at HI2 HEv
    have HI3:=Hd (valRaw0 HI2.out)
    clear hv
    go_upto_region 25 with (go_at_call 25;(with_reducible refine HI3.out.mono ?_);rintro e w8 ⟨⟨n1,rfl⟩,hbw8⟩;have HBw8:=Ht HBy hbw8;clear hbw8)
    have HRa:=Hd (fun w=>ras_ok n1 kd w)
    go_wp2_with (go_at_call 34;(with_reducible refine (HRa.out _).mono ?_);rintro e wc ⟨rfl,hwc⟩;subst wc)
    go_ret2
    exact valEnd_none HEv.out HBw8.out
   ·rw [hv] at HI2 HEv
    have HI3:=Hd (valRaw1 HI2.out)
    have HRa:=Hd (fun w=>ras_ok wn kd w)
    clear hv
    go_wp2_with (first
     | (go_at_call 25;(with_reducible refine HI3.out.mono ?_);rintro e w8 ⟨rfl,hbw8⟩;have HBw8:=Ht HBy hbw8;clear hbw8)
     | (go_at_call 34;(with_reducible refine (HRa.out _).mono ?_);rintro e wc ⟨rfl,hwc⟩;subst wc))
    go_ret2
    exact valEnd_some HEv.out HBw8.out
  ·skip
   have t0:(vn != 0) = true:=by simpa using hz
   rw [if_neg hz] at HEv
   have HI2:=Hd (HIh.out p1 (by simp) w7 HA7.out)
   clear hz
   rcases hv:V p1 with _ | ⟨wt,wn⟩
   ·rw [hv] at HI2 HEv
    have HI3:=Hd (valRaw0 HI2.out)
    clear hv
    go_upto_region 25 with (go_at_call 25;(with_reducible refine HI3.out.mono ?_);rintro e w8 ⟨⟨n1,rfl⟩,hbw8⟩;have HBw8:=Ht HBy hbw8;clear hbw8)
    have HRa:=Hd (fun w=>ras_ok n1 kd w)
    go_wp2_with (go_at_call 34;(with_reducible refine (HRa.out _).mono ?_);rintro e wc ⟨rfl,hwc⟩;subst wc)
    go_ret2
    exact valEnd_none HEv.out HBw8.out
   ·rw [hv] at HI2 HEv
    have HI3:=Hd (valRaw1 HI2.out)
    have HRa:=Hd (fun w=>ras_ok wn kd w)
    clear hv
    go_wp2_with (first
     | (go_at_call 25;(with_reducible refine HI3.out.mono ?_);rintro e w8 ⟨rfl,hbw8⟩;have HBw8:=Ht HBy hbw8;clear hbw8)
     | (go_at_call 34;(with_reducible refine (HRa.out _).mono ?_);rintro e wc ⟨rfl,hwc⟩;subst wc))
    go_ret2
    exact valEnd_some HEv.out HBw8.out
 have t9:(kk == 9) = false:=by simpa using k9
 obtain rfl:kk = 7:=by
  rcases HK.out with h | h | h | h | h | h
  ·exact absurd h k1
  ·exact absurd h k9
  ·exact h
  ·exact absurd h k4
  ·exact absurd h k15
  ·exact absurd h k17
 obtain ⟨p1,rfl⟩:∃ p1,r0 = [p1]:=by
  have:=H1.out.2.1 rfl
  match r0,this with
  | [p1],_=>exact ⟨p1,rfl⟩
 obtain ⟨_,_,e1,_,c1⟩:=nats_at HN5.out (show 1 < [p0,p1].length by simp)
 cases e1
 simp only [List.getElem_cons_succ,List.getElem_cons_zero] at c1
 have HC1:=Hd (fun w' (h:Below w5.heap.size w5 w')=>(h.cell (p:=⟨pb,po + 1,none⟩) hpb).trans c1)
 have c1:=HC1.out w7 HBw7.out
 have HEv:=Hd (show evalN L ⟨7,n,pp,ii,sx,ty⟩ kd ([p0,p1].map V) = if (sx = mAnd2 ∧ vn = 0) ∨ (sx = mOr2 ∧ vn ≠ 0) then some (iText12,truthI (decide (vn ≠ 0))) else match V p1 with | none=>none | some y=>binI sx (G p0) vn y.1 y.2 from by
  unfold evalN;simp only [List.map_cons,List.map_nil,List.getD_cons_zero,hv]
  rw [if_neg (by decide),if_neg (by decide),if_neg (by decide),if_neg (by decide),if_neg (by decide)]
  rfl)
 have HBm:=Hd (HM.out.2.2 rfl)
 have HG0:=Hd (HG.out p0 (by simp))
 have HG1:=Hd (HG.out p1 (by simp))
 have HKv:=Hd hkv
 clear k1 k17 k4 k15 k9 hv hkv
 have q1:(sx.toList == [38,38]) = decide (sx = mAnd2):=by
  by_cases h:sx = mAnd2
  ·rw [decide_eq_true h,h];exact lit_eq rfl rfl
  ·rw [decide_eq_false h];exact lit_ne (fun e=>h (bytes_of e))
 have q2:(sx.toList == [124,124]) = decide (sx = mOr2):=by
  by_cases h:sx = mOr2
  ·rw [decide_eq_true h,h];exact lit_eq rfl rfl
  ·rw [decide_eq_false h];exact lit_ne (fun e=>h (bytes_of e))
 by_cases hs:(sx = mAnd2 ∧ vn = 0) ∨ (sx = mOr2 ∧ vn ≠ 0)
 ·have hcond:∃ b1 b2 b3,(sx.toList == [38,38]) = b1 ∧ (vn == 0) = b2 ∧ (sx.toList == [124,124]) = b3 ∧ (vn != 0) = !b2 ∧ ((b1 && b2) || (b3 && !b2)) = true:=by
   refine ⟨decide (sx = mAnd2),decide (vn = 0),decide (sx = mOr2),q1,beq_dec _ _,q2,by rw [bne_dec];simp,?_⟩
   simpa using hs
  obtain ⟨b1,b2,b3,t21,t22,t23,t24,t25⟩:=hcond
  have HT:=Hd (fun (b:Bool) w=>rtruth_ok b w)
  have HF:=Hd (show evalN L ⟨7,n,pp,ii,sx,ty⟩ kd ([p0,p1].map V) = some (iText12,truthI (!b2)) from by rw [HEv.out,if_pos hs,← t24,bne_dec])
  clear hs q1 q2
  rcases b1 with _ | _ <;> rcases b2 with _ | _ <;> rcases b3 with _ | _ <;> cases t25
  all_goals
   go_wp2_with (go_at_call 41;(with_reducible refine (HT.out _ _).mono ?_);rintro e wc ⟨rfl,hwc⟩;subst wc)
   go_ret2
   exact valEnd_some HF.out HBy.out
 ·have hcond:∃ b1 b2 b3,(sx.toList == [38,38]) = b1 ∧ (vn == 0) = b2 ∧ (sx.toList == [124,124]) = b3 ∧ (vn != 0) = !b2 ∧ ((b1 && b2) || (b3 && !b2)) = false:=by
   refine ⟨decide (sx = mAnd2),decide (vn = 0),decide (sx = mOr2),q1,beq_dec _ _,q2,by rw [bne_dec];simp,?_⟩
   rw [← Bool.not_eq_true]
   simpa using hs
  rw [if_neg hs] at HEv
  clear hs q1 q2
  have HI2:=Hd (HIh.out p1 (by simp) w7 HA7.out)
  rcases hv:V p1 with _ | ⟨wt,wn⟩
  ·rw [hv] at HI2 HEv
   have HI3:=Hd (valRaw0 HI2.out)
   clear hv
   obtain ⟨b1,b2,b3,t21,t22,t23,t24,t25⟩:=hcond
   rcases b1 with _ | _ <;> rcases b2 with _ | _ <;> rcases b3 with _ | _ <;> cases t25
   all_goals
    go_wp2_with (go_at_call 25;(with_reducible refine HI3.out.mono ?_);rintro e w8 ⟨⟨n1,rfl⟩,hbw8⟩;have HBw8:=Ht HBy hbw8;clear hbw8)
    go_ret2
    exact valEnd_none HEv.out HBw8.out
  ·rw [hv] at HI2 HEv
   have HI3:=Hd (valRaw1 HI2.out)
   obtain ⟨hwt,hkw⟩:=HV.out p1 (by simp) _ hv
   simp only at hwt
   subst hwt
   unfold Kept at hkw
   simp only at hkw HEv
   have hbe:=binE_kept (a:=vn) (b:=wn) HBm.out HG0.out HG1.out HKv.out hkw
   have HBi:=Hd (fun w=>rbinary_ok sx vn (G p0) wn (G p1) w)
   unfold trip at HBi
   clear hv hkw
   generalize binE sx vn (G p0) wn (G p1) = be at *
   generalize binI sx (G p0) vn (G p1) wn = bi at *
   obtain ⟨e1,e2,e3⟩:=be
   simp only at HBi
   obtain ⟨ok,hok,HFin⟩:∃ ok,(e3 == 0) = ok ∧ Hid (∀ w w',Below w.heap.size w w' → ValEnd (evalN L ⟨7,n,pp,ii,sx,ty⟩ kd ([p0,p1].map V)) w (.returned (.tuple #[.int .i64 e1,.bool ok])) w'):=by
    rcases bi with _ | ⟨b1,b2⟩
    ·simp only [Prod.mk.injEq] at hbe
     obtain ⟨rfl,rfl,rfl⟩:=hbe
     exact ⟨false,rfl,Hd (fun w w' h=>valEnd_none HEv.out h)⟩
    ·simp only [Prod.mk.injEq] at hbe
     obtain ⟨rfl,rfl,rfl⟩:=hbe
     exact ⟨true,rfl,Hd (fun w w' h=>valEnd_some HEv.out h)⟩
   clear hbe
   obtain ⟨b1,b2,b3,t21,t22,t23,t24,t25⟩:=hcond
   rcases b1 with _ | _ <;> rcases b2 with _ | _ <;> rcases b3 with _ | _ <;> cases t25
   all_goals
    go_wp2_with (first
     | (go_at_call 25;(with_reducible refine HI3.out.mono ?_);rintro e w8 ⟨rfl,hbw8⟩;have HBw8:=Ht HBy hbw8;have HB78:=Ht HBw7 hbw8;have c1:=HC1.out w8 HB78.out;have HS1:=Hd (HSp.out p1 (by simp) w8 (HA5.out.below HB78.out));clear hbw8)
     | (go_at_call 24;(with_reducible refine HS1.out.mono ?_);rintro e w9 ⟨rfl,hbw9⟩;have HBw9:=Ht HBw8 hbw9;have HB79:=Ht HB78 hbw9;obtain ⟨x0,x1,x2,x3,x4,x5⟩:=HNd.out w9 HB79.out;clear hbw9)
     | (go_at_call 14;(with_reducible refine (HBi.out _).mono ?_);rintro e w10 ⟨rfl,hbw10⟩;have HBw10:=Ht HBw9 hbw10;clear hbw10))
    go_ret2
    exact HFin.out _ _ HBw10.out
end Go.Proofs.YtlcfejgjeljjdaaGreatDoor
