/- The names of a unit: the program. -/
import Derived.Test.YtbbaooeioogijaaGreatDoorMg13
namespace Go.Proofs.YtbbaooeioogijaaGreatDoor
open Go.RowKit Go.Maps
set_option maxRecDepth 100000
set_option maxHeartbeats 16000000
def zev (A:Nat)(u:UnU)(w:World)(e:Ending)(w':World):Prop:=Below w.heap.size w w'∧match za1 u with
 | .inl p=>e=.returned (.tuple #[.pointer none,.agg #[.int .i64 p.1,.int .i64 p.2]])
 | .inr s=>∃B b mb,e=.returned (.tuple #[.pointer (some ⟨b,0,none⟩),.agg #[.int .i64 0,.int .i64 0]])∧w.heap.size≤B∧B≤w'.heap.size∧FileM A B w' b mb s
theorem zfQ {A:Nat}{u:UnU}{w w':World}{x c:Int}(h:za1 u=.inl (x,c))(hb:Below w.heap.size w w'):zev A u w (.returned (.tuple #[.pointer none,.agg #[.int .i64 x,.int .i64 c]])) w':=by
 unfold zev;rw[h];exact⟨hb,rfl⟩
theorem zoI {A:Nat}{u:UnU}{w w':World}{s:FileN}{B b mb:Nat}(h:za1 u=.inr s)(hb:Below w.heap.size w w')(h1:w.heap.size≤B)(h2:B≤w'.heap.size)(h3:FileM A B w' b mb s):zev A u w (.returned (.tuple #[.pointer (some ⟨b,0,none⟩),.agg #[.int .i64 0,.int .i64 0]])) w':=by
 unfold zev;rw[h];exact⟨hb,B,b,mb,rfl,h1,h2,h3⟩
theorem zq1 {A B b mb n:Nat}{w:World}{lv sv av:Value}{s:FileN}{m:ByteArray}{bd:Bnd}{Q:List (FnU × Value × Value)}(hlk:s.look m=none)
 (hR:FileR B w b mb sv av lv lv sv av (n+1) (fun t=>if t=m then some bd else s.look t) s.funcs.length (Q.flatMap zaA) (s.ents.length+1) ((s.ents.flatMap fun e=>bndCells e.2)++bndCells bd) (s.ents.length+1) ((s.ents.map fun e=>.string e.1)++[.string m]))
 (hQ:Q.map Prod.fst=s.funcs) (hF:∀q ∈ Q,IsFnU A w q.1 q.2.1 q.2.2) (hn:n≤s.ents.length+10) (hA:A≤B):FileM A B w b mb (s.put m bd):=by
 refine⟨hA,lv,sv,av,Q,n+1,?_,hQ,hF,by unfold FileN.put;simp;omega⟩;unfold FileN.put;simp only;rw[List.length_append,List.flatMap_append,List.map_append];exact hR.same fun t=>(zm3 hlk _ t).symm
theorem FileM.name {A B b mb:Nat}{w:World}{s:FileN}(h:FileM A B w b mb s):∃n,MapB w mb n s.look∧w.cell? ⟨b,0,none⟩=some (.map (some mb)):=by
 obtain⟨_,lv,sv,av,Q,n,hR,_⟩:=h;exact⟨n,hR.names,hR.cells.1.1⟩
theorem zoz {u:List GlU}{i:Nat}{s:FileN}{r:(Int × Int) ⊕ FileN}(h:zaY (u.drop i) i s=r)(hi:i<u.length){b:Bnd}(hb:s.look (u[i]'hi).var.name=some b):r=.inl ((u[i]'hi).at_,6):=by
 rw[← h,List.drop_eq_getElem_cons hi,zaY,hb]
theorem zoA {u:List GlU}{i:Nat}{s:FileN}{r:(Int × Int) ⊕ FileN}(h:zaY (u.drop i) i s=r)(hi:i<u.length)(hb:s.look (u[i]'hi).var.name=none):zaY (u.drop (i+1)) (i+1) (s.put (u[i]'hi).var.name ⟨1,(i:Int),(u[i]'hi).var.type⟩)=r:=by
 rw[List.drop_eq_getElem_cons hi,zaY,hb]at h;exact h
theorem zqK {u:List GlU}{s:FileN}{r:(Int × Int) ⊕ FileN}(h:zaY (u.drop u.length) u.length s=r):r=.inr s:=by
 rw[← h,List.drop_length,zaY]
theorem zqM {u:List FnU}{i:Nat}{s:FileN}{r:(Int × Int) ⊕ FileN}{c:Int}(h:zaP (u.drop i) s=r)(hi:i<u.length)(hb:oneF s (u[i]'hi)=.inl c):r=.inl ((u[i]'hi).at_,c):=by
 rw[← h,List.drop_eq_getElem_cons hi,zaP,hb]
theorem zoD {u:List FnU}{i:Nat}{s s':FileN}{r:(Int × Int) ⊕ FileN}(h:zaP (u.drop i) s=r)(hi:i<u.length)(hb:oneF s (u[i]'hi)=.inr s'):zaP (u.drop (i+1)) s'=r:=by
 rw[List.drop_eq_getElem_cons hi,zaP,hb]at h;exact h
theorem zqL {u:List FnU}{s:FileN}{r:(Int × Int) ⊕ FileN}(h:zaP (u.drop u.length) s=r):r=.inr s:=by
 rw[← h,List.drop_length,zaP]
theorem zpX {s:FileN}{x:FnU}{c:Int}(h:oneF s x=.inl c):c≠0:=by
 unfold oneF at h
 split at h
 ·split at h
  ·cases h;decide
  split at h
  ·cases h;decide
  split at h
  ·cases h;decide
  split at h<;>cases h
 ·split at h
  ·cases h;decide
  ·cases h
theorem zsD {s s':FileN}{x:FnU}(h:oneF s x=.inr s'):s'.ents.length≤s.ents.length+1:=by
 unfold oneF at h
 split at h
 ·split at h
  ·cases h
  split at h
  ·cases h
  split at h
  ·cases h
  split at h<;>(cases h;simp)
 ·split at h
  ·cases h
  ·cases h;simp
theorem zqY (w:World)(T:TypeId)(hT:T=73):FileR w.heap.size ((w.alloc (.map #[] 0)).alloc (.cells #[.map (some w.heap.size),.slice none 0 0,.slice none 0 0,.slice none 0 0] T)) (w.heap.size+1) w.heap.size (.slice none 0 0) (.slice none 0 0) (.slice none 0 0) (.slice none 0 0) (.slice none 0 0) (.slice none 0 0) 0 (fun _=>none) 0 [] 0 [] 0 []:=by
 subst hT;refine⟨by have:=zv8 (w.alloc (.map #[] 0)) (.cells #[.map (some w.heap.size),.slice none 0 0,.slice none 0 0,.slice none 0 0] 73);simpa using this,⟨by omega,by omega,by omega⟩,by simp;omega,zm0.below (ba1 _ _),World.ownsRow_nil _ _ _ _,World.ownsRow_nil _ _ _ _,World.ownsRow_nil _ _ _ _,fun k=>by refine⟨fun h=>?_,fun h=>?_,fun h=>?_⟩<;>cases h⟩
theorem zqV (A:Nat)(u:UnU)(vs vg vf:Value)(w:World)(hE:TE w)(hA:A≤w.heap.size)(hU:IsUn A w u vs vg vf) :
 Calls Tryz.prog 21 #[.agg #[vs,vg,vf]] w (zev A u w):=by
 have HU:=Hd hU;obtain⟨sa,sc,mv,rfl,hso,hS⟩:=hU.structs;have HGl:=Hd (fun (i:Nat) (hi:i<u.globals.length)=>zeS hU.globals hi);have HFl:=Hd (fun (i:Nat) (hi:i<u.funcs.length)=>zd4 hU.funcs hi);obtain⟨ag,cg,rfl,hlg⟩:=zbc hU.globals;obtain⟨af,cf,rfl,hlf⟩:=zbd hU.funcs;have hls:=hso.2.2.1;have HE:=Hd hE;clear hE hU hS hso;have hmm:=@run_makeMap Tryz.prog
 go_enter Tryz.func21,Tryz.ntmps21
 go_upto_region 1 with fail
 generalize hgQ:(w.alloc (.cells #[.slice sa u.structs.length sc,.slice ag u.globals.length cg,.slice af u.funcs.length cf] 26)).alloc (.cells #[.int .i64 0,.int .i64 0] 32)=w1 at *;obtain⟨hb1,hxq,hxr⟩:=box2 hgQ;clear hgQ;have HQ:=Hd (fun w' (h:Below w1.heap.size w1 w')=>(zac ((h.block _ (zaa hxq)).trans hxq)).1);have HR:=Hd (fun w' (h:Below w1.heap.size w1 w')=>zab ((h.block _ (zaa hxr)).trans hxr));have HB1:=Hd hb1;have HEx:=Hd (HE.out.below hb1);have HCk:=Hd (zkS u _ _ _ w1 HEx.out ((HU.out.mono hA).go hb1));have HBw:=Hd (fun w' (h:Below w1.heap.size w1 w')=>hb1.trans (h.mono hb1.size));have HLo1:=Hd (zaa hxr);unfold zfp at HCk;have hfl:=fun h=>(show (unitE u).2≠0→za1 u=.inl (unitE u) from fun h=>by unfold za1;rw[if_pos h]) h
 have hfr:=fun h=>(show (unitE u).2=0→(∀p,zaY u.globals 0 ⟨[],[]⟩=.inl p→za1 u=.inl p)∧∀s,zaY u.globals 0 ⟨[],[]⟩=.inr s→za1 u=zaP u.funcs s from fun h=>⟨fun p hp=>by unfold za1;rw[if_neg (by simp[h]),hp],fun s hs=>by unfold za1;rw[if_neg (by simp[h]),hs]⟩) h
 have hul:=fun h=>(show (unitE u).2=0→u.globals.length≤256∧u.funcs.length≤256 from fun h=>by
  unfold unitE at h
  split at h
  ·cases h
  ·omega) h
 have HUl:=Hd hul;have HFl':=Hd hfl;have HFr:=Hd hfr;generalize unitE u=ue at *;obtain⟨ux,uc⟩:=ue;simp only at *;clear hb1 hxq hxr hul hfl hfr;obtain⟨q0,q1,q2⟩:=HQ.out w1 (zv3 _ _)
 go_upto_region 2 with (go_at_call 33;(with_reducible refine HCk.out.mono ?_);rintro e w2 ⟨rfl,hb2⟩;have HB2:=Hd hb2;clear hb2)
 have hx3:=zv8 w2 (.cells #[.int .i64 ux,.int .i64 uc] 32);have HB3:=Hd (HB2.out.alloc HB2.out.size (.cells #[.int .i64 ux,.int .i64 uc] 32));generalize w2.alloc (.cells #[.int .i64 ux,.int .i64 uc] 32)=w3 at *;obtain⟨⟨y0,y1⟩,_⟩:=zab hx3;clear q0 q1 q2
 by_cases huc:uc=0
 ·subst huc
  obtain⟨hgl,hfl⟩:=HUl.out rfl;have HFil:=Hd (HFr.out rfl)
  go_upto_region 5 with fail
  have hr5:=zqY w3 73 rfl;have hb5:=(ba1 w3 (.map #[] 0)).alloc (ba1 w3 (.map #[] 0)).size (.cells #[.map (some w3.heap.size),.slice none 0 0,.slice none 0 0,.slice none 0 0] 73);have hs5:((w3.alloc (.map #[] 0)).alloc (.cells #[.map (some w3.heap.size),.slice none 0 0,.slice none 0 0,.slice none 0 0] 73)).heap.size=w3.heap.size+2:=by simp
  generalize (w3.alloc (.map #[] 0)).alloc (.cells #[.map (some w3.heap.size),.slice none 0 0,.slice none 0 0,.slice none 0 0] 73)=w5 at *;have HR5:=Hd hr5;have HB5:=Hd hb5;clear hr5 hb5 hx3 y0 y1
  go_wp2_with (go_at_call 13;(with_reducible refine(zoU _).mono ?_);rintro e w6 ⟨rfl,hw6⟩;have HB6:=Hd (show Below w5.heap.size w5 w6 by rw[hw6];exact ba1 _ _);have HT6:=Hd (show BltAt w6 (w3.heap.size+2) by rw[hw6,← hs5];exact zv8 _ _);clear hw6)
  go_loopg [25] 10 (fun m v25 wy=>∃i:Nat,i≤10∧i+m=10∧v25=.int .i64 (i:Int)∧Hid (FileR w3.heap.size wy (w3.heap.size+1) w3.heap.size (.slice none 0 0) (.slice none 0 0) (.slice none 0 0) (.slice none 0 0) (.slice none 0 0) (.slice none 0 0) i (entB (bltE.take i)) 0 [] 0 [] 0 [])∧Hid (Below w3.heap.size w3 wy)∧Hid (BltAt wy (w3.heap.size+2)))
  case atStart=>exact⟨0,by omega,by omega,rfl,Hd (HR5.out.below HB6.out),Hd (HB5.out.trans (HB6.out.mono (by omega))),HT6⟩
  case round=>
   obtain⟨i,hi,him,rfl,HR,HB,HT⟩:=hrel
   by_cases hlt:i<10
   ·obtain⟨c0,c1,c2⟩:=HT.out.cells hlt
    have HStep:=Hd (ztD hlt);have HSz:=Hd (ztE hlt);generalize builtL.getD i (⟨#[]⟩,⟨#[]⟩)=nt at *;obtain⟨nm,ty⟩:=nt;simp only at c0 c1 c2
    go_upto_region 8 with fail
    generalize hgQ:wr.alloc (.cells #[.string nm,.string ty,.bool false] 50)=wa at *;obtain⟨hxv,hba⟩:=box0 hgQ;clear hgQ;have hza:=zaa hxv;have hRa:=(HR.out.below hba).below ((zv3 _ wa).drew);obtain⟨wz,hup,hmz,htz⟩:=hRa.names.store (by unfold maxLen;omega) HSz.out ⟨4,(i:Int),ty⟩;simp only[bndV]at hup;obtain⟨⟨k0,k1,k2,k3⟩,_⟩:=hRa.cells;obtain⟨⟨y0,y1,y2⟩,_⟩:=zac hxv;have HMz:=Hd hmz;have HTz:=Hd htz;have HRa:=Hd hRa;have HBa:=Ht HB hba;have HTa:=Hd (show BltAt wa (w3.heap.size+2) from (hba.block _ (zaa HT.out)).trans HT.out);clear hmz htz hRa hxv hba c0 c1 c2
    go_still_tail 11,(by kernel_rfl)
    change wpList _ _ _ _ _ wa.drew;clear k0 k1 k2 k3 y0 y1 y2
    go_wp2_with fail
    clear hup
    go_roundg (10-(i+1))
    case measure=>omega
    case rel=>exact⟨i+1,by omega,by omega,by rw[zv9];rfl,Hd (HRa.out.turned HTz.out (HMz.out.same HStep.out)),Hd (zdC HBa.out.drew (zv0 _) (zv0 _) HTz.out),Hd ((HTz.out.grown.block _ (zaa HTa.out) (by simp only[ne_eq,Option.some.injEq];omega)).trans HTa.out)⟩
   ·obtain rfl:i=10:=by omega
    have HM0:=Hd (show FileM A w3.heap.size wr (w3.heap.size+1) w3.heap.size ⟨[],[]⟩ from ⟨zv6 hA (HBw.out _ HB3.out).size,.slice none 0 0,.slice none 0 0,.slice none 0 0,[],10,HR.out.same (fun t=>(zs0 t).symm),rfl,(fun q hq=>by cases hq),by simp⟩);have HB0:=HB;clear HR HB HT HR5 HB5 HB6 HT6;have hwr:=HB3.out.trans (HB0.out.mono HB3.out.size);obtain⟨q0,q1,q2⟩:=HQ.out wr hwr;have HBwr:=Hd (HBw.out wr hwr);clear hwr
    go_wp2_with fail
    go_loopg [45] u.globals.length (fun m v45 wy=>∃(i:Nat) (s:FileN),i≤u.globals.length∧i+m=u.globals.length∧v45=.int .i64 (i:Int)∧Hid (FileM A w3.heap.size wy (w3.heap.size+1) w3.heap.size s)∧Hid (Below w3.heap.size w3 wy)∧Hid (zaY (u.globals.drop i) i s=zaY u.globals 0 ⟨[],[]⟩∧s.ents.length=i))
    case atStart=>exact⟨0,⟨[],[]⟩,by omega,by omega,rfl,HM0,HB0,Hd ⟨rfl,rfl⟩⟩
    case round=>
     obtain⟨i,s,hi,him,rfl,HM,HB,HS⟩:=hrel;have hwr:=HB3.out.trans (HB.out.mono HB3.out.size);have hwb:=HBw.out wr hwr;obtain⟨q0,q1,q2⟩:=HQ.out wr hwr
     by_cases hlt:i<u.globals.length
     ·obtain⟨b,off,cq,v,hsq,hblt,hG,c0,c1,c2,c3,c4⟩:=HGl.out i hlt
      obtain⟨rfl,rfl⟩:ag=some ⟨b,off,none⟩∧cg=cq:=by simpa using hsq
      obtain⟨ai,ci,hvs⟩:=ziM hG.init;subst hvs;have hblt':=zv5 hblt hA;rw[← hwb.cell hblt']at c0 c1 c2 c3 c4;have HSome:=Hd (fun b hb=>zoz HS.out.1 hlt (b:=b) hb);have HNone:=Hd (fun hb=>zoA HS.out.1 hlt hb);have HG:=Hd hG;clear hsq;generalize (u.globals[i]'hlt).init.length=n9 at *;generalize u.globals[i]'hlt=g at *;clear hG
      go_upto_region 13 with fail
      have hxg:=(show (wr.alloc (.cells #[.int .i64 g.at_,.string g.var.name,.string g.var.type,.bool g.var.vol,.slice ai n9 ci] 64)).heap[wr.heap.size]?=some (.cells #[.int .i64 g.at_,.string g.var.name,.string g.var.type,.bool g.var.vol,.slice ai n9 ci] 64 (0,0)) from zv8 _ _)
      have hba:=ba1 wr (.cells #[.int .i64 g.at_,.string g.var.name,.string g.var.type,.bool g.var.vol,.slice ai n9 ci] 64);generalize wr.alloc (.cells #[.int .i64 g.at_,.string g.var.name,.string g.var.type,.bool g.var.vol,.slice ai n9 ci] 64)=wa at *;have HMa:=Hd (HM.out.below hba);have HBa:=Ht HB hba;obtain⟨nm,hmn,k0⟩:=HMa.out.name;obtain⟨⟨y0,y1,y2,y3,y4⟩,_⟩:=zad hxg;have HH:=Hd (ztb g.var.name wa.drew (hmn.below (zv3 _ _).drew) HG.out.var.1);have HX:=Hd hxg;have hza:=zaa hxg;clear hxg hba c0 c1 c2 c3 c4 hmn
      go_cut [57] (fun s57 wx=>Hid (s57=.bool (s.look g.var.name).isSome∧Below wa.heap.size wa wx))
      case first=>
       go_region_law ((go_simp;go_at_call 34;(with_reducible refine HH.out.mono ?_);rintro e w7 ⟨rfl,hb7⟩;have HB7:=Hd ((show Below wa.heap.size wa wa.drew from (zv3 _ _).drew).trans (hb7.mono (zv0 _)));clear hb7))
       all_goals
        go_wp2_with fail
        go_meet
        exact Hd ⟨rfl,HB7.out⟩
      case rest=>
       obtain⟨rfl,hbc⟩:=hcut.out;clear hcut k0 y0 y1 y2 y3 y4 q0 q1 q2;have HBc:=Ht HBa hbc;have HMc:=Hd (HMa.out.below hbc);obtain⟨⟨y0,y1,y2,y3,y4⟩,_⟩:=zad ((hbc.block _ hza).trans HX.out);obtain⟨q0,q1,q2⟩:=HQ.out wc (HB3.out.trans (HBc.out.mono HB3.out.size));obtain⟨⟨d0,d1⟩,fd⟩:=HR.out wc (HB3.out.trans (HBc.out.mono HB3.out.size));have fd0:=fd 0;have fd1:=fd 1;clear hbc;rcases hlk:s.look g.var.name with _|bd
       ·have HN:=Hd (HNone.out hlk)
        obtain⟨hA,lv,sv,av,Q,n,hR,hQ,hF,hn⟩:=HMc.out;have hput:=ztM g.var.name ⟨1,(i:Int),g.var.type⟩ wc hR (by have:=HBc.out.size;omega) (by have:=HS.out.2;unfold maxLen;omega) (by have:=HS.out.2;omega) (by have:=HS.out.2;omega) HG.out.var.1;simp only[bndV]at hput;have HPut:=Hd hput;have HQF:=Hd (And.intro hQ (And.intro hF hn));clear hput hR hQ hF hn
        go_upto_region 15 with fail
        go_wp2_with (go_at_call 35;(with_reducible refine HPut.out.mono ?_);rintro e w8 ⟨rfl,⟨sv',av',hr8⟩,hb8,_⟩;have HM8:=Hd (zq1 hlk hr8 HQF.out.1 (fun q hq=>(HQF.out.2.1 q hq).below hb8 hA) HQF.out.2.2 hA);have HB8:=Hd (HBc.out.trans hb8);clear hr8 hb8)
        go_roundg (u.globals.length-(i+1))
        case measure=>omega
        case rel=>exact⟨i+1,_,by omega,by omega,by rw[zv9];rfl,HM8,HB8,Hd ⟨HN.out,by unfold FileN.put;simp;exact HS.out.2⟩⟩
       ·have HFin:=Hd (HFil.out.1 _ (HSome.out bd hlk))
        go_wp2_with fail
        go_region_law (fail)
        all_goals
         go_wp2_with fail
         exact bodyPost_ret (v:=.tuple #[.pointer none,.agg #[.int .i64 g.at_,.int .i64 6]]) (by simp[results,Tryz.results21,go_sem,d0,d1]) rfl (zfQ HFin.out (Below.drew (Below.setCell (Below.setCell (HBw.out _ (HB3.out.trans (HBc.out.mono HB3.out.size))) (Nat.le_succ _) _) (Nat.le_succ _) _)))
     ·obtain rfl:i=u.globals.length:=by omega
      have hgs:=zqK HS.out.1;have HG0:=Hd (HFil.out.2 _ hgs);have HO0:=Hd (zfi zen hgs);have HL0:=Hd HS.out.2;have HB1':=HB;have HM1:=HM;generalize s=s1 at *;clear HB HM HS hgs
      go_wp2_with fail
      go_loopg [75] u.funcs.length (fun m v75 wy=>∃(i:Nat) (s:FileN),i≤u.funcs.length∧i+m=u.funcs.length∧v75=.int .i64 (i:Int)∧Hid (FileM A w3.heap.size wy (w3.heap.size+1) w3.heap.size s)∧Hid (Below w3.heap.size w3 wy)∧Hid (zaP (u.funcs.drop i) s=zaP u.funcs s1∧s.ents.length≤256+i∧FileOk s))
      case atStart=>exact⟨0,s1,by omega,by omega,rfl,HM1,HB1',Hd ⟨rfl,by have:=HL0.out;omega,HO0.out.1⟩⟩
      case round=>
       obtain⟨i,s,hi,him,rfl,HM,HB,HS⟩:=hrel;have hwr:=HB3.out.trans (HB.out.mono HB3.out.size);have hwb:=HBw.out wr hwr;obtain⟨q0,q1,q2⟩:=HQ.out wr hwr
       by_cases hlt:i<u.funcs.length
       ·obtain⟨b,off,cq,vp,vb,hsq,hblt,hG,c0,c1,c2,c3,c4⟩:=HFl.out i hlt
        obtain⟨rfl,rfl⟩:af=some ⟨b,off,none⟩∧cf=cq:=by simpa using hsq
        obtain⟨ap,cp,rfl⟩:=zgC hG.params;obtain⟨ab,cb,rfl⟩:=zle hG.body;have hblt':=zv5 hblt hA;rw[← hwb.cell hblt']at c0 c1 c2 c3 c4;have HBad:=Hd (fun c hb=>zqM HS.out.1 hlt (c:=c) hb);have HGood:=Hd (fun s' hb=>zoD HS.out.1 hlt (s':=s') hb);have HG:=Hd hG;clear hsq hG;generalize u.funcs[i]'hlt=g at *
        go_upto_region 20 with fail
        have hxg:=(show (wr.alloc (.cells #[.int .i64 g.at_,.string g.name,.string g.type,.slice ap g.params.length cp,.slice ab g.body.length cb] 45)).heap[wr.heap.size]?=some (.cells #[.int .i64 g.at_,.string g.name,.string g.type,.slice ap g.params.length cp,.slice ab g.body.length cb] 45 (0,0)) from zv8 _ _)
        have hba:=ba1 wr (.cells #[.int .i64 g.at_,.string g.name,.string g.type,.slice ap g.params.length cp,.slice ab g.body.length cb] 45);generalize wr.alloc (.cells #[.int .i64 g.at_,.string g.name,.string g.type,.slice ap g.params.length cp,.slice ab g.body.length cb] 45)=wa at *;have HBa:=Ht HB hba;obtain⟨⟨y0,y1,y2,y3,y4⟩,_⟩:=zad hxg;have HX:=Hd hxg;have hza:=zaa hxg;have HFu:=Hd (ztn wr wa HM.out hba HS.out.2.2 (by have:=HBa.out.size;omega) (by have:=HS.out.2.1;omega) (HG.out.below (HBw.out _ (HB3.out.trans (HBa.out.mono HB3.out.size))) hA));clear hxg hba c0 c1 c2 c3 c4;unfold ziK ztw zsI at HFu;rcases hof:oneF s g with cc|s'
        ·rw[hof]at HFu
         simp only at HFu;have HFin:=Hd (HG0.out.trans (HBad.out cc hof));have t9:(cc != 0)=true:=by simpa using zpX hof
         go_upto_region 21 with (go_at_call 36;(with_reducible refine HFu.out.mono ?_);rintro e w8 ⟨rfl,hm8,hb8,hk8⟩;have HM8:=Hd hm8;have HB8:=Hd (HBa.out.trans hb8);have HX8:=Hd ((hk8 _ hza (Nat.lt_irrefl _)).trans HX.out);clear hm8 hb8 hk8)
         clear y0 y1 y2 y3 y4 q0 q1 q2;obtain⟨⟨y0,y1,y2,y3,y4⟩,_⟩:=zad HX8.out;obtain⟨⟨d0,d1⟩,fd⟩:=HR.out w8 (HB3.out.trans (HB8.out.mono HB3.out.size));have fd0:=fd 0;have fd1:=fd 1
         go_wp2_with fail
         go_region_law (fail)
         all_goals
          go_wp2_with fail
          exact bodyPost_ret (v:=.tuple #[.pointer none,.agg #[.int .i64 g.at_,.int .i64 cc]]) (by simp[results,Tryz.results21,go_sem,d0,d1]) rfl (zfQ HFin.out (Below.drew (Below.setCell (Below.setCell (HBw.out _ (HB3.out.trans (HB8.out.mono HB3.out.size))) (Nat.le_succ _) _) (Nat.le_succ _) _)))
        ·rw[hof]at HFu
         simp only at HFu;have HN:=Hd (And.intro (HGood.out s' hof) (And.intro (zsD hof) (zlJ HS.out.2.2 hof).1))
         go_wp2_with (go_at_call 36;(with_reducible refine HFu.out.mono ?_);rintro e w8 ⟨rfl,hm8,hb8,hk8⟩;have HM8:=Hd hm8;have HB8:=Hd (HBa.out.trans hb8);clear hm8 hb8 hk8)
         go_roundg (u.funcs.length-(i+1))
         case measure=>omega
         case rel=>exact⟨i+1,s',by omega,by omega,by rw[zv9];rfl,HM8,HB8,Hd ⟨HN.out.1,by have:=HN.out.2.1;have:=HS.out.2.1;omega,HN.out.2.2⟩⟩
       ·obtain rfl:i=u.funcs.length:=by omega
        have HFin:=Hd (HG0.out.trans (zqL HS.out.1));have HLo:=Hd (zv5 HLo1.out HB3.out.size);obtain⟨⟨d0,d1⟩,fd⟩:=HR.out wr hwr;have fd0:=fd 0;have fd1:=fd 1
        go_wp2_with fail
        exact bodyPost_ret (v:=.tuple #[.pointer (some ⟨w3.heap.size+1,0,none⟩),.agg #[.int .i64 0,.int .i64 0]]) (by simp[results,Tryz.results21,go_sem,d0,d1]) rfl (zoI HFin.out (Below.setCell (Below.setCell (HBw.out _ hwr) (Nat.le_succ _) _) (Nat.le_succ _) _) (HBw.out _ HB3.out).size (by have:=HB.out.size;simpa using this) ((HM.out.low (zv6 hA (Nat.le_succ _)) HLo.out _).low (zv6 hA (Nat.le_succ _)) HLo.out _))
 ·have HFin:=Hd (HFl'.out huc)
  obtain⟨⟨d0,d1⟩,fd⟩:=HR.out w3 HB3.out;have fd0:=fd 0;have fd1:=fd 1
  go_wp2_with fail
  go_region_law (fail)
  all_goals
   go_wp2_with fail
   exact bodyPost_ret (v:=.tuple #[.pointer none,.agg #[.int .i64 ux,.int .i64 uc]]) (by simp[results,Tryz.results21,go_sem,d0,d1]) rfl (zfQ HFin.out (Below.drew (Below.setCell (Below.setCell (HBw.out _ HB3.out) (Nat.le_succ _) _) (Nat.le_succ _) _)))
end Go.Proofs.YtbbaooeioogijaaGreatDoor
