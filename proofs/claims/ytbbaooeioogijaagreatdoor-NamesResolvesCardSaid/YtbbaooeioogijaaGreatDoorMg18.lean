/- A function for each name, handed out: the reference. -/
import Derived.Test.YtbbaooeioogijaaGreatDoorCopyU
import Derived.BigRegion
namespace Go.Proofs.YtbbaooeioogijaaGreatDoor
open Go.RowKit Go.Maps
theorem FsRow.is {A B:Nat}{w:World}{v:Value}{Q:List (FnU × Value × Value)}(h:FsRow A B w v Q)(hA:A≤w.heap.size)(hl:Q.length≤256):IsFnsU w.heap.size w v (Q.map Prod.fst):=by
 obtain⟨a,cap,e,h1,h2,hs,hn⟩:=zds zc8 h.1 rfl;exact⟨a,cap,Q,by rw[List.length_map];exact e,⟨by rw[List.length_map];omega,by rw[List.length_map];exact h1,h2,fun e=>by rw[List.length_map];exact hn e⟩,rfl,hs.sl (fun b hb=>hb.2.2),fun q hq=>(h.2 q hq).mono hA⟩
end Go.Proofs.YtbbaooeioogijaaGreatDoor
namespace Go.Proofs.YtbbaooeioogijaaGreatDoor
open Go.RowKit
set_option maxRecDepth 100000
set_option maxHeartbeats 8000000
def ztP (places:Bool)(x y:Nd):Prop:=x.kind=y.kind∧x.n=y.n∧x.int=y.int∧x.text=y.text∧x.type=y.type∧(places=true→x.at_=y.at_)
theorem zee {w:World}{b:Nat}{a0 a1 a2 a3 a4 a5:Value}{T:TypeId}(h:w.heap[b]?=some (.cells #[a0,a1,a2,a3,a4,a5] T (0,0))) :
 (w.cell? ⟨b,0,none⟩=some a0∧w.cell? ⟨b,1,none⟩=some a1∧w.cell? ⟨b,2,none⟩=some a2∧w.cell? ⟨b,3,none⟩=some a3∧w.cell? ⟨b,4,none⟩=some a4∧w.cell? ⟨b,5,none⟩=some a5)∧∀j,w.frozen? ⟨b,j,none⟩=false:=by
 refine⟨⟨?_,?_,?_,?_,?_,?_⟩,fun j=>?_⟩<;>simp[World.cell?,World.frozen?,h]
theorem zaF (w:World)(o0 o1:Obj):((w.alloc o0).alloc o1).drew.heap[w.heap.size]?=some o0∧((w.alloc o0).alloc o1).drew.heap[w.heap.size+1]?=some o1∧Below w.heap.size w ((w.alloc o0).alloc o1).drew:=by
 have h1:=zv8 (w.alloc o0) o1;simp only[World.size_alloc]at h1;exact⟨((ba1 (w.alloc o0) o1).block _ (by simp)).trans (zv8 w o0),h1,((ba1 w o0).trans ((ba1 _ o1).mono (ba1 w o0).size)).drew⟩
theorem zjR {wc:World}{b:Nat}{a0 a1 a2 a3 a4 a5:Value}{T:TypeId}(h:wc.heap[b]?=some (.cells #[a0,a1,a2,a3,a4,a5] T (0,0)))(v:Value):(wc.setCell ⟨b,2,none⟩ v).heap[b]?=some (.cells #[a0,a1,v,a3,a4,a5] T (0,0)):=by
 simp[World.setCell,Array.getElem?_modify,h]
theorem zoS {w w':World}{b:Nat}(h:w'.heap[b]?=w.heap[b]?)(j:Nat):w'.cell? ⟨b,j,none⟩=w.cell? ⟨b,j,none⟩:=by
 unfold World.cell?;simp only[h]
theorem zql (a b:Option Addr)(ca cb:Nat)(L M:List Nd)(places:Bool)(w:World)(hA:zaV w.heap.size w a L)(hB:zaV w.heap.size w b M)(hl:L.length*64≤140737488351232)(hlm:M.length=L.length)(hs:∀i (h:i<L.length) (h':i<M.length),ztP places L[i] M[i]) :
 Calls Tryz.prog 27 #[.slice a L.length ca,.slice b M.length cb,.bool places] w fun e w'=>e=.returned (.bool true)∧Below w.heap.size w w':=by
 have HA:=Hd hA;have HB:=Hd hB;have HS:=Hd hs;have HLM:=Hd hlm;have hli:(L.length:Int)≤2199023255488:=by omega
 have hne:((L.length:Int) != (L.length:Int))=false:=by simp
 rw[hlm];clear hA hB hs hlm
 go_enter Tryz.func27,Tryz.ntmps27
 go_wp2_with fail
 go_loopg [7] L.length (fun m v7 wy=>∃(i:Nat),i≤L.length∧i+m=L.length∧v7=.int .i64 (i:Int)∧Hid (Below w.heap.size w wy))
 case atStart=>exact⟨0,by omega,by omega,rfl,Hd (zv3 _ _)⟩
 case round=>
  obtain⟨i,hi,him,rfl,HW⟩:=hrel
  by_cases hlt:i<L.length
  ·have hltm:i<M.length:=by rw[HLM.out];exact hlt
   obtain⟨b1,o1,ha,hb1,c0,c1,c2,c3,c4,c5⟩:=zbg HA.out hlt;obtain⟨b2,o2,hb,hb2,e0,e1,e2,e3,e4,e5⟩:=zbg HB.out hltm;subst ha hb;rw[← HW.out.cell hb1]at c0 c1 c2 c3 c4 c5;rw[← HW.out.cell hb2]at e0 e1 e2 e3 e4 e5;have hss:=HS.out i hlt hltm;generalize L[i]=x at *;generalize M[i]=y at *;obtain⟨kk,n,p,ii,s,ty⟩:=x;obtain⟨kk',n',p',ii',s',ty'⟩:=y;obtain⟨s1,s2,s3,s4,s5,s6⟩:=hss;simp only at c0 c1 c2 c3 c4 c5 e0 e1 e2 e3 e4 e5 s1 s2 s3 s4 s5 s6;subst s1 s2 s3 s4 s5;have HS6:=Hd s6;clear s6;have hi0:(0:Int)≤(i:Int):=by omega
   have hi1:(i:Int)<(L.length:Int):=by omega
   have hl1:b1<wr.heap.size:=zv5 hb1 HW.out.size;have hl2:b2<wr.heap.size:=zv5 hb2 HW.out.size;have f1:∀o k,(wr.alloc o).cell? ⟨b1,k,none⟩=wr.cell? ⟨b1,k,none⟩:=fun o k=>(ba1 wr o).cell hl1
   have f2:∀o k,(wr.alloc o).cell? ⟨b2,k,none⟩=wr.cell? ⟨b2,k,none⟩:=fun o k=>(ba1 wr o).cell hl2
   have f3:∀o o' k,((wr.alloc o).alloc o').cell? ⟨b1,k,none⟩=wr.cell? ⟨b1,k,none⟩:=fun o o' k=>((ba1 wr o).trans ((ba1 _ o').mono (ba1 wr o).size)).cell hl1
   have f4:∀o o' k,((wr.alloc o).alloc o').cell? ⟨b2,k,none⟩=wr.cell? ⟨b2,k,none⟩:=fun o o' k=>((ba1 wr o).trans ((ba1 _ o').mono (ba1 wr o).size)).cell hl2
   have n1:¬b1=wr.heap.size:=by omega
   have n2:¬b2=wr.heap.size:=by omega
   have n3:¬b1=wr.heap.size+1:=by omega
   have n4:¬b2=wr.heap.size+1:=by omega
   go_upto_region 6 with fail
   go_cut [8,9] (fun s8 s9 wx=>∃r1 r2:Nat,s8=.pointer (some ⟨r1,0,none⟩)∧s9=.pointer (some ⟨r2,0,none⟩)∧wr.heap.size≤r1∧wr.heap.size≤r2∧r1≠r2∧Hid (wx.heap[r1]?=some (.cells #[.int .i64 kk,.int .i64 n,.int .i64 p,.int .i64 ii,.string s,.string ty] 47 (0,0)))∧Hid (wx.heap[r2]?=some (.cells #[.int .i64 kk,.int .i64 n,.int .i64 p',.int .i64 ii,.string s,.string ty] 47 (0,0)))∧Hid (Below wr.heap.size wr wx))
   case first=>
    go_region
    ·go_wp2_with fail
     go_meet
     case rel=>exact⟨wr.heap.size,wr.heap.size+1,rfl,rfl,by omega,by omega,by omega,Hd (zaF wr _ _).1,Hd (zaF wr _ _).2.1,Hd (zaF wr _ _).2.2⟩
    ·go_wp2_with fail
     go_meet
     case rel=>exact⟨wr.heap.size+1,wr.heap.size,rfl,rfl,by omega,by omega,by omega,Hd (zaF wr _ _).2.1,Hd (zaF wr _ _).1,Hd (zaF wr _ _).2.2⟩
   case rest=>
    obtain⟨r1,r2,rfl,rfl,g1,g2,g3,H1,H2,HB3⟩:=hcut;clear f1 f2 f3 f4 n1 n2 n3 n4 c0 c1 c2 c3 c4 c5 e0 e1 e2 e3 e4 e5;have t3:∀z:Int,(z == z)=true:=by simp
    have t4:∀z:List UInt8,(z == z)=true:=by simp
    obtain⟨⟨x0,x1,x2,x3,x4,x5⟩,xf⟩:=zee H1.out;obtain⟨⟨y0,y1,y2,y3,y4,y5⟩,yf⟩:=zee H2.out;cases places with
    | true=>
      have hpp:=HS6.out rfl;subst hpp;clear xf yf
      go_wp2_with fail
      go_roundg (L.length-(i+1))
      case measure=>omega
      case rel=>exact⟨i+1,by omega,by omega,by rw[zv9];rfl,Hd (HW.out.trans (HB3.out.mono HW.out.size))⟩
    | false=>
      have xf2:=xf 2;have yf2:=yf 2;have hq1:=zjR (wc:=wc) H1.out (.int .i64 0);have hq2:=zjR (wc:=wc.setCell ⟨r1,2,none⟩ (.int .i64 0)) ((Below.heap_setCell wc ⟨r1,2,none⟩ (.int .i64 0) r2 (show r2≠r1 by omega)).trans H2.out) (.int .i64 0);have hq1':=(Below.heap_setCell (wc.setCell ⟨r1,2,none⟩ (.int .i64 0)) ⟨r2,2,none⟩ (.int .i64 0) r1 (show r1≠r2 by omega)).trans hq1;have HB9:=Hd ((HB3.out.setCell (p:=⟨r1,2,none⟩) g1 (.int .i64 0)).setCell (p:=⟨r2,2,none⟩) g2 (.int .i64 0));have hn:∀o,(wc.setCell ⟨r1,2,none⟩ (.int .i64 0)).cell? ⟨r2,o,none⟩=wc.cell? ⟨r2,o,none⟩:=fun o=>zoS (Below.heap_setCell _ _ _ _ (show r2≠r1 by omega)) o
      have hg3:¬r2=r1:=by omega
      clear xf yf
      go_upto_region 9 with fail
      generalize (wc.setCell ⟨r1,2,none⟩ (.int .i64 0)).setCell ⟨r2,2,none⟩ (.int .i64 0)=w9 at *;clear hn x0 x1 x2 x3 x4 x5 y0 y1 y2 y3 y4 y5 hq1;obtain⟨⟨x0,x1,x2,x3,x4,x5⟩,_⟩:=zee hq1';obtain⟨⟨y0,y1,y2,y3,y4,y5⟩,_⟩:=zee hq2;clear hq1' hq2
      go_wp2_with fail
      go_roundg (L.length-(i+1))
      case measure=>omega
      case rel=>exact⟨i+1,by omega,by omega,by rw[zv9];rfl,Hd (HW.out.trans (HB9.out.mono HW.out.size))⟩
  ·obtain rfl:i=L.length:=by omega
   go_wp2_with fail
   go_ret;exact⟨rfl,HW.out⟩
end Go.Proofs.YtbbaooeioogijaaGreatDoor
