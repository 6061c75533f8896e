/- The parts of a node: the program, the reference. -/
import Derived.Test.YtbbaooeioogijaaGreatDoorMg6
import Derived.Deep.CutBlock
namespace Go.Proofs.YtbbaooeioogijaaGreatDoor
open Go.RowKit
set_option maxRecDepth 100000
set_option maxHeartbeats 8000000
def ziZ (n:Nat):List Value:=[natV n]
theorem zkh (n:Nat):(ziZ n).length=1:=rfl
theorem zqP (L:List Nat):L.flatMap ziZ=L.map natV:=by
 induction L with
 | nil=>rfl
 | cons x L ih=>rw[List.flatMap_cons,ih];rfl
abbrev zdm (B:Nat)(w:World)(a:Option Addr)(L:List Nat):Prop:=IsSl 1 ziZ B w a L
theorem NatRow.is {w:World}{base:Nat}{v:Value}{L:List Nat}(h:NatRow w base v L):∃a cap,v=.slice a L.length cap∧zdm w.heap.size w a L∧(a=none→L=[]∧cap=0):=by
 unfold NatRow at h;rw[← zqP]at h;exact zpM zkh h rfl
theorem zbY {B:Nat}{w:World}{a:Option Addr}{L:List Nat}(h:zdm B w a L){i:Nat}(hi:i<L.length):∃b off,a=some ⟨b,off,none⟩∧b<B∧w.cell? ⟨b,off+i,none⟩=some (.int .i64 (L[i]:Int)):=by
 obtain⟨b,off,e,hlt,hc⟩:=h (fun e=>by rw[e]at hi;simp at hi);have:=hc i _ (zv1 hi) 0 _ rfl;rw[Nat.mul_one,Nat.add_zero]at this;exact⟨b,off,e,hlt,this⟩
theorem Back.le {fr:List Nat}:∀{n e:Nat},Back fr n e→n≤e
 | 0,_,_=>Nat.zero_le _
 | n+1,e,⟨h1,h2,h3⟩=>by have:=h3.le;omega
structure PartInv (w:World)(fr:List Nat)(n k:Nat)(wy:World)(r e:Nat)(tail:List Nat):Prop where
 rest:zby fr n k=zby fr r e++tail
 len:r+tail.length=n
 back:Back fr r e
 le:e≤k
 row:∃ys,wy.ownsRow w.heap.size 3 1 (.slice (some ⟨w.heap.size,0,none⟩) n n) n ys∧∀(i:Nat) x,tail[i]?=some x→ys[r+i]?=some (natV x)
 below:Below w.heap.size w wy
theorem PartInv.cell {w wy:World}{fr:List Nat}{n k r e:Nat}{tail:List Nat}(h:PartInv w fr n k wy (r+1) e tail):(∃u,wy.cell? ⟨w.heap.size,r,none⟩=some u)∧wy.frozen? ⟨w.heap.size,r,none⟩=false:=by
 obtain⟨ys,ho,_⟩:=h.row;have hl:=ho.1;have:=h.len;refine⟨?_,ho.frozenAt r⟩;rw[ho.cellAt r (by omega)];exact⟨_,zv1 (by omega)⟩
theorem PartInv.next {w wy:World}{fr:List Nat}{n k r d:Nat}{tail:List Nat}(h:PartInv w fr n k wy (r+1) (d+1) tail):PartInv w fr n k (wy.setCell ⟨w.heap.size,r,none⟩ (.int .i64 (d:Int))) r (fr.getD d 0) (d :: tail):=by
 obtain⟨ys,ho,hp⟩:=h.row;obtain⟨hb1,hb2,hb3⟩:=h.back;rw[Nat.add_sub_cancel]at hb2 hb3;have hl:=ho.1;have hlen:=h.len;refine⟨by rw[h.rest,zby,List.append_assoc,Nat.add_sub_cancel];rfl,by rw[List.length_cons];omega,hb3,by have:=h.le;omega,⟨_,(ho.stored r (natV d)).1,fun i x hx=>?_⟩,h.below.setCell (zv0 _) _⟩;cases i with
 | zero=>
   obtain rfl:=zv4 hx;rw[Nat.add_zero,List.getElem?_set_self (by omega)]
 | succ i=>
   rw[List.getElem?_set_ne (by omega),show r+(i+1)=r+1+i by omega];exact hp i x (by simpa using hx)
theorem PartInv.done {w wy:World}{fr:List Nat}{n k e:Nat}{tail:List Nat}(h:PartInv w fr n k wy 0 e tail):NatRow wy w.heap.size (.slice (some ⟨w.heap.size,0,none⟩) n n) (zby fr n k):=by
 obtain⟨ys,ho,hp⟩:=h.row;have hl:=ho.1;have hlen:=h.len;have hr:=h.rest;rw[zby,List.nil_append]at hr;have:ys=tail.map natV:=by
  apply List.ext_getElem?;intro j;rw[List.getElem?_map];rcases hx:tail[j]? with _|x
  ·rw[List.getElem?_eq_none_iff]at hx
   rw[List.getElem?_eq_none (by omega)];rfl
  ·have:=hp j x hx
   rw[Nat.zero_add]at this;rw[this];rfl
 subst this;unfold NatRow;rw[hr,show tail.length=n by omega];exact ho
theorem zlI {w:World}{base base':Nat}{e:TypeId}{size:Nat}{v:Value}{n:Nat}{xs:List Value}(h:w.ownsRow base e size v n xs)(hb:base'≤base):w.ownsRow base' e size v n xs:=
 ⟨h.1,h.2.imp id fun ⟨g,cap,cur,h1,h2,h3⟩=>⟨g,cap,cur,h1,zv6 hb h2,h3⟩⟩
def zjx (L:List Nat)(w:World)(e:Ending)(w':World):Prop:=(∃v,e=.returned v∧NatRow w' w.heap.size v L)∧Below w.heap.size w w'
theorem zlD {L:List Nat}{w w1 w':World}{v:Value}(h:NatRow w' w1.heap.size v L)(h1:Below w.heap.size w w1)(hb:Below w1.heap.size w1 w'):zjx L w (.returned v) w':=
 ⟨⟨v,rfl,zlI h h1.size⟩,h1.trans (hb.mono h1.size)⟩
theorem zcR (a:Option Addr)(cap:Nat)(t:List Nd)(b:Option Addr)(capb:Nat)(fr:List Nat)(w:World)(hI:zaV w.heap.size w a t)(hF:zdm w.heap.size w b fr)(hl:t.length≤4096)(hf:Formed t fr)(k:Nat)(hk:k<t.length) :
 Calls Tryz.prog 78 #[.slice a t.length cap,.slice b fr.length capb,.int .i64 (k:Int)] w (zjx (partsAt t fr k) w):=by
 obtain⟨hn0,hbk,_⟩:=hf.node k _ (zv1 hk);rw[zan (zv1 hk)];obtain⟨ba,off,ha,hbl,x0,x1,x2,x3,x4,x5⟩:=zbg hI hk;subst ha;clear x0 x2 x3 x4 x5;have hfl:fr.length=t.length:=hf.len;have HF:=Hd hF;clear hF hf hI;generalize t[k].n=xn at *;obtain⟨n,rfl⟩:∃n:Nat,xn=(n:Int):=⟨xn.toNat,by omega⟩
 rw[Int.toNat_natCast]at *;have hnk:=hbk.le;have HBk:=Hd hbk;obtain⟨i0,hi,hz0,hz1,hz2⟩:=info_parts zeR;have HI0:=Hd (And.intro hi (And.intro hz0 (And.intro hz1 hz2)));have HNum:=Hd (show i0.bytes*n≤281474976710656∧n≤maxLen from ⟨by rw[hz2];omega,by unfold maxLen;omega⟩);clear hi hz0 hz1 hz2 hbk hn0
 go_enter Tryz.func78,Tryz.ntmps78
 go_wp2_with (at_make;go_loud (refine wpList_make_full _ rfl _ _ _ rfl w.heap.size 3 i0 (.int .i64 0) 1 Tryz.underlying124 HI0.out.1 HI0.out.2.1 HI0.out.2.2.1 .i64 .i64 (n:Int) (n:Int) n rfl rfl rfl rfl HNum.out.1 HNum.out.2 (zv0 _) ?_))
 intro w1 hown1 hgrow1;have hb1:Below w.heap.size w w1:=(zv3 _ _).grown hgrow1 (zv0 _) (fun k hk=>by simp at hk);have HP0:=Hd (show PartInv w fr n k w1 n k [] from ⟨by simp,by simp,HBk.out,zv0 _,⟨_,hown1,fun i x h=>by simp at h⟩,hb1⟩);have x1':=x1;rw[← hb1.cell hbl]at x1';clear hown1 hgrow1 hb1
 go_wp2_with fail
 go_loopg [8,9] n (fun m v8 v9 wy=>∃(r e:Nat) (x y:Int) (tail:List Nat),m=r∧r≤n∧v9=.int .i64 x∧v8=.int .i64 y∧x=(r:Int)-1∧y=(e:Int)-1∧Hid (PartInv w fr n k wy r e tail))
 case atStart=>exact⟨n,k,_,_,[],rfl,zv0 _,rfl,rfl,rfl,rfl,HP0⟩
 case round=>
  obtain⟨r,e,x,y,tail,hm,hrn,rfl,rfl,hx,hy,HP⟩:=hrel;have hek:=HP.out.le;cases r with
  | zero=>
    have t1:decide (0≤x)=false:=by simp;omega
    go_wp2_with fail
    go_ret;exact zlD HP.out.done (zv3 _ _) HP.out.below
  | succ r=>
    obtain⟨d,rfl⟩:∃d,e=d+1:=⟨e-1,by have:=HP.out.back.1;omega⟩
    obtain rfl:x=(r:Int):=by omega
    obtain rfl:y=(d:Int):=by omega
    clear hx hy;have t1:decide (0≤(r:Int))=true:=by simp
    obtain⟨⟨u,c1⟩,c2⟩:=HP.out.cell;have HN:=Hd HP.out.next;obtain⟨bf,of,hbf,hbl2,c3⟩:=zbY HF.out (show d<fr.length by omega);subst hbf;rw[← HN.out.below.cell hbl2]at c3;rw[zv2,zv1 (show d<fr.length by omega),Option.getD_some]at HN;have hfd:fr[d]≤d:=by have:=HP.out.back.2.1;rw[Nat.add_sub_cancel,zv2,zv1 (show d<fr.length by omega),Option.getD_some]at this;omega
    generalize fr[d]=q at *
    go_wp2_with fail
    go_roundg r
    case measure=>omega
    case rel=>exact⟨r,q,_,_,d :: tail,rfl,by omega,rfl,rfl,by omega,by omega,HN⟩
theorem zgG (a:Option Addr)(cap:Nat)(t:List Nd)(b:Option Addr)(capb:Nat)(fr:List Nat)(w:World)(hI:zaV w.heap.size w a t)(hF:zdm w.heap.size w b fr)(hl:t.length≤4096)(hf:Formed t fr)(k:Nat)(hk:k<t.length) :
 Calls Tryz.prog 74 #[.agg #[.slice a t.length cap,.slice b fr.length capb],.int .i64 (k:Int)] w (zjx (partsAt t fr k) w):=by
 obtain⟨hn0,hbk,_⟩:=hf.node k _ (zv1 hk);rw[zan (zv1 hk)];obtain⟨ba,off,ha,hbl,x0,x1,x2,x3,x4,x5⟩:=zbg hI hk;subst ha;clear x0 x2 x3 x4 x5;have HFL:=Hd hf.len;have HF:=Hd hF;clear hF hf hI;generalize t[k].n=xn at *;obtain⟨n,rfl⟩:∃n:Nat,xn=(n:Int):=⟨xn.toNat,by omega⟩
 rw[Int.toNat_natCast]at *;have hnk:=hbk.le;have HBk:=Hd hbk;obtain⟨i0,hi,hz0,hz1,hz2⟩:=info_parts zeR;have HI0:=Hd (And.intro hi (And.intro hz0 (And.intro hz1 hz2)));have HNum:=Hd (show i0.bytes*n≤281474976710656∧n≤maxLen from ⟨by rw[hz2];omega,by unfold maxLen;omega⟩);clear hi hz0 hz1 hz2 hbk hn0
 go_enter Tryz.func74,Tryz.ntmps74
 go_upto_region 1 with fail
 have hxw:(w.alloc (.cells #[.slice (some ⟨ba,off,none⟩) t.length cap,.slice b fr.length capb] 126)).heap[w.heap.size]?=some (.cells #[.slice (some ⟨ba,off,none⟩) t.length cap,.slice b fr.length capb] 126 (0,0)):=zv8 _ _;have hbw:Below w.heap.size w (w.alloc (.cells #[.slice (some ⟨ba,off,none⟩) t.length cap,.slice b fr.length capb] 126)):=ba1 _ _;generalize w.alloc (.cells #[.slice (some ⟨ba,off,none⟩) t.length cap,.slice b fr.length capb] 126)=w0 at *;have hzw:=zaa hxw;obtain⟨⟨z0,z1⟩,_⟩:=zab hxw;rw[← hbw.cell hbl]at x1;have hbl:=zv5 hbl hbw.size;have HBW:=Hd hbw;clear hxw hbw
 go_wp2_with (at_make;go_loud (refine wpList_make_full _ rfl _ _ _ rfl w0.heap.size 3 i0 (.int .i64 0) 1 Tryz.underlying124 HI0.out.1 HI0.out.2.1 HI0.out.2.2.1 .i64 .i64 (n:Int) (n:Int) n rfl rfl rfl rfl HNum.out.1 HNum.out.2 (zv0 _) ?_))
 intro w1 hown1 hgrow1;have hb1:Below w0.heap.size w0 w1:=(zv3 _ _).grown hgrow1 (zv0 _) (fun k hk=>by simp at hk);have HP0:=Hd (show PartInv w0 fr n k w1 n k [] from ⟨by simp,by simp,HBk.out,zv0 _,⟨_,hown1,fun i x h=>by simp at h⟩,hb1⟩);have y0:=z0;have y1:=z1;rw[← hb1.cell hzw]at y0 y1;rw[← hb1.cell hbl]at x1;clear hown1 hgrow1 hb1
 go_wp2_with fail
 go_loopg [6,7] n (fun m v6 v7 wy=>∃(r e:Nat) (x y:Int) (tail:List Nat),m=r∧r≤n∧v7=.int .i64 x∧v6=.int .i64 y∧x=(r:Int)-1∧y=(e:Int)-1∧Hid (PartInv w0 fr n k wy r e tail))
 case atStart=>exact⟨n,k,_,_,[],rfl,zv0 _,rfl,rfl,rfl,rfl,HP0⟩
 case round=>
  obtain⟨r,e,x,y,tail,hm,hrn,rfl,rfl,hx,hy,HP⟩:=hrel;have hek:=HP.out.le;cases r with
  | zero=>
    have t1:decide (0≤x)=false:=by simp;omega
    go_wp2_with fail
    go_ret;exact zlD HP.out.done HBW.out HP.out.below
  | succ r=>
    obtain⟨d,rfl⟩:∃d,e=d+1:=⟨e-1,by have:=HP.out.back.1;omega⟩
    obtain rfl:x=(r:Int):=by omega
    obtain rfl:y=(d:Int):=by omega
    clear hx hy;have t1:decide (0≤(r:Int))=true:=by simp
    obtain⟨⟨u,c1⟩,c2⟩:=HP.out.cell;have HN:=Hd HP.out.next;have hdl:d<fr.length:=by have:=HFL.out;omega
    obtain⟨bf,of,hbf,hbl2,c3⟩:=zbY HF.out hdl;subst hbf;rw[← HBW.out.cell hbl2,← HN.out.below.cell (zv5 hbl2 HBW.out.size)]at c3;have y2:=z1;rw[← HN.out.below.cell hzw]at y2;rw[zv2,zv1 hdl,Option.getD_some]at HN;have hfd:fr[d]≤d:=by have:=HP.out.back.2.1;rw[Nat.add_sub_cancel,zv2,zv1 hdl,Option.getD_some]at this;omega
    generalize fr[d]=q at *
    go_wp2_with fail
    go_roundg r
    case measure=>omega
    case rel=>exact⟨r,q,_,_,d :: tail,rfl,by omega,rfl,rfl,by omega,by omega,HN⟩
set_option maxHeartbeats 8000000
theorem zl9 (k:Int)(w:World):Calls Tryz.prog 84 #[.int .i64 k] w fun e w'=>e=.returned (.bool (exprK k))∧w'=w:=by
 refine Or.elim (Classical.em (1≤k)) (fun h1=>?a1) (fun h1=>?b1)
 ·have t1:decide (1≤k)=true:=by simpa using h1
  refine Or.elim (Classical.em (k≤17)) (fun h2=>?a2) (fun h2=>?b2)
  ·have t2:decide (k≤17)=true:=by simpa using h2
   have hr:exprK k=true:=by unfold exprK;simp;omega
   rw[hr]
   go_enter Tryz.func84,Tryz.ntmps84
   go_wp2_with fail
   go_ret;exact⟨rfl,rfl⟩
  ·have t2:decide (k≤17)=false:=by simpa using h2
   have hr:exprK k=false:=by unfold exprK;simp;omega
   rw[hr]
   go_enter Tryz.func84,Tryz.ntmps84
   go_wp2_with fail
   go_ret;exact⟨rfl,rfl⟩
 ·have t1:decide (1≤k)=false:=by simpa using h1
  have hr:exprK k=false:=by unfold exprK;simp;omega
  rw[hr]
  go_enter Tryz.func84,Tryz.ntmps84
  go_wp2_with fail
  go_ret;exact⟨rfl,rfl⟩
theorem zh6 (k:Int)(w:World):Calls Tryz.prog 61 #[.int .i64 k] w fun e w'=>e=.returned (.bool (exprK k))∧w'=w:=by
 refine Or.elim (Classical.em (1≤k)) (fun h1=>?a3) (fun h1=>?b3)
 ·have t1:decide (1≤k)=true:=by simpa using h1
  refine Or.elim (Classical.em (k≤17)) (fun h2=>?a4) (fun h2=>?b4)
  ·have t2:decide (k≤17)=true:=by simpa using h2
   have hr:exprK k=true:=by unfold exprK;simp;omega
   rw[hr]
   go_enter Tryz.func61,Tryz.ntmps61
   go_wp2_with fail
   go_ret;exact⟨rfl,rfl⟩
  ·have t2:decide (k≤17)=false:=by simpa using h2
   have hr:exprK k=false:=by unfold exprK;simp;omega
   rw[hr]
   go_enter Tryz.func61,Tryz.ntmps61
   go_wp2_with fail
   go_ret;exact⟨rfl,rfl⟩
 ·have t1:decide (1≤k)=false:=by simpa using h1
  have hr:exprK k=false:=by unfold exprK;simp;omega
  rw[hr]
  go_enter Tryz.func61,Tryz.ntmps61
  go_wp2_with fail
  go_ret;exact⟨rfl,rfl⟩
theorem zt7 (k:Int)(w:World):Calls Tryz.prog 124 #[.int .i64 k] w fun e w'=>e=.returned (.bool (stmtK k))∧w'=w:=by
 refine Or.elim (Classical.em (20≤k)) (fun h1=>?a5) (fun h1=>?b5)
 ·have t1:decide (20≤k)=true:=by simpa using h1
  refine Or.elim (Classical.em (k≤32)) (fun h2=>?a6) (fun h2=>?b6)
  ·have t2:decide (k≤32)=true:=by simpa using h2
   refine Or.elim (Classical.em (k=22)) (fun h3=>?a7) (fun h3=>?b7)
   ·have t3:(k != 22)=false:=by simpa using h3
    have hr:stmtK k=false:=by unfold stmtK;simp;omega
    rw[hr]
    go_enter Tryz.func124,Tryz.ntmps124
    go_wp2_with fail
    go_ret;exact⟨rfl,rfl⟩
   ·have t3:(k != 22)=true:=by simpa using h3
    have hr:stmtK k=true:=by unfold stmtK;simp;omega
    rw[hr]
    go_enter Tryz.func124,Tryz.ntmps124
    go_wp2_with fail
    go_ret;exact⟨rfl,rfl⟩
  ·have t2:decide (k≤32)=false:=by simpa using h2
   have hr:stmtK k=false:=by unfold stmtK;simp;omega
   rw[hr]
   go_enter Tryz.func124,Tryz.ntmps124
   go_wp2_with fail
   go_ret;exact⟨rfl,rfl⟩
 ·have t1:decide (20≤k)=false:=by simpa using h1
  have hr:stmtK k=false:=by unfold stmtK;simp;omega
  rw[hr]
  go_enter Tryz.func124,Tryz.ntmps124
  go_wp2_with fail
  go_ret;exact⟨rfl,rfl⟩
theorem znY (k:Int)(w:World):Calls Tryz.prog 105 #[.int .i64 k] w fun e w'=>e=.returned (.bool (stmtK k))∧w'=w:=by
 refine Or.elim (Classical.em (20≤k)) (fun h1=>?a8) (fun h1=>?b8)
 ·have t1:decide (20≤k)=true:=by simpa using h1
  refine Or.elim (Classical.em (k≤32)) (fun h2=>?a9) (fun h2=>?b9)
  ·have t2:decide (k≤32)=true:=by simpa using h2
   refine Or.elim (Classical.em (k=22)) (fun h3=>?a10) (fun h3=>?b10)
   ·have t3:(k != 22)=false:=by simpa using h3
    have hr:stmtK k=false:=by unfold stmtK;simp;omega
    rw[hr]
    go_enter Tryz.func105,Tryz.ntmps105
    go_wp2_with fail
    go_ret;exact⟨rfl,rfl⟩
   ·have t3:(k != 22)=true:=by simpa using h3
    have hr:stmtK k=true:=by unfold stmtK;simp;omega
    rw[hr]
    go_enter Tryz.func105,Tryz.ntmps105
    go_wp2_with fail
    go_ret;exact⟨rfl,rfl⟩
  ·have t2:decide (k≤32)=false:=by simpa using h2
   have hr:stmtK k=false:=by unfold stmtK;simp;omega
   rw[hr]
   go_enter Tryz.func105,Tryz.ntmps105
   go_wp2_with fail
   go_ret;exact⟨rfl,rfl⟩
 ·have t1:decide (20≤k)=false:=by simpa using h1
  have hr:stmtK k=false:=by unfold stmtK;simp;omega
  rw[hr]
  go_enter Tryz.func105,Tryz.ntmps105
  go_wp2_with fail
  go_ret;exact⟨rfl,rfl⟩
theorem zvu (k q:Int)(i:Nat)(w:World)(h:k=25→i<2):Calls Tryz.prog 101 #[.int .i64 k,.int .i64 (i:Int),.int .i64 q] w fun e w'=>e=.returned (.bool (mayN k i q))∧w'=w:=by
 have HEk:=Hd (fun w=>zl9 k w);have HEq:=Hd (fun w=>zl9 q w);have HSq:=Hd (fun w=>zt7 q w);unfold mayN;rcases hx:exprK k with _|_<;>rw[hx]at HEk
 case' true=>
  rw[if_pos (Or.inl rfl)];clear hx h;generalize exprK q=E at *
 case' false=>
  refine Or.elim (Classical.em (k=20∨k=32∨k=22)) (fun h20=>?a11) (fun h20=>?b11)
  case' a11=>
   rw[if_pos (Or.inr h20)];rcases h20 with rfl|rfl|rfl
   all_goals
    clear hx h;generalize exprK q=E at *
  case' b11=>
   rw[if_neg (by simp;omega)];refine Or.elim (Classical.em (k=26)) (fun h26=>?a12) (fun h26=>?b12)
   case' a12=>
    rw[if_pos h26];subst h26;clear hx h20 h;refine Or.elim (Classical.em (i=0)) (fun i0=>?a13) (fun i0=>?b13)
    case' a13=>
     rw[if_pos i0];subst i0;generalize exprK q=E at *;refine Or.elim (Classical.em (q=20)) (fun q20=>?a14) (fun q20=>?b14)
     case' a14=>subst q20
     case' b14=>
      refine Or.elim (Classical.em (q=22)) (fun q22=>?a15) (fun q22=>?b15)
      case' a15=>subst q22
      case' b15=>
       refine Or.elim (Classical.em (q=33)) (fun q33=>?a16) (fun q33=>?b16)
       case' a16=>subst q33
       case' b16=>
        rw[decide_eq_false (by omega)];have f1:(q == 20)=false:=by simpa using q20
        have f2:(q == 22)=false:=by simpa using q22
        have f3:(q == 33)=false:=by simpa using q33
        clear q20 q22 q33
    case' b13=>
     rw[if_neg i0];have e0:((i:Int) == 0)=false:=by simp;omega
     refine Or.elim (Classical.em (i=3)) (fun i3=>?a17) (fun i3=>?b17)
     case' a17=>
      rw[if_pos i3];clear i0 e0;subst i3;generalize stmtK q=S at *
     case' b17=>
      rw[if_neg i3];have e3:((i:Int) == 3)=false:=by simp;omega
      clear i0 i3;refine Or.elim (Classical.em (q=33)) (fun qc=>?a18) (fun qc=>?b18)
      case' a18=>subst qc
      case' b18=>
       rw[decide_eq_false qc];have f1:(q == 33)=false:=by simpa using qc
       clear qc
      all_goals
       generalize exprK _=E at *;rcases E with _|_
   case' b12=>
    rw[if_neg h26];refine Or.elim (Classical.em (k=21)) (fun h21=>?a19) (fun h21=>?b19)
    case' a19=>
     rw[if_pos h21];subst h21;clear hx h20 h26 h;refine Or.elim (Classical.em (q=22)) (fun qc=>?a20) (fun qc=>?b20)
     case' a20=>subst qc
     case' b20=>
      rw[decide_eq_false qc];have f1:(q == 22)=false:=by simpa using qc
      clear qc
     all_goals
      generalize stmtK _=S at *;rcases S with _|_
    case' b19=>
     rw[if_neg h21];refine Or.elim (Classical.em (k=25)) (fun h25=>?a21) (fun h25=>?b21)
     case' a21=>
      rw[if_pos h25];have hi:=h h25;subst h25;clear hx h20 h26 h21 h;refine Or.elim (Classical.em (i=0)) (fun i0=>?a22) (fun i0=>?b22)
      case' a22=>
       rw[if_pos i0];subst i0;clear hi
      case' b22=>
       rw[if_neg i0];obtain rfl:i=1:=by omega
       clear hi i0
      all_goals
       generalize stmtK q=S at *;generalize exprK q=E at *;rcases S with _|_
     case' b21=>
      rw[if_neg h25];refine Or.elim (Classical.em (k=23∨k=24∨k=27∨k=28)) (fun h23=>?a23) (fun h23=>?b23)
      case' a23=>
       rw[if_pos h23];clear hx h20 h26 h21 h25 h;refine Or.elim (Classical.em (i=0)) (fun i0=>?a24) (fun i0=>?b24)
       case' a24=>
        rw[if_pos i0];subst i0
       case' b24=>
        rw[if_neg i0];have e0:((i:Int) == 0)=false:=by simp;omega
        have e1:decide (0<(i:Int))=true:=by simp;omega
        have e2:decide (0<i)=true:=by simp;omega
        clear i0
       all_goals
        generalize stmtK q=S at *;generalize exprK q=E at *;rcases E with _|_
        all_goals rcases h23 with rfl|rfl|rfl|rfl
      case' b23=>
       rw[if_neg h23];have g20:(k == 20)=false:=by simp;omega
       have g21:(k == 21)=false:=by simp;omega
       have g22:(k == 22)=false:=by simp;omega
       have g23:(k == 23)=false:=by simp;omega
       have g24:(k == 24)=false:=by simp;omega
       have g25:(k == 25)=false:=by simp;omega
       have g26:(k == 26)=false:=by simp;omega
       have g27:(k == 27)=false:=by simp;omega
       have g28:(k == 28)=false:=by simp;omega
       have g32:(k == 32)=false:=by simp;omega
       clear hx h20 h26 h21 h25 h23 h;generalize stmtK q=S at *
 all_goals
  go_enter Tryz.func101,Tryz.ntmps101
  go_wp2_with (first|(go_at_call 84;(with_reducible refine(HEk.out _).mono ?_);rintro e w2 ⟨rfl,hw2⟩;subst w2)|(go_at_call 84;(with_reducible refine(HEq.out _).mono ?_);rintro e w2 ⟨rfl,hw2⟩;subst w2)|(go_at_call 124;(with_reducible refine(HSq.out _).mono ?_);rintro e w2 ⟨rfl,hw2⟩;subst w2))
  go_ret;exact⟨rfl,rfl⟩
set_option maxHeartbeats 8000000
def zjy (r:Bool)(w:World)(e:Ending)(w':World):Prop:=e=.returned (.bool r)∧Below w.heap.size w w'
structure WholeAt (w:World)(a b:Option Addr)(t:List Nd)(fr:List Nat):Prop where
 nds:zaV w.heap.size w a t
 nats:zdm w.heap.size w b fr
theorem WholeAt.below {w w':World}{a b:Option Addr}{t:List Nd}{fr:List Nat}(h:WholeAt w a b t fr)(hb:Below w.heap.size w w'):WholeAt w' a b t fr:=⟨(h.nds.below hb (zv0 _)).mono hb.size,(h.nats.below hb (zv0 _)).mono hb.size⟩
structure Given (t:List Nd)(fr:List Nat):Prop where
 le:t.length≤4096
 formed:Formed t fr
 well:∀(k:Nat) x,t[k]?=some x→wellN x=true
theorem zfL {w:World}{a b:Option Addr}{t:List Nd}{fr:List Nat}(h:WholeAt w a b t fr){k:Nat}(hk:k<t.length):∃ba off,a=some ⟨ba,off,none⟩∧ba<w.heap.size∧w.cell? ⟨ba,off+k*6,none⟩=some (.int .i64 (kindAt t k)):=by
 obtain⟨ba,off,ha,hbl,x0,_⟩:=zbg h.nds hk;refine⟨ba,off,ha,hbl,?_⟩;rw[za7 (zv1 hk)];exact x0
theorem zcV {L:List Nat}{i:Nat}(h:i<L.length):L.getD i 0=L[i]∧L[i] ∈ L:=by
 rw[zv2,zv1 h];exact⟨rfl,zwb h⟩
theorem zh4 (a:Option Addr)(cap:Nat)(t:List Nd)(b:Option Addr)(capb:Nat)(fr:List Nat)(hG:Given t fr):∀(m k:Nat),k<m→k<t.length→∀w,WholeAt w a b t fr →
 Calls Tryz.prog 106 #[.slice a t.length cap,.slice b fr.length capb,.int .i64 (k:Int)] w (zjy (zc6 t fr k) w)
 | 0,k,hm,_,_,_=>by omega
 | m+1,k,hm,hk,w,hW=>by
   have HRec:=Hd (zh4 a cap t b capb fr hG m);have HPt:=Hd (zcR a cap t b capb fr w hW.nds hW.nats hG.le hG.formed k hk);have HW:=Hd hW;obtain⟨ba,off,ha,hbl,x0⟩:=zfL hW hk;subst ha;have HLt:=Hd (fun p (h:p ∈ partsAt t fr k)=>hG.formed.parts_lt h);have HFL:=Hd hG.formed.len;have hl:=hG.le;have hpl:(partsAt t fr k).length≤4096:=by rw[zan (zv1 hk),zak];have:=(hG.formed.node k _ (zv1 hk)).2.1.le;omega
   clear hW
   by_cases h23:kindAt t k=23
   ·have hop:=zpU hG.formed hG.well hk h23
    obtain⟨hlo,hhi,_⟩:=zbF (hG.well k _ (zv1 hk));rw[← za7 (zv1 hk),h23,show arityN 23=(2,3) by decide]at hlo hhi;have hlen:(partsAt t fr k).length=t[k].n.toNat:=by rw[zan (zv1 hk),zak]
    simp only at hlo hhi;have hlen2:2≤(partsAt t fr k).length∧(partsAt t fr k).length≤3:=by omega
    clear hlo hhi hlen;rw[hop];clear hop;generalize hkd:kindAt t k=kd at *;have hk:=hk;clear hkd;subst h23;generalize partsAt t fr k=P at *
    by_cases h2:P.length=2
    ·have t2:((P.length:Int) == 2)=true:=by rw[h2];rfl
     have hv:(decide (P.length=2) || (decide (2<P.length) && zc6 t fr (P.getD 2 0)))=true:=by simp[h2]
     rw[hv];clear hv h2
     go_enter Tryz.func106,Tryz.ntmps106
     go_upto_region 2 with (go_at_call 78;go_loud (with_reducible refine HPt.out.mono ?_);rintro e w1 ⟨⟨v,rfl,hrow⟩,hb1⟩;obtain⟨pa,pc,rfl,_⟩:=hrow.is;have HB1:=Hd hb1;have y0:=x0;rw[← hb1.cell hbl]at y0;clear hrow hb1)
     go_wp2_with fail
     go_ret;exact⟨rfl,HB1.out⟩
    ·have h3:2<P.length:=by omega
     have t2:((P.length:Int) == 2)=false:=by simp;omega
     have hv:(decide (P.length=2) || (decide (2<P.length) && zc6 t fr (P.getD 2 0)))=zc6 t fr (P.getD 2 0):=by simp[h2,h3]
     rw[hv,(zcV h3).1];have hlt:=HLt.out _ (zcV h3).2;obtain⟨q,hq⟩:∃q,q=P[2]:=⟨_,rfl⟩
     rw[← hq]at hlt ⊢;have HQ:=Hd hq;clear hq;clear hv
     go_enter Tryz.func106,Tryz.ntmps106
     go_upto_region 2 with (go_at_call 78;go_loud (with_reducible refine HPt.out.mono ?_);rintro e w1 ⟨⟨v,rfl,hrow⟩,hb1⟩;obtain⟨pa,pc,rfl,hP,_⟩:=hrow.is;obtain⟨pb,po,hpa,hpb,c2⟩:=zbY hP h3;rw[← HQ.out]at c2;have HB1:=Hd hb1;have y0:=x0;rw[← hb1.cell hbl]at y0;clear hrow hb1 hP)
     subst hpa;have HIH:=Hd (HRec.out q (by omega) (by omega) w1 (HW.out.below HB1.out))
     go_wp2_with (go_at_call 106;(with_reducible refine HIH.out.mono ?_);rintro e w2 ⟨rfl,hb2⟩;have HB2:=Ht HB1 hb2;clear hb2)
     go_ret;exact⟨rfl,HB2.out⟩
   ·by_cases h5:kindAt t k=24∨kindAt t k=26∨kindAt t k=27∨kindAt t k=28∨kindAt t k=29
    ·obtain⟨h0,hop⟩:=zkb hG.formed hG.well hk h5
     rw[hop];clear hop;generalize hkd:kindAt t k=kd at *;clear hkd h23;generalize partsAt t fr k=P at *;obtain⟨j,hj⟩:∃j,j=P.length-1:=⟨_,rfl⟩
     rw[← hj];have hjl:j<P.length:=by omega
     have hgm:=zcV hjl;have hlt:=HLt.out _ hgm.2;rw[← hgm.1]at hlt;obtain⟨q,hq⟩:∃q,q=P.getD j 0:=⟨_,rfl⟩
     rw[← hq]at hlt ⊢;have HQ:=Hd (hq.trans hgm.1);have hj4:(j:Int)≤4096:=by omega
     have hj5:(j:Int)<(P.length:Int):=by omega
     have hj6:(P.length:Int)-1=(j:Int):=by omega
     have hj7:(0:Int)≤(j:Int):=by omega
     have hj8:Go.RowKit.wrap64 (j:Int)=(j:Int):=by unfold Go.RowKit.wrap64;omega
     have hj9:Go.RowKit.wrap64 ((P.length:Int)-1)=(j:Int):=by rw[hj6];exact hj8
     have hj10:IntKind.i64.wrap ((P.length:Int)-1)=(j:Int):=by rw[IntWalk.i64_left];exact hj9
     have hj11:IntKind.i64.wrap (j:Int)=(j:Int):=by rw[IntWalk.i64_left];exact hj8
     have hj12:(j:Int)≤(P.length:Int):=by omega
     clear hj hgm hq;rcases h5 with rfl|rfl|rfl|rfl|rfl
     all_goals
      go_enter Tryz.func106,Tryz.ntmps106
      go_upto_region 2 with (go_at_call 78;go_loud (with_reducible refine HPt.out.mono ?_);rintro e w1 ⟨⟨v,rfl,hrow⟩,hb1⟩;obtain⟨pa,pc,rfl,hP,_⟩:=hrow.is;obtain⟨pb,po,hpa,hpb,c2⟩:=zbY hP hjl;rw[← HQ.out]at c2;have HB1:=Hd hb1;have y0:=x0;rw[← hb1.cell hbl]at y0;clear hrow hb1 hP)
      subst hpa;have HIH:=Hd (HRec.out q (by omega) (by omega) w1 (HW.out.below HB1.out))
      go_wp2_with (go_at_call 106;(with_reducible refine HIH.out.mono ?_);rintro e w2 ⟨rfl,hb2⟩;have HB2:=Ht HB1 hb2;clear hb2)
      go_ret;exact⟨rfl,HB2.out⟩
    ·rw[zpT (by omega)]
     generalize kindAt t k=kd at *;have g23:(kd == 23)=false:=by simp;omega
     have g24:(kd == 24)=false:=by simp;omega
     have g26:(kd == 26)=false:=by simp;omega
     have g27:(kd == 27)=false:=by simp;omega
     have g28:(kd == 28)=false:=by simp;omega
     have g29:(kd == 29)=false:=by simp;omega
     clear h23 h5
     go_enter Tryz.func106,Tryz.ntmps106
     go_upto_region 2 with (go_at_call 78;go_loud (with_reducible refine HPt.out.mono ?_);rintro e w1 ⟨⟨v,rfl,hrow⟩,hb1⟩;obtain⟨pa,pc,rfl,_⟩:=hrow.is;have HB1:=Hd hb1;have y0:=x0;rw[← hb1.cell hbl]at y0;clear hrow hb1)
     go_wp2_with fail
     go_ret;exact⟨rfl,HB1.out⟩
theorem zpS (a:Option Addr)(cap:Nat)(t:List Nd)(b:Option Addr)(capb:Nat)(fr:List Nat)(hG:Given t fr):∀(m k:Nat),k<m→k<t.length→∀w,WholeAt w a b t fr →
 Calls Tryz.prog 102 #[.agg #[.slice a t.length cap,.slice b fr.length capb],.int .i64 (k:Int)] w (zjy (zc6 t fr k) w)
 | 0,k,hm,_,_,_=>by omega
 | m+1,k,hm,hk,w,hW=>by
   have HRec:=Hd (zpS a cap t b capb fr hG m);have HPt:=Hd (fun w (hW:WholeAt w a b t fr)=>zgG a cap t b capb fr w hW.nds hW.nats hG.le hG.formed k hk);have HW:=Hd hW;obtain⟨ba,off,ha,hbl,x0⟩:=zfL hW hk;subst ha;have HLt:=Hd (fun p (h:p ∈ partsAt t fr k)=>hG.formed.parts_lt h);have HFL:=Hd hG.formed.len;have hl:=hG.le;have hpl:(partsAt t fr k).length≤4096:=by rw[zan (zv1 hk),zak];have:=(hG.formed.node k _ (zv1 hk)).2.1.le;omega
   clear hW
   by_cases h23:kindAt t k=23
   ·have hop:=zpU hG.formed hG.well hk h23
    obtain⟨hlo,hhi,_⟩:=zbF (hG.well k _ (zv1 hk));rw[← za7 (zv1 hk),h23,show arityN 23=(2,3) by decide]at hlo hhi;have hlen:(partsAt t fr k).length=t[k].n.toNat:=by rw[zan (zv1 hk),zak]
    simp only at hlo hhi;have hlen2:2≤(partsAt t fr k).length∧(partsAt t fr k).length≤3:=by omega
    clear hlo hhi hlen;rw[hop];clear hop;generalize hkd:kindAt t k=kd at *;have hk:=hk;clear hkd;subst h23;generalize partsAt t fr k=P at *
    by_cases h2:P.length=2
    ·have t2:((P.length:Int) == 2)=true:=by rw[h2];rfl
     have hv:(decide (P.length=2) || (decide (2<P.length) && zc6 t fr (P.getD 2 0)))=true:=by simp[h2]
     rw[hv];clear hv h2
     go_enter Tryz.func102,Tryz.ntmps102
     go_upto_region 1 with fail
     have hxw:(w.alloc (.cells #[.slice (some ⟨ba,off,none⟩) t.length cap,.slice b fr.length capb] 126)).heap[w.heap.size]?=some (.cells #[.slice (some ⟨ba,off,none⟩) t.length cap,.slice b fr.length capb] 126 (0,0)):=zv8 _ _;have hbw:Below w.heap.size w (w.alloc (.cells #[.slice (some ⟨ba,off,none⟩) t.length cap,.slice b fr.length capb] 126)):=ba1 _ _;generalize w.alloc (.cells #[.slice (some ⟨ba,off,none⟩) t.length cap,.slice b fr.length capb] 126)=w0 at *;have hzw:=zaa hxw;obtain⟨⟨z0,z1⟩,_⟩:=zab hxw;have HBW:=Hd hbw;have HW0:=Hd (HW.out.below hbw);have v0:=x0;rw[← hbw.cell hbl]at v0;have hbl0:=zv5 hbl hbw.size;clear hxw hbw
     go_upto_region 2 with (go_at_call 74;go_loud (with_reducible refine(HPt.out _ HW0.out).mono ?_);rintro e w1 ⟨⟨v,rfl,hrow⟩,hb1⟩;obtain⟨pa,pc,rfl,_⟩:=hrow.is;have HB1:=Ht HBW hb1;have y0:=v0;rw[← hb1.cell hbl0]at y0;have y1:=z0;have y2:=z1;rw[← hb1.cell hzw]at y1 y2;have hz1:=zv5 hzw hb1.size;clear hrow hb1)
     go_upto_region 4 with fail
     have HCl:=Hd (show ∀w',Below w1.heap.size w1 w'→w'.cell? ⟨w.heap.size,0,none⟩=some (.slice (some ⟨ba,off,none⟩) t.length cap)∧w'.cell? ⟨w.heap.size,1,none⟩=some (.slice b fr.length capb) from fun w' hb=>⟨by rw[hb.cell hz1];exact y1,by rw[hb.cell hz1];exact y2⟩)
     go_quiet (fail)
     go_wp2_with fail
     go_ret;exact⟨rfl,zaf HB1.out _⟩
    ·have h3:2<P.length:=by omega
     have t2:((P.length:Int) == 2)=false:=by simp;omega
     have hv:(decide (P.length=2) || (decide (2<P.length) && zc6 t fr (P.getD 2 0)))=zc6 t fr (P.getD 2 0):=by simp[h2,h3]
     rw[hv,(zcV h3).1];have hlt:=HLt.out _ (zcV h3).2;obtain⟨q,hq⟩:∃q,q=P[2]:=⟨_,rfl⟩
     rw[← hq]at hlt ⊢;have HQ:=Hd hq;clear hq;clear hv
     go_enter Tryz.func102,Tryz.ntmps102
     go_upto_region 1 with fail
     have hxw:(w.alloc (.cells #[.slice (some ⟨ba,off,none⟩) t.length cap,.slice b fr.length capb] 126)).heap[w.heap.size]?=some (.cells #[.slice (some ⟨ba,off,none⟩) t.length cap,.slice b fr.length capb] 126 (0,0)):=zv8 _ _;have hbw:Below w.heap.size w (w.alloc (.cells #[.slice (some ⟨ba,off,none⟩) t.length cap,.slice b fr.length capb] 126)):=ba1 _ _;generalize w.alloc (.cells #[.slice (some ⟨ba,off,none⟩) t.length cap,.slice b fr.length capb] 126)=w0 at *;have hzw:=zaa hxw;obtain⟨⟨z0,z1⟩,_⟩:=zab hxw;have HBW:=Hd hbw;have HW0:=Hd (HW.out.below hbw);have v0:=x0;rw[← hbw.cell hbl]at v0;have hbl0:=zv5 hbl hbw.size;clear hxw hbw
     go_upto_region 2 with (go_at_call 74;go_loud (with_reducible refine(HPt.out _ HW0.out).mono ?_);rintro e w1 ⟨⟨v,rfl,hrow⟩,hb1⟩;obtain⟨pa,pc,rfl,hP,_⟩:=hrow.is;obtain⟨pb,po,hpa,hpb,c2⟩:=zbY hP h3;rw[← HQ.out]at c2;have HB1:=Ht HBW hb1;have y0:=v0;rw[← hb1.cell hbl0]at y0;have y1:=z0;have y2:=z1;rw[← hb1.cell hzw]at y1 y2;have hz1:=zv5 hzw hb1.size;clear hrow hb1 hP)
     subst hpa;have HIH:=Hd (fun w' (hb:Below w1.heap.size w1 w')=>HRec.out q (by omega) (by omega) w' (HW.out.below (HB1.out.trans (hb.mono HB1.out.size))));have h3i:(2:Int)<(P.length:Int):=by omega
     go_upto_region 4 with fail
     have HCl:=Hd (show ∀w',Below w1.heap.size w1 w'→w'.cell? ⟨w.heap.size,0,none⟩=some (.slice (some ⟨ba,off,none⟩) t.length cap)∧w'.cell? ⟨w.heap.size,1,none⟩=some (.slice b fr.length capb)∧w'.cell? ⟨pb,po+2,none⟩=some (.int .i64 (q:Int)) from fun w' hb=>⟨by rw[hb.cell hz1];exact y1,by rw[hb.cell hz1];exact y2,by rw[hb.cell hpb];exact c2⟩)
     go_region_held3 (fun w'=>w'.cell? ⟨w.heap.size,0,none⟩=some (.slice (some ⟨ba,off,none⟩) t.length cap)∧w'.cell? ⟨w.heap.size,1,none⟩=some (.slice b fr.length capb)∧w'.cell? ⟨pb,po+2,none⟩=some (.int .i64 (q:Int))) (first|(refine⟨?_,?_,?_⟩<;>assumption)|exact HCl.out _ ((zv3 _ _).drew)|exact HCl.out _ HB9.out) ((go_at_call 102;(with_reducible refine(HIH.out _ (zv3 _ _).drew).mono ?_);rintro e w2 ⟨rfl,hb2⟩;have HB9:=Hd (((zv3 w1.heap.size w1).drew).trans (hb2.mono (zv0 _)));have HB2:=Hd (HB1.out.trans (HB9.out.mono HB1.out.size));obtain⟨u1,u2,u3⟩:=HCl.out _ HB9.out;clear hb2))
     go_wp2_with fail
     go_ret;exact⟨rfl,HB2.out⟩
   ·by_cases h5:kindAt t k=24∨kindAt t k=26∨kindAt t k=27∨kindAt t k=28∨kindAt t k=29
    ·obtain⟨h0,hop⟩:=zkb hG.formed hG.well hk h5
     rw[hop];clear hop;generalize hkd:kindAt t k=kd at *;clear hkd h23;generalize partsAt t fr k=P at *;obtain⟨j,hj⟩:∃j,j=P.length-1:=⟨_,rfl⟩
     rw[← hj];have hjl:j<P.length:=by omega
     have hgm:=zcV hjl;have hlt:=HLt.out _ hgm.2;rw[← hgm.1]at hlt;obtain⟨q,hq⟩:∃q,q=P.getD j 0:=⟨_,rfl⟩
     rw[← hq]at hlt ⊢;have HQ:=Hd (hq.trans hgm.1);have hj4:(j:Int)≤4096:=by omega
     have hj5:(j:Int)<(P.length:Int):=by omega
     have hj6:(P.length:Int)-1=(j:Int):=by omega
     have hj7:(0:Int)≤(j:Int):=by omega
     have hj8:Go.RowKit.wrap64 (j:Int)=(j:Int):=by unfold Go.RowKit.wrap64;omega
     have hj9:Go.RowKit.wrap64 ((P.length:Int)-1)=(j:Int):=by rw[hj6];exact hj8
     have hj10:IntKind.i64.wrap ((P.length:Int)-1)=(j:Int):=by rw[IntWalk.i64_left];exact hj9
     have hj11:IntKind.i64.wrap (j:Int)=(j:Int):=by rw[IntWalk.i64_left];exact hj8
     have hj12:(j:Int)≤(P.length:Int):=by omega
     clear hj hgm hq;rcases h5 with rfl|rfl|rfl|rfl|rfl
     all_goals
      go_enter Tryz.func102,Tryz.ntmps102
      go_upto_region 1 with fail
      have hxw:(w.alloc (.cells #[.slice (some ⟨ba,off,none⟩) t.length cap,.slice b fr.length capb] 126)).heap[w.heap.size]?=some (.cells #[.slice (some ⟨ba,off,none⟩) t.length cap,.slice b fr.length capb] 126 (0,0)):=zv8 _ _;have hbw:Below w.heap.size w (w.alloc (.cells #[.slice (some ⟨ba,off,none⟩) t.length cap,.slice b fr.length capb] 126)):=ba1 _ _;generalize w.alloc (.cells #[.slice (some ⟨ba,off,none⟩) t.length cap,.slice b fr.length capb] 126)=w0 at *;have hzw:=zaa hxw;obtain⟨⟨z0,z1⟩,_⟩:=zab hxw;have HBW:=Hd hbw;have HW0:=Hd (HW.out.below hbw);have v0:=x0;rw[← hbw.cell hbl]at v0;have hbl0:=zv5 hbl hbw.size;clear hxw hbw
      go_upto_region 2 with (go_at_call 74;go_loud (with_reducible refine(HPt.out _ HW0.out).mono ?_);rintro e w1 ⟨⟨v,rfl,hrow⟩,hb1⟩;obtain⟨pa,pc,rfl,hP,_⟩:=hrow.is;obtain⟨pb,po,hpa,hpb,c2⟩:=zbY hP hjl;rw[← HQ.out]at c2;have HB1:=Ht HBW hb1;have y0:=v0;rw[← hb1.cell hbl0]at y0;have y1:=z0;have y2:=z1;rw[← hb1.cell hzw]at y1 y2;have hz1:=zv5 hzw hb1.size;clear hrow hb1 hP)
      subst hpa;have HIH:=Hd (fun w' (hb:Below w1.heap.size w1 w')=>HRec.out q (by omega) (by omega) w' (HW.out.below (HB1.out.trans (hb.mono HB1.out.size))))
      go_upto_region 10 with fail
      have HCl:=Hd (show ∀w',Below w1.heap.size w1 w'→w'.cell? ⟨w.heap.size,0,none⟩=some (.slice (some ⟨ba,off,none⟩) t.length cap)∧w'.cell? ⟨w.heap.size,1,none⟩=some (.slice b fr.length capb)∧w'.cell? ⟨pb,po+j,none⟩=some (.int .i64 (q:Int)) from fun w' hb=>⟨by rw[hb.cell hz1];exact y1,by rw[hb.cell hz1];exact y2,by rw[hb.cell hpb];exact c2⟩)
      go_region_held3 (fun w'=>w'.cell? ⟨w.heap.size,0,none⟩=some (.slice (some ⟨ba,off,none⟩) t.length cap)∧w'.cell? ⟨w.heap.size,1,none⟩=some (.slice b fr.length capb)∧w'.cell? ⟨pb,po+j,none⟩=some (.int .i64 (q:Int))) (first|(refine⟨?_,?_,?_⟩<;>assumption)|exact HCl.out _ ((zv3 _ _).drew)|exact HCl.out _ HB9.out) ((go_at_call 102;(with_reducible refine(HIH.out _ (zv3 _ _).drew).mono ?_);rintro e w2 ⟨rfl,hb2⟩;have HB9:=Hd (((zv3 w1.heap.size w1).drew).trans (hb2.mono (zv0 _)));have HB2:=Hd (HB1.out.trans (HB9.out.mono HB1.out.size));obtain⟨u1,u2,u3⟩:=HCl.out _ HB9.out;clear hb2))
      go_wp2_with fail
      go_ret;exact⟨rfl,HB2.out⟩
    ·rw[zpT (by omega)]
     generalize kindAt t k=kd at *;have g23:(kd == 23)=false:=by simp;omega
     have g24:(kd == 24)=false:=by simp;omega
     have g26:(kd == 26)=false:=by simp;omega
     have g27:(kd == 27)=false:=by simp;omega
     have g28:(kd == 28)=false:=by simp;omega
     have g29:(kd == 29)=false:=by simp;omega
     clear h23 h5
     go_enter Tryz.func102,Tryz.ntmps102
     go_upto_region 1 with fail
     have hxw:(w.alloc (.cells #[.slice (some ⟨ba,off,none⟩) t.length cap,.slice b fr.length capb] 126)).heap[w.heap.size]?=some (.cells #[.slice (some ⟨ba,off,none⟩) t.length cap,.slice b fr.length capb] 126 (0,0)):=zv8 _ _;have hbw:Below w.heap.size w (w.alloc (.cells #[.slice (some ⟨ba,off,none⟩) t.length cap,.slice b fr.length capb] 126)):=ba1 _ _;generalize w.alloc (.cells #[.slice (some ⟨ba,off,none⟩) t.length cap,.slice b fr.length capb] 126)=w0 at *;have hzw:=zaa hxw;obtain⟨⟨z0,z1⟩,_⟩:=zab hxw;have HBW:=Hd hbw;have HW0:=Hd (HW.out.below hbw);have v0:=x0;rw[← hbw.cell hbl]at v0;have hbl0:=zv5 hbl hbw.size;clear hxw hbw
     go_upto_region 2 with (go_at_call 74;go_loud (with_reducible refine(HPt.out _ HW0.out).mono ?_);rintro e w1 ⟨⟨v,rfl,hrow⟩,hb1⟩;obtain⟨pa,pc,rfl,_⟩:=hrow.is;have HB1:=Ht HBW hb1;have y0:=v0;rw[← hb1.cell hbl0]at y0;have y1:=z0;have y2:=z1;rw[← hb1.cell hzw]at y1 y2;have hz1:=zv5 hzw hb1.size;clear hrow hb1)
     go_wp2_with fail
     go_ret;exact⟨rfl,HB1.out⟩
end Go.Proofs.YtbbaooeioogijaaGreatDoor
namespace Go.Proofs.YtbbaooeioogijaaGreatDoor
theorem zfJ {t:List Nd}{k:Int}:∀{l:List Nat} {i:Nat},(∀(j p:Nat),l[j]?=some p→mayN k (i+j) (kindAt t p)=true)→zde t k i l=true
 | [],_,_=>rfl
 | p :: l,i,h=>by
   rw[zde,Bool.and_eq_true];exact⟨h 0 p rfl,zfJ fun j q hq=>by rw[show i+1+j=i+(j+1) by omega];exact h (j+1) q (by simpa using hq)⟩
theorem zg6 {t:List Nd}{k:Int}:∀{l:List Nat} {i j p:Nat},l[j]?=some p→mayN k (i+j) (kindAt t p)=false→zde t k i l=false
 | [],_,_,_,h,_=>by simp at h
 | q :: l,i,0,p,h,hm=>by
   obtain rfl:=zv4 h;rw[zde,show mayN k i (kindAt t q)=false from hm]
   rfl
 | q :: l,i,j+1,p,h,hm=>by
   rw[zde,zg6 (i:=i+1) (j:=j) (by simpa using h) (by rw[show i+1+j=i+(j+1) by omega];exact hm),Bool.and_false]
end Go.Proofs.YtbbaooeioogijaaGreatDoor
namespace Go.Proofs.YtbbaooeioogijaaGreatDoor
open Go.RowKit
set_option maxRecDepth 100000
set_option maxHeartbeats 8000000
theorem zgW {t:List Nd}{fr:List Nat}(hG:Given t fr){k n:Nat}(hk:k<t.length){c:Int}(h:kindAt t k=c)(ha:arityN c=((n:Int),(n:Int))):(partsAt t fr k).length=n:=by
 obtain⟨hlo,hhi,_⟩:=zbF (hG.well k _ (zv1 hk));rw[← za7 (zv1 hk),h,ha]at hlo hhi;rw[zan (zv1 hk),zak];simp only at hlo hhi;omega
theorem zj3 {t:List Nd}{fr:List Nat}(hG:Given t fr){k:Nat}(hk:k<t.length)(h:kindAt t k=23):2≤(partsAt t fr k).length∧(partsAt t fr k).length≤3:=by
 obtain⟨hlo,hhi,_⟩:=zbF (hG.well k _ (zv1 hk));rw[← za7 (zv1 hk),h,show arityN 23=(2,3) by decide]at hlo hhi;rw[zan (zv1 hk),zak];simp only at hlo hhi;omega
theorem zuK (a:Option Addr)(cap:Nat)(t:List Nd)(b:Option Addr)(capb:Nat)(fr:List Nat)(hG:Given t fr)(k:Nat)(hk:k<t.length)(w:World)(hW:WholeAt w a b t fr) :
 Calls Tryz.prog 72 #[.agg #[.slice a t.length cap,.slice b fr.length capb],.int .i64 (k:Int)] w (zjy (fitsN t fr k) w):=by
 have HPt:=Hd (fun w (hW:WholeAt w a b t fr)=>zgG a cap t b capb fr w hW.nds hW.nats hG.le hG.formed k hk);have HW:=Hd hW;have HOp:=Hd (fun p (hp:p<t.length) w hW=>zpS a cap t b capb fr hG (p+1) p (Nat.lt_succ_self p) hp w hW);obtain⟨ba,off,ha,hbl,x0⟩:=zfL hW hk;subst ha;have HLt:=Hd (fun p (h:p ∈ partsAt t fr k)=>hG.formed.parts_lt h);have hl:=hG.le;have hpl:(partsAt t fr k).length≤4096:=by rw[zan (zv1 hk),zak];have:=(hG.formed.node k _ (zv1 hk)).2.1.le;omega
 have H25:=Hd (show kindAt t k=25→(partsAt t fr k).length=2 from fun h=>zgW hG hk h (by decide));have H23:=Hd (show kindAt t k=23→2≤(partsAt t fr k).length∧(partsAt t fr k).length≤3 from fun h=>zj3 hG hk h);have hfit:=Hd (show fitsN t fr k=(zde t (kindAt t k) 0 (partsAt t fr k) && (decide (kindAt t k≠23) || (decide ((partsAt t fr k).length<3) || !zc6 t fr ((partsAt t fr k).getD 1 0)))) from rfl);generalize fitsN t fr k=fit at *;generalize hkd:kindAt t k=kd at *;have HKd:=Hd hkd;clear hW hkd;generalize partsAt t fr k=P at *
 go_enter Tryz.func72,Tryz.ntmps72
 go_upto_region 1 with fail
 have hxw:(w.alloc (.cells #[.slice (some ⟨ba,off,none⟩) t.length cap,.slice b fr.length capb] 126)).heap[w.heap.size]?=some (.cells #[.slice (some ⟨ba,off,none⟩) t.length cap,.slice b fr.length capb] 126 (0,0)):=zv8 _ _;have hbw:Below w.heap.size w (w.alloc (.cells #[.slice (some ⟨ba,off,none⟩) t.length cap,.slice b fr.length capb] 126)):=ba1 _ _;generalize w.alloc (.cells #[.slice (some ⟨ba,off,none⟩) t.length cap,.slice b fr.length capb] 126)=w0 at *;have hzw:=zaa hxw;obtain⟨⟨z0,z1⟩,_⟩:=zab hxw;have HBW:=Hd hbw;have HW0:=Hd (HW.out.below hbw);have v0:=x0;rw[← hbw.cell hbl]at v0;have hbl0:=zv5 hbl hbw.size;clear hxw hbw
 go_upto_region 2 with (go_at_call 74;(with_reducible refine(HPt.out _ HW0.out).mono ?_);rintro e w1 ⟨⟨v,rfl,hrow⟩,hb1⟩;obtain⟨pa,pc,rfl,hP,_⟩:=hrow.is;have HP:=Hd hP;have HB1:=Ht HBW hb1;have y0:=v0;rw[← hb1.cell hbl0]at y0;have y1:=z0;have y2:=z1;rw[← hb1.cell hzw]at y1 y2;have hz1:=zv5 hzw hb1.size;clear hrow hb1 hP)
 go_wp2_with fail
 go_loopg [13] P.length (fun m v13 wy=>∃i:Nat,i≤P.length∧i+m=P.length∧v13=.int .i64 (i:Int)∧Hid (∀(j p:Nat),j<i→P[j]?=some p→mayN kd j (kindAt t p)=true)∧Hid (Below w1.heap.size w1 wy))
 case atStart=>exact⟨0,by omega,by omega,rfl,fun j p h=>by omega,zv3 _ _⟩
 case round=>
  obtain⟨i,hi,him,rfl,HY,HB⟩:=hrel
  by_cases hlt:i<P.length
  ·have hplt:=HLt.out _ (zwb hlt)
   obtain⟨pb,po,hpa,hpb,c2⟩:=zbY HP.out hlt;subst hpa;obtain⟨q,hq⟩:∃q,q=P[i]:=⟨_,rfl⟩
   rw[← hq]at hplt c2;have HQ:=Hd hq;clear hq;obtain⟨ba2,off2,hba,_,x2⟩:=zfL HW.out (show q<t.length by omega);obtain⟨rfl,rfl⟩:ba2=ba∧off2=off:=by simpa using hba.symm
   clear hba;rw[← (HB1.out.trans (HB.out.mono HB1.out.size)).cell hbl]at x2;rw[← HB.out.cell (zv5 hbl HB1.out.size)]at y0;rw[← HB.out.cell hz1]at y1 y2;rw[← HB.out.cell hpb]at c2;have HM:=Hd (fun w=>zvu kd (kindAt t q) i w (fun h=>by have:=H25.out h;omega));rcases hm:mayN kd i (kindAt t q) with _|_
   ·have hv:=Hd (show fit=false by rw[hfit.out,zg6 (j:=i) (p:=q) (by rw[zv1 hlt,HQ.out]) (by rw[Nat.zero_add];exact hm)];rfl)
    rw[hm]at HM;clear hm;generalize kindAt t q=kq at *
    go_upto_region 5 with fail
    go_quiet ((go_at_call 101;exact Calls.quiet_of_same (HM.out _)))
    go_wp2_with fail
    go_ret;rw[hv.out];exact⟨rfl,zaf (HB1.out.trans (HB.out.mono HB1.out.size)) _⟩
   ·have HY2:=Hd (show ∀(j p:Nat),j<i+1→P[j]?=some p→mayN kd j (kindAt t p)=true from fun j p hj hp=>by
     rcases Nat.lt_or_ge j i with h'|h'
     ·exact HY.out j p h' hp
     ·obtain rfl:j=i:=by omega
      rw[zv1 hlt,← HQ.out]at hp;obtain rfl:=zv4 hp
      exact hm)
    rw[hm]at HM;clear hm HY;generalize kindAt t q=kq at *
    go_upto_region 5 with fail
    go_quiet ((go_at_call 101;exact Calls.quiet_of_same (HM.out _)))
    go_wp2_with fail
    go_roundg (P.length-(i+1))
    case measure=>omega
    case rel=>exact⟨i+1,by omega,by omega,by rw[zv9];rfl,HY2,Hd (zaf HB.out _)⟩
  ·obtain rfl:i=P.length:=by omega
   have hall:=Hd (show zde t kd 0 P=true from zfJ fun j p hp=>by rw[Nat.zero_add];exact HY.out j p (List.getElem?_eq_some_iff.1 hp).1 hp);clear HY;rw[← HB.out.cell (zv5 hbl HB1.out.size)]at y0;rw[← HB.out.cell hz1]at y1 y2
   by_cases h23:kd=23
   ·have g23:(kd == 23)=true:=by rw[h23];rfl
    have g23n:(kd != 23)=false:=by rw[h23];rfl
    have hP:=H23.out h23
    by_cases h3:P.length=2
    ·have t2:decide ((P.length:Int)<3)=true:=by simp;omega
     have hv:=Hd (show fit=true by rw[hfit.out,hall.out];simp[h3])
     go_upto_region 8 with fail
     go_quiet (fail)
     go_wp2_with fail
     go_ret;rw[hv.out];exact⟨rfl,zaf (HB1.out.trans (HB.out.mono HB1.out.size)) _⟩
    ·have h3:P.length=3:=by omega
     have t2:decide ((P.length:Int)<3)=false:=by simp;omega
     have hP1:1<P.length:=by omega
     have hplt:=HLt.out _ (zwb hP1);obtain⟨pb,po,hpa,hpb,c2⟩:=zbY HP.out hP1;subst hpa;have hv:=Hd (show fit=!zc6 t fr P[1] by rw[hfit.out,hall.out,(zcV hP1).1];simp[h23,h3]);obtain⟨q,hq⟩:∃q,q=P[1]:=⟨_,rfl⟩
     rw[← hq]at hplt c2 hv;clear hq h23 hall;rw[← HB.out.cell hpb]at c2;have HBr:=Hd (HB1.out.trans (HB.out.mono HB1.out.size));have hz2:=zv5 hz1 HB.out.size;have hpb2:=zv5 hpb HB.out.size;have hbar:=zv5 hbl HBr.out.size;have HIH:=Hd (fun w' (hb:Below wr.heap.size wr w')=>HOp.out q (by omega) w' (HW.out.below (HBr.out.trans (hb.mono HBr.out.size))))
     go_upto_region 8 with fail
     have HCl:=Hd (show ∀w',Below wr.heap.size wr w'→w'.cell? ⟨w.heap.size,0,none⟩=some (.slice (some ⟨ba,off,none⟩) t.length cap)∧w'.cell? ⟨w.heap.size,1,none⟩=some (.slice b fr.length capb)∧w'.cell? ⟨pb,po+1,none⟩=some (.int .i64 (q:Int))∧w'.cell? ⟨ba,off+k*6,none⟩=some (.int .i64 kd) from fun w' hb=>⟨by rw[hb.cell hz2];exact y1,by rw[hb.cell hz2];exact y2,by rw[hb.cell hpb2];exact c2,by rw[hb.cell hbar];exact y0⟩)
     go_region_held3 (fun w'=>w'.cell? ⟨w.heap.size,0,none⟩=some (.slice (some ⟨ba,off,none⟩) t.length cap)∧w'.cell? ⟨w.heap.size,1,none⟩=some (.slice b fr.length capb)∧w'.cell? ⟨pb,po+1,none⟩=some (.int .i64 (q:Int))∧w'.cell? ⟨ba,off+k*6,none⟩=some (.int .i64 kd)) (first|(refine⟨?_,?_,?_,?_⟩<;>assumption)|exact HCl.out _ ((zv3 _ _).drew)|exact HCl.out _ HB9.out) ((go_at_call 102;(with_reducible refine(HIH.out _ (zv3 _ _).drew).mono ?_);rintro e w2 ⟨rfl,hb2⟩;have HB9:=Hd (((zv3 wr.heap.size wr).drew).trans (hb2.mono (zv0 _)));have HB2:=Hd (HBr.out.trans (HB9.out.mono HBr.out.size));obtain⟨u1,u2,u3,u4⟩:=HCl.out _ HB9.out;clear hb2))
     go_wp2_with fail
     go_ret;rw[hv.out];exact⟨by simp,HB2.out⟩
   ·have g23:(kd == 23)=false:=by simpa using h23
    have g23n:(kd != 23)=true:=by rw[bne,g23];rfl
    have hv:=Hd (show fit=true by rw[hfit.out,hall.out];simp[h23])
    go_upto_region 8 with fail
    go_quiet (fail)
    go_wp2_with fail
    go_ret;rw[hv.out];exact⟨rfl,zaf (HB1.out.trans (HB.out.mono HB1.out.size)) _⟩
set_option maxHeartbeats 8000000
theorem kinds (k:Int):k=1∨k=2∨k=3∨k=17∨k=30∨k=31∨k=33∨k=4∨k=5∨k=6∨k=13∨k=14∨k=15∨k=16∨k=20∨k=29∨k=7∨k=8∨k=10∨k=12∨k=24∨k=25∨k=27∨k=28∨k=9∨k=26∨k=11∨k=21∨k=22∨k=32∨k=23∨(k≠1∧k≠2∧k≠3∧k≠17∧k≠30∧k≠31∧k≠33∧k≠4∧k≠5∧k≠6∧k≠13∧k≠14∧k≠15∧k≠16∧k≠20∧k≠29∧k≠7∧k≠8∧k≠10∧k≠12∧k≠24∧k≠25∧k≠27∧k≠28∧k≠9∧k≠26∧k≠11∧k≠21∧k≠22∧k≠32∧k≠23):=by omega
theorem zjs {k:Int}(h:k≠1∧k≠2∧k≠3∧k≠17∧k≠30∧k≠31∧k≠33∧k≠4∧k≠5∧k≠6∧k≠13∧k≠14∧k≠15∧k≠16∧k≠20∧k≠29∧k≠7∧k≠8∧k≠10∧k≠12∧k≠24∧k≠25∧k≠27∧k≠28∧k≠9∧k≠26∧k≠11∧k≠21∧k≠22∧k≠32∧k≠23):arityN k=(-1,-1):=by
 unfold arityN;rw[if_neg (by omega),if_neg (by omega),if_neg (by omega),if_neg (by omega),if_neg (by omega),if_neg (by omega),if_neg (by omega),if_neg (by omega),if_neg (by omega)]
theorem zcx (k:Int)(w:World):Calls Tryz.prog 97 #[.int .i64 k] w fun e w'=>e=.returned (.tuple #[.int .i64 (arityN k).1,.int .i64 (arityN k).2])∧w'=w:=by
 rcases kinds k with rfl|rfl|rfl|rfl|rfl|rfl|rfl|rfl|rfl|rfl|rfl|rfl|rfl|rfl|rfl|rfl|rfl|rfl|rfl|rfl|rfl|rfl|rfl|rfl|rfl|rfl|rfl|rfl|rfl|rfl|rfl|h
 case' inr.inr.inr.inr.inr.inr.inr.inr.inr.inr.inr.inr.inr.inr.inr.inr.inr.inr.inr.inr.inr.inr.inr.inr.inr.inr.inr.inr.inr.inr.inr=>
  rw[zjs h];obtain⟨n1,n2,n3,n17,n30,n31,n33,n4,n5,n6,n13,n14,n15,n16,n20,n29,n7,n8,n10,n12,n24,n25,n27,n28,n9,n26,n11,n21,n22,n32,n23⟩:=h;have t1:(k == 1)=false:=by rw[zwa];exact n1
  have t2:(k == 2)=false:=by rw[zwa];exact n2
  have t3:(k == 3)=false:=by rw[zwa];exact n3
  have t4:(k == 4)=false:=by rw[zwa];exact n4
  have t5:(k == 5)=false:=by rw[zwa];exact n5
  have t6:(k == 6)=false:=by rw[zwa];exact n6
  have t7:(k == 7)=false:=by rw[zwa];exact n7
  have t8:(k == 8)=false:=by rw[zwa];exact n8
  have t9:(k == 9)=false:=by rw[zwa];exact n9
  have t10:(k == 10)=false:=by rw[zwa];exact n10
  have t11:(k == 11)=false:=by rw[zwa];exact n11
  have t12:(k == 12)=false:=by rw[zwa];exact n12
  have t13:(k == 13)=false:=by rw[zwa];exact n13
  have t14:(k == 14)=false:=by rw[zwa];exact n14
  have t15:(k == 15)=false:=by rw[zwa];exact n15
  have t16:(k == 16)=false:=by rw[zwa];exact n16
  have t17:(k == 17)=false:=by rw[zwa];exact n17
  have t20:(k == 20)=false:=by rw[zwa];exact n20
  have t21:(k == 21)=false:=by rw[zwa];exact n21
  have t22:(k == 22)=false:=by rw[zwa];exact n22
  have t23:(k == 23)=false:=by rw[zwa];exact n23
  have t24:(k == 24)=false:=by rw[zwa];exact n24
  have t25:(k == 25)=false:=by rw[zwa];exact n25
  have t26:(k == 26)=false:=by rw[zwa];exact n26
  have t27:(k == 27)=false:=by rw[zwa];exact n27
  have t28:(k == 28)=false:=by rw[zwa];exact n28
  have t29:(k == 29)=false:=by rw[zwa];exact n29
  have t30:(k == 30)=false:=by rw[zwa];exact n30
  have t31:(k == 31)=false:=by rw[zwa];exact n31
  have t32:(k == 32)=false:=by rw[zwa];exact n32
  have t33:(k == 33)=false:=by rw[zwa];exact n33
  clear n1 n2 n3 n17 n30 n31 n33 n4 n5 n6 n13 n14 n15 n16 n20 n29 n7 n8 n10 n12 n24 n25 n27 n28 n9 n26 n11 n21 n22 n32 n23
 all_goals
  go_enter Tryz.func97,Tryz.ntmps97
  go_wp2_with fail
  go_ret2
  exact⟨by rfl,rfl⟩
theorem zeN (k:Int)(w:World):Calls Tryz.prog 103 #[.int .i64 k] w fun e w'=>e=.returned (.tuple #[.int .i64 (arityN k).1,.int .i64 (arityN k).2])∧w'=w:=by
 rcases kinds k with rfl|rfl|rfl|rfl|rfl|rfl|rfl|rfl|rfl|rfl|rfl|rfl|rfl|rfl|rfl|rfl|rfl|rfl|rfl|rfl|rfl|rfl|rfl|rfl|rfl|rfl|rfl|rfl|rfl|rfl|rfl|h
 case' inr.inr.inr.inr.inr.inr.inr.inr.inr.inr.inr.inr.inr.inr.inr.inr.inr.inr.inr.inr.inr.inr.inr.inr.inr.inr.inr.inr.inr.inr.inr=>
  rw[zjs h];obtain⟨n1,n2,n3,n17,n30,n31,n33,n4,n5,n6,n13,n14,n15,n16,n20,n29,n7,n8,n10,n12,n24,n25,n27,n28,n9,n26,n11,n21,n22,n32,n23⟩:=h;have t1:(k == 1)=false:=by rw[zwa];exact n1
  have t2:(k == 2)=false:=by rw[zwa];exact n2
  have t3:(k == 3)=false:=by rw[zwa];exact n3
  have t4:(k == 4)=false:=by rw[zwa];exact n4
  have t5:(k == 5)=false:=by rw[zwa];exact n5
  have t6:(k == 6)=false:=by rw[zwa];exact n6
  have t7:(k == 7)=false:=by rw[zwa];exact n7
  have t8:(k == 8)=false:=by rw[zwa];exact n8
  have t9:(k == 9)=false:=by rw[zwa];exact n9
  have t10:(k == 10)=false:=by rw[zwa];exact n10
  have t11:(k == 11)=false:=by rw[zwa];exact n11
  have t12:(k == 12)=false:=by rw[zwa];exact n12
  have t13:(k == 13)=false:=by rw[zwa];exact n13
  have t14:(k == 14)=false:=by rw[zwa];exact n14
  have t15:(k == 15)=false:=by rw[zwa];exact n15
  have t16:(k == 16)=false:=by rw[zwa];exact n16
  have t17:(k == 17)=false:=by rw[zwa];exact n17
  have t20:(k == 20)=false:=by rw[zwa];exact n20
  have t21:(k == 21)=false:=by rw[zwa];exact n21
  have t22:(k == 22)=false:=by rw[zwa];exact n22
  have t23:(k == 23)=false:=by rw[zwa];exact n23
  have t24:(k == 24)=false:=by rw[zwa];exact n24
  have t25:(k == 25)=false:=by rw[zwa];exact n25
  have t26:(k == 26)=false:=by rw[zwa];exact n26
  have t27:(k == 27)=false:=by rw[zwa];exact n27
  have t28:(k == 28)=false:=by rw[zwa];exact n28
  have t29:(k == 29)=false:=by rw[zwa];exact n29
  have t30:(k == 30)=false:=by rw[zwa];exact n30
  have t31:(k == 31)=false:=by rw[zwa];exact n31
  have t32:(k == 32)=false:=by rw[zwa];exact n32
  have t33:(k == 33)=false:=by rw[zwa];exact n33
  clear n1 n2 n3 n17 n30 n31 n33 n4 n5 n6 n13 n14 n15 n16 n20 n29 n7 n8 n10 n12 n24 n25 n27 n28 n9 n26 n11 n21 n22 n32 n23
 all_goals
  go_enter Tryz.func103,Tryz.ntmps103
  go_wp2_with fail
  go_ret2
  exact⟨by rfl,rfl⟩
set_option maxHeartbeats 16000000
def headK (k:Int):Bool:=decide (exprK k=true∨k=20∨k=32∨k=22)
theorem zqG {k:Int}(h:0<(arityN k).2):headK k=true∨(headK k=false∧(k=21∨k=23∨k=24∨k=25∨k=26∨k=27∨k=28∨k=29)):=by
 rcases kinds k with rfl|rfl|rfl|rfl|rfl|rfl|rfl|rfl|rfl|rfl|rfl|rfl|rfl|rfl|rfl|rfl|rfl|rfl|rfl|rfl|rfl|rfl|rfl|rfl|rfl|rfl|rfl|rfl|rfl|rfl|rfl|h'
 case inr.inr.inr.inr.inr.inr.inr.inr.inr.inr.inr.inr.inr.inr.inr.inr.inr.inr.inr.inr.inr.inr.inr.inr.inr.inr.inr.inr.inr.inr.inr=>rw[zjs h']at h;simp at h
 all_goals (revert h;decide)
theorem zog {t:List Nd}{fr:List Nat}(hG:Given t fr){k:Nat}(hk:k<t.length):((partsAt t fr k).length:Int)≤(arityN (kindAt t k)).2:=by
 obtain⟨hlo,hhi,h0⟩:=zbF (hG.well k _ (zv1 hk));rw[za7 (zv1 hk),zan (zv1 hk),zak];omega
theorem zvv {k q:Int}{i:Nat}(h:headK k=true):mayN k i q=exprK q:=by
 unfold headK at h;unfold mayN;rw[if_pos (by simpa using h)]
theorem zqe {q:Int}{i:Nat}:mayN 23 i q=(if i=0 then exprK q else stmtK q):=rfl
theorem zqd {q:Int}{i:Nat}:mayN 24 i q=(if i=0 then exprK q else stmtK q):=rfl
theorem zqc {q:Int}{i:Nat}:mayN 25 i q=(if i=0 then stmtK q else exprK q):=rfl
theorem zlS {q:Int}{i:Nat}:mayN 26 i q=(if i=0 then decide (q=20∨q=22∨q=33) else if i=3 then stmtK q else exprK q || decide (q=33)):=rfl
theorem zqb {q:Int}{i:Nat}:mayN 27 i q=(if i=0 then exprK q else stmtK q):=rfl
theorem zqa {q:Int}{i:Nat}:mayN 28 i q=(if i=0 then exprK q else stmtK q):=rfl
theorem zpH (a:Option Addr)(cap:Nat)(t:List Nd)(b:Option Addr)(capb:Nat)(fr:List Nat)(hG:Given t fr)(k:Nat)(hk:k<t.length)(w:World)(hW:WholeAt w a b t fr) :
 Calls Tryz.prog 76 #[.slice a t.length cap,.slice b fr.length capb,.int .i64 (k:Int)] w (zjy (fitsN t fr k) w):=by
 have HPt:=Hd (zcR a cap t b capb fr w hW.nds hW.nats hG.le hG.formed k hk);have HW:=Hd hW;have HOp:=Hd (fun p (hp:p<t.length) w hW=>zh4 a cap t b capb fr hG (p+1) p (Nat.lt_succ_self p) hp w hW);obtain⟨ba,off,ha,hbl,x0⟩:=zfL hW hk;subst ha;have HLt:=Hd (fun p (h:p ∈ partsAt t fr k)=>hG.formed.parts_lt h);have hl:=hG.le;have hpl:(partsAt t fr k).length≤4096:=by rw[zan (zv1 hk),zak];have:=(hG.formed.node k _ (zv1 hk)).2.1.le;omega
 have H25:=Hd (show kindAt t k=25→(partsAt t fr k).length=2 from fun h=>zgW hG hk h (by decide));have H26:=Hd (show kindAt t k=26→(partsAt t fr k).length=4 from fun h=>zgW hG hk h (by decide));have H23:=Hd (show kindAt t k=23→2≤(partsAt t fr k).length∧(partsAt t fr k).length≤3 from fun h=>zj3 hG hk h);have HMo:=Hd (zog hG hk);have hfit:=Hd (show fitsN t fr k=(zde t (kindAt t k) 0 (partsAt t fr k) && (decide (kindAt t k≠23) || (decide ((partsAt t fr k).length<3) || !zc6 t fr ((partsAt t fr k).getD 1 0)))) from rfl);have HEx:=Hd (fun k w=>zh6 k w);have HSt:=Hd (fun k w=>znY k w);generalize fitsN t fr k=fit at *;generalize hkd:kindAt t k=kd at *;have HKd:=Hd hkd;clear hW hkd;generalize partsAt t fr k=P at *
 go_enter Tryz.func76,Tryz.ntmps76
 go_upto_region 2 with (go_at_call 78;(with_reducible refine HPt.out.mono ?_);rintro e w1 ⟨⟨v,rfl,hrow⟩,hb1⟩;obtain⟨pa,pc,rfl,hP,_⟩:=hrow.is;have HP:=Hd hP;have HB1:=Hd hb1;have y0:=x0;rw[← hb1.cell hbl]at y0;have hbl1:=zv5 hbl hb1.size;clear hrow hb1 hP)
 go_wp2_with fail
 go_loop [9] (fun v9=>∃i:Nat,i≤P.length∧v9=.int .i64 (i:Int)∧Hid (∀(j p:Nat),j<i→P[j]?=some p→mayN kd j (kindAt t p)=true)) (fun v9=>P.length-(intOf v9).toNat)
 case atStart=>exact⟨0,by omega,rfl,fun j p h=>by omega⟩
 case round=>
  obtain⟨i,hi,rfl,HY⟩:=hrel
  by_cases hlt:i<P.length
  ·have hplt:=HLt.out _ (zwb hlt)
   obtain⟨pb,po,hpa,hpb,c2⟩:=zbY HP.out hlt;subst hpa;obtain⟨q,hq⟩:∃q,q=P[i]:=⟨_,rfl⟩
   rw[← hq]at hplt c2;have HQ:=Hd hq;clear hq;obtain⟨ba2,off2,hba,_,x2⟩:=zfL HW.out (show q<t.length by omega);obtain⟨rfl,rfl⟩:ba2=ba∧off2=off:=by simpa using hba.symm
   clear hba;rw[← HB1.out.cell hbl]at x2;have hcls:=zqG (k:=kd) (by have:=HMo.out;omega);obtain⟨kq,hkq⟩:∃kq,kq=kindAt t q:=⟨_,rfl⟩
   rw[← hkq]at x2;have HKq:=Hd hkq;clear hkq
   go_upto_block 2 with fail
   go_cut [11] (fun v wx=>∃m:Bool,v=.bool m∧Hid (m=mayN kd i kq)∧wx=w1)
   case first=>
    go_upto_region 9 with fail
    go_cut [37] (fun v wx=>v=.bool (headK kd)∧wx=w1)
    case first=>
     have HE1:=Hd (HEx.out kd);have hh:=Hd (show headK kd=(exprK kd || ((kd == 20) || ((kd == 32) || (kd == 22)))) by unfold headK;rw[Bool.eq_iff_iff];simp);clear hcls;generalize headK kd=hd at *;rcases hx:exprK kd with _|_
     case false=>
      rw[hx]at hh HE1;rcases h20:(kd == 20) with _|_
      case true=>
       rw[h20]at hh
       go_wp2_with (go_at_call 61;(with_reducible refine(HE1.out _).mono ?_);rintro e w2 ⟨rfl,hw2⟩;subst w2)
       go_meet
       exact⟨by rw[hh.out];simp,rfl⟩
      case false=>
       rw[h20]at hh;rcases h32:(kd == 32) with _|_
       case true=>
        rw[h32]at hh
        go_wp2_with (go_at_call 61;(with_reducible refine(HE1.out _).mono ?_);rintro e w2 ⟨rfl,hw2⟩;subst w2)
        go_meet
        exact⟨by rw[hh.out];simp,rfl⟩
       case false=>
        rw[h32]at hh;rcases h22:(kd == 22) with _|_
        all_goals
         rw[h22]at hh
         go_wp2_with (go_at_call 61;(with_reducible refine(HE1.out _).mono ?_);rintro e w2 ⟨rfl,hw2⟩;subst w2)
         go_meet
         exact⟨by rw[hh.out];simp,rfl⟩
     case true=>
      rw[hx]at hh HE1
      go_wp2_with (go_at_call 61;(with_reducible refine(HE1.out _).mono ?_);rintro e w2 ⟨rfl,hw2⟩;subst w2)
      go_meet
      exact⟨by rw[hh.out];simp,rfl⟩
    case rest=>
     obtain⟨rfl,hwx⟩:=hcut;have hwx:=hwx.symm;subst hwx;have HE1:=Hd (HEx.out kq);have HS1:=Hd (HSt.out kq);rcases hcls with h|⟨hn,h⟩
     case inl=>
      have hm:=Hd (show exprK kq=mayN kd i kq from (zvv h).symm);rw[h];clear h
      go_wp2_with (go_at_call 61;(with_reducible refine(HE1.out _).mono ?_);rintro e w2 ⟨rfl,hw2⟩;subst w2)
      go_meet
      exact⟨_,rfl,hm,rfl⟩
     case inr=>
      rw[hn];rcases h with rfl|rfl|rfl|rfl|rfl|rfl|rfl|rfl
      ·have hi0:=True.intro
       have hm0:=Hd (show (stmtK kq || decide (kq=22))=mayN 21 i kq by rfl);clear hi0;rcases hs:stmtK kq with _|_
       case true=>
        rw[hs]at hm0 HS1;have hm:=Hd (show true=mayN 21 i kq by rw[← hm0.out];rfl);clear hm0 hs
        go_wp2_with (first|(go_at_call 61;(with_reducible refine(HE1.out _).mono ?_);rintro e w2 ⟨rfl,hw2⟩;subst w2)|(go_at_call 105;(with_reducible refine(HS1.out _).mono ?_);rintro e w2 ⟨rfl,hw2⟩;subst w2))
        go_meet
        exact⟨_,rfl,hm,rfl⟩
       case false=>
        rw[hs]at hm0 HS1;have hm:=Hd (show (kq == 22)=mayN 21 i kq by rw[← hm0.out,Bool.false_or];rfl);clear hm0 hs
        go_wp2_with (first|(go_at_call 61;(with_reducible refine(HE1.out _).mono ?_);rintro e w2 ⟨rfl,hw2⟩;subst w2)|(go_at_call 105;(with_reducible refine(HS1.out _).mono ?_);rintro e w2 ⟨rfl,hw2⟩;subst w2))
        go_meet
        exact⟨_,rfl,hm,rfl⟩
      ·by_cases hi0:i=0
       ·have i0:((i:Int) == 0)=true:=by simpa using hi0
        have hm:=Hd (show exprK kq=mayN 23 i kq by rw[zqe,if_pos hi0]);clear hi0
        go_wp2_with (first|(go_at_call 61;(with_reducible refine(HE1.out _).mono ?_);rintro e w2 ⟨rfl,hw2⟩;subst w2)|(go_at_call 105;(with_reducible refine(HS1.out _).mono ?_);rintro e w2 ⟨rfl,hw2⟩;subst w2))
        go_meet
        exact⟨_,rfl,hm,rfl⟩
       ·have i0:((i:Int) == 0)=false:=by simpa using hi0
        have hm:=Hd (show stmtK kq=mayN 23 i kq by rw[zqe,if_neg hi0]);clear hi0
        go_wp2_with (first|(go_at_call 61;(with_reducible refine(HE1.out _).mono ?_);rintro e w2 ⟨rfl,hw2⟩;subst w2)|(go_at_call 105;(with_reducible refine(HS1.out _).mono ?_);rintro e w2 ⟨rfl,hw2⟩;subst w2))
        go_meet
        exact⟨_,rfl,hm,rfl⟩
      ·by_cases hi0:i=0
       ·have i0:((i:Int) == 0)=true:=by simpa using hi0
        have hm:=Hd (show exprK kq=mayN 24 i kq by rw[zqd,if_pos hi0]);clear hi0
        go_wp2_with (first|(go_at_call 61;(with_reducible refine(HE1.out _).mono ?_);rintro e w2 ⟨rfl,hw2⟩;subst w2)|(go_at_call 105;(with_reducible refine(HS1.out _).mono ?_);rintro e w2 ⟨rfl,hw2⟩;subst w2))
        go_meet
        exact⟨_,rfl,hm,rfl⟩
       ·have i0:((i:Int) == 0)=false:=by simpa using hi0
        have hm:=Hd (show stmtK kq=mayN 24 i kq by rw[zqd,if_neg hi0]);clear hi0
        go_wp2_with (first|(go_at_call 61;(with_reducible refine(HE1.out _).mono ?_);rintro e w2 ⟨rfl,hw2⟩;subst w2)|(go_at_call 105;(with_reducible refine(HS1.out _).mono ?_);rintro e w2 ⟨rfl,hw2⟩;subst w2))
        go_meet
        exact⟨_,rfl,hm,rfl⟩
      ·have h2:=H25.out rfl
       by_cases hi0:i=0
       ·have i1:((i:Int) == 1)=false:=by rw[hi0];rfl
        clear h2;have hm:=Hd (show stmtK kq=mayN 25 i kq by rw[zqc,if_pos hi0]);clear hi0
        go_wp2_with (first|(go_at_call 61;(with_reducible refine(HE1.out _).mono ?_);rintro e w2 ⟨rfl,hw2⟩;subst w2)|(go_at_call 105;(with_reducible refine(HS1.out _).mono ?_);rintro e w2 ⟨rfl,hw2⟩;subst w2))
        go_meet
        exact⟨_,rfl,hm,rfl⟩
       ·have i1:((i:Int) == 1)=true:=by rw[show i=1 by omega];rfl
        clear h2;have hm:=Hd (show exprK kq=mayN 25 i kq by rw[zqc,if_neg hi0]);clear hi0
        go_wp2_with (first|(go_at_call 61;(with_reducible refine(HE1.out _).mono ?_);rintro e w2 ⟨rfl,hw2⟩;subst w2)|(go_at_call 105;(with_reducible refine(HS1.out _).mono ?_);rintro e w2 ⟨rfl,hw2⟩;subst w2))
        go_meet
        exact⟨_,rfl,hm,rfl⟩
      ·have h4:=H26.out rfl
       by_cases hi0:i=0
       ·have i0:((i:Int) == 0)=true:=by simpa using hi0
        clear h4;have hm0:=Hd (show decide (kq=20∨kq=22∨kq=33)=mayN 26 i kq by rw[zlS,if_pos hi0]);clear hi0;rcases q20:(kq == 20) with _|_
        case false=>
         rcases q22:(kq == 22) with _|_
         case false=>
          have hm:=Hd (show (kq == 33)=mayN 26 i kq by rw[← hm0.out];rw[zwa]at q20 q22;rw[Bool.eq_iff_iff];simp[q20,q22])
          go_wp2_with (first|(go_at_call 61;(with_reducible refine(HE1.out _).mono ?_);rintro e w2 ⟨rfl,hw2⟩;subst w2)|(go_at_call 105;(with_reducible refine(HS1.out _).mono ?_);rintro e w2 ⟨rfl,hw2⟩;subst w2))
          go_meet
          exact⟨_,rfl,hm,rfl⟩
         case true=>
          have hm:=Hd (show true=mayN 26 i kq by rw[← hm0.out];rw[beq_iff_eq]at q22;simp[q22])
          go_wp2_with (first|(go_at_call 61;(with_reducible refine(HE1.out _).mono ?_);rintro e w2 ⟨rfl,hw2⟩;subst w2)|(go_at_call 105;(with_reducible refine(HS1.out _).mono ?_);rintro e w2 ⟨rfl,hw2⟩;subst w2))
          go_meet
          exact⟨_,rfl,hm,rfl⟩
        case true=>
         have hm:=Hd (show true=mayN 26 i kq by rw[← hm0.out];rw[beq_iff_eq]at q20;simp[q20])
         go_wp2_with (first|(go_at_call 61;(with_reducible refine(HE1.out _).mono ?_);rintro e w2 ⟨rfl,hw2⟩;subst w2)|(go_at_call 105;(with_reducible refine(HS1.out _).mono ?_);rintro e w2 ⟨rfl,hw2⟩;subst w2))
         go_meet
         exact⟨_,rfl,hm,rfl⟩
       ·have i0:((i:Int) == 0)=false:=by simpa using hi0
        by_cases hi3:i=3
        ·have i3:decide ((i:Int)<3)=false:=by simp;omega
         clear h4;have hm:=Hd (show stmtK kq=mayN 26 i kq by rw[zlS,if_neg hi0,if_pos hi3]);clear hi0 hi3
         go_wp2_with (first|(go_at_call 61;(with_reducible refine(HE1.out _).mono ?_);rintro e w2 ⟨rfl,hw2⟩;subst w2)|(go_at_call 105;(with_reducible refine(HS1.out _).mono ?_);rintro e w2 ⟨rfl,hw2⟩;subst w2))
         go_meet
         exact⟨_,rfl,hm,rfl⟩
        ·have i3:decide ((i:Int)<3)=true:=by simp;omega
         clear h4;have hm0:=Hd (show (exprK kq || decide (kq=33))=mayN 26 i kq by rw[zlS,if_neg hi0,if_neg hi3]);clear hi0;rcases hs:exprK kq with _|_
         case true=>
          rw[hs]at hm0 HE1;have hm:=Hd (show true=mayN 26 i kq by rw[← hm0.out];rfl);clear hm0 hs
          go_wp2_with (first|(go_at_call 61;(with_reducible refine(HE1.out _).mono ?_);rintro e w2 ⟨rfl,hw2⟩;subst w2)|(go_at_call 105;(with_reducible refine(HS1.out _).mono ?_);rintro e w2 ⟨rfl,hw2⟩;subst w2))
          go_meet
          exact⟨_,rfl,hm,rfl⟩
         case false=>
          rw[hs]at hm0 HE1;have hm:=Hd (show (kq == 33)=mayN 26 i kq by rw[← hm0.out,Bool.false_or];rfl);clear hm0 hs
          go_wp2_with (first|(go_at_call 61;(with_reducible refine(HE1.out _).mono ?_);rintro e w2 ⟨rfl,hw2⟩;subst w2)|(go_at_call 105;(with_reducible refine(HS1.out _).mono ?_);rintro e w2 ⟨rfl,hw2⟩;subst w2))
          go_meet
          exact⟨_,rfl,hm,rfl⟩
      ·by_cases hi0:i=0
       ·have i0:((i:Int) == 0)=true:=by simpa using hi0
        have hm:=Hd (show exprK kq=mayN 27 i kq by rw[zqb,if_pos hi0]);clear hi0
        go_wp2_with (first|(go_at_call 61;(with_reducible refine(HE1.out _).mono ?_);rintro e w2 ⟨rfl,hw2⟩;subst w2)|(go_at_call 105;(with_reducible refine(HS1.out _).mono ?_);rintro e w2 ⟨rfl,hw2⟩;subst w2))
        go_meet
        exact⟨_,rfl,hm,rfl⟩
       ·have i0:((i:Int) == 0)=false:=by simpa using hi0
        have hm:=Hd (show stmtK kq=mayN 27 i kq by rw[zqb,if_neg hi0]);clear hi0
        go_wp2_with (first|(go_at_call 61;(with_reducible refine(HE1.out _).mono ?_);rintro e w2 ⟨rfl,hw2⟩;subst w2)|(go_at_call 105;(with_reducible refine(HS1.out _).mono ?_);rintro e w2 ⟨rfl,hw2⟩;subst w2))
        go_meet
        exact⟨_,rfl,hm,rfl⟩
      ·by_cases hi0:i=0
       ·have i0:((i:Int) == 0)=true:=by simpa using hi0
        have hm:=Hd (show exprK kq=mayN 28 i kq by rw[zqa,if_pos hi0]);clear hi0
        go_wp2_with (first|(go_at_call 61;(with_reducible refine(HE1.out _).mono ?_);rintro e w2 ⟨rfl,hw2⟩;subst w2)|(go_at_call 105;(with_reducible refine(HS1.out _).mono ?_);rintro e w2 ⟨rfl,hw2⟩;subst w2))
        go_meet
        exact⟨_,rfl,hm,rfl⟩
       ·have i0:((i:Int) == 0)=false:=by simpa using hi0
        have hm:=Hd (show stmtK kq=mayN 28 i kq by rw[zqa,if_neg hi0]);clear hi0
        go_wp2_with (first|(go_at_call 61;(with_reducible refine(HE1.out _).mono ?_);rintro e w2 ⟨rfl,hw2⟩;subst w2)|(go_at_call 105;(with_reducible refine(HS1.out _).mono ?_);rintro e w2 ⟨rfl,hw2⟩;subst w2))
        go_meet
        exact⟨_,rfl,hm,rfl⟩
      ·have hi0:=True.intro
       have hm:=Hd (show stmtK kq=mayN 29 i kq by rfl);clear hi0
       go_wp2_with (first|(go_at_call 61;(with_reducible refine(HE1.out _).mono ?_);rintro e w2 ⟨rfl,hw2⟩;subst w2)|(go_at_call 105;(with_reducible refine(HS1.out _).mono ?_);rintro e w2 ⟨rfl,hw2⟩;subst w2))
       go_meet
       exact⟨_,rfl,hm,rfl⟩
   case rest=>
    obtain⟨m,rfl,hm,hwx⟩:=hcut;have hwx:=hwx.symm;subst hwx;cases m with
    | false=>
      have hv:=Hd (show fit=false by rw[hfit.out,zg6 (j:=i) (p:=q) (by rw[zv1 hlt,HQ.out]) (by rw[Nat.zero_add,← HKq.out];exact hm.out.symm)];rfl)
      go_wp2_with fail
      go_ret;rw[hv.out];exact⟨rfl,HB1.out⟩
    | true=>
      have HY2:=Hd (show ∀(j p:Nat),j<i+1→P[j]?=some p→mayN kd j (kindAt t p)=true from fun j p hj hp=>by
       rcases Nat.lt_or_ge j i with h'|h'
       ·exact HY.out j p h' hp
       ·obtain rfl:j=i:=by omega
        rw[zv1 hlt,← HQ.out]at hp;obtain rfl:=zv4 hp;rw[← HKq.out]
        exact hm.out.symm)
      clear HY
      go_wp2_with fail
      go_round
      case rel=>exact⟨i+1,by omega,by go_num,HY2⟩
      case measure=>simp[intOf];omega
  ·obtain rfl:i=P.length:=by omega
   have hall:=Hd (show zde t kd 0 P=true from zfJ fun j p hp=>by rw[Nat.zero_add];exact HY.out j p (List.getElem?_eq_some_iff.1 hp).1 hp);clear HY
   by_cases h23:kd=23
   ·have g23n:(kd != 23)=false:=by rw[h23];rfl
    have hP:=H23.out h23
    by_cases h3:P.length=2
    ·have t2:decide ((P.length:Int)<3)=true:=by simp;omega
     have hv:=Hd (show fit=true by rw[hfit.out,hall.out];simp[h3])
     go_wp2_with fail
     go_ret;rw[hv.out];exact⟨rfl,HB1.out⟩
    ·have h3:P.length=3:=by omega
     have t2:decide ((P.length:Int)<3)=false:=by simp;omega
     have hP1:1<P.length:=by omega
     have hplt:=HLt.out _ (zwb hP1);obtain⟨pb,po,hpa,hpb,c2⟩:=zbY HP.out hP1;subst hpa;have hv:=Hd (show fit=!zc6 t fr P[1] by rw[hfit.out,hall.out,(zcV hP1).1];simp[h23,h3]);obtain⟨q,hq⟩:∃q,q=P[1]:=⟨_,rfl⟩
     rw[← hq]at hplt c2 hv;clear hq h23 hall;have HO1:=Hd (HOp.out q (by omega) w1 (HW.out.below HB1.out))
     go_wp2_with (go_at_call 106;(with_reducible refine HO1.out.mono ?_);rintro e w2 ⟨rfl,hb2⟩;have HB2:=Ht HB1 hb2;clear hb2)
     go_ret;rw[hv.out];exact⟨by simp,HB2.out⟩
   ·have g23n:(kd != 23)=true:=by rw[bne_iff_ne];exact h23
    have hv:=Hd (show fit=true by rw[hfit.out,hall.out];simp[h23])
    go_wp2_with fail
    go_ret;rw[hv.out];exact⟨rfl,HB1.out⟩
end Go.Proofs.YtbbaooeioogijaaGreatDoor
