/- Two parts and a mark between; a row of expressions; a type i -/
import Derived.Test.YtkokdafkjjcgoaaGreatDoorMg26
namespace Go.Proofs.YtkokdafkjjcgoaaGreatDoor
open Go.RowKit
set_option maxRecDepth 100000
def PutsL (pb:Nat) (a:Option Addr) (t:List Nd) (b:Option Addr) (fr:List Nat) (f:FuncId) (args:Array Value) (la:Option Addr) (P:List Nat) (L:List Tok):Prop:=
 ∀ (W:List ByteArray) (w:World),PapAt pb W w → PrOk pb a t b fr w → SlS 1 natCells pb w la P → W.length + L.length < 1000000000000 → Calls Tryz.prog f args w (PutEnd pb (W ++ L.map wordV) w)
theorem nats_atP {B:Nat} {w:World} {a:Option Addr} {L:List Nat} (h:IsSl 1 natCells B w a L) {i:Nat} (hi:i < L.length):∃ b off,a = some ⟨b,off,none⟩ ∧ w.cell? ⟨b,off + i,none⟩ = some (.int .i64 (L[i]:Int)):=by
 obtain ⟨b,off,h1,_,h2⟩:=nats_at h hi
 exact ⟨b,off,h1,h2⟩
set_option maxRecDepth 100000 in
set_option maxHeartbeats 4000000 in
theorem infix_ok {pb:Nat} {a b la:Option Addr} {cap capb n lc:Nat} {t:List Nd} {fr P:List Nat} (hn1:2 ≤ n) (hn2:n ≤ P.length) {p q:Nat} (hp:P[0]? = some p) (hq:P[1]? = some q) (left right:Int) (mark:ByteArray) {A B:List Tok}
 (hA:Puts pb a t b fr 98 #[prV pb a t.length cap b fr.length capb,.int .i64 (p:Int),.int .i64 left] A)
 (hB:Puts pb a t b fr 98 #[prV pb a t.length cap b fr.length capb,.int .i64 (q:Int),.int .i64 right] B) :
 PutsL pb a t b fr 99 #[prV pb a t.length cap b fr.length capb,.slice la n lc,.int .i64 left,.string mark,.int .i64 right] la P (A ++ tkM mark :: B):=by
 intro W w hP hO hL hn
 have HA:=Hd hA
 have HB:=Hd hB
 have HS0:=Hd (fun w1 h=>PrSt.start (cap:=cap) (capb:=capb) (w1:=w1) hP hO h)
 have HL:=Hd (fun w1 (hk:KeepP pb w w1)=>(show ∃ b off,la = some ⟨b,off,none⟩ ∧ w1.cell? ⟨b,off,none⟩ = some (.int .i64 (p:Int)) ∧ w1.cell? ⟨b,off + 1,none⟩ = some (.int .i64 (q:Int)) from by
  have h:=(hL.kept hP.rowOk hk).sl
  obtain ⟨b1,o1,e1,c1⟩:=nats_atP h (i:=0) (by omega)
  obtain ⟨b2,o2,e2,c2⟩:=nats_atP h (i:=1) (by omega)
  rw [e1] at e2
  simp only [Option.some.injEq,Addr.mk.injEq] at e2
  obtain ⟨rfl,rfl,_⟩:=e2
  rw [List.getElem?_eq_getElem (by omega)] at hp hq
  rw [Option.some.inj hp,Nat.add_zero] at c1
  rw [Option.some.inj hq] at c2
  exact ⟨b1,o1,e1,c1,c2⟩))
 simp only [List.length_cons,List.length_append] at hn
 have hn3:0 < n:=by omega
 have hn4:1 < n:=by omega
 have hn5:(1:Int) < (n:Int):=by omega
 have hn6:¬ (n:Int) ≤ 1:=by omega
 clear hP hO hA hB hL hp hq
 go_enter Tryz.func99,Tryz.ntmps99
 go_upto_region 1 with fail
 generalize hg1:w.alloc _ = w1 at *
 have HS1:=Hd (HS0.out w1 rfl)
 clear hg1 HS0
 obtain ⟨y0,y1,y2⟩:=HS1.out.cells
 obtain ⟨bb,oo,ha,x0,x1⟩:=HL.out w1 HS1.out.keep
 subst ha
 go_still_tail 5,(by kernel_rfl)
 change wpList _ _ _ _ _ w1.drew
 have HS2:=Hd (HS1.out.below ((Below.refl _ w1).drew))
 go_upto_region 2 with (go_at_call 98;(refine (HS2.out.call HA.out (by omega)).mono ?_);rintro e w3 ⟨rfl,hs⟩;have HS3:=Hd hs;clear hs;obtain ⟨z0,z1,z2⟩:=HS3.out.cells)
 go_upto_region 3 with (go_at_call 96;(refine (HS3.out.put1 mark (by simp;omega)).mono ?_);rintro e w4 ⟨rfl,hs⟩;have HS4:=Hd hs;clear hs)
 obtain ⟨z0,z1,z2⟩:=HS4.out.cells
 obtain ⟨b5,o5,ha,x2,x3⟩:=HL.out w4 HS4.out.keep
 simp only [Option.some.injEq,Addr.mk.injEq] at ha
 obtain ⟨rfl,rfl,_⟩:=ha
 go_still_tail 5,(by kernel_rfl)
 change wpList _ _ _ _ _ w4.drew
 have HS5:=Hd (HS4.out.below ((Below.refl _ w4).drew))
 go_wp2_with (go_at_call 98;(refine (HS5.out.call HB.out (by simp;omega)).mono ?_);rintro e w6 ⟨rfl,hs⟩;have HS6:=Hd hs;clear hs)
 go_end0
 have:=HS6.out.end_
 simpa [word_M] using this
theorem declared_puts {pb:Nat} {a b:Option Addr} {t:List Nd} {fr:List Nat} (s name:ByteArray):Puts pb a t b fr 114 #[.pointer (some ⟨pb,0,none⟩),.string s,.string name] (declK s name):=fun W w hP hO hn=>declared9_ok pb W s name w hP hO.env hn
theorem token_puts {pb:Nat} {a b:Option Addr} {t:List Nd} {fr:List Nat} {x:Tok} (hx:goodB x = true):Puts pb a t b fr 95 #[.pointer (some ⟨pb,0,none⟩),tokV x] [x]:=fun W w hP hO hn=>token_ok pb W x w hP hO.env hx (by simp only [List.length_singleton] at hn;omega)
set_option maxRecDepth 100000 in
set_option maxHeartbeats 4000000 in
theorem bracketed_puts {pb:Nat} {a b:Option Addr} {cap capb:Nat} {t:List Nd} {fr:List Nat} (s:ByteArray):Puts pb a t b fr 101 #[prV pb a t.length cap b fr.length capb,.string s] (brkT s):=by
 intro W w hP hO hn
 have HD:=Hd (declared_puts (pb:=pb) (a:=a) (b:=b) (t:=t) (fr:=fr) s ⟨#[]⟩)
 have HS0:=Hd (fun w1 h=>PrSt.start (cap:=cap) (capb:=capb) (w1:=w1) hP hO h)
 unfold brkT at hn ⊢
 generalize declK s ⟨#[]⟩ = L at *
 simp only [List.length_cons,List.length_append,List.length_nil] at hn
 clear hP hO
 go_enter Tryz.func101,Tryz.ntmps101
 go_upto_region 1 with fail
 generalize hg1:w.alloc _ = w1 at *
 have HS1:=Hd (HS0.out w1 rfl)
 clear hg1 HS0
 obtain ⟨z0,z1,z2⟩:=HS1.out.cells
 go_wp2_with (first
  | (go_at_call 96;(refine (HS3.out.put1 ⟨#[41]⟩ (by simp;omega)).mono ?_);rintro e w5 ⟨rfl,hs⟩;have HS4:=Hd hs;clear hs)
  | (go_at_call 96;(refine (HS1.out.put1 ⟨#[40]⟩ (by omega)).mono ?_);rintro e w3 ⟨rfl,hs⟩;have HS2:=Hd hs;clear hs;obtain ⟨z0,z1,z2⟩:=HS2.out.cells)
  | (go_at_call 114;(refine (HS2.out.call HD.out (by simp;omega)).mono ?_);rintro e w4 ⟨rfl,hs⟩;have HS3:=Hd hs;clear hs;obtain ⟨z0,z1,z2⟩:=HS3.out.cells))
 go_end0
 simpa [word_M] using HS4.out.end_
theorem rowF_le (l:List Nat) (f:Nat → List Tok) (i:Nat):∀ n,i ≤ n → (rowF l f i).length ≤ (rowF l f n).length
 | 0,h=>by obtain rfl:i = 0:=by omega
           exact Nat.le_refl _
 | n + 1,h=>by
   rcases Nat.lt_or_ge n i with h1 | h1
   ·obtain rfl:i = n + 1:=by omega
    exact Nat.le_refl _
   ·rw [rowF_next,List.length_append]
    have:=rowF_le l f i n h1
    omega
set_option maxRecDepth 100000 in
set_option maxHeartbeats 4000000 in
theorem row_ok {pb:Nat} {a b la:Option Addr} {cap capb lc:Nat} {t:List Nd} {fr P:List Nat} {F:Nat → List Tok} (hPl:P.length ≤ 4096)
 (hA:∀ p ∈ P,Puts pb a t b fr 98 #[prV pb a t.length cap b fr.length capb,.int .i64 (p:Int),.int .i64 2] (F p)) :
 PutsL pb a t b fr 142 #[prV pb a t.length cap b fr.length capb,.slice la P.length lc] la P (rowF P F P.length):=by
 intro W w hP hO hL hn
 have HA:=Hd hA
 have HS0:=Hd (fun w1 h=>PrSt.start (cap:=cap) (capb:=capb) (w1:=w1) hP hO h)
 have HL:=Hd (fun w1 (hk:KeepP pb w w1) i (hi:i < P.length)=>nats_atP (hL.kept hP.rowOk hk).sl hi)
 clear hP hO hA hL
 go_enter Tryz.func142,Tryz.ntmps142
 go_upto_region 1 with fail
 generalize hg1:w.alloc _ = w1 at *
 have HS1:=Hd (HS0.out w1 rfl)
 clear hg1 HS0
 go_wp2_with fail
 go_loopg [8] P.length (fun g v wr=>∃ i:Nat,i ≤ P.length ∧ i + g = P.length ∧ v = .int .i64 (i:Int) ∧ Hid (PrSt pb a cap t b capb fr w.heap.size w (W ++ (rowF P F i).map wordV) wr))
 case atStart=>exact ⟨0,Nat.zero_le _,by omega,rfl,Hd (by simpa [rowF] using HS1.out)⟩
 case round=>
  obtain ⟨i,hi,hig,rfl,HSr⟩:=hrel
  by_cases hlt:i < P.length
  ·obtain ⟨bb,oo,ha,c0⟩:=HL.out wr HSr.out.keep i hlt
   subst ha
   have hb:=rowF_le P F (i + 1) P.length (by omega)
   have hx:=rowF_next P F i
   rw [atF_is hlt] at hx
   have HQ:=Hd (HA.out P[i] (List.getElem_mem hlt))
   have hb':=congrArg List.length hx
   simp only [List.length_append] at hb'
   have HX:=Hd hx
   generalize P[i] = p at *
   generalize F p = L at *
   obtain ⟨z0,z1,z2⟩:=HSr.out.cells
   refine Or.elim (Classical.em (0 < i)) (fun h0=>?a1) (fun h0=>?b1)
   case' a1=>
    have t1:decide ((0:Int) < (i:Int)) = true:=by simpa using h0
    rw [if_pos h0] at HX hb'
    simp only [List.length_singleton] at hb'
   case' b1=>
    have t1:decide ((0:Int) < (i:Int)) = false:=by simpa using h0
    rw [if_neg h0] at HX hb'
    simp only [List.length_nil] at hb'
   all_goals
    clear hx
    go_wp2_with (first
     | (go_at_call 96;(refine (HSr.out.put1 ⟨#[44]⟩ (by simp;omega)).mono ?_);rintro e w3 ⟨rfl,hs⟩;have HS2:=Hd hs;clear hs;obtain ⟨z0,z1,z2⟩:=HS2.out.cells)
     | (go_at_call 98;(refine (HS2.out.call HQ.out (by simp;omega)).mono ?_);rintro e w4 ⟨rfl,hs⟩;have HS3:=Hd hs;clear hs)
     | (go_at_call 98;(refine (HSr.out.call HQ.out (by simp;omega)).mono ?_);rintro e w4 ⟨rfl,hs⟩;have HS3:=Hd hs;clear hs))
    go_roundg (P.length - (i + 1))
    case measure=>omega
    case rel=>exact ⟨i + 1,by omega,by omega,by rw [Int.natCast_add];rfl,Hd (by rw [HX.out];simpa [word_M] using HS3.out)⟩
  ·obtain rfl:i = P.length:=by omega
   go_wp2_with fail
   go_end0
   exact HSr.out.end_
def NodeP (w:World) (q:Nat) (x:Nd):Prop:=w.heap[q]? = some (.cells #[.int .i64 x.kind,.int .i64 x.n,.int .i64 x.at_,.int .i64 x.int,.string x.text,.string x.type] 36 (0,0))
section
variable {pb:Nat} {a b:Option Addr} {cap capb:Nat} {t:List Nd} {fr:List Nat} {bx:Nat} {w0 w w':World} {W W':List ByteArray}
theorem PrSt.rebase (h:PrSt pb a cap t b capb fr bx w0 W w):PrSt pb a cap t b capb fr bx w W w:=⟨h.pap,h.ok,h.box,h.safe,KeepP.refl _ _⟩
theorem PrSt.end_from {w1:World} (h:PrSt pb a cap t b capb fr bx w1 W w) (hk:KeepP pb w0 w1):PutEnd pb W w0 (.returned (.tuple #[])) w:=⟨rfl,h.pap,hk.trans h.keep⟩
theorem PrSt.callL {f:FuncId} {args:Array Value} {la:Option Addr} {P:List Nat} {L:List Tok} (h:PrSt pb a cap t b capb fr bx w0 W w) (hf:PutsL pb a t b fr f args la P L) (hL:SlS 1 natCells pb w la P) (hn:W.length + L.length < 1000000000000):Calls Tryz.prog f args w fun e w'=>e = .returned (.tuple #[]) ∧ PrSt pb a cap t b capb fr bx w0 (W ++ L.map wordV) w':=
 (hf W w h.pap h.ok hL hn).mono fun _ _ h'=>⟨h'.1,h.put h'⟩
theorem SlS.tailN {w:World} {g o:Nat} {P:List Nat} (h:SlS 1 natCells pb w (some ⟨g,o,none⟩) P):SlS 1 natCells pb w (some ⟨g,o + 1,none⟩) P.tail:=by
 have hne:P.tail ≠ [] → P ≠ []:=fun hn e=>hn (by rw [e];rfl)
 refine ⟨fun hn=>?_,fun hn b off e=>?_⟩
 ·obtain ⟨b,off,ha,hlt,hc⟩:=h.sl (hne hn)
  simp only [Option.some.injEq,Addr.mk.injEq] at ha
  obtain ⟨rfl,rfl,_⟩:=ha
  refine ⟨g,o + 1,rfl,hlt,fun i x hx j u hu=>?_⟩
  have:=hc (i + 1) x (by simpa using hx) j u hu
  rw [show o + 1 + i * 1 + j = o + (i + 1) * 1 + j by omega]
  exact this
 ·simp only [Option.some.injEq,Addr.mk.injEq] at e
  obtain ⟨rfl,_,_⟩:=e
  exact h.safe (hne hn) g o rfl
theorem SlS.tailC {w:World} {g o lc:Nat} {P:List Nat} (h:SlS 1 natCells pb w (some ⟨g,o,none⟩) P) (hc:P.length ≤ lc):SlS 1 natCells pb w (if lc = 1 then some ⟨g,o,none⟩ else some ⟨g,o + 1,none⟩) P.tail:=by
 split
 ·have:P.tail = []:=by
   apply List.eq_nil_of_length_eq_zero
   rw [List.length_tail]
   omega
  rw [this]
  exact ⟨fun hn=>absurd rfl hn,fun hn=>absurd rfl hn⟩
 ·exact h.tailN
end
set_option maxRecDepth 100000 in
set_option maxHeartbeats 1000000 in
theorem postfix_ok {pb:Nat} {a b la:Option Addr} {cap capb lc:Nat} {t:List Nd} {fr P:List Nat} {x:Nd} (hk:x.kind = 6 ∨ x.kind = 11 ∨ x.kind = 12 ∨ x.kind = 13 ∨ x.kind = 14) (hPl:P.length ≤ 4096) (hPc:P.length ≤ lc) (h1:0 < P.length) (h2:x.kind = 12 → 1 < P.length)
 (hA:∀ due,∀ p ∈ P,Puts pb a t b fr 98 #[prV pb a t.length cap b fr.length capb,.int .i64 (p:Int),.int .i64 due] (partN t fr due p)) :
 PutsL pb a t b fr 102 #[prV pb a t.length cap b fr.length capb,ndV x,.slice la P.length lc] la P (atF P (partF t (exprN t fr) 16) 0 ++ backB t P (exprN t fr) x):=by
 intro W w hP hO hL hn
 have HA:=Hd hA
 have HS0:=Hd (fun w1 h=>PrSt.start (cap:=cap) (capb:=capb) (w1:=w1) hP hO h)
 have HL:=Hd (fun w1 (hk:KeepP pb w w1)=>hL.kept hP.rowOk hk)
 have HA0:=Hd (hA 16 P[0] (List.getElem_mem h1))
 have hat:=atF_is (f:=partF t (exprN t fr) 16) h1
 rw [hat] at hn ⊢
 unfold partN at HA0 HA
 generalize hL0:partF t (exprN t fr) 16 P[0] = L0 at *
 simp only [List.length_append] at hn
 clear hP hO hA hL hat hL0
 obtain ⟨k,n,p,i,s,y⟩:=x
 unfold ndV
 simp only at hk h2
 go_enter Tryz.func102,Tryz.ntmps102
 go_upto_region 1 with fail
 generalize hg1:w.alloc _ = w1 at *
 have HS1:=Hd (HS0.out w1 rfl)
 clear HS0
 generalize hg2:w1.alloc _ = w2 at *
 obtain ⟨hx2,hb2⟩:=alloc_at hg2
 have hsz2:w1.heap.size = w.heap.size + 1:=by rw [← hg1];simp
 have HS2:=Hd (HS1.out.below hb2)
 have HK2:=Hd HS2.out.keep
 have hsf:=SafeB.new HS1.out.pap.rowOk HS1.out.pap.lt hb2 (Nat.le_refl _) (lt_of_heap hx2)
 rw [hsz2] at hx2 hsf
 have HN:=Hd (fun w' (hk:KeepP pb w2 w')=>(show NodeP w' (w.heap.size + 1) ⟨k,n,p,i,s,y⟩ from hsf.obj HS2.out.pap.rowOk hk hx2))
 have HL2:=Hd (fun w' (hk:KeepP pb w2 w')=>HL.out w' (HK2.out.trans hk))
 have HR2:=Hd HS2.out.rebase
 clear hg1 hg2 hx2 hb2 hsf HL hsz2
 obtain ⟨y0,y1,y2⟩:=HR2.out.cells
 obtain ⟨bb,oo,ha,c0⟩:=nats_atP (HL2.out w2 (KeepP.refl _ _)).sl h1
 subst ha
 rw [Nat.add_zero] at c0
 go_still_tail 4,(by kernel_rfl)
 change wpList _ _ _ _ _ w2.drew
 have HS3:=Hd (HR2.out.below ((Below.refl _ w2).drew))
 clear c0
 go_upto_region 2 with (go_at_call 98;(refine (HS3.out.call HA0.out (by omega)).mono ?_);rintro e w4 ⟨rfl,hs⟩;have HS4:=Hd hs;clear hs)
 obtain ⟨z0,z1,z2⟩:=HS4.out.cells
 obtain ⟨⟨n0,n1,n2,n3,n4,n5⟩,_⟩:=six_block (HN.out w4 HS4.out.keep)
 rcases hk with rfl | rfl | rfl | rfl | rfl
 ·have hB:backB t P (exprN t fr) ⟨6,n,p,i,s,y⟩ = [tkM s]:=rfl
  rw [hB] at hn
  simp only [List.length_singleton] at hn
  go_wp2_with (go_at_call 96;go_loud (refine (HS4.out.put1 s (by simp;omega)).mono ?_);rintro e w5 ⟨rfl,hs⟩;have HS5:=Hd hs;clear hs)
  go_end0
  rw [hB]
  simpa [word_M] using HS5.out.end_from HK2.out
 ·have hB:backB t P (exprN t fr) ⟨11,n,p,i,s,y⟩ = tkM ⟨#[40]⟩ :: (rowF P.tail (partF t (exprN t fr) 2) P.tail.length ++ [tkM ⟨#[41]⟩]):=rfl
  have HRw:=Hd (row_ok (la:=if lc = 1 then some ⟨bb,oo,none⟩ else some ⟨bb,oo + 1,none⟩) (lc:=lc - 1) (P:=P.tail) (F:=partF t (exprN t fr) 2) (by simp;omega) (fun p hp=>HA.out 2 p (List.mem_of_mem_tail hp)))
  have hlc:P.length ≤ lc:=hPc
  rw [hB] at hn
  simp only [List.length_cons,List.length_append,List.length_nil] at hn
  rw [List.length_tail] at HRw hn hB
  generalize rowF P.tail (partF t (exprN t fr) 2) (P.length - 1) = R at *
  go_upto_region 7 with (go_at_call 96;(refine (HS4.out.put1 ⟨#[40]⟩ (by simp;omega)).mono ?_);rintro e w5 ⟨rfl,hs⟩;have HS5:=Hd hs;clear hs)
  obtain ⟨z0,z1,z2⟩:=HS5.out.cells
  have hPq:1 ≤ P.length:=h1
  have hPi:(1:Int) ≤ (P.length:Int):=by omega
  have hPj:(P.length:Int) ≤ (lc:Int):=by omega
  have hPk:P.length ≠ 0:=by omega
  have hPl2:((P.length:Int) - 1).toNat = P.length - 1:=by omega
  go_still_tail 3,(by kernel_rfl)
  change wpList _ _ _ _ _ w5.drew
  have HS6:=Hd (HS5.out.below ((Below.refl _ w5).drew))
  have HT:=Hd ((HL2.out _ HS6.out.keep).tailC hlc)
  generalize (if lc = 1 then some ⟨bb,oo,none⟩ else some ⟨bb,oo + 1,none⟩:Option Addr) = la2 at *
  go_upto_region 8 with (go_at_call 142;(with_reducible refine (HS6.out.callL HRw.out HT.out (by simp;omega)).mono ?_);rintro e w7 ⟨rfl,hs⟩;have HS7:=Hd hs;clear hs)
  obtain ⟨z0,z1,z2⟩:=HS7.out.cells
  go_wp2_with (go_at_call 96;(refine (HS7.out.put1 ⟨#[41]⟩ (by simp;omega)).mono ?_);rintro e w8 ⟨rfl,hs⟩;have HS8:=Hd hs;clear hs)
  go_end0
  rw [hB]
  simpa [word_M] using HS8.out.end_from HK2.out
 ·have hP1:=h2 rfl
  have hB:backB t P (exprN t fr) ⟨12,n,p,i,s,y⟩ = tkM ⟨#[91]⟩ :: (atF P (partF t (exprN t fr) 1) 1 ++ [tkM ⟨#[93]⟩]):=rfl
  have HA1:=Hd (HA.out 1 P[1] (List.getElem_mem hP1))
  rw [atF_is hP1] at hB
  rw [hB] at hn
  simp only [List.length_cons,List.length_append,List.length_nil] at hn
  generalize partF t (exprN t fr) 1 P[1] = R at *
  go_upto_region 11 with (go_at_call 96;(refine (HS4.out.put1 ⟨#[91]⟩ (by simp;omega)).mono ?_);rintro e w5 ⟨rfl,hs⟩;have HS5:=Hd hs;clear hs)
  obtain ⟨z0,z1,z2⟩:=HS5.out.cells
  obtain ⟨b5,o5,ha,c0⟩:=nats_atP (HL2.out w5 HS5.out.keep).sl hP1
  simp only [Option.some.injEq,Addr.mk.injEq] at ha
  obtain ⟨rfl,rfl,_⟩:=ha
  have hn5:(1:Int) < (P.length:Int):=by omega
  go_still_tail 4,(by kernel_rfl)
  change wpList _ _ _ _ _ w5.drew
  have HS6:=Hd (HS5.out.below ((Below.refl _ w5).drew))
  go_upto_region 12 with (go_at_call 98;(refine (HS6.out.call HA1.out (by simp;omega)).mono ?_);rintro e w7 ⟨rfl,hs⟩;have HS7:=Hd hs;clear hs)
  obtain ⟨z0,z1,z2⟩:=HS7.out.cells
  go_wp2_with (go_at_call 96;(refine (HS7.out.put1 ⟨#[93]⟩ (by simp;omega)).mono ?_);rintro e w8 ⟨rfl,hs⟩;have HS8:=Hd hs;clear hs)
  go_end0
  rw [hB]
  simpa [word_M] using HS8.out.end_from HK2.out
 ·have hB:backB t P (exprN t fr) ⟨13,n,p,i,s,y⟩ = [tkM ⟨#[46]⟩,tkN s]:=rfl
  rw [hB] at hn
  simp only [List.length_cons,List.length_nil] at hn
  go_wp2_with (go_at_call 96;(refine (HS4.out.put2 ⟨#[46]⟩ s (by simp;omega)).mono ?_);rintro e w5 ⟨rfl,hs⟩;have HS5:=Hd hs;clear hs)
  go_end0
  rw [hB]
  simpa [word_M,word_N] using HS5.out.end_from HK2.out
 ·have hB:backB t P (exprN t fr) ⟨14,n,p,i,s,y⟩ = [tkM ⟨#[45,62]⟩,tkN s]:=rfl
  rw [hB] at hn
  simp only [List.length_cons,List.length_nil] at hn
  go_wp2_with (go_at_call 96;(refine (HS4.out.put2 ⟨#[45,62]⟩ s (by simp;omega)).mono ?_);rintro e w5 ⟨rfl,hs⟩;have HS5:=Hd hs;clear hs)
  go_end0
  rw [hB]
  simpa [word_M,word_N] using HS5.out.end_from HK2.out
theorem nodeP_new (w:World) (x:Nd):NodeP (w.alloc (ndObj x)) w.heap.size x:=heap_alloc_new _ _
theorem NodeP.lt {w:World} {q:Nat} {x:Nd} (h:NodeP w q x):q < w.heap.size:=lt_of_heap h
theorem NodeP.below {w w':World} {q:Nat} {x:Nd} (h:NodeP w q x) (hb:Below w.heap.size w w'):NodeP w' q x:=(hb.block _ h.lt).trans h
abbrev set6P (w:World) (q:Nat) (x:Nd):World:=(((((w.setCell ⟨q,0,none⟩ (.int .i64 x.kind)).setCell ⟨q,1,none⟩ (.int .i64 x.n)).setCell ⟨q,2,none⟩ (.int .i64 x.at_)).setCell ⟨q,3,none⟩ (.int .i64 x.int)).setCell ⟨q,4,none⟩ (.string x.text)).setCell ⟨q,5,none⟩ (.string x.type)
theorem NodeP.set {w:World} {q:Nat} {y:Nd} (h:NodeP w q y) (x:Nd):NodeP (set6P w q x) q x:=by
 unfold NodeP set6P at *
 simp [World.setCell,Array.getElem?_modify,h]
theorem below_set6P {n:Nat} {w0 w:World} (h:Below n w0 w) {q:Nat} (hc:n ≤ q) (x:Nd):Below n w0 (set6P w q x):=(((((h.setCell hc _).setCell hc _).setCell hc _).setCell hc _).setCell hc _).setCell hc _
theorem natRow_set6 {w:World} {base q:Nat} {v:Value} {P:List Nat} (h:NatRow w base v P) (hq:v.ownBlock ≠ some q) (x:Nd):NatRow (set6P w q x) base v P:=by
 unfold NatRow at *
 unfold set6P
 exact row_set9 (row_set9 (row_set9 (row_set9 (row_set9 (row_set9 h _ _ hq) _ _ hq) _ _ hq) _ _ hq) _ _ hq) _ _ hq
theorem natRow_le {w:World} {base base':Nat} {v:Value} {P:List Nat} (h:NatRow w base v P) (hb:base' ≤ base):NatRow w base' v P:=own_le9 h hb
theorem natRow_open {w:World} {base:Nat} {v:Value} {P:List Nat} (h:NatRow w base v P):∃ a cap,v = .slice a P.length cap ∧ P.length ≤ cap ∧ IsNats w.heap.size w a P ∧ ∀ b off,a = some ⟨b,off,none⟩ → base ≤ b:=by
 obtain ⟨a,cap,rfl,hN,_⟩:=h.is
 refine ⟨a,cap,rfl,?_,hN,fun b off e=>?_⟩
 ·unfold NatRow at h
  rcases h.2 with ⟨e,h0⟩ | ⟨g,c,cur,e,_,_,h1,_⟩
  ·omega
  ·simp only [Value.slice.injEq] at e;omega
 ·subst e
  unfold NatRow at h
  exact (h.lt b rfl).1
structure ExprIn (pb:Nat) (a:Option Addr) (cap:Nat) (t:List Nd) (b:Option Addr) (capb:Nat) (fr:List Nat) (bx q:Nat) (pa:Option Addr) (pc:Nat) (P:List Nat) (x:Nd) (W:List ByteArray) (w0 w:World):Prop where
 st:PrSt pb a cap t b capb fr bx w W w
 keep:KeepP pb w0 w
 node:∀ w',KeepP pb w w' → NodeP w' q x
 sl:∀ w',KeepP pb w w' → SlS 1 natCells pb w' pa P
 len:P.length ≤ pc
theorem ExprIn.mk' {pb:Nat} {a b pa:Option Addr} {cap capb pc bx q:Nat} {t:List Nd} {fr P:List Nat} {x:Nd} {W:List ByteArray} {w0 w1 w:World} (h:PrSt pb a cap t b capb fr bx w0 W w1) (hb:Below w1.heap.size w1 w) (hn:NodeP w q x) (hq:w1.heap.size ≤ q) (hP:IsNats w.heap.size w pa P) (hf:∀ b off,pa = some ⟨b,off,none⟩ → w1.heap.size ≤ b) (hl:P.length ≤ pc) :
 ExprIn pb a cap t b capb fr bx q pa pc P x W w0 w:=by
 have h2:=h.below hb
 have hs:=SafeB.new h.pap.rowOk h.pap.lt hb hq hn.lt
 have hS:SlS 1 natCells pb w pa P:=.new h.pap.rowOk h.pap.lt hb hP (fun _=>hf)
 exact ⟨h2.rebase,h2.keep,fun w' hk=>hs.obj h2.pap.rowOk hk hn,fun w' hk=>hS.kept h2.pap.rowOk hk,hl⟩
theorem ite_bd {c:Prop} [Decidable c] {x y:Int} (h1:0 ≤ x ∧ x ≤ 13) (h2:0 ≤ y ∧ y ≤ 13):0 ≤ (if c then x else y) ∧ (if c then x else y) ≤ 13:=by split <;> assumption
theorem level_small (s:ByteArray):0 ≤ levelN s ∧ levelN s ≤ 13:=by
 unfold levelN levelL
 repeat' first
  | exact ⟨by decide,by decide⟩
  | refine ite_bd ?_ ?_
theorem parts_len9 {t:List Nd} {fr:List Nat} (h:Right9 t fr) {k:Nat} (hk:k < t.length):(arityN (ndAt t k).kind).1 ≤ ((partsAt t fr k).length:Int) ∧ ((partsAt t fr k).length:Int) ≤ (arityN (ndAt t k).kind).2:=by
 obtain ⟨hx,hw⟩:=h.nd hk
 have:=well_parts hw
 rw [partsAt_is hx,partsE_length]
 omega
set_option maxHeartbeats 4000000 in
theorem asked_ok {pb:Nat} {a b:Option Addr} {cap capb:Nat} {t:List Nd} {fr:List Nat} {p:Nat} (word:ByteArray) {A:List Tok}
 (hA:Puts pb a t b fr 98 #[prV pb a t.length cap b fr.length capb,.int .i64 (p:Int),.int .i64 1] A) :
 Puts pb a t b fr 156 #[prV pb a t.length cap b fr.length capb,.string word,.int .i64 (p:Int)] (tkK word :: tkM ⟨#[40]⟩ :: (A ++ [tkM ⟨#[41]⟩])):=by
 intro W w hP hO hn
 have HA:=Hd hA
 have HS0:=Hd (fun w1 h=>PrSt.start (cap:=cap) (capb:=capb) (w1:=w1) hP hO h)
 simp only [List.length_cons,List.length_append,List.length_nil] at hn
 clear hP hO hA
 go_enter Tryz.func156,Tryz.ntmps156
 go_upto_region 1 with fail
 generalize hg1:w.alloc _ = w1 at *
 have HS1:=Hd (HS0.out w1 rfl)
 clear hg1 HS0
 obtain ⟨z0,z1,z2⟩:=HS1.out.cells
 go_wp2_with (first
  | (go_at_call 96;(refine (HS3.out.put1 ⟨#[41]⟩ (by simp;omega)).mono ?_);rintro e w5 ⟨rfl,hs⟩;have HS4:=Hd hs;clear hs)
  | (go_at_call 96;(refine (HS1.out.put2 word ⟨#[40]⟩ (by omega)).mono ?_);rintro e w3 ⟨rfl,hs⟩;have HS2:=Hd hs;clear hs;obtain ⟨z0,z1,z2⟩:=HS2.out.cells)
  | (go_at_call 98;(refine (HS2.out.call HA.out (by simp;omega)).mono ?_);rintro e w4 ⟨rfl,hs⟩;have HS3:=Hd hs;clear hs;obtain ⟨z0,z1,z2⟩:=HS3.out.cells))
 go_end0
 simpa [word_M,word_K] using HS4.out.end_
theorem perF_no {t:List Nd} {f:Nat → List Tok} {p:Nat} (h:kindAt t p = 33):perF t f p = []:=by unfold perF;rw [if_pos h]
theorem perF_is {t:List Nd} {f:Nat → List Tok} {p:Nat} (h:kindAt t p ≠ 33):perF t f p = f p:=by unfold perF;rw [if_neg h]
set_option maxRecDepth 100000 in
set_option maxHeartbeats 4000000 in
theorem perhaps_ok {pb:Nat} {a b:Option Addr} {cap capb:Nat} {t:List Nd} {fr:List Nat} {p:Nat} (hp:p < t.length) (mark:ByteArray) {f:Nat → List Tok}
 (hA:kindAt t p ≠ 33 → Puts pb a t b fr 98 #[prV pb a t.length cap b fr.length capb,.int .i64 (p:Int),.int .i64 1] (f p)) :
 Puts pb a t b fr 155 #[prV pb a t.length cap b fr.length capb,.int .i64 (p:Int),.string mark] (perF t f p ++ [tkM mark]):=by
 intro W w hP hO hn
 have hkd:kindAt t p = t[p].kind:=by unfold kindAt;rw [List.getElem?_eq_getElem hp];rfl
 have HS0:=Hd (fun w1 h=>PrSt.start (cap:=cap) (capb:=capb) (w1:=w1) hP hO h)
 have HNd:=Hd (fun (w1:World) (h:SlS 6 ndCells pb w1 a t)=>nds_at h.sl hp)
 simp only [List.length_append,List.length_cons,List.length_nil] at hn
 by_cases h33:kindAt t p = 33
 ·rw [perF_no h33] at hn ⊢
  rw [hkd] at h33
  have t1:(t[p].kind != 33) = false:=by simpa using h33
  simp only [List.length_nil] at hn
  clear hP hO hA h33 hkd
  generalize t[p] = x at *
  go_enter Tryz.func155,Tryz.ntmps155
  go_upto_region 1 with fail
  generalize hg1:w.alloc _ = w1 at *
  have HS1:=Hd (HS0.out w1 rfl)
  clear hg1 HS0
  obtain ⟨z0,z1,z2⟩:=HS1.out.cells
  obtain ⟨bb,oo,ha,hbl,x0,_⟩:=HNd.out w1 HS1.out.ok.nds
  subst ha
  go_wp2_with (go_at_call 96;(refine (HS1.out.put1 mark (by omega)).mono ?_);rintro e w5 ⟨rfl,hs⟩;have HS4:=Hd hs;clear hs)
  go_end0
  simpa [word_M] using HS4.out.end_
 ·have HA:=Hd (hA h33)
  rw [perF_is h33] at hn ⊢
  rw [hkd] at h33
  have t1:(t[p].kind != 33) = true:=by simpa using h33
  clear hP hO hA h33 hkd
  generalize t[p] = x at *
  generalize f p = A at *
  go_enter Tryz.func155,Tryz.ntmps155
  go_upto_region 1 with fail
  generalize hg1:w.alloc _ = w1 at *
  have HS1:=Hd (HS0.out w1 rfl)
  clear hg1 HS0
  obtain ⟨z0,z1,z2⟩:=HS1.out.cells
  obtain ⟨bb,oo,ha,hbl,x0,_⟩:=HNd.out w1 HS1.out.ok.nds
  subst ha
  go_wp2_with (first
   | (go_at_call 96;(refine (HS3.out.put1 mark (by simp;omega)).mono ?_);rintro e w5 ⟨rfl,hs⟩;have HS4:=Hd hs;clear hs)
   | (go_at_call 98;(refine (HS1.out.call HA.out (by omega)).mono ?_);rintro e w4 ⟨rfl,hs⟩;have HS3:=Hd hs;clear hs;obtain ⟨z0,z1,z2⟩:=HS3.out.cells))
  go_end0
  simpa [word_M] using HS4.out.end_
set_option maxHeartbeats 4000000 in
theorem label_ok {pb:Nat} {a b la:Option Addr} {cap capb lc:Nat} {t:List Nd} {fr P:List Nat} {x:Nd} {f:Int → Nat → List Tok} {e:Nat → List Tok} (hk:x.kind = 28 ∨ x.kind = 29 ∨ x.kind = 30 ∨ x.kind = 31 ∨ x.kind = 32) (hPl:P.length ≤ 4096) (h28:x.kind = 28 → 1 < P.length) (h29:x.kind = 29 → 0 < P.length)
 (hX:∀ due i (hi:i < P.length),(x.kind = 28 ∧ i = 0) ∨ x.kind = 32 → Puts pb a t b fr 98 #[prV pb a t.length cap b fr.length capb,.int .i64 (P[i]:Int),.int .i64 due] (f due P[i]))
 (hS:∀ i (hi:i < P.length),(x.kind = 28 ∧ i = 1) ∨ x.kind = 29 → Puts pb a t b fr 119 #[prV pb a t.length cap b fr.length capb,.int .i64 (P[i]:Int)] (e P[i])) :
 PutsL pb a t b fr 157 #[prV pb a t.length cap b fr.length capb,ndV x,.slice la P.length lc] la P (stmtB t P f e x):=by
 intro W w hP hO hL hn
 have HX:=Hd hX
 have HSt:=Hd hS
 have HS0:=Hd (fun w1 h=>PrSt.start (cap:=cap) (capb:=capb) (w1:=w1) hP hO h)
 have HL:=Hd (fun w1 (hk:KeepP pb w w1)=>hL.kept hP.rowOk hk)
 clear hP hO hX hS hL
 obtain ⟨k,n,p,i,s,y⟩:=x
 unfold ndV
 simp only at hk h28 h29
 go_enter Tryz.func157,Tryz.ntmps157
 go_upto_region 1 with fail
 generalize hg1:w.alloc _ = w1 at *
 have HS1:=Hd (HS0.out w1 rfl)
 clear HS0
 generalize hg2:w1.alloc _ = w2 at *
 obtain ⟨hx2,hb2⟩:=alloc_at hg2
 have hsz2:w1.heap.size = w.heap.size + 1:=by rw [← hg1];simp
 have HS2:=Hd (HS1.out.below hb2)
 have HK2:=Hd HS2.out.keep
 rw [hsz2] at hx2
 have HL2:=Hd (fun w' (hk:KeepP pb w2 w')=>HL.out w' (HK2.out.trans hk))
 have HR2:=Hd HS2.out.rebase
 obtain ⟨⟨n0,_⟩,_⟩:=six_block hx2
 clear hg1 hg2 hx2 hb2 HL hsz2
 obtain ⟨z0,z1,z2⟩:=HR2.out.cells
 rcases hk with rfl | rfl | rfl | rfl | rfl
 ·-- 28
  have hl1:1 < P.length:=h28 rfl
  have hl0:0 < P.length:=by omega
  have hB:stmtB t P f e ⟨28,n,p,i,s,y⟩ = tkK ⟨#[99,97,115,101]⟩ :: (atF P (f 3) 0 ++ tkM ⟨#[58]⟩ :: atF P e 1):=rfl
  rw [atF_is hl0,atF_is hl1] at hB
  have HA:=Hd (HX.out 3 0 hl0 (.inl ⟨rfl,rfl⟩))
  have HE:=Hd (HSt.out 1 hl1 (.inl ⟨rfl,rfl⟩))
  rw [hB] at hn
  simp only [List.length_cons,List.length_append] at hn
  generalize f 3 P[0] = A at *
  generalize e P[1] = B at *
  have hn5:(1:Int) < (P.length:Int):=by omega
  go_upto_region 4 with (go_at_call 96;(refine (HR2.out.put1 ⟨#[99,97,115,101]⟩ (by first | omega | (simp;omega))).mono ?_);rintro e w3 ⟨rfl,hs⟩;have HD:=Hd hs;clear hs)
  obtain ⟨z0,z1,z2⟩:=HD.out.cells
  obtain ⟨b5,o5,ha,c0⟩:=nats_atP (HL2.out w3 HD.out.keep).sl hl0
  subst ha
  rw [Nat.add_zero] at c0
  go_still_tail 4,(by kernel_rfl)
  change wpList _ _ _ _ _ w3.drew
  have HF:=Hd (HD.out.below ((Below.refl _ w3).drew))
  clear c0
  go_upto_region 5 with (go_at_call 98;(refine (HF.out.call HA.out (by first | omega | (simp;omega))).mono ?_);rintro e w4 ⟨rfl,hs⟩;have HG:=Hd hs;clear hs)
  obtain ⟨z0,z1,z2⟩:=HG.out.cells
  go_upto_region 6 with (go_at_call 96;(refine (HG.out.put1 ⟨#[58]⟩ (by first | omega | (simp;omega))).mono ?_);rintro e w5 ⟨rfl,hs⟩;have HH:=Hd hs;clear hs)
  obtain ⟨z0,z1,z2⟩:=HH.out.cells
  obtain ⟨b6,o6,ha,c1⟩:=nats_atP (HL2.out w5 HH.out.keep).sl hl1
  simp only [Option.some.injEq,Addr.mk.injEq] at ha
  obtain ⟨rfl,rfl,_⟩:=ha
  go_still_tail 4,(by kernel_rfl)
  change wpList _ _ _ _ _ w5.drew
  have HJ:=Hd (HH.out.below ((Below.refl _ w5).drew))
  go_wp2_with (go_at_call 119;(refine (HJ.out.call HE.out (by first | omega | (simp;omega))).mono ?_);rintro e w6 ⟨rfl,hs⟩;have HQ:=Hd hs;clear hs)
  go_end0
  rw [hB]
  simpa [word_M,word_N,word_K] using HQ.out.end_from HK2.out
 ·-- 29
  have hl0:0 < P.length:=h29 rfl
  have hB:stmtB t P f e ⟨29,n,p,i,s,y⟩ = tkK ⟨#[100,101,102,97,117,108,116]⟩ :: tkM ⟨#[58]⟩ :: atF P e 0:=rfl
  rw [atF_is hl0] at hB
  have HE:=Hd (HSt.out 0 hl0 (.inr rfl))
  rw [hB] at hn
  simp only [List.length_cons] at hn
  generalize e P[0] = B at *
  go_upto_region 9 with (go_at_call 96;(refine (HR2.out.put2 ⟨#[100,101,102,97,117,108,116]⟩ ⟨#[58]⟩ (by first | omega | (simp;omega))).mono ?_);rintro e w3 ⟨rfl,hs⟩;have HD:=Hd hs;clear hs)
  obtain ⟨z0,z1,z2⟩:=HD.out.cells
  obtain ⟨b5,o5,ha,c0⟩:=nats_atP (HL2.out w3 HD.out.keep).sl hl0
  subst ha
  rw [Nat.add_zero] at c0
  go_still_tail 4,(by kernel_rfl)
  change wpList _ _ _ _ _ w3.drew
  have HF:=Hd (HD.out.below ((Below.refl _ w3).drew))
  go_wp2_with (go_at_call 119;(refine (HF.out.call HE.out (by first | omega | (simp;omega))).mono ?_);rintro e w6 ⟨rfl,hs⟩;have HQ:=Hd hs;clear hs)
  go_end0
  rw [hB]
  simpa [word_M,word_N,word_K] using HQ.out.end_from HK2.out
 ·-- 30
  have hB:stmtB t P f e ⟨30,n,p,i,s,y⟩ = [tkK ⟨#[98,114,101,97,107]⟩,tkM ⟨#[59]⟩]:=rfl
  rw [hB] at hn
  simp only [List.length_cons,List.length_nil] at hn
  go_wp2_with (go_at_call 96;(refine (HR2.out.put2 ⟨#[98,114,101,97,107]⟩ ⟨#[59]⟩ (by first | omega | (simp;omega))).mono ?_);rintro e w3 ⟨rfl,hs⟩;have HQ:=Hd hs;clear hs)
  go_end0
  rw [hB]
  simpa [word_M,word_N,word_K] using HQ.out.end_from HK2.out
 ·-- 31
  have hB:stmtB t P f e ⟨31,n,p,i,s,y⟩ = [tkK ⟨#[99,111,110,116,105,110,117,101]⟩,tkM ⟨#[59]⟩]:=rfl
  rw [hB] at hn
  simp only [List.length_cons,List.length_nil] at hn
  go_wp2_with (go_at_call 96;(refine (HR2.out.put2 ⟨#[99,111,110,116,105,110,117,101]⟩ ⟨#[59]⟩ (by first | omega | (simp;omega))).mono ?_);rintro e w3 ⟨rfl,hs⟩;have HQ:=Hd hs;clear hs)
  go_end0
  rw [hB]
  simpa [word_M,word_N,word_K] using HQ.out.end_from HK2.out
 ·-- 32
  have hB:stmtB t P f e ⟨32,n,p,i,s,y⟩ = tkK ⟨#[114,101,116,117,114,110]⟩ :: (atF P (f 1) 0 ++ [tkM ⟨#[59]⟩]):=rfl
  by_cases hl0:0 < P.length
  ·have t1:decide ((0:Int) < (P.length:Int)) = true:=decide_eq_true (by omega)
   rw [atF_is hl0] at hB
   have HA:=Hd (HX.out 1 0 hl0 (.inr rfl))
   rw [hB] at hn
   simp only [List.length_cons,List.length_append,List.length_nil] at hn
   generalize f 1 P[0] = A at *
   go_upto_region 17 with (go_at_call 96;(refine (HR2.out.put1 ⟨#[114,101,116,117,114,110]⟩ (by first | omega | (simp;omega))).mono ?_);rintro e w3 ⟨rfl,hs⟩;have HD:=Hd hs;clear hs)
   obtain ⟨z0,z1,z2⟩:=HD.out.cells
   obtain ⟨b5,o5,ha,c0⟩:=nats_atP (HL2.out w3 HD.out.keep).sl hl0
   subst ha
   rw [Nat.add_zero] at c0
   go_still_tail 4,(by kernel_rfl)
   change wpList _ _ _ _ _ w3.drew
   have HF:=Hd (HD.out.below ((Below.refl _ w3).drew))
   clear c0
   go_upto_region 18 with (go_at_call 98;(refine (HF.out.call HA.out (by first | omega | (simp;omega))).mono ?_);rintro e w4 ⟨rfl,hs⟩;have HG:=Hd hs;clear hs)
   obtain ⟨z0,z1,z2⟩:=HG.out.cells
   go_wp2_with (go_at_call 96;(refine (HG.out.put1 ⟨#[59]⟩ (by first | omega | (simp;omega))).mono ?_);rintro e w5 ⟨rfl,hs⟩;have HQ:=Hd hs;clear hs)
   go_end0
   rw [hB]
   simpa [word_M,word_N,word_K] using HQ.out.end_from HK2.out
  ·have t1:decide ((0:Int) < (P.length:Int)) = false:=decide_eq_false (by omega)
   have hat:atF P (f 1) 0 = []:=by unfold atF;rw [List.getElem?_eq_none (by omega)]
   rw [hat] at hB
   rw [hB] at hn
   simp only [List.length_cons,List.length_append,List.length_nil] at hn
   go_upto_region 18 with (go_at_call 96;(refine (HR2.out.put1 ⟨#[114,101,116,117,114,110]⟩ (by first | omega | (simp;omega))).mono ?_);rintro e w3 ⟨rfl,hs⟩;have HD:=Hd hs;clear hs)
   obtain ⟨z0,z1,z2⟩:=HD.out.cells
   go_wp2_with (go_at_call 96;(refine (HD.out.put1 ⟨#[59]⟩ (by first | omega | (simp;omega))).mono ?_);rintro e w5 ⟨rfl,hs⟩;have HQ:=Hd hs;clear hs)
   go_end0
   rw [hB]
   simpa [word_M,word_N,word_K] using HQ.out.end_from HK2.out
end Go.Proofs.YtkokdafkjjcgoaaGreatDoor
namespace Go.Proofs.YtkokdafkjjcgoaaGreatDoor
theorem askF_is {l:List Nat} {f:Nat → List Tok} {word:ByteArray} {i:Nat} (h:i < l.length):askF l f word i = tkK word :: tkM ⟨#[40]⟩ :: (f l[i] ++ [tkM ⟨#[41]⟩]):=by unfold askF;rw [atF_is h]
theorem blk_next (l:List Nat) (f:Nat → List Tok) (n:Nat):(List.range (n + 1)).flatMap (atF l f) = (List.range n).flatMap (atF l f) ++ atF l f n:=by rw [List.range_succ,List.flatMap_append];simp
theorem blk_le (l:List Nat) (f:Nat → List Tok) (i:Nat):∀ n,i ≤ n → ((List.range i).flatMap (atF l f)).length ≤ ((List.range n).flatMap (atF l f)).length
 | 0,h=>by obtain rfl:i = 0:=by omega
           exact Nat.le_refl _
 | n + 1,h=>by
   rcases Nat.lt_or_ge n i with h1 | h1
   ·obtain rfl:i = n + 1:=by omega
    exact Nat.le_refl _
   ·rw [blk_next,List.length_append]
    have:=blk_le l f i n h1
    omega
end Go.Proofs.YtkokdafkjjcgoaaGreatDoor
