/- Small lemmas that all walks share; nothing of the program. -/
import Derived.WalkKit
import Derived.WalkLawsBesides
import Derived.WalkSpells
import Derived.Lib.Hide
import Derived.Lib.AppendStr
import Derived.Lib.UnsafeStr
import Derived.Lib.BufferRead
import Derived.ChangeSame
import Derived.Lib.ItoaNum
import Derived.Lib.SlicesS
import Derived.Lib.IndexLaws
import Derived.Lib.IndexMore
import Derived.Test.YtbbaooeioogijaaGreatDoorChecked
import Derived.Test.YtbbaooeioogijaaGreatDoorShelf
import Derived.Deep.QuietTactic
import Derived.BigQuiet
import Derived.Lib.Bytes2
import Derived.Deep.RegionWith
import Derived.Lib.ConvBytes
import Derived.Deep.DeepCutAuto
import Derived.Deep.LoopGhost
namespace Go.Proofs.YtbbaooeioogijaaGreatDoor
open Go.RowKit Go.WideShapes Go.ChangeShapes
theorem zv0 (n:Nat):n≤n:=Nat.le_refl n
theorem zv1.{u} {α:Type u} {l:List α} {i:Nat} (h:i<l.length):l[i]?=some l[i]:=List.getElem?_eq_getElem h
theorem zv2.{u} {α:Type u} {l:List α} {i:Nat} {a:α}:l.getD i a=l[i]?.getD a:=List.getD_eq_getElem?_getD
theorem zv3 (B:Nat) (w:World):Below B w w:=Below.refl B w
theorem zv4.{u} {α:Type u} {a b:α} (h:some a=some b):a=b:=Option.some.inj h
theorem zv5 {a b c:Nat} (h:a<b) (g:b≤c):a<c:=Nat.lt_of_lt_of_le h g
theorem zv6 {a b c:Nat} (h:a≤b) (g:b≤c):a≤c:=Nat.le_trans h g
theorem zv7 {a b:Nat} (h:a<b):a≤b:=Nat.le_of_lt h
theorem zv8 (w:World) (o:Obj):(w.alloc o).heap[w.heap.size]?=some o:=heap_alloc_new w o
theorem zv9 (m n:Nat):((m+n:Nat):Int)=(m:Int)+(n:Int):=Int.natCast_add m n
theorem zwa.{u} {α:Type u} [BEq α] [LawfulBEq α] {a b:α}:(a==b)=false↔a≠b:=beq_eq_false_iff_ne
theorem zwb.{u} {α:Type u} {l:List α} {n:Nat} (h:n<l.length):l[n]∈l:=List.getElem_mem h
theorem zwc.{u} {α:Type u} {l:List α} (h:l≠[]):0<l.length:=List.length_pos_iff.2 h
theorem Hd {p : Prop}(h : p) : Go.RowKit.Hid p := h
theorem Ht {w w1 w2 : World}(h : Go.RowKit.Hid (Below w.heap.size w w1))(g : Below w1.heap.size w1 w2) : Go.RowKit.Hid (Below w.heap.size w w2) := h.out.trans (g.mono h.out.size)
theorem zjM (s:ByteArray)(k:Nat)(h:k<s.size):s.data.toList.take (k+1)=s.data.toList.take k++[s[k]]:=by
 rw[List.take_succ_eq_append_getElem (by simpa using h)];rfl
theorem zjo (w:World)(v:Value)(T:TypeId):∀j u,[v][j]?=some u→(w.alloc (.cells #[v] T)).cell? ((⟨w.heap.size,0,none⟩:Addr).add j)=some u
 | 0,u,h=>by simp at h;subst h;simp[Addr.add]
 | _+1,_,h=>by simp at h
theorem zaa {w:World}{b:Nat}{o:Obj}(h:w.heap[b]?=some o):b<w.heap.size:=by
 rcases Nat.lt_or_ge b w.heap.size with h'|h'
 ·exact h'
 ·simp[Array.getElem?_eq_none h']at h
theorem zjt (b j:Nat):((⟨b,0,none⟩:Addr).add j)=⟨b,j,none⟩:=by unfold Addr.add;split<;>simp_all
theorem zug (w:World)(T:TypeId)(l:List Value):(w.alloc (.cells l.toArray T)).ownsRow w.heap.size T 1 (.slice (some ⟨w.heap.size,0,none⟩) l.length l.length) l.length l∨maxLen<l.length:=by
 rcases Nat.lt_or_ge maxLen l.length with h|h
 ·exact Or.inr h
 ·exact Or.inl ⟨by simp,.inr ⟨w.heap.size,l.length,l.toArray,rfl,zv0 _,zv8 w _,zv0 _,h,by simp,by simp⟩⟩
theorem _root_.Go.World.ownsRow.belowed {W W':World}{B n:Nat}{T:TypeId}{sz:Nat}{v:Value}{xs:List Value}(h:W.ownsRow B T sz v n xs)(hb:Below W.heap.size W W'):W'.ownsRow B T sz v n xs:=
 h.kept (row:=none) ⟨hb.os,hb.tape,hb.output,hb.size,fun k hk _=>hb.block k hk⟩ (by cases v.ownBlock<;>simp)
theorem zst (w:World)(T:TypeId)(v:Value):(w.alloc (.cells #[v] T)).ownsRow w.heap.size T 1 (.slice (some ⟨w.heap.size,0,none⟩) 1 1) 1 [v]:=
 (zug w T [v]).resolve_right (by simp[maxLen])
theorem _root_.Go.Below.drewN' (w:World)(n:Nat):Below w.heap.size w (w.drewN n):=⟨rfl,rfl,rfl,zv0 _,fun _ _=>rfl⟩
theorem zeT {α:Type}(l:List α)(d:α){j:Nat}(h:j<l.length):l.getD j d=l[j]:=by simp[List.getD,h]
theorem zaf {B:Nat}{w w':World}(h:Below B w w')(n:Nat):Below B w (w'.drewN n):=⟨h.os,h.tape,h.output,h.size,h.block⟩
theorem box0 {w w1:World}{o:Obj}(h:w.alloc o=w1):w1.heap[w.heap.size]?=some o∧Below w.heap.size w w1:=by
 subst h;exact⟨zv8 _ _,(zv3 _ _).alloc (zv0 _) _⟩
theorem box2 {w w1:World}{o p:Obj}(h:(w.alloc o).alloc p=w1):Below w.heap.size w w1∧w1.heap[w.heap.size]?=some o∧w1.heap[w.heap.size+1]?=some p:=by
 subst h;have h0:=(zv3 w.heap.size w).alloc (zv0 _) o;have h1:=zv8 w o;have h2:=zv8 (w.alloc o) p;have h3:=(zv3 (w.alloc o).heap.size (w.alloc o)).alloc (zv0 _) p;rw[World.size_alloc]at h2;exact⟨h0.alloc h0.size p,(h3.block _ (by simp)).trans h1,h2⟩
end Go.Proofs.YtbbaooeioogijaaGreatDoor
namespace Go.Proofs.YtbbaooeioogijaaGreatDoor
open Go.RowKit
set_option maxRecDepth 100000
def letB (c:UInt8):Bool:=decide (97≤c.toNat∧c.toNat≤122∨65≤c.toNat∧c.toNat≤90∨c.toNat=95)
def digB (c:UInt8):Bool:=decide (48≤c.toNat∧c.toNat≤57)
def zdK (c:UInt8):Bool:=letB c || digB c
def wlen:List UInt8→Nat
 | []=>0
 | c :: l=>if zdK c=true then wlen l+1 else 0
theorem zla (l:List UInt8):wlen l≤l.length:=by
 induction l with
 | nil=>simp[wlen]
 | cons c l ih=>simp only[wlen];split<;>simp<;>omega
theorem zk9 {l:List UInt8}:∀{k:Nat},k<wlen l→∃c,l[k]?=some c∧zdK c=true:=by
 induction l with
 | nil=>intro k h;simp[wlen]at h
 | cons c l ih=>
   intro k h
   by_cases hc:zdK c=true
   ·rw[wlen,if_pos hc]at h
    match k,h with
    | 0,_=>exact⟨c,by simp,hc⟩
    | k+1,h=>simpa using ih (k:=k) (by omega)
   ·rw[wlen,if_neg hc]at h;omega
theorem zo6 {l:List UInt8}(h:wlen l<l.length):∃c,l[wlen l]?=some c∧zdK c=false:=by
 induction l with
 | nil=>simp at h
 | cons c l ih=>
   by_cases hc:zdK c=true
   ·rw[wlen,if_pos hc]at h ⊢
    simpa using ih (by simp at h;omega)
   ·rw[wlen,if_neg hc]
    exact⟨c,by simp,by simpa using hc⟩
def keyT:List ByteArray:=[⟨#[118,111,105,100]⟩,⟨#[99,104,97,114]⟩,⟨#[115,104,111,114,116]⟩,⟨#[105,110,116]⟩,⟨#[117,110,115,105,103,110,101,100]⟩,⟨#[115,116,114,117,99,116]⟩,⟨#[118,111,108,97,116,105,108,101]⟩,⟨#[105,102]⟩,⟨#[101,108,115,101]⟩,⟨#[119,104,105,108,101]⟩,⟨#[100,111]⟩,⟨#[102,111,114]⟩,⟨#[115,119,105,116,99,104]⟩,⟨#[99,97,115,101]⟩,⟨#[100,101,102,97,117,108,116]⟩,⟨#[98,114,101,97,107]⟩,⟨#[99,111,110,116,105,110,117,101]⟩,⟨#[114,101,116,117,114,110]⟩,⟨#[115,105,122,101,111,102]⟩,⟨#[106,109,112,95,98,117,102]⟩]
def ziq (s:ByteArray):Bool:=Lib.containsS keyT s
def isNameB (s:ByteArray):Bool:=decide (0<s.size) && (decide (s.size≤31) && ((s.data.toList.head?.any letB) && (decide (wlen s.data.toList=s.size) && !ziq s)))
theorem zd3 (s:ByteArray)(h:0<s.size):s.data.toList.head?=some s[0]:=by
 rw[List.head?_eq_getElem?,zv1 (by simpa using h)];rfl
theorem zhq (s:ByteArray)(k:Nat)(_h:k≤s.size):(s.extract 0 k).data.toList=s.data.toList.take k:=by
 simp[ByteArray.data_extract]
theorem zl8 (s:ByteArray):s.extract 0 s.size=s:=by
 rw[ByteArray.ext_iff,ByteArray.data_extract];exact Array.extract_size
theorem zaT {a b:ByteArray}(h:a.data.toList=b.data.toList):a=b:=by
 obtain⟨⟨a⟩⟩:=a;obtain⟨⟨b⟩⟩:=b;simpa using h
structure Tok where
 kind:Int
 place:Int
 num:Int
 text:ByteArray
def Tok.cells (t:Tok):List Value:=[.int .i64 t.kind,.int .i64 t.place,.int .i64 t.num,.string t.text]
set_option maxHeartbeats 2000000
theorem zqo {c:UInt8}{b:Bool}(h:b=true↔(97≤c.toNat∧c.toNat≤122∨65≤c.toNat∧c.toNat≤90∨c.toNat=95)):Ending.returned (.bool b)=.returned (.bool (letB c)):=by
 have:b=letB c:=by rw[Bool.eq_iff_iff,h,letB,decide_eq_true_iff]
 rw[this]
theorem zuL {c:UInt8}{b:Bool}(h:b=true↔(48≤c.toNat∧c.toNat≤57)):Ending.returned (.bool b)=.returned (.bool (digB c)):=by
 have:b=digB c:=by rw[Bool.eq_iff_iff,h,digB,decide_eq_true_iff]
 rw[this]
theorem zlX (c:UInt8)(w:World) :
 Calls Tryz.prog 129 #[.int .u8 (c.toNat:Int)] w fun e w'=>e=.returned (.bool (digB c))∧w'=w:=by
 go_enter Tryz.func129,Tryz.ntmps129
 go_wp2
 all_goals go_ret
 all_goals exact⟨zuL (by simp;omega),rfl⟩
theorem zkr (c:UInt8)(w:World) :
 Calls Tryz.prog 108 #[.int .u8 (c.toNat:Int)] w fun e w'=>e=.returned (.bool (letB c))∧w'=w:=by
 go_enter Tryz.func108,Tryz.ntmps108
 go_wp2
 all_goals go_ret
 all_goals refine⟨zqo ?_,rfl⟩
 all_goals (simp;omega)
structure TextAt (w:World)(b:Nat)(cs:Array Value)(T:TypeId)(s:ByteArray)(k:Nat):Prop where
 blk:w.heap[b]?=some (.cells (cs.setIfInBounds 1 (.int .i64 (k:Int))) T (0,0))
 text:cs[0]?=some (.string s)
 two:1<cs.size
theorem TextAt.c0 {w b cs T s k}(h:TextAt w b cs T s k):w.cell? ⟨b,0,none⟩=some (.string s):=by
 simp[World.cell?,h.blk,h.text]
theorem TextAt.c1 {w b cs T s k}(h:TextAt w b cs T s k):w.cell? ⟨b,1,none⟩=some (.int .i64 (k:Int)):=by
 simp[World.cell?,h.blk,h.two]
theorem TextAt.f1 {w b cs T s k}(h:TextAt w b cs T s k)(j:Nat):w.frozen? ⟨b,j,none⟩=false:=by
 simp[World.frozen?,h.blk]
theorem TextAt.next {w b cs T s k}(h:TextAt w b cs T s k)(m:Nat):TextAt (w.setCell ⟨b,1,none⟩ (.int .i64 (m:Int))) b cs T s m:=by
 refine⟨?_,h.text,h.two⟩;simp[World.setCell,Array.getElem?_modify,h.blk,Array.setIfInBounds_setIfInBounds]
theorem TextAt.drew {w b cs T s k n}(h:TextAt w b cs T s k):TextAt (w.drewN n) b cs T s k:=⟨h.blk,h.text,h.two⟩
theorem TextAt.below {w w' b cs T s k}(h:TextAt w b cs T s k)(hb:Below w.heap.size w w'):TextAt w' b cs T s k:=
 ⟨by rw[hb.block b (zaa h.blk)];exact h.blk,h.text,h.two⟩
theorem zbr {w w':World}{b:Nat}(h:w.grownBy w' (some b))(a:Addr)(ha:a.block=b)(v:Value):w.grownBy (w'.setCell a v) (some b):=
 ⟨h.os,h.tape,h.output,by simpa[World.setCell] using h.size,fun k hk hne=>by
   rw[Below.heap_setCell _ _ _ _ (by rw[ha];intro e;exact hne (by rw[e])),h.block k hk hne]⟩
theorem zaK (w:World)(r:Option Nat):w.grownBy w r:=⟨rfl,rfl,rfl,zv0 _,fun _ _ _=>rfl⟩
theorem zay {w w':World}{r:Option Nat}(h:w.grownBy w' r)(n:Nat):w.grownBy (w'.drewN n) r:=⟨h.os,h.tape,h.output,h.size,h.block⟩
theorem zae {w w' w'':World}{r:Option Nat}(h:w.grownBy w' r)(h':w'.grownBy w'' r):w.grownBy w'' r:=
 ⟨h'.os.trans h.os,h'.tape.trans h.tape,h'.output.trans h.output,zv6 h.size h'.size,fun k hk hne=>(h'.block k (zv5 hk h.size) hne).trans (h.block k hk hne)⟩
theorem zcH {w w' w'':World}{r:Option Nat}(h:w.grownBy w' r)(h':Below w'.heap.size w' w''):w.grownBy w'' r:=
 zae h ⟨h'.os,h'.tape,h'.output,h'.size,fun k hk _=>h'.block k hk⟩
theorem zcM {B:Nat}{w w':World}{b:Nat}(h:w.grownBy w' (some b))(hb:B≤b)(hB:B≤w.heap.size):Below B w w':=
 ⟨h.os,h.tape,h.output,h.size,fun k hk=>h.block k (zv5 hk hB) (by simp;omega)⟩
theorem zur (b k:Nat)(cs:Array Value)(T:TypeId)(s:ByteArray)(w:World)(h:TextAt w b cs T s k) :
 Calls Tryz.prog 128 #[.pointer (some ⟨b,0,none⟩)] w fun e w'=>e=.returned (.bool (decide ((k:Int)<s.size)))∧∃n,w'=w.drewN n:=by
 have c0:=h.c0;have c1:=h.c1;clear h
 go_enter Tryz.func128,Tryz.ntmps128
 go_wp2
 go_quiet (fail)
 go_wp2
 go_ret;exact⟨by simp,_,rfl⟩
theorem zi0 (r:Bool)(b k:Nat)(cs:Array Value)(T:TypeId)(s:ByteArray)(w:World)(h:TextAt w b cs T s k)(hr:decide (k<s.size)=r) :
 Calls Tryz.prog 128 #[.pointer (some ⟨b,0,none⟩)] w fun e w'=>e=.returned (.bool r)∧∃n,w'=w.drewN n:=
 (zur b k cs T s w h).mono fun _ _ ⟨he,hw⟩=>⟨by rw[he,← hr];simp,hw⟩
theorem zcc (r:Bool)(c:UInt8)(w:World)(h:letB c=r):Calls Tryz.prog 108 #[.int .u8 (c.toNat:Int)] w fun e w'=>e=.returned (.bool r)∧w'=w:=by
 subst h;exact zkr c w
theorem zha (r:Bool)(c:UInt8)(w:World)(h:digB c=r):Calls Tryz.prog 129 #[.int .u8 (c.toNat:Int)] w fun e w'=>e=.returned (.bool r)∧w'=w:=by
 subst h;exact zlX c w
theorem zo3 {s:ByteArray}{a j:Nat}(h1:a≤j)(h2:j<a+wlen (s.data.toList.drop a)):∃h:j<s.size,zdK s[j]=true:=by
 obtain⟨c,hc,hw⟩:=zk9 (l:=s.data.toList.drop a) (k:=j-a) (by omega);rw[List.getElem?_drop,show a+(j-a)=j by omega]at hc;obtain⟨h3,h4⟩:=List.getElem?_eq_some_iff.1 hc;have h5:j<s.size:=by simpa using h3
 refine⟨h5,?_⟩;rw[← h4]at hw;exact hw
theorem zrE {s:ByteArray}{a:Nat}(ha:a≤s.size):a+wlen (s.data.toList.drop a)≤s.size∧∀h:a+wlen (s.data.toList.drop a)<s.size,zdK s[a+wlen (s.data.toList.drop a)]=false:=by
 have hl:(s.data.toList.drop a).length=s.size-a:=by simp
 have hle:=zla (s.data.toList.drop a);refine⟨by omega,fun h=>?_⟩;obtain⟨c,hc,hw⟩:=zo6 (l:=s.data.toList.drop a) (by omega);rw[List.getElem?_drop]at hc;obtain⟨h3,h4⟩:=List.getElem?_eq_some_iff.1 hc;rw[← h4]at hw;exact hw
theorem ztX (b a:Nat)(cs:Array Value)(T:TypeId)(s:ByteArray)(w:World)(h:TextAt w b cs T s a)(ha:a≤s.size)(hs:s.size≤1048576) :
 Calls Tryz.prog 109 #[.pointer (some ⟨b,0,none⟩)] w fun e w'=>
  e=.returned (.string (s.extract a (a+wlen (s.data.toList.drop a))))∧TextAt w' b cs T s (a+wlen (s.data.toList.drop a))∧w.grownBy w' (some b):=by
 have c0:=h.c0;have c1:=h.c1;have H:=Hd h;have HE:=Hd (zrE ha);clear h;obtain⟨m,em⟩:∃m,m=a+wlen (s.data.toList.drop a):=⟨_,rfl⟩
 rw[← em];have EM:=Hd em;have ham:a≤m:=by omega
 have hms:m≤s.size:=by have:=HE.out.1;omega
 clear em
 go_enter Tryz.func109,Tryz.ntmps109
 go_wp2_with fail
 clear c0 c1
 go_loopw [33] (fun _ wr=>∃j:Nat,a≤j∧j≤m∧TextAt wr b cs T s j∧w.grownBy wr (some b)) (fun _ wr=>s.size-(intOf ((wr.cell? ⟨b,1,none⟩).getD undef)).toNat)
 case atStart=>exact⟨a,zv0 _,ham,H.out,zaK _ _⟩
 case round=>
  obtain⟨j,hj1,hj2,hT,hgr⟩:=hrel;have c0:=hT.c0;have c1:=hT.c1;have f1:=hT.f1 1;have HT:=Hd hT;have HG:=Hd hgr;have C1:=Hd c1;clear hT hgr
  by_cases hlt:j<m
  ·obtain⟨hjs,hw⟩:=zo3 (s:=s) hj1 (by have:=EM.out;omega)
   have hM:=Hd (show decide (j<s.size)=true by simpa using hjs);rcases hL:letB s[j] with _|_
   ·have hD:digB s[j]=true:=by simpa[zdK,hL] using hw
    have HL:=Hd hL;have HD:=Hd hD;clear hL hD hw
    go_wp2_with fail
    go_quiet ((first|(go_at_call 128;exact Calls.quiet_of (zi0 true _ _ _ _ _ _ HT.out.drew hM.out))|(go_at_call 108;exact Calls.quiet_of_same (zcc false _ _ HL.out))|(go_at_call 129;exact Calls.quiet_of_same (zha true _ _ HD.out))))
    go_wp2
    go_roundw
    case rel=>exact⟨j+1,by omega,by omega,HT.out.drew.next (j+1),zbr (zay HG.out _) _ rfl _⟩
    case measure=>
     have e1:=(HT.out.drew (n:=nq)).next (j+1) |>.c1;rw[show ((j+1:Nat):Int)=(j:Int)+1 from by omega]at e1;rw[C1.out,e1];simp[intOf];omega
   ·have HL:=Hd hL
    clear hL hw
    go_wp2_with fail
    go_quiet ((first|(go_at_call 128;exact Calls.quiet_of (zi0 true _ _ _ _ _ _ HT.out.drew hM.out))|(go_at_call 108;exact Calls.quiet_of_same (zcc true _ _ HL.out))))
    go_wp2
    go_roundw
    case rel=>exact⟨j+1,by omega,by omega,HT.out.drew.next (j+1),zbr (zay HG.out _) _ rfl _⟩
    case measure=>
     have e1:=(HT.out.drew (n:=nq)).next (j+1) |>.c1;rw[show ((j+1:Nat):Int)=(j:Int)+1 from by omega]at e1;rw[C1.out,e1];simp[intOf];omega
  ·obtain rfl:j=m:=by omega
   by_cases hjs:j<s.size
   ·have hw:=HE.out.2 (by have:=EM.out;omega)
    have hw':zdK s[j]=false:=by have e:=EM.out;subst e;exact hw
    have hM:=Hd (show decide (j<s.size)=true by simpa using hjs);have HL:=Hd (show letB s[j]=false by simp[zdK]at hw';exact hw'.1);have HD:=Hd (show digB s[j]=false by simp[zdK]at hw';exact hw'.2);clear hw hw'
    go_wp2_with fail
    go_quiet ((first|(go_at_call 128;exact Calls.quiet_of (zi0 true _ _ _ _ _ _ HT.out.drew hM.out))|(go_at_call 108;exact Calls.quiet_of_same (zcc false _ _ HL.out))|(go_at_call 129;exact Calls.quiet_of_same (zha false _ _ HD.out))))
    go_wp2
    go_quiet (fail)
    go_wp2
    go_ret;exact⟨rfl,HT.out.drew.drew,zay (zay HG.out _) _⟩
   ·have hM:=Hd (show decide (j<s.size)=false by simpa using hjs)
    go_wp2_with fail
    go_quiet ((go_at_call 128;exact Calls.quiet_of (zi0 false _ _ _ _ _ _ HT.out.drew hM.out)))
    go_wp2
    go_quiet (fail)
    go_wp2
    go_ret;exact⟨rfl,HT.out.drew.drew,zay (zay HG.out _) _⟩
set_option maxHeartbeats 1000000
def KeysAt (w:World):Prop:=∀j,j<keyT.length→w.cell? ⟨0,0+j,none⟩=some (.string (keyT.getD j ByteArray.empty))
theorem KeysAt.below {w w':World}(h:KeysAt w)(hb:Below w.heap.size w w'):KeysAt w':=fun j hj=>by
 have h1:=h j hj;rw[hb.cell (World.block_lt_of_cell? w _ h1)];exact h1
theorem KeysAt.drew {w:World}(h:KeysAt w):KeysAt w.drew:=h
theorem KeysAt.drewN {w:World}(h:KeysAt w)(n:Nat):KeysAt (w.drewN n):=h
theorem zg9 (s:ByteArray)(w:World)(hK:KeysAt w) :
 Calls Tryz.prog 110 #[.string s] w fun e w'=>e=.returned (.bool (ziq s))∧w'=w:=by
 have HK:=Hd hK;clear hK
 go_enter Tryz.func110,Tryz.ntmps110
 go_wp2_with (go_at_call 31;refine(Tryz.slices_Contains_string _ 0 keyT.length _ keyT s _ (zv0 _) (by decide) HK.out).mono ?_;rintro e w' ⟨rfl,rfl⟩)
 go_ret;exact⟨rfl,rfl⟩
theorem zks (s:ByteArray)(w:World)(hK:KeysAt w)(hs:s.size≤1048576) :
 Calls Tryz.prog 80 #[.string s] w fun e w'=>e=.returned (.bool (isNameB s))∧Below w.heap.size w w':=by
 have HK:=Hd hK;clear hK
 by_cases h0:0<s.size
 ·by_cases h31:s.size≤31
  ·have t1:s.toList.isEmpty=false:=by
    rw[Lib.toList_data,List.isEmpty_eq_false_iff];intro e;have:s.data.toList.length=0:=by rw[e];rfl
    rw[Array.length_toList]at this;exact absurd this (by show ¬s.size=0;omega)
   rcases hL:letB s[0] with _|_
   ·have hfin:=Hd (show isNameB s=false by simp[isNameB,zd3 s h0,hL])
    have HL:=Hd hL;clear hL
    go_enter Tryz.func80,Tryz.ntmps80
    go_wp2_with (go_at_call 108;refine(zcc false _ _ HL.out).mono ?_;rintro e w' ⟨rfl,rfl⟩)
    go_ret;exact⟨by rw[hfin.out];rfl,(zv3 _ _).alloc (zv0 _) _⟩
   ·have HL:=Hd hL
    clear hL;have hT:TextAt (w.alloc (.cells #[.string s,.int .i64 0] 172)) w.heap.size #[.string s,.int .i64 0] 172 s 0:=⟨zv8 w _,rfl,by simp⟩
    have HT:=Hd hT;clear hT
    go_enter Tryz.func80,Tryz.ntmps80
    go_wp2_with (go_at_call 108;refine(zcc true _ _ HL.out).mono ?_;rintro e w' ⟨rfl,rfl⟩)
    refine(ztX w.heap.size 0 _ 172 s _ HT.out (Nat.zero_le _) hs).mono ?_;rintro e w1 ⟨rfl,hT1,hg1⟩;clear hT1;have hb1:=zcM (B:=w.heap.size) hg1 (zv0 _) (by simp);have hbw:=((zv3 w.heap.size w).alloc (zv0 _) _).trans hb1;have HK1:=Hd (HK.out.below hbw);have HB:=Hd hbw;clear hg1 hb1 hbw
    by_cases hn:wlen s.data.toList=s.size
    ·have hx:s.extract 0 (0+wlen (s.data.toList.drop 0))=s:=by rw[List.drop_zero,Nat.zero_add,hn];exact zl8 s
     rw[hx];rcases hk:ziq s with _|_
     ·have hfin:=Hd (show isNameB s=true by simp[isNameB,zd3 s h0,HL.out,h0,h31,hn,hk])
      have HKy:=Hd hk;clear hk hx hn
      go_wp2_with (go_at_call 110;refine(zg9 s _ HK1.out).mono ?_;rintro e w' ⟨rfl,rfl⟩;rw[HKy.out])
      go_ret;exact⟨by rw[hfin.out];rfl,HB.out⟩
     ·have hfin:=Hd (show isNameB s=false by simp[isNameB,hk])
      have HKy:=Hd hk;clear hk hx hn
      go_wp2_with (go_at_call 110;refine(zg9 s _ HK1.out).mono ?_;rintro e w' ⟨rfl,rfl⟩;rw[HKy.out])
      go_ret;exact⟨by rw[hfin.out];rfl,HB.out⟩
    ·have hfin:=Hd (show isNameB s=false by simp[isNameB,hn])
     have hne:((s.extract 0 (0+wlen (s.data.toList.drop 0))).toList == s.toList)=false:=by
      rw[zwa];intro e;rw[Lib.toList_data,Lib.toList_data]at e;have:=congrArg List.length e;have hle:=zla s.data.toList;have hl:s.data.toList.length=s.size:=by rw[Array.length_toList];rfl
      rw[zhq s _ (by simpa using hle),List.length_take]at this;simp at this;omega
     obtain⟨z,ez⟩:∃z,z=s.extract 0 (0+wlen (s.data.toList.drop 0)):=⟨_,rfl⟩
     rw[← ez]at hne ⊢;clear ez hn
     go_wp2
     go_ret;exact⟨by rw[hfin.out];rfl,HB.out⟩
  ·have hfin:=Hd (show isNameB s=false by simp[isNameB,h31])
   have t1:decide ((s.size:Int)≤31)=false:=by simp;omega
   go_enter Tryz.func80,Tryz.ntmps80
   go_wp2_with fail
   all_goals go_ret
   all_goals exact⟨by rw[hfin.out];rfl,(zv3 _ _).alloc (zv0 _) _⟩
 ·have hfin:=Hd (show isNameB s=false by simp[isNameB,h0])
  have t1:s.toList.isEmpty=true:=by
   rw[Lib.toList_data,List.isEmpty_iff];apply List.eq_nil_of_length_eq_zero;rw[Array.length_toList];show s.size=0;omega
  go_enter Tryz.func80,Tryz.ntmps80
  go_wp2_with fail
  all_goals go_ret
  all_goals exact⟨by rw[hfin.out];rfl,(zv3 _ _).alloc (zv0 _) _⟩
def sfx (s:ByteArray)(k:Nat):List UInt8:=s.data.toList.drop k
theorem zaJ (s:ByteArray)(k:Nat):(sfx s k).length=s.size-k:=by simp[sfx]
theorem ziT (s:ByteArray)(k m:Nat):(sfx s k).drop m=sfx s (k+m):=by simp[sfx]
theorem zaG (s:ByteArray)(k:Nat)(h:k<s.size):sfx s k=s[k] :: sfx s (k+1):=by
 rw[sfx,sfx,List.drop_eq_getElem_cons (by simpa using h)];rfl
theorem zeI (s:ByteArray)(k:Nat)(h:s.size≤k):sfx s k=[]:=by rw[sfx,List.drop_eq_nil_iff];simpa using h
theorem zcB (s:ByteArray)(k:Nat):(s.extract k s.size).data.toList=sfx s k:=by
 rw[ByteArray.data_extract,Array.toList_extract,List.extract_eq_take_drop,sfx,List.take_of_length_le];simp
theorem za8 (s:ByteArray)(a n:Nat):(s.extract a (a+n)).data.toList=(sfx s a).take n:=by
 rw[ByteArray.data_extract,Array.toList_extract,List.extract_eq_take_drop,sfx,Nat.add_sub_cancel_left]
theorem zqx {o:Int}(h:-1≤o):o=-1∨∃n:Nat,o=n:=by
 by_cases h0:o<0
 ·left;omega
 ·right;exact⟨o.toNat,by omega⟩
theorem zge:∀{l:List UInt8} {c:UInt8} {n:Nat},l[n]?=some c→(∀k,k<n→l[k]?≠some c)→Lib.indexByte l c=n
 | [],_,_,h,_=>by simp at h
 | x :: l,c,0,h,_=>by
   simp at h;simp[Lib.indexByte,h]
 | x :: l,c,n+1,h,hn=>by
   have h0:=hn 0 (by omega);simp at h0 h;have ih:=zge (l:=l) (c:=c) (n:=n) h (fun k hk=>by have:=hn (k+1) (by omega);simpa using this);unfold Lib.indexByte;rw[ih];have e1:((n:Int) == -1)=false:=by rw[zwa];omega
   simp[h0,e1]
theorem zgd {l:List UInt8}{c:UInt8}(h:∀k:Nat,l[k]?≠some c):Lib.indexByte l c=-1:=by
 rcases zqx (Lib.indexByte_ge l c) with e|⟨n,e⟩
 ·exact e
 ·exact absurd (Lib.indexByte_some e).1 (h n)
def isStr (t:Tok):Bool:=decide (t.kind=4)
def joins (M:List UInt8)(out:List Tok):Bool:=M.head?.any (fun c=>decide (c.toNat=34)) && out.getLast?.any isStr
def MaxLenAt (w:World):Prop:=∃m:Int,w.cell? ⟨1,0,none⟩=some (.int .i64 m)
theorem MaxLenAt.below {w w':World}(h:MaxLenAt w)(hb:Below w.heap.size w w'):MaxLenAt w':=by
 obtain⟨m,hm⟩:=h;exact⟨m,by rw[hb.cell (World.block_lt_of_cell? w _ hm)];exact hm⟩
theorem MaxLenAt.drewN {w:World}(h:MaxLenAt w)(n:Nat):MaxLenAt (w.drewN n):=h
theorem MaxLenAt.drew {w:World}(h:MaxLenAt w):MaxLenAt w.drew:=h
theorem MaxLenAt.grown {w w':World}{b:Nat}(h:MaxLenAt w)(hg:w.grownBy w' (some b))(hb:1<b):MaxLenAt w':=by
 obtain⟨m,hm⟩:=h;refine⟨m,?_⟩;have hlt:=World.block_lt_of_cell? w _ hm;unfold World.cell? at hm ⊢;rw[hg.block _ hlt (by simp;omega)];exact hm
end Go.Proofs.YtbbaooeioogijaaGreatDoor
namespace Go.Proofs.YtbbaooeioogijaaGreatDoor
inductive Ty where
 | base (c:UInt8)
 | ptr (t:Ty)
 | arr (n:Nat) (t:Ty)
 | str (s:List UInt8)
 | fn (ps:List Ty) (r:Ty)
def valT (l:List UInt8):Nat:=l.foldl (fun n c=>10*n+(c.toNat-48)) 0
def numT (l:List UInt8):Option Nat:=
 if l=[]∨15<l.length∨(1<l.length∧l.head?=some 48) then none
 else if l.all digB=true∧valT l≤1099511627776 then some (valT l) else none
def zbT (c:UInt8):List UInt8→Option (List UInt8 × List UInt8)
 | []=>none
 | x :: l=>if x=c then some ([],l) else (zbT c l).map fun q=>(x :: q.1,q.2)
def zbz (c:UInt8):Bool:=[118,99,115,105,117,106].contains c
def zfF (l:List UInt8):Bool:=isNameB ⟨l.toArray⟩
def behind (c:UInt8):List UInt8→Option (List UInt8)
 | []=>none
 | x :: l=>if x=c then some l else none
theorem zhz {c:UInt8}{l r:List UInt8}(h:behind c l=some r):l=c :: r:=by
 match l,h with
 | [],h=>cases h
 | x :: l,h=>
   rw[behind]at h
   split at h
   ·rename_i e;rw[e,zv4 h]
   ·cases h
mutual
def tyF:Nat→List UInt8→Option (Ty × List UInt8)
 | 0,_=>none
 | _+1,[]=>none
 | k+1,c :: l=>
   if zbz c=true then some (.base c,l)
   else if c=112 then (tyF k l).map fun q=>(.ptr q.1,q.2)
   else if c=97 then
    (zbT 58 l).bind fun q=>(numT q.1).bind fun n=>(tyF k q.2).map fun x=>(.arr n x.1,x.2)
   else if c=83 then (zbT 59 l).bind fun q=>if zfF q.1=true then some (.str q.1,q.2) else none
   else if c=102 then (behind 40 l).bind fun r=>(zc5 k r).bind fun q=>(tyF k q.2).map fun x=>(.fn q.1 x.1,x.2)
   else none
def zc5:Nat→List UInt8→Option (List Ty × List UInt8)
 | 0,_=>none
 | _+1,[]=>none
 | k+1,c :: r=>if c=41 then some ([],r) else zbJ k (c :: r)
def zbJ:Nat→List UInt8→Option (List Ty × List UInt8)
 | 0,_=>none
 | k+1,l=>
   (tyF k l).bind fun q=>match q.2 with
   | 41 :: r=>some ([q.1],r)
   | 44 :: r=>(zbJ k r).map fun x=>(q.1 :: x.1,x.2)
   | _=>none
end
mutual
def code:Ty→List UInt8
 | .base c=>[c]
 | .ptr t=>112 :: code t
 | .arr n t=>97 :: (Lib.decDigits n++58 :: code t)
 | .str s=>83 :: (s++[59])
 | .fn ps r=>102 :: 40 :: (zbw ps++41 :: code r)
def zbw:List Ty→List UInt8
 | []=>[]
 | t :: l=>code t++zcL l
def zcL:List Ty→List UInt8
 | []=>[]
 | t :: l=>44 :: (code t++zcL l)
end
mutual
def zaD:Ty→Prop
 | .base c=>zbz c=true
 | .ptr t=>zaD t
 | .arr n t=>n≤1099511627776∧zaD t
 | .str s=>zfF s=true
 | .fn ps r=>zez ps∧zaD r
def zez:List Ty→Prop
 | []=>True
 | t :: l=>zaD t∧zez l
end
mutual
def zaS:Ty→Nat
 | .base _=>1
 | .ptr t=>zaS t+1
 | .arr _ t=>zaS t+1
 | .str _=>1
 | .fn ps r=>max (zbS ps) (zaS r)+1
def zbS:List Ty→Nat
 | []=>0
 | t :: l=>max (zaS t) (zbS l)
end
theorem zbj {c:UInt8}:∀{l w r:List UInt8},zbT c l=some (w,r)→l=w++c :: r∧c ∉ w
 | [],w,r,h=>by cases h
 | x :: l,w,r,h=>by
   rw[zbT]at h
   split at h
   ·rename_i e
    simp only[Option.some.injEq,Prod.mk.injEq]at h;obtain⟨rfl,rfl⟩:=h;subst e;simp
   ·rename_i e
    rw[Option.map_eq_some_iff]at h;obtain⟨⟨w',r'⟩,h1,h2⟩:=h;simp only[Prod.mk.injEq]at h2;obtain⟨rfl,rfl⟩:=h2;obtain⟨rfl,h3⟩:=zbj h1;exact⟨rfl,by simp[h3];exact fun e'=>e e'.symm⟩
theorem zeq {c:UInt8}:∀{w r:List UInt8},c ∉ w→zbT c (w++c :: r)=some (w,r)
 | [],r,_=>by simp[zbT]
 | x :: w,r,h=>by
   rw[List.cons_append,zbT,if_neg (fun e=>h (by simp[e])),zeq (fun e=>h (by simp[e]))]
   rfl
theorem zep {c:UInt8}:∀{l:List UInt8},zbT c l=none↔c ∉ l
 | []=>by simp[zbT]
 | x :: l=>by
   rw[zbT]
   split
   ·rename_i e;simp[e]
   ·rename_i e
    rw[Option.map_eq_none_iff,zep];simp;exact fun _ e'=>e e'.symm
theorem zdN (l:List UInt8)(c:UInt8):valT (l++[c])=10*valT l+(c.toNat-48):=by simp[valT,List.foldl_append]
theorem zma {c:UInt8}(h:digB c=true):UInt8.ofNat (48+(c.toNat-48) % 10)=c:=by
 unfold digB at h;rw[decide_eq_true_iff]at h;have:48+(c.toNat-48) % 10=c.toNat:=by omega
 rw[this];simp
theorem ztT:∀(n:Nat) (l:List UInt8),l.length=n→l≠[]→l.all digB=true→(1<l.length→l.head?≠some 48)→Lib.decDigits (valT l)=l
 | 0,l,hn,h0,_,_=>by simp at hn;exact absurd hn h0
 | n+1,l,hn,h0,hd,h1=>by
   rcases List.eq_nil_or_concat l with rfl|⟨m,c,rfl⟩
   ·exact absurd rfl h0
   ·rw[List.concat_eq_append]at *
    rw[List.all_append,Bool.and_eq_true]at hd;obtain⟨hm,hc⟩:=hd;have hc':digB c=true:=by simpa using hc
    have hd:=zma hc';have hb:c.toNat-48<10:=by unfold digB at hc';rw[decide_eq_true_iff]at hc';omega
    rw[zdN]
    by_cases hm0:m=[]
    ·subst hm0
     have hv:valT []=0:=rfl;rw[hv,Lib.decDigits,dif_pos (by omega)];rw[Nat.mod_eq_of_lt hb]at hd;simp[hd]
    ·have hl:1<(m++[c]).length:=by
      have:=zwc hm0;simp;omega
     have hh:=h1 hl;rw[List.head?_append,List.head?_eq_some_head hm0]at hh;have ih:=ztT n m (by simpa using hn) hm0 hm (fun _=>by rw[List.head?_eq_some_head hm0];simpa using hh);have hv:valT m≠0:=fun e=>by
      rw[e,Lib.decDigits,dif_pos (by omega)]at ih;subst ih;simp at hh
     rw[Lib.decDigits,dif_neg (by omega),show (10*valT m+(c.toNat-48)) / 10=valT m by omega,ih,show (10*valT m+(c.toNat-48)) % 10=(c.toNat-48) % 10 by omega,hd]
theorem zcz (n:Nat):(Lib.decDigits n).all digB=true∧valT (Lib.decDigits n)=n∧Lib.decDigits n≠[]∧(1<(Lib.decDigits n).length→(Lib.decDigits n).head?≠some 48)∧(0<n→(Lib.decDigits n).head?≠some 48):=by
 induction n using Nat.strongRecOn with
 | ind n ih=>
   have hk:∀d,d<10→(UInt8.ofNat (48+d)).toNat=48+d:=fun d h=>by
    rw[UInt8.toNat_ofNat'];omega
   rw[Lib.decDigits]
   split
   ·rename_i h
    have:=hk n h;refine⟨by rw[List.all_cons,digB,this];simp;omega,by show 10*0+((UInt8.ofNat (48+n)).toNat-48)=n;rw[this];omega,by simp,by simp,fun h0=>?_⟩;simp only[List.head?_cons,ne_eq,Option.some.injEq];intro e;have e':=congrArg UInt8.toNat e;rw[this]at e';simp at e';omega
   ·rename_i h
    obtain⟨h1,h2,h3,h4,h5⟩:=ih (n / 10) (by omega);have:=hk (n % 10) (by omega);have hh:(Lib.decDigits (n / 10)++[UInt8.ofNat (48+n % 10)]).head?≠some 48:=by
     rw[List.head?_append,List.head?_eq_some_head h3];have:=h5 (by omega);rw[List.head?_eq_some_head h3]at this;simpa using this
    refine⟨?_,?_,by simp,fun _=>hh,fun _=>hh⟩
    ·rw[List.all_append,h1,List.all_cons,digB,this];simp;omega
    ·rw[zdN,h2,this];omega
theorem zuM {n:Nat}(hn:n≤1099511627776):(Lib.decDigits n).length≤15:=by
 have key:∀(d u:Nat),u<10 ^ d→1≤d→(Lib.decDigits u).length≤d:=by
  intro d
  induction d with
  | zero=>intro u _ h;omega
  | succ d ih=>
    intro u hu _;rw[Lib.decDigits]
    split
    ·simp
    ·rename_i h10
     have h1:1≤d:=by
      rcases Nat.eq_zero_or_pos d with rfl|h
      ·simp at hu;omega
      ·exact h
     have:=ih (u / 10) (by rw[Nat.pow_succ]at hu;omega) h1;simp only[List.length_append,List.length_cons,List.length_nil];omega
 exact key 15 n (by omega) (by decide)
theorem zg4 {l:List UInt8}{n:Nat}(h:numT l=some n):l=Lib.decDigits n∧n≤1099511627776:=by
 unfold numT at h
 split at h
 ·cases h
 ·rename_i h1
  split at h
  ·rename_i h2
   obtain rfl:=zv4 h;have h3:l≠[]:=fun e=>h1 (.inl e)
   exact⟨(ztT _ l rfl h3 h2.1 (fun a b=>h1 (.inr (.inr ⟨a,b⟩)))).symm,h2.2⟩
  ·cases h
theorem zlK {n:Nat}(hn:n≤1099511627776):numT (Lib.decDigits n)=some n:=by
 obtain⟨h1,h2,h3,h4,_⟩:=zcz n;have h5:=zuM hn;unfold numT;rw[if_neg (by rintro(h|h|h);exact h3 h;omega;exact h4 h.1 h.2),if_pos ⟨h1,by rw[h2];exact hn⟩,h2]
theorem zrv {c:UInt8}(h:zbz c=true):c≠41∧c≠44∧c≠112∧c≠97∧c≠83∧c≠102∧c≠58∧c≠59:=by
 unfold zbz at h;rw[List.contains_iff_mem]at h;simp at h;rcases h with rfl|rfl|rfl|rfl|rfl|rfl<;>decide
theorem zaO (t:Ty)(l:List Ty):zbw (t :: l)=code t++zcL l:=by rw[zbw]
theorem zbs (t:Ty)(l:List Ty):zcL (t :: l)=44 :: zbw (t :: l):=by rw[zcL,zbw]
theorem zcr:∀k,(∀l t r,tyF k l=some (t,r)→l=code t++r∧zaD t)∧(∀l ps r,zc5 k l=some (ps,r)→l=zbw ps++41 :: r∧zez ps)∧(∀l ps r,zbJ k l=some (ps,r)→l=zbw ps++41 :: r∧zez ps∧ps≠[])
 | 0=>⟨(fun l t r h=>by rw[tyF]at h;cases h),(fun l t r h=>by rw[zc5]at h;cases h),(fun l t r h=>by rw[zbJ]at h;cases h)⟩
 | k+1=>by
   obtain⟨i1,i2,i3⟩:=zcr k;refine⟨?_,?_,?_⟩
   ·intro l t r h
    match l,h with
    | [],h=>rw[tyF]at h;cases h
    | c :: l,h=>
      rw[tyF]at h
      split at h
      ·rename_i hb
       obtain⟨rfl,rfl⟩:=Prod.mk.inj (zv4 h);exact⟨rfl,hb⟩
      ·split at h
       ·rename_i hc
        subst hc;obtain⟨⟨t',r'⟩,h1,h2⟩:=Option.map_eq_some_iff.1 h;obtain⟨rfl,rfl⟩:=Prod.mk.inj h2;obtain⟨rfl,h3⟩:=i1 _ _ _ h1;exact⟨rfl,h3⟩
       ·split at h
        ·rename_i hc
         subst hc;obtain⟨⟨w,q⟩,h1,h2⟩:=Option.bind_eq_some_iff.1 h;obtain⟨n,h3,h4⟩:=Option.bind_eq_some_iff.1 h2;obtain⟨⟨t',r'⟩,h5,h6⟩:=Option.map_eq_some_iff.1 h4;obtain⟨rfl,rfl⟩:=Prod.mk.inj h6;obtain⟨rfl,_⟩:=zbj h1;obtain⟨rfl,h7⟩:=zg4 h3;obtain⟨rfl,h8⟩:=i1 _ _ _ h5;exact⟨by simp[code],h7,h8⟩
        ·split at h
         ·rename_i hc
          subst hc;obtain⟨⟨w,q⟩,h1,h2⟩:=Option.bind_eq_some_iff.1 h
          split at h2
          ·rename_i hn
           obtain⟨rfl,rfl⟩:=Prod.mk.inj (zv4 h2);obtain⟨rfl,_⟩:=zbj h1;exact⟨by simp[code],hn⟩
          ·cases h2
         ·split at h
          ·rename_i hc
           subst hc;obtain⟨q,h0,hq⟩:=Option.bind_eq_some_iff.1 h;obtain rfl:=zhz h0;obtain⟨⟨ps,x⟩,h1,h2⟩:=Option.bind_eq_some_iff.1 hq;obtain⟨⟨t',r'⟩,h3,h4⟩:=Option.map_eq_some_iff.1 h2;obtain⟨rfl,rfl⟩:=Prod.mk.inj h4;obtain⟨rfl,h5⟩:=i2 _ _ _ h1;obtain⟨h6,h7⟩:=i1 _ _ _ h3;simp only at h6;subst h6;exact⟨by simp[code],h5,h7⟩
          ·cases h
   ·intro l ps r h
    match l,h with
    | [],h=>rw[zc5]at h;cases h
    | c :: l,h=>
      rw[zc5]at h
      split at h
      ·rename_i hc
       obtain⟨rfl,rfl⟩:=Prod.mk.inj (zv4 h);subst hc;exact⟨by simp[zbw],trivial⟩
      ·obtain⟨h1,h2,_⟩:=i3 _ _ _ h
       exact⟨h1,h2⟩
   ·intro l ps r h
    rw[zbJ]at h;obtain⟨⟨t,q⟩,h1,h2⟩:=Option.bind_eq_some_iff.1 h;obtain⟨rfl,h3⟩:=i1 _ _ _ h1;simp only at h2
    split at h2
    ·obtain⟨rfl,rfl⟩:=Prod.mk.inj (zv4 h2)
     exact⟨by simp[zbw,zcL],⟨h3,trivial⟩,by simp⟩
    ·obtain⟨⟨ps',r'⟩,h4,h5⟩:=Option.map_eq_some_iff.1 h2
     obtain⟨rfl,rfl⟩:=Prod.mk.inj h5;obtain⟨rfl,h6,h7⟩:=i3 _ _ _ h4;obtain⟨t',l',rfl⟩:=List.exists_cons_of_ne_nil h7;refine⟨?_,⟨h3,h6⟩,by simp⟩;rw[zaO t,zbs];simp
    ·cases h2
theorem zht (t:Ty)(h:zaD t):∃c l,code t=c :: l∧c≠41∧c≠44:=by
 cases t with
 | base c=>exact⟨c,[],rfl,(zrv h).1,(zrv h).2.1⟩
 | ptr t=>exact⟨_,_,rfl,by decide,by decide⟩
 | arr n t=>exact⟨_,_,rfl,by decide,by decide⟩
 | str s=>exact⟨_,_,rfl,by decide,by decide⟩
 | fn ps r=>exact⟨_,_,rfl,by decide,by decide⟩
theorem zuo {s:List UInt8}(h:zfF s=true):59 ∉ s∧58 ∉ s∧s.length≤31∧s≠[]:=by
 unfold zfF isNameB at h;simp only[Bool.and_eq_true,decide_eq_true_iff]at h;obtain⟨h0,h1,h2,h3,_⟩:=h;have e:ByteArray.size ⟨s.toArray⟩=s.length:=by simp[ByteArray.size]
 have e2:(⟨s.toArray⟩:ByteArray).data.toList=s:=by simp
 rw[e]at h0 h1;replace h3:wlen s=s.length:=h3;have key:∀c ∈ s,zdK c=true:=fun c hc=>by
  obtain⟨k,hk,rfl⟩:=List.getElem_of_mem hc;obtain⟨c',h4,h5⟩:=zk9 (l:=s) (k:=k) (by omega);rw[zv1 hk]at h4;obtain rfl:=zv4 h4;exact h5
 exact⟨fun hm=>absurd (key _ hm) (by decide),fun hm=>absurd (key _ hm) (by decide),h1,by rintro rfl;simp at h0⟩
mutual
theorem zcw:∀(t:Ty),zaD t→∀k r,(code t).length<k→tyF k (code t++r)=some (t,r)
 | .base c,h,k+1,r,_=>by
   rw[code,List.cons_append,tyF,if_pos (show zbz c=true from h)];rfl
 | .ptr t,h,k+1,r,hk=>by
   rw[code]at hk ⊢;rw[List.cons_append,tyF,if_neg (by decide),if_pos rfl,zcw t h k r (by simpa using hk)];rfl
 | .arr n t,h,k+1,r,hk=>by
   rw[code]at hk ⊢;have hc:(58:UInt8) ∉ Lib.decDigits n:=fun hm=>by
    have:=List.all_eq_true.1 (zcz n).1 _ hm;exact absurd this (by decide)
   rw[List.cons_append,tyF,if_neg (by decide),if_neg (by decide),if_pos rfl,List.append_assoc,List.cons_append,zeq hc];simp only[Option.bind_some,zlK h.1];rw[zcw t h.2 k r (by simp at hk;omega)];rfl
 | .str s,h,k+1,r,hk=>by
   rw[code,List.cons_append,tyF,if_neg (by decide),if_neg (by decide),if_neg (by decide),if_pos rfl,List.append_assoc,List.singleton_append,zeq (zuo h).1];simp only[Option.bind_some];rw[if_pos (show zfF s=true from h)]
 | .fn ps x,h,k+1,r,hk=>by
   rw[code]at hk ⊢;simp only[List.length_cons,List.length_append]at hk;rw[List.cons_append,tyF,if_neg (by decide),if_neg (by decide),if_neg (by decide),if_neg (by decide),if_pos rfl];simp only[List.cons_append,List.append_assoc,behind,if_true,Option.bind_some];rw[zoP ps h.1 k _ (by omega)];simp only[Option.bind_some];rw[zcw x h.2 k r (by omega)];rfl
theorem zoP:∀(ps:List Ty),zez ps→∀k r,(zbw ps).length+2<k→zc5 k (zbw ps++41 :: r)=some (ps,r)
 | [],_,k+1,r,_=>by
   simp[zbw,zc5]
 | t :: l,h,k+2,r,hk=>by
   obtain⟨c,q,hc,h1,_⟩:=zht t h.1;have hm:=zfT t l h.1 h.2 (k+1) r (by omega);rw[zaO]at hm ⊢;rw[hc]at hm ⊢;rw[List.cons_append,List.cons_append,zc5,if_neg h1];exact hm
theorem zfT:∀(t:Ty) (l:List Ty),zaD t→zez l→∀k r,(zbw (t :: l)).length+1<k→zbJ k (zbw (t :: l)++41 :: r)=some (t :: l,r)
 | t,[],ht,hl,k+1,r,hk=>by
   rw[zaO,zcL,List.append_nil]at *;rw[zbJ,zcw t ht k _ (by omega)];rfl
 | t,t' :: l,ht,hl,k+1,r,hk=>by
   rw[zaO,zbs]at *;simp only[List.length_append,List.length_cons]at hk;rw[zbJ,List.append_assoc,zcw t ht k _ (by omega)];simp only[Option.bind_some,List.cons_append];rw[zfT t' l hl.1 hl.2 k r (by omega)];rfl
end
def tyE (l:List UInt8):Option Ty:=(tyF (2*l.length+1) l).bind fun q=>if q.2=[] then some q.1 else none
theorem zmw {l:List UInt8}{t:Ty}:tyE l=some t↔l=code t∧zaD t:=by
 unfold tyE;constructor
 ·intro h
  obtain⟨⟨t',r⟩,h1,h2⟩:=Option.bind_eq_some_iff.1 h
  split at h2
  ·rename_i e
   simp only at e;subst e;obtain rfl:=zv4 h2;have:=(zcr _).1 _ _ _ h1;simpa using this
  ·cases h2
 ·rintro⟨rfl,h⟩
  have:=zcw t h (2*(code t).length+1) [] (by omega);rw[List.append_nil]at this;rw[this];rfl
def zhf:Ty→Bool
 | .base c=>decide (c=99∨c=115∨c=105∨c=117)
 | _=>false
def isPtrT:Ty→Bool
 | .ptr _=>true
 | _=>false
def zap (t:Ty):Bool:=zhf t || isPtrT t
def isFnT:Ty→Bool
 | .fn _ _=>true
 | _=>false
def zbE:Ty→Bool
 | .base c=>decide (c=118)
 | _=>false
def objectT (t:Ty):Bool:=!zbE t && !isFnT t
mutual
def shapeT:Ty→Bool
 | .base _=>true
 | .ptr t=>shapeT t
 | .arr n t=>decide (1≤n∧n≤65536) && (objectT t && shapeT t)
 | .str _=>true
 | .fn ps r=>decide (ps.length≤8) && ((zbE r || zap r) && (shapeT r && zbL ps))
def zbL:List Ty→Bool
 | []=>true
 | t :: l=>(zap t && shapeT t) && zbL l
end
structure Sr where
 name:ByteArray
 mems:List (ByteArray × ByteArray)
structure Kn extends Sr where
 size:Nat
 align:Nat
def za3 (K:List Kn)(s:List UInt8):Option Nat:=K.findIdx? fun k=>decide (k.name.data.toList=s)
def thereT (K:List Kn):Ty→Bool
 | .arr _ t=>thereT K t
 | .str s=>(za3 K s).isSome
 | _=>true
def measT (K:List Kn):Ty→Nat × Nat
 | .base c=>if c=99 then (1,1) else if c=115 then (2,2) else if c=106 then (64,4) else (4,4)
 | .ptr _=>(4,4)
 | .arr n t=>(n*(measT K t).1,(measT K t).2)
 | .str s=>match (za3 K s).bind (K[·]?) with
   | some k=>(k.size,k.align)
   | none=>(4,4)
 | .fn _ _=>(4,4)
mutual
def sizedT (K:List Kn):Ty→Bool
 | .base _=>true
 | .ptr t=>sizedT K t
 | .arr n t=>sizedT K t && (!thereT K t || decide (n*(measT K t).1≤65536))
 | .str _=>true
 | .fn ps r=>sizedT K r && zeG K ps
def zeG (K:List Kn):List Ty→Bool
 | []=>true
 | t :: l=>sizedT K t && zeG K l
end
def tyS (s:ByteArray):Option Ty:=if s.size≤65536 then tyE s.data.toList else none
def zbA (K:List Kn)(t:Ty):Int:=if 48<zaS t then 3 else if shapeT t=false then 5 else if thereT K t=false then 4 else if sizedT K t=false then 3 else 0
def checkS (K:List Kn)(s:ByteArray):Int:=match tyS s with
 | none=>2
 | some t=>zbA K t
def fitN (at_ a:Nat):Nat:=(at_+a-1) / a*a
def zbo (K:List Kn):List (ByteArray × ByteArray)→List ByteArray→Nat→Nat→Int ⊕ (Nat × Nat)
 | [],_,at_,most=>.inr (at_,most)
 | m :: l,seen,at_,most=>
   if isNameB m.1=false then .inl 2
   else if Lib.containsS seen m.1=true then .inl 6
   else match tyS m.2 with
    | none=>.inl 2
    | some t=>
      if zbA K t≠0 then .inl (zbA K t)
      else if objectT t=false then .inl 5
      else zbo K l (seen++[m.1]) (fitN at_ (measT K t).2+(measT K t).1) (max most (measT K t).2)
def addK (K:List Kn)(x:Sr):Int ⊕ Kn:=
 if isNameB x.name=false then .inl 2
 else if (za3 K x.name.data.toList).isSome=true then .inl 6
 else if 64<x.mems.length then .inl 3
 else if x.mems=[] then .inl 5
 else match zbo K x.mems [] 0 1 with
  | .inl e=>.inl e
  | .inr (at_,most)=>if 65536<fitN at_ most then .inl 3 else .inr { x with size:=fitN at_ most,align:=most }
def zbv:List Kn→List Sr→(Nat × Int) ⊕ List Kn
 | K,[]=>.inr K
 | K,x :: l=>match addK K x with
   | .inl e=>.inl (K.length,e)
   | .inr k=>zbv (K++[k]) l
def zbh (l:List Sr):(Nat × Int) ⊕ List Kn:=if 64<l.length then .inl (0,3) else zbv [] l
end Go.Proofs.YtbbaooeioogijaaGreatDoor
namespace Go.Proofs.YtbbaooeioogijaaGreatDoor
open Go.RowKit
set_option maxRecDepth 100000
set_option maxHeartbeats 2000000
structure RdAt (w:World)(b:Nat)(s:ByteArray)(k d:Nat):Prop where
 blk:w.heap[b]?=some (.cells #[.string s,.int .i64 (k:Int),.int .i64 (d:Int)] 197 (0,0))
theorem RdAt.cells {w b s k d}(h:RdAt w b s k d):(w.cell? ⟨b,0,none⟩=some (.string s)∧w.cell? ⟨b,1,none⟩=some (.int .i64 (k:Int))∧w.cell? ⟨b,2,none⟩=some (.int .i64 (d:Int)))∧∀j,w.frozen? ⟨b,j,none⟩=false:=by
 refine⟨⟨?_,?_,?_⟩,fun j=>?_⟩
 ·simp[World.cell?,h.blk]
 ·simp[World.cell?,h.blk]
 ·simp[World.cell?,h.blk]
 ·simp[World.frozen?,h.blk]
theorem RdAt.drewN {w b s k d}(h:RdAt w b s k d)(n:Nat):RdAt (w.drewN n) b s k d:=⟨h.blk⟩
theorem RdAt.set1 {w b s k d}(h:RdAt w b s k d)(m:Nat):RdAt (w.setCell ⟨b,1,none⟩ (.int .i64 (m:Int))) b s m d:=by
 refine⟨?_⟩;simp[World.setCell,Array.getElem?_modify,h.blk]
theorem RdAt.set2 {w b s k d}(h:RdAt w b s k d)(m:Nat):RdAt (w.setCell ⟨b,2,none⟩ (.int .i64 (m:Int))) b s k m:=by
 refine⟨?_⟩;simp[World.setCell,Array.getElem?_modify,h.blk]
theorem RdAt.at1 {w b s k d}(h:RdAt w b s k d){m:Nat}{x:Int}(hx:x=m):RdAt (w.setCell ⟨b,1,none⟩ (.int .i64 x)) b s m d:=by subst hx;exact h.set1 m
theorem RdAt.at2 {w b s k d}(h:RdAt w b s k d){m:Nat}{x:Int}(hx:x=m):RdAt (w.setCell ⟨b,2,none⟩ (.int .i64 x)) b s k m:=by subst hx;exact h.set2 m
theorem RdAt.below {w w' b s k d}(h:RdAt w b s k d)(hb:Below w.heap.size w w'):RdAt w' b s k d:=⟨by rw[hb.block b (zaa h.blk)];exact h.blk⟩
theorem RdAt.lt {w b s k d}(h:RdAt w b s k d):b<w.heap.size:=zaa h.blk
def zcg (s:ByteArray)(k:Nat):Nat:=if h:k<s.size then s[k].toNat else 0
theorem zbB {s:ByteArray}{k:Nat}(h:k<s.size):zcg s k=s[k].toNat:=by rw[zcg,dif_pos h]
theorem zfU {s:ByteArray}{k:Nat}(h:s.size≤k):zcg s k=0:=by rw[zcg,dif_neg (by omega)]
theorem zuk (b k d:Nat)(s:ByteArray)(w:World)(h:RdAt w b s k d) :
 Calls Tryz.prog 148 #[.pointer (some ⟨b,0,none⟩)] w fun e w'=>e=.returned (.int .u8 (zcg s k:Int))∧∃n,w'=w.drewN n:=by
 obtain⟨⟨c0,c1,c2⟩,hf⟩:=h.cells;clear h hf
 by_cases hk:k<s.size
 ·have hE:=Hd (zbB hk)
  have t1:decide (k<s.size)=true:=by simpa using hk
  go_enter Tryz.func148,Tryz.ntmps148
  go_wp2_with fail
  go_quiet (fail)
  go_wp2_with fail
  go_quiet (fail)
  go_wp2
  go_ret;exact⟨by rw[hE.out];rfl,_,World.drewN_drewN _ _ _⟩
 ·have hE:=Hd (zfU (s:=s) (k:=k) (by omega))
  have t1:decide (k<s.size)=false:=by simpa using hk
  go_enter Tryz.func148,Tryz.ntmps148
  go_wp2_with fail
  go_quiet (fail)
  go_wp2
  go_ret;exact⟨by rw[hE.out];rfl,_,rfl⟩
theorem zlL (r:Int)(b k d:Nat)(s:ByteArray)(w:World)(h:RdAt w b s k d)(hr:(zcg s k:Int)=r) :
 Calls Tryz.prog 148 #[.pointer (some ⟨b,0,none⟩)] w fun e w'=>e=.returned (.int .u8 r)∧∃n,w'=w.drewN n:=by
 subst hr;exact zuk b k d s w h
theorem zrS (c:UInt8)(b k d:Nat)(s:ByteArray)(w:World)(h:RdAt w b s k d)(hk:k<s.size)(hc:s[k]=c)(hs:s.size≤1048576) :
 Calls Tryz.prog 136 #[.pointer (some ⟨b,0,none⟩),.int .u8 (c.toNat:Int)] w fun e w'=>e=.returned (.bool true)∧RdAt w' b s (k+1) d∧w.grownBy w' (some b):=by
 have H:=Hd h;have HN:=Hd (show (zcg s k:Int)=(c.toNat:Int) by rw[zbB hk,hc]);obtain⟨⟨c0,c1,c2⟩,hf⟩:=h.cells;have f1:=hf 1;have t1:decide (s.size≤k)=false:=by simp;omega
 have t2:decide ((s.size:Int)≤k)=false:=by simp;omega
 clear h hc hf
 go_enter Tryz.func136,Tryz.ntmps136
 go_wp2_with fail
 go_quiet ((go_at_call 148;exact Calls.quiet_of (zlL _ _ _ _ _ _ (H.out.drewN _) HN.out)))
 go_wp2
 go_ret;exact⟨rfl,by have:=(H.out.drewN nq).set1 (k+1);exact this,zbr (zay (zaK _ _) _) _ rfl _⟩
theorem zt6 (c:UInt8)(b k d:Nat)(s:ByteArray)(w:World)(h:RdAt w b s k d)(hc0:c.toNat≠0)(hc:∀h:k<s.size,s[k]≠c) :
 Calls Tryz.prog 136 #[.pointer (some ⟨b,0,none⟩),.int .u8 (c.toNat:Int)] w fun e w'=>e=.returned (.bool false)∧∃n,w'=w.drewN n:=by
 have H:=Hd h;have t1:((zcg s k:Int) != (c.toNat:Int))=true:=by
  rw[bne_iff_ne]
  by_cases hk:k<s.size
  ·rw[zbB hk]
   intro e;exact hc hk (UInt8.toNat_inj.1 (by omega))
  ·rw[zfU (by omega)]
   intro e;omega
 generalize hg:(zcg s k:Int)=x at t1;have HN:=Hd hg;clear h hc hg hc0
 go_enter Tryz.func136,Tryz.ntmps136
 go_wp2_with fail
 go_quiet ((go_at_call 148;exact Calls.quiet_of (zlL _ _ _ _ _ _ (H.out.drewN _) HN.out)))
 go_wp2
 go_ret;exact⟨rfl,_,rfl⟩
theorem zhG (x:Int)(c:UInt8)(b k d:Nat)(s:ByteArray)(w:World)(hx:x=(c.toNat:Int))(h:RdAt w b s k d)(hk:k<s.size)(hc:s[k]=c)(hs:s.size≤1048576) :
 Calls Tryz.prog 136 #[.pointer (some ⟨b,0,none⟩),.int .u8 x] w fun e w'=>e=.returned (.bool true)∧RdAt w' b s (k+1) d∧w.grownBy w' (some b):=by
 subst hx;exact zrS c b k d s w h hk hc hs
theorem zrT (x:Int)(c:UInt8)(b k d:Nat)(s:ByteArray)(w:World)(hx:x=(c.toNat:Int))(h:RdAt w b s k d)(hc0:c.toNat≠0)(hc:∀h:k<s.size,s[k]≠c) :
 Calls Tryz.prog 136 #[.pointer (some ⟨b,0,none⟩),.int .u8 x] w fun e w'=>e=.returned (.bool false)∧∃n,w'=w.drewN n:=by
 subst hx;exact zt6 c b k d s w h hc0 hc
set_option maxHeartbeats 4000000
theorem zq8 {c:UInt8}{l u r:List UInt8}(h:zbT c l=some (u,r)):Lib.indexByte l c=(u.length:Nat):=by
 obtain⟨rfl,h2⟩:=zbj h;refine zge (by simp) fun k hk=>?_
 rw[List.getElem?_append_left hk];intro e;exact h2 (List.mem_of_getElem? e)
theorem zkR {c:UInt8}{l:List UInt8}(h:zbT c l=none):Lib.indexByte l c=-1:=by
 rw[zep]at h;exact zgd fun k e=>h (List.mem_of_getElem? e)
theorem zqA (c:UInt8)(o:Int)(s:ByteArray)(k:Nat)(w:World)(ho:Lib.indexByte (sfx s k) c=o) :
 Calls Tryz.prog 149 #[.string (s.extract k s.size),.int .u8 (c.toNat:Int)] w fun e w'=>e=.returned (.int .i64 o)∧w'=w:=
 (Tryz.strings_IndexByte _ (c.toNat:Int) w).mono fun _ _ ⟨he,hw⟩=>⟨by rw[he,zcB,← ho];simp,hw⟩
theorem zrR (c:UInt8)(b k d:Nat)(s:ByteArray)(u r:List UInt8)(w:World)(h:RdAt w b s k d)(hk:k≤s.size)(hc:zbT c (sfx s k)=some (u,r))(hs:s.size≤1048576) :
 Calls Tryz.prog 150 #[.pointer (some ⟨b,0,none⟩),.int .u8 (c.toNat:Int)] w fun e w'=>e=.returned (.tuple #[.string (s.extract k (k+u.length)),.bool true])∧RdAt w' b s (k+u.length+1) d∧w.grownBy w' (some b):=by
 have H:=Hd h;have HI:=Hd (zq8 hc);have hl:k+u.length+1≤s.size:=by
  have:=congrArg List.length (zbj hc).1;rw[zaJ]at this;simp at this;omega
 obtain⟨⟨c0,c1,c2⟩,hf⟩:=h.cells;have f1:=hf 1;generalize u.length=m at *;clear h hc hf
 go_enter Tryz.func150,Tryz.ntmps150
 go_wp2_with fail
 go_quiet ((go_at_call 149;exact Calls.quiet_of_same (zqA c _ _ _ _ HI.out)))
 go_wp2_with fail
 go_quiet (fail)
 go_wp2_with fail
 go_ret2
 exact⟨rfl,(H.out.drewN _).at1 (by omega),zbr (zay (zaK _ _) _) _ rfl _⟩
theorem zt4 (c:UInt8)(b k d:Nat)(s:ByteArray)(w:World)(h:RdAt w b s k d)(hk:k≤s.size)(hc:zbT c (sfx s k)=none) :
 Calls Tryz.prog 150 #[.pointer (some ⟨b,0,none⟩),.int .u8 (c.toNat:Int)] w fun e w'=>e=.returned (.tuple #[.string ⟨#[]⟩,.bool false])∧∃n,w'=w.drewN n:=by
 have HI:=Hd (zkR hc);obtain⟨⟨c0,c1,c2⟩,hf⟩:=h.cells;clear h hc hf
 go_enter Tryz.func150,Tryz.ntmps150
 go_wp2_with fail
 go_quiet ((go_at_call 149;exact Calls.quiet_of_same (zqA c _ _ _ _ HI.out)))
 go_wp2
 go_ret2
 exact⟨rfl,_,rfl⟩
def zeu (r:Option Nat)(w:World)(e:Ending)(w':World):Prop:=
 (match r with
   | some n=>e=.returned (.tuple #[.int .i64 n,.bool true])
   | none=>∃x:Int,e=.returned (.tuple #[.int .i64 x,.bool false]))∧Below w.heap.size w w'
theorem zbb {w w':World}{r:Option Nat}{x:Int}(hr:r=none)(hb:Below w.heap.size w w'):zeu r w (.returned (.tuple #[.int .i64 x,.bool false])) w':=by subst hr;exact⟨⟨x,rfl⟩,hb⟩
theorem zkd {w w':World}{r:Option Nat}{n:Nat}(hr:r=some n)(hb:Below w.heap.size w w'):zeu r w (.returned (.tuple #[.int .i64 n,.bool true])) w':=by subst hr;exact⟨rfl,hb⟩
theorem zf9 {w w':World}{r:Option Nat}{n:Nat}(hr:r=if n≤1099511627776 then some n else none)(hb:Below w.heap.size w w'):zeu r w (.returned (.tuple #[.int .i64 n,.bool (decide ((n:Int)≤1099511627776))])) w':=by
 by_cases h:n≤1099511627776
 ·rw[if_pos h]at hr
  rw[decide_eq_true (show (n:Int)≤1099511627776 by omega)];exact zkd hr hb
 ·rw[if_neg h]at hr
  rw[decide_eq_false (show ¬(n:Int)≤1099511627776 by omega)];exact zbb hr hb
theorem zlb:∀(n:Nat) (l:List UInt8),l.length=n→l.all digB=true→valT l<10 ^ n
 | 0,l,hn,_=>by simp at hn;subst hn;simp[valT]
 | n+1,l,hn,h=>by
   rcases List.eq_nil_or_concat l with rfl|⟨m,c,rfl⟩
   ·simp at hn
   ·rw[List.concat_eq_append]at *
    rw[List.all_append,Bool.and_eq_true]at h;have h1:=zlb n m (by simpa using hn) h.1;have h2:digB c=true:=by simpa using h.2
    unfold digB at h2;rw[decide_eq_true_iff]at h2;rw[zdN,Nat.pow_succ];omega
theorem zmg (w:World)(e:TypeId)(s:ByteArray):Below w.heap.size w (Lib.bytesWorld w e s):=
 ⟨rfl,rfl,rfl,by rw[Lib.bytesWorld_size];omega,fun k hk=>Lib.bytesWorld_at_old w e s k hk⟩
theorem zkf {l:List UInt8}(h:15<l.length):numT l=none:=by unfold numT;rw[if_pos (.inr (.inl h))]
theorem zke {l:List UInt8}(h:1<l.length)(h0:l.head?=some 48):numT l=none:=by unfold numT;rw[if_pos (.inr (.inr ⟨h,h0⟩))]
theorem zmS {l:List UInt8}(h:l.all digB=false):numT l=none:=by
 unfold numT
 split
 ·rfl
 ·rw[if_neg (by rw[h];simp)]
theorem zmR {l:List UInt8}(h0:l≠[])(h1:l.length≤15)(h2:1<l.length→l.head?≠some 48)(h3:l.all digB=true):numT l=if valT l≤1099511627776 then some (valT l) else none:=by
 unfold numT;rw[if_neg (by rintro(h|h|h);exact h0 h;omega;exact h2 h.1 h.2)]
 by_cases h:valT l≤1099511627776
 ·rw[if_pos ⟨h3,h⟩,if_pos h]
 ·rw[if_neg (fun e=>h e.2),if_neg h]
theorem zp0 (s:ByteArray)(w:World):Calls Tryz.prog 135 #[.string s] w (zeu (numT s.data.toList) w):=by
 have hl:s.data.toList.length=s.size:=by rw[Array.length_toList];rfl
 have Hl:=Hd hl;clear hl
 by_cases h0:s.size=0
 ·have hfin:=Hd (show numT s.data.toList=none by unfold numT;rw[if_pos (.inl (List.eq_nil_of_length_eq_zero (by rw[Hl.out];exact h0)))])
  have t1:s.toList.isEmpty=true:=by
   rw[Lib.toList_data,List.isEmpty_iff];exact List.eq_nil_of_length_eq_zero (by rw[Hl.out];exact h0)
  go_enter Tryz.func135,Tryz.ntmps135
  go_wp2_with fail
  go_ret2
  exact zbb hfin.out (zv3 _ _)
 ·have t1:s.toList.isEmpty=false:=by
   rw[Lib.toList_data,List.isEmpty_eq_false_iff];intro e;have:=Hl.out;rw[e]at this;exact h0 this.symm
  by_cases h15:15<s.size
  ·have hfin:=Hd (zkf (l:=s.data.toList) (by rw[Hl.out];exact h15))
   have t2:(15:Int)<s.size:=by omega
   go_enter Tryz.func135,Tryz.ntmps135
   go_wp2_with fail
   go_ret2
   exact zbb hfin.out (zv3 _ _)
  ·have t2:(s.size:Int)≤15:=by omega
   by_cases hz:1<s.size∧s.data.toList.head?=some 48
   ·have hfin:=Hd (zke (l:=s.data.toList) (by rw[Hl.out];exact hz.1) hz.2)
    have h1:0<s.size:=by omega
    have t3:(1:Int)<s.size:=by omega
    have t4:((s[0].toNat:Int) == 48)=true:=by
     have:=hz.2;rw[zd3 s h1]at this;simp[Option.some.inj this]
    clear hz
    go_enter Tryz.func135,Tryz.ntmps135
    go_wp2_with fail
    go_ret2
    exact zbb hfin.out (zv3 _ _)
   ·have h1:0<s.size:=by omega
    have HZ:=Hd (show 1<s.data.toList.length→s.data.toList.head?≠some 48 from fun a b=>hz ⟨by rw[Hl.out]at a;exact a,b⟩);have hcv:=fun w:World=>Lib.run_convert_string_bytes (P:=Tryz.prog) w 9 201 5 s Tryz.underlying9 Tryz.underlying201 Tryz.underlying5
    have hz':((s.size:Int)≤1)∨((1:Int)<s.size∧((s[0].toNat:Int) == 48)=false):=by
     by_cases h:1<s.size
     ·refine .inr ⟨by omega,?_⟩
      have h3:s.data.toList.head?≠some 48:=fun e=>hz ⟨h,e⟩
      rw[zd3 s h1]at h3;rw[zwa];intro e;have e':s[0].toNat=48:=by omega
      exact h3 (by rw[Option.some.injEq];exact UInt8.toNat_inj.1 e')
     ·exact .inl (by omega)
    clear hz
    go_enter Tryz.func135,Tryz.ntmps135
    go_upto_region 1 with fail
    go_cut [23] (fun v wx=>v=.bool false∧w=wx)
    case first=>
     rcases hz' with h|⟨h,h'⟩
     all_goals
      go_wp2_with fail
      go_meet
      exact⟨by congr 1;simp_all;try omega,rfl⟩
    case rest=>
     obtain⟨rfl,rfl⟩:=hcut;clear hz'
     go_wp2_with fail
     have hcell:∀j (hj:j<s.size),(Lib.bytesWorld w 5 s).cell? ⟨w.heap.size,j,none⟩=some (.int .u8 (s[j].toNat:Int)):=fun j hj=>by
      rw[Lib.bytesWorld_cell _ _ _ _ hj,zeT _ _ (by rw[Hl.out];exact hj)]
      rfl
     have HC:=Hd hcell;have HB:=Hd (zmg w 5 s);clear hcell hcv;generalize Lib.bytesWorld w 5 s=w1 at HC HB ⊢
     go_loop [4,27] (fun nv i=>∃k:Nat,k≤s.size∧i=.int .i64 k∧nv=.int .i64 (valT (s.data.toList.take k):Nat)∧Hid ((s.data.toList.take k).all digB=true)) (fun _ i=>s.size-(intOf i).toNat)
     case atStart=>exact⟨0,Nat.zero_le _,rfl,rfl,rfl⟩
     case round=>
      obtain⟨k,hk,rfl,rfl,hd⟩:=hrel;have hv:valT (s.data.toList.take k)<10 ^ 15:=zv5 (zlb _ _ rfl hd.out) (Nat.pow_le_pow_right (by decide) (by rw[List.length_take];omega));have hv':(valT (s.data.toList.take k):Int)<1000000000000000:=by omega
      clear hv
      by_cases hlt:k<s.size
      ·have hc:=HC.out k hlt
       have HT:=Hd (zjM s k hlt);rcases hdk:digB s[k] with _|_
       ·have hfin:=Hd (show numT s.data.toList=none from zmS (by
         rw[Bool.eq_false_iff];intro e;have:=List.all_eq_true.1 e _ (zwb (l:=s.data.toList) (n:=k) (by rw[Hl.out];exact hlt))
         rw[show s.data.toList[k]'(by rw[Hl.out];exact hlt)=s[k] from rfl,hdk]at this;cases this))
        have hw:(s[k].toNat:Int)<48∨(48≤(s[k].toNat:Int)∧57<(s[k].toNat:Int)):=by
         unfold digB at hdk;rw[decide_eq_false_iff_not]at hdk;omega
        clear hdk;rcases hw with h|⟨h,h'⟩
        all_goals
         go_wp2_with fail
         go_ret2
         exact zbb hfin.out HB.out
       ·have h1:48≤(s[k].toNat:Int)∧(s[k].toNat:Int)≤57:=by
         unfold digB at hdk;rw[decide_eq_true_iff]at hdk;omega
        obtain⟨h1,h2⟩:=h1;have hd':=Hd (show (s.data.toList.take (k+1)).all digB=true by rw[HT.out,List.all_append,hd.out];simp[hdk]);have hv2:=Hd (show valT (s.data.toList.take (k+1))=10*valT (s.data.toList.take k)+(s[k].toNat-48) by rw[HT.out,zdN]);clear hdk;have hx0:(0:Int)≤(valT (s.data.toList.take k):Int):=by omega
        have HV:=Hd (show (valT (s.data.toList.take (k+1)):Int)=10*(valT (s.data.toList.take k):Int)+((s[k].toNat:Int)-48) by have:=hv2.out;omega);clear hv2;generalize (valT (s.data.toList.take k):Int)=x at hv' hx0 HV ⊢;generalize (s[k].toNat:Int)=c at hc h1 h2 HV
        go_wp2_with fail
        go_round
        case rel=>exact⟨k+1,by omega,by go_num,by rw[HV.out],hd'⟩
        case measure=>simp[intOf];omega
      ·obtain rfl:k=s.size:=by omega
       rw[← Hl.out,List.take_length]at hd hv' ⊢;have hfin:=Hd (zmR (l:=s.data.toList) (by intro e;rw[e]at Hl;exact h0 Hl.out.symm) (by rw[Hl.out];omega) HZ.out hd.out);obtain⟨n,en⟩:∃n,n=valT s.data.toList:=⟨_,rfl⟩
       rw[← en]at hfin hv' ⊢;clear hd en
       go_wp2_with fail
       go_ret2
       exact zf9 hfin.out HB.out
set_option maxHeartbeats 8000000
theorem KeysAt.grown {w w':World}{b:Nat}(h:KeysAt w)(hg:w.grownBy w' (some b))(hb:0<b):KeysAt w':=fun j hj=>by
 have h1:=h j hj;have hlt:=World.block_lt_of_cell? w _ h1;unfold World.cell? at h1 ⊢;rw[hg.block _ hlt (by simp;omega)];exact h1
def zhD (w:World)(b:Nat)(s:ByteArray)(d dd:Nat)(r:Option (Ty × List UInt8))(e:Ending)(w':World):Prop:=
 (match r with
   | some (t,q)=>e=.returned (.bool true)∧RdAt w' b s (s.size-q.length) (max dd (d+zaS t-1))
   | none=>e=.returned (.bool false)∧∃k d',RdAt w' b s k d')∧w.grownBy w' (some b)
def zu7 (w:World)(b:Nat)(s:ByteArray)(d dd:Nat)(r:Option (List Ty × List UInt8))(e:Ending)(w':World):Prop:=
 (match r with
   | some (ps,q)=>e=.returned (.bool true)∧RdAt w' b s (s.size-q.length) (max dd (d+zbS ps))
   | none=>e=.returned (.bool false)∧∃k d',RdAt w' b s k d')∧w.grownBy w' (some b)
def zk3 (n:Nat):Prop:=∀(b k d dd:Nat) (s:ByteArray) (w:World),RdAt w b s k dd→k≤s.size→2*(s.size-k)<n→s.size≤65536→d+(s.size-k)≤70000→KeysAt w→0<b →
 Calls Tryz.prog 137 #[.pointer (some ⟨b,0,none⟩),.int .i64 d] w (zhD w b s d dd (tyF n (sfx s k)))
theorem zbN {w w':World}{b:Nat}{s:ByteArray}{d dd k d':Nat}{r:Option (Ty × List UInt8)}(hr:r=none)(h:RdAt w' b s k d')(hg:w.grownBy w' (some b)):zhD w b s d dd r (.returned (.bool false)) w':=by subst hr;exact⟨⟨rfl,_,_,h⟩,hg⟩
theorem zdX {w w':World}{b:Nat}{s:ByteArray}{d dd k d':Nat}{r:Option (Ty × List UInt8)}{t:Ty}{q:List UInt8}(hr:r=some (t,q))(h:RdAt w' b s k d')(hk:k=s.size-q.length)(hd:d'=max dd (d+zaS t-1))(hg:w.grownBy w' (some b)):zhD w b s d dd r (.returned (.bool true)) w':=by subst hr hk hd;exact⟨⟨rfl,h⟩,hg⟩
theorem zmN {w w':World}{b:Nat}{s:ByteArray}{d dd k d':Nat}{r:Option (List Ty × List UInt8)}(hr:r=none)(h:RdAt w' b s k d')(hg:w.grownBy w' (some b)):zu7 w b s d dd r (.returned (.bool false)) w':=by subst hr;exact⟨⟨rfl,_,_,h⟩,hg⟩
theorem zj6 {w w':World}{b:Nat}{s:ByteArray}{d dd k d':Nat}{r:Option (List Ty × List UInt8)}{ps:List Ty}{q:List UInt8}(hr:r=some (ps,q))(h:RdAt w' b s k d')(hk:k=s.size-q.length)(hd:d'=max dd (d+zbS ps))(hg:w.grownBy w' (some b)):zu7 w b s d dd r (.returned (.bool true)) w':=by subst hr hk hd;exact⟨⟨rfl,h⟩,hg⟩
theorem zcQ {s:ByteArray}{k:Nat}{u q:List UInt8}(h:sfx s k=u++q)(hk:k≤s.size):sfx s (s.size-q.length)=q∧s.size-q.length=k+u.length∧k+u.length≤s.size∧q.length≤s.size-k:=by
 have hl:=congrArg List.length h;rw[zaJ,List.length_append]at hl;have e:s.size-q.length=k+u.length:=by omega
 refine⟨?_,e,by omega,by omega⟩;rw[e,← ziT,h,List.drop_left]
theorem zbM {s:ByteArray}{k:Nat}{c:UInt8}{l:List UInt8}(h:sfx s k=c :: l):∃hk:k<s.size,s[k]=c∧sfx s (k+1)=l:=by
 rcases Nat.lt_or_ge k s.size with hk|hk
 ·rw[zaG s k hk]at h
  obtain⟨h1,h2⟩:=List.cons.inj h;exact⟨hk,h1,h2⟩
 ·rw[zeI s k hk]at h;cases h
theorem zeH {s:ByteArray}{k:Nat}{c:UInt8}(h:∀l,sfx s k≠c :: l):∀hk:k<s.size,s[k]≠c:=fun hk e=>h (sfx s (k+1)) (by rw[zaG s k hk,e])
def zsN (m:Nat)(t:Ty)(q:List UInt8):Option (List Ty × List UInt8):=match q with
 | 41 :: r=>some ([t],r)
 | 44 :: r=>(zbJ m r).map fun x=>(t :: x.1,x.2)
 | _=>none
theorem zp7 {m:Nat}{L q:List UInt8}{t:Ty}(h:tyF m L=some (t,q)):zbJ (m+1) L=zsN m t q:=by rw[zbJ,h];rfl
theorem zp8 {m:Nat}{L:List UInt8}(h:tyF m L=none):zbJ (m+1) L=none:=by rw[zbJ,h];rfl
theorem zsM {m:Nat}{t:Ty}{q:List UInt8}(h1:¬∃l,q=41 :: l)(h2:¬∃l,q=44 :: l):zsN m t q=none:=by
 unfold zsN
 split
 ·exact absurd ⟨_,rfl⟩ h1
 ·exact absurd ⟨_,rfl⟩ h2
 ·rfl
def putL (done:List Ty)(x:List Ty × List UInt8):List Ty × List UInt8:=(done++x.1,x.2)
theorem zue (x:Option (List Ty × List UInt8)):x=x.map (putL []):=by cases x<;>rfl
theorem zsq (done:List Ty)(t:Ty)(x:Option (List Ty × List UInt8)):(x.map fun y=>(t :: y.1,y.2)).map (putL done)=x.map (putL (done++[t])):=by cases x<;>simp[putL]
theorem zcK (t:Ty):1≤zaS t:=by cases t<;>simp[zaS]
theorem zfS (l:List Ty)(t:Ty):zbS (l++[t])=max (zbS l) (zaS t):=by
 induction l with
 | nil=>simp[zbS]
 | cons u l ih=>simp only[List.cons_append,zbS,ih];omega
theorem zb7 {t:Ty}(h:zaD t):1≤(code t).length:=by
 obtain⟨c,l,e,_⟩:=zht t h;rw[e];simp
theorem zpJ (n:Nat)(ih:∀m,m<n→zk3 m)(b k d dd:Nat)(s:ByteArray)(w:World)(h:RdAt w b s k dd)(hk:k≤s.size)(hn:2*(s.size-k)+2<n)(hs:s.size≤65536)(hd:d+1+(s.size-k)≤70000)(hdd:d≤dd)(hK:KeysAt w)(hb:0<b) :
 Calls Tryz.prog 151 #[.pointer (some ⟨b,0,none⟩),.int .i64 d] w (zu7 w b s d dd (zc5 n (sfx s k))):=by
 obtain⟨r,er⟩:∃r,r=zc5 n (sfx s k):=⟨_,rfl⟩
 rw[← er];have ER:=Hd er;have H:=Hd h;have HK:=Hd hK;have IH:=Hd ih;have hs':s.size≤1048576:=by omega
 clear er h hK ih;obtain⟨n,rfl⟩:∃m,n=m+1:=⟨n-1,by omega⟩
 by_cases hc:∃l,sfx s k=41 :: l
 ·obtain⟨l,hl⟩:=hc
  obtain⟨hlt,hb1,hr1⟩:=zbM hl;have HT:=Hd (zhG 41 41 b k dd s w rfl H.out hlt hb1 hs');have hfin:=Hd (show r=some ([],l) by rw[ER.out,hl,zc5,if_pos rfl])
  have hlen:=Hd (show k+1=s.size-l.length by
   have:=congrArg List.length hl;rw[zaJ]at this;simp only[List.length_cons]at this
   omega)
  clear hl hb1 hr1
  go_enter Tryz.func151,Tryz.ntmps151
  go_wp2_with (go_at_call 136;refine HT.out.mono ?_;rintro e w1 ⟨rfl,hT,hg⟩;have HT1:=Hd hT;have HG1:=Hd hg;clear hT hg)
  go_ret;exact zj6 hfin.out HT1.out hlen.out (by simp[zbS];omega) HG1.out
 ·have HT:=Hd (zrT 41 41 b k dd s w rfl H.out (by decide) (zeH (fun l e=>hc ⟨l,e⟩)))
  have hM:=Hd (show r=zbJ n (sfx s k) by
   rw[ER.out];rcases hx:sfx s k with _|⟨c,l⟩
   ·cases n with
    | zero=>rw[zc5,zbJ]
    | succ n=>
      rw[zc5,zbJ];cases n with
      | zero=>rw[tyF];rfl
      | succ n=>rw[tyF];rfl
   ·rw[zc5,if_neg (fun e=>hc ⟨l,by rw[hx,e]⟩)])
  clear hc
  go_enter Tryz.func151,Tryz.ntmps151
  go_wp2_with (go_at_call 136;(with_reducible refine HT.out.mono ?_);rintro e w1 ⟨rfl,nq,rfl⟩)
  go_loopg [9] (s.size-k) (fun g _ wr=>∃(k' m:Nat) (done:List Ty),k'≤s.size∧k≤k'∧k'+g=s.size∧2*(s.size-k')+1<m∧m≤n∧RdAt wr b s k' (max dd (d+zbS done))∧w.grownBy wr (some b)∧Hid (r=(zbJ m (sfx s k')).map (putL done)))
  case atStart=>exact⟨k,n,[],hk,zv0 _,by omega,by omega,zv0 _,by have:=H.out.drewN nq;rwa [show dd=max dd (d+zbS []) by simp[zbS];omega]at this,zay (zaK _ _) _,hM.out.trans (zue _)⟩
  case round=>
   obtain⟨k',m,done,hk1,hk2,hkg,hm1,hm2,hR,hg,hr⟩:=hrel;obtain⟨m,rfl⟩:∃m',m=m'+1:=⟨m-1,by omega⟩
   have HRd:=Hd (IH.out m (by omega) b k' (d+1) _ s wr hR hk1 (by omega) hs (by omega) (HK.out.grown hg hb) hb);have HG:=Hd hg;clear hR hg;rcases hty:tyF m (sfx s k') with _|⟨t,q⟩
   ·rw[hty]at HRd
    have hfin:=Hd (show r=none by rw[hr.out,zp8 hty];rfl);clear hty
    go_wp2_with (go_at_call 137;refine HRd.out.mono ?_;rintro e w2 ⟨⟨rfl,k2,d2,hT⟩,hg2⟩;have HT2:=Hd hT;have HG2:=Hd hg2;clear hT hg2)
    go_ret;exact zmN hfin.out HT2.out (zae HG.out HG2.out)
   ·rw[hty]at HRd
    obtain⟨hcode,hrt⟩:=(zcr m).1 _ _ _ hty;obtain⟨hq,hpos,hle,hql⟩:=zcQ hcode hk1;have hcp:=zb7 hrt;have HQ:=Hd (show r=(zsN m t q).map (putL done) by rw[hr.out,zp7 hty]);clear hty hcode hrt hr
    go_wp2_with (go_at_call 137;refine HRd.out.mono ?_)
    rintro e w2 ⟨⟨rfl,hT⟩,hg2⟩;rw[show max (max dd (d+zbS done)) (d+1+zaS t-1)=max dd (d+zbS (done++[t])) by rw[zfS];omega]at hT;obtain⟨k2,ek⟩:∃k2,k2=s.size-q.length:=⟨_,rfl⟩
    rw[← ek]at hT hq hpos;have HT2:=Hd hT;have HG2:=Hd (zae HG.out hg2);have hk2:k'+1≤k2:=by omega
    have hk3:k2≤s.size:=by omega
    clear hT hg2 hpos
    by_cases h41:∃l,q=41 :: l
    ·obtain⟨l,rfl⟩:=h41
     obtain⟨hlt,hb1,hr1⟩:=zbM hq;have HT3:=Hd (zhG 41 41 b k2 _ s w2 rfl HT2.out hlt hb1 hs');have hfin:=Hd (show r=some (done++[t],l) from HQ.out);have hle2:=Hd (show k2+1=s.size-l.length by simp only[List.length_cons]at hql ek;omega);clear hq hb1 hr1 ek hql
     go_wp2_with (go_at_call 136;refine HT3.out.mono ?_;rintro e w3 ⟨rfl,hT,hg⟩;have HT4:=Hd hT;have HG4:=Hd hg;clear hT hg)
     go_ret;exact zj6 hfin.out HT4.out hle2.out rfl (zae HG2.out HG4.out)
    ·have HN:=Hd (zrT 41 41 b k2 _ s w2 rfl HT2.out (by decide) (zeH (fun l e=>h41 ⟨l,by rw[← hq,e]⟩)))
     by_cases h44:∃l,q=44 :: l
     ·obtain⟨l,rfl⟩:=h44
      obtain⟨hlt,hb1,hr1⟩:=zbM hq;have hfin:=Hd (show r=(zbJ m (sfx s (k2+1))).map (putL (done++[t])) by rw[HQ.out,hr1];exact zsq done t _);have hlt2:=Hd hlt;have hb2:=Hd hb1;clear hq hb1 hr1 h41 ek hql
      go_wp2_with (go_at_call 136;(with_reducible refine HN.out.mono ?_);rintro e w3 ⟨rfl,nq,rfl⟩)
      refine(zhG 44 44 b k2 _ s _ rfl (HT2.out.drewN nq) hlt2.out hb2.out hs').mono ?_;rintro e w4 ⟨rfl,hT,hg⟩;have HT4:=Hd hT;have HG4:=Hd (zae (zay HG2.out nq) hg);clear hT hg
      go_wp2_with fail
      go_roundg (s.size-(k2+1))
      case measure=>omega
      case rel=>exact⟨k2+1,m,done++[t],by omega,by omega,by omega,by omega,by omega,HT4.out,HG4.out,hfin⟩
     ·have hfin:=Hd (show r=none by rw[HQ.out,zsM h41 h44];rfl)
      have HN2:=Hd (fun nq=>zrT 44 44 b k2 _ s (w2.drewN nq) rfl (HT2.out.drewN nq) (by decide) (zeH (fun l e=>h44 ⟨l,by rw[← hq,e]⟩)));clear hq h41 h44 ek hql
      go_wp2_with (go_at_call 136;(with_reducible refine HN.out.mono ?_);rintro e w3 ⟨rfl,nq,rfl⟩)
      refine(HN2.out nq).mono ?_;rintro e w4 ⟨rfl,nq2,rfl⟩
      go_wp2_with fail
      go_ret;exact zmN hfin.out (by first|exact(HT2.out.drewN _).drewN _|exact HT2.out.drewN _) (by first|exact zay (zay HG2.out _) _|exact zay HG2.out _)
set_option maxHeartbeats 1000000
theorem zbD {a b:ByteArray}:(a.toList == b.toList)=decide (a=b):=by
 rw[Bool.eq_iff_iff,beq_iff_eq,decide_eq_true_iff,Lib.toList_data,Lib.toList_data];exact⟨zaT,fun h=>by rw[h]⟩
theorem zhB (b c:Nat)(zs:List ByteArray)(s:ByteArray)(w:World)(hn:zs.length≤1048576)(hc:∀j,j<zs.length→w.cell? ⟨b,j,none⟩=some (.string (zs.getD j ByteArray.empty))) :
 Calls Tryz.prog 23 #[.slice (some ⟨b,0,none⟩) zs.length c,.string s] w fun e w'=>e=.returned (.bool (Lib.containsS zs s))∧w=w':=by
 have HC:=Hd hc;clear hc
 go_enter Tryz.func23,Tryz.ntmps23
 go_wp2
 go_loop [5] (fun i=>∃k:Nat,k≤zs.length∧i=.int .i64 k∧Hid (∀j,j<k→zs.getD j ByteArray.empty≠s)) (fun i=>zs.length-(intOf i).toNat)
 case atStart=>exact⟨0,Nat.zero_le _,rfl,fun j hj=>by omega⟩
 case round=>
  obtain⟨k,hk,rfl,hno⟩:=hrel
  by_cases hlt:k<zs.length
  ·have hcell:=HC.out k hlt
   obtain⟨z,ez⟩:∃z,z=zs.getD k ByteArray.empty:=⟨_,rfl⟩
   rw[← ez]at hcell;have EZ:=Hd ez;clear ez
   by_cases hz:z=s
   ·subst hz
    have hfin:=Hd (show Lib.containsS zs z=true by
     rw[Lib.containsS_iff,EZ.out,zeT _ _ hlt];exact zwb hlt)
    go_wp2
    go_ret;exact⟨by rw[hfin.out];rfl,rfl⟩
   ·have hb:(z.toList == s.toList)=false:=by rw[zbD];simpa using hz
    have hz':=Hd hz;clear hz
    go_wp2
    go_round
    case rel=>exact⟨k+1,by omega,by go_num,fun j hj=>by
     rcases Nat.lt_or_ge j k with h|h
     ·exact hno.out j h
     ·obtain rfl:j=k:=by omega
      rw[← EZ.out];exact hz'.out⟩
    case measure=>simp[intOf];omega
  ·obtain rfl:k=zs.length:=by omega
   have hfin:=Hd (show Lib.containsS zs s=false by
    rw[Bool.eq_false_iff];intro h;rw[Lib.containsS_iff]at h;obtain⟨j,hj,e⟩:=List.getElem_of_mem h
    exact hno.out j hj (by rw[zeT _ _ hj,e]))
   go_wp2
   go_ret;exact⟨by rw[hfin.out];rfl,rfl⟩
theorem zjr (c:UInt8)(w:World) :
 Calls Tryz.prog 121 #[.int .u8 (c.toNat:Int)] w fun e w'=>e=.returned (.bool (letB c))∧w'=w:=by
 go_enter Tryz.func121,Tryz.ntmps121
 go_wp2
 all_goals go_ret
 all_goals refine⟨zqo ?_,rfl⟩
 all_goals (simp;omega)
theorem zbQ (r:Bool)(c:UInt8)(w:World)(h:letB c=r):Calls Tryz.prog 121 #[.int .u8 (c.toNat:Int)] w fun e w'=>e=.returned (.bool r)∧w'=w:=by
 subst h;exact zjr c w
theorem zoY (s:ByteArray)(w:World) :
 Calls Tryz.prog 90 #[.string s] w fun e w'=>e=.returned (.bool (ziq s))∧Below w.heap.size w w':=by
 have hc:∀j,j<keyT.length→(w.alloc (.cells (keyT.map Value.string).toArray 9)).cell? ⟨w.heap.size,j,none⟩=some (.string (keyT.getD j ByteArray.empty)):=fun j hj=>by
  rw[World.cell?_alloc_at _ _ _ _ rfl];simp only[List.getElem?_toArray,List.getElem?_map,zv1 hj,zeT _ _ hj,Option.map_some]
 have HC:=Hd hc;clear hc
 go_enter Tryz.func90,Tryz.ntmps90
 go_wp2_with (go_at_call 23;refine(zhB w.heap.size keyT.length keyT s _ (by decide) HC.out).mono ?_;rintro e w' ⟨rfl,rfl⟩)
 go_ret;exact⟨rfl,(zv3 _ _).alloc (zv0 _) _⟩
def zck (s:ByteArray):Bool:=decide (0<s.size) && ((s.data.toList.head?.any letB) && decide (wlen s.data.toList=s.size))
theorem zo5 (l:List UInt8)(k:Nat)(hk:k<l.length)(h:k≤wlen l)(hb:zdK l[k]=true):k+1≤wlen l:=by
 rcases Nat.lt_or_ge k (wlen l) with h'|h'
 ·omega
 ·obtain rfl:k=wlen l:=by omega
  obtain⟨c,hc,hw⟩:=zo6 hk;rw[zv1 hk]at hc;simp only[Option.some.injEq]at hc;rw[hc,hw]at hb;cases hb
theorem zo4 (l:List UInt8)(k:Nat)(hk:k<l.length)(h:zdK l[k]=false):wlen l≤k:=by
 rcases Nat.lt_or_ge k (wlen l) with h'|h'
 ·obtain⟨c,hc,hw⟩:=zk9 h'
  rw[zv1 hk]at hc;simp only[Option.some.injEq]at hc;rw[hc]at h;rw[h]at hw;cases hw
 ·exact h'
theorem zhA (s:ByteArray)(w:World)(hs:s.size≤1048576) :
 Calls Tryz.prog 89 #[.string s] w fun e w'=>e=.returned (.bool (zck s))∧w=w':=by
 have hl:s.data.toList.length=s.size:=by rw[Array.length_toList];rfl
 have Hl:=Hd hl;clear hl
 by_cases h0:0<s.size
 ·have t1:s.toList.isEmpty=false:=by
   rw[Lib.toList_data,List.isEmpty_eq_false_iff];intro e;have:s.data.toList.length=0:=by rw[e];rfl
   have:=Hl.out;omega
  rcases hL:letB s[0] with _|_
  ·have hfin:=Hd (show zck s=false by simp[zck,zd3 s h0,hL])
   have HL:=Hd hL;clear hL
   go_enter Tryz.func89,Tryz.ntmps89
   go_wp2_with (go_at_call 121;refine(zbQ false _ _ HL.out).mono ?_;rintro e w' ⟨rfl,rfl⟩)
   go_ret;exact⟨by rw[hfin.out];rfl,rfl⟩
  ·have HL:=Hd hL
   clear hL
   go_enter Tryz.func89,Tryz.ntmps89
   go_wp2_with (go_at_call 121;refine(zbQ true _ _ HL.out).mono ?_;rintro e w' ⟨rfl,rfl⟩)
   go_loop [3] (fun i=>∃k:Nat,k≤s.size∧i=.int .i64 k∧Hid (k≤wlen s.data.toList)) (fun i=>s.size-(intOf i).toNat)
   case atStart=>exact⟨0,Nat.zero_le _,rfl,Nat.zero_le _⟩
   case round=>
    obtain⟨k,hk,rfl,hno⟩:=hrel
    by_cases hlt:k<s.size
    ·rcases hW:zdK s[k] with _|_
     ·have hfin:=Hd (show zck s=false by
       have:=zo4 s.data.toList k (by rw[Hl.out];exact hlt) hW
       simp[zck];intros;omega)
      have HL1:=Hd (show letB s[k]=false by simp[zdK]at hW;exact hW.1);have HD1:=Hd (show digB s[k]=false by simp[zdK]at hW;exact hW.2);clear hW
      go_wp2_with (go_at_call 121;refine(zbQ false _ _ HL1.out).mono ?_;rintro e w' ⟨rfl,rfl⟩)
      all_goals first
       | (go_ret;exact⟨by rw[hfin.out];rfl,rfl⟩)
       | (exfalso;have:=HD1.out;simp[digB]at this;omega)
     ·have HN:=Hd (zo5 s.data.toList k (by rw[Hl.out];exact hlt) hno.out hW)
      rcases hL:letB s[k] with _|_
      ·have HL1:=Hd hL
       have HD1:=Hd (show digB s[k]=true by simpa[zdK,hL] using hW);clear hW hL
       go_wp2_with (go_at_call 121;refine(zbQ false _ _ HL1.out).mono ?_;rintro e w' ⟨rfl,rfl⟩)
       all_goals first
        | (exfalso;have:=HD1.out;simp[digB]at this;omega)
        | (go_round
           case rel=>exact⟨k+1,by omega,by go_num,HN.out⟩
           case measure=>simp[intOf];omega)
      ·have HL1:=Hd hL
       clear hW hL
       go_wp2_with (go_at_call 121;refine(zbQ true _ _ HL1.out).mono ?_;rintro e w' ⟨rfl,rfl⟩)
       go_round
       case rel=>exact⟨k+1,by omega,by go_num,HN.out⟩
       case measure=>simp[intOf];omega
    ·obtain rfl:k=s.size:=by omega
     have hfin:=Hd (show zck s=true by
      have:=hno.out;have h2:=zla s.data.toList;have h3:=Hl.out
      simp[zck,zd3 s h0,HL.out,h0];omega)
     go_wp2
     go_ret;exact⟨by rw[hfin.out];rfl,rfl⟩
 ·have hfin:=Hd (show zck s=false by simp[zck,h0])
  have t1:s.toList.isEmpty=true:=by
   rw[Lib.toList_data,List.isEmpty_iff];apply List.eq_nil_of_length_eq_zero;have:=Hl.out;omega
  go_enter Tryz.func89,Tryz.ntmps89
  go_wp2_with fail
  all_goals go_ret
  all_goals exact⟨by rw[hfin.out];rfl,rfl⟩
theorem zfg (s:ByteArray):isNameB s=(decide (s.size≤31) && (zck s && !ziq s)):=by
 unfold isNameB zck;cases decide (0<s.size)<;>cases decide (s.size≤31)<;>cases (s.data.toList.head?.any letB)<;>cases decide (wlen s.data.toList=s.size)<;>rfl
theorem zmk (s:ByteArray)(w:World)(hs:s.size≤1048576) :
 Calls Tryz.prog 58 #[.string s] w fun e w'=>e=.returned (.bool (isNameB s))∧Below w.heap.size w w':=by
 by_cases h31:s.size≤31
 ·rcases hW:zck s with _|_
  ·have hfin:=Hd (show isNameB s=false by rw[zfg,hW];simp)
   have HW:=Hd hW;clear hW
   go_enter Tryz.func58,Tryz.ntmps58
   go_wp2_with (go_at_call 89;refine(zhA s _ hs).mono ?_;rintro e w' ⟨rfl,rfl⟩;rw[HW.out])
   go_ret;exact⟨by rw[hfin.out];rfl,zv3 _ _⟩
  ·have hfin:=Hd (show isNameB s=!ziq s by rw[zfg,hW];simp[h31])
   have HW:=Hd hW;clear hW
   go_enter Tryz.func58,Tryz.ntmps58
   go_wp2_with (go_at_call 89;refine(zhA s _ hs).mono ?_;rintro e w' ⟨rfl,rfl⟩;rw[HW.out])
   refine(zoY s _).mono ?_;rintro e w' ⟨rfl,hb⟩
   go_wp2
   go_ret;exact⟨by rw[hfin.out];rfl,hb⟩
 ·have hfin:=Hd (show isNameB s=false by rw[zfg];simp[h31])
  have t1:decide ((s.size:Int)≤31)=false:=by simp;omega
  go_enter Tryz.func58,Tryz.ntmps58
  go_wp2_with fail
  all_goals go_ret
  all_goals exact⟨by rw[hfin.out];rfl,zv3 _ _⟩
theorem zaZ (s:ByteArray)(w:World)(hK:KeysAt w) :
 Calls Tryz.prog 80 #[.string s] w fun e w'=>e=.returned (.bool (isNameB s))∧Below w.heap.size w w':=by
 by_cases h31:s.size≤31
 ·exact zks s w hK (by omega)
 ·have hfin:=Hd (show isNameB s=false by simp[isNameB,h31])
  have t1:decide ((s.size:Int)≤31)=false:=by simp;omega
  clear hK
  go_enter Tryz.func80,Tryz.ntmps80
  go_wp2_with fail
  all_goals go_ret
  all_goals exact⟨by rw[hfin.out];rfl,(zv3 _ _).alloc (zv0 _) _⟩
theorem zbI (s:ByteArray)(w:World) :
 Calls Tryz.prog 58 #[.string s] w fun e w'=>e=.returned (.bool (isNameB s))∧Below w.heap.size w w':=by
 by_cases h31:s.size≤31
 ·exact zmk s w (by omega)
 ·have hfin:=Hd (show isNameB s=false by rw[zfg];simp[h31])
  have t1:decide ((s.size:Int)≤31)=false:=by simp;omega
  go_enter Tryz.func58,Tryz.ntmps58
  go_wp2_with fail
  all_goals go_ret
  all_goals exact⟨by rw[hfin.out];rfl,zv3 _ _⟩
end Go.Proofs.YtbbaooeioogijaaGreatDoor
