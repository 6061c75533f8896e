/- A statement laid out: the program. -/
import Derived.Test.YtkokdafkjjcgoaaGreatDoorMg28
import Derived.Test.YtkokdafkjjcgoaaGreatDoorMg30
namespace Go.Proofs.YtkokdafkjjcgoaaGreatDoor
theorem stmt9_ok {pb:Nat} {a b:Option Addr} {cap capb:Nat} {t:List Nd} {fr:List Nat} (hR:Right9 t fr):∀ (m k:Nat),k < m → k < t.length → sK (kindAt t k) → Puts pb a t b fr 119 #[prV pb a t.length cap b fr.length capb,.int .i64 (k:Int)] (stmtN t fr k)
 | 0,k,hm,_,_=>by omega
 | m + 1,k,hm,hk,hs=>by
   have HXp:=Hd (fun (due:Int) p (hp:p ∈ partsAt t fr k) (he:exprK (kindAt t p) = true)=>part9_ok (cap:=cap) (capb:=capb) (pb:=pb) (a:=a) (b:=b) (by have:=hR.given.formed.parts_lt hp;omega) he (expr9_ok hR (p + 1) p (Nat.lt_succ_self p) (by have:=hR.given.formed.parts_lt hp;omega) he) due)
   have HSp:=Hd (fun p (hp:p ∈ partsAt t fr k) (he:sK (kindAt t p))=>stmt9_ok (cap:=cap) (capb:=capb) (pb:=pb) (a:=a) (b:=b) hR m p (by have:=hR.given.formed.parts_lt hp;omega) (by have:=hR.given.formed.parts_lt hp;omega) he)
   have hc:20 ≤ kindAt t k ∧ kindAt t k ≤ 33:=by
    rcases hs with h | h | h
    ·have:=stmtK_iff.1 h;omega
    ·omega
    ·omega
   by_cases h1:kindAt t k = 33 ∨ kindAt t k = 20 ∨ kindAt t k = 21 ∨ kindAt t k = 22
   ·exact stmt9_a hR k hk h1 HXp HSp
   by_cases h2:kindAt t k = 23 ∨ kindAt t k = 24 ∨ kindAt t k = 27
   ·exact stmt9_b hR k hk h2 HXp HSp
   by_cases h3:kindAt t k = 25 ∨ kindAt t k = 26
   ·exact stmt9_c hR k hk h3 HXp HSp
   ·exact stmt9_d hR k hk (by omega) HXp HSp
end Go.Proofs.YtkokdafkjjcgoaaGreatDoor
namespace Go.Proofs.YtkokdafkjjcgoaaGreatDoor
open Go.RowKit
def tkV:Tok:=tkK ⟨#[118,111,108,97,116,105,108,101]⟩
def memT (m:ByteArray × ByteArray):List Tok:=declK m.2 m.1 ++ [tkM ⟨#[59]⟩]
def structT (s:Sr):List Tok:=tkK ⟨#[115,116,114,117,99,116]⟩ :: tkN s.name :: tkM ⟨#[123]⟩ :: (s.mems.flatMap memT ++ [tkM ⟨#[125]⟩,tkM ⟨#[59]⟩])
def parF (l:List VrU) (n:Nat):List Tok:=(List.range n).flatMap fun i=>(if 0 < i then [tkM ⟨#[44]⟩] else []) ++ match l[i]? with
 | some v=>(if v.vol = true then [tkV] else []) ++ declK v.type v.name
 | none=>[]
def paramsT (l:List VrU):List Tok:=tkM ⟨#[40]⟩ :: (parF l l.length ++ ((if l.length = 0 then [tkK ⟨#[118,111,105,100]⟩] else []) ++ [tkM ⟨#[41]⟩]))
theorem parF_next (l:List VrU) (n:Nat):parF l (n + 1) = parF l n ++ ((if 0 < n then [tkM ⟨#[44]⟩] else []) ++ match l[n]? with
 | some v=>(if v.vol = true then [tkV] else []) ++ declK v.type v.name
 | none=>[]):=by
 unfold parF
 rw [List.range_succ,List.flatMap_append]
 simp
theorem parF_le (l:List VrU) (i:Nat):∀ n,i ≤ n → (parF l i).length ≤ (parF l n).length
 | 0,h=>by obtain rfl:i = 0:=by omega
           exact Nat.le_refl _
 | n + 1,h=>by
   rcases Nat.lt_or_ge n i with h1 | h1
   ·obtain rfl:i = n + 1:=by omega
    exact Nat.le_refl _
   ·rw [parF_next,List.length_append]
    have:=parF_le l i n h1
    omega
theorem flat_take_le {α β:Type} (f:α → List β) (l:List α) (i:Nat):((l.take i).flatMap f).length ≤ (l.flatMap f).length:=by
 conv=>rhs;rw [← List.take_append_drop i l,List.flatMap_append,List.length_append]
 omega
theorem put3_ok (pb:Nat) (W:List ByteArray) (s r q:ByteArray) (w:World) (hP:PapAt pb W w) (hn:W.length + 2 < 1000000000000) :
 Calls Tryz.prog 96 #[.pointer (some ⟨pb,0,none⟩),.slice (some ⟨w.heap.size,0,none⟩) 3 3] (w.alloc (.cells #[.string s,.string r,.string q] 9)) (PutEnd pb (W ++ [s,r,q]) w):=
 (pput_ok pb W [s,r,q] w.heap.size 0 3 _ (hP.below (ba1 _ _)) (fun j u hu=>by
   have h:=(three_blockP (heap_alloc_new w (.cells #[.string s,.string r,.string q] 9))).1
   match j,hu with
   | 0,hu=>obtain rfl:=Option.some.inj hu;exact h.1
   | 1,hu=>obtain rfl:=Option.some.inj hu;exact h.2.1
   | 2,hu=>obtain rfl:=Option.some.inj hu;exact h.2.2) (by simp) (by simp;omega)).mono fun _ _ h=>putEnd_then h (ba1 _ _) hP.lt
structure UnSt (pb bx:Nat) (cs:Array Value) (T:TypeId) (w0:World) (W:List ByteArray) (w:World):Prop where
 pap:PapAt pb W w
 env:EnvB pb w
 box:w.heap[bx]? = some (.cells cs T (0,0))
 safe:SafeB pb w bx
 keep:KeepP pb w0 w
section
variable {pb bx:Nat} {cs:Array Value} {T:TypeId} {w0 w w':World} {W W':List ByteArray}
theorem UnSt.put {e:Ending} (h:UnSt pb bx cs T w0 W w) (h':PutEnd pb W' w e w'):UnSt pb bx cs T w0 W' w':=
 ⟨h'.2.1,h.env.kept h.pap.lt h.pap.rowOk h'.2.2,h.safe.obj h.pap.rowOk h'.2.2 h.box,h.safe.kept h.pap.rowOk h'.2.2,h.keep.trans h'.2.2⟩
theorem UnSt.below (h:UnSt pb bx cs T w0 W w) (hb:Below w.heap.size w w'):UnSt pb bx cs T w0 W w':=
 have hk:=KeepP.of_below (bn:=pb) hb h.pap.lt
 ⟨h.pap.below hb,h.env.kept h.pap.lt h.pap.rowOk hk,h.safe.obj h.pap.rowOk hk h.box,h.safe.kept h.pap.rowOk hk,h.keep.trans hk⟩
theorem UnSt.end_ (h:UnSt pb bx cs T w0 W w):PutEnd pb W w0 (.returned (.tuple #[])) w:=⟨rfl,h.pap,h.keep⟩
theorem UnSt.start {w1:World} (hP:PapAt pb W w) (hE:EnvB pb w) (h:w.alloc (.cells cs T) = w1):UnSt pb w.heap.size cs T w W w1:=by
 obtain ⟨hx,hb⟩:=alloc_at h
 have hk:=KeepP.of_below (bn:=pb) hb hP.lt
 exact ⟨hP.below hb,hE.kept hP.lt hP.rowOk hk,hx,.new hP.rowOk hP.lt hb (Nat.le_refl _) (lt_of_heap hx),hk⟩
theorem UnSt.put1 (h:UnSt pb bx cs T w0 W w) (s:ByteArray) (hn:W.length < 1000000000000):Calls Tryz.prog 96 #[.pointer (some ⟨pb,0,none⟩),.slice (some ⟨w.heap.size,0,none⟩) 1 1] (w.alloc (.cells #[.string s] 9)) fun e w'=>e = .returned (.tuple #[]) ∧ UnSt pb bx cs T w0 (W ++ [s]) w':=
 (put1_ok pb W s w h.pap hn).mono fun _ _ h'=>⟨h'.1,h.put h'⟩
theorem UnSt.put2 (h:UnSt pb bx cs T w0 W w) (s r:ByteArray) (hn:W.length + 1 < 1000000000000):Calls Tryz.prog 96 #[.pointer (some ⟨pb,0,none⟩),.slice (some ⟨w.heap.size,0,none⟩) 2 2] (w.alloc (.cells #[.string s,.string r] 9)) fun e w'=>e = .returned (.tuple #[]) ∧ UnSt pb bx cs T w0 (W ++ [s,r]) w':=
 (put2_ok pb W s r w h.pap hn).mono fun _ _ h'=>⟨h'.1,h.put h'⟩
theorem UnSt.put3 (h:UnSt pb bx cs T w0 W w) (s r q:ByteArray) (hn:W.length + 2 < 1000000000000):Calls Tryz.prog 96 #[.pointer (some ⟨pb,0,none⟩),.slice (some ⟨w.heap.size,0,none⟩) 3 3] (w.alloc (.cells #[.string s,.string r,.string q] 9)) fun e w'=>e = .returned (.tuple #[]) ∧ UnSt pb bx cs T w0 (W ++ [s,r,q]) w':=
 (put3_ok pb W s r q w h.pap hn).mono fun _ _ h'=>⟨h'.1,h.put h'⟩
theorem UnSt.decl (h:UnSt pb bx cs T w0 W w) (s n:ByteArray) (hn:W.length + (declK s n).length < 1000000000000):Calls Tryz.prog 114 #[.pointer (some ⟨pb,0,none⟩),.string s,.string n] w fun e w'=>e = .returned (.tuple #[]) ∧ UnSt pb bx cs T w0 (W ++ (declK s n).map wordV) w':=
 (declared9_ok pb W s n w h.pap h.env hn).mono fun _ _ h'=>⟨h'.1,h.put h'⟩
end
set_option maxRecDepth 100000 in
set_option maxHeartbeats 4000000 in
theorem structure9_ok (pb:Nat) (W:List ByteArray) (s:Sr) (v:Value) (w:World) (hP:PapAt pb W w) (hE:EnvB pb w) (hM:IsMems pb w v s.mems) (hl:s.mems.length ≤ 1000000) (hn:W.length + (structT s).length < 1000000000000) :
 Calls Tryz.prog 64 #[.pointer (some ⟨pb,0,none⟩),.agg #[.string s.name,v]] w (PutEnd pb (W ++ (structT s).map wordV) w):=by
 have HS0:=Hd (fun w1 h=>UnSt.start (cs:=#[.string s.name,v]) (T:=114) (w1:=w1) hP hE h)
 obtain ⟨a,cap,hv,hrow⟩:=hM
 subst hv
 have HM:=Hd (fun w1 (hk:KeepP pb w w1) i (hi:i < s.mems.length)=>(show ∃ b off,a = some ⟨b,off,none⟩ ∧ w1.cell? ⟨b,off + i * 2,none⟩ = some (.string s.mems[i].1) ∧ w1.cell? ⟨b,off + i * 2 + 1,none⟩ = some (.string s.mems[i].2) from by
  obtain ⟨b,off,e,hlt,hr⟩:=hrow (fun e=>by rw [e] at hi;simp at hi)
  have h1:=hr i s.mems[i] (List.getElem?_eq_getElem hi)
  exact ⟨b,off,e,(hk.below.cell hlt).trans h1.1,(hk.below.cell hlt).trans h1.2⟩))
 unfold structT at hn ⊢
 clear hP hE hrow
 obtain ⟨nm,ms⟩:=s
 simp only [List.length_cons,List.length_append,List.length_nil] at hn hl HM HS0 ⊢
 have hli:(ms.length:Int) ≤ 1000000:=by omega
 go_enter Tryz.func64,Tryz.ntmps64
 go_upto_region 1 with fail
 generalize hg1:w.alloc _ = w1 at *
 have HS1:=Hd (HS0.out w1 rfl)
 clear hg1 HS0
 obtain ⟨⟨z0,z1⟩,_⟩:=two_block HS1.out.box
 go_upto_region 2 with (go_at_call 96;(refine (HS1.out.put3 _ _ _ (by omega)).mono ?_);rintro e w3 ⟨rfl,hs⟩;have HS2:=Hd hs;clear hs)
 obtain ⟨⟨z0,z1⟩,_⟩:=two_block HS2.out.box
 go_wp2_with fail
 go_loopg [14] ms.length (fun g v wr=>∃ i:Nat,i ≤ ms.length ∧ i + g = ms.length ∧ v = .int .i64 (i:Int) ∧ Hid (UnSt pb w.heap.size #[.string nm,.slice a ms.length cap] 114 w (W ++ [⟨#[115,116,114,117,99,116]⟩,nm,⟨#[123]⟩] ++ ((ms.take i).flatMap memT).map wordV) wr))
 case atStart=>exact ⟨0,Nat.zero_le _,by omega,rfl,Hd (by simpa using HS2.out)⟩
 case round=>
  obtain ⟨i,hi,hig,rfl,HSr⟩:=hrel
  have hle:=flat_take_le memT ms i
  by_cases hlt:i < ms.length
  ·obtain ⟨b,off,ha,c0,c1⟩:=HM.out wr HSr.out.keep i hlt
   subst ha
   have hle2:=flat_take_le memT ms (i + 1)
   have hx9:=List.take_succ_eq_append_getElem hlt
   have hf9:(ms.take (i + 1)).flatMap memT = (ms.take i).flatMap memT ++ (declK ms[i].2 ms[i].1 ++ [tkM ⟨#[59]⟩]):=by rw [hx9,List.flatMap_append];simp [memT]
   have hb9:=congrArg List.length hf9
   simp only [List.length_append,List.length_cons,List.length_nil] at hb9
   have HX9:=Hd hf9
   have hii:(i:Int) < (ms.length:Int):=by omega
   generalize ms[i] = m at *
   obtain ⟨m1,m2⟩:=m
   simp only at c0 c1 hb9 HX9
   clear hx9 hf9
   go_upto_region 5 with fail
   generalize hg4:wr.alloc _ = w4 at *
   obtain ⟨hx4,hb4⟩:=alloc_at hg4
   have HS4:=Hd (HSr.out.below hb4)
   obtain ⟨⟨y0,y1⟩,_⟩:=two_block hx4
   clear hg4 hx4 hb4
   go_wp2_with (first
    | (go_at_call 114;(refine (HS4.out.decl m2 m1 (by simp only [List.length_append,List.length_map,List.length_cons,List.length_nil];omega)).mono ?_);rintro e w5 ⟨rfl,hs⟩;have HS5:=Hd hs;clear hs)
    | (go_at_call 96;(refine (HS5.out.put1 _ (by simp only [List.length_append,List.length_map,List.length_cons,List.length_nil];omega)).mono ?_);rintro e w6 ⟨rfl,hs⟩;have HS6:=Hd hs;clear hs))
   go_roundg (ms.length - (i + 1))
   case measure=>omega
   case rel=>exact ⟨i + 1,by omega,by omega,by rw [Int.natCast_add];rfl,Hd (by rw [HX9.out];simpa [word_M] using HS6.out)⟩
  ·obtain rfl:i = ms.length:=by omega
   rw [List.take_length] at HSr
   go_wp2_with (go_at_call 96;(refine (HSr.out.put2 _ _ (by simp only [List.length_append,List.length_map,List.length_cons,List.length_nil];omega)).mono ?_);rintro e w5 ⟨rfl,hs⟩;have HS3:=Hd hs;clear hs)
   go_end0
   simpa [word_M,word_K,word_N] using HS3.out.end_
structure PaSt (pb:Nat) (w0:World) (W:List ByteArray) (w:World):Prop where
 pap:PapAt pb W w
 env:EnvB pb w
 keep:KeepP pb w0 w
section
variable {pb bx:Nat} {cs:Array Value} {T:TypeId} {w0 w w':World} {W W':List ByteArray}
theorem PaSt.put {e:Ending} (h:PaSt pb w0 W w) (h':PutEnd pb W' w e w'):PaSt pb w0 W' w':=⟨h'.2.1,h.env.kept h.pap.lt h.pap.rowOk h'.2.2,h.keep.trans h'.2.2⟩
theorem PaSt.below (h:PaSt pb w0 W w) (hb:Below w.heap.size w w'):PaSt pb w0 W w':=have hk:=KeepP.of_below (bn:=pb) hb h.pap.lt;⟨h.pap.below hb,h.env.kept h.pap.lt h.pap.rowOk hk,h.keep.trans hk⟩
theorem PaSt.end_ (h:PaSt pb w0 W w):PutEnd pb W w0 (.returned (.tuple #[])) w:=⟨rfl,h.pap,h.keep⟩
theorem PaSt.put1 (h:PaSt pb w0 W w) (s:ByteArray) (hn:W.length < 1000000000000):Calls Tryz.prog 96 #[.pointer (some ⟨pb,0,none⟩),.slice (some ⟨w.heap.size,0,none⟩) 1 1] (w.alloc (.cells #[.string s] 9)) fun e w'=>e = .returned (.tuple #[]) ∧ PaSt pb w0 (W ++ [s]) w':=
 (put1_ok pb W s w h.pap hn).mono fun _ _ h'=>⟨h'.1,h.put h'⟩
theorem UnSt.pa {w1:World} (h:UnSt pb bx cs T w1 W w) (hk:KeepP pb w0 w1):PaSt pb w0 W w:=⟨h.pap,h.env,hk.trans h.keep⟩
end
theorem vrs_low {B:Nat} {w:World} {v:Value} {L:List VrU} (h:IsVrs B w v L):∃ a cap,v = .slice a L.length cap ∧ ∀ w',Below B w w' → ∀ i (hi:i < L.length),∃ b off,a = some ⟨b,off,none⟩ ∧ w'.cell? ⟨b,off + i * 3,none⟩ = some (.string L[i].name) ∧ w'.cell? ⟨b,off + i * 3 + 1,none⟩ = some (.string L[i].type) ∧ w'.cell? ⟨b,off + i * 3 + 2,none⟩ = some (.bool L[i].vol):=by
 have h0:=h
 obtain ⟨a,cap,e,_,_⟩:=h0
 refine ⟨a,cap,e,fun w' hb i hi=>?_⟩
 obtain ⟨b,off,cap2,e2,hlt,_,c0,c1,c2⟩:=vrs_at h hi
 rw [e] at e2
 simp only [Value.slice.injEq] at e2
 exact ⟨b,off,e2.1,(hb.cell hlt).trans c0,(hb.cell hlt).trans c1,(hb.cell hlt).trans c2⟩
set_option maxRecDepth 100000 in
set_option maxHeartbeats 4000000 in
theorem params9_ok (pb:Nat) (W:List ByteArray) (L:List VrU) (v:Value) (w:World) (hP:PapAt pb W w) (hE:EnvB pb w) (hV:IsVrs pb w v L) (hl:L.length ≤ 1000000) (hn:W.length + (paramsT L).length < 1000000000000) :
 Calls Tryz.prog 118 #[.pointer (some ⟨pb,0,none⟩),v] w (PutEnd pb (W ++ (paramsT L).map wordV) w):=by
 have HS0:=Hd (PaSt.mk hP hE (KeepP.refl pb w))
 obtain ⟨a,cap,hv,hrow⟩:=vrs_low hV
 subst hv
 have HV:=Hd (fun w1 (hk:KeepP pb w w1) i hi=>hrow w1 hk.below i hi)
 unfold paramsT at hn ⊢
 have hli:(L.length:Int) ≤ 1000000:=by omega
 obtain ⟨VL,hVL⟩:∃ VL:List Tok,VL = (if L.length = 0 then [tkK ⟨#[118,111,105,100]⟩] else []):=⟨_,rfl⟩
 rw [← hVL] at hn ⊢
 simp only [List.length_cons,List.length_append,List.length_nil] at hn
 have HVL:=Hd hVL
 clear hP hE hV hrow hVL
 go_enter Tryz.func118,Tryz.ntmps118
 go_upto_region 1 with (go_at_call 96;(refine (HS0.out.put1 ⟨#[40]⟩ (by omega)).mono ?_);rintro e w3 ⟨rfl,hs⟩;have HS2:=Hd hs;clear hs)
 go_wp2_with fail
 go_loopg [11] L.length (fun g v wr=>∃ i:Nat,i ≤ L.length ∧ i + g = L.length ∧ v = .int .i64 (i:Int) ∧ Hid (PaSt pb w (W ++ [⟨#[40]⟩] ++ (parF L i).map wordV) wr))
 case atStart=>exact ⟨0,Nat.zero_le _,by omega,rfl,Hd (by simpa [parF] using HS2.out)⟩
 case round=>
  obtain ⟨i,hi,hig,rfl,HSr⟩:=hrel
  have hle:=parF_le L i L.length hi
  by_cases hlt:i < L.length
  ·obtain ⟨b,off,ha,c0,c1,c2⟩:=HV.out wr HSr.out.keep i hlt
   subst ha
   have hle2:=parF_le L (i + 1) L.length hlt
   have hx9:=parF_next L i
   rw [List.getElem?_eq_getElem hlt] at hx9
   simp only at hx9
   have hb9:=congrArg List.length hx9
   simp only [List.length_append] at hb9
   have HX9:=Hd hx9
   have hii:(i:Int) < (L.length:Int):=by omega
   generalize L[i] = q at *
   obtain ⟨q1,q2,q3⟩:=q
   simp only at c0 c1 c2 hb9 HX9
   clear hx9
   go_upto_region 4 with fail
   generalize hg4:wr.alloc _ = w4 at *
   have HS4:=Hd (UnSt.start HSr.out.pap HSr.out.env hg4)
   obtain ⟨⟨y0,y1,y2⟩,_⟩:=three_blockP HS4.out.box
   clear hg4
   by_cases h0:0 < i
   ·have t1:decide ((0:Int) < (i:Int)) = true:=decide_eq_true (by omega)
    rw [if_pos h0] at HX9 hb9
    simp only [List.length_singleton] at hb9
    cases q3 with
    | false=>
      rw [if_neg (by decide)] at HX9 hb9
      simp only [List.length_nil] at hb9
      go_upto_region 6 with (go_at_call 96;(refine (HS4.out.put1 _ (by simp only [List.length_append,List.length_map,List.length_cons,List.length_nil];omega)).mono ?_);rintro e w5 ⟨rfl,hs⟩;have HS5:=Hd hs;clear hs)
      obtain ⟨⟨y0,y1,y2⟩,_⟩:=three_blockP HS5.out.box
      go_wp2_with (go_at_call 114;(refine (HS5.out.decl q2 q1 (by simp only [List.length_append,List.length_map,List.length_cons,List.length_nil];omega)).mono ?_);rintro e w7 ⟨rfl,hs⟩;have HS7:=Hd hs;clear hs)
      go_roundg (L.length - (i + 1))
      case measure=>omega
      case rel=>exact ⟨i + 1,by omega,by omega,by rw [Int.natCast_add];rfl,Hd (by rw [HX9.out];simpa [word_M,word_K,tkV] using HS7.out.pa HSr.out.keep)⟩
    | true=>
      rw [if_pos rfl] at HX9 hb9
      simp only [List.length_singleton] at hb9
      go_upto_region 6 with (go_at_call 96;(refine (HS4.out.put1 _ (by simp only [List.length_append,List.length_map,List.length_cons,List.length_nil];omega)).mono ?_);rintro e w5 ⟨rfl,hs⟩;have HS5:=Hd hs;clear hs)
      obtain ⟨⟨y0,y1,y2⟩,_⟩:=three_blockP HS5.out.box
      go_upto_region 8 with (go_at_call 96;(refine (HS5.out.put1 _ (by simp only [List.length_append,List.length_map,List.length_cons,List.length_nil];omega)).mono ?_);rintro e w6 ⟨rfl,hs⟩;have HS6:=Hd hs;clear hs)
      obtain ⟨⟨y0,y1,y2⟩,_⟩:=three_blockP HS6.out.box
      go_wp2_with (go_at_call 114;(refine (HS6.out.decl q2 q1 (by simp only [List.length_append,List.length_map,List.length_cons,List.length_nil];omega)).mono ?_);rintro e w7 ⟨rfl,hs⟩;have HS7:=Hd hs;clear hs)
      go_roundg (L.length - (i + 1))
      case measure=>omega
      case rel=>exact ⟨i + 1,by omega,by omega,by rw [Int.natCast_add];rfl,Hd (by rw [HX9.out];simpa [word_M,word_K,tkV] using HS7.out.pa HSr.out.keep)⟩
   ·have t1:decide ((0:Int) < (i:Int)) = false:=decide_eq_false (by omega)
    rw [if_neg h0] at HX9 hb9
    simp only [List.length_nil] at hb9
    cases q3 with
    | false=>
      rw [if_neg (by decide)] at HX9 hb9
      simp only [List.length_nil] at hb9
      go_wp2_with (go_at_call 114;(refine (HS4.out.decl q2 q1 (by simp only [List.length_append,List.length_map,List.length_cons,List.length_nil];omega)).mono ?_);rintro e w7 ⟨rfl,hs⟩;have HS7:=Hd hs;clear hs)
      go_roundg (L.length - (i + 1))
      case measure=>omega
      case rel=>exact ⟨i + 1,by omega,by omega,by rw [Int.natCast_add];rfl,Hd (by rw [HX9.out];simpa [word_M,word_K,tkV] using HS7.out.pa HSr.out.keep)⟩
    | true=>
      rw [if_pos rfl] at HX9 hb9
      simp only [List.length_singleton] at hb9
      go_upto_region 8 with (go_at_call 96;(refine (HS4.out.put1 _ (by simp only [List.length_append,List.length_map,List.length_cons,List.length_nil];omega)).mono ?_);rintro e w6 ⟨rfl,hs⟩;have HS6:=Hd hs;clear hs)
      obtain ⟨⟨y0,y1,y2⟩,_⟩:=three_blockP HS6.out.box
      go_wp2_with (go_at_call 114;(refine (HS6.out.decl q2 q1 (by simp only [List.length_append,List.length_map,List.length_cons,List.length_nil];omega)).mono ?_);rintro e w7 ⟨rfl,hs⟩;have HS7:=Hd hs;clear hs)
      go_roundg (L.length - (i + 1))
      case measure=>omega
      case rel=>exact ⟨i + 1,by omega,by omega,by rw [Int.natCast_add];rfl,Hd (by rw [HX9.out];simpa [word_M,word_K,tkV] using HS7.out.pa HSr.out.keep)⟩
  ·obtain rfl:i = L.length:=by omega
   by_cases h0:L.length = 0
   ·have t1:((L.length:Int) == 0) = true:=by rw [beq_iff_eq];omega
    have hvl:=HVL.out
    rw [if_pos h0] at hvl
    subst hvl
    simp only [List.length_singleton] at hn
    clear h0
    go_upto_region 12 with (go_at_call 96;(refine (HSr.out.put1 ⟨#[118,111,105,100]⟩ (by simp only [List.length_append,List.length_map,List.length_cons,List.length_nil];omega)).mono ?_);rintro e w5 ⟨rfl,hs⟩;have HS5:=Hd hs;clear hs)
    go_wp2_with (go_at_call 96;(refine (HS5.out.put1 ⟨#[41]⟩ (by simp only [List.length_append,List.length_map,List.length_cons,List.length_nil];omega)).mono ?_);rintro e w6 ⟨rfl,hs⟩;have HS6:=Hd hs;clear hs)
    go_end0
    simpa [word_M,word_K] using HS6.out.end_
   ·have t1:((L.length:Int) == 0) = false:=by rw [beq_eq_false_iff_ne];omega
    have hvl:=HVL.out
    rw [if_neg h0] at hvl
    subst hvl
    simp only [List.length_nil] at hn
    clear h0
    go_wp2_with (go_at_call 96;(refine (HSr.out.put1 ⟨#[41]⟩ (by simp only [List.length_append,List.length_map,List.length_cons,List.length_nil];omega)).mono ?_);rintro e w6 ⟨rfl,hs⟩;have HS6:=Hd hs;clear hs)
    go_end0
    simpa [word_M,word_K] using HS6.out.end_
def laidW (L:List Tok):ByteArray:=⟨(Lib.join (L.map wordL) [32]).toArray⟩
def printXR (t:List Nd):ByteArray × Int:=
 if checkN9 t ≠ 0 then (⟨#[]⟩,checkN9 t)
 else if exprK (kindAt t (t.length - 1)) = false then (⟨#[]⟩,5)
 else if (laidW (exprN t ((beginsN t).getD []) (t.length - 1))).size ≤ 65536 then (laidW (exprN t ((beginsN t).getD []) (t.length - 1)),0) else (⟨#[]⟩,3)
theorem printXR_bad {t:List Nd} (h:checkN9 t ≠ 0):printXR t = (⟨#[]⟩,checkN9 t):=by unfold printXR;rw [if_pos h]
theorem printXR_kind {t:List Nd} (h:checkN9 t = 0) (h2:exprK (kindAt t (t.length - 1)) = false):printXR t = (⟨#[]⟩,5):=by unfold printXR;rw [if_neg (by rw [h];decide),if_pos h2]
theorem printXR_yes {t:List Nd} {fr:List Nat} (h:checkN9 t = 0) (h2:exprK (kindAt t (t.length - 1)) = true) (hb:beginsN t = some fr):printXR t = if (laidW (exprN t fr (t.length - 1))).size ≤ 65536 then (laidW (exprN t fr (t.length - 1)),0) else (⟨#[]⟩,3):=by
 unfold printXR
 rw [if_neg (by rw [h];decide),if_neg (by rw [h2];decide),hb]
 rfl
theorem join_paper {B:Nat} {w:World} {v:Value} {L:List Tok} (ho:w.ownsRow B 9 1 v L.length (L.map fun t=>Value.string (wordV t))) (hn:(Lib.join (L.map wordL) [32]).length ≤ 140737488355328) (hl:L.length ≤ 140737488355328) :
 Calls Tryz.prog 103 #[v,.string ⟨#[32]⟩] w fun e w'=>e = .returned (.string (laidW L)) ∧ Below w.heap.size w w':=by
 rcases ho.2 with ⟨rfl,h0⟩ | ⟨g,cap,cur,rfl,_,hgb,hcap,_,_,htk⟩
 ·obtain rfl:L = []:=List.eq_nil_of_length_eq_zero h0
  exact (Tryz.strings_Join_none none 0 _ w).mono fun _ _ ⟨he,hw⟩=>⟨he,by rw [hw];exact Below.refl _ _⟩
 ·have hj:=Tryz.strings_Join g 0 cap (L.map wordV) ⟨#[32]⟩ w (fun j x hx=>by
   have h:=ho.cells (g:=g) rfl j (.string x) (by
    rw [List.getElem?_map] at hx ⊢
    obtain ⟨t,ht,rfl⟩:=Option.map_eq_some_iff.1 hx
    rw [ht];rfl)
   rw [addr_add] at h
   rw [Nat.zero_add];exact h) (lt_of_heap hgb) (by rw [List.length_map];omega) (by rw [List.length_map];exact hcap) (by
   have e:(L.map wordV).map (fun s=>s.data.toList) = L.map wordL:=by rw [List.map_map];rfl
   rw [e]
   show (Lib.join (L.map wordL) [32]).length ≤ _
   omega)
  have e:(L.map wordV).map (fun s=>s.data.toList) = L.map wordL:=by rw [List.map_map];rfl
  rw [List.length_map] at hj
  rw [e] at hj
  exact hj
theorem text_ok {pb:Nat} {L:List Tok} {w:World} (hP:PapAt pb (L.map wordV) w) (hn:(Lib.join (L.map wordL) [32]).length ≤ 140737488355328) (hl:L.length ≤ 140737488355328) :
 Calls Tryz.prog 54 #[.pointer (some ⟨pb,0,none⟩)] w fun e w'=>e = .returned (.string (laidW L)) ∧ Below w.heap.size w w':=by
 obtain ⟨v,hb,ho⟩:=hP.box
 rw [List.length_map,List.map_map] at ho
 have HJ:=Hd (join_paper (L:=L) ho hn hl)
 obtain ⟨c0,f0⟩:=one_blockP hb
 clear hP ho hb
 go_enter Tryz.func54,Tryz.ntmps54
 go_wp2_with (go_at_call 103;(with_reducible refine HJ.out.mono ?_);rintro e w1 ⟨rfl,hb1⟩)
 go_ret
 exact ⟨rfl,hb1⟩
structure EnvP (w:World):Prop where
 env:Env w
 pow:PowAt w
 lt:3 < w.heap.size
theorem EnvP.below {w w':World} (h:EnvP w) (hb:Below w.heap.size w w'):EnvP w':=⟨h.env.below hb,h.pow.below hb h.lt,Nat.lt_of_lt_of_le h.lt hb.size⟩
theorem EnvP.tp {w:World} (h:EnvP w):TP w:=⟨⟨h.env.keys,h.env.maxl⟩,h.pow,h.lt⟩
theorem EnvP.under {w w':World} (h:EnvP w) (hb:Below w.heap.size w w'):EnvB w.heap.size w':=by
 have h':=h.below hb
 refine ⟨h'.env,h'.pow,World.block_lt_of_cell? w _ (h.env.keys 0 (by decide)),World.block_lt_of_cell? w _ (h.env.marks 0 (by decide)),?_,?_,?_,h.lt⟩
 ·obtain ⟨⟨x,x1,_⟩,y,y1,_⟩:=h.env.errs
  exact World.block_lt_of_cell? w _ x1
 ·obtain ⟨⟨x,x1,_⟩,y,y1,_⟩:=h.env.errs
  exact World.block_lt_of_cell? w _ y1
 ·obtain ⟨m,hm⟩:=h.env.maxl
  exact World.block_lt_of_cell? w _ hm
theorem pap_new {w w1:World} (h:w.alloc (.cells #[.slice none 0 0] 99) = w1):PapAt w.heap.size [] w1:=⟨_,(alloc_at h).1,rfl,.inl ⟨rfl,rfl⟩⟩
theorem set_threeP {w:World} {b:Nat} {a0 a1 a2:Value} {T:TypeId} (h:w.heap[b]? = some (.cells #[a0,a1,a2] T (0,0))) (v0 v1 v2:Value):(((w.setCell ⟨b,0,none⟩ v0).setCell ⟨b,1,none⟩ v1).setCell ⟨b,2,none⟩ v2).heap[b]? = some (.cells #[v0,v1,v2] T (0,0)):=by
 simp [World.setCell,Array.getElem?_modify,h]
set_option maxRecDepth 100000 in
set_option maxHeartbeats 4000000 in
theorem on_ok (pb:Nat) (a:Option Addr) (cap:Nat) (t:List Nd) (fr:List Nat) (w:World) (hbe:beginsN t = some fr) (hI:IsNds w.heap.size w a t) (hl:t.length ≤ 4096) (hOk:∀ x ∈ t,NdOk x) :
 Calls Tryz.prog 52 #[.pointer (some ⟨pb,0,none⟩),.slice a t.length cap] w fun e w'=>∃ b capb,e = .returned (prV pb a t.length cap b fr.length capb) ∧ IsNats w'.heap.size w' b fr ∧ (∀ bb off,b = some ⟨bb,off,none⟩ → w.heap.size ≤ bb) ∧ Below w.heap.size w w':=by
 have HB:=Hd (fun w1 (hb:Below w.heap.size w w1)=>begins_ok a cap t w1 ((hI.below hb (Nat.le_refl _)).mono hb.size) hl hOk)
 have HBe:=Hd hbe
 clear hI hOk hbe
 go_enter Tryz.func52,Tryz.ntmps52
 go_upto_region 1 with fail
 generalize hg1:w.alloc _ = w1 at *
 obtain ⟨hx1,hb1⟩:=alloc_at hg1
 have hs1:w1.heap.size = w.heap.size + 1:=by rw [← hg1];simp
 have HB1:=Hd hb1
 have HX1:=Hd hx1
 clear hg1 hx1 hb1
 go_upto_region 2 with (go_at_call 80;(with_reducible refine (HB.out _ HB1.out).mono ?_);rintro e w2 ⟨⟨v,ok,rfl,hok,hrow⟩,hb2⟩;have hok2:ok = true:=(by rw [hok,HBe.out];rfl);clear hok;subst hok2;obtain ⟨fr2,hfr,hrow⟩:=hrow rfl;obtain rfl:=Option.some.inj (HBe.out.symm.trans hfr);obtain ⟨b,capb,rfl,hpc,hN,hf⟩:=natRow_open hrow;have HB2:=Hd hb2;have HN:=Hd (And.intro hN hf);clear hb2 hrow hN hf hfr hpc)
 have hx2:=(HB2.out.block _ (lt_of_heap HX1.out)).trans HX1.out
 obtain ⟨⟨q0,q1,q2⟩,qf⟩:=three_blockP hx2
 have qf0:=qf 0
 have qf1:=qf 1
 have qf2:=qf 2
 have hx3:=set_threeP hx2 (.pointer (some ⟨pb,0,none⟩)) (.slice a t.length cap) (.slice b fr.length capb)
 have hB3:=(((HB1.out.trans (HB2.out.mono HB1.out.size)).setCell (p:=⟨w.heap.size,0,none⟩) (Nat.le_refl _) (.pointer (some ⟨pb,0,none⟩))).setCell (p:=⟨w.heap.size,1,none⟩) (Nat.le_refl _) (.slice a t.length cap)).setCell (p:=⟨w.heap.size,2,none⟩) (Nat.le_refl _) (.slice b fr.length capb)
 have hfar:∀ bb off,b = some ⟨bb,off,none⟩ → bb ≠ w.heap.size:=fun bb off e=>by have:=HN.out.2 bb off e;omega
 have hN3:=nats_set (o:=2) (u:=.slice b fr.length capb) (nats_set (o:=1) (u:=.slice a t.length cap) (nats_set (o:=0) (u:=.pointer (some ⟨pb,0,none⟩)) HN.out.1 hfar) hfar) hfar
 have HX3:=Hd hx3
 have HB3:=Hd hB3
 have HN3:=Hd hN3
 clear hx2 hx3 hB3 hN3 qf
 go_wp2_with fail
 obtain ⟨⟨d0,d1,d2⟩,_⟩:=three_blockP HX3.out
 refine bodyPost_ret (v:=prV pb a t.length cap b fr.length capb) (by simp [results,Tryz.results52,go_sem,d0,d1,d2]) rfl ⟨b,capb,rfl,?_,fun bb off e=>?_,HB3.out⟩
 ·simpa using HN3.out
 ·have:=HN.out.2 bb off e
  omega
def StrEnd (r:ByteArray × Int) (w:World) (e:Ending) (w':World):Prop:=e = .returned (.tuple #[.string r.1,.int .i64 r.2]) ∧ Below w.heap.size w w'
theorem strEnd {r:ByteArray × Int} {s:ByteArray} {c:Int} {w w':World} (h:r = (s,c)) (hb:Below w.heap.size w w'):StrEnd r w (.returned (.tuple #[.string s,.int .i64 c])) w':=⟨by rw [h],hb⟩
set_option maxRecDepth 100000 in
set_option maxHeartbeats 4000000 in
theorem treePrintX_ok (a:Option Addr) (cap:Nat) (t:List Nd) (w:World) (hE:EnvP w) (hI:IsNds w.heap.size w a t) (hOk:∀ x ∈ t,NdOk x) (hz:t.length * 64 ≤ 140737488351232) :
 Calls Tryz.prog 27 #[.slice a t.length cap] w (StrEnd (printXR t) w):=by
 have HC:=Hd (treeCheck_ok a cap t w hE.tp.te hI hOk hz)
 by_cases h:checkN9 t = 0
 ·obtain ⟨fr,hR⟩:=check_right h
  rw [h] at HC
  obtain ⟨k,hk⟩:∃ k,t.length = k + 1:=⟨t.length - 1,by have:=hR.given.formed.pos;omega⟩
  have hkl:k < t.length:=by omega
  have hk1:(t.length:Int) - 1 = (k:Int):=by omega
  have hk2:t.length - 1 = k:=by omega
  have hle:=hR.given.le
  have HNd:=Hd (fun w1 (hb:Below w.heap.size w w1)=>nds_at ((hI.below hb (Nat.le_refl _)).mono hb.size) hkl)
  have HEx:=Hd (fun x w=>expr_ok x w)
  have hkd:kindAt t k = t[k].kind:=by unfold kindAt;rw [List.getElem?_eq_getElem hkl];rfl
  cases he:exprK (kindAt t k) with
  | false=>
    have hv:=Hd (printXR_kind h (by rw [hk2];exact he))
    rw [hkd] at he
    have HX:=Hd (HEx.out t[k].kind)
    rw [he] at HX
    clear he hkd h hR hE hI hOk HEx hk2 hk
    generalize t[k] = x at *
    go_enter Tryz.func27,Tryz.ntmps27
    go_upto_region 4 with (go_at_call 10;(with_reducible refine HC.out.mono ?_);rintro e w1 ⟨rfl,hb⟩;have HB:=Hd hb;clear hb)
    obtain ⟨bb,oo,ha,hbl,x0,_⟩:=HNd.out w1 HB.out
    subst ha
    go_wp2_with (go_at_call 51;(with_reducible refine (HX.out _).mono ?_);rintro e w2 ⟨rfl,hw⟩;subst w2)
    go_ret2
    exact strEnd hv.out HB.out
  | true=>
    have hv:=Hd (printXR_yes h (by rw [hk2];exact he) hR.begins)
    have hgd:=exprN_good hR (k + 1) k (Nat.lt_succ_self k) hkl he
    have hsh:=exprN_short hR hkl
    have HPr:=Hd (fun pb b capb=>expr9_ok (pb:=pb) (a:=a) (b:=b) (cap:=cap) (capb:=capb) hR (k + 1) k (Nat.lt_succ_self k) hkl he)
    have HOn:=Hd (fun pb w2 (hb:Below w.heap.size w w2)=>on_ok pb a cap t fr w2 hR.begins ((hI.below hb (Nat.le_refl _)).mono hb.size) hle hOk)
    have HIs:=Hd (fun w2 (hb:Below w.heap.size w w2)=>hI.below hb (Nat.le_refl _))
    rw [hkd] at he
    have HX:=Hd (HEx.out t[k].kind)
    rw [he] at HX
    rw [hk2] at hv
    have HE:=Hd hE
    clear he hkd h hR hE hI hOk HEx hk2 hk
    generalize t[k] = x at *
    generalize exprN t fr k = L at *
    have HG:=Hd hgd
    clear hgd
    go_enter Tryz.func27,Tryz.ntmps27
    go_upto_region 4 with (go_at_call 10;(with_reducible refine HC.out.mono ?_);rintro e w1 ⟨rfl,hb⟩;have HB:=Hd hb;clear hb)
    obtain ⟨bb,oo,ha,hbl,x0,_⟩:=HNd.out w1 HB.out
    subst ha
    go_upto_region 7 with (go_at_call 51;(with_reducible refine (HX.out _).mono ?_);rintro e w2 ⟨rfl,hw⟩;subst w2)
    generalize hg2:w1.alloc _ = w2 at *
    have hP2:=pap_new hg2
    have hb2:=(alloc_at hg2).2
    have HB2:=Ht HB hb2
    have HB12:=Hd hb2
    have HP2:=Hd hP2
    clear x0 hbl hg2 hb2 hP2
    have HO2:=Hd (HOn.out w1.heap.size w2 HB2.out)
    go_upto_region 8 with (first
     | (go_at_call 52;(with_reducible refine HO2.out.mono ?_);rintro e w3 ⟨b,capb,rfl,hN,hf,hb3⟩;have HB13:=Ht HB12 hb3;have HP3:=Hd (HP2.out.below hb3);have HO:=Hd (show PrOk w1.heap.size (some ⟨bb,oo,none⟩) t b fr w3 from ⟨(HE.out.below HB.out).under HB13.out,SlS.low HP3.out.rowOk HP3.out.lt (((HIs.out w1 HB.out).mono HB.out.size).below HB13.out (Nat.le_refl _)),SlS.new HP2.out.rowOk HP2.out.lt hb3 hN (fun _=>hf)⟩);clear hN hf hb3;have HQ:=Hd (HPr.out w1.heap.size b capb [] w3 HP3.out HO.out (by simp;omega)))
     | (go_at_call 53;(with_reducible refine HQ.out.mono ?_);rintro e w4 ⟨rfl,hp4,hk4⟩;have HP4:=Hd hp4;have HB4:=Hd (HB13.out.trans hk4.below);clear hp4 hk4))
    have HT:=Hd (text_ok (pb:=w1.heap.size) (L:=L) (w:=w4) HP4.out (by have:=words_len HG.out;omega) (by omega))
    generalize laidW L = s at *
    have HB2':=Hd HB2.out.size
    by_cases hs:s.size ≤ 65536
    ·have t3:decide ((s.size:Int) ≤ 65536) = true:=decide_eq_true (by omega)
     rw [if_pos hs] at hv
     clear hs
     go_wp2_with (go_at_call 54;(with_reducible refine HT.out.mono ?_);rintro e w5 ⟨rfl,hb5⟩;have HB5:=Ht HB4 hb5;clear hb5)
     go_ret2
     exact strEnd hv.out (HB.out.trans (HB5.out.mono HB.out.size))
    ·have t3:decide ((s.size:Int) ≤ 65536) = false:=decide_eq_false (by omega)
     rw [if_neg hs] at hv
     clear hs
     go_wp2_with (go_at_call 54;(with_reducible refine HT.out.mono ?_);rintro e w5 ⟨rfl,hb5⟩;have HB5:=Ht HB4 hb5;clear hb5)
     go_ret2
     exact strEnd hv.out (HB.out.trans (HB5.out.mono HB.out.size))
 ·have hv:=Hd (printXR_bad h)
  have t3:(checkN9 t != 0) = true:=by simpa using h
  generalize checkN9 t = c at *
  clear hE hI hOk h
  go_enter Tryz.func27,Tryz.ntmps27
  go_wp2_with (go_at_call 10;(with_reducible refine HC.out.mono ?_);rintro e w1 ⟨rfl,hb⟩)
  go_ret2
  exact strEnd hv.out hb
end Go.Proofs.YtkokdafkjjcgoaaGreatDoor
