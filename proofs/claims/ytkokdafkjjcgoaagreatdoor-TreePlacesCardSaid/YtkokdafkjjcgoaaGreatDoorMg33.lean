/- A function laid out: the program. -/
import Derived.Test.YtkokdafkjjcgoaaGreatDoorMg32
namespace Go.Proofs.YtkokdafkjjcgoaaGreatDoor
open Go.RowKit
def isNm (L:List Tok) (i:Nat):Bool:=match L[i]? with
 | some x=>decide (x.kind = 1) && (decide (i = 0) || match L[i - 1]? with
   | some y=>decide (y.text ≠ ⟨#[115,116,114,117,99,116]⟩)
   | none=>false)
 | none=>false
def nameAt (L:List Tok):Nat → Int
 | 0=>-1
 | n + 1=>if nameAt L n < 0 ∧ isNm L n = true then n else nameAt L n
def insF (L P:List Tok) (at_:Int) (n:Nat):List Tok:=(List.range n).flatMap fun (i:Nat)=>match L[i]? with
 | some x=>x :: (if (i:Int) = at_ then P else [])
 | none=>[]
theorem insF_next (L P:List Tok) (at_:Int) (n:Nat):insF L P at_ (n + 1) = insF L P at_ n ++ match L[n]? with
 | some x=>x :: (if (n:Int) = at_ then P else [])
 | none=>[]:=by
 unfold insF
 rw [List.range_succ,List.flatMap_append]
 simp
theorem insF_le (L P:List Tok) (at_:Int) (i:Nat):∀ n,i ≤ n → (insF L P at_ i).length ≤ (insF L P at_ n).length
 | 0,h=>by obtain rfl:i = 0:=by omega
           exact Nat.le_refl _
 | n + 1,h=>by
   rcases Nat.lt_or_ge n i with h1 | h1
   ·obtain rfl:i = n + 1:=by omega
    exact Nat.le_refl _
   ·rw [insF_next,List.length_append]
    have:=insF_le L P at_ i n h1
    omega
def ansB (s:ByteArray):ByteArray:=match tyS s with
 | some (.fn _ r)=>tyB r
 | _=>⟨#[]⟩
def funHd (f:FnU):List Tok:=insF (declK (ansB f.type) f.name) (paramsT f.params) (nameAt (declK (ansB f.type) f.name) (declK (ansB f.type) f.name).length) (declK (ansB f.type) f.name).length
def funT (f:FnU):List Tok:=funHd f ++ (if f.body.length = 0 then [tkM ⟨#[59]⟩] else stmtN f.body ((beginsN f.body).getD []) (f.body.length - 1))
theorem nameAt_range (L:List Tok):∀ n,-1 ≤ nameAt L n ∧ nameAt L n ≤ n
 | 0=>⟨Int.le_refl _,show (-1:Int) ≤ ((0:Nat):Int) by decide⟩
 | n + 1=>by
   have:=nameAt_range L n
   rw [nameAt]
   split <;> omega
theorem sign9_ok {s:ByteArray} {w:World} (hE:TE w) (h:∃ ps r,tyS s = some (.fn ps r)):Calls Tryz.prog 115 #[.string s] w fun e w'=>(∃ v,e = .returned (.tuple #[.string (ansB s),v,.int .i64 0])) ∧ Below w.heap.size w w':=by
 obtain ⟨ps,r,h⟩:=h
 refine (sign_ok s w hE).mono fun e w' ⟨h1,h2⟩=>⟨?_,h2⟩
 unfold ansB
 rw [h] at h1 ⊢
 obtain ⟨v,rfl,_⟩:=h1
 exact ⟨v,rfl⟩
section
variable {pb bx:Nat} {cs:Array Value} {T:TypeId} {w0 w:World} {W:List ByteArray}
theorem UnSt.token (h:UnSt pb bx cs T w0 W w) {x:Tok} (hx:goodB x = true) (hn:W.length < 1000000000000):Calls Tryz.prog 95 #[.pointer (some ⟨pb,0,none⟩),tokV x] w fun e w'=>e = .returned (.tuple #[]) ∧ UnSt pb bx cs T w0 (W ++ [wordV x]) w':=
 (token_ok pb W x w h.pap h.env hx hn).mono fun _ _ h'=>⟨h'.1,h.put h'⟩
end
set_option maxRecDepth 100000 in
set_option maxHeartbeats 8000000 in
theorem function9_ok (pb:Nat) (W:List ByteArray) (f:FnU) (vp vb:Value) (w:World) (hP:PapAt pb W w) (hE:EnvB pb w) (hV:IsVrs pb w vp f.params) (hB:IsTr pb w vb f.body) (hty:∃ ps r,tyS f.type = some (.fn ps r))
 (hI:f.body ≠ [] → checkN9 f.body = 0 ∧ lastK f.body = 21) (hl:f.params.length ≤ 1000000) (hn:W.length + (funT f).length < 1000000000000) :
 Calls Tryz.prog 68 #[.pointer (some ⟨pb,0,none⟩),.agg #[.int .i64 f.at_,.string f.name,.string f.type,vp,vb]] w (PutEnd pb (W ++ (funT f).map wordV) w):=by
 have hpb:=hP.lt
 have HS0:=Hd (fun w1 h=>UnSt.start (cs:=#[.int .i64 f.at_,.string f.name,.string f.type,vp,vb]) (T:=77) (w1:=w1) hP hE h)
 have HPa:=Hd (fun W1 w1 (hP1:PapAt pb W1 w1) (hE1:EnvB pb w1) (hk:KeepP pb w w1) h=>params9_ok pb W1 f.params vp w1 hP1 hE1 (hV.below hk.below (Nat.le_refl _)) hl h)
 have HTr:=Hd (fun w1 (hk:KeepP pb w w1)=>hB.below hk.below (Nat.le_refl _))
 have HSg:=Hd (fun w1 (h:TE w1)=>sign9_ok h hty)
 have HIt:=Hd hI
 have HDc:=Hd (fun w1 (hE1:EnvB pb w1) (hp1:pb < w1.heap.size)=>show Calls Tryz.prog 116 #[.string (ansB f.type),.string f.name] w1 fun e w'=>(∃ c:Int,e = Ending.returned (.tuple #[.string (declW (ansB f.type) f.name),.int .i64 c])) ∧ Below w1.heap.size w1 w' from (declare_ok (ansB f.type) f.name w1 (hE1.tp hp1)).mono fun e w' ⟨h1,h2⟩=>⟨by obtain ⟨c,hc⟩:=declareV_is (ansB f.type) f.name;exact ⟨c,by rw [h1,hc]⟩,h2⟩)
 have HTk:=Hd (fun w1 (hE1:EnvB pb w1)=>(tokens_any (declW (ansB f.type) f.name) w1 hE1.env).mono fun e w' h=>toks_out h)
 have hgd:=toksE_good (declW (ansB f.type) f.name)
 have hll:=toksE_len (declW (ansB f.type) f.name)
 unfold funT funHd at hn ⊢
 unfold declK at hn ⊢
 generalize declW (ansB f.type) f.name = dw at *
 generalize toksE dw = L at *
 generalize ansB f.type = an at *
 obtain ⟨fat,fnm,fty,fps,fbd⟩:=f
 simp only at *
 have HG:=Hd hgd
 obtain ⟨PT,hPT⟩:∃ PT,PT = paramsT fps:=⟨_,rfl⟩
 rw [← hPT] at hn HPa ⊢
 obtain ⟨BL,hBL⟩:∃ BL:List Tok,BL = (if fbd.length = 0 then [tkM ⟨#[59]⟩] else stmtN fbd ((beginsN fbd).getD []) (fbd.length - 1)):=⟨_,rfl⟩
 rw [← hBL] at hn ⊢
 have HBL:=Hd hBL
 have hna:=nameAt_range L L.length
 clear hP hE hV hB hty hI hgd hPT hBL
 simp only [List.length_append] at hn
 go_enter Tryz.func68,Tryz.ntmps68
 go_upto_region 1 with fail
 generalize hg1:w.alloc _ = w1 at *
 have HS1:=Hd (HS0.out w1 rfl)
 clear hg1 HS0
 obtain ⟨⟨y0,y1,y2,y3,y4⟩,_⟩:=five_blockP HS1.out.box
 have hT1:=HS1.out.env.tp HS1.out.pap.lt
 have HT1:=Hd (HSg.out w1 hT1.te)
 clear hT1
 go_upto_region 2 with (go_at_call 115;(with_reducible refine HT1.out.mono ?_);rintro e w2 ⟨⟨v,rfl⟩,hb⟩;have HS2:=Hd (HS1.out.below hb);clear hb)
 obtain ⟨⟨y0,y1,y2,y3,y4⟩,_⟩:=five_blockP HS2.out.box
 have HT2:=Hd (HDc.out w2 HS2.out.env HS2.out.pap.lt)
 go_upto_region 3 with (go_at_call 116;(with_reducible refine HT2.out.mono ?_);rintro e w3 ⟨⟨c,rfl⟩,hb⟩;have HS3:=Hd (HS2.out.below hb);clear hb)
 have HT3:=Hd (HTk.out w3 HS3.out.env)
 go_upto_region 4 with (go_at_call 117;(with_reducible refine HT3.out.mono ?_);rintro e w4 ⟨ta,tc,fp,fx,rfl,hI4,hf4,hb⟩;have HB34:=Hd hb;have HI4:=Hd hI4;have HF4:=Hd hf4;clear hb hI4 hf4)
 generalize hg5:w4.alloc _ = w5 at *
 have hb5:=(alloc_at hg5).2
 have HB35:=Ht HB34 hb5
 have HS5:=Hd (HS3.out.below HB35.out)
 have HL:=Hd (SlS.new (w':=w5) HS3.out.pap.rowOk HS3.out.pap.lt HB35.out ((HI4.out.below hb5 (Nat.le_refl _)).mono hb5.size) (fun hn b off e=>HF4.out hn b off e))
 have hli:(L.length:Int) ≤ 16384:=by omega
 clear hg5 hb5 y0 y1 y2 y3 y4
 go_wp2_with fail
 go_loopg [11,37] L.length (fun g v11 v37 wr=>∃ i:Nat,i ≤ L.length ∧ i + g = L.length ∧ v37 = .int .i64 (i:Int) ∧ v11 = .int .i64 (nameAt L i) ∧ Hid (Below w5.heap.size w5 wr))
 case atStart=>exact ⟨0,Nat.zero_le _,by omega,rfl,rfl,Hd (Below.refl _ _)⟩
 case round=>
  obtain ⟨i,hi,hig,rfl,rfl,HW⟩:=hrel
  have hnr:=nameAt_range L i
  by_cases hlt:i < L.length
  ·obtain ⟨bb,oo,ha,hbl,hcc⟩:=HL.out.sl (fun e=>by rw [e] at hlt;simp at hlt)
   subst ha
   have hx:=List.getElem?_eq_getElem hlt
   have c0:=hcc i _ hx 0 _ rfl
   have c1:=hcc i _ hx 1 _ rfl
   have c2:=hcc i _ hx 2 _ rfl
   have c3:=hcc i _ hx 3 _ rfl
   rw [Nat.add_zero] at c0
   rw [← HW.out.cell hbl] at c0 c1 c2 c3
   have hnm:isNm L i = (decide (L[i].kind = 1) && (decide (i = 0) || match L[i - 1]? with
    | some y=>decide (y.text ≠ ⟨#[115,116,114,117,99,116]⟩)
    | none=>false)):=by unfold isNm;rw [hx]
   have HPv:=Hd (fun (h:0 < i)=>(show ∃ y,L[i - 1]? = some y ∧ w5.cell? ⟨bb,oo + (i - 1) * 4 + 3,none⟩ = some (.string y.text) from by
    have hy:=List.getElem?_eq_getElem (show i - 1 < L.length by omega)
    exact ⟨_,hy,hcc (i - 1) _ hy 3 _ rfl⟩))
   have hii:(i:Int) < (L.length:Int):=by omega
   generalize L[i] = x at *
   obtain ⟨k,p,n,s2⟩:=x
   simp only at c0 c1 c2 c3 hnm
   clear hcc hx
   go_upto_region 8 with fail
   generalize hg6:wr.alloc _ = w6 at *
   obtain ⟨hx6,hb6⟩:=alloc_at hg6
   obtain ⟨⟨z0,z1,z2,z3⟩,_⟩:=four_blockP hx6
   have HW6:=Ht HW hb6
   clear hg6 hx6 hb6 c0 c1 c2 c3
   generalize hat9:nameAt L i = at9 at *
   have HAt:=Hd hat9
   clear hat9
   by_cases hneg:at9 < 0
   ·have d1:decide (at9 < 0) = true:=decide_eq_true hneg
    by_cases hk:k = 1
    ·have d2:(k == 1) = true:=by rw [beq_iff_eq];exact hk
     by_cases hi0:i = 0
     ·have d3:((i:Int) == 0) = true:=by rw [beq_iff_eq];omega
      rw [decide_eq_true hk,decide_eq_true hi0,Bool.true_and,Bool.true_or] at hnm
      have HNx:=Hd (show nameAt L (i + 1) = (i:Int) by rw [nameAt,HAt.out,if_pos ⟨hneg,hnm⟩])
      clear hneg hk hi0 hnm hnr
      go_wp2_with fail
      go_roundg (L.length - (i + 1))
      case measure=>omega
      case rel=>exact ⟨i + 1,by omega,by omega,by rw [Int.natCast_add];rfl,by rw [HNx.out],HW6⟩
     ·have d3:((i:Int) == 0) = false:=by rw [beq_eq_false_iff_ne];omega
      obtain ⟨y,hy,cy⟩:=HPv.out (by omega)
      have cy6:=(HW6.out.cell hbl).trans cy
      rw [decide_eq_true hk,decide_eq_false hi0,Bool.true_and,Bool.false_or,hy] at hnm
      obtain ⟨j,hj⟩:∃ j,j = i - 1:=⟨_,rfl⟩
      have hj1:(i:Int) - 1 = (j:Int):=by omega
      have hj2:(j:Int) < (L.length:Int):=by omega
      rw [← hj] at cy6
      by_cases hs:y.text = ⟨#[115,116,114,117,99,116]⟩
      ·have d4:(y.text.toList == [115,116,114,117,99,116]) = true:=lit_eq (l:=[115,116,114,117,99,116]) (by rw [hs]) rfl
       simp only [hs,ne_eq,not_true_eq_false,decide_false] at hnm
       have HNx:=Hd (show nameAt L (i + 1) = at9 by rw [nameAt,HAt.out,if_neg (fun h=>by rw [hnm] at h;exact absurd h.2 (by decide))])
       clear hneg hk hi0 hnm hnr hj hy cy hs
       go_wp2_with fail
       go_roundg (L.length - (i + 1))
       case measure=>omega
       case rel=>exact ⟨i + 1,by omega,by omega,by rw [Int.natCast_add];rfl,by rw [HNx.out],HW6⟩
      ·have d4:(y.text.toList == [115,116,114,117,99,116]) = false:=lit_ne (fun e=>hs (toList_eq e))
       simp only [ne_eq,hs,not_false_eq_true,decide_true] at hnm
       have HNx:=Hd (show nameAt L (i + 1) = (i:Int) by rw [nameAt,HAt.out,if_pos ⟨hneg,hnm⟩])
       clear hneg hk hi0 hnm hnr hj hy cy hs
       go_wp2_with fail
       go_roundg (L.length - (i + 1))
       case measure=>omega
       case rel=>exact ⟨i + 1,by omega,by omega,by rw [Int.natCast_add];rfl,by rw [HNx.out],HW6⟩
    ·have d2:(k == 1) = false:=by rw [beq_eq_false_iff_ne];exact hk
     rw [decide_eq_false hk,Bool.false_and] at hnm
     have HNx:=Hd (show nameAt L (i + 1) = at9 by rw [nameAt,HAt.out,if_neg (fun h=>by rw [hnm] at h;exact absurd h.2 (by decide))])
     clear hneg hk hnm hnr
     go_wp2_with fail
     go_roundg (L.length - (i + 1))
     case measure=>omega
     case rel=>exact ⟨i + 1,by omega,by omega,by rw [Int.natCast_add];rfl,by rw [HNx.out],HW6⟩
   ·have d1:decide (at9 < 0) = false:=decide_eq_false hneg
    have HNx:=Hd (show nameAt L (i + 1) = at9 by rw [nameAt,HAt.out,if_neg (fun h=>hneg h.1)])
    clear hneg hnm hnr
    go_wp2_with fail
    go_roundg (L.length - (i + 1))
    case measure=>omega
    case rel=>exact ⟨i + 1,by omega,by omega,by rw [Int.natCast_add];rfl,by rw [HNx.out],HW6⟩
  ·obtain rfl:i = L.length:=by omega
   have HSw:=Hd (HS5.out.below HW.out)
   have HKa:=Hd HSw.out.keep
   have HSa:=Hd (UnSt.mk HSw.out.pap HSw.out.env HSw.out.box HSw.out.safe (KeepP.refl pb wr))
   have HLa:=Hd (HL.out.kept HS5.out.pap.rowOk (KeepP.of_below (bn:=pb) HW.out HS5.out.pap.lt))
   generalize nameAt L L.length = atv at *
   clear HSw HS5 HL HW hig hi hlt
   generalize wr = Wa at *
   go_wp2_with fail
   go_loopg [66] L.length (fun g v66 wx=>∃ i:Nat,i ≤ L.length ∧ i + g = L.length ∧ v66 = .int .i64 (i:Int) ∧ Hid (UnSt pb w.heap.size #[.int .i64 fat,.string fnm,.string fty,vp,vb] 77 Wa (W ++ (insF L PT atv i).map wordV) wx))
   case atStart=>exact ⟨0,Nat.zero_le _,by omega,rfl,Hd (by simpa [insF] using HSa.out)⟩
   case round=>
    obtain ⟨i,hi,hig,rfl,HSr⟩:=hrel
    have hle:=insF_le L PT atv i L.length hi
    by_cases hlt:i < L.length
    ·have hsl:=HLa.out.kept HSa.out.pap.rowOk HSr.out.keep
     obtain ⟨bb,oo,ha,hbl,hcc⟩:=hsl.sl (fun e=>by rw [e] at hlt;simp at hlt)
     subst ha
     have hx:=List.getElem?_eq_getElem hlt
     have c0:=hcc i _ hx 0 _ rfl
     have c1:=hcc i _ hx 1 _ rfl
     have c2:=hcc i _ hx 2 _ rfl
     have c3:=hcc i _ hx 3 _ rfl
     rw [Nat.add_zero] at c0
     have hgx:=HG.out _ (List.getElem_mem hlt)
     have hle2:=insF_le L PT atv (i + 1) L.length hlt
     have hx9:=insF_next L PT atv i
     rw [hx] at hx9
     simp only at hx9
     have hb9:=congrArg List.length hx9
     simp only [List.length_append,List.length_cons] at hb9
     have HX9:=Hd hx9
     have HGx:=Hd hgx
     have hii:(i:Int) < (L.length:Int):=by omega
     clear hcc hx hx9 hgx hsl
     generalize L[i] = x at *
     obtain ⟨k,p,n,s2⟩:=x
     simp only at c0 c1 c2 c3
     go_upto_region 14 with fail
     generalize hg6:wr.alloc _ = w6 at *
     obtain ⟨hx6,hb6⟩:=alloc_at hg6
     obtain ⟨⟨z0,z1,z2,z3⟩,_⟩:=four_blockP hx6
     have HS6:=Hd (HSr.out.below hb6)
     have HTo:=Hd (HS6.out.token HGx.out (by first | omega | (simp;omega)))
     unfold tokV at HTo
     simp only at HTo
     clear hg6 hx6 hb6 c0 c1 c2 c3
     by_cases hia:(i:Int) = atv
     ·have d1:((i:Int) == atv) = true:=by rw [beq_iff_eq];exact hia
      rw [if_pos hia] at HX9 hb9
      clear hia
      go_upto_region 16 with (go_at_call 95;(with_reducible refine HTo.out.mono ?_);rintro e w7 ⟨rfl,hs⟩;have HS7:=Hd hs;clear hs)
      obtain ⟨⟨y0,y1,y2,y3,y4⟩,_⟩:=five_blockP HS7.out.box
      have HQ:=Hd (HPa.out _ w7 HS7.out.pap HS7.out.env (HKa.out.trans HS7.out.keep) (by first | omega | (simp;omega)))
      go_wp2_with (go_at_call 118;(with_reducible refine HQ.out.mono ?_);rintro e w8 hs;obtain rfl:=hs.1;have HS8:=Hd (HS7.out.put hs);clear hs)
      go_roundg (L.length - (i + 1))
      case measure=>omega
      case rel=>exact ⟨i + 1,by omega,by omega,by rw [Int.natCast_add];rfl,Hd (by rw [HX9.out];simpa using HS8.out)⟩
     ·have d1:((i:Int) == atv) = false:=by rw [beq_eq_false_iff_ne];exact hia
      rw [if_neg hia] at HX9 hb9
      clear hia
      go_wp2_with (go_at_call 95;(with_reducible refine HTo.out.mono ?_);rintro e w7 ⟨rfl,hs⟩;have HS7:=Hd hs;clear hs)
      go_roundg (L.length - (i + 1))
      case measure=>omega
      case rel=>exact ⟨i + 1,by omega,by omega,by rw [Int.natCast_add];rfl,Hd (by rw [HX9.out];simpa using HS7.out)⟩
    ·obtain rfl:i = L.length:=by omega
     have hkw:=HKa.out.trans HSr.out.keep
     obtain ⟨a,cap,rfl,hsk,hI,hok⟩:=HTr.out wr hkw
     have hn64:fbd.length * 64 ≤ 140737488351232:=hsk.1
     have HKw:=Hd hkw
     generalize insF L PT atv L.length = H at *
     clear hle hkw hsk HLa HSa HG HPa HTr
     obtain ⟨⟨y0,y1,y2,y3,y4⟩,_⟩:=five_blockP HSr.out.box
     by_cases hz:fbd.length = 0
     ·have d1:((fbd.length:Int) == 0) = true:=by rw [beq_iff_eq];omega
      have hv:=HBL.out
      rw [if_pos hz] at hv
      subst hv
      simp only [List.length_singleton] at hn
      go_wp2_with (go_at_call 96;(refine (HSr.out.put1 ⟨#[59]⟩ (by first | omega | (simp;omega))).mono ?_);rintro e w9 ⟨rfl,hs⟩;have HSz:=Hd hs;clear hs)
      go_end0
      exact ⟨rfl,by simpa [word_M] using HSz.out.pap,HKa.out.trans HSz.out.keep⟩
     ·have d1:((fbd.length:Int) == 0) = false:=by rw [beq_eq_false_iff_ne];omega
      have hv:=HBL.out
      rw [if_neg hz] at hv
      obtain ⟨hck,hkd⟩:=HIt.out (fun e=>hz (by rw [e];rfl))
      obtain ⟨fr,hR⟩:=check_right hck
      rw [hR.begins,Option.getD_some] at hv
      obtain ⟨lk,hlk⟩:∃ lk,lk = fbd.length - 1:=⟨_,rfl⟩
      rw [← hlk] at hv
      have hlt8:lk < fbd.length:=by omega
      have hlk1:(fbd.length:Int) - 1 = (lk:Int):=by omega
      have hek:kindAt fbd lk = 21:=by rw [hlk];exact hkd
      have hwr:IntKind.i64.wrap (lk:Int) = (lk:Int):=by rw [IntKind.wrap_i64];omega
      have hsk:sK (kindAt fbd lk):=by rw [hek];exact Or.inl rfl
      have HOn:=Hd (fun w1 (hb:Below wr.heap.size wr w1)=>(on_ok pb a cap fbd fr w1 hR.begins ((hI.below (KeepP.of_below hb HSr.out.pap.lt).below (Nat.le_refl _)).mono (by have:=HSr.out.pap.lt;have:=hb.size;omega)) hR.given.le hok).mono fun e w6 ⟨bf,cf,h1,h2,h3,h4⟩=>show ∃ bf cf,e = Ending.returned (prV pb a fbd.length cap bf fr.length cf) ∧ UnSt pb w.heap.size #[.int .i64 fat,.string fnm,.string fty,vp,.slice a fbd.length cap] 77 Wa (W ++ H.map wordV) w6 ∧ PrOk pb a fbd bf fr w6 from by
       have hb6:=hb.trans (h4.mono hb.size)
       have hS6:=HSr.out.below hb6
       exact ⟨bf,cf,h1,hS6,hS6.env,SlS.low hS6.pap.rowOk hS6.pap.lt (hI.below (KeepP.of_below hb6 HSr.out.pap.lt).below (Nat.le_refl _)),SlS.new HSr.out.pap.rowOk HSr.out.pap.lt hb6 h2 (fun _ bb off e=>Nat.le_trans hb.size (h3 bb off e))⟩)
      have HPt:=Hd (fun (bf:Option Addr) (cf:Nat) w6 w7 (hb:Below w6.heap.size w6 w7) (hS:UnSt pb w.heap.size #[.int .i64 fat,.string fnm,.string fty,vp,.slice a fbd.length cap] 77 Wa (W ++ H.map wordV) w6) (hO:PrOk pb a fbd bf fr w6)=>(stmt9_ok (pb:=pb) (a:=a) (cap:=cap) (b:=bf) (capb:=cf) hR (lk + 1) lk (Nat.lt_succ_self lk) hlt8 hsk _ w7 (hS.below hb).pap (hO.kept hS.pap.lt hS.pap.rowOk (KeepP.of_below hb hS.pap.lt)) (by first | (rw [← hv];simp;omega) | (simp;omega))).mono fun e w9 h=>show e = Ending.returned (.tuple #[]) ∧ UnSt pb w.heap.size #[.int .i64 fat,.string fnm,.string fty,vp,.slice a fbd.length cap] 77 Wa (W ++ (H ++ BL).map wordV) w9 from ⟨h.1,by rw [hv];simpa using (hS.below hb).put h⟩)
      clear hv hck hkd hR hlk hek hsk hI hok HBL
      generalize hBL9:stmtN fbd fr lk = SL at *
      clear hBL9
      go_upto_region 20 with fail
      go_region_held3 (fun w'=>w'.cell? ⟨w.heap.size,4,none⟩ = some (.slice a fbd.length cap)) (first | assumption | exact y4)
       (first
         | (go_at_call 52;(with_reducible refine (HOn.out _ (by first | exact Below.refl _ _ | exact (Below.refl _ _).drew)).mono ?_);rintro e w6 ⟨bf,cf,rfl,hS,hO⟩;have HS6:=Hd hS;have HO6:=Hd hO;have z4:=(five_blockP hS.box).1.2.2.2.2;clear hS hO)
         | (go_at_call 119;(try rw [hwr]);(with_reducible refine (HPt.out bf _ w6 _ (by first | exact Below.refl _ _ | exact (Below.refl _ _).drew) HS6.out HO6.out).mono ?_);rintro e w9 ⟨rfl,hsz⟩;have HSz:=Hd hsz;have z4:=(five_blockP hsz.box).1.2.2.2.2;clear hsz))
      all_goals go_wp2_with fail
      all_goals go_end0
      all_goals exact ⟨rfl,HSz.out.pap,HKa.out.trans HSz.out.keep⟩
theorem flatT_len {α:Type} {f:α → List Tok} {c:Nat}:∀ {l:List α},(∀ x ∈ l,(f x).length ≤ c) → (l.flatMap f).length ≤ l.length * c
 | [],_=>by simp
 | x :: r,h=>by
   have h1:=h x (by simp)
   have h2:=flatT_len (l:=r) (fun y hy=>h y (List.mem_cons_of_mem _ hy))
   rw [List.flatMap_cons,List.length_append,List.length_cons,Nat.succ_mul]
   omega
theorem declK_len (s n:ByteArray):(declK s n).length ≤ 16384:=toksE_len _
theorem structT_good {s:Sr} (h:isNameB s.name = true):AllG (structT s):=
 .cons (good_K (by decide)) (.cons (good_N h) (.cons (good_M (by decide)) (.app (.flat fun m _=>.app (declK_good _ _) (.cons (good_M (by decide)) .nil)) (.cons (good_M (by decide)) (.cons (good_M (by decide)) .nil)))))
theorem structT_len (s:Sr):(structT s).length ≤ s.mems.length * 16385 + 5:=by
 have:=flatT_len (l:=s.mems) (f:=memT) (c:=16385) (fun m _=>by
  have:=declK_len m.2 m.1
  unfold memT
  simp only [List.length_append,List.length_singleton]
  omega)
 unfold structT
 simp only [List.length_append,List.length_cons,List.length_nil]
 omega
theorem parF_good (l:List VrU) (n:Nat):AllG (parF l n):=.flat fun i _=>.app (.ite (fun _=>.cons (good_M (by decide)) .nil) (fun _=>.nil)) (by
 split
 ·exact .app (.ite (fun _=>.cons (good_K (by decide)) .nil) (fun _=>.nil)) (declK_good _ _)
 ·exact .nil)
theorem parF_len (l:List VrU) (n:Nat):(parF l n).length ≤ n * 16386:=by
 have:=flatT_len (l:=List.range n) (f:=fun i=>(if 0 < i then [tkM ⟨#[44]⟩] else []) ++ match l[i]? with
  | some v=>(if v.vol = true then [tkV] else []) ++ declK v.type v.name
  | none=>[]) (c:=16386) (fun i _=>by
    have h1:(if 0 < i then [tkM ⟨#[44]⟩] else []).length ≤ 1:=by split <;> simp
    rw [List.length_append]
    generalize (if 0 < i then [tkM ⟨#[44]⟩] else []).length = z at *
    cases l[i]? with
    | none=>dsimp only;rw [List.length_nil];omega
    | some v=>
      have h2:(if v.vol = true then [tkV] else []).length ≤ 1:=by split <;> simp
      have:=declK_len v.type v.name
      dsimp only
      rw [List.length_append]
      omega)
 rw [List.length_range] at this
 exact this
theorem paramsT_good (l:List VrU):AllG (paramsT l):=.cons (good_M (by decide)) (.app (parF_good _ _) (.app (.ite (fun _=>.cons (good_K (by decide)) .nil) (fun _=>.nil)) (.cons (good_M (by decide)) .nil)))
theorem paramsT_len (l:List VrU):(paramsT l).length ≤ l.length * 16386 + 3:=by
 have:=parF_len l l.length
 unfold paramsT
 have h1:(if l.length = 0 then [tkK ⟨#[118,111,105,100]⟩] else []).length ≤ 1:=by split <;> simp
 simp only [List.length_append,List.length_cons,List.length_nil]
 omega
theorem insF_good {L P:List Tok} (hL:AllG L) (hP:AllG P) (k:Int) (n:Nat):AllG (insF L P k n):=.flat fun i _=>by
 split
 ·rename_i x hx
  exact .cons (hL x (List.mem_of_getElem? hx)) (.ite (fun _=>hP) (fun _=>.nil))
 ·exact .nil
theorem insF_len (L P:List Tok) (k:Int):∀ n,(insF L P k n).length ≤ n + (if k < n then P.length else 0)
 | 0=>by simp [insF]
 | n + 1=>by
   have h1:=insF_len L P k n
   rw [insF_next,List.length_append]
   split
   ·rename_i x _
    rw [List.length_cons]
    by_cases e:(n:Int) = k
    ·rw [if_neg (by omega)] at h1
     rw [if_pos e,if_pos (by omega)]
     omega
    ·rw [if_neg e,List.length_nil]
     split at h1
     ·rw [if_pos (by omega)];omega
     ·rw [if_neg (by omega)];omega
   ·rw [List.length_nil]
    split at h1
    ·rw [if_pos (by omega)];omega
    ·split <;> omega
theorem funHd_good (f:FnU):AllG (funHd f):=insF_good (declK_good _ _) (paramsT_good _) _ _
theorem funHd_len (f:FnU):(funHd f).length ≤ 16387 + f.params.length * 16386:=by
 have h1:=insF_len (declK (ansB f.type) f.name) (paramsT f.params) (nameAt (declK (ansB f.type) f.name) (declK (ansB f.type) f.name).length) (declK (ansB f.type) f.name).length
 have h2:=declK_len (ansB f.type) f.name
 have h3:=paramsT_len f.params
 have h4:(if nameAt (declK (ansB f.type) f.name) (declK (ansB f.type) f.name).length < ((declK (ansB f.type) f.name).length:Int) then (paramsT f.params).length else 0) ≤ (paramsT f.params).length:=by split <;> omega
 unfold funHd
 omega
theorem funT_good {f:FnU} (h:f.body ≠ [] → checkN9 f.body = 0 ∧ lastK f.body = 21):AllG (funT f):=.app (funHd_good f) (.ite (fun _=>.cons (good_M (by decide)) .nil) (fun hz=>by
 obtain ⟨hck,hkd⟩:=h (fun e=>hz (by rw [e];rfl))
 obtain ⟨fr,hR⟩:=check_right hck
 rw [hR.begins,Option.getD_some]
 exact stmtN_good hR _ _ (Nat.lt_succ_self _) (by omega) (by rw [show kindAt f.body (f.body.length - 1) = 21 from hkd];exact Or.inl rfl)))
theorem funT_len {f:FnU} (h:f.body ≠ [] → checkN9 f.body = 0 ∧ lastK f.body = 21):(funT f).length ≤ f.params.length * 16386 + 67200000:=by
 have h1:=funHd_len f
 have h2:(if f.body.length = 0 then [tkM ⟨#[59]⟩] else stmtN f.body ((beginsN f.body).getD []) (f.body.length - 1)).length ≤ 67141632:=by
  split
  ·simp
  ·rename_i hz
   obtain ⟨hck,hkd⟩:=h (fun e=>hz (by rw [e];rfl))
   obtain ⟨fr,hR⟩:=check_right hck
   rw [hR.begins,Option.getD_some]
   have h3:=stmtN_len hR (f.body.length - 1 + 1) (f.body.length - 1) (Nat.lt_succ_self _) (by omega)
   have h4:=hR.given.le
   have h5:16392 * (f.body.length - 1 + 1 - fr.getD (f.body.length - 1) 0) ≤ 16392 * 4096:=Nat.mul_le_mul_left _ (by omega)
   omega
 unfold funT
 rw [List.length_append]
 omega
theorem itemT_good {t:List Nd} (h:checkN9 t = 0 ∧ exprK (lastK t) = true):AllG (itemT t):=by
 obtain ⟨fr,hR⟩:=check_right h.1
 have hp:=hR.given.formed.pos
 unfold itemT
 rw [hR.begins,Option.getD_some]
 exact partN_good hR (by omega) h.2
theorem brT_good (b:Bool) {c:UInt8} (h:Lib.containsS markT ⟨#[c]⟩ = true):AllG (brT b c):=.ite (fun _=>.cons (good_M h) .nil) (fun _=>.nil)
theorem globT_good {g:GlU} (h:∀ t ∈ g.init,checkN9 t = 0 ∧ exprK (lastK t) = true):AllG (globT g):=
 .app (.ite (fun _=>.cons (good_K (by decide)) .nil) (fun _=>.nil)) (.app (declK_good _ _) (.app (.ite (fun _=>.cons (good_M (by decide)) (.app (brT_good _ (by decide)) (.app (.flat fun i _=>.app (.ite (fun _=>.cons (good_M (by decide)) .nil) (fun _=>.nil)) (by
  split
  ·rename_i t ht
   exact itemT_good (h t (List.mem_of_getElem? ht))
  ·exact .nil)) (brT_good _ (by decide))))) (fun _=>.nil)) (.cons (good_M (by decide)) .nil)))
def wt (t:Tok):Nat:=if t.kind = 4 then 4 * t.text.size + 2 else if t.kind = 3 then 21 else t.text.size
def wtL (L:List Tok):Nat:=(L.map wt).sum
theorem oneL_wt {L:List UInt8} {t:Tok} {n:Nat} (h:oneL L = .good t n):wt t ≤ 21 * n ∧ 4 * t.text.size ≤ 21 * n:=by
 have hle:=oneL_le h
 match L,h with
 | [],h=>cases h
 | c :: l,h=>
   have hw:(strOf ((c :: l).take (wlen (c :: l)))).size ≤ wlen (c :: l):=by
    show ((c :: l).take (wlen (c :: l))).length ≤ _
    rw [List.length_take];omega
   rw [oneL] at h
   split at h
   ·unfold wordE at h
    repeat' split at h
    all_goals first
     | (cases h;done)
     | (obtain ⟨e,rfl⟩:=OEnd.good.inj h;subst e;simp only [wt];constructor <;> (try simp) <;> omega)
   ·split at h
    ·unfold numE at h
     split at h
     ·cases h
     ·obtain ⟨e,rfl⟩:=OEnd.good.inj h
      subst e
      have hu:∀ u:Bool,(if u = true then uText else (⟨#[]⟩:ByteArray)).size ≤ 1:=by
       intro u
       split
       ·show 1 ≤ 1;omega
       ·show 0 ≤ 1;omega
      simp only [wt]
      constructor
      ·simp;omega
      ·exact Nat.le_trans (Nat.mul_le_mul_left 4 (hu _)) (by omega)
    ·split at h
     ·obtain ⟨b,j,h1,h2,rfl⟩:=charE_good h
      have:(⟨#[]⟩:ByteArray).size = 0:=rfl
      simp only [wt]
      constructor
      ·simp;omega
      ·omega
     ·split at h
      ·obtain ⟨q,j,h1,h2,rfl⟩:=strE_good h
       have:=quotedL_len 34 _ _ (Nat.le_refl _) h1
       have hq:(strOf q).size = q.length:=rfl
       simp only [wt]
       constructor
       ·simp;omega
       ·omega
      ·unfold markE at h
       split at h
       ·cases h
       ·obtain ⟨e,rfl⟩:=OEnd.good.inj h
        subst e
        simp only [wt]
        constructor
        ·simp;omega
        ·omega
theorem wtL_app (A B:List Tok):wtL (A ++ B) = wtL A + wtL B:=by simp [wtL]
theorem put_wt {M:List UInt8} {p n:Nat} {out:List Tok} {t:Tok} (h:wt t ≤ 21 * n ∧ 4 * t.text.size ≤ 21 * n):wtL (putTok M p out t) ≤ wtL out + 21 * n:=by
 unfold putTok
 split
 ·rename_i hj
  unfold glue
  cases hl:out.getLast? with
  | none=>simp [wtL]
  | some x=>
    have hs:x.kind = 4:=by
     unfold joins at hj
     rw [hl] at hj
     simp [isStr] at hj
     exact hj.2
    obtain ⟨A,rfl⟩:=List.getLast?_eq_some_iff.1 hl
    rw [List.dropLast_concat,wtL_app,wtL_app]
    have h1:(x.text ++ t.text).size = x.text.size + t.text.size:=ByteArray.size_append
    simp only [wtL,List.map_cons,List.map_nil,List.sum_cons,List.sum_nil,wt,hs,if_true,h1]
    omega
 ·rw [wtL_app]
  have:wtL [{ t with place:=(p:Int) }] = wt t:=by simp [wtL,wt]
  rw [this]
  omega
theorem step_wt {k n:Nat} {M:List UInt8} {out out':List Tok} (h:tokStep k M out = .more n out'):wtL out' ≤ wtL out + 21 * n:=by
 obtain ⟨b,t,j,hb,_,_,ho,rfl,rfl,_⟩:=step_more h
 have:=put_wt (M:=M.drop b) (p:=k + b) (out:=out) (oneL_wt ho)
 omega
theorem endStep_no {n:Nat} {out L:List Tok}:endStep n out ≠ .done (.good L):=by
 unfold endStep
 split
 ·simp
 ·split <;> simp
theorem stepW_end {k:Nat} {M:List UInt8} {out L:List Tok} (h:tokStep k M out = .done (.good L)):L = out:=by
 unfold tokStep at h
 repeat' split at h
 all_goals first
  | exact absurd h endStep_no
  | (cases h;rfl)
  | (cases h;done)
theorem tokL_wt (k:Nat) (M:List UInt8) (out:List Tok):∀ L,tokL k M out = .good L → wtL L ≤ wtL out + 21 * M.length:=
 tokL_ind (P:=fun k M out e=>∀ L,e = .good L → wtL L ≤ wtL out + 21 * M.length)
  (fun k M out e h L he=>by subst he;obtain rfl:=stepW_end h;omega)
  (fun k M out n out' h ih L he=>by
    have h1:=ih L he
    have h2:=step_wt h
    have h3:=step_pos h
    rw [List.length_drop] at h1
    omega) k M out
theorem word_wt {t:Tok} (h:goodB t = true):(wordL t).length ≤ wt t:=by
 have ht:=good_tok h
 have hl:t.text.data.toList.length = t.text.size:=by rw [Array.length_toList];rfl
 unfold wordL wt
 split
 ·have:=midL_bd t.text.data.toList
  simp only [quoteL,List.length_append,List.length_cons,List.length_nil]
  omega
 ·split
  ·unfold numL
   split
   ·have:=speltL_bd (UInt8.ofNat (t.num + 256).toNat) 39
    simp only [charL,List.length_append,List.length_cons,List.length_nil]
    omega
   ·have:=itoa_bd t.num (by omega) ht.2.1
    split
    ·simp only [List.length_append,List.length_cons,List.length_nil];omega
    ·omega
  ·omega
theorem toksE_wt (s:ByteArray):wtL (toksE s) ≤ 1376256:=by
 unfold toksE
 rcases h:tokE s with L | _
 ·have h1:=tokE_good h
  have:=tokL_wt _ _ _ _ h1.2.1
  have h2:s.data.toList.length = s.size:=by rw [Array.length_toList];rfl
  have h3:=h1.1
  have h4:wtL [] = 0:=rfl
  show wtL L ≤ _
  omega
 ·exact Nat.zero_le _
theorem join_wt:∀ {L:List Tok},AllG L → (Lib.join (L.map wordL) [32]).length ≤ wtL L + L.length
 | [],_=>Nat.zero_le _
 | [x],h=>by
   have:=word_wt (h x (by simp))
   simp only [List.map_cons,List.map_nil,Lib.join_one,wtL,List.sum_cons,List.sum_nil,List.length_singleton]
   omega
 | x :: y :: r,h=>by
   have h1:=word_wt (h x (by simp))
   have h2:=join_wt (L:=y :: r) (fun z hz=>h z (List.mem_cons_of_mem _ hz))
   have e:Lib.join ((x :: y :: r).map wordL) [32] = wordL x ++ [32] ++ Lib.join ((y :: r).map wordL) [32]:=by simp [Lib.join,List.intercalate]
   rw [e]
   simp only [wtL,List.map_cons,List.sum_cons,List.length_append,List.length_cons,List.length_nil] at h2 ⊢
   omega
theorem laid_wt {L:List Tok} (h:AllG L):(laidW L).size ≤ wtL L + L.length:=by
 have:=join_wt h
 simpa [laidW,ByteArray.size] using this
end Go.Proofs.YtkokdafkjjcgoaaGreatDoor
