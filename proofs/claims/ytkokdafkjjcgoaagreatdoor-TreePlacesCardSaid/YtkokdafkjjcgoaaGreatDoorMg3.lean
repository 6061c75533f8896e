/- Tokens laid out: both texts. -/
import Derived.Test.YtkokdafkjjcgoaaGreatDoorMg2
import Derived.Lib.Join
import Derived.Laws.AppendOwnNone
import Derived.Test.YtkokdafkjjcgoaaGreatDoorRows
import Derived.Lib.LaidTab
import Derived.OpenShut
import Derived.Lib.Bytes2
namespace Go.Proofs.YtkokdafkjjcgoaaGreatDoor
open Go.RowKit Go.Sort
def TokRow (w:World) (b off:Nat) (L:List Tok):Prop:=∀ i t,L[i]? = some t → w.cell? ⟨b,off + i * 4,none⟩ = some (.int .i64 t.kind) ∧ w.cell? ⟨b,off + i * 4 + 1,none⟩ = some (.int .i64 t.place) ∧ w.cell? ⟨b,off + i * 4 + 2,none⟩ = some (.int .i64 t.num) ∧ w.cell? ⟨b,off + i * 4 + 3,none⟩ = some (.string t.text)
def IsToks (B:Nat) (w:World) (a:Option Addr) (L:List Tok):Prop:=L ≠ [] → ∃ b off,a = some ⟨b,off,none⟩ ∧ b < B ∧ TokRow w b off L
theorem IsToks.below {B B':Nat} {w w':World} {a:Option Addr} {L:List Tok} (h:IsToks B w a L) (hb:Below B' w w') (hB:B ≤ B'):IsToks B w' a L:=fun hn=>by
 obtain ⟨b,off,rfl,hlt,hr⟩:=h hn
 have hlt':b < B':=Nat.lt_of_lt_of_le hlt hB
 refine ⟨b,off,rfl,hlt,fun i t ht=>?_⟩
 obtain ⟨h0,h1,h2,h3⟩:=hr i t ht
 rw [hb.cell hlt',hb.cell hlt',hb.cell hlt',hb.cell hlt']
 exact ⟨h0,h1,h2,h3⟩
def wordV (t:Tok):ByteArray:=⟨(wordL t).toArray⟩
def TokOk (t:Tok):Prop:=0 ≤ t.num + 9223372036854775808 ∧ t.num ≤ 9223372036854775807 ∧ t.text.size ≤ 1048576
theorem wordL_bd (t:Tok) (h:TokOk t):(wordL t).length ≤ 8388608:=by
 obtain ⟨h1,h2,h3⟩:=h
 have hl:t.text.data.toList.length = t.text.size:=by rw [Array.length_toList];rfl
 unfold wordL
 split
 ·have:=midL_bd t.text.data.toList
  simp only [quoteL,List.length_append,List.length_cons,List.length_nil]
  omega
 ·split
  ·unfold numL
   split
   ·have:=speltL_bd (UInt8.ofNat (t.num + 256).toNat) 39
    simp only [charL,List.length_append,List.length_cons,List.length_nil]
    omega
   ·have:=itoa_bd t.num (by omega) h2
    split
    ·simp only [List.length_append,List.length_cons,List.length_nil];omega
    ·omega
  ·omega
def allGood (L:List Tok):Bool:=L.all goodB
theorem allGood_bad {L:List Tok} {k:Nat} (h:k < L.length) (hb:goodB L[k] = false):allGood L = false:=by
 rw [Bool.eq_false_iff];intro e
 rw [allGood,List.all_eq_true] at e
 have:=e L[k] (List.getElem_mem h)
 rw [this] at hb;cases hb
theorem take_more {α:Type} (L:List α) {k:Nat} (h:k < L.length):L.take (k + 1) = L.take k ++ [L[k]]:=List.take_succ_eq_append_getElem h
theorem info_string:(Tryz.prog.info? 9).map (fun i=>(i.zero,i.size,i.bytes)) = some (some (.string ⟨#[]⟩),1,16):=by kernel_rfl
theorem join_bd (M:Nat) (sep:List UInt8):∀ (l:List (List UInt8)),(∀ x ∈ l,x.length ≤ M) → (Lib.join l sep).length ≤ l.length * (M + sep.length)
 | [],_=>by simp [Lib.join]
 | [x],h=>by
   rw [Lib.join_one]
   have:=h x (by simp)
   simp;omega
 | x :: y :: l,h=>by
   have h1:=h x (by simp)
   have h2:=join_bd M sep (y :: l) (fun z hz=>h z (by simp at hz ⊢;exact Or.inr hz))
   have e:Lib.join (x :: y :: l) sep = x ++ sep ++ Lib.join (y :: l) sep:=by simp [Lib.join,List.intercalate]
   rw [e]
   simp only [List.length_append,List.length_cons,Nat.add_mul,Nat.one_mul] at h2 ⊢
   omega
theorem join_own {B:Nat} {w:World} {v:Value} {L:List Tok} (ho:w.ownsRow B 9 1 v L.length (L.map fun t=>Value.string (wordV t))) (hok:∀ t ∈ L,TokOk t) (hn:L.length ≤ 16384) :
 Calls Tryz.prog 103 #[v,.string ⟨#[32]⟩] w fun e w'=>e = .returned (.string ⟨(Lib.join (L.map wordL) [32]).toArray⟩) ∧ Below w.heap.size w w':=by
 rcases ho.2 with ⟨rfl,h0⟩ | ⟨g,cap,cur,rfl,_,hg,hcap,_,_,htk⟩
 ·obtain rfl:L = []:=List.eq_nil_of_length_eq_zero h0
  exact (Tryz.strings_Join_none none 0 _ w).mono fun _ _ ⟨he,hw⟩=>⟨he,by rw [hw];exact Below.refl _ _⟩
 ·have hj:=Tryz.strings_Join g 0 cap (L.map wordV) ⟨#[32]⟩ w (fun j x hx=>by
   have h:=ho.cells (g:=g) rfl j (.string x) (by
    rw [List.getElem?_map] at hx ⊢
    obtain ⟨t,ht,rfl⟩:=Option.map_eq_some_iff.1 hx
    rw [ht];rfl)
   rw [addr_add] at h
   rw [Nat.zero_add];exact h) (lt_of_heap hg) (by rw [List.length_map];omega) (by rw [List.length_map];exact hcap) (by
   have hb:=join_bd 8388608 [32] (L.map wordL) (fun x hx=>by
    obtain ⟨t,ht,rfl⟩:=List.mem_map.1 hx
    exact wordL_bd t (hok t ht))
   have e:(L.map wordV).map (fun s=>s.data.toList) = L.map wordL:=by rw [List.map_map];rfl
   rw [e]
   rw [List.length_map] at hb
   have h2:L.length * (8388608 + [(32:UInt8)].length) ≤ 16384 * 8388609:=Nat.mul_le_mul hn (by decide)
   show (Lib.join (L.map wordL) [32]).length ≤ _
   omega)
  have e:(L.map wordV).map (fun s=>s.data.toList) = L.map wordL:=by rw [List.map_map];rfl
  rw [List.length_map] at hj
  rw [e] at hj
  exact hj
def laidV (L:List Tok):Value:=if allGood L = true then .tuple #[.string ⟨(Lib.join (L.map wordL) [32]).toArray⟩,.int .i64 0] else .tuple #[.string ⟨#[]⟩,.int .i64 5]
def Laid (L:List Tok) (w:World) (e:Ending) (w':World):Prop:=e = .returned (laidV L) ∧ Below w.heap.size w w'
theorem laid_bad {L:List Tok} {w w':World} (h:allGood L = false) (hb:Below w.heap.size w w'):Laid L w (.returned (.tuple #[.string ⟨#[]⟩,.int .i64 5])) w':=⟨by rw [laidV,h];rfl,hb⟩
theorem laid_good {L:List Tok} {w w':World} {x:ByteArray} (h:allGood L = true) (hx:x.data.toList = Lib.join (L.map wordL) [32]) (hb:Below w.heap.size w w'):Laid L w (.returned (.tuple #[.string x,.int .i64 0])) w':=
 ⟨by rw [laidV,if_pos h,← hx],hb⟩
set_option maxHeartbeats 4000000 in
theorem lexLay_in (a:Option Addr) (cap:Nat) (L:List Tok) (w:World) (hL:IsToks w.heap.size w a L) (hn:L.length ≤ 16384) (hok:∀ t ∈ L,TokOk t) (hK:KeysAt w) (hM:MarksAt w) (hP:PowAt w) (hg:3 < w.heap.size) :
 Calls Tryz.prog 138 #[.slice a L.length cap] w (Laid L w):=by
 have HL:=Hd hL
 have HOK:=Hd hok
 have HT:=Hd (And.intro hK (And.intro hM hP))
 clear hL hok hK hM hP
 go_enter Tryz.func138,Tryz.ntmps138
 go_wp2_with fail
 go_loopw [4,14] (fun o i wr=>∃ k:Nat,k ≤ L.length ∧ i = .int .i64 k ∧ wr.ownsRow w.heap.size 9 1 o k ((L.take k).map fun t=>Value.string (wordV t)) ∧ Hid (allGood (L.take k) = true) ∧ Below w.heap.size w wr) (fun _ i _=>L.length - (intOf i).toNat)
 case atStart=>exact ⟨0,Nat.zero_le _,rfl,World.ownsRow_nil _ _ _ _,rfl,Below.refl _ _⟩
 case round=>
  obtain ⟨k,hk,rfl,hown,hgd,hb⟩:=hrel
  have HL1:=Hd (HL.out.below hb (Nat.le_refl _))
  have HO:=Hd hown
  have HB:=Hd hb
  have hsz:=hb.size
  clear hown hb
  by_cases hlt:k < L.length
  ·obtain ⟨b,off,rfl,hbl,hrow⟩:=HL1.out (by intro h;rw [h] at hlt;simp at hlt)
   obtain ⟨c0,c1,c2,c3⟩:=hrow k L[k] (List.getElem?_eq_getElem hlt)
   have hW:Calls Tryz.prog 177 #[.agg #[.int .i64 L[k].kind,.int .i64 L[k].place,.int .i64 L[k].num,.string L[k].text]] (wr.alloc (.cells #[.int .i64 L[k].kind,.int .i64 L[k].place,.int .i64 L[k].num,.string L[k].text] 151)) (Written L[k] (wr.alloc (.cells #[.int .i64 L[k].kind,.int .i64 L[k].place,.int .i64 L[k].num,.string L[k].text] 151))):=by
    have hok:=HOK.out L[k] (List.getElem_mem hlt)
    have hB1:=boxB wr L[k]
    have hB2:=HB.out.trans (hB1.mono hsz)
    exact written_okL L[k] _ (HT.out.1.below hB2) (HT.out.2.1.below hB2) (HT.out.2.2.below hB2 hg) (by simp;omega) hok.2.1 hok.2.2
   have HW:=Hd hW
   clear hW hrow
   go_wp2_with (go_at_call 177;refine HW.out.mono ?_)
   rintro e w1 ⟨x,rfl,hx,hb1⟩
   have hb2:Below w.heap.size w w1:=HB.out.trans (((boxB wr L[k]).mono hsz).trans (hb1.mono (by simp;omega)))
   have HB2:=Hd hb2
   have hsz1:=hb2.size
   have HO1:=Hd ((HO.out.alloc (.cells #[.int .i64 L[k].kind,.int .i64 L[k].place,.int .i64 L[k].num,.string L[k].text] 151)).belowed hb1)
   clear hb1 hb2 c0 c1 c2 c3
   rcases hgk:goodB L[k] with _ | _
   ·have HG:=Hd (allGood_bad hlt hgk)
    clear hgk
    go_wp2
    go_ret2
    exact laid_bad HG.out HB2.out
   ·obtain rfl:x = wordV L[k]:=toList_eq (by rw [hx hgk];rfl)
    have HG:=Hd (show allGood (L.take (k + 1)) = true by rw [take_more L hlt,allGood,List.all_append,show (L.take k).all goodB = true from hgd.out];simp [hgk])
    have HR:=Hd (show (L.take k).map (fun t=>Value.string (wordV t)) ++ [Value.string (wordV L[k])] = (L.take (k + 1)).map (fun t=>Value.string (wordV t)) by rw [take_more L hlt,List.map_append];rfl)
    clear hgk hx hgd
    obtain ⟨i0,hi,hz0,hz1,hz2⟩:=info_parts info_string
    have HI:=Hd (And.intro hi (And.intro hz0 (And.intro hz1 hz2)))
    clear hi hz0 hz1 hz2
    go_wp2_with (at_builtin;refine wpList_append_own _ rfl _ _ 97 rfl w.heap.size 9 i0 (.string ⟨#[]⟩) 1 16 Tryz.underlying97 HI.out.1 HI.out.2.1 HI.out.2.2.1 HI.out.2.2.2 rfl (by decide) _ _ _ rfl (HO1.out.alloc _) ⟨w1.heap.size,0,none⟩ 1 1 [.string (wordV L[k])] rfl rfl ?c1 ?c2 ?c3 ?c4 ?c5 ?_)
    case c1=>exact cell_one _ _ _
    case c2=>intro u hu;simp at hu;subst hu;rfl
    case c3=>unfold maxLen;omega
    case c4=>omega
    case c5=>simp;omega
    intro v' w2 hown' hgrow _
    have HO2:=Hd (show w2.ownsRow w.heap.size 9 1 v' (k + 1) ((L.take (k + 1)).map (fun t=>Value.string (wordV t))) by rw [← HR.out,List.map_take];exact hown')
    have HB3:=Hd ((HB2.out.alloc hsz1 (.cells #[.string (wordV L[k])] 9)).grown hgrow (by simp;omega) (fun q hq=>(HO1.out.lt q hq).1))
    clear hown' hgrow
    go_wp2
    go_roundw
    case rel=>exact ⟨k + 1,by omega,by go_num,HO2.out,HG.out,HB3.out⟩
    case measure=>simp [intOf];omega
  ·obtain rfl:k = L.length:=by omega
   have hJ:Calls Tryz.prog 103 #[u4,.string ⟨#[32]⟩] wr fun e w'=>e = .returned (.string ⟨(Lib.join (L.map wordL) [32]).toArray⟩) ∧ Below wr.heap.size wr w':=by
    have ho:=HO.out
    rw [List.take_length] at ho
    exact join_own ho HOK.out hn
   have HJ:=Hd hJ
   have HG:=Hd (show allGood L = true by have:=hgd.out;rwa [List.take_length] at this)
   clear hJ hgd
   go_wp2_with (go_at_call 103;refine HJ.out.mono ?_;rintro e w1 ⟨rfl,hb1⟩)
   go_ret2
   exact laid_good HG.out rfl (HB.out.trans (hb1.mono hsz))
theorem IsToks.row {B k b off:Nat} {w:World} {L:List Tok} (h:IsToks B w (some ⟨b,off,none⟩) L) (hlt:k < L.length) :
 b < B ∧ w.cell? ⟨b,off + k * 4,none⟩ = some (.int .i64 L[k].kind) ∧ w.cell? ⟨b,off + k * 4 + 1,none⟩ = some (.int .i64 L[k].place) ∧ w.cell? ⟨b,off + k * 4 + 2,none⟩ = some (.int .i64 L[k].num) ∧ w.cell? ⟨b,off + k * 4 + 3,none⟩ = some (.string L[k].text):=by
 obtain ⟨b',off',he,hb,hr⟩:=h (by intro e;rw [e] at hlt;simp at hlt)
 simp only [Option.some.injEq,Addr.mk.injEq] at he
 obtain ⟨rfl,rfl,_⟩:=he
 exact ⟨hb,hr k L[k] (List.getElem?_eq_getElem hlt)⟩
theorem info_tok:(Tryz.prog.info? 151).map (fun i=>(i.zero,i.size,i.bytes)) = some (some (.agg #[.int .i64 0,.int .i64 0,.int .i64 0,.string ⟨#[]⟩]),4,40):=by kernel_rfl
def flatL (L:List Tok):List Value:=L.flatMap Tok.cells
theorem flatL_length (L:List Tok):(flatL L).length = L.length * 4:=by
 induction L with
 | nil=>rfl
 | cons t L ih=>simp only [flatL,List.flatMap_cons,List.length_append,List.length_cons] at ih ⊢;rw [ih];simp [Tok.cells];omega
theorem flatL_get (L:List Tok) (i:Nat) (h:i < L.length):(flatL L)[i * 4]? = some (.int .i64 L[i].kind) ∧ (flatL L)[i * 4 + 1]? = some (.int .i64 L[i].place) ∧ (flatL L)[i * 4 + 2]? = some (.int .i64 L[i].num) ∧ (flatL L)[i * 4 + 3]? = some (.string L[i].text):=by
 induction L generalizing i with
 | nil=>simp at h
 | cons t L ih=>
   have hf:flatL (t :: L) = [.int .i64 t.kind,.int .i64 t.place,.int .i64 t.num,.string t.text] ++ flatL L:=rfl
   match i,h with
   | 0,_=>rw [hf];simp
   | i + 1,h=>
     have:=ih i (by simpa using h)
     rw [hf]
     refine ⟨?_,?_,?_,?_⟩
     ·rw [List.getElem?_append_right (by simp;omega)];simpa [show (i + 1) * 4 - 4 = i * 4 by omega] using this.1
     ·rw [List.getElem?_append_right (by simp;omega)];simpa [show (i + 1) * 4 + 1 - 4 = i * 4 + 1 by omega] using this.2.1
     ·rw [List.getElem?_append_right (by simp;omega)];simpa [show (i + 1) * 4 + 2 - 4 = i * 4 + 2 by omega] using this.2.2.1
     ·rw [List.getElem?_append_right (by simp;omega)];simpa [show (i + 1) * 4 + 3 - 4 = i * 4 + 3 by omega] using this.2.2.2
theorem TokRow.below {B b off:Nat} {w w':World} {L:List Tok} (h:TokRow w b off L) (hb:Below B w w') (hlt:b < B):TokRow w' b off L:=fun i t ht=>by
 obtain ⟨h0,h1,h2,h3⟩:=h i t ht
 rw [hb.cell hlt,hb.cell hlt,hb.cell hlt,hb.cell hlt]
 exact ⟨h0,h1,h2,h3⟩
theorem IsToks.more {B B':Nat} {w:World} {a:Option Addr} {L:List Tok} (h:IsToks B w a L) (hB:B ≤ B'):IsToks B' w a L:=fun hn=>by
 obtain ⟨b,off,rfl,hlt,hr⟩:=h hn
 exact ⟨b,off,rfl,Nat.lt_of_lt_of_le hlt hB,hr⟩
end Go.Proofs.YtkokdafkjjcgoaaGreatDoor
namespace Go.Proofs.YtkokdafkjjcgoaaGreatDoor
open Go.RowKit
theorem laidVars_mem {w:World}:∀ {l:List (String × DataW Unit)} {ps:List MemPlace},DataW.LaidVars Tryz.prog w l ps → ∀ (n:String) (d:DataW Unit),(n,d) ∈ l →
 ∃ g t cs fuel p,Tryz.prog.globalNamed n = some g ∧ (Tryz.prog.globals[g]?).map (·.type) = some t ∧ w.var? Tryz.prog n = some cs ∧ DataW.trod (fun _=>()) Tryz.prog w 0 (fun _=>true) false fuel t cs.toList = some (d,p)
 | [],_,_,_,_,hm=>by cases hm
 | (n',d') :: r,ps,h,n,d,hm=>by
   obtain ⟨g,t,cs,fuel,p,q,h1,h2,h3,h4,h5,_⟩:=h
   rcases List.mem_cons.1 hm with e | hm'
   ·simp only [Prod.mk.injEq] at e
    obtain ⟨rfl,rfl⟩:=e
    exact ⟨g,t,cs,fuel,p,h1,h2,h3,h4⟩
   ·exact laidVars_mem h5 n d hm'
theorem strs_of_tab {w:World} {base fuel n:Nat} {sp:Nat → Bool} {held:Bool} {t e:TypeId} {cs:List Value} {zs:List (List UInt8)} {p:List MemPlace}
 (ht:Tryz.prog.underlying t = some (.array n e)) (he:Tryz.prog.underlying e = some .string) (hce:Tryz.prog.cellsOf e = 1) (hct:Tryz.prog.cellsOf t = n)
 (h:DataW.trod (fun _=>()) Tryz.prog w base sp held fuel t cs = some (.agg (zs.map fun z=>.lit (.string z)),p)):∀ j,j < zs.length → cs[j]? = some (.string ⟨(zs.getD j []).toArray⟩):=by
 obtain ⟨xs,m,_,hx,hl,hxl,hf⟩:=DataW.trod_array ht h
 simp only [Prod.mk.injEq,DataW.agg.injEq] at hx
 have hlen:zs.length = n:=by have:=congrArg List.length hx.1;simp at this;omega
 intro j hj
 have hjn:j < n:=by omega
 have h1:=hf j hjn
 rw [hce,Nat.mul_one] at h1
 have hjc:j < cs.length:=by omega
 rw [List.drop_eq_getElem_cons hjc,List.take_succ_cons,List.take_zero,List.getElem?_eq_getElem (by omega)] at h1
 obtain ⟨s,e1,e2,_⟩:=DataW.trod_string he h1
 simp only [List.cons.injEq,and_true] at e1
 rw [List.getElem?_eq_getElem hjc,e1]
 have h3:(xs.map (·.1))[j]? = some (.lit (.string s.data.toList)):=by
  rw [List.getElem?_map,List.getElem?_eq_getElem (by omega),e2];rfl
 rw [← hx.1,List.getElem?_map,List.getElem?_eq_getElem hj] at h3
 simp only [Option.map_some,Option.some.injEq,DataW.lit.injEq,Lit.string.injEq] at h3
 rw [getD_lt _ _ hj,h3]
theorem keysG:Tryz.prog.globalNamed "catapult/lex.keys" = some 1:=by kernel_rfl
theorem keysT:(Tryz.prog.globals[1]?).map (·.type) = some 247:=by kernel_rfl
theorem marksG:Tryz.prog.globalNamed "catapult/lex.marks" = some 0:=by kernel_rfl
theorem marksTy:(Tryz.prog.globals[0]?).map (·.type) = some 241:=by kernel_rfl
theorem powTy:(Tryz.prog.globals[3]?).map (·.type) = some 292:=by kernel_rfl
theorem cells20s:Tryz.prog.cellsOf 247 = 20:=by kernel_rfl
theorem cells45s:Tryz.prog.cellsOf 241 = 45:=by kernel_rfl
theorem cells20u:Tryz.prog.cellsOf 292 = 20:=by kernel_rfl
theorem cellsS:Tryz.prog.cellsOf 9 = 1:=by kernel_rfl
theorem cellsU:Tryz.prog.cellsOf 74 = 1:=by kernel_rfl
theorem keys_laid {w:World} {l:List (String × DataW Unit)} (h:laidMet Tryz.prog l w) (hm:("catapult/lex.keys",Rows.laid_catapult_lex_keys) ∈ l):KeysAt w:=by
 obtain ⟨ps,hv,_⟩:=h
 obtain ⟨g,t,cs,fuel,p,h1,h2,h3,h4⟩:=laidVars_mem hv _ _ hm
 obtain rfl:=Option.some.inj (keysG.symm.trans h1)
 obtain rfl:=Option.some.inj (keysT.symm.trans h2)
 have h5:=strs_of_tab (zs:=keyT.map (·.data.toList)) Tryz.underlying247 Tryz.underlying9 cellsS cells20s h4
 intro j hj
 rw [Nat.zero_add,World.var?_cell keysG h3 j]
 have h6:=h5 j (by rw [List.length_map];exact hj)
 rw [getD_lt _ _ (by rw [List.length_map];exact hj),List.getElem_map] at h6
 rw [getD_lt _ _ hj]
 simpa using h6
theorem marks_laid {w:World} {l:List (String × DataW Unit)} (h:laidMet Tryz.prog l w) (hm:("catapult/lex.marks",Rows.laid_catapult_lex_marks) ∈ l):MarksAt w:=by
 obtain ⟨ps,hv,_⟩:=h
 obtain ⟨g,t,cs,fuel,p,h1,h2,h3,h4⟩:=laidVars_mem hv _ _ hm
 obtain rfl:=Option.some.inj (marksG.symm.trans h1)
 obtain rfl:=Option.some.inj (marksTy.symm.trans h2)
 have h5:=strs_of_tab (zs:=markT.map (·.data.toList)) Tryz.underlying241 Tryz.underlying9 cellsS cells45s h4
 intro j hj
 rw [Nat.zero_add,World.var?_cell marksG h3 j]
 have h6:=h5 j (by rw [List.length_map];exact hj)
 rw [getD_lt _ _ (by rw [List.length_map];exact hj),List.getElem_map] at h6
 rw [getD_lt _ _ hj]
 simpa using h6
theorem pow_laid {w:World} {l:List (String × DataW Unit)} (h:laidMet Tryz.prog l w) (hm:("internal/strconv.uint64pow10",Rows.laid_internal_strconv_uint64pow10) ∈ l):PowAt w ∧ 3 < w.heap.size:=by
 obtain ⟨ps,hv,_⟩:=h
 obtain ⟨g,t,cs,fuel,p,h1,h2,h3,h4⟩:=laidVars_mem hv _ _ hm
 obtain rfl:=Option.some.inj (powG.symm.trans h1)
 obtain rfl:=Option.some.inj (powTy.symm.trans h2)
 have h5:=Lib.cells_of_tab (k:=.u64) (zs:=Lib.pow10Tab) Tryz.underlying292 Tryz.underlying74 cellsU cells20u h4
 have h6:PowAt w:=by
  unfold PowAt Lib.TabIs
  rw [h3,← h5]
 refine ⟨h6,?_⟩
 have h7:=Lib.TabIs.cell h6 powG 0 (by decide)
 exact World.block_lt_of_cell? w _ h7
def spB (c:UInt8):Bool:=decide (9 ≤ c.toNat ∧ c.toNat ≤ 13 ∨ c.toNat = 32)
inductive Gap where
 | stop
 | bad
 | skip (n:Nat)
def gap:List UInt8 → Gap
 | []=>.stop
 | c :: l=>
   if spB c = true then .skip 1
   else if Lib.hasPrefix (c :: l) [47,47] = true then (if Lib.indexByte (c :: l) 10 < 0 then .skip (l.length + 1) else .skip ((Lib.indexByte (c :: l) 10).toNat + 1))
   else if Lib.hasPrefix (c :: l) [47,42] = true then (if Lib.index l.tail [42,47] < 0 then .bad else .skip ((Lib.index l.tail [42,47]).toNat + 4))
   else .stop
theorem gap_le {L:List UInt8} {m:Nat} (h:gap L = .skip m):0 < m ∧ m ≤ L.length:=by
 match L,h with
 | [],h=>simp [gap] at h
 | c :: l,h=>
   rw [gap] at h
   split at h
   ·obtain rfl:=Gap.skip.inj h;simp
   ·split at h
    ·split at h
     ·obtain rfl:=Gap.skip.inj h;simp
     ·rename_i h1
      obtain rfl:=Gap.skip.inj h
      obtain ⟨o,ho⟩:∃ o:Nat,Lib.indexByte (c :: l) 10 = o:=⟨(Lib.indexByte (c :: l) 10).toNat,by omega⟩
      have h2:=(List.getElem?_eq_some_iff.1 (Lib.indexByte_some ho).1).1
      omega
    ·split at h
     ·split at h
      ·cases h
      ·rename_i h1
       obtain rfl:=Gap.skip.inj h
       have h2:=Lib.index_room l.tail [42,47] (by omega)
       simp only [List.length_tail,List.length_cons,List.length_nil] at h2 ⊢
       omega
     ·cases h
def addGap (m:Nat):Nat × Bool → Nat × Bool
 | (k,b)=>(m + k,b)
theorem addGap_add (m n:Nat) (p:Nat × Bool):addGap m (addGap n p) = addGap (m + n) p:=by obtain ⟨k,b⟩:=p;simp [addGap,Nat.add_assoc]
def blankF:Nat → List UInt8 → Nat × Bool
 | 0,_=>(0,true)
 | n + 1,L=>match gap L with
   | .stop=>(0,true)
   | .bad=>(0,false)
   | .skip m=>addGap m (blankF n (L.drop m))
theorem blankF_eq:∀ (n n':Nat) (L:List UInt8),L.length < n → L.length < n' → blankF n L = blankF n' L
 | 0,_,_,h,_=>by omega
 | _ + 1,0,_,_,h=>by omega
 | n + 1,n' + 1,L,h,h'=>by
   unfold blankF
   split
   ·rfl
   ·rfl
   ·rename_i m hm
    have:=gap_le hm
    rw [blankF_eq n n' (L.drop m) (by rw [List.length_drop];omega) (by rw [List.length_drop];omega)]
def blankL (L:List UInt8):Nat × Bool:=blankF (L.length + 1) L
theorem blankL_stop {L:List UInt8} (h:gap L = .stop):blankL L = (0,true):=by unfold blankL blankF;rw [h]
theorem blankL_bad {L:List UInt8} (h:gap L = .bad):blankL L = (0,false):=by unfold blankL blankF;rw [h]
theorem blankL_skip {L:List UInt8} {m:Nat} (h:gap L = .skip m):blankL L = addGap m (blankL (L.drop m)):=by
 have h1:blankL L = addGap m (blankF L.length (L.drop m)):=by unfold blankL;conv=>lhs;unfold blankF;rw [h]
 have:=gap_le h
 rw [h1,blankL,blankF_eq L.length ((L.drop m).length + 1) _ (by rw [List.length_drop];omega) (by omega)]
def sfx (s:ByteArray) (k:Nat):List UInt8:=s.data.toList.drop k
theorem sfx_length (s:ByteArray) (k:Nat):(sfx s k).length = s.size - k:=by simp [sfx]
theorem sfx_drop (s:ByteArray) (k m:Nat):(sfx s k).drop m = sfx s (k + m):=by simp [sfx]
theorem sfx_cons (s:ByteArray) (k:Nat) (h:k < s.size):sfx s k = s[k] :: sfx s (k + 1):=by
 rw [sfx,sfx,List.drop_eq_getElem_cons (by simpa using h)];rfl
theorem sfx_nil (s:ByteArray) (k:Nat) (h:s.size ≤ k):sfx s k = []:=by rw [sfx,List.drop_eq_nil_iff];simpa using h
theorem sfx_extract (s:ByteArray) (k:Nat):(s.extract k s.size).data.toList = sfx s k:=by
 rw [ByteArray.data_extract,Array.toList_extract,List.extract_eq_take_drop,sfx,List.take_of_length_le]
 simp
theorem extract_take (s:ByteArray) (a n:Nat):(s.extract a (a + n)).data.toList = (sfx s a).take n:=by
 rw [ByteArray.data_extract,Array.toList_extract,List.extract_eq_take_drop,sfx,Nat.add_sub_cancel_left]
theorem int_cases {o:Int} (h:-1 ≤ o):o = -1 ∨ ∃ n:Nat,o = n:=by
 by_cases h0:o < 0
 ·left;omega
 ·right;exact ⟨o.toNat,by omega⟩
theorem spB_no {c:UInt8} (h:spB c = false):¬ (9 ≤ c.toNat ∧ c.toNat ≤ 13) ∧ c.toNat ≠ 32:=by
 have:=of_decide_eq_false h
 omega
theorem gap_space {s:ByteArray} {k:Nat} (hk:k < s.size) (h:spB s[k] = true):gap (sfx s k) = .skip 1:=by rw [sfx_cons s k hk,gap,if_pos h]
theorem gap_line {s:ByteArray} {k:Nat} (hk:k < s.size) (h:spB s[k] = false) (h1:Lib.hasPrefix (sfx s k) [47,47] = true) :
 gap (sfx s k) = if Lib.indexByte (sfx s k) 10 < 0 then .skip (s.size - k) else .skip ((Lib.indexByte (sfx s k) 10).toNat + 1):=by
 have hl:(sfx s (k + 1)).length + 1 = s.size - k:=by rw [sfx_length];omega
 rw [← hl]
 rw [sfx_cons s k hk] at h1 ⊢
 rw [gap,if_neg (by simp [h]),if_pos h1]
theorem gap_star {s:ByteArray} {k:Nat} (hk:k < s.size) (h:spB s[k] = false) (h1:Lib.hasPrefix (sfx s k) [47,47] = false) (h2:Lib.hasPrefix (sfx s k) [47,42] = true) :
 gap (sfx s k) = if Lib.index (sfx s (k + 2)) [42,47] < 0 then .bad else .skip ((Lib.index (sfx s (k + 2)) [42,47]).toNat + 4):=by
 rw [show sfx s (k + 2) = (sfx s (k + 1)).tail by rw [← List.drop_one,sfx_drop]]
 rw [sfx_cons s k hk] at h1 h2 ⊢
 rw [gap,if_neg (by simp [h]),if_neg (by simp [h1]),if_pos h2]
theorem gap_none {s:ByteArray} {k:Nat} (hk:k < s.size) (h:spB s[k] = false) (h1:Lib.hasPrefix (sfx s k) [47,47] = false) (h2:Lib.hasPrefix (sfx s k) [47,42] = false):gap (sfx s k) = .stop:=by
 rw [sfx_cons s k hk] at h1 h2 ⊢
 rw [gap,if_neg (by simp [h]),if_neg (by simp [h1]),if_neg (by simp [h2])]
theorem gap_end {s:ByteArray} {k:Nat} (hk:s.size ≤ k):gap (sfx s k) = .stop:=by rw [sfx_nil s k hk];rfl
theorem prefix_two {s:ByteArray} {k:Nat} {a c:UInt8} (h:Lib.hasPrefix (sfx s k) [a,c] = true):k + 2 ≤ s.size:=by
 have:=Lib.hasPrefix_le h
 rw [sfx_length] at this
 simp at this;omega
theorem indexByte_at:∀ {l:List UInt8} {c:UInt8} {n:Nat},l[n]? = some c → (∀ k,k < n → l[k]? ≠ some c) → Lib.indexByte l c = n
 | [],_,_,h,_=>by simp at h
 | x :: l,c,0,h,_=>by
   simp at h
   simp [Lib.indexByte,h]
 | x :: l,c,n + 1,h,hn=>by
   have h0:=hn 0 (by omega)
   simp at h0 h
   have ih:=indexByte_at (l:=l) (c:=c) (n:=n) h (fun k hk=>by have:=hn (k + 1) (by omega);simpa using this)
   unfold Lib.indexByte
   rw [ih]
   have e1:((n:Int) == -1) = false:=by rw [beq_eq_false_iff_ne];omega
   simp [h0,e1]
theorem indexByte_no {l:List UInt8} {c:UInt8} (h:∀ k:Nat,l[k]? ≠ some c):Lib.indexByte l c = -1:=by
 rcases int_cases (Lib.indexByte_ge l c) with e | ⟨n,e⟩
 ·exact e
 ·exact absurd (Lib.indexByte_some e).1 (h n)
def blankAt (s:ByteArray) (k:Nat):Nat × Bool:=addGap k (blankL (sfx s k))
theorem blankAt_stop {s:ByteArray} {k:Nat} (h:gap (sfx s k) = .stop):blankAt s k = (k,true):=by rw [blankAt,blankL_stop h];rfl
theorem blankAt_bad {s:ByteArray} {k:Nat} (h:gap (sfx s k) = .bad):blankAt s k = (k,false):=by rw [blankAt,blankL_bad h];rfl
theorem blankAt_skip {s:ByteArray} {k m:Nat} (h:gap (sfx s k) = .skip m):blankAt s k = blankAt s (k + m):=by
 rw [blankAt,blankL_skip h,addGap_add,sfx_drop];rfl
theorem blankF_ends:∀ (n:Nat) (L:List UInt8),L.length < n → (blankF n L).1 ≤ L.length ∧ ((blankF n L).2 = true → gap (L.drop (blankF n L).1) = .stop) ∧ ((blankF n L).2 = false → gap (L.drop (blankF n L).1) = .bad)
 | 0,_,h=>by omega
 | n + 1,L,h=>by
   unfold blankF
   split
   ·rename_i hg;exact ⟨by simp,fun _=>by simpa using hg,fun e=>by cases e⟩
   ·rename_i hg;exact ⟨by simp,fun e=>(by cases e),fun _=>by simpa using hg⟩
   ·rename_i m hm
    have hb:=gap_le hm
    obtain ⟨h1,h2,h3⟩:=blankF_ends n (L.drop m) (by rw [List.length_drop];omega)
    rcases hx:blankF n (L.drop m) with ⟨k,b⟩
    rw [hx] at h1 h2 h3
    rw [List.length_drop] at h1
    rw [List.drop_drop] at h2 h3
    exact ⟨by show m + k ≤ _;simp at h1;omega,h2,h3⟩
theorem blankL_ends (L:List UInt8):(blankL L).1 ≤ L.length ∧ ((blankL L).2 = true → gap (L.drop (blankL L).1) = .stop) ∧ ((blankL L).2 = false → gap (L.drop (blankL L).1) = .bad):=blankF_ends _ L (by omega)
theorem blankAt_le {s:ByteArray} {k:Nat} (h:k ≤ s.size):k ≤ (blankAt s k).1 ∧ (blankAt s k).1 ≤ s.size:=by
 have:=(blankL_ends (sfx s k)).1
 rw [sfx_length] at this
 show k ≤ k + (blankL (sfx s k)).1 ∧ k + (blankL (sfx s k)).1 ≤ _
 omega
def hexN (c:UInt8):Option Nat:=
 if 48 ≤ c.toNat ∧ c.toNat ≤ 57 then some (c.toNat - 48)
 else if 97 ≤ c.toNat ∧ c.toNat ≤ 102 then some (c.toNat - 87)
 else if 65 ≤ c.toNat ∧ c.toNat ≤ 70 then some (c.toNat - 55)
 else none
def hexI (c:UInt8):Int:=match hexN c with
 | some d=>d
 | none=>-1
def pieceL:List UInt8 → Option (UInt8 × Nat)
 | []=>none
 | c :: l=>
   if c.toNat < 32 ∨ 126 < c.toNat then none
   else if c.toNat ≠ 92 then some (c,1)
   else match l with
    | []=>none
    | d :: r=>
      if d.toNat = 110 then some (10,2)
      else if d.toNat = 116 then some (9,2)
      else if d.toNat = 114 then some (13,2)
      else if d.toNat = 48 then (match r with
       | []=>some (0,2)
       | x :: _=>if digB x = true then none else some (0,2))
      else if d.toNat = 92 ∨ d.toNat = 39 ∨ d.toNat = 34 then some (d,2)
      else if d.toNat = 120 then (match r with
       | x :: y :: _=>(match hexN x,hexN y with
         | some a,some b=>some (UInt8.ofNat (16 * a + b),4)
         | _,_=>none)
       | _=>none)
      else none
theorem pieceL_le {L:List UInt8} {b:UInt8} {m:Nat} (h:pieceL L = some (b,m)):0 < m ∧ m ≤ L.length:=by
 unfold pieceL at h
 repeat' split at h
 all_goals first
  | (cases h;done)
  | (simp only [Option.some.injEq,Prod.mk.injEq] at h;obtain ⟨_,rfl⟩:=h;simp)
inductive QEnd where
 | good (l:List UInt8) (n:Nat)
 | bad (e:Int)
def consQ (b:UInt8) (m:Nat):QEnd → QEnd
 | .good l n=>.good (b :: l) (m + n)
 | .bad e=>.bad e
def quotedF (q:UInt8):Nat → List UInt8 → QEnd
 | 0,_=>.bad 71
 | _ + 1,[]=>.bad 71
 | n + 1,c :: l=>
   if c = q then .good [] 1
   else if c.toNat = 10 then .bad 71
   else match pieceL (c :: l) with
    | none=>.bad 72
    | some (b,m)=>consQ b m (quotedF q n ((c :: l).drop m))
theorem quotedF_eq (q:UInt8):∀ (n n':Nat) (L:List UInt8),L.length < n → L.length < n' → quotedF q n L = quotedF q n' L
 | 0,_,_,h,_=>by omega
 | _ + 1,0,_,_,h=>by omega
 | n + 1,n' + 1,[],_,_=>rfl
 | n + 1,n' + 1,c :: l,h,h'=>by
   unfold quotedF
   split
   ·rfl
   ·split
    ·rfl
    ·split
     ·rfl
     ·rename_i b m hm
      have:=pieceL_le hm
      rw [quotedF_eq q n n' ((c :: l).drop m) (by rw [List.length_drop];omega) (by rw [List.length_drop];omega)]
def quotedL (q:UInt8) (L:List UInt8):QEnd:=quotedF q (L.length + 1) L
theorem quotedL_nil (q:UInt8):quotedL q [] = .bad 71:=rfl
theorem quotedL_cons (q c:UInt8) (l:List UInt8):quotedL q (c :: l) = (if c = q then .good [] 1
 else if c.toNat = 10 then .bad 71
 else match pieceL (c :: l) with
  | none=>.bad 72
  | some (b,m)=>consQ b m (quotedL q ((c :: l).drop m))):=by
 unfold quotedL
 conv=>lhs;unfold quotedF
 split
 ·rfl
 ·split
  ·rfl
  ·split
   ·rfl
   ·rename_i b m hm
    have:=pieceL_le hm
    simp only [List.length_cons] at this
    rw [quotedF_eq q (c :: l).length _ ((c :: l).drop m) (by rw [List.length_drop,List.length_cons];omega) (Nat.lt_succ_self _)]
def valL (base:Nat):Nat → List UInt8 → Option Nat
 | acc,[]=>some acc
 | acc,c :: l=>match hexN c with
   | some d=>if d < base then valL base (acc * base + d) l else none
   | none=>none
def uEnd (L:List UInt8):Bool:=decide (1 < L.length) && L.getLast?.any fun c=>decide (c.toNat = 117 ∨ c.toNat = 85)
def bodyN (L:List UInt8):Option Nat:=
 match L with
 | a :: b :: c :: r=>if a.toNat = 48 then (if b.toNat = 120 ∨ b.toNat = 88 then valL 16 0 (c :: r) else none) else valL 10 0 L
 | [a,_]=>if a.toNat = 48 then none else valL 10 0 L
 | [_]=>valL 10 0 L
 | []=>none
def numW (L:List UInt8):Option (Nat × Bool):=
 match bodyN (if uEnd L = true then L.dropLast else L) with
 | none=>none
 | some n=>if n < 4294967296 then some (n,uEnd L || decide (2147483648 ≤ n)) else none
inductive OEnd where
 | good (t:Tok) (n:Nat)
 | bad (e:Int)
def strOf (l:List UInt8):ByteArray:=⟨l.toArray⟩
def sgn (b:UInt8):Int:=if b.toNat < 128 then b.toNat else (b.toNat:Int) - 256
def wordE (L:List UInt8):OEnd:=
 if isKeyB (strOf (L.take (wlen L))) = true then .good ⟨2,0,0,strOf (L.take (wlen L))⟩ (wlen L)
 else if 31 < wlen L then .bad 3
 else .good ⟨1,0,0,strOf (L.take (wlen L))⟩ (wlen L)
def numE (L:List UInt8):OEnd:=
 match numW (L.take (wlen L)) with
 | none=>.bad 73
 | some (n,u)=>.good ⟨3,0,n,if u = true then uText else ⟨#[]⟩⟩ (wlen L)
def charE:QEnd → OEnd
 | .bad e=>.bad e
 | .good [b] n=>.good ⟨3,0,sgn b,⟨#[]⟩⟩ (n + 1)
 | .good _ _=>.bad 72
def strE:QEnd → OEnd
 | .bad e=>.bad e
 | .good l n=>.good ⟨4,0,0,strOf l⟩ (n + 1)
def markE (L:List UInt8):OEnd:=
 match markT.find? fun m=>m.data.toList.isPrefixOf L with
 | none=>.bad 70
 | some m=>.good ⟨5,0,0,m⟩ m.size
def oneL:List UInt8 → OEnd
 | []=>.bad 70
 | c :: l=>
   if letB c = true then wordE (c :: l)
   else if digB c = true then numE (c :: l)
   else if c.toNat = 39 then charE (quotedL 39 l)
   else if c.toNat = 34 then strE (quotedL 34 l)
   else markE (c :: l)
inductive TEnd where
 | good (L:List Tok)
 | bad (k:Nat) (e:Int)
inductive TStep where
 | done (e:TEnd)
 | more (n:Nat) (out:List Tok)
def isStr (t:Tok):Bool:=decide (t.kind = 4)
def joins (M:List UInt8) (out:List Tok):Bool:=M.head?.any (fun c=>decide (c.toNat = 34)) && out.getLast?.any isStr
def glue (out:List Tok) (x:ByteArray):List Tok:=match out.getLast? with
 | none=>[]
 | some t=>out.dropLast ++ [{ t with text:=t.text ++ x }]
def putTok (M:List UInt8) (p:Nat) (out:List Tok) (t:Tok):List Tok:=if joins M out = true then glue out t.text else out ++ [{ t with place:=p }]
def endStep (n:Nat) (out:List Tok):TStep:=match out.getLast? with
 | none=>.more n out
 | some t=>if 4096 < t.text.size then .done (.bad t.place.toNat 3) else .more n out
def tokStep (k:Nat) (L:List UInt8) (out:List Tok):TStep:=
 match blankL L with
 | (b,false)=>.done (.bad (k + b) 71)
 | (b,true)=>
   if L.drop b = [] then .done (.good out)
   else if joins (L.drop b) out = false ∧ 16384 ≤ out.length then .done (.bad (k + b) 3)
   else match oneL (L.drop b) with
    | .bad e=>.done (.bad (k + b) e)
    | .good t n=>endStep (b + n) (putTok (L.drop b) (k + b) out t)
def tokF:Nat → Nat → List UInt8 → List Tok → TEnd
 | 0,_,_,out=>.good out
 | f + 1,k,L,out=>match tokStep k L out with
   | .done e=>e
   | .more n out'=>tokF f (k + n) (L.drop n) out'
def tokE (s:ByteArray):TEnd:=if 65536 < s.size then .bad 0 3 else tokF (s.size + 1) 0 s.data.toList []
def MaxLenAt (w:World):Prop:=∃ m:Int,w.cell? ⟨2,0,none⟩ = some (.int .i64 m)
theorem MaxLenAt.below {w w':World} (h:MaxLenAt w) (hb:Below w.heap.size w w'):MaxLenAt w':=by
 obtain ⟨m,hm⟩:=h
 exact ⟨m,by rw [hb.cell (World.block_lt_of_cell? w _ hm)];exact hm⟩
theorem MaxLenAt.drewN {w:World} (h:MaxLenAt w) (n:Nat):MaxLenAt (w.drewN n):=h
theorem MaxLenAt.drew {w:World} (h:MaxLenAt w):MaxLenAt w.drew:=h
theorem MaxLenAt.grown {w w':World} {b:Nat} (h:MaxLenAt w) (hg:w.grownBy w' (some b)) (hb:2 < b):MaxLenAt w':=by
 obtain ⟨m,hm⟩:=h
 refine ⟨m,?_⟩
 have hlt:=World.block_lt_of_cell? w _ hm
 unfold World.cell? at hm ⊢
 rw [hg.block _ hlt (by simp;omega)];exact hm
end Go.Proofs.YtkokdafkjjcgoaaGreatDoor
