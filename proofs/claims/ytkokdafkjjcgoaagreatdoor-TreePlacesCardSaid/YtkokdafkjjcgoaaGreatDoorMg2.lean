/- strings.Builder's writing methods over this translation (the -/
import Derived.Test.YtkokdafkjjcgoaaGreatDoorMg1
import Derived.Lib.Builder
import Derived.Laws.Externs
import Derived.Deep.RegionWith
import Derived.Deep.RegionHeld3
import Derived.Lib.QuietBelow
namespace Go.Proofs.YtkokdafkjjcgoaaGreatDoor
open Go.RowKit
theorem bsize:(Tryz.prog.info? 122).map (·.size) = some 2:=by kernel_rfl
theorem blies:liesAt Tryz.prog Tryz.prog.depth 122 (2 / Tryz.prog.cellsOf 122) 0 122 1 = true:=by kernel_rfl
theorem binfo8:(Tryz.prog.info? 5).map (fun i=>(i.zero,i.size,i.bytes)) = some (some (.int .u8 0),1,1):=by kernel_rfl
set_option maxRecDepth 100000 in
theorem bcheck (B b:Nat) (bs:List Value) (w:World) (h:Lib.IsBuilder 122 5 B b bs w) :
 Calls Tryz.prog 113 #[.pointer (some ⟨b,0,none⟩)] w fun e w'=>e = .returned (.tuple #[]) ∧ (Lib.BuilderAt 122 5 B b (.pointer (some ⟨b,0,none⟩)) bs w' ∧ Below B w w'):=by
 obtain ⟨j,hj,hjs⟩:=Option.map_eq_some_iff.1 bsize
 rcases h with h | h
 ·have h0:=h.cell0
  have hsh:=h.shape
  have hfz:=h.frozen0
  have hfin:=Hd (h.used (.pointer (some ⟨b,0,none⟩)))
  have hbel:=Hd ((Below.refl B w).setCell (p:=⟨b,0,none⟩) h.1 (.pointer (some ⟨b,0,none⟩)))
  clear h
  go_enter Tryz.func113,Tryz.ntmps113
  go_wp2
  rw [Lib.run_to_unsafe w ⟨b,0,none⟩ Tryz.underlying119 Tryz.underlying192 hj (by rw [hjs];decide) hsh (Nat.zero_lt_succ 1)]
  simp only [Result.andThen]
  rw [Oper.upon_value]
  go_wp2
  rw [run_callFunc_extern Tryz.func148 (by kernel_rfl) (by kernel_rfl) (by kernel_rfl) (e:=Extern.AbiNoEscape.same) (by kernel_rfl)]
  rw [Lib.run_noEscape]
  simp only [Result.andThen]
  rw [Oper.upon_value]
  go_wp2
  rw [Lib.run_from_unsafe w ⟨b,0,none⟩ Tryz.underlying192 Tryz.underlying119 hj hsh blies]
  simp only [Result.andThen]
  rw [Oper.upon_value]
  go_wp2
  go_end0
  exact ⟨rfl,hfin.out,hbel.out⟩
 ·have h0:=h.cell0
  have hfin:=Hd h
  clear h
  go_enter Tryz.func113,Tryz.ntmps113
  go_wp2
  rw [Lib.run_neq_ptr_same w _ Tryz.underlying119 hj]
  go_wp2
  go_end0
  exact ⟨rfl,hfin.out,Below.refl B _⟩
theorem bput {B b:Nat} {bs':List Value} {v v':Value} {w2:World} (hB:B ≤ b) (hb2:w2.heap[b]? = some (.cells #[.pointer (some ⟨b,0,none⟩),v] 122 (0,0))) (hown':w2.ownsRow B 5 1 v' bs'.length bs') :
 Lib.BuilderAt 122 5 B b (.pointer (some ⟨b,0,none⟩)) bs' (w2.setCell ⟨b,1,none⟩ v'):=
 Lib.BuilderAt.put hB hb2 hown' (by decide)
set_option maxHeartbeats 1000000 in
theorem bbyte (B b:Nat) (bs:List Value) (c:Int) (w:World) (h:Lib.IsBuilder 122 5 B b bs w) (hlen:bs.length + 1 ≤ 140737488355328) (hBw:B ≤ w.heap.size) :
 Calls Tryz.prog 139 #[.pointer (some ⟨b,0,none⟩),.int .u8 c] w fun e w'=>e = .returned .nilIface ∧ (Lib.IsBuilder 122 5 B b (bs ++ [.int .u8 c]) w' ∧ Below B w w'):=by
 obtain ⟨i0,hi,hz0,hz1,hz2⟩:=info_parts binfo8
 go_enter Tryz.func139,Tryz.ntmps139
 go_wp2_with (go_at_call 113;refine (bcheck B b bs _ h).mono ?_)
 rintro e w1 ⟨rfl,h1,hb1⟩
 obtain ⟨hB,v,hbk,hown,hne⟩:=h1
 have c0:w1.cell? ⟨b,0,none⟩ = some (.pointer (some ⟨b,0,none⟩)):=by rw [Lib.cell_of_heap hbk];rfl
 have c1:w1.cell? ⟨b,1,none⟩ = some v:=by rw [Lib.cell_of_heap hbk];rfl
 go_wp2_with (at_builtin;refine wpList_append_own _ rfl _ _ 120 rfl B 5 i0 (.int .u8 0) 1 1 Tryz.underlying120 hi hz0 hz1 hz2 rfl (by decide) _ _ _ rfl (hown.alloc _) ⟨w1.heap.size,0,none⟩ 1 1 [.int .u8 c] rfl rfl ?c1 ?c2 ?c3 ?c4 ?c5 ?_)
 case c1=>exact cell_one _ _ _
 case c2=>intro u hu;simp at hu;subst hu;rfl
 case c3=>unfold maxLen;omega
 case c4=>omega
 case c5=>have:=hb1.size;simp;omega
 intro v' w2 hown' hgrow _
 have hlt:=lt_of_heap hbk
 have hb2:w2.heap[b]? = some (.cells #[.pointer (some ⟨b,0,none⟩),v] 122 (0,0)):=by
  rw [hgrow.block b (by simp;omega) (fun e=>hne e.symm),Lib.alloc_old w1 _ b hlt]
  exact hbk
 have d0:w2.cell? ⟨b,0,none⟩ = some (.pointer (some ⟨b,0,none⟩)):=by rw [Lib.cell_of_heap hb2];rfl
 have d1:w2.cell? ⟨b,1,none⟩ = some v:=by rw [Lib.cell_of_heap hb2];rfl
 have f1:w2.frozen? ⟨b,1,none⟩ = false:=Lib.frozen_of_heap hb2 1
 obtain ⟨g,cap,rfl⟩:∃ g cap,v' = .slice (some ⟨g,0,none⟩) (bs.length + 1) cap:=by
  rcases hown'.2 with ⟨_,h0⟩ | ⟨g,cap,cur,hv,_⟩
  ·omega
  ·exact ⟨g,cap,hv⟩
 go_wp2
 go_ret
 refine ⟨rfl,Or.inr (bput hB hb2 (by simpa using hown')),?_⟩
 exact ((hb1.alloc (by have:=hb1.size;omega) _).grown hgrow (by have:=hb1.size;simp;omega) (fun k hk=>(hown.lt k hk).1)).setCell (p:=⟨b,1,none⟩) hB _
set_option maxHeartbeats 1000000 in
theorem bstr (B b:Nat) (bs:List Value) (s:ByteArray) (w:World) (h:Lib.IsBuilder 122 5 B b bs w) (hlen:bs.length + s.size ≤ 140737488355328) (hBw:B ≤ w.heap.size) :
 Calls Tryz.prog 62 #[.pointer (some ⟨b,0,none⟩),.string s] w fun e w'=>e = .returned (.tuple #[.int .i64 s.size,.nilIface]) ∧ (Lib.IsBuilder 122 5 B b (bs ++ Lib.strCells s) w' ∧ Below B w w'):=by
 obtain ⟨i0,hi,hz0,hz1,hz2⟩:=info_parts binfo8
 go_enter Tryz.func62,Tryz.ntmps62
 go_wp2_with (go_at_call 113;refine (bcheck B b bs _ h).mono ?_)
 rintro e w1 ⟨rfl,h1,hb1⟩
 obtain ⟨hB,v,hbk,hown,hne⟩:=h1
 have c0:w1.cell? ⟨b,0,none⟩ = some (.pointer (some ⟨b,0,none⟩)):=by rw [Lib.cell_of_heap hbk];rfl
 have c1:w1.cell? ⟨b,1,none⟩ = some v:=by rw [Lib.cell_of_heap hbk];rfl
 go_wp2_with (at_builtin;refine Lib.wpList_append_own_string _ rfl _ _ 120 9 rfl B 5 i0 Tryz.underlying120 Tryz.underlying9 hi hz0 hz1 hz2 _ _ _ rfl hown s rfl ?c3 ?c4 ?c5 ?_)
 case c3=>unfold maxLen;omega
 case c4=>omega
 case c5=>have:=hb1.size;omega
 intro v' w2 hown' hgrow _
 have hlt:=lt_of_heap hbk
 have hb2:w2.heap[b]? = some (.cells #[.pointer (some ⟨b,0,none⟩),v] 122 (0,0)):=by
  rw [hgrow.block b hlt (fun e=>hne e.symm)]
  exact hbk
 have d0:w2.cell? ⟨b,0,none⟩ = some (.pointer (some ⟨b,0,none⟩)):=by rw [Lib.cell_of_heap hb2];rfl
 have d1:w2.cell? ⟨b,1,none⟩ = some v:=by rw [Lib.cell_of_heap hb2];rfl
 have f1:w2.frozen? ⟨b,1,none⟩ = false:=Lib.frozen_of_heap hb2 1
 have hfin:=Hd (bput (bs':=bs ++ Lib.strCells s) hB hb2 (by simpa [Lib.strCells] using hown'))
 have hbel:=Hd ((hb1.grown hgrow (by have:=hb1.size;omega) (fun k hk=>(hown.lt k hk).1)).setCell (p:=⟨b,1,none⟩) hB v')
 obtain ⟨ao,n',cap,rfl⟩:∃ ao n' cap,v' = .slice ao n' cap:=by
  rcases hown'.2 with ⟨hv,_⟩ | ⟨g,cap,cur,hv,_⟩
  ·exact ⟨_,_,_,hv⟩
  ·exact ⟨_,_,_,hv⟩
 go_wp2
 go_ret2
 exact ⟨rfl,Or.inr hfin.out,hbel.out⟩
theorem own_str {W:World} {B n:Nat} {v:Value} {l:List UInt8} (h:W.ownsRow B 5 1 v n (Lib.byteCells l)) :
 (convert 120 9 v).run Tryz.prog W = .ok (.string ⟨l.toArray⟩) W:=by
 obtain ⟨hl,h⟩:=h
 have hn:n = l.length:=by rw [Lib.byteCells_length] at hl;omega
 rcases h with ⟨rfl,h0⟩ | ⟨g,cap,cur,rfl,_,hg,_,_,_,htk⟩
 ·obtain rfl:l = []:=by apply List.eq_nil_of_length_eq_zero;omega
  exact Lib.run_convert_nil_bytes W _ _ 5 0 Tryz.underlying120 Tryz.underlying5 Tryz.underlying9
 ·subst hn
  exact run_convert_bytes_back W _ _ 5 _ cap l Tryz.underlying120 Tryz.underlying5 Tryz.underlying9 (Lib.bytes_of_row hg (by simpa using htk))
theorem bat_below {T e:TypeId} {B b:Nat} {p:Value} {bs:List Value} {W W':World} (h:Lib.BuilderAt T e B b p bs W) (hb:Below W.heap.size W W'):Lib.BuilderAt T e B b p bs W':=by
 obtain ⟨hB,v,hbk,hown,hne⟩:=h
 exact ⟨hB,v,by rw [hb.block b (lt_of_heap hbk)];exact hbk,hown.belowed hb,hne⟩
theorem isb_below {T e:TypeId} {B b:Nat} {bs:List Value} {W W':World} (h:Lib.IsBuilder T e B b bs W) (hb:Below W.heap.size W W'):Lib.IsBuilder T e B b bs W':=
 h.imp (bat_below · hb) (bat_below · hb)
set_option maxHeartbeats 1000000 in
theorem lexQuote_ok (s:ByteArray) (w:World) (hs:s.size ≤ 1048576) :
 Calls Tryz.prog 97 #[.string s] w fun e w'=>e = .returned (.string ⟨(quoteL s.data.toList).toArray⟩) ∧ Below w.heap.size w w':=by
 have hfresh:=Hd (Lib.fresh_isBuilder 122 5 w)
 go_enter Tryz.func97,Tryz.ntmps97
 go_wp2_with (go_at_call 139;refine (bbyte w.heap.size w.heap.size [] 34 _ hfresh.out (by simp) (by simp)).mono ?_)
 rintro e w1 ⟨rfl,hB1,hb1⟩
 have HB1:=Hd hB1
 have hsz1:=hb1.size
 clear hB1
 go_wp2_with fail
 go_loopw [4,8] (fun _ i wr=>∃ k:Nat,k ≤ s.size ∧ i = .int .i64 k ∧ Lib.IsBuilder 122 5 w.heap.size w.heap.size (Lib.byteCells (34 :: midL (s.data.toList.take k))) wr ∧ Below w.heap.size w wr) (fun _ i _=>s.size - (intOf i).toNat)
 case atStart=>exact ⟨0,Nat.zero_le _,rfl,HB1.out,((Below.refl _ _).alloc (Nat.le_refl _) _).trans hb1⟩
 case round=>
  obtain ⟨k,hk,rfl,hB,hbl⟩:=hrel
  have hmid:=midL_bd (s.data.toList.take k)
  have hl:(s.data.toList.take k).length ≤ k:=List.length_take_le _ _
  have HB:=Hd hB
  have hsz2:=hbl.size
  clear hB
  by_cases hlt:k < s.size
  ·have HS:=Hd (midL_snoc s k hlt)
   have hsp:=speltL_bd s[k] 34
   go_wp2_with (go_at_call 140;refine (lexSpelt_ok s[k] 34 _ (by decide)).mono ?_)
   rintro e w2 ⟨rfl,hb2⟩
   have hsz3:=hb2.size
   have HB2:=Hd (isb_below HB.out hb2)
   go_wp2_with (go_at_call 62;refine (bstr w.heap.size w.heap.size _ _ _ HB2.out (by rw [Lib.byteCells_length,size_mk,List.length_cons];omega) (by omega)).mono ?_)
   rintro e w3 ⟨rfl,hB3,hb3⟩
   have HB3:=Hd hB3
   clear hB3
   go_wp2
   go_roundw
   case rel=>exact ⟨k + 1,by omega,by go_num,by rw [HS.out,← List.cons_append,byteCells_append,← strCells_mk (speltL _ _)];exact HB3.out,(hbl.trans (hb2.mono hsz2)).trans hb3⟩
   case measure=>simp [intOf];omega
  ·obtain rfl:k = s.size:=by omega
   go_wp2_with (go_at_call 139;refine (bbyte w.heap.size w.heap.size _ 34 _ HB.out (by rw [Lib.byteCells_length,List.length_cons];omega) (by omega)).mono ?_)
   rintro e w2 ⟨rfl,hB2,hb2⟩
   have hsz3:=hb2.size
   have HB2:Hid (Lib.IsBuilder 122 5 w.heap.size w.heap.size (Lib.byteCells (quoteL s.data.toList)) w2):=by
    have h:=hB2
    rw [show s.data.toList.take s.size = s.data.toList from List.take_of_length_le (by simp)] at h
    show Lib.IsBuilder _ _ _ _ _ _
    rw [quoteL,byteCells_append];exact h
   clear hB2
   go_wp2_with (go_at_call 69;refine (Tryz.Builder_String_any w.heap.size w.heap.size (quoteL s.data.toList) _ HB2.out (by omega)).mono ?_)
   rintro e w3 ⟨rfl,hb3⟩
   go_wp2
   go_ret
   exact ⟨rfl,(hbl.trans hb2).trans hb3⟩
def MarksAt (w:World):Prop:=∀ j,j < markT.length → w.cell? ⟨0,0 + j,none⟩ = some (.string (markT.getD j ByteArray.empty))
theorem MarksAt.below {w w':World} (h:MarksAt w) (hb:Below w.heap.size w w'):MarksAt w':=fun j hj=>by
 have h1:=h j hj
 rw [hb.cell (World.block_lt_of_cell? w _ h1)];exact h1
theorem MarksAt.drewN {w:World} (h:MarksAt w) (n:Nat):MarksAt (w.drewN n):=h
theorem bcell {w w1:World} (hb:Below w.heap.size w w1):∀ b o,b < w.heap.size → w1.cell? ⟨b,o,none⟩ = w.cell? ⟨b,o,none⟩:=fun _ _ h=>hb.cell h
def Written (t:Tok) (w:World) (e:Ending) (w':World):Prop:=∃ x:ByteArray,e = .returned (.tuple #[.string x,.bool (goodB t)]) ∧ (goodB t = true → x.data.toList = wordL t) ∧ Below w.heap.size w w'
theorem written_mk {t:Tok} {w w':World} {x:ByteArray} {r:Bool} (h1:goodB t = r) (h2:r = true → x.data.toList = wordL t) (hb:Below w.heap.size w w'):Written t w (.returned (.tuple #[.string x,.bool r])) w':=by
 subst h1;exact ⟨x,rfl,h2,hb⟩
theorem boxB (w:World) (t:Tok):Below w.heap.size w (w.alloc (.cells #[.int .i64 t.kind,.int .i64 t.place,.int .i64 t.num,.string t.text] 151)):=(Below.refl w.heap.size w).alloc (Nat.le_refl _) _
set_option maxHeartbeats 1000000 in
theorem written_name (p:Int) (s:ByteArray) (w:World) (hK:KeysAt w) (hs:s.size ≤ 1048576) :
 Calls Tryz.prog 177 #[.agg #[.int .i64 1,.int .i64 p,.int .i64 0,.string s]] w (Written ⟨1,p,0,s⟩ w):=by
 have HK:=Hd hK
 clear hK
 have HW:=Hd (boxB w ⟨1,p,0,s⟩)
 go_enter Tryz.func177,Tryz.ntmps177
 go_wp2_with fail
 go_region_with (go_at_call 124;refine (lexIsName_ok s _ (HK.out.below HW.out).drew hs).mono ?_;rintro e w1 ⟨rfl,hb⟩;have hc:=bcell hb)
 all_goals
  go_wp2
  go_ret2
  exact written_mk (by simp [goodB]) (fun _=>by simp [wordL]) (HW.out.drew.trans (hb.mono (by simp)))
set_option maxHeartbeats 1000000 in
theorem written_key (p:Int) (s:ByteArray) (w:World) (hK:KeysAt w) :
 Calls Tryz.prog 177 #[.agg #[.int .i64 2,.int .i64 p,.int .i64 0,.string s]] w (Written ⟨2,p,0,s⟩ w):=by
 have HK:=Hd hK
 clear hK
 have HW:=Hd (boxB w ⟨2,p,0,s⟩)
 go_enter Tryz.func177,Tryz.ntmps177
 go_wp2_with fail
 go_quiet ((go_at_call 169;exact Calls.quiet_of_same (lexIsKey_ok s _ ((HK.out.below HW.out).drewN _))))
 go_wp2
 go_ret2
 exact written_mk (by simp [goodB]) (fun _=>by simp [wordL]) (HW.out.trans (Below.drewN' _ _ |>.mono (by simp)))
set_option maxHeartbeats 1000000 in
theorem written_mark (p:Int) (s:ByteArray) (w:World) (hM:MarksAt w) :
 Calls Tryz.prog 177 #[.agg #[.int .i64 5,.int .i64 p,.int .i64 0,.string s]] w (Written ⟨5,p,0,s⟩ w):=by
 have HM:=Hd hM
 clear hM
 have HW:=Hd (boxB w ⟨5,p,0,s⟩)
 go_enter Tryz.func177,Tryz.ntmps177
 go_wp2_with fail
 go_quiet ((go_at_call 174;exact Calls.quiet_of_same (Tryz.slices_Contains_string _ 0 markT.length _ markT s _ (Nat.le_refl _) (by decide) ((HM.out.below HW.out).drewN _))))
 go_wp2
 go_ret2
 exact written_mk (by simp [goodB]) (fun _=>by simp [wordL]) (HW.out.trans (Below.drewN' _ _ |>.mono (by simp)))
set_option maxHeartbeats 1000000 in
theorem written_str (p:Int) (s:ByteArray) (w:World) (hs:s.size ≤ 1048576) :
 Calls Tryz.prog 177 #[.agg #[.int .i64 4,.int .i64 p,.int .i64 0,.string s]] w (Written ⟨4,p,0,s⟩ w):=by
 have HW:=Hd (boxB w ⟨4,p,0,s⟩)
 go_enter Tryz.func177,Tryz.ntmps177
 go_wp2_with fail
 go_region_with (go_at_call 97;refine (lexQuote_ok s _ hs).mono ?_;rintro e w1 ⟨rfl,hb⟩;have hc:=bcell hb)
 all_goals
  go_wp2
  go_ret2
  exact written_mk (by simp [goodB];omega) (fun _=>by simp [wordL]) (HW.out.drew.trans (hb.mono (by simp)))
end Go.Proofs.YtkokdafkjjcgoaaGreatDoor
namespace Go.Proofs.YtkokdafkjjcgoaaGreatDoor
open Go.RowKit Go.Sort
def PowAt (w:World):Prop:=Lib.TabIs Tryz.prog w "internal/strconv.uint64pow10" .u64 Lib.pow10Tab
theorem powG:Tryz.prog.globalNamed "internal/strconv.uint64pow10" = some 3:=by kernel_rfl
theorem PowAt.drewN {w:World} (h:PowAt w) (n:Nat):PowAt (w.drewN n):=h
theorem PowAt.drew {w:World} (h:PowAt w):PowAt w.drew:=h
theorem PowAt.below {w w':World} (h:PowAt w) (hb:Below w.heap.size w w') (hg:3 < w.heap.size):PowAt w':=var?_below hb powG hg h
theorem blw_grow (w:World) (k:Nat) (os:Array Obj):Below w.heap.size w (grow (w.drewN k) os):=
 ⟨rfl,rfl,rfl,by simp [grow],fun j hj=>by simp [grow,Array.getElem?_append,hj]⟩
theorem lexItoa_ok (n:Int) (w:World) (hP:PowAt w) (h0:0 ≤ n) (h1:n ≤ 9223372036854775807) :
 Calls Tryz.prog 185 #[.int .i64 n] w fun e w'=>e = .returned (.string ⟨(Lib.itoa n).toArray⟩) ∧ Below w.heap.size w w':=
 (Tryz.strconv_Itoa n (by omega) h1 w hP).mono fun _ _ ⟨he,k,os,hw⟩=>⟨he,by rw [hw];exact blw_grow _ _ _⟩
theorem eq_u (s:ByteArray):(s.toList == [117]) = decide (s = uText):=by
 rw [Bool.eq_iff_iff,beq_iff_eq,decide_eq_true_iff,Lib.toList_data]
 exact ⟨fun h=>toList_eq (by rw [h];rfl),fun h=>by rw [h];rfl⟩
theorem eq_e (s:ByteArray):s.toList.isEmpty = decide (s = ByteArray.empty):=by
 rw [Bool.eq_iff_iff,List.isEmpty_iff,decide_eq_true_iff,Lib.toList_data]
 exact ⟨fun h=>toList_eq (by rw [h];rfl),fun h=>by rw [h];rfl⟩
theorem u_ne:uText ≠ ByteArray.empty:=by decide
theorem byteOf (n:Int):∃ c:UInt8,(c.toNat:Int) = n % 256:=⟨UInt8.ofNat (n % 256).toNat,by rw [UInt8.toNat_ofNat'];omega⟩
theorem keepS {w W w1:World} {v2 v3:Value} (hb:Below W.heap.size W w1) (h2:W.cell? ⟨w.heap.size,2,none⟩ = some v2) (h3:W.cell? ⟨w.heap.size,3,none⟩ = some v3) (hlt:w.heap.size < W.heap.size) (hB:Below w.heap.size w W) :
 w1.cell? ⟨w.heap.size,2,none⟩ = some v2 ∧ w1.cell? ⟨w.heap.size,3,none⟩ = some v3 ∧ w.heap.size < w1.heap.size ∧ Below w.heap.size w w1:=
 ⟨by rw [hb.cell hlt];exact h2,by rw [hb.cell hlt];exact h3,Nat.lt_of_lt_of_le hlt hb.size,hB.trans (hb.mono (Nat.le_of_lt hlt))⟩
theorem u8wrap (n:Int):IntKind.u8.wrap n = n % 256:=by
 simp [IntKind.wrap,IntKind.signed,IntKind.bits]
theorem char_of {n:Int} {c:UInt8} (h1:n < 0) (h2:-128 ≤ n) (hc:(c.toNat:Int) = n % 256):UInt8.ofNat (n + 256).toNat = c:=by
 rw [← UInt8.toNat_inj,UInt8.toNat_ofNat']
 omega
set_option maxHeartbeats 4000000 in
theorem written_neg (p n:Int) (s:ByteArray) (w:World) (hn:n < 0) :
 Calls Tryz.prog 177 #[.agg #[.int .i64 3,.int .i64 p,.int .i64 n,.string s]] w (Written ⟨3,p,n,s⟩ w):=by
 have HW:=boxB w ⟨3,p,n,s⟩
 obtain ⟨c,hc⟩:=byteOf n
 have hwr:IntKind.u8.wrap n = (c.toNat:Int):=by rw [hc,u8wrap]
 have t1:decide (n < 0) = true:=by simpa using hn
 have HC:=Hd hc
 clear hc
 by_cases h128:-128 ≤ n
 ·by_cases he:s = ByteArray.empty
  ·have t2:s.toList.isEmpty = true:=by rw [eq_e];simpa using he
   have HF:=Hd (show goodB ⟨3,p,n,s⟩ = true ∧ ([39] ++ speltL c 39 ++ [39]) = wordL ⟨3,p,n,s⟩ by
    subst he
    refine ⟨?_,?_⟩
    ·simp [goodB,goodNum,u_ne.symm,h128];omega
    ·simp only [wordL,numL,if_pos hn,char_of hn h128 HC.out];rfl)
   clear he
   go_enter Tryz.func177,Tryz.ntmps177
   go_wp2_with fail
   go_region_held3 (fun w'=>w'.cell? ⟨w.heap.size,2,none⟩ = some (.int .i64 n) ∧ w'.cell? ⟨w.heap.size,3,none⟩ = some (.string s) ∧ w.heap.size < w'.heap.size ∧ Below w.heap.size w w')
    (first | (go_split_ands;exact keepS hb (by assumption) (by assumption) (by assumption) (by assumption)) | exact ⟨by simp,by simp,by simp,HW.drew⟩ | go_keep)
    (first | (go_at_call 212;refine (lexChar_ok c _).mono ?_;rintro e w1 ⟨rfl,hb⟩))
   go_wp2
   go_ret2
   go_split_ands
   exact written_mk HF.out.1 (fun _=>HF.out.2) (by assumption)
  ·have t2:s.toList.isEmpty = false:=by rw [eq_e];simpa using he
   have HF:=Hd (show goodB ⟨3,p,n,s⟩ = false by
    simp only [goodB,goodNum];split <;> simp_all;intros;omega)
   clear he
   go_enter Tryz.func177,Tryz.ntmps177
   go_wp2_with fail
   go_region_held3 (fun w'=>w'.cell? ⟨w.heap.size,2,none⟩ = some (.int .i64 n) ∧ w'.cell? ⟨w.heap.size,3,none⟩ = some (.string s) ∧ w.heap.size < w'.heap.size ∧ Below w.heap.size w w')
    (first | (go_split_ands;exact keepS hb (by assumption) (by assumption) (by assumption) (by assumption)) | exact ⟨by simp,by simp,by simp,HW.drew⟩ | go_keep)
    (first | (go_at_call 212;refine (lexChar_ok c _).mono ?_;rintro e w1 ⟨rfl,hb⟩))
   go_wp2
   go_ret2
   go_split_ands
   exact written_mk HF.out (fun h=>by cases h) (by assumption)
 ·have h128':=Hd h128
  have HF:=Hd (show goodB ⟨3,p,n,s⟩ = false by
   by_cases hu:s = uText
   ·simp [goodB,goodNum,hu];omega
   ·simp [goodB,goodNum,hu];intro _ h;omega)
  clear h128
  go_enter Tryz.func177,Tryz.ntmps177
  go_wp2_with fail
  generalize hWb:w.alloc (.cells #[.int .i64 3,.int .i64 p,.int .i64 n,.string s] 151) = wb
  have t0:n < -128:=by have:=h128'.out;omega
  have t2:decide ((Int.negSucc 127) ≤ n) = false:=by rw [decide_eq_false_iff_not];show ¬ (-128:Int) ≤ n;omega
  have t3:¬ (-128:Int) ≤ n:=by omega
  have t4:¬ (Int.negSucc 127) ≤ n:=t3
  have t5:decide ((-128:Int) ≤ n) = false:=t2
  have k2:=cell_regrown (show wb.cell? ⟨w.heap.size,2,none⟩ = some (.int .i64 n) by rw [← hWb];simp)
  have k3:=cell_regrown (show wb.cell? ⟨w.heap.size,3,none⟩ = some (.string s) by rw [← hWb];simp)
  have cQ:=fun d os=>Calls.regrown_of (lexChar_ok c (grow (redrawn wb d) os))
  have HWb:=Hd hWb
  clear hWb
  refine wp_region_quiet_below (by kernel_rfl) (by kernel_rfl) ?_
  repeat (go_big_quiet_step (exact cQ _ _))
  refine wpQuiet_nil ?_
  intro _ hw'
  obtain ⟨⟨dq,osq⟩,hw''⟩:=hw'
  subst hw''
  go_wp2
  go_ret2
  exact written_mk HF.out (fun h=>by cases h) ((HWb.out ▸ HW).trans ((below_regrown wb dq osq).mono (by rw [← HWb.out];simp)))
theorem itoa_bd (n:Int) (h0:0 ≤ n) (h1:n ≤ 9223372036854775807):(Lib.itoa n).length ≤ 20:=by
 obtain ⟨k,rfl⟩:=Int.eq_ofNat_of_zero_le h0
 have hI:Lib.itoa (k:Int) = Lib.decDigits k:=by unfold Lib.itoa;rw [if_neg (by omega)];simp
 rw [hI]
 have key:∀ (d u:Nat),u < 10 ^ d → 1 ≤ d → (Lib.decDigits u).length ≤ d:=by
  intro d
  induction d with
  | zero=>intro u _ h;omega
  | succ d ih=>
    intro u hu _
    rw [Lib.decDigits]
    split
    ·simp
    ·rename_i h10
     have h1:1 ≤ d:=by
      rcases Nat.eq_zero_or_pos d with rfl | h
      ·simp at hu;omega
      ·exact h
     have:=ih (u / 10) (by rw [Nat.pow_succ] at hu;omega) h1
     simp only [List.length_append,List.length_cons,List.length_nil]
     omega
 exact key 20 k (by have:(10:Nat) ^ 20 = 100000000000000000000:=by decide
                    omega) (by decide)
structure NumT (n:Int) (s:ByteArray) (bu be b31 b32:Bool):Prop where
 u:(s.toList == [117]) = bu
 e:s.toList.isEmpty = be
 lo:decide (n < 2147483648) = b31
 hi:decide (n < 4294967296) = b32
theorem good_num {p n:Int} {s:ByteArray} {bu be b31 b32:Bool} (h:NumT n s bu be b31 b32) (h0:0 ≤ n):goodB ⟨3,p,n,s⟩ = (b32 && (bu || (be && b31))):=by
 obtain ⟨h1,h2,h3,h4⟩:=h
 rw [eq_u] at h1
 rw [eq_e] at h2
 subst h1 h2 h3 h4
 by_cases hu:s = uText
 ·simp [goodB,goodNum,hu,h0]
 ·simp [goodB,goodNum,hu]
  by_cases he:s = ByteArray.empty
  ·simp only [he,decide_true,Bool.true_and]
   rw [Bool.eq_iff_iff]
   simp
   omega
  ·simp [he]
theorem word_num {p n:Int} {s:ByteArray} {bu be b31 b32:Bool} (h:NumT n s bu be b31 b32) (h0:0 ≤ n):wordL ⟨3,p,n,s⟩ = if (bu && b31) = true then Lib.itoa n ++ [117] else Lib.itoa n:=by
 obtain ⟨h1,h2,h3,h4⟩:=h
 rw [eq_u] at h1
 subst h1 h3
 simp only [wordL,numL]
 simp [show ¬ n < 0 by omega]
theorem numT_cases (n:Int) (s:ByteArray):∃ bu be b31 b32,NumT n s bu be b31 b32:=⟨_,_,_,_,rfl,rfl,rfl,rfl⟩
theorem keep2 {w w1:World} {a b c d:Value} {T:TypeId} (hb:Below (w.alloc (.cells #[a,b,c,d] T)).heap.size (w.alloc (.cells #[a,b,c,d] T)) w1):w1.cell? ⟨w.heap.size,2,none⟩ = some c:=by rw [hb.cell (by simp)];simp
theorem keep3 {w w1:World} {a b c d:Value} {T:TypeId} (hb:Below (w.alloc (.cells #[a,b,c,d] T)).heap.size (w.alloc (.cells #[a,b,c,d] T)) w1):w1.cell? ⟨w.heap.size,3,none⟩ = some d:=by rw [hb.cell (by simp)];simp
set_option maxHeartbeats 4000000 in
theorem written_pos (p n:Int) (s:ByteArray) (w:World) (hP:PowAt w) (hg:3 < w.heap.size) (hn:0 ≤ n) (hm:n ≤ 9223372036854775807) :
 Calls Tryz.prog 177 #[.agg #[.int .i64 3,.int .i64 p,.int .i64 n,.string s]] w (Written ⟨3,p,n,s⟩ w):=by
 have HW:=Hd (boxB w ⟨3,p,n,s⟩)
 have HP:=Hd (hP.below HW.out hg)
 clear hP
 have hbd:=itoa_bd n hn hm
 obtain ⟨bu,be,b31,b32,hT⟩:=numT_cases n s
 have HG:=Hd (good_num (p:=p) hT hn)
 have HWd:=Hd (word_num (p:=p) hT hn)
 obtain ⟨h1,h2,h3,h4⟩:=hT
 cases bu <;> cases be <;> cases b31 <;> cases b32
 all_goals
  go_enter Tryz.func177,Tryz.ntmps177
  go_wp2_with (go_at_call 185;refine (lexItoa_ok n _ HP.out hn hm).mono ?_;rintro e w1 ⟨rfl,hb⟩;have c2:=keep2 hb;have c3:=keep3 hb)
  go_quiet (fail)
  go_wp2
  go_ret2
  exact written_mk HG.out (fun _=>by rw [HWd.out];simp) (blw_drewN (HW.out.trans (hb.mono (by simp))) _)
set_option maxHeartbeats 1000000 in
theorem written_no (k p n:Int) (s:ByteArray) (w:World) (hk:k ≠ 3) (hn:n ≠ 0) :
 Calls Tryz.prog 177 #[.agg #[.int .i64 k,.int .i64 p,.int .i64 n,.string s]] w (Written ⟨k,p,n,s⟩ w):=by
 have HW:=Hd (boxB w ⟨k,p,n,s⟩)
 have HG:=Hd (show goodB ⟨k,p,n,s⟩ = false by simp [goodB,hk,hn])
 have t1:(k != 3) = true:=by simpa using hk
 have t2:(n != 0) = true:=by simpa using hn
 clear hk hn
 go_enter Tryz.func177,Tryz.ntmps177
 go_wp2
 go_ret2
 exact written_mk HG.out (fun h=>by cases h) HW.out
set_option maxHeartbeats 1000000 in
theorem written_none (k p:Int) (s:ByteArray) (w:World) (h1:k ≠ 1) (h2:k ≠ 2) (h3:k ≠ 3) (h4:k ≠ 4) (h5:k ≠ 5) :
 Calls Tryz.prog 177 #[.agg #[.int .i64 k,.int .i64 p,.int .i64 0,.string s]] w (Written ⟨k,p,0,s⟩ w):=by
 have HW:=Hd (boxB w ⟨k,p,0,s⟩)
 have HG:=Hd (show goodB ⟨k,p,0,s⟩ = false by simp [goodB,h1,h2,h3,h4,h5])
 have t1:(k == 1) = false:=by simpa using h1
 have t2:(k == 2) = false:=by simpa using h2
 have t3:(k == 3) = false:=by simpa using h3
 have t4:(k == 4) = false:=by simpa using h4
 have t5:(k == 5) = false:=by simpa using h5
 have t6:(k != 3) = true:=by simpa using h3
 clear h1 h2 h3 h4 h5
 go_enter Tryz.func177,Tryz.ntmps177
 go_wp2
 go_ret2
 exact written_mk HG.out (fun h=>by cases h) HW.out
theorem written_okL (t:Tok) (w:World) (hK:KeysAt w) (hM:MarksAt w) (hP:PowAt w) (hg:3 < w.heap.size) (hm:t.num ≤ 9223372036854775807) (hs:t.text.size ≤ 1048576) :
 Calls Tryz.prog 177 #[.agg #[.int .i64 t.kind,.int .i64 t.place,.int .i64 t.num,.string t.text]] w (Written t w):=by
 obtain ⟨k,p,n,s⟩:=t
 by_cases h3:k = 3
 ·subst h3
  rcases Int.lt_or_le n 0 with h | h
  ·exact written_neg p n s w h
  ·exact written_pos p n s w hP hg h hm
 ·by_cases h0:n = 0
  ·subst h0
   by_cases h1:k = 1
   ·subst h1;exact written_name p s w hK hs
   ·by_cases h2:k = 2
    ·subst h2;exact written_key p s w hK
    ·by_cases h4:k = 4
     ·subst h4;exact written_str p s w hs
     ·by_cases h5:k = 5
      ·subst h5;exact written_mark p s w hM
      ·exact written_none k p s w h1 h2 h3 h4 h5
  ·exact written_no k p n s w h3 h0
end Go.Proofs.YtkokdafkjjcgoaaGreatDoor
