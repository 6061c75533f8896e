/- The reference's taking apart of a function's type. · The reference's IsInt, Promote, Common (written by a program · How a type is written: the reference, but for functions. · How a type is written: the reference: functions, all types; · The reference: what a type is made of; how deep it is; an ob · The reference's shape (printed by wip/tools/gen-refshape.py) -/
import Derived.Test.YtbbaooeioogijaaGreatDoorRefForm
import Derived.Test.YtbbaooeioogijaaGreatDoorMg4
namespace Go.Proofs.YtbbaooeioogijaaGreatDoor
open Go.RowKit
theorem nE_code {t:Ty} (h:Right t) (q:List UInt8):nE (code t ++ q) = some q:=by
 rw [nE,code_tyF t h _ q (by rw [List.length_append];omega)];rfl
set_option maxHeartbeats 8000000 in
set_option maxRecDepth 100000 in
theorem refSplit_fn (ps:List Ty) (r:Ty) (w:World) (hr:Right (.fn ps r)) (hs:(code (.fn ps r)).length ≤ 65536):Calls Tryz.prog 94 #[.string (tyB (.fn ps r))] w (SignR ps r w):=by
 have hsz:(tyB (.fn ps r)).size ≤ 65536:=by rw [tyB_size];exact hs
 have hsz2:2 ≤ (tyB (.fn ps r)).size:=by rw [tyB_size,code];simp
 have HS:=Hd (show sfx (tyB (.fn ps r)) 2 = codes ps ++ 41 :: code r by rw [tyB_sfx];rfl)
 generalize tyB (.fn ps r) = s at *
 have HRt:=Hd hr
 have hs':(s.size:Int) ≤ 65536:=by omega
 obtain ⟨i0,hi,hz0,hz1,hz2⟩:=info_parts infoT
 have HI:=Hd (And.intro hi (And.intro hz0 (And.intro hz1 hz2)))
 have HNx:=Hd (fun k w (hk:k ≤ s.size)=>nextE_ok s k w hsz hk)
 clear hr hs hi hz0 hz1 hz2
 go_enter Tryz.func94,Tryz.ntmps94
 go_wp2_with fail
 go_loopg [4,5] ps.length (fun g lv kv wr=>∃ (done rest:List Ty) (k:Nat),rest.length = g ∧ k ≤ s.size ∧ kv = .int .i64 (k:Int) ∧ Hid (done ++ rest = ps) ∧ Hid (wr.ownsRow w.heap.size 40 1 lv done.length (done.map fun p=>.string (tyB p))) ∧ Hid (Below w.heap.size w wr) ∧ Hid (sfx s k = codes rest ++ 41 :: code r))
 case atStart=>exact ⟨[],ps,2,rfl,hsz2,rfl,rfl,World.ownsRow_made _ #[] 0 (Nat.le_refl _) (by decide) (by simp),(Below.refl _ _).alloc (Nat.le_refl _) _,HS.out⟩
 case round=>
  obtain ⟨done,rest,k,hg,hk,rfl,hps,HO,HB,hL⟩:=hrel
  cases rest with
  | nil=>
    obtain ⟨hlt,hb1,hr1⟩:=sfx_head (show sfx s k = 41 :: code r from hL.out)
    have t1:=(byte_eq hb1 (m:=41) rfl).2
    have HX:=Hd (show s.extract (k + 1) s.size = tyB r from tyB_eq (by rw [sfx_extract,hr1]))
    have HP:=Hd (show done = ps by have:=hps.out;rwa [List.append_nil] at this)
    have hk1:(k:Int) + 1 ≤ s.size:=by omega
    clear hb1 hr1
    go_wp2_with fail
    go_ret2
    refine signR_mk (by first | exact HX.out | (rw [← HX.out];congr 1)) ?_ HB.out
    have:=HO.out
    rw [HP.out] at this
    exact this
  | cons p rest=>
    have hp:Right p:=rights_at (by rw [hps.out];exact HRt.out.1)
    obtain ⟨q,eq⟩:∃ q,q = codes' rest ++ 41 :: code r:=⟨_,rfl⟩
    have hl2:sfx s k = code p ++ q:=by rw [hL.out,codes_cons,eq,List.append_assoc]
    obtain ⟨h41,_⟩:=no_head hl2 hp
    obtain ⟨hq,hpos,hle,hql⟩:=rest_sfx hl2 hk
    have hcp:=code_pos hp
    have hlt:k < s.size:=by omega
    have t1:=(byte_ne (h41 hlt) (m:=41) rfl).2
    have hn:=HNx.out k wr hk
    rw [hl2,nE_code hp] at hn
    obtain ⟨e,ee⟩:∃ e,e = s.size - q.length:=⟨_,rfl⟩
    have hN':Calls Tryz.prog 122 #[.string s,.int .i64 (k:Int)] wr (fun x w'=>x = .returned (.tuple #[.int .i64 (e:Int),.bool true]) ∧ Below wr.heap.size wr w'):=by rw [ee];exact hn
    have HN:=Hd hN'
    have HX:=Hd (show s.extract k e = tyB p from tyB_eq (by rw [ee,hpos,extract_take,hl2,List.take_left]))
    rw [← ee] at hq hpos
    have hke:k + 1 ≤ e:=by omega
    have hes:e < s.size:=by
     have:1 ≤ q.length:=by rw [eq];simp;omega
     omega
    have HP3:=Hd (show (done ++ [p]) ++ rest = ps by rw [← hps.out];simp)
    have hdl:=Hd (show done.length + 1 ≤ 70000 by
     have h1:=congrArg List.length hps.out
     have h2:=congrArg List.length HS.out
     rw [sfx_length] at h2
     have h3:ps.length ≤ (codes ps).length:=rights_len HRt.out.1
     simp at h1 h2
     omega)
    have HHk:=Hd (show e < s.size from hes)
    have hrg:rest.length + 1 = gk:=hg
    by_cases hre:rest = []
    case' pos=>
     have HQ:=Hd (show sfx s e = codes rest ++ 41 :: code r by rw [hq,eq,hre];rfl)
     have hc:s[e] = 41:=(sfx_head (show sfx s e = 41 :: code r by rw [hq,eq,hre];rfl)).2.1
     have t2:((s[e].toNat:Int) == 44) = false:=(byte_ne (d:=44) (by rw [hc];decide) rfl).1
     have hK2:∃ k2:Nat,k2 = e:=⟨_,rfl⟩
    case' neg=>
     obtain ⟨u,l,hul⟩:=List.exists_cons_of_ne_nil hre
     have hq2:sfx s e = 44 :: (codes rest ++ 41 :: code r):=by rw [hq,eq,hul,codes'_cons];rfl
     obtain ⟨_,hc,hr2⟩:=sfx_head hq2
     have HQ:=Hd hr2
     have t2:((s[e].toNat:Int) == 44) = true:=(byte_eq hc rfl).1
     have hK2:∃ k2:Nat,k2 = e + 1:=⟨_,rfl⟩
     clear hul
    all_goals
     obtain ⟨k2,hk2⟩:=hK2
     rw [← hk2] at HQ
     have hks:k2 ≤ s.size:=by omega
     have HK2:=Hd hk2
     clear hl2 h41 hq hpos hle hql hcp hn hN' ee eq hc hre hg hp hk2
     go_wp2_with (first | (go_at_call 122;(with_reducible refine HN.out.mono ?_);rintro x w4 ⟨rfl,hb4⟩;have HB4:=Ht HB hb4;have HO4:=Hd (HO.out.belowed hb4);clear hb4) | (at_builtin;refine wpList_append_own _ rfl _ _ 140 rfl w.heap.size 40 i0 (.string ⟨#[]⟩) 1 16 Tryz.underlying140 HI.out.1 HI.out.2.1 HI.out.2.2.1 HI.out.2.2.2 rfl (by decide) _ _ _ rfl (HO4.out.alloc _) ⟨w4.heap.size,0,none⟩ 1 1 [.string (s.extract k e)] rfl rfl (fun j u h=>cell_one _ _ _ j u h) (c2_str _) (c3_le hdl.out) (c4_le hdl.out) (by have:=HB4.out.size;simp;omega) ?_))
     intro v' w6 hown hgrow _
     rw [HX.out] at hown hgrow
     have HO6:=Hd (show w6.ownsRow w.heap.size 40 1 v' (done ++ [p]).length ((done ++ [p]).map fun p=>.string (tyB p)) by
      rw [List.length_append,List.map_append];exact hown)
     have HB6:=Hd ((HB4.out.alloc HB4.out.size _).grown hgrow (by have:=HB4.out.size;simp;omega) (fun q e=>(HO4.out.lt _ e).1))
     clear hown hgrow
     go_wp2_with fail
     go_roundg rest.length
     case measure=>omega
     case rel=>exact ⟨done ++ [p],rest,k2,rfl,hks,by rw [HK2.out];try rfl,HP3,HO6,HB6,HQ⟩
end Go.Proofs.YtbbaooeioogijaaGreatDoor
namespace Go.Proofs.YtbbaooeioogijaaGreatDoor
open Go.RowKit
theorem refIsInt_ok (s:ByteArray) (w:World):Calls Tryz.prog 152 #[.string s] w fun e w'=>e = .returned (.bool (isIntS s)) ∧ w' = w:=by
 by_cases h1:s = ⟨#[99]⟩
 ·have hfin:=Hd (show isIntS s = true by rw [h1,isIntS,tyS_base (by decide)];rfl)
  have t1:(s.toList == [99]) = true:=by rw [str_one];simpa using h1
  clear h1
  go_enter Tryz.func152,Tryz.ntmps152
  go_wp2_with fail
  go_ret
  exact ⟨by rw [hfin.out];rfl,rfl⟩
 ·have t1:(s.toList == [99]) = false:=by rw [str_one];simpa using h1
  by_cases h2:s = ⟨#[115]⟩
  ·have hfin:=Hd (show isIntS s = true by rw [h2,isIntS,tyS_base (by decide)];rfl)
   have t2:(s.toList == [115]) = true:=by rw [str_one];simpa using h2
   clear h1 h2
   go_enter Tryz.func152,Tryz.ntmps152
   go_wp2_with fail
   go_ret
   exact ⟨by rw [hfin.out];rfl,rfl⟩
  ·have t2:(s.toList == [115]) = false:=by rw [str_one];simpa using h2
   by_cases h3:s = ⟨#[105]⟩
   ·have hfin:=Hd (show isIntS s = true by rw [h3,isIntS,tyS_base (by decide)];rfl)
    have t3:(s.toList == [105]) = true:=by rw [str_one];simpa using h3
    clear h1 h2 h3
    go_enter Tryz.func152,Tryz.ntmps152
    go_wp2_with fail
    go_ret
    exact ⟨by rw [hfin.out];rfl,rfl⟩
   ·have t3:(s.toList == [105]) = false:=by rw [str_one];simpa using h3
    by_cases h4:s = ⟨#[117]⟩
    ·have hfin:=Hd (show isIntS s = true by rw [h4,isIntS,tyS_base (by decide)];rfl)
     have t4:(s.toList == [117]) = true:=by rw [str_one];simpa using h4
     clear h1 h2 h3 h4
     go_enter Tryz.func152,Tryz.ntmps152
     go_wp2_with fail
     go_ret
     exact ⟨by rw [hfin.out];rfl,rfl⟩
    ·have t4:(s.toList == [117]) = false:=by rw [str_one];simpa using h4
     have hfin:=Hd (isIntS_not h1 h2 h3 h4)
     clear h1 h2 h3 h4
     go_enter Tryz.func152,Tryz.ntmps152
     go_wp2_with fail
     go_ret
     exact ⟨by rw [hfin.out];rfl,rfl⟩
theorem refIsInt_is (r:Bool) (s:ByteArray) (w:World) (hr:isIntS s = r):Calls Tryz.prog 152 #[.string s] w fun e w'=>e = .returned (.bool r) ∧ w' = w:=by subst hr;exact refIsInt_ok s w
end Go.Proofs.YtbbaooeioogijaaGreatDoor
namespace Go.Proofs.YtbbaooeioogijaaGreatDoor
open Go.RowKit
theorem kind_is (m:Int) (t:Ty) (w:World) (hm:((headT t).toNat:Int) = m):Calls Tryz.prog 93 #[.string (tyB t)] w fun e w'=>e = .returned (.int .u8 m) ∧ w' = w:=by subst hm;exact refKind_ok t w
end Go.Proofs.YtbbaooeioogijaaGreatDoor
namespace Go.Proofs.YtbbaooeioogijaaGreatDoor
open Go.RowKit
set_option maxHeartbeats 1000000 in
theorem refIsScalar_ok (s:ByteArray) (w:World):Calls Tryz.prog 139 #[.string s] w fun e w'=>e = .returned (.bool (isScalS s)) ∧ Below w.heap.size w w':=by
 rcases h:tyS s with _ | t
 ·have HF:=Hd (refForm_is false s w (by rw [h];rfl))
  have hfin:=Hd (show isScalS s = false by unfold isScalS;rw [h];rfl)
  clear h
  go_enter Tryz.func139,Tryz.ntmps139
  go_wp2_with (go_at_call 92;(with_reducible refine HF.out.mono ?_);rintro e w1 ⟨rfl,hb1⟩)
  go_ret
  exact ⟨by rw [hfin.out];rfl,hb1⟩
 ·have HF:=Hd (refForm_is true s w (by rw [h];rfl))
  obtain ⟨hs,hr,hl⟩:=tyS_some.1 h
  have hi:isIntS s = isIntT t:=by unfold isIntS;rw [h];rfl
  have hsc:isScalS s = (isIntT t || isPtrT t):=by unfold isScalS;rw [h];rfl
  have HI:=Hd (fun w=>refIsInt_is (isIntT t) s w hi)
  rcases h1:isIntT t with _ | _
  ·have hp:(((headT t).toNat:Int) == 112) = isPtrT t:=by
    cases t with
    | base c=>rcases base_six hr with rfl | rfl | rfl | rfl | rfl | rfl <;> rfl
    | _=>rfl
   have hk:=fun w=>refKind_ok t w
   rw [← hs] at hk
   have HK:=Hd hk
   have hfin:=Hd (show isScalS s = isPtrT t by rw [hsc,h1];rfl)
   rw [h1] at HI
   generalize headT t = c at *
   generalize isPtrT t = b at *
   clear h hs hr hl hi hsc h1 hk
   go_enter Tryz.func139,Tryz.ntmps139
   go_wp2_with (first | (go_at_call 92;(with_reducible refine HF.out.mono ?_);rintro e w1 ⟨rfl,hb1⟩;have HB1:=Hd hb1;clear hb1) | (go_at_call 152;(with_reducible refine (HI.out _).mono ?_);rintro e w2 ⟨rfl,hw2⟩;subst w2) | (go_at_call 93;(with_reducible refine (HK.out _).mono ?_);rintro e w2 ⟨rfl,hw2⟩;subst w2))
   go_ret
   exact ⟨by rw [hfin.out];rfl,HB1.out⟩
  ·have hfin:=Hd (show isScalS s = true by rw [hsc,h1];rfl)
   rw [h1] at HI
   clear h hs hr hl hi hsc h1
   go_enter Tryz.func139,Tryz.ntmps139
   go_wp2_with (first | (go_at_call 92;(with_reducible refine HF.out.mono ?_);rintro e w1 ⟨rfl,hb1⟩;have HB1:=Hd hb1;clear hb1) | (go_at_call 152;(with_reducible refine (HI.out _).mono ?_);rintro e w2 ⟨rfl,hw2⟩;subst w2))
   go_ret
   exact ⟨by rw [hfin.out];rfl,HB1.out⟩
end Go.Proofs.YtbbaooeioogijaaGreatDoor
namespace Go.Proofs.YtbbaooeioogijaaGreatDoor
open Go.RowKit
def partsT:Ty → List Ty
 | .ptr t=>[t]
 | .arr _ t=>[t]
 | .fn ps r=>ps ++ [r]
 | _=>[]
theorem parts_len (t:Ty) (hr:Right t):(partsT t).length ≤ (code t).length:=by
 cases t with
 | fn ps r=>
   have h:=rights_len hr.1
   rw [code,partsT]
   simp;omega
 | _=>simp [partsT,code]
theorem parts_mem {t p:Ty} (hp:p ∈ partsT t) (hr:Right t):Right p ∧ (code p).length < (code t).length:=by
 cases t with
 | base c=>cases hp
 | str s=>cases hp
 | ptr u=>
   obtain rfl:=List.mem_singleton.1 hp
   exact ⟨hr,by rw [code];simp⟩
 | arr n u=>
   obtain rfl:=List.mem_singleton.1 hp
   exact ⟨hr.2,by rw [code];simp;omega⟩
 | fn ps r=>
   rcases List.mem_append.1 hp with h | h
   ·refine ⟨?_,?_⟩
    ·obtain ⟨a,b,rfl⟩:=List.append_of_mem h
     exact rights_at hr.1
    ·have:=codes_mem' h
     rw [code];simp;omega
   ·obtain rfl:=List.mem_singleton.1 h
    exact ⟨hr.2,by rw [code];simp;omega⟩
theorem deep_parts (t:Ty):deepT t = deepL (partsT t) + 1:=by
 cases t with
 | base c=>rfl
 | str s=>rfl
 | ptr u=>simp [deepT,partsT,deepL]
 | arr n u=>simp [deepT,partsT,deepL]
 | fn ps r=>rw [deepT,partsT,deepL_snoc]
def TyRow (w:World) (base:Nat) (v:Value) (l:List Ty):Prop:=w.ownsRow base 40 1 v l.length (l.map fun p=>.string (tyB p))
def PartsR (l:List Ty) (w:World) (e:Ending) (w':World):Prop:=(∃ v,e = .returned v ∧ TyRow w' w.heap.size v l) ∧ Below w.heap.size w w'
theorem partsR_mk {l l':List Ty} {w w':World} {v:Value} (hl:l = l') (h:TyRow w' w.heap.size v l') (hb:Below w.heap.size w w'):PartsR l w (.returned v) w':=by subst hl;exact ⟨⟨v,rfl,h⟩,hb⟩
theorem row_one (w:World) (B:Nat) (t:Ty) (hB:B ≤ w.heap.size):TyRow (w.alloc (.cells #[.string (tyB t)] 40)) B (.slice (some ⟨w.heap.size,0,none⟩) 1 1) [t]:=
 World.ownsRow_lit _ #[.string (tyB t)] 1 hB (by decide) rfl
set_option maxHeartbeats 2000000 in
theorem refParts_ok (t:Ty) (hr:Right t) (hl:(code t).length ≤ 65536) (w:World):Calls Tryz.prog 138 #[.string (tyB t)] w (PartsR (partsT t) w):=by
 have HK:=Hd (fun w=>refKind_ok t w)
 cases t with
 | ptr u=>
   have HS:=Hd (fun w=>refInner_ptr u w)
   have HK:=Hd (fun w=>kind_is 112 (.ptr u) w rfl)
   generalize tyB (.ptr u) = s at *
   clear hr hl
   go_enter Tryz.func138,Tryz.ntmps138
   go_wp2_with (first | (go_at_call 93;(with_reducible refine (HK.out _).mono ?_);rintro e w2 ⟨rfl,hw2⟩;subst w2) | (go_at_call 118;(with_reducible refine (HS.out _).mono ?_);rintro e w3 ⟨rfl,hb3⟩;have HB3:=Hd hb3;clear hb3))
   go_ret
   exact partsR_mk rfl (row_one _ _ u HB3.out.size) (HB3.out.alloc HB3.out.size _)
 | arr n u=>
   have HS:=Hd (fun w=>refInner_arr n u hr hl w)
   have HK:=Hd (fun w=>kind_is 97 (.arr n u) w rfl)
   generalize tyB (.arr n u) = s at *
   clear hr hl
   go_enter Tryz.func138,Tryz.ntmps138
   go_wp2_with (first | (go_at_call 93;(with_reducible refine (HK.out _).mono ?_);rintro e w2 ⟨rfl,hw2⟩;subst w2) | (go_at_call 118;(with_reducible refine (HS.out _).mono ?_);rintro e w3 ⟨rfl,hb3⟩;have HB3:=Hd hb3;clear hb3))
   go_ret
   exact partsR_mk rfl (row_one _ _ u HB3.out.size) (HB3.out.alloc HB3.out.size _)
 | fn ps r=>
   have HS:=Hd (fun w=>refSplit_fn ps r w hr hl)
   have HK:=Hd (fun w=>kind_is 102 (.fn ps r) w rfl)
   have hdl:=Hd (show ps.length + 1 ≤ 70000 by
    have:=parts_len _ hr
    rw [partsT] at this
    simp at this;omega)
   obtain ⟨i0,hi,hz0,hz1,hz2⟩:=info_parts infoT
   have HI:=Hd (And.intro hi (And.intro hz0 (And.intro hz1 hz2)))
   generalize tyB (.fn ps r) = s at *
   clear hr hl hi hz0 hz1 hz2
   go_enter Tryz.func138,Tryz.ntmps138
   go_wp2_with (first | (go_at_call 93;(with_reducible refine (HK.out _).mono ?_);rintro e w2 ⟨rfl,hw2⟩;subst w2) | (go_at_call 94;(with_reducible refine (HS.out _).mono ?_);rintro e w3 ⟨⟨v,rfl,ho⟩,hb3⟩;have HB3:=Hd hb3;have HO3:=Hd ho;clear hb3 ho) | (at_builtin;refine wpList_append_own _ rfl _ _ 140 rfl w.heap.size 40 i0 (.string ⟨#[]⟩) 1 16 Tryz.underlying140 HI.out.1 HI.out.2.1 HI.out.2.2.1 HI.out.2.2.2 rfl (by decide) _ _ _ rfl (HO3.out.alloc _) ⟨w3.heap.size,0,none⟩ 1 1 [.string (tyB r)] rfl rfl (fun j u h=>cell_one _ _ _ j u h) (c2_str _) (c3_le hdl.out) (c4_le hdl.out) (by have:=HB3.out.size;simp;omega) ?_))
   intro v' w6 hown hgrow _
   have HO6:=Hd (show TyRow w6 w.heap.size v' (ps ++ [r]) by
    unfold TyRow
    rw [List.length_append,List.map_append];exact hown)
   have HB6:=Hd ((HB3.out.alloc HB3.out.size _).grown hgrow (by have:=HB3.out.size;simp;omega) (fun q e=>(HO3.out.lt _ e).1))
   clear hown hgrow
   go_wp2_with fail
   go_ret
   exact partsR_mk rfl HO6.out HB6.out
 | base c=>
   have hne:headT (.base c) ≠ 112 ∧ headT (.base c) ≠ 97 ∧ headT (.base c) ≠ 102:=by rcases base_six hr with rfl | rfl | rfl | rfl | rfl | rfl <;> decide
   have t1:(((headT (.base c)).toNat:Int) == 112) = false:=(byte_ne hne.1 rfl).1
   have t2:(((headT (.base c)).toNat:Int) == 97) = false:=(byte_ne hne.2.1 rfl).1
   have t3:(((headT (.base c)).toNat:Int) == 102) = false:=(byte_ne hne.2.2 rfl).1
   generalize tyB (.base c) = s at *
   generalize headT (.base c) = h at *
   clear hr hl hne
   go_enter Tryz.func138,Tryz.ntmps138
   go_wp2_with (go_at_call 93;(with_reducible refine (HK.out _).mono ?_);rintro e w2 ⟨rfl,hw2⟩;subst w2)
   go_ret
   exact partsR_mk rfl (World.ownsRow_nil _ _ _ _) (Below.refl _ _)
 | str n=>
   have HK:=Hd (fun w=>kind_is 83 (.str n) w rfl)
   generalize tyB (.str n) = s at *
   clear hr hl
   go_enter Tryz.func138,Tryz.ntmps138
   go_wp2_with (go_at_call 93;(with_reducible refine (HK.out _).mono ?_);rintro e w2 ⟨rfl,hw2⟩;subst w2)
   go_ret
   exact partsR_mk rfl (World.ownsRow_nil _ _ _ _) (Below.refl _ _)
theorem deepL_take {l:List Ty} {k:Nat} (hk:k < l.length):deepL (l.take (k + 1)) = max (deepL (l.take k)) (deepT l[k]):=by
 rw [List.take_succ_eq_append_getElem hk,deepL_snoc]
def DeepC (m:Nat):Prop:=∀ t w,Right t → (code t).length ≤ 65536 → Calls Tryz.prog 114 #[.string (tyB t),.int .i64 ((m:Int) - 1)] w fun e w'=>e = .returned (.int .i64 (min (deepT t) (m + 1):Nat)) ∧ Below w.heap.size w w'
set_option maxHeartbeats 2000000 in
theorem deep_ok:∀ m,m ≤ 1000 → DeepC m
 | 0,_=>fun t w _ _=>by
   have h1:min (deepT t) (0 + 1) = 1:=by have:=deepT_pos t;omega
   have HF:=Hd h1
   clear h1
   go_enter Tryz.func114,Tryz.ntmps114
   go_wp2_with fail
   go_ret
   exact ⟨by rw [HF.out];rfl,Below.refl _ _⟩
 | m + 1,hm=>fun t w hr hl=>by
   have IH:=Hd (deep_ok m (by omega))
   have hi:(((m + 1:Nat):Int)) - 1 = (m:Int):=by omega
   rw [hi]
   have HP:=Hd (refParts_ok t hr hl w)
   have HD:=Hd (deep_parts t)
   have HM:=Hd (fun p hp=>parts_mem (t:=t) (p:=p) hp hr)
   have hpl:=parts_len t hr
   have HL:=Hd hl
   generalize hps:partsT t = l at *
   have hll:(l.length:Int) ≤ 65536:=by omega
   generalize tyB t = s at *
   clear hi hpl hps hr hl
   go_enter Tryz.func114,Tryz.ntmps114
   go_wp2_with (go_at_call 138;(with_reducible refine HP.out.mono ?_);rintro e w2 ⟨⟨v,rfl,ho⟩,hb2⟩;have HB2:=Hd hb2;obtain ⟨a,cap,rfl,hc⟩:=own_formT ho;have HC:=Hd hc;clear hb2 ho hc)
   go_loopg [6,7] l.length (fun g v6 v7 wy=>∃ k:Nat,k ≤ l.length ∧ k + g = l.length ∧ v7 = .int .i64 (k:Int) ∧ v6 = .int .i64 (min (deepL (l.take k)) (m + 1):Nat) ∧ Hid (Below w2.heap.size w2 wy))
   case atStart=>exact ⟨0,Nat.zero_le _,by omega,rfl,by rw [List.take_zero,deepL,Nat.zero_min];rfl,Below.refl _ _⟩
   case round=>
    obtain ⟨k,hk,hkg,rfl,rfl,HB⟩:=hrel
    by_cases hlt:k < l.length
    ·obtain ⟨g,rfl,_,hg2,hrow⟩:=HC.out (by omega)
     have e1:wr.cell? ⟨g,k,none⟩ = some (.string (tyB l[k])):=by
      rw [HB.out.cell (p:=⟨g,k,none⟩) hg2]
      exact hrow k _ (by rw [List.getElem?_map,List.getElem?_eq_getElem hlt];rfl)
     obtain ⟨hpr,hpl⟩:=HM.out _ (List.getElem_mem hlt)
     have HCl:=Hd (fun w=>IH.out l[k] w hpr (by have:=HL.out;omega))
     have HT:=Hd (deepL_take hlt)
     generalize l[k]'hlt = p at *
     have HX:=Hd (show max (min (deepL (l.take k)) (m + 1)) (min (deepT p) (m + 1)) = min (deepL (l.take (k + 1))) (m + 1) by rw [HT.out];omega)
     have hx1:((min (deepL (l.take k)) (m + 1):Nat):Int) ≤ 2000:=by omega
     generalize min (deepL (l.take k)) (m + 1) = x at *
     have hx2:((min (deepT p) (m + 1):Nat):Int) ≤ 2000:=by omega
     generalize min (deepT p) (m + 1) = y at *
     generalize tyB p = tp at *
     clear hrow hpr hpl
     go_wp2_with (go_at_call 114;(with_reducible refine (HCl.out _).mono ?_);rintro e w3 ⟨rfl,hb3⟩;have HB3:=Ht HB hb3;clear hb3)
     all_goals
      go_roundg (l.length - (k + 1))
      case measure=>omega
      case rel=>exact ⟨k + 1,by omega,by omega,by rw [Int.natCast_add];rfl,by rw [← HX.out];congr 1;try omega,HB3⟩
    ·obtain rfl:k = l.length:=by omega
     have t3:(l.length:Int) ≤ (l.length:Int):=Int.le_refl _
     have HF:=Hd (show min (deepL (l.take l.length)) (m + 1) + 1 = min (deepT t) (m + 1 + 1) by rw [HD.out,List.take_length];omega)
     have hx1:((min (deepL (l.take l.length)) (m + 1):Nat):Int) ≤ 2000:=by omega
     generalize min (deepL (l.take l.length)) (m + 1) = x at *
     go_wp2_with fail
     go_ret
     exact ⟨by rw [← HF.out,Int.natCast_add];rfl,HB2.out.trans (HB.out.mono HB2.out.size)⟩
theorem head_void {t:Ty} (h:Right t):(((headT t).toNat:Int) == 118) = isVoidT t:=by
 cases t with
 | base c=>rcases base_six h with rfl | rfl | rfl | rfl | rfl | rfl <;> rfl
 | _=>rfl
theorem refObject_ok (t:Ty) (hr:Right t) (w:World):Calls Tryz.prog 87 #[.string (tyB t)] w fun e w'=>e = .returned (.bool (objectT t)) ∧ w' = w:=by
 have HK:=Hd (fun w=>refKind_ok t w)
 have h1:=head_void hr
 have h2:=head_fn hr
 have hO:=show objectT t = (!isVoidT t && !isFnT t) from rfl
 generalize tyB t = s at *
 generalize headT t = c at *
 generalize objectT t = o at *
 cases hv:isVoidT t with
 | true=>
   rw [hv] at h1 hO
   have t1:((c.toNat:Int) != 118) = false:=by rw [bne,h1];rfl
   have HF:=Hd hO
   clear h1 h2 hO hv
   go_enter Tryz.func87,Tryz.ntmps87
   go_wp2_with (go_at_call 93;(with_reducible refine (HK.out _).mono ?_);rintro e w2 ⟨rfl,hw2⟩;subst w2)
   go_ret
   exact ⟨by rw [HF.out];rfl,rfl⟩
 | false=>
   rw [hv] at h1 hO
   have t1:((c.toNat:Int) != 118) = true:=by rw [bne,h1];rfl
   have t2:((c.toNat:Int) != 102) = !isFnT t:=by rw [bne,h2]
   have HF:=Hd hO
   clear h1 h2 hO hv
   generalize isFnT t = b at *
   go_enter Tryz.func87,Tryz.ntmps87
   go_wp2_with (go_at_call 93;(with_reducible refine (HK.out _).mono ?_);rintro e w2 ⟨rfl,hw2⟩;subst w2)
   go_ret
   exact ⟨by rw [HF.out];simp,rfl⟩
end Go.Proofs.YtbbaooeioogijaaGreatDoor
namespace Go.Proofs.YtbbaooeioogijaaGreatDoor
open Go.RowKit
def ShapC (t:Ty):Prop:=∀ w,Calls Tryz.prog 115 #[.string (tyB t)] w fun e w'=>e = .returned (.bool (shapeT t)) ∧ Below w.heap.size w w'
theorem all_false {l:List Ty} {p:Ty} (h:p ∈ l) (hs:shapeT p = false):l.all shapeT = false:=by
 rw [List.all_eq_false];exact ⟨p,h,by simp [hs]⟩
theorem all_scal {l:List Ty} {p:Ty} (h:p ∈ l) (hs:isScalarT p = false):l.all isScalarT = false:=by
 rw [List.all_eq_false];exact ⟨p,h,by simp [hs]⟩
theorem shapes_all2 (l:List Ty):shapesT l = (l.all isScalarT && l.all shapeT):=by
 induction l with
 | nil=>rfl
 | cons t l ih=>rw [shapesT,ih,List.all_cons,List.all_cons];cases isScalarT t <;> cases shapeT t <;> simp
theorem rows_later {w:World} {a:Option Addr} {ps:List Ty} {B:Nat} (hc:0 < ps.length → ∃ g,a = some ⟨g,0,none⟩ ∧ B ≤ g ∧ g < w.heap.size ∧ ∀ (j:Nat) u,(ps.map fun p=>Value.string (tyB p))[j]? = some u → w.cell? ⟨g,j,none⟩ = some u) :
 ∀ w',Below w.heap.size w w' → 0 < ps.length → ∃ g,a = some ⟨g,0,none⟩ ∧ g < w'.heap.size ∧ ∀ (j:Nat) (hj:j < ps.length),w'.cell? ⟨g,j,none⟩ = some (.string (tyB ps[j])):=fun w' hb hn=>by
 obtain ⟨g,e,_,hg,hr⟩:=hc hn
 refine ⟨g,e,Nat.lt_of_lt_of_le hg hb.size,fun j hj=>?_⟩
 rw [hb.cell (p:=⟨g,j,none⟩) hg]
 exact hr j _ (by rw [List.getElem?_map,List.getElem?_eq_getElem hj];rfl)
theorem refScal_is (t:Ty) (w:World) (hr:Right t) (hl:(code t).length ≤ 65536):Calls Tryz.prog 139 #[.string (tyB t)] w fun e w'=>e = .returned (.bool (isScalarT t)) ∧ Below w.heap.size w w':=by
 have:=refIsScalar_ok (tyB t) w
 rw [show isScalS (tyB t) = isScalarT t by unfold isScalS;rw [tyS_some.2 ⟨rfl,hr,hl⟩];rfl] at this
 exact this
set_option maxHeartbeats 4000000 in
theorem shap_plain (t:Ty) (hr:Right t) (hl:(code t).length ≤ 65536) (h1:headT t ≠ 97) (h2:headT t ≠ 102) (he:shapeT t = (partsT t).all shapeT) (ih:∀ p ∈ partsT t,ShapC p):ShapC t:=by
 intro w
 have HK:=Hd (fun w=>refKind_ok t w)
 have t1:(((headT t).toNat:Int) == 97) = false:=(byte_ne h1 rfl).1
 have t2:(((headT t).toNat:Int) == 102) = false:=(byte_ne h2 rfl).1
 have HPt:=Hd (fun w=>refParts_ok t hr hl w)
 have hpl:=parts_len t hr
 have HEq:=Hd he
 have HM:=Hd ih
 generalize partsT t = l at *
 have hll:(l.length:Int) ≤ 65536:=by omega
 generalize headT t = c at *
 generalize hs:tyB t = s at *
 clear hs h1 h2 he ih hr hl hpl
 go_enter Tryz.func115,Tryz.ntmps115
 go_upto_region 14 with ((go_at_call 93;(with_reducible refine (HK.out _).mono ?_);rintro e w1 ⟨rfl,hw1⟩;subst w1))
 have HPc:=Hd (HPt.out w)
 go_wp2_with (go_at_call 138;(with_reducible refine HPc.out.mono ?_);rintro e w2 ⟨⟨v,rfl,ho⟩,hb2⟩;have HB2:=Hd (hb2);obtain ⟨a,cap,rfl,hc⟩:=own_formT ho;have HC:=Hd hc;clear hb2 ho hc)
 go_loopg [9] l.length (fun g v9 wy=>∃ k:Nat,k ≤ l.length ∧ k + g = l.length ∧ v9 = .int .i64 (k:Int) ∧ Hid ((l.take k).all shapeT = true) ∧ Hid (Below w2.heap.size w2 wy))
 case atStart=>exact ⟨0,Nat.zero_le _,by omega,rfl,rfl,Below.refl _ _⟩
 case round=>
  obtain ⟨k,hk,hkg,rfl,hall,HB⟩:=hrel
  by_cases hlt:k < l.length
  ·obtain ⟨g,rfl,_,hg2,hrow⟩:=HC.out (by omega)
   have e1:wr.cell? ⟨g,k,none⟩ = some (.string (tyB l[k])):=by
    rw [HB.out.cell (p:=⟨g,k,none⟩) hg2]
    exact hrow k _ (by rw [List.getElem?_map,List.getElem?_eq_getElem hlt];rfl)
   have HCl:=Hd (fun w=>HM.out _ (List.getElem_mem hlt) w)
   have htk:l.take (k + 1) = l.take k ++ [l[k]]:=by rw [List.take_add_one,List.getElem?_eq_getElem hlt];rfl
   rcases hsh:shapeT l[k] with _ | _
   ·have hfin:=Hd (show shapeT t = false by rw [HEq.out];exact all_false (List.getElem_mem hlt) hsh)
    rw [hsh] at HCl
    clear hrow hsh htk
    generalize tyB (l[k]'hlt) = tp at *
    go_wp2_with (go_at_call 115;(with_reducible refine (HCl.out _).mono ?_);rintro e w3 ⟨rfl,hb3⟩;have HB3:=Ht HB hb3;clear hb3)
    go_ret
    exact ⟨by rw [hfin.out];rfl,HB2.out.trans (HB3.out.mono HB2.out.size)⟩
   ·have hal2:=Hd (show (l.take (k + 1)).all shapeT = true by rw [htk,List.all_append,hall.out];simp [hsh])
    rw [hsh] at HCl
    clear hrow hsh htk
    generalize tyB (l[k]'hlt) = tp at *
    go_wp2_with (go_at_call 115;(with_reducible refine (HCl.out _).mono ?_);rintro e w3 ⟨rfl,hb3⟩;have HB3:=Ht HB hb3;clear hb3)
    go_roundg (l.length - (k + 1))
    case measure=>omega
    case rel=>exact ⟨k + 1,by omega,by omega,by rw [Int.natCast_add];rfl,hal2,HB3⟩
  ·obtain rfl:k = l.length:=by omega
   have t9:(l.length:Int) ≤ (l.length:Int):=Int.le_refl _
   have hfin:=Hd (show shapeT t = true by rw [HEq.out];have:=hall.out;rwa [List.take_length] at this)
   go_wp2_with fail
   go_ret
   exact ⟨by rw [hfin.out];rfl,HB2.out.trans (HB.out.mono HB2.out.size)⟩
set_option maxHeartbeats 4000000 in
theorem shap_arr (n:Nat) (u:Ty) (hr:Right (.arr n u)) (hl:(code (.arr n u)).length ≤ 65536) (ih:ShapC u):ShapC (.arr n u):=by
 intro w
 have HK:=Hd (fun w=>kind_is 97 (.arr n u) w rfl)
 have HIn:=Hd (fun w=>refInner_arr n u hr hl w)
 have HOb:=Hd (fun w=>refObject_ok u hr.2 w)
 have hnb:(n:Int) ≤ 1099511627776:=by have:=hr.1;omega
 have HPt:=Hd (fun w=>refParts_ok (.arr n u) hr hl w)
 have hpl:=parts_len (.arr n u) hr
 have HM:=Hd (show ∀ p ∈ partsT (.arr n u),ShapC p from fun p hp=>by obtain rfl:=List.mem_singleton.1 hp;exact ih)
 have hsh:shapeT (.arr n u) = (decide (1 ≤ n ∧ n ≤ 65536) && (objectT u && shapeT u)):=by rw [shapeT]
 have hpt:(partsT (.arr n u)).all shapeT = shapeT u:=by simp [partsT]
 have hll:((partsT (.arr n u)).length:Int) ≤ 65536:=by omega
 clear hr hl hpl
 generalize Ty.arr n u = t at *
 generalize partsT t = l at *
 by_cases hok:objectT u = true ∧ 1 ≤ n ∧ n ≤ 65536
 ·obtain ⟨ho,hn1,hn2⟩:=hok
  have HEq:=Hd (show shapeT t = l.all shapeT by rw [hsh,hpt,ho,decide_eq_true ⟨hn1,hn2⟩];rfl)
  have t3:(1:Int) ≤ n:=by omega
  have t4:(n:Int) ≤ 65536:=by omega
  rw [ho] at HOb
  generalize tyB t = s at *
  clear hsh hpt ho ih
  go_enter Tryz.func115,Tryz.ntmps115
  go_upto_region 14 with (first | (go_at_call 93;(with_reducible refine (HK.out _).mono ?_);rintro e w1 ⟨rfl,hw1⟩;subst w1) | (go_at_call 118;(with_reducible refine (HIn.out _).mono ?_);rintro e w3 ⟨rfl,hb3⟩;have HB3:=Hd hb3;clear hb3) | (go_at_call 87;(with_reducible refine (HOb.out _).mono ?_);rintro e w1 ⟨rfl,hw1⟩;subst w1))
  have HPc:=Hd (HPt.out w3)
  go_wp2_with (go_at_call 138;(with_reducible refine HPc.out.mono ?_);rintro e w2 ⟨⟨v,rfl,ho⟩,hb2⟩;have HB2:=Ht HB3 hb2;obtain ⟨a,cap,rfl,hc⟩:=own_formT ho;have HC:=Hd hc;clear hb2 ho hc)
  go_loopg [9] l.length (fun g v9 wy=>∃ k:Nat,k ≤ l.length ∧ k + g = l.length ∧ v9 = .int .i64 (k:Int) ∧ Hid ((l.take k).all shapeT = true) ∧ Hid (Below w2.heap.size w2 wy))
  case atStart=>exact ⟨0,Nat.zero_le _,by omega,rfl,rfl,Below.refl _ _⟩
  case round=>
   obtain ⟨k,hk,hkg,rfl,hall,HB⟩:=hrel
   by_cases hlt:k < l.length
   ·obtain ⟨g,rfl,_,hg2,hrow⟩:=HC.out (by omega)
    have e1:wr.cell? ⟨g,k,none⟩ = some (.string (tyB l[k])):=by
     rw [HB.out.cell (p:=⟨g,k,none⟩) hg2]
     exact hrow k _ (by rw [List.getElem?_map,List.getElem?_eq_getElem hlt];rfl)
    have HCl:=Hd (fun w=>HM.out _ (List.getElem_mem hlt) w)
    have htk:l.take (k + 1) = l.take k ++ [l[k]]:=by rw [List.take_add_one,List.getElem?_eq_getElem hlt];rfl
    rcases hsh:shapeT l[k] with _ | _
    ·have hfin:=Hd (show shapeT t = false by rw [HEq.out];exact all_false (List.getElem_mem hlt) hsh)
     rw [hsh] at HCl
     clear hrow hsh htk
     generalize tyB (l[k]'hlt) = tp at *
     go_wp2_with (go_at_call 115;(with_reducible refine (HCl.out _).mono ?_);rintro e w3 ⟨rfl,hb3⟩;have HB3:=Ht HB hb3;clear hb3)
     go_ret
     exact ⟨by rw [hfin.out];rfl,HB2.out.trans (HB3.out.mono HB2.out.size)⟩
    ·have hal2:=Hd (show (l.take (k + 1)).all shapeT = true by rw [htk,List.all_append,hall.out];simp [hsh])
     rw [hsh] at HCl
     clear hrow hsh htk
     generalize tyB (l[k]'hlt) = tp at *
     go_wp2_with (go_at_call 115;(with_reducible refine (HCl.out _).mono ?_);rintro e w3 ⟨rfl,hb3⟩;have HB3:=Ht HB hb3;clear hb3)
     go_roundg (l.length - (k + 1))
     case measure=>omega
     case rel=>exact ⟨k + 1,by omega,by omega,by rw [Int.natCast_add];rfl,hal2,HB3⟩
   ·obtain rfl:k = l.length:=by omega
    have t9:(l.length:Int) ≤ (l.length:Int):=Int.le_refl _
    have hfin:=Hd (show shapeT t = true by rw [HEq.out];have:=hall.out;rwa [List.take_length] at this)
    go_wp2_with fail
    go_ret
    exact ⟨by rw [hfin.out];rfl,HB2.out.trans (HB.out.mono HB2.out.size)⟩
 ·have hfin:=Hd (show shapeT t = false by
   rw [hsh]
   rcases ho:objectT u with _ | _
   ·simp
   ·rw [decide_eq_false (fun h=>hok ⟨ho,h⟩)];rfl)
  have hT:objectT u = false ∨ (objectT u = true ∧ (n:Int) < 1) ∨ (objectT u = true ∧ (1:Int) ≤ n ∧ (65536:Int) < n):=by
   rcases ho:objectT u with _ | _
   ·exact .inl rfl
   ·refine .inr ?_
    by_cases h1:n < 1
    ·exact .inl ⟨rfl,by omega⟩
    ·refine .inr ⟨rfl,by omega,?_⟩
     have:¬ n ≤ 65536:=fun h=>hok ⟨ho,by omega,h⟩
     omega
  generalize tyB t = s at *
  clear hsh hpt hok ih
  rcases hT with ho | ⟨ho,t3⟩ | ⟨ho,t3,t4⟩
  all_goals
   rw [ho] at HOb
   clear ho
   go_enter Tryz.func115,Tryz.ntmps115
   go_wp2_with (first | (go_at_call 93;(with_reducible refine (HK.out _).mono ?_);rintro e w1 ⟨rfl,hw1⟩;subst w1) | (go_at_call 118;(with_reducible refine (HIn.out _).mono ?_);rintro e w3 ⟨rfl,hb3⟩;have HB3:=Hd hb3;clear hb3) | (go_at_call 87;(with_reducible refine (HOb.out _).mono ?_);rintro e w1 ⟨rfl,hw1⟩;subst w1))
   go_ret
   exact ⟨by rw [hfin.out];rfl,HB3.out⟩
theorem tyB_v (t:Ty) (hr:Right t):((tyB t).toList == [118]) = isVoidT t:=by
 rw [one_is hr 118]
 cases t <;> rfl
set_option maxHeartbeats 8000000 in
set_option maxRecDepth 100000 in
theorem shap_fn (ps:List Ty) (r:Ty) (hr:Right (.fn ps r)) (hl:(code (.fn ps r)).length ≤ 65536) (ih:∀ p ∈ partsT (.fn ps r),ShapC p):ShapC (.fn ps r):=by
 intro w
 have HK:=Hd (fun w=>kind_is 102 (.fn ps r) w rfl)
 have HSg:=Hd (fun w=>refSplit_fn ps r w hr hl)
 have HPt:=Hd (fun w=>refParts_ok (.fn ps r) hr hl w)
 have hpl:=parts_len (.fn ps r) hr
 have hpb:(ps.length:Int) ≤ 65536:=by
  rw [partsT] at hpl
  simp at hpl;omega
 have HM:=Hd ih
 have hsh:shapeT (.fn ps r) = (decide (ps.length ≤ 8) && ((isVoidT r || isScalarT r) && (shapeT r && shapesT ps))):=by rw [shapeT]
 have hrl:Right r ∧ (code r).length < (code (.fn ps r)).length:=parts_mem (t:=.fn ps r) (by simp [partsT]) hr
 have hv:=tyB_v r hrl.1
 have hv':((tyB r).toList != [118]) = !isVoidT r:=by rw [bne,hv]
 have HSc:=Hd (fun w=>refScal_is r w hrl.1 (by omega))
 have HPs:=Hd (fun (k:Nat) (hk:k < ps.length) w=>refScal_is ps[k] w (parts_mem (t:=.fn ps r) (p:=ps[k]) (by simp [partsT]) hr).1 (by
  have:=(parts_mem (t:=.fn ps r) (p:=ps[k]) (by simp [partsT]) hr).2
  omega))
 have hpt:(partsT (.fn ps r)).all shapeT = (ps.all shapeT && shapeT r):=by simp [partsT]
 have hll:((partsT (.fn ps r)).length:Int) ≤ 65536:=by omega
 clear ih hr hl hpl
 generalize Ty.fn ps r = t at *
 generalize partsT t = l at *
 generalize tyB t = s at *
 by_cases h8:ps.length ≤ 8
 ·rw [decide_eq_true h8,Bool.true_and] at hsh
  have t3:(ps.length:Int) ≤ 8:=by omega
  rcases hvs:(isVoidT r || isScalarT r) with _ | _
  ·have hfin:=Hd (show shapeT t = false by rw [hsh,hvs];rfl)
   rw [Bool.or_eq_false_iff] at hvs
   have hv2:((tyB r).toList != [118]) = true:=by rw [hv',hvs.1];rfl
   rw [hvs.1] at hv
   clear hv'
   rw [hvs.2] at HSc
   clear hsh hpt h8 hrl hvs
   go_enter Tryz.func115,Tryz.ntmps115
   go_wp2_with (first | (go_at_call 93;(with_reducible refine (HK.out _).mono ?_);rintro e w1 ⟨rfl,hw1⟩;subst w1) | (go_at_call 94;(with_reducible refine (HSg.out _).mono ?_);rintro e w3 ⟨⟨v,rfl,ho⟩,hb3⟩;have HB3:=Hd hb3;obtain ⟨a1,cap1,rfl,hc1⟩:=own_formT ho;clear hb3 ho hc1) | (go_at_call 139;(with_reducible refine (HSc.out _).mono ?_);rintro e w4 ⟨rfl,hb4⟩;have HB4:=Ht HB3 hb4;clear hb4))
   go_ret
   exact ⟨by rw [hfin.out];rfl,HB4.out⟩
  ·rw [hvs,Bool.true_and] at hsh
   have hT:(isVoidT r = true) ∨ (isVoidT r = false ∧ isScalarT r = true):=by
    rcases h:isVoidT r with _ | _
    ·rw [h] at hvs;exact .inr ⟨rfl,by simpa using hvs⟩
    ·exact .inl rfl
   have HShs:=Hd hsh
   have HAl:=Hd hpt
   have HShl:=Hd (shapes_all2 ps)
   clear hsh hpt h8 hrl hvs
   rcases hT with h | ⟨h,h'⟩
   case' inl=>
    have hv2:((tyB r).toList != [118]) = false:=by rw [hv',h];rfl
    rw [h] at hv
    clear h hv'
    go_enter Tryz.func115,Tryz.ntmps115
    go_upto_region 9 with (first | (go_at_call 93;(with_reducible refine (HK.out _).mono ?_);rintro e w1 ⟨rfl,hw1⟩;subst w1) | (go_at_call 94;(with_reducible refine (HSg.out _).mono ?_);rintro e w3 ⟨⟨v,rfl,ho⟩,hb3⟩;have HB4:=Hd hb3;obtain ⟨a1,cap1,rfl,hc1⟩:=own_formT ho;have HC1:=Hd (show ∀ w',Below w3.heap.size w3 w' → 0 < ps.length → ∃ g,a1 = some ⟨g,0,none⟩ ∧ g < w'.heap.size ∧ ∀ (j:Nat) (hj:j < ps.length),w'.cell? ⟨g,j,none⟩ = some (.string (tyB ps[j])) from rows_later hc1);clear hb3 ho hc1))
    obtain ⟨w4,hw4⟩:∃ w4,w4 = w3:=⟨_,rfl⟩
    have HB34:=Hd (show Below w3.heap.size w3 w4 by rw [hw4];exact Below.refl _ _)
    rw [← hw4] at HB4 ⊢
    clear hw4
   case' inr=>
    have hv2:((tyB r).toList != [118]) = true:=by rw [hv',h];rfl
    rw [h] at hv
    rw [h'] at HSc
    clear h h' hv'
    go_enter Tryz.func115,Tryz.ntmps115
    go_upto_region 9 with (first | (go_at_call 93;(with_reducible refine (HK.out _).mono ?_);rintro e w1 ⟨rfl,hw1⟩;subst w1) | (go_at_call 94;(with_reducible refine (HSg.out _).mono ?_);rintro e w3 ⟨⟨v,rfl,ho⟩,hb3⟩;have HB3:=Hd hb3;obtain ⟨a1,cap1,rfl,hc1⟩:=own_formT ho;have HC1:=Hd (show ∀ w',Below w3.heap.size w3 w' → 0 < ps.length → ∃ g,a1 = some ⟨g,0,none⟩ ∧ g < w'.heap.size ∧ ∀ (j:Nat) (hj:j < ps.length),w'.cell? ⟨g,j,none⟩ = some (.string (tyB ps[j])) from rows_later hc1);clear hb3 ho hc1) | (go_at_call 139;(with_reducible refine (HSc.out _).mono ?_);rintro e w4 ⟨rfl,hb4⟩;have HB34:=Hd hb4;have HB4:=Ht HB3 hb4;clear hb4))
   all_goals
    go_wp2_with fail
    go_loopg [7] ps.length (fun g v7 wy=>∃ k:Nat,k ≤ ps.length ∧ k + g = ps.length ∧ v7 = .int .i64 (k:Int) ∧ Hid ((ps.take k).all isScalarT = true) ∧ Hid (Below w4.heap.size w4 wy))
    case atStart=>exact ⟨0,Nat.zero_le _,by omega,rfl,rfl,Below.refl _ _⟩
    case round=>
     obtain ⟨k,hk,hkg,rfl,hall,HB⟩:=hrel
     by_cases hlt:k < ps.length
     ·obtain ⟨g,rfl,hg2,hrow⟩:=HC1.out wr (HB34.out.trans (HB.out.mono HB34.out.size)) (by omega)
      have e1:=hrow k hlt
      have HCl:=Hd (fun w=>HPs.out k hlt w)
      have htk:ps.take (k + 1) = ps.take k ++ [ps[k]]:=by rw [List.take_add_one,List.getElem?_eq_getElem hlt];rfl
      rcases hsc:isScalarT ps[k] with _ | _
      ·have hfin:=Hd (show shapeT t = false by rw [HShs.out,HShl.out,all_scal (List.getElem_mem hlt) hsc];simp)
       rw [hsc] at HCl
       clear hrow hsc htk
       generalize tyB (ps[k]'hlt) = tp at *
       go_wp2_with (go_at_call 139;(with_reducible refine (HCl.out _).mono ?_);rintro e w5 ⟨rfl,hb5⟩;have HB5:=Ht HB hb5;clear hb5)
       go_ret
       exact ⟨by rw [hfin.out];rfl,HB4.out.trans (HB5.out.mono HB4.out.size)⟩
      ·have hal2:=Hd (show (ps.take (k + 1)).all isScalarT = true by rw [htk,List.all_append,hall.out];simp [hsc])
       rw [hsc] at HCl
       clear hrow hsc htk
       generalize tyB (ps[k]'hlt) = tp at *
       go_wp2_with (go_at_call 139;(with_reducible refine (HCl.out _).mono ?_);rintro e w5 ⟨rfl,hb5⟩;have HB5:=Ht HB hb5;clear hb5)
       go_roundg (ps.length - (k + 1))
       case measure=>omega
       case rel=>exact ⟨k + 1,by omega,by omega,by rw [Int.natCast_add];rfl,hal2,HB5⟩
     ·obtain rfl:k = ps.length:=by omega
      have t8:(ps.length:Int) ≤ (ps.length:Int):=Int.le_refl _
      have HEq:=Hd (show shapeT t = l.all shapeT by
       have h1:=hall.out
       rw [List.take_length] at h1
       rw [HShs.out,HShl.out,HAl.out,h1,Bool.true_and,Bool.and_comm])
      have HBr:=Hd (HB4.out.trans (HB.out.mono HB4.out.size))
      go_upto_region 14 with fail
      have HPc:=Hd (HPt.out wr)
      go_wp2_with (go_at_call 138;(with_reducible refine HPc.out.mono ?_);rintro e w2 ⟨⟨v,rfl,ho⟩,hb2⟩;have HB2:=Ht HBr hb2;obtain ⟨a,cap,rfl,hc⟩:=own_formT ho;have HC:=Hd hc;clear hb2 ho hc)
      go_loopg [9] l.length (fun g v9 wy=>∃ k:Nat,k ≤ l.length ∧ k + g = l.length ∧ v9 = .int .i64 (k:Int) ∧ Hid ((l.take k).all shapeT = true) ∧ Hid (Below w2.heap.size w2 wy))
      case atStart=>exact ⟨0,Nat.zero_le _,by omega,rfl,rfl,Below.refl _ _⟩
      case round=>
       obtain ⟨k,hk,hkg,rfl,hall,HB⟩:=hrel
       by_cases hlt:k < l.length
       ·obtain ⟨g,rfl,_,hg2,hrow⟩:=HC.out (by omega)
        have e1:wr.cell? ⟨g,k,none⟩ = some (.string (tyB l[k])):=by
         rw [HB.out.cell (p:=⟨g,k,none⟩) hg2]
         exact hrow k _ (by rw [List.getElem?_map,List.getElem?_eq_getElem hlt];rfl)
        have HCl:=Hd (fun w=>HM.out _ (List.getElem_mem hlt) w)
        have htk:l.take (k + 1) = l.take k ++ [l[k]]:=by rw [List.take_add_one,List.getElem?_eq_getElem hlt];rfl
        rcases hsh:shapeT l[k] with _ | _
        ·have hfin:=Hd (show shapeT t = false by rw [HEq.out];exact all_false (List.getElem_mem hlt) hsh)
         rw [hsh] at HCl
         clear hrow hsh htk
         generalize tyB (l[k]'hlt) = tp at *
         go_wp2_with (go_at_call 115;(with_reducible refine (HCl.out _).mono ?_);rintro e w3 ⟨rfl,hb3⟩;have HB3:=Ht HB hb3;clear hb3)
         go_ret
         exact ⟨by rw [hfin.out];rfl,HB2.out.trans (HB3.out.mono HB2.out.size)⟩
        ·have hal2:=Hd (show (l.take (k + 1)).all shapeT = true by rw [htk,List.all_append,hall.out];simp [hsh])
         rw [hsh] at HCl
         clear hrow hsh htk
         generalize tyB (l[k]'hlt) = tp at *
         go_wp2_with (go_at_call 115;(with_reducible refine (HCl.out _).mono ?_);rintro e w3 ⟨rfl,hb3⟩;have HB3:=Ht HB hb3;clear hb3)
         go_roundg (l.length - (k + 1))
         case measure=>omega
         case rel=>exact ⟨k + 1,by omega,by omega,by rw [Int.natCast_add];rfl,hal2,HB3⟩
       ·obtain rfl:k = l.length:=by omega
        have t9:(l.length:Int) ≤ (l.length:Int):=Int.le_refl _
        have hfin:=Hd (show shapeT t = true by rw [HEq.out];have:=hall.out;rwa [List.take_length] at this)
        go_wp2_with fail
        go_ret
        exact ⟨by rw [hfin.out];rfl,HB2.out.trans (HB.out.mono HB2.out.size)⟩
 ·have hfin:=Hd (show shapeT t = false by rw [hsh,decide_eq_false h8];rfl)
  have t3:(8:Int) < ps.length:=by omega
  clear hsh hpt h8 hrl hv hv'
  go_enter Tryz.func115,Tryz.ntmps115
  go_wp2_with (first | (go_at_call 93;(with_reducible refine (HK.out _).mono ?_);rintro e w1 ⟨rfl,hw1⟩;subst w1) | (go_at_call 94;(with_reducible refine (HSg.out _).mono ?_);rintro e w3 ⟨⟨v,rfl,ho⟩,hb3⟩;have HB3:=Hd hb3;obtain ⟨a1,cap1,rfl,hc1⟩:=own_formT ho;clear hb3 ho hc1))
  go_ret
  exact ⟨by rw [hfin.out];rfl,HB3.out⟩
theorem refShape_ok:∀ (n:Nat) (t:Ty),(code t).length ≤ n → Right t → (code t).length ≤ 65536 → ShapC t
 | 0,t,hn,hr,_=>by have:=code_pos hr;omega
 | n + 1,t,hn,hr,hl=>by
   have ih:∀ p ∈ partsT t,ShapC p:=fun p hp=>by
    obtain ⟨h1,h2⟩:=parts_mem hp hr
    exact refShape_ok n p (by omega) h1 (by omega)
   cases t with
   | base c=>exact shap_plain _ hr hl (by rcases base_six hr with rfl | rfl | rfl | rfl | rfl | rfl <;> decide) (by rcases base_six hr with rfl | rfl | rfl | rfl | rfl | rfl <;> decide) rfl ih
   | str s=>exact shap_plain _ hr hl (by simp [headT]) (by simp [headT]) rfl ih
   | ptr u=>exact shap_plain _ hr hl (by simp [headT]) (by simp [headT]) (by simp [shapeT,partsT]) ih
   | arr m u=>exact shap_arr m u hr hl (ih u (by simp [partsT]))
   | fn ps r=>exact shap_fn ps r hr hl ih
end Go.Proofs.YtbbaooeioogijaaGreatDoor
