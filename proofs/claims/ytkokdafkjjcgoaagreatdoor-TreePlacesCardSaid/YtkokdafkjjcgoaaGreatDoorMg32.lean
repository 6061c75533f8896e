/- A global laid out: the program. -/
import Derived.Test.YtkokdafkjjcgoaaGreatDoorMg31
namespace Go.Proofs.YtkokdafkjjcgoaaGreatDoor
open Go.RowKit
def itemT (t:List Nd):List Tok:=partN t ((beginsN t).getD []) 2 (t.length - 1)
def itemsF (l:List (List Nd)) (n:Nat):List Tok:=(List.range n).flatMap fun i=>(if 0 < i then [tkM ⟨#[44]⟩] else []) ++ match l[i]? with
 | some t=>itemT t
 | none=>[]
theorem itemsF_next (l:List (List Nd)) (n:Nat):itemsF l (n + 1) = itemsF l n ++ ((if 0 < n then [tkM ⟨#[44]⟩] else []) ++ match l[n]? with
 | some t=>itemT t
 | none=>[]):=by
 unfold itemsF
 rw [List.range_succ,List.flatMap_append]
 simp
theorem itemsF_le (l:List (List Nd)) (i:Nat):∀ n,i ≤ n → (itemsF l i).length ≤ (itemsF l n).length
 | 0,h=>by obtain rfl:i = 0:=by omega
           exact Nat.le_refl _
 | n + 1,h=>by
   rcases Nat.lt_or_ge n i with h1 | h1
   ·obtain rfl:i = n + 1:=by omega
    exact Nat.le_refl _
   ·rw [itemsF_next,List.length_append]
    have:=itemsF_le l i n h1
    omega
def manyB (s:ByteArray):Bool:=match s.data.toList with
 | c :: _=>c == 97 || c == 83
 | []=>false
def lastK (t:List Nd):Int:=kindAt t (t.length - 1)
def bracesB (g:GlU):Bool:=decide (1 < g.init.length) || (manyB g.var.type && match g.init with
 | t :: _=>decide (lastK t ≠ 2)
 | []=>false)
def volT (b:Bool):List Tok:=if b = true then [tkV] else []
def brT (b:Bool) (c:UInt8):List Tok:=if b = true then [tkM ⟨#[c]⟩] else []
def globT (g:GlU):List Tok:=volT g.var.vol ++ (declK g.var.type g.var.name ++ ((if 0 < g.init.length then tkM ⟨#[61]⟩ :: (brT (bracesB g) 123 ++ (itemsF g.init g.init.length ++ brT (bracesB g) 125)) else []) ++ [tkM ⟨#[59]⟩]))
theorem many_is {s:ByteArray} (h:0 < s.size):((((s[0]'h).toNat:Int) == 97) = true ∨ ((((s[0]'h).toNat:Int) == 97) = false ∧ (((s[0]'h).toNat:Int) == 83) = true)) ∧ manyB s = true ∨ ((((s[0]'h).toNat:Int) == 97) = false ∧ (((s[0]'h).toNat:Int) == 83) = false) ∧ manyB s = false:=by
 have hl:∃ r,s.data.toList = s[0] :: r:=by
  have h1:0 < s.data.toList.length:=by rw [Array.length_toList];exact h
  obtain ⟨x,r,hx⟩:=List.exists_cons_of_length_pos h1
  refine ⟨r,?_⟩
  have:s.data.toList[0]? = some s[0]:=by rw [List.getElem?_eq_getElem h1,Array.getElem_toList];rfl
  rw [hx] at this
  rw [hx]
  simp only [List.getElem?_cons_zero,Option.some.injEq] at this
  rw [this]
 obtain ⟨r,hr⟩:=hl
 unfold manyB
 rw [hr]
 generalize s[0] = c
 by_cases h1:c = 97
 ·subst h1
  exact .inl ⟨.inl (by decide),by simp⟩
 ·have e1:((c.toNat:Int) == 97) = false:=by rw [beq_eq_false_iff_ne];intro e;exact h1 (UInt8.toNat_inj.1 (by simp;omega))
  by_cases h2:c = 83
  ·subst h2
   exact .inl ⟨.inr ⟨by decide,by decide⟩,by simp⟩
  ·have e2:((c.toNat:Int) == 83) = false:=by rw [beq_eq_false_iff_ne];intro e;exact h2 (UInt8.toNat_inj.1 (by simp;omega))
   exact .inr ⟨⟨e1,e2⟩,by simp [h1,h2]⟩
theorem five_blockP {w:World} {b:Nat} {a0 a1 a2 a3 a4:Value} {T:TypeId} (h:w.heap[b]? = some (.cells #[a0,a1,a2,a3,a4] T (0,0))) :
 (w.cell? ⟨b,0,none⟩ = some a0 ∧ w.cell? ⟨b,1,none⟩ = some a1 ∧ w.cell? ⟨b,2,none⟩ = some a2 ∧ w.cell? ⟨b,3,none⟩ = some a3 ∧ w.cell? ⟨b,4,none⟩ = some a4) ∧ ∀ j,w.frozen? ⟨b,j,none⟩ = false:=by
 refine ⟨⟨?_,?_,?_,?_,?_⟩,fun j=>?_⟩ <;> simp [World.cell?,World.frozen?,h]
set_option maxRecDepth 100000 in
set_option maxHeartbeats 8000000 in
theorem global9_ok (pb:Nat) (W:List ByteArray) (g:GlU) (v:Value) (w:World) (hP:PapAt pb W w) (hE:EnvB pb w) (hG:IsTrs pb w v g.init) (h0:0 < g.var.type.size) (hI:∀ t ∈ g.init,checkN9 t = 0 ∧ exprK (lastK t) = true) (hl:g.init.length ≤ 1000000) (hn:W.length + (globT g).length < 1000000000000) :
 Calls Tryz.prog 66 #[.pointer (some ⟨pb,0,none⟩),.agg #[.int .i64 g.at_,.string g.var.name,.string g.var.type,.bool g.var.vol,v]] w (PutEnd pb (W ++ (globT g).map wordV) w):=by
 have HS0:=Hd (fun w1 h=>UnSt.start (cs:=#[.int .i64 g.at_,.string g.var.name,.string g.var.type,.bool g.var.vol,v]) (T:=118) (w1:=w1) hP hE h)
 have hpb:=hP.lt
 have HTr:=Hd (fun w1 (hk:KeepP pb w w1) i (hi:i < g.init.length)=>trs_at (hG.below hk.below (Nat.le_refl _)) hi)
 obtain ⟨a,cap,hv⟩:=trs_len hG
 subst hv
 have HIt:=Hd hI
 have HMy:=many_is h0
 unfold globT at hn ⊢
 generalize hbr:bracesB g = br at *
 have HBr:=Hd hbr
 obtain ⟨gat,⟨nm,ty,vol⟩,ini⟩:=g
 simp only at *
 clear hP hE hG hI hbr
 obtain ⟨VL,hVL⟩:∃ VL,VL = volT vol:=⟨_,rfl⟩
 obtain ⟨IL,hIL⟩:∃ IL:List Tok,IL = (if 0 < ini.length then tkM ⟨#[61]⟩ :: (brT br 123 ++ (itemsF ini ini.length ++ brT br 125)) else []):=⟨_,rfl⟩
 rw [← hVL,← hIL] at hn ⊢
 have HVL:=Hd hVL
 have HIL:=Hd hIL
 clear hVL hIL
 simp only [List.length_append,List.length_cons,List.length_nil] at hn
 have hli:(ini.length:Int) ≤ 1000000:=by omega
 go_enter Tryz.func66,Tryz.ntmps66
 go_upto_region 1 with fail
 generalize hg1:w.alloc _ = w1 at *
 have HS1:=Hd (HS0.out w1 rfl)
 clear hg1 HS0
 obtain ⟨⟨y0,y1,y2,y3,y4⟩,_⟩:=five_blockP HS1.out.box
 go_upto_if 11 with fail
 go_cut [12] (fun s12 wx=>∃ v,s12 = v ∧ Hid (UnSt pb w.heap.size #[.int .i64 gat,.string nm,.string ty,.bool vol,.slice a ini.length cap] 118 w (W ++ VL.map wordV) wx))
 case first=>
  cases vol with
  | false=>
    have hv:=HVL.out
    simp only [volT,Bool.false_eq_true,if_false] at hv
    subst hv
    go_wp2_with fail
    go_meet
    exact ⟨_,rfl,Hd (by simpa using HS1.out)⟩
  | true=>
    have hv:=HVL.out
    simp only [volT,if_true] at hv
    subst hv
    go_wp2_with (go_at_call 96;(refine (HS1.out.put1 _ (by omega)).mono ?_);rintro e w3 ⟨rfl,hs⟩;have HS2:=Hd hs;clear hs)
    go_meet
    exact ⟨_,rfl,Hd (by simpa [tkV,word_K] using HS2.out)⟩
 case rest=>
 obtain ⟨_,rfl,HS2⟩:=hcut
 obtain ⟨⟨y0,y1,y2,y3,y4⟩,_⟩:=five_blockP HS2.out.box
 go_upto_region 4 with (go_at_call 114;(refine (HS2.out.decl ty nm (by first | omega | (simp;omega))).mono ?_);rintro e w3 ⟨rfl,hs⟩;have HS3:=Hd hs;clear hs)
 clear HS2
 generalize declK ty nm = DL at *
 obtain ⟨⟨y0,y1,y2,y3,y4⟩,_⟩:=five_blockP HS3.out.box
 go_upto_if 26 with fail
 go_cut [27] (fun s27 wx=>∃ v,s27 = v ∧ Hid (PaSt pb w (W ++ VL.map wordV ++ DL.map wordV ++ IL.map wordV) wx))
 case first=>
  by_cases hpos:0 < ini.length
  ·have t1:decide ((0:Int) < (ini.length:Int)) = true:=decide_eq_true (by omega)
   have hv:=HIL.out
   rw [if_pos hpos] at hv
   have hil:=congrArg List.length hv
   simp only [List.length_append,List.length_cons] at hil
   have HIv:=Hd hv
   clear hv
   go_upto_region 6 with (go_at_call 96;(refine (HS3.out.put1 ⟨#[61]⟩ (by first | omega | (simp;omega))).mono ?_);rintro e w4 ⟨rfl,hs⟩;have HS4:=Hd hs;clear hs)
   clear HS3
   obtain ⟨⟨y0,y1,y2,y3,y4⟩,_⟩:=five_blockP HS4.out.box
   go_cut [4] (fun s4 wx=>s4 = .bool (manyB ty) ∧ wx = w4)
   case first=>
    rcases HMy with ⟨h | ⟨h,h'⟩,hm⟩ | ⟨⟨h,h'⟩,hm⟩
    all_goals
     have HMm:=Hd hm
     clear hm
     go_wp2_with fail
     go_meet
     exact ⟨by rw [HMm.out],by trivial⟩
   case rest=>
   obtain ⟨rfl,hwc⟩:=hcut
   subst hwc
   obtain ⟨bi,oi,cap2,q0,he0,_,hT0,c0⟩:=HTr.out wc HS4.out.keep 0 hpos
   simp only [Value.slice.injEq] at he0
   obtain ⟨rfl,hx9,rfl⟩:=he0
   clear hx9
   rw [Nat.add_zero] at c0
   obtain ⟨a0,k0,rfl,hsk0,hI0,_⟩:=hT0
   obtain ⟨bn,on,lk,kx,ha0,hlk3,hlk4,x0,hbv⟩:∃ (bn on lk:Nat) (kx:Int),a0 = some ⟨bn,on,none⟩ ∧ (ini[0].length:Int) - 1 = (lk:Int) ∧ (lk:Int) < (ini[0].length:Int) ∧ wc.cell? ⟨bn,on + lk * 6,none⟩ = some (.int .i64 kx) ∧ br = (decide (1 < ini.length) || (manyB ty && decide (kx ≠ 2))):=by
    obtain ⟨hck,hek⟩:=HIt.out ini[0] (List.getElem_mem hpos)
    have hp0:0 < (ini[0]).length:=(check_right hck).choose_spec.given.formed.pos
    obtain ⟨bn,on,ha0,hbn,x0,_⟩:=nds_at hI0 (i:=(ini[0]).length - 1) (by omega)
    refine ⟨bn,on,(ini[0]).length - 1,_,ha0,by omega,by omega,x0,?_⟩
    have hlk:lastK ini[0] = ((ini[0])[(ini[0]).length - 1]'(by omega)).kind:=by unfold lastK kindAt;rw [List.getElem?_eq_getElem (by omega)];rfl
    rw [← HBr.out,← hlk]
    unfold bracesB
    cases ini with
    | nil=>simp at hpos
    | cons t r=>rfl
   subst ha0
   have HBv:=Hd hbv
   have hl0:ini[0].length * 64 ≤ 140737488351232:=hsk0.1
   clear hbv hI0 hsk0
   generalize ini[0].length = n0 at *
   go_upto_region 8 with fail
   go_cut [6] (fun s6 wx=>s6 = .bool br ∧ wx = wc)
   case first=>
    by_cases h1:1 < ini.length
    ·have t2:decide ((1:Int) < (ini.length:Int)) = true:=decide_eq_true (by omega)
     rw [decide_eq_true h1,Bool.true_or] at HBv
     clear h1
     go_wp2_with fail
     go_meet
     exact ⟨by rw [HBv.out],by trivial⟩
    ·have t2:decide ((1:Int) < (ini.length:Int)) = false:=decide_eq_false (by omega)
     rw [decide_eq_false h1,Bool.false_or] at HBv
     clear h1
     generalize manyB ty = mb at *
     cases mb with
     | false=>
       rw [Bool.false_and] at HBv
       go_wp2_with fail
       go_meet
       exact ⟨by rw [HBv.out],by trivial⟩
     | true=>
       rw [Bool.true_and] at HBv
       by_cases hk:kx = 2
       ·have t3:(kx != 2) = false:=by simpa using hk
        rw [decide_eq_false (by simpa using hk)] at HBv
        clear hk
        go_wp2_with fail
        go_meet
        exact ⟨by rw [HBv.out],by trivial⟩
       ·have t3:(kx != 2) = true:=by simpa using hk
        rw [decide_eq_true hk] at HBv
        clear hk
        go_wp2_with fail
        go_meet
        exact ⟨by rw [HBv.out],by trivial⟩
   case rest=>
   obtain ⟨rfl,hwc⟩:=hcut
   subst hwc
   clear x0 c0 hlk3 hlk4 hl0 t1
   go_upto_if 63 with fail
   go_cut [64] (fun s64 wx=>∃ v,s64 = v ∧ Hid (UnSt pb w.heap.size #[.int .i64 gat,.string nm,.string ty,.bool vol,.slice (some ⟨bi,oi,none⟩) ini.length cap] 118 w (W ++ VL.map wordV ++ DL.map wordV ++ [⟨#[61]⟩] ++ (brT br 123).map wordV) wx))
   case first=>
    cases br with
    | false=>
      go_wp2_with fail
      go_meet
      exact ⟨_,rfl,Hd (by simpa [brT] using HS4.out)⟩
    | true=>
      simp only [brT,if_true,List.length_singleton] at hil
      go_wp2_with (go_at_call 96;(refine (HS4.out.put1 ⟨#[123]⟩ (by first | omega | (simp;omega))).mono ?_);rintro e w5 ⟨rfl,hs⟩;have HS5:=Hd hs;clear hs)
      go_meet
      exact ⟨_,rfl,Hd (by simpa [brT,word_M] using HS5.out)⟩
   case rest=>
   obtain ⟨_,rfl,HS5⟩:=hcut
   obtain ⟨⟨y0,y1,y2,y3,y4⟩,_⟩:=five_blockP HS5.out.box
   go_wp2_with fail
   clear y0 y1 y2 y3 y4
   have HS6:=Hd (HS5.out.pa (KeepP.refl _ _))
   clear HS5 HS4
   go_loopg [70] ini.length (fun g v wr=>∃ i:Nat,i ≤ ini.length ∧ i + g = ini.length ∧ v = .int .i64 (i:Int) ∧ Hid (PaSt pb w (W ++ VL.map wordV ++ DL.map wordV ++ [⟨#[61]⟩] ++ (brT br 123).map wordV ++ (itemsF ini i).map wordV) wr))
   case atStart=>exact ⟨0,Nat.zero_le _,by omega,rfl,Hd (by simpa [itemsF] using HS6.out)⟩
   case round=>
    obtain ⟨i,hi,hig,rfl,HSr⟩:=hrel
    have hle:=itemsF_le ini i ini.length hi
    by_cases hlt:i < ini.length
    ·obtain ⟨b8,o8,cap8,q8,he8,_,hT8,c8⟩:=HTr.out wr HSr.out.keep i hlt
     simp only [Value.slice.injEq,Option.some.injEq,Addr.mk.injEq] at he8
     obtain ⟨⟨rfl,rfl,_⟩,hx9,rfl⟩:=he8
     clear hx9
     obtain ⟨at8,k8,rfl,hsk8,hI8,hok8⟩:=hT8
     obtain ⟨hck,hek⟩:=HIt.out ini[i] (List.getElem_mem hlt)
     obtain ⟨fr,hR⟩:=check_right hck
     have hp8:=hR.given.formed.pos
     have hle2:=itemsF_le ini (i + 1) ini.length hlt
     have hx9:=itemsF_next ini i
     rw [List.getElem?_eq_getElem hlt] at hx9
     have hit:itemT ini[i] = partN ini[i] fr 2 (ini[i].length - 1):=by unfold itemT;rw [hR.begins];rfl
     simp only [hit] at hx9
     have HQ:=Hd (PaSt.mk HSr.out.pap HSr.out.env (KeepP.refl pb wr))
     obtain ⟨lk,hlk⟩:∃ lk,lk = ini[i].length - 1:=⟨_,rfl⟩
     have hlt8:lk < ini[i].length:=by omega
     have hlk1:(ini[i].length:Int) - 1 = (lk:Int):=by omega
     simp only [← hlk] at hx9
     have hek':exprK (kindAt ini[i] lk) = true:=by rw [hlk];exact hek
     have hb9:=congrArg List.length hx9
     simp only [List.length_append] at hb9
     have HX9:=Hd hx9
     have hii:(i:Int) < (ini.length:Int):=by omega
     have hn8:ini[i].length * 64 ≤ 140737488351232:=hsk8.1
     clear hx9 hck hek hit hlk hsk8
     generalize ini[i] = tt at *
     have HOn:=Hd (fun w1 (hk:KeepP pb wr w1)=>on_ok pb at8 k8 tt fr w1 hR.begins ((hI8.below hk.below (Nat.le_refl _)).mono (by have:=HQ.out.pap.lt;have:=hk.size;omega)) hR.given.le hok8)
     have HNd:=Hd (fun w1 (hk:KeepP pb wr w1)=>hI8.below hk.below (Nat.le_refl _))
     have HPt:=Hd (fun (bf:Option Addr) (cf:Nat)=>part9_ok (pb:=pb) (a:=at8) (cap:=k8) (b:=bf) (capb:=cf) hlt8 hek' (expr9_ok hR (lk + 1) lk (Nat.lt_succ_self lk) hlt8 hek') 2)
     clear hR hok8 hI8 hek' hp8
     generalize partN tt fr 2 lk = IT at *
     by_cases h0:0 < i
     ·have t2:decide ((0:Int) < (i:Int)) = true:=decide_eq_true (by omega)
      rw [if_pos h0] at HX9 hb9
      simp only [List.length_singleton] at hb9
      go_upto_region 16 with (go_at_call 96;(refine (HQ.out.put1 ⟨#[44]⟩ (by first | omega | (simp;omega))).mono ?_);rintro e w5 ⟨rfl,hs⟩;have HS5:=Hd hs;clear hs)
      go_wp2_with (first
       | (go_at_call 52;(with_reducible refine (HOn.out _ HS5.out.keep).mono ?_);rintro e w6 ⟨bf,cf,rfl,hN,hf,hb6⟩;have HS6:=Hd (HS5.out.below hb6);have HO:=Hd (show PrOk pb at8 tt bf fr w6 from ⟨HS6.out.env,SlS.low HS6.out.pap.rowOk HS6.out.pap.lt (HNd.out w6 HS6.out.keep),SlS.new HS5.out.pap.rowOk HS5.out.pap.lt hb6 hN (fun _=>hf)⟩);clear hN hf hb6)
       | (go_at_call 98;(refine (HPt.out bf cf _ w6 HS6.out.pap HO.out (by first | omega | (simp;omega))).mono ?_);rintro e w7 hs;obtain rfl:=hs.1;have HS7:=Hd (HS6.out.put hs);clear hs))
      go_roundg (ini.length - (i + 1))
      case measure=>omega
      case rel=>exact ⟨i + 1,by omega,by omega,by rw [Int.natCast_add];rfl,Hd (by rw [HX9.out];simpa [word_M] using PaSt.mk HS7.out.pap HS7.out.env (HSr.out.keep.trans HS7.out.keep))⟩
     ·have t2:decide ((0:Int) < (i:Int)) = false:=decide_eq_false (by omega)
      rw [if_neg h0] at HX9 hb9
      simp only [List.length_nil] at hb9
      go_wp2_with (first
       | (go_at_call 52;(with_reducible refine (HOn.out _ HQ.out.keep).mono ?_);rintro e w6 ⟨bf,cf,rfl,hN,hf,hb6⟩;have HS6:=Hd (HQ.out.below hb6);have HO:=Hd (show PrOk pb at8 tt bf fr w6 from ⟨HS6.out.env,SlS.low HS6.out.pap.rowOk HS6.out.pap.lt (HNd.out w6 HS6.out.keep),SlS.new HQ.out.pap.rowOk HQ.out.pap.lt hb6 hN (fun _=>hf)⟩);clear hN hf hb6)
       | (go_at_call 98;(refine (HPt.out bf cf _ w6 HS6.out.pap HO.out (by first | omega | (simp;omega))).mono ?_);rintro e w7 hs;obtain rfl:=hs.1;have HS7:=Hd (HS6.out.put hs);clear hs))
      go_roundg (ini.length - (i + 1))
      case measure=>omega
      case rel=>exact ⟨i + 1,by omega,by omega,by rw [Int.natCast_add];rfl,Hd (by rw [HX9.out];simpa [word_M] using PaSt.mk HS7.out.pap HS7.out.env (HSr.out.keep.trans HS7.out.keep))⟩
    ·obtain rfl:i = ini.length:=by omega
     cases br with
     | false=>
       simp only [brT,Bool.false_eq_true,if_false] at hil HIv HSr
       go_wp2_with fail
       go_meet
       exact ⟨_,rfl,Hd (by rw [HIv.out];simpa [word_M] using HSr.out)⟩
     | true=>
       simp only [brT,if_true,List.length_singleton] at hil HIv HSr
       go_wp2_with (go_at_call 96;(refine (HSr.out.put1 ⟨#[125]⟩ (by first | omega | (simp;omega))).mono ?_);rintro e w5 ⟨rfl,hs⟩;have HS5:=Hd hs;clear hs)
       go_meet
       exact ⟨_,rfl,Hd (by rw [HIv.out];simpa [word_M] using HS5.out)⟩
  ·have t1:decide ((0:Int) < (ini.length:Int)) = false:=decide_eq_false (by omega)
   have hv:=HIL.out
   rw [if_neg hpos] at hv
   subst hv
   go_wp2_with fail
   go_meet
   exact ⟨_,rfl,Hd (by simpa using HS3.out.pa (KeepP.refl _ _))⟩
 case rest=>
 obtain ⟨_,rfl,HS9⟩:=hcut
 go_wp2_with (go_at_call 96;(refine (HS9.out.put1 ⟨#[59]⟩ (by first | omega | (simp;omega))).mono ?_);rintro e w9 ⟨rfl,hs⟩;have HSz:=Hd hs;clear hs)
 go_end0
 simpa [word_M] using HSz.out.end_
theorem signP_no {r:Option Ty} {w w':World} (hr:r = none) (hb:Below w.heap.size w w'):SignP r w (.returned (.tuple #[.string ⟨#[]⟩,.slice none 0 0,.int .i64 2])) w':=by subst hr;exact ⟨rfl,hb⟩
theorem signP_other {t:Ty} {w w':World} (ht:isFnT t = false) (hb:Below w.heap.size w w'):SignP (some t) w (.returned (.tuple #[.string ⟨#[]⟩,.slice none 0 0,.int .i64 5])) w':=by
 cases t with
 | fn ps r=>cases ht
 | _=>exact ⟨rfl,hb⟩
set_option maxHeartbeats 1000000 in
theorem sign_none (s:ByteArray) (w:World) (hE:TE w) (h:tyS s = none):Calls Tryz.prog 115 #[.string s] w (SignP (tyS s) w):=by
 have HF:=Hd (form_is false s w hE (by rw [h];rfl))
 have H:=Hd h
 clear h hE
 go_enter Tryz.func115,Tryz.ntmps115
 go_wp2_with (go_at_call 149;(with_reducible refine HF.out.mono ?_);rintro e w1 ⟨rfl,hb1⟩)
 go_ret3
 exact signP_no H.out hb1
set_option maxHeartbeats 1000000 in
theorem sign_other (t:Ty) (w:World) (hE:TE w) (h:tyS (tyB t) = some t) (h1:headT t ≠ 102) (hf:isFnT t = false):Calls Tryz.prog 115 #[.string (tyB t)] w (SignP (some t) w):=by
 have HF:=Hd (form_is true (tyB t) w hE (by rw [h];rfl))
 have HN:=Hd hf
 obtain ⟨h0,hc⟩:=tyB_head t
 have t1:(((tyB t)[0].toNat:Int) != 102) = true:=ne_true (d:=102) hc h1
 generalize tyB t = s at *
 clear h hE hc h1 hf
 go_enter Tryz.func115,Tryz.ntmps115
 go_wp2_with (go_at_call 149;(with_reducible refine HF.out.mono ?_);rintro e w1 ⟨rfl,hb1⟩)
 go_ret3
 exact signP_other HN.out hb1
set_option maxHeartbeats 1000000 in
theorem sign_fn (ps:List Ty) (r:Ty) (w:World) (hE:TE w) (h:tyS (tyB (.fn ps r)) = some (.fn ps r)):Calls Tryz.prog 115 #[.string (tyB (.fn ps r))] w (SignP (some (.fn ps r)) w):=by
 have HE:=Hd hE
 obtain ⟨_,hr,hl⟩:=tyS_some.1 h
 have HF:=Hd (form_is true (tyB (.fn ps r)) w hE (by rw [h];rfl))
 have HS:=Hd (fun w hK hb=>split_fn ps r w hr hl hK hb)
 obtain ⟨h0,hc⟩:=tyB_head (.fn ps r)
 have t1:(((tyB (.fn ps r))[0].toNat:Int) != 102) = false:=ne_false hc
 generalize tyB (.fn ps r) = s at *
 clear h hE hc hr hl
 go_enter Tryz.func115,Tryz.ntmps115
 go_wp2_with (first | (go_at_call 149;(with_reducible refine HF.out.mono ?_);rintro e w1 ⟨rfl,hb1⟩;have HE1:=Hd (HE.out.below hb1)) | (go_at_call 150;(with_reducible refine (HS.out _ HE1.out.keys HE1.out.lt).mono ?_);rintro e w2 ⟨⟨v,rfl,ho⟩,hb2⟩;have HO:=Hd ho;clear ho))
 go_ret3
 exact ⟨⟨v,rfl,own_leT HO.out hb1.size⟩,hb1.trans (hb2.mono hb1.size)⟩
theorem sign_ok (s:ByteArray) (w:World) (hE:TE w):Calls Tryz.prog 115 #[.string s] w (SignP (tyS s) w):=by
 rcases h:tyS s with _ | t
 ·rw [← h];exact sign_none s w hE h
 ·obtain ⟨rfl,hr,_⟩:=tyS_some.1 h
  cases t with
  | fn ps r=>exact sign_fn ps r w hE h
  | base c=>exact sign_other _ w hE h (by rcases base_six hr with rfl | rfl | rfl | rfl | rfl | rfl <;> decide) rfl
  | str n=>exact sign_other _ w hE h (by simp [headT]) rfl
  | ptr u=>exact sign_other _ w hE h (by simp [headT]) rfl
  | arr n u=>exact sign_other _ w hE h (by simp [headT]) rfl
end Go.Proofs.YtkokdafkjjcgoaaGreatDoor
