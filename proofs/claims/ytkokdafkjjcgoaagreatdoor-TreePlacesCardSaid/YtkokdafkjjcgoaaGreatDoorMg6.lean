/- What a word that begins with a digit stands for: the program -/
import Derived.Test.YtkokdafkjjcgoaaGreatDoorMg5
import Derived.Deep.DeepCutAuto
namespace Go.Proofs.YtkokdafkjjcgoaaGreatDoor
open Go.RowKit
def finN (u:Bool):Option Nat → Option (Nat × Bool)
 | none=>none
 | some n=>if n < 4294967296 then some (n,u || decide (2147483648 ≤ n)) else none
def uOf (u:Bool):ByteArray:=if u = true then uText else ⟨#[]⟩
theorem numW_fin (L:List UInt8):numW L = finN (uEnd L) (bodyN (if uEnd L = true then L.dropLast else L)):=by
 unfold numW finN;rfl
theorem finN_cap (u:Bool) (base acc:Nat) (l:List UInt8):finN u (valL base acc l) = (capV base acc l).map fun n=>(n,u || decide (2147483648 ≤ n)):=by
 unfold capV finN
 rcases valL base acc l with _ | n
 ·rfl
 ·simp only
  split <;> rfl
theorem valL_none {base:Nat} {c:UInt8} (hc:hexN c = none):∀ (l:List UInt8) (acc:Nat),c ∈ l → valL base acc l = none
 | [],_,h=>by cases h
 | x :: l,acc,h=>by
   rw [valL]
   rcases List.mem_cons.1 h with rfl | h'
   ·rw [hc]
   ·split
    ·split
     ·exact valL_none hc l _ h'
     ·rfl
    ·rfl
theorem tok_block {w:World} {b:Nat} {a0 a1 a2 a3:Value} {T:TypeId} (h:w.heap[b]? = some (.cells #[a0,a1,a2,a3] T (0,0))) :
 (w.cell? ⟨b,0,none⟩ = some a0 ∧ w.cell? ⟨b,1,none⟩ = some a1 ∧ w.cell? ⟨b,2,none⟩ = some a2 ∧ w.cell? ⟨b,3,none⟩ = some a3) ∧ ∀ j,w.frozen? ⟨b,j,none⟩ = false:=by
 refine ⟨⟨?_,?_,?_,?_⟩,fun j=>?_⟩
 ·simp [World.cell?,h]
 ·simp [World.cell?,h]
 ·simp [World.cell?,h]
 ·simp [World.cell?,h]
 ·simp [World.frozen?,h]
def NumberedL (r:Option (Nat × Bool)) (w:World) (e:Ending) (w':World):Prop:=
 (match r with
   | some (n,u)=>e = .returned (.tuple #[.agg #[.int .i64 3,.int .i64 0,.int .i64 n,.string (uOf u)],.bool true])
   | none=>∃ t:Tok,e = .returned (.tuple #[.agg #[.int .i64 t.kind,.int .i64 t.place,.int .i64 t.num,.string t.text],.bool false])) ∧ Below w.heap.size w w'
theorem size_pos_toList {s:ByteArray}:s.data.toList.length = s.size:=by rw [Array.length_toList];rfl
theorem dropLast_extract {s:ByteArray} {n:Nat} (h:s.size = n + 1):(s.extract 0 n).data.toList = s.data.toList.dropLast:=by
 rw [extract_toList' s n (by omega),List.dropLast_eq_take,size_pos_toList,h];rfl
theorem last_at {s:ByteArray} {n:Nat} (h:s.size = n + 1) (hlt:n < s.size):s.data.toList.getLast? = some s[n]:=by
 rw [List.getLast?_eq_getElem?,size_pos_toList,h,Nat.add_sub_cancel,List.getElem?_eq_getElem (by rw [size_pos_toList];exact hlt)];rfl
theorem uEnd_at {s:ByteArray} {n:Nat} (h:s.size = n + 1) (hlt:n < s.size):uEnd s.data.toList = (decide (0 < n) && decide (s[n].toNat = 117 ∨ s[n].toNat = 85)):=by
 unfold uEnd
 rw [last_at h hlt,size_pos_toList,h]
 simp
theorem toList_two {D:ByteArray} (h:1 < D.size):D.data.toList = D[0] :: D[1] :: sfx D 2:=by
 have e:D.data.toList = sfx D 0:=rfl
 rw [e,sfx_cons D 0 (by omega),sfx_cons D 1 h]
theorem toList_one {D:ByteArray} (h:D.size = 1):D.data.toList = [D[0]]:=by
 have e:D.data.toList = sfx D 0:=rfl
 rw [e,sfx_cons D 0 (by omega),sfx_nil D 1 (by omega)]
theorem body_hex {D:ByteArray} (h:2 < D.size) (h0:D[0].toNat = 48) (h1:D[1].toNat = 120 ∨ D[1].toNat = 88):bodyN D.data.toList = valL 16 0 (D.extract 2 D.size).data.toList:=by
 rw [sfx_extract,toList_two (by omega),sfx_cons D 2 h,bodyN,if_pos h0,if_pos h1]
theorem body_zero {D:ByteArray} (h:1 < D.size) (h0:D[0].toNat = 48) (h1:¬ (2 < D.size ∧ (D[1].toNat = 120 ∨ D[1].toNat = 88))):bodyN D.data.toList = none:=by
 rw [toList_two h]
 by_cases h2:2 < D.size
 ·rw [sfx_cons D 2 h2,bodyN,if_pos h0,if_neg (fun e=>h1 ⟨h2,e⟩)]
 ·rw [sfx_nil D 2 (by omega),bodyN,if_pos h0]
theorem body_plain {D:ByteArray} (h:0 < D.size) (h0:D.size = 1 ∨ D[0].toNat ≠ 48):bodyN D.data.toList = valL 10 0 D.data.toList:=by
 by_cases h1:1 < D.size
 ·have h48:D[0].toNat ≠ 48:=by rcases h0 with h | h <;> first | omega | exact h
  rw [toList_two h1]
  by_cases h2:2 < D.size
  ·rw [sfx_cons D 2 h2,bodyN,if_neg h48]
  ·rw [sfx_nil D 2 (by omega),bodyN,if_neg h48]
 ·rw [toList_one (by omega)];rfl
theorem numbered_noL {r:Option (Nat × Bool)} {w w':World} (t:Tok) (h:r = none) (hb:Below w.heap.size w w'):NumberedL r w (.returned (.tuple #[.agg #[.int .i64 t.kind,.int .i64 t.place,.int .i64 t.num,.string t.text],.bool false])) w':=by subst h;exact ⟨⟨t,rfl⟩,hb⟩
theorem numbered_yesL {r:Option (Nat × Bool)} {w w':World} {n:Nat} {u:Bool} {x:Int} {s:ByteArray} (h:r = some (n,u)) (hx:x = n) (hs:s = uOf u) (hb:Below w.heap.size w w'):NumberedL r w (.returned (.tuple #[.agg #[.int .i64 3,.int .i64 0,.int .i64 x,.string s],.bool true])) w':=by subst h hx hs;exact ⟨rfl,hb⟩
def BaseOk (r:Option (Nat × Bool)) (u:Bool) (base:Nat) (E:ByteArray):Prop:=(base = 10 ∨ base = 16) ∧ r = finN u (valL base 0 E.data.toList) ∧ 0 < E.size ∧ E.size ≤ 1048576
theorem two_blocks {w w1:World} {a b:Obj} (hb:Below ((w.alloc a).alloc b).heap.size ((w.alloc a).alloc b) w1):w1.heap[w.heap.size]? = some a ∧ w1.heap[w.heap.size + 1]? = some b:=by
 have z:((w.alloc a).alloc b).heap.size = w.heap.size + 2:=by simp
 have z1:(w.alloc a).heap.size = w.heap.size + 1:=by simp
 refine ⟨?_,?_⟩
 ·rw [hb.block _ (by omega),((Below.refl (w.alloc a).heap.size (w.alloc a)).alloc (Nat.le_refl _) b).block _ (by omega)];exact heap_alloc_new w a
 ·rw [hb.block _ (by omega),← z1];exact heap_alloc_new (w.alloc a) b
theorem indexByte95 (o:Int) (s:ByteArray) (w:World) (ho:Lib.indexByte s.data.toList 95 = o) :
 Calls Tryz.prog 188 #[.string s,.int .u8 95] w fun e w'=>e = .returned (.int .i64 o) ∧ w' = w:=
 (Tryz.strings_IndexByte _ 95 w).mono fun _ _ ⟨he,hw⟩=>⟨by rw [he,← ho];rfl,hw⟩
theorem capV_lt {base acc:Nat} {l:List UInt8} {m:Nat} (h:capV base acc l = some m):m < 4294967296:=by
 unfold capV at h
 split at h
 ·cases h
 ·split at h
  ·obtain rfl:=Option.some.inj h;assumption
  ·cases h
theorem parse_yesI {base:Int} {t:ByteArray} {r:Option Nat} {n:Nat} {x:Int} {w:World} (hr:r = some n) (hx:x = n) (h:Calls Tryz.prog 222 #[.string t,.int .i64 base,.int .i64 32] w (Parsed r w)) :
 Calls Tryz.prog 222 #[.string t,.int .i64 base,.int .i64 32] w fun e w'=>e = .returned (.tuple #[.int .u64 x,.nilIface]) ∧ Below w.heap.size w w':=by subst hr hx;exact h
theorem two_blw (w:World) (a b:Obj):Below w.heap.size w ((w.alloc a).alloc b):=((Below.refl w.heap.size w).alloc (Nat.le_refl _) _).alloc (by simp) _
set_option maxHeartbeats 8000000 in
set_option maxRecDepth 100000 in
theorem number_okL (s:ByteArray) (n:Nat) (w:World) (HN:Hid (s.size = n + 1)) (hlt:n < s.size) (hmax:s.size ≤ 1048576) (hE:ErrsAt w) :
 Calls Tryz.prog 191 #[.string s] w (NumberedL (numW s.data.toList) w):=by
 have e1:((s.size:Int) - 1).toNat = n:=by have:=HN.out;omega
 have p1:0 ≤ (s.size:Int) - 1:=by omega
 have l1:(s.size:Int) - 1 < s.size:=by omega
 have HE:=Hd hE
 clear hE
 obtain ⟨r,er⟩:∃ r,r = numW s.data.toList:=⟨_,rfl⟩
 rw [← er]
 have ER:=Hd er
 clear er
 go_enter Tryz.func191,Tryz.ntmps191
 go_upto_region 4 with fail
 go_cut [28] (fun v wx=>∃ u:Bool,v = .bool u ∧ Hid (u = uEnd s.data.toList) ∧ wx = (w.alloc (.cells #[.int .i64 0,.int .i64 0,.int .i64 0,.string ⟨#[]⟩] 151)).alloc (.cells #[.int .i64 3,.int .i64 0,.int .i64 0,.string ⟨#[]⟩] 151))
 case first=>
  by_cases h0:0 < n
  ·have t1:decide (0 < (s.size:Int) - 1) = true:=by have:=HN.out;simp;omega
   by_cases h117:s[n].toNat = 117
   ·have t2:((s[n].toNat:Int) == 117) = true:=by simp [h117]
    have hfin:=Hd (show true = uEnd s.data.toList by rw [uEnd_at HN.out hlt];simp [h0,h117])
    clear h117
    go_wp2_with fail
    go_meet
    exact ⟨true,rfl,hfin,rfl⟩
   ·have t2:((s[n].toNat:Int) == 117) = false:=by simp;omega
    by_cases h85:s[n].toNat = 85
    ·have t3:((s[n].toNat:Int) == 85) = true:=by simp [h85]
     have hfin:=Hd (show true = uEnd s.data.toList by rw [uEnd_at HN.out hlt];simp [h0,h85])
     clear h117 h85
     go_wp2_with fail
     go_meet
     exact ⟨true,rfl,hfin,rfl⟩
    ·have t3:((s[n].toNat:Int) == 85) = false:=by simp;omega
     have hfin:=Hd (show false = uEnd s.data.toList by rw [uEnd_at HN.out hlt];simp [h117,h85])
     clear h117 h85
     go_wp2_with fail
     go_meet
     exact ⟨false,rfl,hfin,rfl⟩
  ·have t1:decide (0 < (s.size:Int) - 1) = false:=by have:=HN.out;simp;omega
   have hfin:=Hd (show false = uEnd s.data.toList by rw [uEnd_at HN.out hlt];simp [h0])
   go_wp2_with fail
   go_meet
   exact ⟨false,rfl,hfin,rfl⟩
 case rest=>
  obtain ⟨u,rfl,hu,rfl⟩:=hcut
  go_upto_if 28 with fail
  go_cut [5] (fun s5 wx=>∃ D:ByteArray,s5 = .string D ∧ Hid (r = finN u (bodyN D.data.toList) ∧ 0 < D.size ∧ D.size ≤ 1048576) ∧ wx = (w.alloc (.cells #[.int .i64 0,.int .i64 0,.int .i64 0,.string ⟨#[]⟩] 151)).alloc (.cells #[.int .i64 3,.int .i64 0,.int .i64 0,.string (uOf u)] 151))
  case first=>
   cases u with
   | false=>
     have hfin:=Hd (show r = finN false (bodyN s.data.toList) ∧ 0 < s.size ∧ s.size ≤ 1048576 from ⟨by rw [ER.out,numW_fin,← hu.out];rfl,by omega,by omega⟩)
     go_wp2_with fail
     go_meet
     exact ⟨s,rfl,hfin,rfl⟩
   | true=>
     have hn0:0 < n:=by
      have:=hu.out
      rw [uEnd_at HN.out hlt] at this
      simp at this;exact this.1
     have hfin:=Hd (show r = finN true (bodyN (s.extract 0 n).data.toList) ∧ 0 < (s.extract 0 n).size ∧ (s.extract 0 n).size ≤ 1048576 from ⟨by
      rw [ER.out,numW_fin,← hu.out,dropLast_extract HN.out];rfl,by rw [ByteArray.size_extract];omega,by rw [ByteArray.size_extract];omega⟩)
     go_wp2_with fail
     go_meet
     exact ⟨s.extract 0 n,rfl,hfin,rfl⟩
  case rest=>
   obtain ⟨D,rfl,hD,rfl⟩:=hcut
   clear e1 p1 l1 ER HN hlt hmax hu
   have hd1:=hD.out.2.1
   have hd2:=hD.out.2.2
   go_upto_region 7 with fail
   go_cut [50] (fun v wx=>∃ h:Bool,v = .bool h ∧ Hid (if h = true then 2 < D.size ∧ bodyN D.data.toList = valL 16 0 (D.extract 2 D.size).data.toList else (1 < D.size → ∀ h:0 < D.size,D[0].toNat = 48 → bodyN D.data.toList = none)) ∧ wx = (w.alloc (.cells #[.int .i64 0,.int .i64 0,.int .i64 0,.string ⟨#[]⟩] 151)).alloc (.cells #[.int .i64 3,.int .i64 0,.int .i64 0,.string (uOf u)] 151))
   case first=>
    by_cases h2:2 < D.size
    ·have t1:decide (2 < (D.size:Int)) = true:=by simp;omega
     have l1:1 < D.size:=by omega
     have l1':(1:Int) < D.size:=by omega
     by_cases h48:D[0].toNat = 48
     ·have t2:((D[0].toNat:Int) == 48) = true:=by simp [h48]
      by_cases h120:D[1].toNat = 120
      ·have t3:((D[1].toNat:Int) == 120) = true:=by simp [h120]
       have hfin:=Hd (And.intro h2 (body_hex h2 h48 (.inl h120)))
       clear h48 h120
       go_wp2_with fail
       go_meet
       exact ⟨true,rfl,hfin,rfl⟩
      ·have t3:((D[1].toNat:Int) == 120) = false:=by simp;omega
       by_cases h88:D[1].toNat = 88
       ·have t4:((D[1].toNat:Int) == 88) = true:=by simp [h88]
        have hfin:=Hd (And.intro h2 (body_hex h2 h48 (.inr h88)))
        clear h48 h120 h88
        go_wp2_with fail
        go_meet
        exact ⟨true,rfl,hfin,rfl⟩
       ·have t4:((D[1].toNat:Int) == 88) = false:=by simp;omega
        have hfin:=Hd (show 1 < D.size → ∀ h:0 < D.size,D[0].toNat = 48 → bodyN D.data.toList = none from fun h1 _ h0=>body_zero h1 h0 (by omega))
        clear h48 h120 h88
        go_wp2_with fail
        go_meet
        exact ⟨false,rfl,hfin,rfl⟩
     ·have t2:((D[0].toNat:Int) == 48) = false:=by simp;omega
      have hfin:=Hd (show 1 < D.size → ∀ h:0 < D.size,D[0].toNat = 48 → bodyN D.data.toList = none from fun h1 _ h0=>absurd h0 h48)
      clear h48
      go_wp2_with fail
      go_meet
      exact ⟨false,rfl,hfin,rfl⟩
    ·have t1:decide (2 < (D.size:Int)) = false:=by simp;omega
     have hfin:=Hd (show 1 < D.size → ∀ h:0 < D.size,D[0].toNat = 48 → bodyN D.data.toList = none from fun h1 _ h0=>body_zero h1 h0 (by omega))
     go_wp2_with fail
     go_meet
     exact ⟨false,rfl,hfin,rfl⟩
   case rest=>
    obtain ⟨hx,rfl,hh,rfl⟩:=hcut
    go_upto_if 50 with fail
    go_cut [5,7] (fun s5 s7 wx=>∃ (E:ByteArray) (base:Nat),s5 = .string E ∧ s7 = .int .i64 (base:Int) ∧ Hid (BaseOk r u base E) ∧ wx = (w.alloc (.cells #[.int .i64 0,.int .i64 0,.int .i64 0,.string ⟨#[]⟩] 151)).alloc (.cells #[.int .i64 3,.int .i64 0,.int .i64 0,.string (uOf u)] 151))
    case first=>
     cases hx with
     | true=>
       have h2:=hh.out.1
       have hfin:=Hd (show BaseOk r u 16 (D.extract 2 D.size) from ⟨.inr rfl,by rw [hD.out.1,hh.out.2],by rw [ByteArray.size_extract];omega,by rw [ByteArray.size_extract];omega⟩)
       go_wp2_with fail
       go_meet
       exact ⟨D.extract 2 D.size,16,rfl,rfl,hfin,rfl⟩
     | false=>
       by_cases h1:1 < D.size
       ·have t1:decide (1 < (D.size:Int)) = true:=by simp;omega
        by_cases h48:D[0].toNat = 48
        ·have t2:((D[0].toNat:Int) == 48) = true:=by simp [h48]
         have hfin:=Hd (show r = none by rw [hD.out.1,hh.out h1 hd1 h48];rfl)
         clear h48
         go_wp2_with fail
         exact bodyPost_ret (v:=.tuple #[.agg #[.int .i64 3,.int .i64 0,.int .i64 0,.string (uOf u)],.bool false]) (by simp [results,Tryz.results191,go_sem]) rfl (numbered_noL ⟨3,0,0,uOf u⟩ hfin.out (two_blw _ _ _))
        ·have t2:((D[0].toNat:Int) == 48) = false:=by simp;omega
         have hfin:=Hd (show BaseOk r u 10 D from ⟨.inl rfl,by rw [hD.out.1,body_plain hd1 (.inr h48)],hd1,hd2⟩)
         clear h48
         go_wp2_with fail
         go_meet
         exact ⟨D,10,rfl,rfl,hfin,rfl⟩
       ·have t1:decide (1 < (D.size:Int)) = false:=by simp;omega
        have hfin:=Hd (show BaseOk r u 10 D from ⟨.inl rfl,by rw [hD.out.1,body_plain hd1 (.inl (by omega))],hd1,hd2⟩)
        go_wp2_with fail
        go_meet
        exact ⟨D,10,rfl,rfl,hfin,rfl⟩
    case rest=>
     obtain ⟨E,base,rfl,rfl,hE2,rfl⟩:=hcut
     clear hD hh hd1 hd2
     have hEs:=hE2.out.2.2.1
     have hEm:=hE2.out.2.2.2
     rcases int_cases (Lib.indexByte_ge E.data.toList 95) with ho | ⟨o,ho⟩
     ·have HO:=Hd ho
      have HR:=Hd (show r = (capV base 0 E.data.toList).map fun n=>(n,u || decide (2147483648 ≤ n)) from by rw [hE2.out.2.1,finN_cap])
      have HPar:Hid (∀ w':World,ErrsAt w' → Calls Tryz.prog 222 #[.string E,.int .i64 (base:Int),.int .i64 32] w' (Parsed (capV base 0 E.data.toList) w')):=by
       intro w' he
       rcases hE2.out.1 with hb | hb <;> subst hb
       ·exact parse10_ok E w' (by omega) hEm he
       ·exact parse16_ok E w' (by omega) hEm he
      have HE1:=Hd (HE.out.below (two_blw w (.cells #[.int .i64 0,.int .i64 0,.int .i64 0,.string ⟨#[]⟩] 151) (.cells #[.int .i64 3,.int .i64 0,.int .i64 0,.string (uOf u)] 151)))
      clear ho
      rcases hc:capV base 0 E.data.toList with _ | m
      ·have hfin:=Hd (show r = none by rw [HR.out,hc];rfl)
       have HPN:=Hd (parse_no hc (HPar.out _ HE1.out))
       clear hc
       go_wp2_with (first
        | (go_at_call 188;refine (indexByte95 (-1) _ _ HO.out).mono ?_;rintro e w1 ⟨rfl,rfl⟩)
        | (go_at_call 222;refine HPN.out.mono ?_))
       rintro e w1 ⟨x,v,rfl,hb1⟩
       have B2:=two_blocks hb1
       have HB:=Hd ((two_blw _ _ _).trans (hb1.mono (by simp;omega)))
       obtain ⟨⟨a0,a1,a2,a3⟩,fa⟩:=tok_block B2.1
       obtain ⟨⟨b0,b1,b2,b3⟩,fb⟩:=tok_block B2.2
       have fa0:=fa 0
       have fa1:=fa 1
       have fa2:=fa 2
       have fa3:=fa 3
       clear fa fb B2 hb1
       go_wp2
       exact bodyPost_ret (v:=.tuple #[.agg #[.int .i64 3,.int .i64 0,.int .i64 0,.string (uOf u)],.bool false]) (by simp [results,Tryz.results191,go_sem,a0,a1,a2,a3]) rfl (numbered_noL ⟨3,0,0,uOf u⟩ hfin.out ((((HB.out.setCell (by simp) _).setCell (by simp) _).setCell (by simp) _).setCell (by simp) _))
      ·have hm:=capV_lt hc
       obtain ⟨x,hx⟩:∃ x:Int,x = m:=⟨_,rfl⟩
       have HX:=Hd hx
       have HPN:=Hd (parse_yesI hc hx (HPar.out _ HE1.out))
       have hmi:x ≤ 4294967295:=by omega
       have hm0:0 ≤ x:=by omega
       by_cases h31:2147483648 ≤ m
       ·have hfin:=Hd (show r = some (m,true) by rw [HR.out,hc];simp [h31])
        have h31i:2147483648 ≤ x:=by omega
        clear hc hm h31 hx
        go_wp2_with (first
         | (go_at_call 188;refine (indexByte95 (-1) _ _ HO.out).mono ?_;rintro e w1 ⟨rfl,rfl⟩)
         | (go_at_call 222;refine HPN.out.mono ?_))
        rintro e w1 ⟨rfl,hb1⟩
        have B2:=two_blocks hb1
        have HB:=Hd ((two_blw _ _ _).trans (hb1.mono (by simp;omega)))
        obtain ⟨⟨a0,a1,a2,a3⟩,fa⟩:=tok_block B2.1
        obtain ⟨⟨b0,b1,b2,b3⟩,fb⟩:=tok_block B2.2
        have fa0:=fa 0
        have fa1:=fa 1
        have fa2:=fa 2
        have fa3:=fa 3
        have fb2:=fb 2
        have fb3:=fb 3
        clear fa fb B2 hb1
        go_wp2
        exact bodyPost_ret (v:=.tuple #[.agg #[.int .i64 3,.int .i64 0,.int .i64 x,.string uText],.bool true]) (by simp [results,Tryz.results191,go_sem,a0,a1,a2,a3,uText]) rfl (numbered_yesL hfin.out HX.out rfl ((((((HB.out.setCell (by simp) _).setCell (by simp) _).setCell (by simp) _).setCell (by simp) _).setCell (by simp) _).setCell (by simp) _))
       ·have hfin:=Hd (show r = some (m,u) by rw [HR.out,hc];simp;omega)
        have h31i:x < 2147483648:=by omega
        clear hc hm h31 hx
        go_wp2_with (first
         | (go_at_call 188;refine (indexByte95 (-1) _ _ HO.out).mono ?_;rintro e w1 ⟨rfl,rfl⟩)
         | (go_at_call 222;refine HPN.out.mono ?_))
        rintro e w1 ⟨rfl,hb1⟩
        have B2:=two_blocks hb1
        have HB:=Hd ((two_blw _ _ _).trans (hb1.mono (by simp;omega)))
        obtain ⟨⟨a0,a1,a2,a3⟩,fa⟩:=tok_block B2.1
        obtain ⟨⟨b0,b1,b2,b3⟩,fb⟩:=tok_block B2.2
        have fa0:=fa 0
        have fa1:=fa 1
        have fa2:=fa 2
        have fa3:=fa 3
        have fb2:=fb 2
        clear fa fb B2 hb1
        go_wp2
        exact bodyPost_ret (v:=.tuple #[.agg #[.int .i64 3,.int .i64 0,.int .i64 x,.string (uOf u)],.bool true]) (by simp [results,Tryz.results191,go_sem,a0,a1,a2,a3]) rfl (numbered_yesL hfin.out HX.out rfl (((((HB.out.setCell (by simp) _).setCell (by simp) _).setCell (by simp) _).setCell (by simp) _).setCell (by simp) _))
     ·have hfin:=Hd (show r = none by rw [hE2.out.2.1,valL_none (c:=95) (by decide) _ _ (List.mem_of_getElem? (Lib.indexByte_some ho).1)];rfl)
      have HO:=Hd ho
      clear ho
      go_wp2_with (go_at_call 188;refine (indexByte95 o _ _ HO.out).mono ?_;rintro e w1 ⟨rfl,rfl⟩)
      exact bodyPost_ret (v:=.tuple #[.agg #[.int .i64 3,.int .i64 0,.int .i64 0,.string (uOf u)],.bool false]) (by simp [results,Tryz.results191,go_sem]) rfl (numbered_noL ⟨3,0,0,uOf u⟩ hfin.out (two_blw _ _ _))
theorem hex_byte:∀ a b:Fin 16,bits .or .i64 ((a.val:Int) * 16) (b.val:Int) % 256 = ((UInt8.ofNat (16 * a.val + b.val)).toNat:Int):=by decide +kernel
set_option maxHeartbeats 2000000 in
set_option maxRecDepth 100000 in
theorem piece_esc120_yes (b k:Nat) (cs:Array Value) (T:TypeId) (s:ByteArray) (q:UInt8) (w:World) (h:TextAt w b cs T s k) (hk:k < s.size) (hs:s.size ≤ 1048576) (h92:s[k].toNat = 92) (hq:s[k] ≠ q) (hc:k + 1 < s.size) (hd:s[k + 1].toNat = 120) (hx:k + 3 < s.size) (a c:Nat) (hg:hexN s[k + 2] = some a) (hg2:hexN s[k + 3] = some c) :
 Calls Tryz.prog 223 #[.pointer (some ⟨b,0,none⟩),.int .u8 (q.toNat:Int)] w (Pieced w b cs T s k (pieceL (sfx s k))):=by
 have hfin:=Hd (show pieceL (sfx s k) = some (UInt8.ofNat (16 * a + c),4) by
  rw [pieceL_esc hk h92 hc,esc_hex _ hd,sfx_cons s (k + 2) (by omega),sfx_cons s (k + 3) (by omega)]
  simp only [hg,hg2])
 have c0:=h.c0
 have c1:=h.c1
 have f1:=h.f1 1
 have H:=Hd h
 have t1:decide ((s[k].toNat:Int) < 32) = false:=by simp;omega
 have t2:decide ((126:Int) < s[k].toNat) = false:=by simp;omega
 have t3:((s[k].toNat:Int) == q.toNat) = false:=by
  rw [beq_eq_false_iff_ne];intro e;exact hq (UInt8.toNat_inj.1 (by omega))
 have t4:((s[k].toNat:Int) != 92) = false:=by simp;omega
 have hM:=Hd (show decide (k + 1 < s.size) = true by simpa using hc)
 have u110:((s[k + 1].toNat:Int) == 110) = false:=by simp;omega
 have u116:((s[k + 1].toNat:Int) == 116) = false:=by simp;omega
 have u114:((s[k + 1].toNat:Int) == 114) = false:=by simp;omega
 have u48:((s[k + 1].toNat:Int) == 48) = false:=by simp;omega
 have u92:((s[k + 1].toNat:Int) == 92) = false:=by simp;omega
 have u39:((s[k + 1].toNat:Int) == 39) = false:=by simp;omega
 have u34:((s[k + 1].toNat:Int) == 34) = false:=by simp;omega
 have u120:((s[k + 1].toNat:Int) == 120) = true:=by simp [hd]
 have e2:((k:Int) + 1 + 1).toNat = k + 2:=by omega
 have p2:0 ≤ (k:Int) + 1 + 1:=by omega
 have e3:((k:Int) + 1 + 1 + 1).toNat = k + 3:=by omega
 have p3:0 ≤ (k:Int) + 1 + 1 + 1:=by omega
 have w3:IntKind.i64.wrap ((k:Int) + 1 + 1 + 1) = (k:Int) + 1 + 1 + 1:=IntWalk.i64_in _ (by omega)
 have v3:decide ((k:Int) + 1 + 1 + 1 < s.size) = true:=by simp;omega
 have l2:(k:Int) + 1 + 1 < s.size:=by omega
 have l3:(k:Int) + 1 + 1 + 1 < s.size:=by omega
 have HX:=Hd (hexN_lt hg).2
 have HY:=Hd (hexN_lt hg2).2
 have ha:=(hexN_lt hg).1
 have hcc:=(hexN_lt hg2).1
 clear hg hg2
 clear h h92 hq hd
 have e1:((k:Int) + 1).toNat = k + 1:=by omega
 have p1:0 ≤ (k:Int) + 1:=by omega
 have l1:(k:Int) + 1 < s.size:=by omega
 go_enter Tryz.func223,Tryz.ntmps223
 go_wp2_with fail
 go_quiet (fail)
 go_wp2_with (go_at_call 153;refine (more_is true b (k + 1) cs T s _ H.out.drew.step hM.out).mono ?_;rintro e w1 ⟨rfl,n1,rfl⟩)
 go_quiet (fail)
 go_wp2_with fail
 go_quiet ((go_at_call 247;first | exact Calls.quiet_of_same (lexHex_is a _ _ HX.out) | exact Calls.quiet_of_same (lexHex_is c _ _ HY.out)))
 go_wp2_with fail
 generalize hwx:World.setCell _ _ _ = wx
 have hT:TextAt wx b cs T s (k + 4):=by rw [← hwx];exact H.out.drew.step.drew.step.drew.next (k + 4)
 have hG:w.grownBy wx (some b):=by rw [← hwx];exact grown_set (grown_drewN (grown_set (grown_drewN (grown_set (grown_drewN (grown_refl _ _) _) _ rfl _) _) _ rfl _) _) _ rfl _
 have HT:=Hd hT
 have HG:=Hd hG
 have x0:=hT.c0
 have x1:wx.cell? ⟨b,1,none⟩ = some (.int .i64 ((k:Int) + 4)):=hT.c1
 clear hwx hT hG c0 c1 f1 w3
 have w4:IntKind.i64.wrap ((k:Int) + 4 - 2) = (k:Int) + 2:=(IntWalk.i64_in _ (by omega)).trans (by omega)
 have w5:IntKind.i64.wrap ((k:Int) + 4 - 1) = (k:Int) + 3:=(IntWalk.i64_in _ (by omega)).trans (by omega)
 have e4:((k:Int) + 2).toNat = k + 2:=by omega
 have e5:((k:Int) + 3).toNat = k + 3:=by omega
 have p4:0 ≤ (k:Int) + 2:=by omega
 have p5:0 ≤ (k:Int) + 3:=by omega
 have l4:(k:Int) + 2 < s.size:=by omega
 have l5:(k:Int) + 3 < s.size:=by omega
 go_quiet ((go_at_call 247;first | exact Calls.quiet_of_same (lexHex_is a _ _ HX.out) | exact Calls.quiet_of_same (lexHex_is c _ _ HY.out)))
 go_wp2_with fail
 go_ret2
 exact pieced_yes hfin.out (hex_byte ⟨a,ha⟩ ⟨c,hcc⟩) HT.out.drew (grown_drewN HG.out _)
theorem piece_ok (b k:Nat) (cs:Array Value) (T:TypeId) (s:ByteArray) (q:UInt8) (w:World) (h:TextAt w b cs T s k) (hk:k < s.size) (hs:s.size ≤ 1048576) (hq:s[k] ≠ q) :
 Calls Tryz.prog 223 #[.pointer (some ⟨b,0,none⟩),.int .u8 (q.toNat:Int)] w (Pieced w b cs T s k (pieceL (sfx s k))):=by
 by_cases h1:s[k].toNat < 32 ∨ 126 < s[k].toNat
 ·exact piece_low b k cs T s q w h hk h1
 ·by_cases h92:s[k].toNat = 92
  ·by_cases hc:k + 1 < s.size
   ·by_cases d1:s[k + 1].toNat = 110
    ·exact piece_esc110 b k cs T s q w h hk hs h92 hq hc d1
    ·by_cases d2:s[k + 1].toNat = 116
     ·exact piece_esc116 b k cs T s q w h hk hs h92 hq hc d2
     ·by_cases d3:s[k + 1].toNat = 114
      ·exact piece_esc114 b k cs T s q w h hk hs h92 hq hc d3
      ·by_cases d4:s[k + 1].toNat = 48
       ·by_cases hx:k + 2 < s.size
        ·rcases hg:digB s[k + 2] with _ | _
         ·exact piece_esc48_yes b k cs T s q w h hk hs h92 hq hc d4 hx hg
         ·exact piece_esc48_no b k cs T s q w h hk hs h92 hq hc d4 hx hg
        ·exact piece_esc48_end b k cs T s q w h hk hs h92 hq hc d4 (by omega)
       ·by_cases d5:s[k + 1].toNat = 92
        ·exact piece_esc92 b k cs T s q w h hk hs h92 hq hc d5
        ·by_cases d6:s[k + 1].toNat = 39
         ·exact piece_esc39 b k cs T s q w h hk hs h92 hq hc d6
         ·by_cases d7:s[k + 1].toNat = 34
          ·exact piece_esc34 b k cs T s q w h hk hs h92 hq hc d7
          ·by_cases d8:s[k + 1].toNat = 120
           ·by_cases hx:k + 3 < s.size
            ·rcases hg:hexN s[k + 2] with _ | a
             ·exact piece_esc120_no1 b k cs T s q w h hk hs h92 hq hc d8 hx hg
             ·rcases hg2:hexN s[k + 3] with _ | c
              ·exact piece_esc120_no2 b k cs T s q w h hk hs h92 hq hc d8 hx a hg hg2
              ·exact piece_esc120_yes b k cs T s q w h hk hs h92 hq hc d8 hx a c hg hg2
            ·exact piece_esc120_end b k cs T s q w h hk hs h92 hq hc d8 (by omega)
           ·exact piece_escno b k cs T s q w h hk hs h92 hq hc ⟨d1,d2,d3,d4,d5,d6,d7,d8⟩
   ·exact piece_cut b k cs T s q w h hk hs h92 hq (by omega)
  ·exact piece_plain b k cs T s q w h hk hs h1 h92 hq
end Go.Proofs.YtkokdafkjjcgoaaGreatDoor
