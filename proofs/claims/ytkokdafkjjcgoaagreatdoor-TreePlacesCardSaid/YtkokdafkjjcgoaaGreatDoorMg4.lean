/- Blank and comments: the program's reader. -/
import Derived.Test.YtkokdafkjjcgoaaGreatDoorMg3
import Derived.Deep.LoopGhost
namespace Go.Proofs.YtkokdafkjjcgoaaGreatDoor
open Go.RowKit
set_option maxHeartbeats 1000000 in
theorem begins_okL (b k:Nat) (cs:Array Value) (T:TypeId) (s p:ByteArray) (w:World) (h:TextAt w b cs T s k) (hk:k ≤ s.size) :
 Calls Tryz.prog 187 #[.pointer (some ⟨b,0,none⟩),.string p] w fun e w'=>e = .returned (.bool (Lib.hasPrefix (sfx s k) p.data.toList)) ∧ ∃ n,w' = w.drewN n:=by
 have c0:=h.c0
 have c1:=h.c1
 clear h
 rw [← sfx_extract]
 go_enter Tryz.func187,Tryz.ntmps187
 go_wp2_with fail
 go_quiet ((go_at_call 219;exact Calls.quiet_of_same (Tryz.strings_HasPrefix _ _ _)))
 go_wp2
 go_ret
 exact ⟨rfl,_,rfl⟩
theorem begins_is (r:Bool) (b k:Nat) (cs:Array Value) (T:TypeId) (s p:ByteArray) (w:World) (h:TextAt w b cs T s k) (hk:k ≤ s.size) (hr:Lib.hasPrefix (sfx s k) p.data.toList = r) :
 Calls Tryz.prog 187 #[.pointer (some ⟨b,0,none⟩),.string p] w fun e w'=>e = .returned (.bool r) ∧ ∃ n,w' = w.drewN n:=
 (begins_okL b k cs T s p w h hk).mono fun _ _ ⟨he,hw⟩=>⟨by rw [he,hr],hw⟩
theorem index_at (s sub:ByteArray) (w:World) (hs:s.size < 4294967281) (h:MaxLenAt w) :
 Calls Tryz.prog 189 #[.string s,.string sub] w fun e w'=>e = .returned (.int .i64 (Lib.index s.data.toList sub.data.toList)) ∧ w' = w:=by
 obtain ⟨m,hm⟩:=h
 exact Tryz.strings_Index s sub m w hs hm
def Blanked (w:World) (b:Nat) (cs:Array Value) (T:TypeId) (s:ByteArray) (r:Nat × Bool) (e:Ending) (w':World):Prop:=
 (if r.2 = true then e = .returned (.tuple #[.int .i64 0,.bool true]) ∧ TextAt w' b cs T s r.1 else e = .returned (.tuple #[.int .i64 r.1,.bool false])) ∧ w.grownBy w' (some b)
theorem blanked_yes {w w':World} {b:Nat} {cs:Array Value} {T:TypeId} {s:ByteArray} {r:Nat × Bool} {k:Nat} (hr:r = (k,true)) (h:TextAt w' b cs T s k) (hg:w.grownBy w' (some b)) :
 Blanked w b cs T s r (.returned (.tuple #[.int .i64 0,.bool true])) w':=by subst hr;exact ⟨by simp [h],hg⟩
theorem blanked_no {w w':World} {b:Nat} {cs:Array Value} {T:TypeId} {s:ByteArray} {r:Nat × Bool} {k:Nat} (hr:r = (k,false)) (hg:w.grownBy w' (some b)) :
 Blanked w b cs T s r (.returned (.tuple #[.int .i64 k,.bool false])) w':=by subst hr;exact ⟨by simp,hg⟩
theorem indexByte_is (o:Int) (s:ByteArray) (k:Nat) (w:World) (ho:Lib.indexByte (sfx s k) 10 = o) :
 Calls Tryz.prog 188 #[.string (s.extract k s.size),.int .u8 10] w fun e w'=>e = .returned (.int .i64 o) ∧ w' = w:=
 (Tryz.strings_IndexByte _ 10 w).mono fun _ _ ⟨he,hw⟩=>⟨by rw [he,sfx_extract,← ho];rfl,hw⟩
theorem index_is (o:Int) (s:ByteArray) (k:Nat) (w:World) (hs:s.size ≤ 1048576) (hm:MaxLenAt w) (ho:Lib.index (sfx s k) [42,47] = o) :
 Calls Tryz.prog 189 #[.string (s.extract k s.size),.string ⟨#[42,47]⟩] w fun e w'=>e = .returned (.int .i64 o) ∧ w' = w:=
 (index_at _ _ w (by rw [ByteArray.size_extract];omega) hm).mono fun _ _ ⟨he,hw⟩=>⟨by rw [he,sfx_extract,← ho],hw⟩
theorem quiet_sum {P:Program} {f:FuncId} {args:Array Value} {w:World} {m a:Nat} {v:Value} (h:Calls P f args (w.drewN (m + a)) fun e w'=>e = .returned v ∧ w' = w.drewN (m + a)) :
 Calls P f args (w.drewN (m + a)) fun e w'=>e = .returned v ∧ ∃ n,w' = w.drewN (m + n):=h.mono fun _ _ ⟨he,hw⟩=>⟨he,a,hw⟩
theorem quiet_sum2 {P:Program} {f:FuncId} {args:Array Value} {w:World} {m a:Nat} {v:Value} (h:Calls P f args (w.drewN (m + a)) fun e w'=>e = .returned v ∧ ∃ n,w' = (w.drewN (m + a)).drewN n) :
 Calls P f args (w.drewN (m + a)) fun e w'=>e = .returned v ∧ ∃ n,w' = w.drewN (m + n):=h.mono fun _ _ ⟨he,n,hw⟩=>⟨he,a + n,by rw [hw,World.drewN_drewN,Nat.add_assoc]⟩
set_option maxHeartbeats 4000000 in
set_option maxRecDepth 100000 in
theorem blank_ok (b k:Nat) (cs:Array Value) (T:TypeId) (s:ByteArray) (w:World) (h:TextAt w b cs T s k) (hk:k ≤ s.size) (hs:s.size ≤ 1048576) (hm:MaxLenAt w) (hg:2 < b) :
 Calls Tryz.prog 152 #[.pointer (some ⟨b,0,none⟩)] w (Blanked w b cs T s (blankAt s k)):=by
 have H:=Hd h
 have HM:=Hd hm
 clear h hm
 obtain ⟨r,er⟩:∃ r,r = blankAt s k:=⟨_,rfl⟩
 rw [← er]
 have ER:=Hd er
 clear er
 go_enter Tryz.func152,Tryz.ntmps152
 go_wp2
 go_step3
 go_wp2
 go_step3
 go_wp2
 go_loopw [10] (fun _ wr=>∃ j:Nat,j ≤ s.size ∧ Hid (r = blankAt s j) ∧ TextAt wr b cs T s j ∧ w.grownBy wr (some b)) (fun _ wr=>s.size - (intOf ((wr.cell? ⟨b,1,none⟩).getD undef)).toNat)
 case atStart=>exact ⟨k,hk,ER,H.out,grown_refl _ _⟩
 case round=>
  obtain ⟨j,hj,hr,hT,hgr⟩:=hrel
  have c0:=hT.c0
  have c1:=hT.c1
  have f1:=hT.f1 1
  have HT:=Hd hT
  have HG:=Hd hgr
  have C1:=Hd c1
  clear hT hgr
  by_cases hlt:j < s.size
  ·have hM:=Hd (show decide (j < s.size) = true by simpa using hlt)
   rcases hS:spB s[j] with _ | _
   ·have hS1:=Hd (spB_no hS)
    rcases hP:Lib.hasPrefix (sfx s j) [47,47] with _ | _
    ·rcases hQ:Lib.hasPrefix (sfx s j) [47,42] with _ | _
     ·have hfin:=Hd (hr.out.trans (blankAt_stop (gap_none hlt hS hP hQ)))
      have HP:=Hd hP
      have HQ:=Hd hQ
      clear hP hQ hS
      go_wp2_with (go_at_call 153;refine (more_is true _ _ _ _ _ _ HT.out hM.out).mono ?_;rintro e w1 ⟨rfl,n,rfl⟩)
      go_quiet (fail)
      go_wp2_with (go_at_call 187;first
       | (refine (begins_is false _ _ _ _ _ _ _ HT.out.drew hj HP.out).mono ?_;rintro e w1 ⟨rfl,n1,rfl⟩)
       | (refine (begins_is false _ _ _ _ _ _ _ HT.out.drew hj HQ.out).mono ?_;rintro e w1 ⟨rfl,n2,rfl⟩))
      all_goals first
       | (exfalso;have:=hS1.out;simp at *;omega)
       | (try rw [Exit.noGoto_ret]
          go_ret2
          exact blanked_yes hfin.out HT.out.drew (grown_drewN HG.out _))
     ·have h2s:=prefix_two hQ
      have HMr:=Hd (HM.out.grown HG.out hg)
      rcases int_cases (Lib.index_ge (sfx s (j + 2)) [42,47]) with ho | ⟨o,ho⟩
      ·have hfin:=Hd (hr.out.trans (blankAt_bad (by rw [gap_star hlt hS hP hQ,ho];rfl)))
       have HO:=Hd ho
       have HP:=Hd hP
       have HQ:=Hd hQ
       clear hP hQ hS ho
       go_wp2_with (go_at_call 153;refine (more_is true _ _ _ _ _ _ HT.out hM.out).mono ?_;rintro e w1 ⟨rfl,n,rfl⟩)
       go_quiet (fail)
       go_wp2_with (go_at_call 187;first
        | (refine (begins_is false _ _ _ _ _ _ _ HT.out.drew hj HP.out).mono ?_;rintro e w1 ⟨rfl,n1,rfl⟩)
        | (refine (begins_is true _ _ _ _ _ _ _ HT.out.drew hj HQ.out).mono ?_;rintro e w1 ⟨rfl,n2,rfl⟩))
       all_goals first
        | (exfalso;have:=hS1.out;simp at *;omega)
        | (go_quiet ((go_at_call 189;exact quiet_sum (index_is _ _ _ _ hs (HMr.out.drewN _) HO.out)))
           go_wp2
           try rw [Exit.noGoto_ret]
           go_ret2
           exact blanked_no hfin.out (grown_drewN HG.out _))
      ·have hgap:gap (sfx s j) = .skip (o + 4):=by rw [gap_star hlt hS hP hQ,ho,if_neg (by omega)];rfl
       have hle:=(gap_le hgap).2
       rw [sfx_length] at hle
       have hfin:=Hd (hr.out.trans (blankAt_skip hgap))
       have HO:=Hd ho
       have HP:=Hd hP
       have HQ:=Hd hQ
       clear hP hQ hS ho hgap
       go_wp2_with (go_at_call 153;refine (more_is true _ _ _ _ _ _ HT.out hM.out).mono ?_;rintro e w1 ⟨rfl,n,rfl⟩)
       go_quiet (fail)
       go_wp2_with (go_at_call 187;first
        | (refine (begins_is false _ _ _ _ _ _ _ HT.out.drew hj HP.out).mono ?_;rintro e w1 ⟨rfl,n1,rfl⟩)
        | (refine (begins_is true _ _ _ _ _ _ _ HT.out.drew hj HQ.out).mono ?_;rintro e w1 ⟨rfl,n2,rfl⟩))
       all_goals first
        | (exfalso;have:=hS1.out;simp at *;omega)
        | (go_quiet ((go_at_call 189;exact quiet_sum (index_is _ _ _ _ hs (HMr.out.drewN _) HO.out)))
           go_wp2
           go_roundw
           case rel=>exact ⟨j + (o + 4),by omega,hfin.out,HT.out.drew.next (j + (o + 4)),grown_set (grown_drewN HG.out _) _ rfl _⟩
           case measure=>
            have e1:=fun m=>(HT.out.drew (n:=m)).next (j + (o + 4)) |>.c1
            rw [show ((j + (o + 4):Nat):Int) = (j:Int) + ((o:Int) + 4) from by omega] at e1
            rw [C1.out,e1]
            simp [intOf];omega)
    ·have h2s:=prefix_two hP
     rcases int_cases (Lib.indexByte_ge (sfx s j) 10) with ho | ⟨o,ho⟩
     ·have hgap:gap (sfx s j) = .skip (s.size - j):=by rw [gap_line hlt hS hP,ho];rfl
      have hfin:=Hd (hr.out.trans ((blankAt_skip hgap).trans (blankAt_stop (gap_end (s:=s) (k:=j + (s.size - j)) (by omega)))))
      rw [show j + (s.size - j) = s.size by omega] at hfin
      have HO:=Hd ho
      have HP:=Hd hP
      clear hP hS ho hgap
      go_wp2_with (go_at_call 153;refine (more_is true _ _ _ _ _ _ HT.out hM.out).mono ?_;rintro e w1 ⟨rfl,n,rfl⟩)
      go_quiet (fail)
      go_wp2_with (go_at_call 187;refine (begins_is true _ _ _ _ _ _ _ HT.out.drew hj HP.out).mono ?_;rintro e w1 ⟨rfl,n1,rfl⟩)
      all_goals first
       | (exfalso;have:=hS1.out;simp at *;omega)
       | (go_quiet ((go_at_call 188;exact quiet_sum (indexByte_is _ _ _ _ HO.out)))
          go_wp2
          try rw [Exit.noGoto_ret]
          go_ret2
          exact blanked_yes hfin.out (HT.out.drew.next s.size) (grown_set (grown_drewN HG.out _) _ rfl _))
     ·have hgap:gap (sfx s j) = .skip (o + 1):=by rw [gap_line hlt hS hP,ho,if_neg (by omega)];rfl
      have hle:=(gap_le hgap).2
      rw [sfx_length] at hle
      have hfin:=Hd (hr.out.trans (blankAt_skip hgap))
      have HO:=Hd ho
      have HP:=Hd hP
      clear hP hS ho hgap
      go_wp2_with (go_at_call 153;refine (more_is true _ _ _ _ _ _ HT.out hM.out).mono ?_;rintro e w1 ⟨rfl,n,rfl⟩)
      go_quiet (fail)
      go_wp2_with (go_at_call 187;refine (begins_is true _ _ _ _ _ _ _ HT.out.drew hj HP.out).mono ?_;rintro e w1 ⟨rfl,n1,rfl⟩)
      all_goals first
       | (exfalso;have:=hS1.out;simp at *;omega)
       | (go_quiet ((go_at_call 188;exact quiet_sum (indexByte_is _ _ _ _ HO.out)))
          go_wp2
          go_roundw
          case rel=>exact ⟨j + (o + 1),by omega,hfin.out,HT.out.drew.next (j + (o + 1)),grown_set (grown_drewN HG.out _) _ rfl _⟩
          case measure=>
           have e1:=fun m=>(HT.out.drew (n:=m)).next (j + (o + 1)) |>.c1
           rw [show ((j + (o + 1):Nat):Int) = (j:Int) + ((o:Int) + 1) from by omega] at e1
           rw [C1.out,e1]
           simp [intOf];omega)
   ·have hS':=Hd (of_decide_eq_true hS)
    have hfin:=Hd (hr.out.trans (blankAt_skip (gap_space hlt hS)))
    clear hS
    go_wp2_with (go_at_call 153;refine (more_is true _ _ _ _ _ _ HT.out hM.out).mono ?_;rintro e w1 ⟨rfl,n,rfl⟩)
    go_quiet (fail)
    go_wp2_with fail
    all_goals first
     | (exfalso;have:=hS'.out;simp at *;omega)
     | (go_roundw
        case rel=>exact ⟨j + 1,by omega,hfin.out,HT.out.drew.next (j + 1),grown_set (grown_drewN HG.out _) _ rfl _⟩
        case measure=>
         have e1:=fun m=>(HT.out.drew (n:=m)).next (j + 1) |>.c1
         rw [show ((j + 1:Nat):Int) = (j:Int) + 1 from by omega] at e1
         rw [C1.out,e1]
         simp [intOf];omega)
  ·have hM:=Hd (show decide (j < s.size) = false by simpa using hlt)
   have hfin:=Hd (hr.out.trans (blankAt_stop (gap_end (s:=s) (k:=j) (by omega))))
   go_wp2_with (go_at_call 153;refine (more_is false _ _ _ _ _ _ HT.out hM.out).mono ?_;rintro e w1 ⟨rfl,n,rfl⟩)
   try rw [Exit.noGoto_ret]
   go_ret2
   exact blanked_yes hfin.out HT.out.drew (grown_drewN HG.out _)
theorem hexI_digit {c:UInt8} (h:digB c = true):hexI c = (c.toNat:Int) - 48:=by
 have:=of_decide_eq_true h
 simp [hexI,hexN,this.1,this.2];omega
theorem hexI_low {c:UInt8} (h1:97 ≤ c.toNat) (h2:c.toNat ≤ 102):hexI c = (c.toNat:Int) - 87:=by
 simp [hexI,hexN,show ¬ c.toNat ≤ 57 by omega,h1,h2];omega
theorem hexI_up {c:UInt8} (h1:65 ≤ c.toNat) (h2:c.toNat ≤ 70):hexI c = (c.toNat:Int) - 55:=by
 simp [hexI,hexN,show ¬ c.toNat ≤ 57 by omega,show ¬ 97 ≤ c.toNat by omega,h1,h2];omega
theorem hexI_none {c:UInt8} (h:digB c = false) (h1:¬ (97 ≤ c.toNat ∧ c.toNat ≤ 102)) (h2:¬ (65 ≤ c.toNat ∧ c.toNat ≤ 70)):hexI c = -1:=by
 have:=of_decide_eq_false h
 unfold hexI hexN
 rw [if_neg this,if_neg h1,if_neg h2]
theorem hex_mk {c:UInt8} {a:Int} {w:World} (h:hexI c = a):Ending.returned (.int .i64 a) = .returned (.int .i64 (hexI c)) ∧ w = w:=⟨by rw [h],rfl⟩
set_option maxHeartbeats 1000000 in
theorem lexHex_ok (c:UInt8) (w:World):Calls Tryz.prog 247 #[.int .u8 (c.toNat:Int)] w fun e w'=>e = .returned (.int .i64 (hexI c)) ∧ w' = w:=by
 rcases hD:digB c with _ | _
 ·by_cases h1:97 ≤ c.toNat ∧ c.toNat ≤ 102
  ·have hfin:=Hd (hexI_low h1.1 h1.2)
   have t1:(97:Int) ≤ c.toNat:=by omega
   have t2:(c.toNat:Int) ≤ 102:=by omega
   have HD:=Hd hD
   clear hD h1
   go_enter Tryz.func247,Tryz.ntmps247
   go_wp2_with (go_at_call 190;refine (lexDigit_is false _ _ HD.out).mono ?_;rintro e w' ⟨rfl,rfl⟩)
   go_ret
   exact hex_mk (by rw [hfin.out];omega)
  ·by_cases h2:65 ≤ c.toNat ∧ c.toNat ≤ 70
   ·have hfin:=Hd (hexI_up h2.1 h2.2)
    have t1:(c.toNat:Int) < 97:=by omega
    have t2:(65:Int) ≤ c.toNat:=by omega
    have t3:(c.toNat:Int) ≤ 70:=by omega
    have HD:=Hd hD
    clear hD h1 h2
    go_enter Tryz.func247,Tryz.ntmps247
    go_wp2_with (go_at_call 190;refine (lexDigit_is false _ _ HD.out).mono ?_;rintro e w' ⟨rfl,rfl⟩)
    go_ret
    exact hex_mk (by rw [hfin.out];omega)
   ·have hfin:=Hd (hexI_none hD h1 h2)
    have HH:=Hd (And.intro h1 h2)
    have HD:=Hd hD
    clear hD h1 h2
    go_enter Tryz.func247,Tryz.ntmps247
    go_wp2_with (go_at_call 190;refine (lexDigit_is false _ _ HD.out).mono ?_;rintro e w' ⟨rfl,rfl⟩)
    all_goals first
     | (exfalso;have:=HH.out;omega)
     | (go_ret
        exact hex_mk hfin.out)
 ·have hfin:=Hd (hexI_digit hD)
  have t1:(48:Int) ≤ c.toNat:=by have:=(of_decide_eq_true hD).1;omega
  have t2:(c.toNat:Int) ≤ 57:=by have:=(of_decide_eq_true hD).2;omega
  have HD:=Hd hD
  clear hD
  go_enter Tryz.func247,Tryz.ntmps247
  go_wp2_with (go_at_call 190;refine (lexDigit_is true _ _ HD.out).mono ?_;rintro e w' ⟨rfl,rfl⟩)
  go_ret
  exact hex_mk (by rw [hfin.out])
theorem TextAt.step {w b cs T s k} (h:TextAt w b cs T s k):TextAt (w.setCell ⟨b,1,none⟩ (.int .i64 ((k:Int) + 1))) b cs T s (k + 1):=h.next (k + 1)
def Pieced (w:World) (b:Nat) (cs:Array Value) (T:TypeId) (s:ByteArray) (k:Nat) (r:Option (UInt8 × Nat)) (e:Ending) (w':World):Prop:=
 (match r with
   | some (c,m)=>e = .returned (.tuple #[.int .u8 (c.toNat:Int),.bool true]) ∧ TextAt w' b cs T s (k + m)
   | none=>e = .returned (.tuple #[.int .u8 0,.bool false])) ∧ w.grownBy w' (some b)
theorem pieced_yes {w w':World} {b k m:Nat} {cs:Array Value} {T:TypeId} {s:ByteArray} {r:Option (UInt8 × Nat)} {c:UInt8} {n:Int} (hr:r = some (c,m)) (hn:n = (c.toNat:Int)) (h:TextAt w' b cs T s (k + m)) (hg:w.grownBy w' (some b)) :
 Pieced w b cs T s k r (.returned (.tuple #[.int .u8 n,.bool true])) w':=by subst hr hn;exact ⟨⟨rfl,h⟩,hg⟩
theorem pieced_no {w w':World} {b k:Nat} {cs:Array Value} {T:TypeId} {s:ByteArray} {r:Option (UInt8 × Nat)} (hr:r = none) (hg:w.grownBy w' (some b)) :
 Pieced w b cs T s k r (.returned (.tuple #[.int .u8 0,.bool false])) w':=by subst hr;exact ⟨rfl,hg⟩
theorem pieceL_low {s:ByteArray} {k:Nat} (hk:k < s.size) (h:s[k].toNat < 32 ∨ 126 < s[k].toNat):pieceL (sfx s k) = none:=by
 rw [sfx_cons s k hk,pieceL.eq_def];exact if_pos h
theorem pieceL_plain {s:ByteArray} {k:Nat} (hk:k < s.size) (h:¬ (s[k].toNat < 32 ∨ 126 < s[k].toNat)) (h2:s[k].toNat ≠ 92):pieceL (sfx s k) = some (s[k],1):=by
 rw [sfx_cons s k hk,pieceL.eq_def];exact (if_neg h).trans (if_pos h2)
theorem pieceL_cut {s:ByteArray} {k:Nat} (hk:k < s.size) (h:s[k].toNat = 92) (h2:s.size ≤ k + 1):pieceL (sfx s k) = none:=by
 rw [sfx_cons s k hk,sfx_nil s (k + 1) h2,pieceL,if_neg (by omega),if_neg (by omega)]
set_option maxHeartbeats 1000000 in
theorem piece_low (b k:Nat) (cs:Array Value) (T:TypeId) (s:ByteArray) (q:UInt8) (w:World) (h:TextAt w b cs T s k) (hk:k < s.size) (hl:s[k].toNat < 32 ∨ 126 < s[k].toNat) :
 Calls Tryz.prog 223 #[.pointer (some ⟨b,0,none⟩),.int .u8 (q.toNat:Int)] w (Pieced w b cs T s k (pieceL (sfx s k))):=by
 have hfin:=Hd (pieceL_low hk hl)
 have c0:=h.c0
 have c1:=h.c1
 clear h
 rcases hl with hl | hl
 ·have t1:decide ((s[k].toNat:Int) < 32) = true:=by simp;omega
  clear hl
  go_enter Tryz.func223,Tryz.ntmps223
  go_wp2_with fail
  go_quiet (fail)
  go_wp2_with fail
  go_ret2
  exact pieced_no hfin.out (grown_drewN (grown_refl _ _) _)
 ·have t1:decide ((s[k].toNat:Int) < 32) = false:=by simp;omega
  have t2:decide ((126:Int) < s[k].toNat) = true:=by simp;omega
  clear hl
  go_enter Tryz.func223,Tryz.ntmps223
  go_wp2_with fail
  go_quiet (fail)
  go_wp2_with fail
  go_ret2
  exact pieced_no hfin.out (grown_drewN (grown_refl _ _) _)
set_option maxHeartbeats 1000000 in
theorem piece_plain (b k:Nat) (cs:Array Value) (T:TypeId) (s:ByteArray) (q:UInt8) (w:World) (h:TextAt w b cs T s k) (hk:k < s.size) (hs:s.size ≤ 1048576) (hl:¬ (s[k].toNat < 32 ∨ 126 < s[k].toNat)) (h92:s[k].toNat ≠ 92) (hq:s[k] ≠ q) :
 Calls Tryz.prog 223 #[.pointer (some ⟨b,0,none⟩),.int .u8 (q.toNat:Int)] w (Pieced w b cs T s k (pieceL (sfx s k))):=by
 have hfin:=Hd (pieceL_plain hk hl h92)
 have c0:=h.c0
 have c1:=h.c1
 have f1:=h.f1 1
 have H:=Hd h
 have t1:decide ((s[k].toNat:Int) < 32) = false:=by simp;omega
 have t2:decide ((126:Int) < s[k].toNat) = false:=by simp;omega
 have t3:((s[k].toNat:Int) == q.toNat) = false:=by
  rw [beq_eq_false_iff_ne];intro e;exact hq (UInt8.toNat_inj.1 (by omega))
 have t4:((s[k].toNat:Int) != 92) = true:=by simp;omega
 clear h hl h92 hq
 go_enter Tryz.func223,Tryz.ntmps223
 go_wp2_with fail
 go_quiet (fail)
 go_wp2_with fail
 go_ret2
 exact pieced_yes hfin.out rfl H.out.drew.step (grown_set (grown_drewN (grown_refl _ _) _) _ rfl _)
set_option maxHeartbeats 1000000 in
theorem piece_cut (b k:Nat) (cs:Array Value) (T:TypeId) (s:ByteArray) (q:UInt8) (w:World) (h:TextAt w b cs T s k) (hk:k < s.size) (hs:s.size ≤ 1048576) (h92:s[k].toNat = 92) (hq:s[k] ≠ q) (hc:s.size ≤ k + 1) :
 Calls Tryz.prog 223 #[.pointer (some ⟨b,0,none⟩),.int .u8 (q.toNat:Int)] w (Pieced w b cs T s k (pieceL (sfx s k))):=by
 have hfin:=Hd (pieceL_cut hk h92 hc)
 have c0:=h.c0
 have c1:=h.c1
 have f1:=h.f1 1
 have H:=Hd h
 have t1:decide ((s[k].toNat:Int) < 32) = false:=by simp;omega
 have t2:decide ((126:Int) < s[k].toNat) = false:=by simp;omega
 have t3:((s[k].toNat:Int) == q.toNat) = false:=by
  rw [beq_eq_false_iff_ne];intro e;exact hq (UInt8.toNat_inj.1 (by omega))
 have t4:((s[k].toNat:Int) != 92) = false:=by simp;omega
 have hM:=Hd (show decide (k + 1 < s.size) = false by simpa using hc)
 clear h h92 hq hc
 go_enter Tryz.func223,Tryz.ntmps223
 go_wp2_with fail
 go_quiet (fail)
 go_wp2_with (go_at_call 153;refine (more_is false b (k + 1) cs T s _ H.out.drew.step hM.out).mono ?_;rintro e w1 ⟨rfl,n1,rfl⟩)
 go_ret2
 exact pieced_no hfin.out (grown_drewN (grown_set (grown_drewN (grown_refl _ _) _) _ rfl _) _)
end Go.Proofs.YtkokdafkjjcgoaaGreatDoor
