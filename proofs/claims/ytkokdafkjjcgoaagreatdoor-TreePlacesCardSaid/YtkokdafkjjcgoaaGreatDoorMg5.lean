/- The library's reader of numbers, at the bases 10 and 16: at -/
import Derived.Test.YtkokdafkjjcgoaaGreatDoorPiece2
import Derived.Lib.ConvBytes
import Derived.Lib.Strings
import Derived.Laws.Strings3
import Derived.Laws.Closers25
import Derived.Laws.Closers25b
import Derived.BigCall
import Derived.BigGuard
import Derived.Lib.AtoiErrMem
namespace Go.Proofs.YtkokdafkjjcgoaaGreatDoor
open Go.RowKit
def capV (base acc:Nat) (l:List UInt8):Option Nat:=match valL base acc l with
 | none=>none
 | some n=>if n < 4294967296 then some n else none
theorem capV_nil {base acc:Nat} (h:acc < 4294967296):capV base acc [] = some acc:=by simp [capV,valL,h]
theorem valL_ge {base:Nat} (hb:0 < base):∀ (l:List UInt8) {acc n:Nat},valL base acc l = some n → acc ≤ n
 | [],acc,n,h=>by simp [valL] at h;omega
 | c :: l,acc,n,h=>by
   rw [valL] at h
   split at h
   ·rename_i d hd
    split at h
    ·have:=valL_ge hb l h
     have:acc * 1 ≤ acc * base:=Nat.mul_le_mul_left _ hb
     omega
    ·cases h
   ·cases h
theorem capV_step {base acc d:Nat} {c:UInt8} {l:List UInt8} (h:hexN c = some d) (hd:d < base):capV base acc (c :: l) = capV base (acc * base + d) l:=by
 rw [capV,valL,h];simp only;rw [if_pos hd];rfl
theorem capV_over {base acc d:Nat} {c:UInt8} {l:List UInt8} (hb:0 < base) (h:hexN c = some d) (hd:d < base) (ho:4294967295 < acc * base + d):capV base acc (c :: l) = none:=by
 rw [capV_step h hd,capV]
 split
 ·rfl
 ·rename_i n hn
  have:=valL_ge hb l hn
  rw [if_neg (by omega)]
theorem capV_big {base acc d:Nat} {c:UInt8} {l:List UInt8} (h:hexN c = some d) (hd:base ≤ d):capV base acc (c :: l) = none:=by
 rw [capV,valL,h];simp only;rw [if_neg (by omega)]
theorem capV_no {base acc:Nat} {c:UInt8} {l:List UInt8} (h:hexN c = none):capV base acc (c :: l) = none:=by
 rw [capV,valL,h]
def ParsedIn (r:Option Nat) (w:World) (e:Ending) (w':World):Prop:=
 (match r with
   | some n=>e = .returned (.tuple #[.int .u64 n,.nilIface])
   | none=>∃ x c:Int,(c = 1 ∨ c = 2) ∧ e = .returned (.tuple #[.int .u64 x,.iface 286 (.int .i64 c)])) ∧ Below w.heap.size w w'
theorem parsed_yes {r:Option Nat} {w w':World} {n:Nat} {x:Int} (h:r = some n) (hx:x = n) (hb:Below w.heap.size w w'):ParsedIn r w (.returned (.tuple #[.int .u64 x,.nilIface])) w':=by subst h hx;exact ⟨rfl,hb⟩
theorem parsed_no1 {r:Option Nat} {w w':World} {x:Int} (h:r = none) (hb:Below w.heap.size w w'):ParsedIn r w (.returned (.tuple #[.int .u64 x,.iface 286 (.int .i64 1)])) w':=by subst h;exact ⟨⟨x,1,.inl rfl,rfl⟩,hb⟩
theorem parsed_no2 {r:Option Nat} {w w':World} {x:Int} (h:r = none) (hb:Below w.heap.size w w'):ParsedIn r w (.returned (.tuple #[.int .u64 x,.iface 286 (.int .i64 2)])) w':=by subst h;exact ⟨⟨x,2,.inr rfl,rfl⟩,hb⟩
theorem lower_is (x:Int) (c:UInt8) (w:World) (h:bits .or .u8 (c.toNat:Int) 32 = x):Calls Tryz.prog 258 #[.int .u8 (c.toNat:Int)] w fun e w'=>e = .returned (.int .u8 x) ∧ w' = w:=by
 subst h;exact Tryz.internal_strconv_lower _ w
theorem low_hex:∀ c:Fin 256,(97 ≤ c.val ∧ c.val ≤ 102 ∨ 65 ≤ c.val ∧ c.val ≤ 70) → bits .or .u8 (c.val:Int) 32 = ((if 97 ≤ c.val then c.val else c.val + 32:Nat):Int):=by decide +kernel
theorem low_no:∀ c:Fin 256,¬ (97 ≤ c.val ∧ c.val ≤ 102 ∨ 65 ≤ c.val ∧ c.val ≤ 70) → 0 ≤ bits .or .u8 (c.val:Int) 32 ∧ bits .or .u8 (c.val:Int) 32 ≤ 255 ∧ (bits .or .u8 (c.val:Int) 32 < 97 ∨ 102 < bits .or .u8 (c.val:Int) 32):=by decide +kernel
theorem hex_letter {c:UInt8} {d:Nat} (h:hexN c = some d) (h48:¬ (48 ≤ c.toNat ∧ c.toNat ≤ 57)):∃ x:Nat,bits .or .u8 (c.toNat:Int) 32 = x ∧ 97 ≤ x ∧ x ≤ 102 ∧ d = x - 87:=by
 have hl:(97 ≤ c.toNat ∧ c.toNat ≤ 102 ∨ 65 ≤ c.toNat ∧ c.toNat ≤ 70):=by
  unfold hexN at h
  rw [if_neg h48] at h
  split at h
  ·exact .inl ‹_›
  ·split at h
   ·exact .inr ‹_›
   ·cases h
 refine ⟨_,low_hex ⟨c.toNat,c.toNat_lt⟩ hl,?_,?_,?_⟩
 ·show 97 ≤ if 97 ≤ c.toNat then c.toNat else c.toNat + 32
  split <;> omega
 ·show (if 97 ≤ c.toNat then c.toNat else c.toNat + 32) ≤ 102
  split <;> omega
 ·show d = (if 97 ≤ c.toNat then c.toNat else c.toNat + 32) - 87
  unfold hexN at h
  rw [if_neg h48] at h
  split at h
  ·obtain rfl:=Option.some.inj h;rw [if_pos (by omega)]
  ·split at h
   ·obtain rfl:=Option.some.inj h;rw [if_neg (by omega)];omega
   ·cases h
theorem hex_not {c:UInt8} (h:hexN c = none):¬ (48 ≤ c.toNat ∧ c.toNat ≤ 57) ∧ ∃ x:Int,bits .or .u8 (c.toNat:Int) 32 = x ∧ 0 ≤ x ∧ x ≤ 255 ∧ (x < 97 ∨ 102 < x):=by
 unfold hexN at h
 split at h
 ·cases h
 ·rename_i h1
  split at h
  ·cases h
  ·rename_i h2
   split at h
   ·cases h
   ·rename_i h3
    obtain ⟨e1,e2,e3⟩:=low_no ⟨c.toNat,c.toNat_lt⟩ (by show ¬ (97 ≤ c.toNat ∧ c.toNat ≤ 102 ∨ 65 ≤ c.toNat ∧ c.toNat ≤ 70);omega)
    exact ⟨h1,_,rfl,e1,e2,e3⟩
theorem hex_digit {c:UInt8} (h:48 ≤ c.toNat ∧ c.toNat ≤ 57):hexN c = some (c.toNat - 48):=by unfold hexN;rw [if_pos h]
theorem bytes_blw (w:World) (t:ByteArray):Below w.heap.size w (Lib.bytesWorld w 5 t):=Lib.bytesWorld_below _ _ _
set_option maxHeartbeats 8000000 in
set_option maxRecDepth 100000 in
theorem parse10_in (t:ByteArray) (hne:t.size ≠ 0) (hmax:t.size ≤ 9223372036854775806) (w:World) :
 Calls Tryz.prog 245 #[.string t,.int .i64 10,.int .i64 32] w (ParsedIn (capV 10 0 t.data.toList) w):=by
 have hemp:t.toList.isEmpty = false:=by
  rw [← decide_eq_emptyBytes]
  exact decide_eq_false (fun h=>hne (by rw [h];rfl))
 have hcv:=Lib.run_convert_string_bytes (P:=Tryz.prog) w 9 120 5 t (u:=.string) Tryz.underlying9 Tryz.underlying120 Tryz.underlying5
 have hB:∀ j,j < t.size → (Lib.bytesWorld w 5 t).cell? ⟨w.heap.size,j,none⟩ = some (.int .u8 (t.data.toList.getD j 0).toNat):=fun j hj=>Lib.bytesWorld_cell w 5 t j hj
 have HW:=Hd (bytes_blw w t)
 obtain ⟨W1,hW1⟩:∃ W1,W1 = Lib.bytesWorld w 5 t:=⟨_,rfl⟩
 rw [← hW1] at hcv hB HW
 clear hW1
 obtain ⟨bs,hL⟩:∃ bs,bs = t.data.toList:=⟨_,rfl⟩
 have hLn:bs.length = t.size:=by rw [hL,Lib.size_eq]
 rw [← hL] at hB ⊢
 clear hL
 obtain ⟨r,er⟩:∃ r,r = capV 10 0 bs:=⟨_,rfl⟩
 rw [← er]
 have ER:=Hd er
 clear er
 have hmv:IntKind.u64.wrap (IntKind.u64.wrap 4294967296 - 1) = 4294967295:=by
  rw [IntKind.wrap_u64,IntKind.wrap_u64]
  decide
 go_enter Tryz.func245,Tryz.ntmps245
 go_wp2
 go_loop [12,13,101] (fun vu vn vi=>∃ (k acc:Nat) (a:Int),vu = .bool false ∧ vn = .int .u64 a ∧ vi = .int .i64 k ∧ k ≤ t.size ∧ Hid (a = (acc:Int) ∧ acc ≤ 4294967295 ∧ r = capV 10 acc (bs.drop k)))
  (fun _ _ vi=>t.size - (intOf vi).toNat)
 case atStart=>exact ⟨0,0,0,rfl,rfl,rfl,by omega,rfl,by omega,ER.out⟩
 case round=>
  obtain ⟨k,acc,a,rfl,rfl,rfl,hk,hh⟩:=hrel
  obtain ⟨ha,hacc,hdec⟩:=hh.out
  clear hh
  have a0:0 ≤ a:=by omega
  have a1:a ≤ 4294967295:=by omega
  by_cases hkn:k < t.size
  ·have hc:=hB k hkn
   have hdrop:bs.drop k = bs[k]'(by omega) :: bs.drop (k + 1):=List.drop_eq_getElem_cons (by omega)
   have hget:bs.getD k 0 = bs[k]'(by omega):=by simp [List.getD,List.getElem?_eq_getElem (show k < bs.length by omega)]
   rw [hdrop] at hdec
   rw [hget] at hc
   generalize bs[k]'(by omega) = c at hc hdec
   have hc256:c.toNat < 256:=c.toNat_lt
   clear hB hdrop hget
   by_cases hdig:48 ≤ c.toNat ∧ c.toNat ≤ 57
   ·have hx:=hex_digit hdig
    obtain ⟨hd0,hd1⟩:=hdig
    by_cases hov:4294967295 < acc * 10 + (c.toNat - 48)
    ·have hfin:=Hd (hdec.trans (capV_over (by decide) hx (by omega) hov))
     have iov:4294967295 < a * 10 + ((c.toNat:Int) - 48):=by omega
     clear hx hov ha hdec hacc
     go_wp2
     go_ret2
     exact parsed_no1 hfin.out HW.out
    ·have HN:Hid (a * 10 + ((c.toNat:Int) - 48) = ((acc * 10 + (c.toNat - 48):Nat):Int) ∧ acc * 10 + (c.toNat - 48) ≤ 4294967295 ∧ r = capV 10 (acc * 10 + (c.toNat - 48)) (bs.drop (k + 1))):=Hd ⟨by omega,by omega,hdec.trans (capV_step hx (by omega))⟩
     have iov:a * 10 + ((c.toNat:Int) - 48) ≤ 4294967295:=by omega
     clear hx hov hdec ha hacc
     go_wp2
     refine ⟨⟨k + 1,acc * 10 + (c.toNat - 48),a * 10 + ((c.toNat:Int) - 48),rfl,(by first | rfl | (congr 1;omega)),(by first | rfl | (congr 1;omega)),by omega,HN⟩,by simp [intOf];omega⟩
   ·have hfin:=Hd (show r = none by
     rw [hdec]
     rcases hx:hexN c with _ | d
     ·exact capV_no hx
     ·obtain ⟨x,_,_,_,rfl⟩:=hex_letter hx hdig
      exact capV_big hx (by omega))
    clear hacc ha hdec
    have hv0:=bits_lo_u8 .or (c.toNat:Int) 32
    have hv1:=bits_hi_u8 .or (c.toNat:Int) 32
    have hu0:=bits_lo_u8 .or 95 32
    have hu1:=bits_hi_u8 .or 95 32
    go_wp2_with (go_at_call 258;refine (Tryz.internal_strconv_lower _ _).mono ?_;rintro e w' ⟨rfl,rfl⟩)
    all_goals go_ret2
    all_goals exact parsed_no2 hfin.out HW.out
  ·obtain rfl:k = t.size:=by omega
   have hfin:=Hd (show r = some acc by rw [hdec,List.drop_eq_nil_of_le (by omega),capV_nil (by omega)])
   have HA:=Hd ha
   clear hdec ha hacc
   go_wp2
   go_ret2
   exact parsed_yes hfin.out HA.out HW.out
set_option maxHeartbeats 8000000 in
set_option maxRecDepth 100000 in
theorem parse16_in (t:ByteArray) (hne:t.size ≠ 0) (hmax:t.size ≤ 9223372036854775806) (w:World) :
 Calls Tryz.prog 245 #[.string t,.int .i64 16,.int .i64 32] w (ParsedIn (capV 16 0 t.data.toList) w):=by
 have hemp:t.toList.isEmpty = false:=by
  rw [← decide_eq_emptyBytes]
  exact decide_eq_false (fun h=>hne (by rw [h];rfl))
 have hcv:=Lib.run_convert_string_bytes (P:=Tryz.prog) w 9 120 5 t (u:=.string) Tryz.underlying9 Tryz.underlying120 Tryz.underlying5
 have hB:∀ j,j < t.size → (Lib.bytesWorld w 5 t).cell? ⟨w.heap.size,j,none⟩ = some (.int .u8 (t.data.toList.getD j 0).toNat):=fun j hj=>Lib.bytesWorld_cell w 5 t j hj
 have HW:=Hd (bytes_blw w t)
 obtain ⟨W1,hW1⟩:∃ W1,W1 = Lib.bytesWorld w 5 t:=⟨_,rfl⟩
 rw [← hW1] at hcv hB HW
 clear hW1
 obtain ⟨bs,hL⟩:∃ bs,bs = t.data.toList:=⟨_,rfl⟩
 have hLn:bs.length = t.size:=by rw [hL,Lib.size_eq]
 rw [← hL] at hB ⊢
 clear hL
 obtain ⟨r,er⟩:∃ r,r = capV 16 0 bs:=⟨_,rfl⟩
 rw [← er]
 have ER:=Hd er
 clear er
 have hmv:IntKind.u64.wrap (IntKind.u64.wrap 4294967296 - 1) = 4294967295:=by
  rw [IntKind.wrap_u64,IntKind.wrap_u64]
  decide
 go_enter Tryz.func245,Tryz.ntmps245
 go_wp2
 go_loop [12,13,101] (fun vu vn vi=>∃ (k acc:Nat) (a:Int),vu = .bool false ∧ vn = .int .u64 a ∧ vi = .int .i64 k ∧ k ≤ t.size ∧ Hid (a = (acc:Int) ∧ acc ≤ 4294967295 ∧ r = capV 16 acc (bs.drop k)))
  (fun _ _ vi=>t.size - (intOf vi).toNat)
 case atStart=>exact ⟨0,0,0,rfl,rfl,rfl,by omega,rfl,by omega,ER.out⟩
 case round=>
  obtain ⟨k,acc,a,rfl,rfl,rfl,hk,hh⟩:=hrel
  obtain ⟨ha,hacc,hdec⟩:=hh.out
  clear hh
  have a0:0 ≤ a:=by omega
  have a1:a ≤ 4294967295:=by omega
  by_cases hkn:k < t.size
  ·have hc:=hB k hkn
   have hdrop:bs.drop k = bs[k]'(by omega) :: bs.drop (k + 1):=List.drop_eq_getElem_cons (by omega)
   have hget:bs.getD k 0 = bs[k]'(by omega):=by simp [List.getD,List.getElem?_eq_getElem (show k < bs.length by omega)]
   rw [hdrop] at hdec
   rw [hget] at hc
   generalize bs[k]'(by omega) = c at hc hdec
   have hc256:c.toNat < 256:=c.toNat_lt
   clear hB hdrop hget
   by_cases hdig:48 ≤ c.toNat ∧ c.toNat ≤ 57
   ·have hx:=hex_digit hdig
    obtain ⟨hd0,hd1⟩:=hdig
    by_cases hov:4294967295 < acc * 16 + (c.toNat - 48)
    ·have hfin:=Hd (hdec.trans (capV_over (by decide) hx (by omega) hov))
     have iov:4294967295 < a * 16 + ((c.toNat:Int) - 48):=by omega
     clear hx hov ha hdec hacc
     go_wp2
     go_ret2
     exact parsed_no1 hfin.out HW.out
    ·have HN:Hid (a * 16 + ((c.toNat:Int) - 48) = ((acc * 16 + (c.toNat - 48):Nat):Int) ∧ acc * 16 + (c.toNat - 48) ≤ 4294967295 ∧ r = capV 16 (acc * 16 + (c.toNat - 48)) (bs.drop (k + 1))):=Hd ⟨by omega,by omega,hdec.trans (capV_step hx (by omega))⟩
     have iov:a * 16 + ((c.toNat:Int) - 48) ≤ 4294967295:=by omega
     clear hx hov hdec ha hacc
     go_wp2
     refine ⟨⟨k + 1,acc * 16 + (c.toNat - 48),a * 16 + ((c.toNat:Int) - 48),rfl,(by first | rfl | (congr 1;omega)),(by first | rfl | (congr 1;omega)),by omega,HN⟩,by simp [intOf];omega⟩
   ·rcases hx:hexN c with _ | d
    ·have hfin:=Hd (hdec.trans (capV_no hx))
     obtain ⟨_,x,hlx,x0,x1,x2⟩:=hex_not hx
     have HX:=Hd hlx
     clear hacc ha hdec hx hlx
     by_cases h95:c.toNat = 95
     ·have hu0:=bits_lo_u8 .or 95 32
      have hu1:=bits_hi_u8 .or 95 32
      obtain rfl:c = 95:=UInt8.toNat_inj.1 h95
      have h127:bits .or .u8 95 32 = 127:=by decide +kernel
      clear HX x0 x1 x2 h95 hdig
      go_wp2_with (go_at_call 258;refine (Tryz.internal_strconv_lower _ _).mono ?_;rintro e w' ⟨rfl,rfl⟩)
      all_goals go_ret2
      all_goals exact parsed_no2 hfin.out HW.out
     have n95:((c.toNat:Int) == 95) = false:=by rw [beq_eq_false_iff_ne];omega
     have hdd:(c.toNat:Int) < 48 ∨ (48 ≤ (c.toNat:Int) ∧ 57 < (c.toNat:Int)):=by omega
     clear h95 hdig
     rcases hdd with hdd | ⟨hdd,hde⟩ <;> rcases x2 with x2 | x2
     all_goals
      go_wp2_with (go_at_call 258;refine (lower_is x _ _ HX.out).mono ?_;rintro e w' ⟨rfl,rfl⟩)
      all_goals go_ret2
      all_goals exact parsed_no2 hfin.out HW.out
    ·obtain ⟨x,hlx,x0,x1,rfl⟩:=hex_letter hx hdig
     have HX:=Hd hlx
     have n95:((c.toNat:Int) == 95) = false:=by
      rw [beq_eq_false_iff_ne];intro e
      have:c = 95:=UInt8.toNat_inj.1 (by show c.toNat = 95;omega)
      subst this;simp [hexN] at hx
     have hdd:(c.toNat:Int) < 48 ∨ (48 ≤ (c.toNat:Int) ∧ 57 < (c.toNat:Int)):=by omega
     have hd16:x - 87 < 16:=by omega
     by_cases hov:4294967295 < acc * 16 + (x - 87)
     ·have hfin:=Hd (hdec.trans (capV_over (by decide) hx hd16 hov))
      have iov:4294967295 < a * 16 + ((x:Int) - 97 + 10):=by omega
      clear hx hov ha hdec hacc hlx hdig
      rcases hdd with hdd | ⟨hdd,hde⟩
      all_goals
       go_wp2_with (go_at_call 258;refine (lower_is x _ _ HX.out).mono ?_;rintro e w' ⟨rfl,rfl⟩)
       go_ret2
       exact parsed_no1 hfin.out HW.out
     ·have HN:Hid (a * 16 + ((x:Int) - 97 + 10) = ((acc * 16 + (x - 87):Nat):Int) ∧ acc * 16 + (x - 87) ≤ 4294967295 ∧ r = capV 16 (acc * 16 + (x - 87)) (bs.drop (k + 1))):=Hd ⟨by omega,by omega,hdec.trans (capV_step hx hd16)⟩
      have iov:a * 16 + ((x:Int) - 97 + 10) ≤ 4294967295:=by omega
      clear hx hov hdec ha hacc hlx hdig
      rcases hdd with hdd | ⟨hdd,hde⟩
      all_goals
       go_wp2_with (go_at_call 258;refine (lower_is x _ _ HX.out).mono ?_;rintro e w' ⟨rfl,rfl⟩)
       refine ⟨⟨k + 1,acc * 16 + (x - 87),a * 16 + ((x:Int) - 97 + 10),rfl,(by first | rfl | (congr 1;omega)),(by first | rfl | (congr 1;omega)),by omega,HN⟩,by simp [intOf];omega⟩
  ·obtain rfl:k = t.size:=by omega
   have hfin:=Hd (show r = some acc by rw [hdec,List.drop_eq_nil_of_le (by omega),capV_nil (by omega)])
   have HA:=Hd ha
   clear hdec ha hacc
   go_wp2
   go_ret2
   exact parsed_yes hfin.out HA.out HW.out
def ErrsAt (w:World):Prop:=(∃ ev,w.cell? ⟨4,0,none⟩ = some ev ∧ (ev = .nilIface ∨ ∃ te pe,ev = .iface te pe)) ∧ ∃ ev,w.cell? ⟨5,0,none⟩ = some ev ∧ (ev = .nilIface ∨ ∃ te pe,ev = .iface te pe)
theorem ErrsAt.below {w w':World} (h:ErrsAt w) (hb:Below w.heap.size w w'):ErrsAt w':=by
 obtain ⟨⟨a,h1,h2⟩,b,h3,h4⟩:=h
 exact ⟨⟨a,by rw [hb.cell (World.block_lt_of_cell? w _ h1)];exact h1,h2⟩,b,by rw [hb.cell (World.block_lt_of_cell? w _ h3)];exact h3,h4⟩
theorem ErrsAt.grown {w w':World} {b:Nat} (h:ErrsAt w) (hg:w.grownBy w' (some b)) (hb:5 < b ∧ 4 < b):ErrsAt w':=by
 obtain ⟨⟨x,h1,h2⟩,y,h3,h4⟩:=h
 have e1:=World.block_lt_of_cell? w _ h1
 have e3:=World.block_lt_of_cell? w _ h3
 refine ⟨⟨x,?_,h2⟩,y,?_,h4⟩
 ·unfold World.cell? at h1 ⊢
  rw [hg.block _ e1 (by simp;omega)];exact h1
 ·unfold World.cell? at h3 ⊢
  rw [hg.block _ e3 (by simp;omega)];exact h3
theorem ErrsAt.drewN {w:World} (h:ErrsAt w) (n:Nat):ErrsAt (w.drewN n):=h
def Parsed (r:Option Nat) (w:World) (e:Ending) (w':World):Prop:=
 (match r with
   | some n=>e = .returned (.tuple #[.int .u64 n,.nilIface])
   | none=>∃ (x:Int) (v:Value),e = .returned (.tuple #[.int .u64 x,.iface 288 v])) ∧ Below w.heap.size w w'
theorem parse_of (base:Int) (t:ByteArray) (r:Option Nat) (w:World) (hmax:t.size ≤ 281474976710656) (hE:ErrsAt w) (hP:Calls Tryz.prog 245 #[.string t,.int .i64 base,.int .i64 32] w (ParsedIn r w)) :
 Calls Tryz.prog 222 #[.string t,.int .i64 base,.int .i64 32] w (Parsed r w):=by
 have HP:=Hd hP
 have HE:=Hd hE
 clear hP hE
 go_enter Tryz.func222,Tryz.ntmps222
 go_wp2_with (go_at_call 245;refine HP.out.mono ?_)
 rintro e w1 ⟨he,hb⟩
 have HB:=Hd hb
 have HE1:=Hd (HE.out.below hb)
 have hsz:=hb.size
 clear hb
 cases r with
 | some n=>
   subst he
   go_wp2
   go_ret2
   exact ⟨rfl,HB.out⟩
 | none=>
   obtain ⟨x,c,hc,rfl⟩:=he
   obtain ⟨⟨e1,v1,i1⟩,e2,v2,i2⟩:=HE1.out
   have HV:=Hd (And.intro (And.intro v1 i1) (And.intro v2 i2))
   clear v1 i1 v2 i2
   rcases hc with rfl | rfl
   ·go_wp2_with (go_at_call 246;refine (Tryz.strconv_toError_range _ t base 32 e2 _ hmax HV.out.2.1 HV.out.2.2).mono ?_;rintro e w2 ⟨N,rfl,_,_,hb2⟩;have HB2:=Hd hb2;clear hb2)
    go_ret2
    exact ⟨⟨x,_,rfl⟩,HB.out.trans (HB2.out.mono hsz)⟩
   ·go_wp2_with (go_at_call 246;refine (Tryz.strconv_toError_syntax _ t base 32 e1 _ hmax HV.out.1.1 HV.out.1.2).mono ?_;rintro e w2 ⟨N,rfl,_,_,hb2⟩;have HB2:=Hd hb2;clear hb2)
    go_ret2
    exact ⟨⟨x,_,rfl⟩,HB.out.trans (HB2.out.mono hsz)⟩
theorem parse10_ok (t:ByteArray) (w:World) (hne:t.size ≠ 0) (hmax:t.size ≤ 1048576) (hE:ErrsAt w):Calls Tryz.prog 222 #[.string t,.int .i64 10,.int .i64 32] w (Parsed (capV 10 0 t.data.toList) w):=
 parse_of 10 t _ w (by omega) hE (parse10_in t hne (by omega) w)
theorem parse16_ok (t:ByteArray) (w:World) (hne:t.size ≠ 0) (hmax:t.size ≤ 1048576) (hE:ErrsAt w):Calls Tryz.prog 222 #[.string t,.int .i64 16,.int .i64 32] w (Parsed (capV 16 0 t.data.toList) w):=
 parse_of 16 t _ w (by omega) hE (parse16_in t hne (by omega) w)
theorem parse_no {base:Int} {t:ByteArray} {r:Option Nat} {w:World} (hr:r = none) (h:Calls Tryz.prog 222 #[.string t,.int .i64 base,.int .i64 32] w (Parsed r w)) :
 Calls Tryz.prog 222 #[.string t,.int .i64 base,.int .i64 32] w fun e w'=>∃ (x:Int) (v:Value),e = .returned (.tuple #[.int .u64 x,.iface 288 v]) ∧ Below w.heap.size w w':=by
 subst hr;exact h.mono fun _ _ ⟨⟨x,v,he⟩,hb⟩=>⟨x,v,he,hb⟩
end Go.Proofs.YtkokdafkjjcgoaaGreatDoor
