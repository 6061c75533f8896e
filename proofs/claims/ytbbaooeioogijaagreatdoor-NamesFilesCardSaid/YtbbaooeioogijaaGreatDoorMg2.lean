/- The reader of types: the byte that comes, a byte taken, what · The reader of types: what stands ahead of a byte; a number. · The reader of types: a type, a function's parameters. · Words, keywords and names of the reference. · Names and keywords of texts of any length, of both texts. -/
import Derived.Test.YtbbaooeioogijaaGreatDoorMg1
import Derived.Deep.RegionWith
import Derived.Lib.ConvBytes
import Derived.Deep.DeepCutAuto
import Derived.Deep.LoopGhost
namespace Go.Proofs.YtbbaooeioogijaaGreatDoor
open Go.RowKit
structure RdAt (w:World) (b:Nat) (s:ByteArray) (k d:Nat):Prop where
 blk:w.heap[b]? = some (.cells #[.string s,.int .i64 (k:Int),.int .i64 (d:Int)] 197 (0,0))
theorem RdAt.cells {w b s k d} (h:RdAt w b s k d):(w.cell? ⟨b,0,none⟩ = some (.string s) ∧ w.cell? ⟨b,1,none⟩ = some (.int .i64 (k:Int)) ∧ w.cell? ⟨b,2,none⟩ = some (.int .i64 (d:Int))) ∧ ∀ j,w.frozen? ⟨b,j,none⟩ = false:=by
 refine ⟨⟨?_,?_,?_⟩,fun j=>?_⟩
 ·simp [World.cell?,h.blk]
 ·simp [World.cell?,h.blk]
 ·simp [World.cell?,h.blk]
 ·simp [World.frozen?,h.blk]
theorem RdAt.drewN {w b s k d} (h:RdAt w b s k d) (n:Nat):RdAt (w.drewN n) b s k d:=⟨h.blk⟩
theorem RdAt.set1 {w b s k d} (h:RdAt w b s k d) (m:Nat):RdAt (w.setCell ⟨b,1,none⟩ (.int .i64 (m:Int))) b s m d:=by
 refine ⟨?_⟩
 simp [World.setCell,Array.getElem?_modify,h.blk]
theorem RdAt.set2 {w b s k d} (h:RdAt w b s k d) (m:Nat):RdAt (w.setCell ⟨b,2,none⟩ (.int .i64 (m:Int))) b s k m:=by
 refine ⟨?_⟩
 simp [World.setCell,Array.getElem?_modify,h.blk]
theorem RdAt.at1 {w b s k d} (h:RdAt w b s k d) {m:Nat} {x:Int} (hx:x = m):RdAt (w.setCell ⟨b,1,none⟩ (.int .i64 x)) b s m d:=by subst hx;exact h.set1 m
theorem RdAt.at2 {w b s k d} (h:RdAt w b s k d) {m:Nat} {x:Int} (hx:x = m):RdAt (w.setCell ⟨b,2,none⟩ (.int .i64 x)) b s k m:=by subst hx;exact h.set2 m
theorem RdAt.below {w w' b s k d} (h:RdAt w b s k d) (hb:Below w.heap.size w w'):RdAt w' b s k d:=⟨by rw [hb.block b (lt_of_heap h.blk)];exact h.blk⟩
theorem RdAt.lt {w b s k d} (h:RdAt w b s k d):b < w.heap.size:=lt_of_heap h.blk
def byteAt (s:ByteArray) (k:Nat):Nat:=if h:k < s.size then s[k].toNat else 0
theorem byteAt_in {s:ByteArray} {k:Nat} (h:k < s.size):byteAt s k = s[k].toNat:=by rw [byteAt,dif_pos h]
theorem byteAt_out {s:ByteArray} {k:Nat} (h:s.size ≤ k):byteAt s k = 0:=by rw [byteAt,dif_neg (by omega)]
set_option maxHeartbeats 1000000 in
theorem next_ok (b k d:Nat) (s:ByteArray) (w:World) (h:RdAt w b s k d) :
 Calls Tryz.prog 148 #[.pointer (some ⟨b,0,none⟩)] w fun e w'=>e = .returned (.int .u8 (byteAt s k:Int)) ∧ ∃ n,w' = w.drewN n:=by
 obtain ⟨⟨c0,c1,c2⟩,hf⟩:=h.cells
 clear h hf
 by_cases hk:k < s.size
 ·have hE:=Hd (byteAt_in hk)
  have t1:decide (k < s.size) = true:=by simpa using hk
  go_enter Tryz.func148,Tryz.ntmps148
  go_wp2_with fail
  go_quiet (fail)
  go_wp2_with fail
  go_quiet (fail)
  go_wp2
  go_ret
  exact ⟨by rw [hE.out];rfl,_,World.drewN_drewN _ _ _⟩
 ·have hE:=Hd (byteAt_out (s:=s) (k:=k) (by omega))
  have t1:decide (k < s.size) = false:=by simpa using hk
  go_enter Tryz.func148,Tryz.ntmps148
  go_wp2_with fail
  go_quiet (fail)
  go_wp2
  go_ret
  exact ⟨by rw [hE.out];rfl,_,rfl⟩
theorem next_is (r:Int) (b k d:Nat) (s:ByteArray) (w:World) (h:RdAt w b s k d) (hr:(byteAt s k:Int) = r) :
 Calls Tryz.prog 148 #[.pointer (some ⟨b,0,none⟩)] w fun e w'=>e = .returned (.int .u8 r) ∧ ∃ n,w' = w.drewN n:=by
 subst hr;exact next_ok b k d s w h
set_option maxHeartbeats 2000000 in
theorem take_yes (c:UInt8) (b k d:Nat) (s:ByteArray) (w:World) (h:RdAt w b s k d) (hk:k < s.size) (hc:s[k] = c) (hs:s.size ≤ 1048576) :
 Calls Tryz.prog 136 #[.pointer (some ⟨b,0,none⟩),.int .u8 (c.toNat:Int)] w fun e w'=>e = .returned (.bool true) ∧ RdAt w' b s (k + 1) d ∧ w.grownBy w' (some b):=by
 have H:=Hd h
 have HN:=Hd (show (byteAt s k:Int) = (c.toNat:Int) by rw [byteAt_in hk,hc])
 obtain ⟨⟨c0,c1,c2⟩,hf⟩:=h.cells
 have f1:=hf 1
 have t1:decide (s.size ≤ k) = false:=by simp;omega
 have t2:decide ((s.size:Int) ≤ k) = false:=by simp;omega
 clear h hc hf
 go_enter Tryz.func136,Tryz.ntmps136
 go_wp2_with fail
 go_quiet ((go_at_call 148;exact Calls.quiet_of (next_is _ _ _ _ _ _ (H.out.drewN _) HN.out)))
 go_wp2
 go_ret
 exact ⟨rfl,by have:=(H.out.drewN nq).set1 (k + 1);exact this,grown_set (grown_drewN (grown_refl _ _) _) _ rfl _⟩
set_option maxHeartbeats 2000000 in
theorem take_no (c:UInt8) (b k d:Nat) (s:ByteArray) (w:World) (h:RdAt w b s k d) (hc0:c.toNat ≠ 0) (hc:∀ h:k < s.size,s[k] ≠ c) :
 Calls Tryz.prog 136 #[.pointer (some ⟨b,0,none⟩),.int .u8 (c.toNat:Int)] w fun e w'=>e = .returned (.bool false) ∧ ∃ n,w' = w.drewN n:=by
 have H:=Hd h
 have t1:((byteAt s k:Int) != (c.toNat:Int)) = true:=by
  rw [bne_iff_ne]
  by_cases hk:k < s.size
  ·rw [byteAt_in hk]
   intro e
   exact hc hk (UInt8.toNat_inj.1 (by omega))
  ·rw [byteAt_out (by omega)]
   intro e
   omega
 generalize hg:(byteAt s k:Int) = x at t1
 have HN:=Hd hg
 clear h hc hg hc0
 go_enter Tryz.func136,Tryz.ntmps136
 go_wp2_with fail
 go_quiet ((go_at_call 148;exact Calls.quiet_of (next_is _ _ _ _ _ _ (H.out.drewN _) HN.out)))
 go_wp2
 go_ret
 exact ⟨rfl,_,rfl⟩
theorem takeY (x:Int) (c:UInt8) (b k d:Nat) (s:ByteArray) (w:World) (hx:x = (c.toNat:Int)) (h:RdAt w b s k d) (hk:k < s.size) (hc:s[k] = c) (hs:s.size ≤ 1048576) :
 Calls Tryz.prog 136 #[.pointer (some ⟨b,0,none⟩),.int .u8 x] w fun e w'=>e = .returned (.bool true) ∧ RdAt w' b s (k + 1) d ∧ w.grownBy w' (some b):=by
 subst hx;exact take_yes c b k d s w h hk hc hs
theorem takeN (x:Int) (c:UInt8) (b k d:Nat) (s:ByteArray) (w:World) (hx:x = (c.toNat:Int)) (h:RdAt w b s k d) (hc0:c.toNat ≠ 0) (hc:∀ h:k < s.size,s[k] ≠ c) :
 Calls Tryz.prog 136 #[.pointer (some ⟨b,0,none⟩),.int .u8 x] w fun e w'=>e = .returned (.bool false) ∧ ∃ n,w' = w.drewN n:=by
 subst hx;exact take_no c b k d s w h hc0 hc
end Go.Proofs.YtbbaooeioogijaaGreatDoor
namespace Go.Proofs.YtbbaooeioogijaaGreatDoor
open Go.RowKit
theorem cut_index {c:UInt8} {l u r:List UInt8} (h:cutAt c l = some (u,r)):Lib.indexByte l c = (u.length:Nat):=by
 obtain ⟨rfl,h2⟩:=cutAt_some h
 refine indexByte_at (by simp) fun k hk=>?_
 rw [List.getElem?_append_left hk]
 intro e
 exact h2 (List.mem_of_getElem? e)
theorem cut_index_no {c:UInt8} {l:List UInt8} (h:cutAt c l = none):Lib.indexByte l c = -1:=by
 rw [cutAt_none] at h
 exact indexByte_no fun k e=>h (List.mem_of_getElem? e)
theorem idxc_is (c:UInt8) (o:Int) (s:ByteArray) (k:Nat) (w:World) (ho:Lib.indexByte (sfx s k) c = o) :
 Calls Tryz.prog 149 #[.string (s.extract k s.size),.int .u8 (c.toNat:Int)] w fun e w'=>e = .returned (.int .i64 o) ∧ w' = w:=
 (Tryz.strings_IndexByte _ (c.toNat:Int) w).mono fun _ _ ⟨he,hw⟩=>⟨by rw [he,sfx_extract,← ho];simp,hw⟩
set_option maxHeartbeats 2000000 in
theorem till_yes (c:UInt8) (b k d:Nat) (s:ByteArray) (u r:List UInt8) (w:World) (h:RdAt w b s k d) (hk:k ≤ s.size) (hc:cutAt c (sfx s k) = some (u,r)) (hs:s.size ≤ 1048576) :
 Calls Tryz.prog 150 #[.pointer (some ⟨b,0,none⟩),.int .u8 (c.toNat:Int)] w fun e w'=>e = .returned (.tuple #[.string (s.extract k (k + u.length)),.bool true]) ∧ RdAt w' b s (k + u.length + 1) d ∧ w.grownBy w' (some b):=by
 have H:=Hd h
 have HI:=Hd (cut_index hc)
 have hl:k + u.length + 1 ≤ s.size:=by
  have:=congrArg List.length (cutAt_some hc).1
  rw [sfx_length] at this
  simp at this;omega
 obtain ⟨⟨c0,c1,c2⟩,hf⟩:=h.cells
 have f1:=hf 1
 generalize u.length = m at *
 clear h hc hf
 go_enter Tryz.func150,Tryz.ntmps150
 go_wp2_with fail
 go_quiet ((go_at_call 149;exact Calls.quiet_of_same (idxc_is c _ _ _ _ HI.out)))
 go_wp2_with fail
 go_quiet (fail)
 go_wp2_with fail
 go_ret2
 exact ⟨rfl,(H.out.drewN _).at1 (by omega),grown_set (grown_drewN (grown_refl _ _) _) _ rfl _⟩
set_option maxHeartbeats 2000000 in
theorem till_no (c:UInt8) (b k d:Nat) (s:ByteArray) (w:World) (h:RdAt w b s k d) (hk:k ≤ s.size) (hc:cutAt c (sfx s k) = none) :
 Calls Tryz.prog 150 #[.pointer (some ⟨b,0,none⟩),.int .u8 (c.toNat:Int)] w fun e w'=>e = .returned (.tuple #[.string ⟨#[]⟩,.bool false]) ∧ ∃ n,w' = w.drewN n:=by
 have HI:=Hd (cut_index_no hc)
 obtain ⟨⟨c0,c1,c2⟩,hf⟩:=h.cells
 clear h hc hf
 go_enter Tryz.func150,Tryz.ntmps150
 go_wp2_with fail
 go_quiet ((go_at_call 149;exact Calls.quiet_of_same (idxc_is c _ _ _ _ HI.out)))
 go_wp2
 go_ret2
 exact ⟨rfl,_,rfl⟩
def Numbered (r:Option Nat) (w:World) (e:Ending) (w':World):Prop:=
 (match r with
   | some n=>e = .returned (.tuple #[.int .i64 n,.bool true])
   | none=>∃ x:Int,e = .returned (.tuple #[.int .i64 x,.bool false])) ∧ Below w.heap.size w w'
theorem numbered_no {w w':World} {r:Option Nat} {x:Int} (hr:r = none) (hb:Below w.heap.size w w'):Numbered r w (.returned (.tuple #[.int .i64 x,.bool false])) w':=by subst hr;exact ⟨⟨x,rfl⟩,hb⟩
theorem numbered_yes {w w':World} {r:Option Nat} {n:Nat} (hr:r = some n) (hb:Below w.heap.size w w'):Numbered r w (.returned (.tuple #[.int .i64 n,.bool true])) w':=by subst hr;exact ⟨rfl,hb⟩
theorem numbered_end {w w':World} {r:Option Nat} {n:Nat} (hr:r = if n ≤ 1099511627776 then some n else none) (hb:Below w.heap.size w w'):Numbered r w (.returned (.tuple #[.int .i64 n,.bool (decide ((n:Int) ≤ 1099511627776))])) w':=by
 by_cases h:n ≤ 1099511627776
 ·rw [if_pos h] at hr
  rw [decide_eq_true (show (n:Int) ≤ 1099511627776 by omega)]
  exact numbered_yes hr hb
 ·rw [if_neg h] at hr
  rw [decide_eq_false (show ¬ (n:Int) ≤ 1099511627776 by omega)]
  exact numbered_no hr hb
theorem valT_bd:∀ (n:Nat) (l:List UInt8),l.length = n → l.all digB = true → valT l < 10 ^ n
 | 0,l,hn,_=>by simp at hn;subst hn;simp [valT]
 | n + 1,l,hn,h=>by
   rcases List.eq_nil_or_concat l with rfl | ⟨m,c,rfl⟩
   ·simp at hn
   ·rw [List.concat_eq_append] at *
    rw [List.all_append,Bool.and_eq_true] at h
    have h1:=valT_bd n m (by simpa using hn) h.1
    have h2:digB c = true:=by simpa using h.2
    unfold digB at h2
    rw [decide_eq_true_iff] at h2
    rw [valT_snoc,Nat.pow_succ]
    omega
theorem bytes_below (w:World) (e:TypeId) (s:ByteArray):Below w.heap.size w (Lib.bytesWorld w e s):=
 ⟨rfl,rfl,rfl,by rw [Lib.bytesWorld_size];omega,fun k hk=>Lib.bytesWorld_at_old w e s k hk⟩
theorem numT_long {l:List UInt8} (h:15 < l.length):numT l = none:=by unfold numT;rw [if_pos (.inr (.inl h))]
theorem numT_zero {l:List UInt8} (h:1 < l.length) (h0:l.head? = some 48):numT l = none:=by unfold numT;rw [if_pos (.inr (.inr ⟨h,h0⟩))]
theorem numT_bad {l:List UInt8} (h:l.all digB = false):numT l = none:=by
 unfold numT
 split
 ·rfl
 ·rw [if_neg (by rw [h];simp)]
theorem numT_end {l:List UInt8} (h0:l ≠ []) (h1:l.length ≤ 15) (h2:1 < l.length → l.head? ≠ some 48) (h3:l.all digB = true):numT l = if valT l ≤ 1099511627776 then some (valT l) else none:=by
 unfold numT
 rw [if_neg (by rintro (h | h | h);exact h0 h;omega;exact h2 h.1 h.2)]
 by_cases h:valT l ≤ 1099511627776
 ·rw [if_pos ⟨h3,h⟩,if_pos h]
 ·rw [if_neg (fun e=>h e.2),if_neg h]
set_option maxHeartbeats 4000000 in
set_option maxRecDepth 100000 in
theorem number_ok (s:ByteArray) (w:World):Calls Tryz.prog 135 #[.string s] w (Numbered (numT s.data.toList) w):=by
 have hl:s.data.toList.length = s.size:=by rw [Array.length_toList];rfl
 have Hl:=Hd hl
 clear hl
 by_cases h0:s.size = 0
 ·have hfin:=Hd (show numT s.data.toList = none by unfold numT;rw [if_pos (.inl (List.eq_nil_of_length_eq_zero (by rw [Hl.out];exact h0)))])
  have t1:s.toList.isEmpty = true:=by
   rw [Lib.toList_data,List.isEmpty_iff]
   exact List.eq_nil_of_length_eq_zero (by rw [Hl.out];exact h0)
  go_enter Tryz.func135,Tryz.ntmps135
  go_wp2_with fail
  go_ret2
  exact numbered_no hfin.out (Below.refl _ _)
 ·have t1:s.toList.isEmpty = false:=by
   rw [Lib.toList_data,List.isEmpty_eq_false_iff]
   intro e
   have:=Hl.out
   rw [e] at this
   exact h0 this.symm
  by_cases h15:15 < s.size
  ·have hfin:=Hd (numT_long (l:=s.data.toList) (by rw [Hl.out];exact h15))
   have t2:(15:Int) < s.size:=by omega
   go_enter Tryz.func135,Tryz.ntmps135
   go_wp2_with fail
   go_ret2
   exact numbered_no hfin.out (Below.refl _ _)
  ·have t2:(s.size:Int) ≤ 15:=by omega
   by_cases hz:1 < s.size ∧ s.data.toList.head? = some 48
   ·have hfin:=Hd (numT_zero (l:=s.data.toList) (by rw [Hl.out];exact hz.1) hz.2)
    have h1:0 < s.size:=by omega
    have t3:(1:Int) < s.size:=by omega
    have t4:((s[0].toNat:Int) == 48) = true:=by
     have:=hz.2
     rw [head_at s h1] at this
     simp [Option.some.inj this]
    clear hz
    go_enter Tryz.func135,Tryz.ntmps135
    go_wp2_with fail
    go_ret2
    exact numbered_no hfin.out (Below.refl _ _)
   ·have h1:0 < s.size:=by omega
    have HZ:=Hd (show 1 < s.data.toList.length → s.data.toList.head? ≠ some 48 from fun a b=>hz ⟨by rw [Hl.out] at a;exact a,b⟩)
    have hcv:=fun w:World=>Lib.run_convert_string_bytes (P:=Tryz.prog) w 9 201 5 s Tryz.underlying9 Tryz.underlying201 Tryz.underlying5
    have hz':((s.size:Int) ≤ 1) ∨ ((1:Int) < s.size ∧ ((s[0].toNat:Int) == 48) = false):=by
     by_cases h:1 < s.size
     ·refine .inr ⟨by omega,?_⟩
      have h3:s.data.toList.head? ≠ some 48:=fun e=>hz ⟨h,e⟩
      rw [head_at s h1] at h3
      rw [beq_eq_false_iff_ne]
      intro e
      have e':s[0].toNat = 48:=by omega
      exact h3 (by rw [Option.some.injEq];exact UInt8.toNat_inj.1 e')
     ·exact .inl (by omega)
    clear hz
    go_enter Tryz.func135,Tryz.ntmps135
    go_upto_region 1 with fail
    go_cut [23] (fun v wx=>v = .bool false ∧ w = wx)
    case first=>
     rcases hz' with h | ⟨h,h'⟩
     all_goals
      go_wp2_with fail
      go_meet
      exact ⟨by congr 1;simp_all;try omega,rfl⟩
    case rest=>
     obtain ⟨rfl,rfl⟩:=hcut
     clear hz'
     go_wp2_with fail
     have hcell:∀ j (hj:j < s.size),(Lib.bytesWorld w 5 s).cell? ⟨w.heap.size,j,none⟩ = some (.int .u8 (s[j].toNat:Int)):=fun j hj=>by
      rw [Lib.bytesWorld_cell _ _ _ _ hj,getD_lt _ _ (by rw [Hl.out];exact hj)]
      rfl
     have HC:=Hd hcell
     have HB:=Hd (bytes_below w 5 s)
     clear hcell hcv
     generalize Lib.bytesWorld w 5 s = w1 at HC HB ⊢
     go_loop [4,27] (fun nv i=>∃ k:Nat,k ≤ s.size ∧ i = .int .i64 k ∧ nv = .int .i64 (valT (s.data.toList.take k):Nat) ∧ Hid ((s.data.toList.take k).all digB = true)) (fun _ i=>s.size - (intOf i).toNat)
     case atStart=>exact ⟨0,Nat.zero_le _,rfl,rfl,rfl⟩
     case round=>
      obtain ⟨k,hk,rfl,rfl,hd⟩:=hrel
      have hv:valT (s.data.toList.take k) < 10 ^ 15:=Nat.lt_of_lt_of_le (valT_bd _ _ rfl hd.out) (Nat.pow_le_pow_right (by decide) (by rw [List.length_take];omega))
      have hv':(valT (s.data.toList.take k):Int) < 1000000000000000:=by omega
      clear hv
      by_cases hlt:k < s.size
      ·have hc:=HC.out k hlt
       have HT:=Hd (take_snoc s k hlt)
       rcases hdk:digB s[k] with _ | _
       ·have hfin:=Hd (show numT s.data.toList = none from numT_bad (by
         rw [Bool.eq_false_iff];intro e
         have:=List.all_eq_true.1 e _ (List.getElem_mem (l:=s.data.toList) (n:=k) (by rw [Hl.out];exact hlt))
         rw [show s.data.toList[k]'(by rw [Hl.out];exact hlt) = s[k] from rfl,hdk] at this;cases this))
        have hw:(s[k].toNat:Int) < 48 ∨ (48 ≤ (s[k].toNat:Int) ∧ 57 < (s[k].toNat:Int)):=by
         unfold digB at hdk
         rw [decide_eq_false_iff_not] at hdk
         omega
        clear hdk
        rcases hw with h | ⟨h,h'⟩
        all_goals
         go_wp2_with fail
         go_ret2
         exact numbered_no hfin.out HB.out
       ·have h1:48 ≤ (s[k].toNat:Int) ∧ (s[k].toNat:Int) ≤ 57:=by
         unfold digB at hdk
         rw [decide_eq_true_iff] at hdk
         omega
        obtain ⟨h1,h2⟩:=h1
        have hd':=Hd (show (s.data.toList.take (k + 1)).all digB = true by rw [HT.out,List.all_append,hd.out];simp [hdk])
        have hv2:=Hd (show valT (s.data.toList.take (k + 1)) = 10 * valT (s.data.toList.take k) + (s[k].toNat - 48) by rw [HT.out,valT_snoc])
        clear hdk
        have hx0:(0:Int) ≤ (valT (s.data.toList.take k):Int):=by omega
        have HV:=Hd (show (valT (s.data.toList.take (k + 1)):Int) = 10 * (valT (s.data.toList.take k):Int) + ((s[k].toNat:Int) - 48) by have:=hv2.out;omega)
        clear hv2
        generalize (valT (s.data.toList.take k):Int) = x at hv' hx0 HV ⊢
        generalize (s[k].toNat:Int) = c at hc h1 h2 HV
        go_wp2_with fail
        go_round
        case rel=>exact ⟨k + 1,by omega,by go_num,by rw [HV.out],hd'⟩
        case measure=>simp [intOf];omega
      ·obtain rfl:k = s.size:=by omega
       rw [← Hl.out,List.take_length] at hd hv' ⊢
       have hfin:=Hd (numT_end (l:=s.data.toList) (by intro e;rw [e] at Hl;exact h0 Hl.out.symm) (by rw [Hl.out];omega) HZ.out hd.out)
       obtain ⟨n,en⟩:∃ n,n = valT s.data.toList:=⟨_,rfl⟩
       rw [← en] at hfin hv' ⊢
       clear hd en
       go_wp2_with fail
       go_ret2
       exact numbered_end hfin.out HB.out
end Go.Proofs.YtbbaooeioogijaaGreatDoor
namespace Go.Proofs.YtbbaooeioogijaaGreatDoor
open Go.RowKit
theorem KeysAt.grown {w w':World} {b:Nat} (h:KeysAt w) (hg:w.grownBy w' (some b)) (hb:0 < b):KeysAt w':=fun j hj=>by
 have h1:=h j hj
 have hlt:=World.block_lt_of_cell? w _ h1
 unfold World.cell? at h1 ⊢
 rw [hg.block _ hlt (by simp;omega)];exact h1
def ReadP (w:World) (b:Nat) (s:ByteArray) (d dd:Nat) (r:Option (Ty × List UInt8)) (e:Ending) (w':World):Prop:=
 (match r with
   | some (t,q)=>e = .returned (.bool true) ∧ RdAt w' b s (s.size - q.length) (max dd (d + deepT t - 1))
   | none=>e = .returned (.bool false) ∧ ∃ k d',RdAt w' b s k d') ∧ w.grownBy w' (some b)
def ParsP (w:World) (b:Nat) (s:ByteArray) (d dd:Nat) (r:Option (List Ty × List UInt8)) (e:Ending) (w':World):Prop:=
 (match r with
   | some (ps,q)=>e = .returned (.bool true) ∧ RdAt w' b s (s.size - q.length) (max dd (d + deepL ps))
   | none=>e = .returned (.bool false) ∧ ∃ k d',RdAt w' b s k d') ∧ w.grownBy w' (some b)
def ReadC (n:Nat):Prop:=∀ (b k d dd:Nat) (s:ByteArray) (w:World),RdAt w b s k dd → k ≤ s.size → 2 * (s.size - k) < n → s.size ≤ 65536 → d + (s.size - k) ≤ 70000 → KeysAt w → 0 < b →
 Calls Tryz.prog 137 #[.pointer (some ⟨b,0,none⟩),.int .i64 d] w (ReadP w b s d dd (tyF n (sfx s k)))
theorem readP_no {w w':World} {b:Nat} {s:ByteArray} {d dd k d':Nat} {r:Option (Ty × List UInt8)} (hr:r = none) (h:RdAt w' b s k d') (hg:w.grownBy w' (some b)):ReadP w b s d dd r (.returned (.bool false)) w':=by subst hr;exact ⟨⟨rfl,_,_,h⟩,hg⟩
theorem readP_yes {w w':World} {b:Nat} {s:ByteArray} {d dd k d':Nat} {r:Option (Ty × List UInt8)} {t:Ty} {q:List UInt8} (hr:r = some (t,q)) (h:RdAt w' b s k d') (hk:k = s.size - q.length) (hd:d' = max dd (d + deepT t - 1)) (hg:w.grownBy w' (some b)):ReadP w b s d dd r (.returned (.bool true)) w':=by subst hr hk hd;exact ⟨⟨rfl,h⟩,hg⟩
theorem parsP_no {w w':World} {b:Nat} {s:ByteArray} {d dd k d':Nat} {r:Option (List Ty × List UInt8)} (hr:r = none) (h:RdAt w' b s k d') (hg:w.grownBy w' (some b)):ParsP w b s d dd r (.returned (.bool false)) w':=by subst hr;exact ⟨⟨rfl,_,_,h⟩,hg⟩
theorem parsP_yes {w w':World} {b:Nat} {s:ByteArray} {d dd k d':Nat} {r:Option (List Ty × List UInt8)} {ps:List Ty} {q:List UInt8} (hr:r = some (ps,q)) (h:RdAt w' b s k d') (hk:k = s.size - q.length) (hd:d' = max dd (d + deepL ps)) (hg:w.grownBy w' (some b)):ParsP w b s d dd r (.returned (.bool true)) w':=by subst hr hk hd;exact ⟨⟨rfl,h⟩,hg⟩
theorem rest_sfx {s:ByteArray} {k:Nat} {u q:List UInt8} (h:sfx s k = u ++ q) (hk:k ≤ s.size):sfx s (s.size - q.length) = q ∧ s.size - q.length = k + u.length ∧ k + u.length ≤ s.size ∧ q.length ≤ s.size - k:=by
 have hl:=congrArg List.length h
 rw [sfx_length,List.length_append] at hl
 have e:s.size - q.length = k + u.length:=by omega
 refine ⟨?_,e,by omega,by omega⟩
 rw [e,← sfx_drop,h,List.drop_left]
theorem sfx_head {s:ByteArray} {k:Nat} {c:UInt8} {l:List UInt8} (h:sfx s k = c :: l):∃ hk:k < s.size,s[k] = c ∧ sfx s (k + 1) = l:=by
 rcases Nat.lt_or_ge k s.size with hk | hk
 ·rw [sfx_cons s k hk] at h
  obtain ⟨h1,h2⟩:=List.cons.inj h
  exact ⟨hk,h1,h2⟩
 ·rw [sfx_nil s k hk] at h;cases h
theorem sfx_not {s:ByteArray} {k:Nat} {c:UInt8} (h:∀ l,sfx s k ≠ c :: l):∀ hk:k < s.size,s[k] ≠ c:=fun hk e=>h (sfx s (k + 1)) (by rw [sfx_cons s k hk,e])
def moreG (m:Nat) (t:Ty) (q:List UInt8):Option (List Ty × List UInt8):=match q with
 | 41 :: r=>some ([t],r)
 | 44 :: r=>(moreF m r).map fun x=>(t :: x.1,x.2)
 | _=>none
theorem more_some {m:Nat} {L q:List UInt8} {t:Ty} (h:tyF m L = some (t,q)):moreF (m + 1) L = moreG m t q:=by rw [moreF,h];rfl
theorem more_none {m:Nat} {L:List UInt8} (h:tyF m L = none):moreF (m + 1) L = none:=by rw [moreF,h];rfl
theorem moreG_no {m:Nat} {t:Ty} {q:List UInt8} (h1:¬ ∃ l,q = 41 :: l) (h2:¬ ∃ l,q = 44 :: l):moreG m t q = none:=by
 unfold moreG
 split
 ·exact absurd ⟨_,rfl⟩ h1
 ·exact absurd ⟨_,rfl⟩ h2
 ·rfl
def putL (done:List Ty) (x:List Ty × List UInt8):List Ty × List UInt8:=(done ++ x.1,x.2)
theorem put_nil (x:Option (List Ty × List UInt8)):x = x.map (putL []):=by cases x <;> rfl
theorem put_more (done:List Ty) (t:Ty) (x:Option (List Ty × List UInt8)):(x.map fun y=>(t :: y.1,y.2)).map (putL done) = x.map (putL (done ++ [t])):=by cases x <;> simp [putL]
theorem deepT_pos (t:Ty):1 ≤ deepT t:=by cases t <;> simp [deepT]
theorem deepL_snoc (l:List Ty) (t:Ty):deepL (l ++ [t]) = max (deepL l) (deepT t):=by
 induction l with
 | nil=>simp [deepL]
 | cons u l ih=>simp only [List.cons_append,deepL,ih];omega
theorem code_pos {t:Ty} (h:Right t):1 ≤ (code t).length:=by
 obtain ⟨c,l,e,_⟩:=code_head t h
 rw [e];simp
set_option maxHeartbeats 8000000 in
set_option maxRecDepth 100000 in
theorem params_ok (n:Nat) (ih:∀ m,m < n → ReadC m) (b k d dd:Nat) (s:ByteArray) (w:World) (h:RdAt w b s k dd) (hk:k ≤ s.size) (hn:2 * (s.size - k) + 2 < n) (hs:s.size ≤ 65536) (hd:d + 1 + (s.size - k) ≤ 70000) (hdd:d ≤ dd) (hK:KeysAt w) (hb:0 < b) :
 Calls Tryz.prog 151 #[.pointer (some ⟨b,0,none⟩),.int .i64 d] w (ParsP w b s d dd (parsF n (sfx s k))):=by
 obtain ⟨r,er⟩:∃ r,r = parsF n (sfx s k):=⟨_,rfl⟩
 rw [← er]
 have ER:=Hd er
 have H:=Hd h
 have HK:=Hd hK
 have IH:=Hd ih
 have hs':s.size ≤ 1048576:=by omega
 clear er h hK ih
 obtain ⟨n,rfl⟩:∃ m,n = m + 1:=⟨n - 1,by omega⟩
 by_cases hc:∃ l,sfx s k = 41 :: l
 ·obtain ⟨l,hl⟩:=hc
  obtain ⟨hlt,hb1,hr1⟩:=sfx_head hl
  have HT:=Hd (takeY 41 41 b k dd s w rfl H.out hlt hb1 hs')
  have hfin:=Hd (show r = some ([],l) by rw [ER.out,hl,parsF,if_pos rfl])
  have hlen:=Hd (show k + 1 = s.size - l.length by
   have:=congrArg List.length hl
   rw [sfx_length] at this
   simp only [List.length_cons] at this
   omega)
  clear hl hb1 hr1
  go_enter Tryz.func151,Tryz.ntmps151
  go_wp2_with (go_at_call 136;refine HT.out.mono ?_;rintro e w1 ⟨rfl,hT,hg⟩;have HT1:=Hd hT;have HG1:=Hd hg;clear hT hg)
  go_ret
  exact parsP_yes hfin.out HT1.out hlen.out (by simp [deepL];omega) HG1.out
 ·have HT:=Hd (takeN 41 41 b k dd s w rfl H.out (by decide) (sfx_not (fun l e=>hc ⟨l,e⟩)))
  have hM:=Hd (show r = moreF n (sfx s k) by
   rw [ER.out]
   rcases hx:sfx s k with _ | ⟨c,l⟩
   ·cases n with
    | zero=>rw [parsF,moreF]
    | succ n=>
      rw [parsF,moreF]
      cases n with
      | zero=>rw [tyF];rfl
      | succ n=>rw [tyF];rfl
   ·rw [parsF,if_neg (fun e=>hc ⟨l,by rw [hx,e]⟩)])
  clear hc
  go_enter Tryz.func151,Tryz.ntmps151
  go_wp2_with (go_at_call 136;(with_reducible refine HT.out.mono ?_);rintro e w1 ⟨rfl,nq,rfl⟩)
  go_loopg [9] (s.size - k) (fun g _ wr=>∃ (k' m:Nat) (done:List Ty),k' ≤ s.size ∧ k ≤ k' ∧ k' + g = s.size ∧ 2 * (s.size - k') + 1 < m ∧ m ≤ n ∧ RdAt wr b s k' (max dd (d + deepL done)) ∧ w.grownBy wr (some b) ∧ Hid (r = (moreF m (sfx s k')).map (putL done)))
  case atStart=>exact ⟨k,n,[],hk,Nat.le_refl _,by omega,by omega,Nat.le_refl _,by have:=H.out.drewN nq;rwa [show dd = max dd (d + deepL []) by simp [deepL];omega] at this,grown_drewN (grown_refl _ _) _,hM.out.trans (put_nil _)⟩
  case round=>
   obtain ⟨k',m,done,hk1,hk2,hkg,hm1,hm2,hR,hg,hr⟩:=hrel
   obtain ⟨m,rfl⟩:∃ m',m = m' + 1:=⟨m - 1,by omega⟩
   have HRd:=Hd (IH.out m (by omega) b k' (d + 1) _ s wr hR hk1 (by omega) hs (by omega) (HK.out.grown hg hb) hb)
   have HG:=Hd hg
   clear hR hg
   rcases hty:tyF m (sfx s k') with _ | ⟨t,q⟩
   ·rw [hty] at HRd
    have hfin:=Hd (show r = none by rw [hr.out,more_none hty];rfl)
    clear hty
    go_wp2_with (go_at_call 137;refine HRd.out.mono ?_;rintro e w2 ⟨⟨rfl,k2,d2,hT⟩,hg2⟩;have HT2:=Hd hT;have HG2:=Hd hg2;clear hT hg2)
    go_ret
    exact parsP_no hfin.out HT2.out (grown_trans HG.out HG2.out)
   ·rw [hty] at HRd
    obtain ⟨hcode,hrt⟩:=(tyF_code m).1 _ _ _ hty
    obtain ⟨hq,hpos,hle,hql⟩:=rest_sfx hcode hk1
    have hcp:=code_pos hrt
    have HQ:=Hd (show r = (moreG m t q).map (putL done) by rw [hr.out,more_some hty])
    clear hty hcode hrt hr
    go_wp2_with (go_at_call 137;refine HRd.out.mono ?_)
    rintro e w2 ⟨⟨rfl,hT⟩,hg2⟩
    rw [show max (max dd (d + deepL done)) (d + 1 + deepT t - 1) = max dd (d + deepL (done ++ [t])) by rw [deepL_snoc];omega] at hT
    obtain ⟨k2,ek⟩:∃ k2,k2 = s.size - q.length:=⟨_,rfl⟩
    rw [← ek] at hT hq hpos
    have HT2:=Hd hT
    have HG2:=Hd (grown_trans HG.out hg2)
    have hk2:k' + 1 ≤ k2:=by omega
    have hk3:k2 ≤ s.size:=by omega
    clear hT hg2 hpos
    by_cases h41:∃ l,q = 41 :: l
    ·obtain ⟨l,rfl⟩:=h41
     obtain ⟨hlt,hb1,hr1⟩:=sfx_head hq
     have HT3:=Hd (takeY 41 41 b k2 _ s w2 rfl HT2.out hlt hb1 hs')
     have hfin:=Hd (show r = some (done ++ [t],l) from HQ.out)
     have hle2:=Hd (show k2 + 1 = s.size - l.length by simp only [List.length_cons] at hql ek;omega)
     clear hq hb1 hr1 ek hql
     go_wp2_with (go_at_call 136;refine HT3.out.mono ?_;rintro e w3 ⟨rfl,hT,hg⟩;have HT4:=Hd hT;have HG4:=Hd hg;clear hT hg)
     go_ret
     exact parsP_yes hfin.out HT4.out hle2.out rfl (grown_trans HG2.out HG4.out)
    ·have HN:=Hd (takeN 41 41 b k2 _ s w2 rfl HT2.out (by decide) (sfx_not (fun l e=>h41 ⟨l,by rw [← hq,e]⟩)))
     by_cases h44:∃ l,q = 44 :: l
     ·obtain ⟨l,rfl⟩:=h44
      obtain ⟨hlt,hb1,hr1⟩:=sfx_head hq
      have hfin:=Hd (show r = (moreF m (sfx s (k2 + 1))).map (putL (done ++ [t])) by rw [HQ.out,hr1];exact put_more done t _)
      have hlt2:=Hd hlt
      have hb2:=Hd hb1
      clear hq hb1 hr1 h41 ek hql
      go_wp2_with (go_at_call 136;(with_reducible refine HN.out.mono ?_);rintro e w3 ⟨rfl,nq,rfl⟩)
      refine (takeY 44 44 b k2 _ s _ rfl (HT2.out.drewN nq) hlt2.out hb2.out hs').mono ?_
      rintro e w4 ⟨rfl,hT,hg⟩
      have HT4:=Hd hT
      have HG4:=Hd (grown_trans (grown_drewN HG2.out nq) hg)
      clear hT hg
      go_wp2_with fail
      go_roundg (s.size - (k2 + 1))
      case measure=>omega
      case rel=>exact ⟨k2 + 1,m,done ++ [t],by omega,by omega,by omega,by omega,by omega,HT4.out,HG4.out,hfin⟩
     ·have hfin:=Hd (show r = none by rw [HQ.out,moreG_no h41 h44];rfl)
      have HN2:=Hd (fun nq=>takeN 44 44 b k2 _ s (w2.drewN nq) rfl (HT2.out.drewN nq) (by decide) (sfx_not (fun l e=>h44 ⟨l,by rw [← hq,e]⟩)))
      clear hq h41 h44 ek hql
      go_wp2_with (go_at_call 136;(with_reducible refine HN.out.mono ?_);rintro e w3 ⟨rfl,nq,rfl⟩)
      refine (HN2.out nq).mono ?_
      rintro e w4 ⟨rfl,nq2,rfl⟩
      go_wp2_with fail
      go_ret
      exact parsP_no hfin.out (by first | exact (HT2.out.drewN _).drewN _ | exact HT2.out.drewN _) (by first | exact grown_drewN (grown_drewN HG2.out _) _ | exact grown_drewN HG2.out _)
end Go.Proofs.YtbbaooeioogijaaGreatDoor
namespace Go.Proofs.YtbbaooeioogijaaGreatDoor
open Go.RowKit
theorem str_eqb {a b:ByteArray}:(a.toList == b.toList) = decide (a = b):=by
 rw [Bool.eq_iff_iff,beq_iff_eq,decide_eq_true_iff,Lib.toList_data,Lib.toList_data]
 exact ⟨toList_eq,fun h=>by rw [h]⟩
set_option maxHeartbeats 400000 in
theorem baseIn_ok (b c:Nat) (zs:List ByteArray) (s:ByteArray) (w:World) (hn:zs.length ≤ 1048576) (hc:∀ j,j < zs.length → w.cell? ⟨b,j,none⟩ = some (.string (zs.getD j ByteArray.empty))) :
 Calls Tryz.prog 23 #[.slice (some ⟨b,0,none⟩) zs.length c,.string s] w fun e w'=>e = .returned (.bool (Lib.containsS zs s)) ∧ w = w':=by
 have HC:=Hd hc
 clear hc
 go_enter Tryz.func23,Tryz.ntmps23
 go_wp2
 go_loop [5] (fun i=>∃ k:Nat,k ≤ zs.length ∧ i = .int .i64 k ∧ Hid (∀ j,j < k → zs.getD j ByteArray.empty ≠ s)) (fun i=>zs.length - (intOf i).toNat)
 case atStart=>exact ⟨0,Nat.zero_le _,rfl,fun j hj=>by omega⟩
 case round=>
  obtain ⟨k,hk,rfl,hno⟩:=hrel
  by_cases hlt:k < zs.length
  ·have hcell:=HC.out k hlt
   obtain ⟨z,ez⟩:∃ z,z = zs.getD k ByteArray.empty:=⟨_,rfl⟩
   rw [← ez] at hcell
   have EZ:=Hd ez
   clear ez
   by_cases hz:z = s
   ·subst hz
    have hfin:=Hd (show Lib.containsS zs z = true by
     rw [Lib.containsS_iff,EZ.out,getD_lt _ _ hlt];exact List.getElem_mem hlt)
    go_wp2
    go_ret
    exact ⟨by rw [hfin.out];rfl,rfl⟩
   ·have hb:(z.toList == s.toList) = false:=by rw [str_eqb];simpa using hz
    have hz':=Hd hz
    clear hz
    go_wp2
    go_round
    case rel=>exact ⟨k + 1,by omega,by go_num,fun j hj=>by
     rcases Nat.lt_or_ge j k with h | h
     ·exact hno.out j h
     ·obtain rfl:j = k:=by omega
      rw [← EZ.out];exact hz'.out⟩
    case measure=>simp [intOf];omega
  ·obtain rfl:k = zs.length:=by omega
   have hfin:=Hd (show Lib.containsS zs s = false by
    rw [Bool.eq_false_iff];intro h
    rw [Lib.containsS_iff] at h
    obtain ⟨j,hj,e⟩:=List.getElem_of_mem h
    exact hno.out j hj (by rw [getD_lt _ _ hj,e]))
   go_wp2
   go_ret
   exact ⟨by rw [hfin.out];rfl,rfl⟩
theorem baseLetter_ok (c:UInt8) (w:World) :
 Calls Tryz.prog 121 #[.int .u8 (c.toNat:Int)] w fun e w'=>e = .returned (.bool (letB c)) ∧ w' = w:=by
 go_enter Tryz.func121,Tryz.ntmps121
 go_wp2
 all_goals go_ret
 all_goals refine ⟨letB_mk ?_,rfl⟩
 all_goals (simp;omega)
theorem baseLetter_is (r:Bool) (c:UInt8) (w:World) (h:letB c = r):Calls Tryz.prog 121 #[.int .u8 (c.toNat:Int)] w fun e w'=>e = .returned (.bool r) ∧ w' = w:=by
 subst h;exact baseLetter_ok c w
set_option maxRecDepth 100000 in
set_option maxHeartbeats 400000 in
theorem baseKey_ok (s:ByteArray) (w:World) :
 Calls Tryz.prog 90 #[.string s] w fun e w'=>e = .returned (.bool (isKeyB s)) ∧ Below w.heap.size w w':=by
 have hc:∀ j,j < keyT.length → (w.alloc (.cells (keyT.map Value.string).toArray 9)).cell? ⟨w.heap.size,j,none⟩ = some (.string (keyT.getD j ByteArray.empty)):=fun j hj=>by
  rw [World.cell?_alloc_at _ _ _ _ rfl]
  simp only [List.getElem?_toArray,List.getElem?_map,List.getElem?_eq_getElem hj,getD_lt _ _ hj,Option.map_some]
 have HC:=Hd hc
 clear hc
 go_enter Tryz.func90,Tryz.ntmps90
 go_wp2_with (go_at_call 23;refine (baseIn_ok w.heap.size keyT.length keyT s _ (by decide) HC.out).mono ?_;rintro e w' ⟨rfl,rfl⟩)
 go_ret
 exact ⟨rfl,(Below.refl _ _).alloc (Nat.le_refl _) _⟩
def isWordB (s:ByteArray):Bool:=decide (0 < s.size) && ((s.data.toList.head?.any letB) && decide (wlen s.data.toList = s.size))
theorem wlen_more (l:List UInt8) (k:Nat) (hk:k < l.length) (h:k ≤ wlen l) (hb:wordB l[k] = true):k + 1 ≤ wlen l:=by
 rcases Nat.lt_or_ge k (wlen l) with h' | h'
 ·omega
 ·obtain rfl:k = wlen l:=by omega
  obtain ⟨c,hc,hw⟩:=wlen_at hk
  rw [List.getElem?_eq_getElem hk] at hc
  simp only [Option.some.injEq] at hc
  rw [hc,hw] at hb;cases hb
theorem wlen_none (l:List UInt8) (k:Nat) (hk:k < l.length) (h:wordB l[k] = false):wlen l ≤ k:=by
 rcases Nat.lt_or_ge k (wlen l) with h' | h'
 ·obtain ⟨c,hc,hw⟩:=wlen_lt h'
  rw [List.getElem?_eq_getElem hk] at hc
  simp only [Option.some.injEq] at hc
  rw [hc] at h;rw [h] at hw;cases hw
 ·exact h'
set_option maxHeartbeats 1000000 in
theorem baseWord_ok (s:ByteArray) (w:World) (hs:s.size ≤ 1048576) :
 Calls Tryz.prog 89 #[.string s] w fun e w'=>e = .returned (.bool (isWordB s)) ∧ w = w':=by
 have hl:s.data.toList.length = s.size:=by rw [Array.length_toList];rfl
 have Hl:=Hd hl
 clear hl
 by_cases h0:0 < s.size
 ·have t1:s.toList.isEmpty = false:=by
   rw [Lib.toList_data,List.isEmpty_eq_false_iff];intro e;have:s.data.toList.length = 0:=by rw [e];rfl
   have:=Hl.out;omega
  rcases hL:letB s[0] with _ | _
  ·have hfin:=Hd (show isWordB s = false by simp [isWordB,head_at s h0,hL])
   have HL:=Hd hL
   clear hL
   go_enter Tryz.func89,Tryz.ntmps89
   go_wp2_with (go_at_call 121;refine (baseLetter_is false _ _ HL.out).mono ?_;rintro e w' ⟨rfl,rfl⟩)
   go_ret
   exact ⟨by rw [hfin.out];rfl,rfl⟩
  ·have HL:=Hd hL
   clear hL
   go_enter Tryz.func89,Tryz.ntmps89
   go_wp2_with (go_at_call 121;refine (baseLetter_is true _ _ HL.out).mono ?_;rintro e w' ⟨rfl,rfl⟩)
   go_loop [3] (fun i=>∃ k:Nat,k ≤ s.size ∧ i = .int .i64 k ∧ Hid (k ≤ wlen s.data.toList)) (fun i=>s.size - (intOf i).toNat)
   case atStart=>exact ⟨0,Nat.zero_le _,rfl,Nat.zero_le _⟩
   case round=>
    obtain ⟨k,hk,rfl,hno⟩:=hrel
    by_cases hlt:k < s.size
    ·rcases hW:wordB s[k] with _ | _
     ·have hfin:=Hd (show isWordB s = false by
       have:=wlen_none s.data.toList k (by rw [Hl.out];exact hlt) hW
       simp [isWordB];intros;omega)
      have HL1:=Hd (show letB s[k] = false by simp [wordB] at hW;exact hW.1)
      have HD1:=Hd (show digB s[k] = false by simp [wordB] at hW;exact hW.2)
      clear hW
      go_wp2_with (go_at_call 121;refine (baseLetter_is false _ _ HL1.out).mono ?_;rintro e w' ⟨rfl,rfl⟩)
      all_goals first
       | (go_ret;exact ⟨by rw [hfin.out];rfl,rfl⟩)
       | (exfalso;have:=HD1.out;simp [digB] at this;omega)
     ·have HN:=Hd (wlen_more s.data.toList k (by rw [Hl.out];exact hlt) hno.out hW)
      rcases hL:letB s[k] with _ | _
      ·have HL1:=Hd hL
       have HD1:=Hd (show digB s[k] = true by simpa [wordB,hL] using hW)
       clear hW hL
       go_wp2_with (go_at_call 121;refine (baseLetter_is false _ _ HL1.out).mono ?_;rintro e w' ⟨rfl,rfl⟩)
       all_goals first
        | (exfalso;have:=HD1.out;simp [digB] at this;omega)
        | (go_round
           case rel=>exact ⟨k + 1,by omega,by go_num,HN.out⟩
           case measure=>simp [intOf];omega)
      ·have HL1:=Hd hL
       clear hW hL
       go_wp2_with (go_at_call 121;refine (baseLetter_is true _ _ HL1.out).mono ?_;rintro e w' ⟨rfl,rfl⟩)
       go_round
       case rel=>exact ⟨k + 1,by omega,by go_num,HN.out⟩
       case measure=>simp [intOf];omega
    ·obtain rfl:k = s.size:=by omega
     have hfin:=Hd (show isWordB s = true by
      have:=hno.out
      have h2:=wlen_le s.data.toList
      have h3:=Hl.out
      simp [isWordB,head_at s h0,HL.out,h0];omega)
     go_wp2
     go_ret
     exact ⟨by rw [hfin.out];rfl,rfl⟩
 ·have hfin:=Hd (show isWordB s = false by simp [isWordB,h0])
  have t1:s.toList.isEmpty = true:=by
   rw [Lib.toList_data,List.isEmpty_iff]
   apply List.eq_nil_of_length_eq_zero
   have:=Hl.out;omega
  go_enter Tryz.func89,Tryz.ntmps89
  go_wp2_with fail
  all_goals go_ret
  all_goals exact ⟨by rw [hfin.out];rfl,rfl⟩
theorem isName_of (s:ByteArray):isNameB s = (decide (s.size ≤ 31) && (isWordB s && !isKeyB s)):=by
 unfold isNameB isWordB
 cases decide (0 < s.size) <;> cases decide (s.size ≤ 31) <;> cases (s.data.toList.head?.any letB) <;> cases decide (wlen s.data.toList = s.size) <;> rfl
theorem baseName_ok (s:ByteArray) (w:World) (hs:s.size ≤ 1048576) :
 Calls Tryz.prog 58 #[.string s] w fun e w'=>e = .returned (.bool (isNameB s)) ∧ Below w.heap.size w w':=by
 by_cases h31:s.size ≤ 31
 ·rcases hW:isWordB s with _ | _
  ·have hfin:=Hd (show isNameB s = false by rw [isName_of,hW];simp)
   have HW:=Hd hW
   clear hW
   go_enter Tryz.func58,Tryz.ntmps58
   go_wp2_with (go_at_call 89;refine (baseWord_ok s _ hs).mono ?_;rintro e w' ⟨rfl,rfl⟩;rw [HW.out])
   go_ret
   exact ⟨by rw [hfin.out];rfl,Below.refl _ _⟩
  ·have hfin:=Hd (show isNameB s = !isKeyB s by rw [isName_of,hW];simp [h31])
   have HW:=Hd hW
   clear hW
   go_enter Tryz.func58,Tryz.ntmps58
   go_wp2_with (go_at_call 89;refine (baseWord_ok s _ hs).mono ?_;rintro e w' ⟨rfl,rfl⟩;rw [HW.out])
   refine (baseKey_ok s _).mono ?_
   rintro e w' ⟨rfl,hb⟩
   go_wp2
   go_ret
   exact ⟨by rw [hfin.out];rfl,hb⟩
 ·have hfin:=Hd (show isNameB s = false by rw [isName_of];simp [h31])
  have t1:decide ((s.size:Int) ≤ 31) = false:=by simp;omega
  go_enter Tryz.func58,Tryz.ntmps58
  go_wp2_with fail
  all_goals go_ret
  all_goals exact ⟨by rw [hfin.out];rfl,Below.refl _ _⟩
end Go.Proofs.YtbbaooeioogijaaGreatDoor
namespace Go.Proofs.YtbbaooeioogijaaGreatDoor
open Go.RowKit
theorem lexIsName_any (s:ByteArray) (w:World) (hK:KeysAt w) :
 Calls Tryz.prog 80 #[.string s] w fun e w'=>e = .returned (.bool (isNameB s)) ∧ Below w.heap.size w w':=by
 by_cases h31:s.size ≤ 31
 ·exact lexIsName_ok s w hK (by omega)
 ·have hfin:=Hd (show isNameB s = false by simp [isNameB,h31])
  have t1:decide ((s.size:Int) ≤ 31) = false:=by simp;omega
  clear hK
  go_enter Tryz.func80,Tryz.ntmps80
  go_wp2_with fail
  all_goals go_ret
  all_goals exact ⟨by rw [hfin.out];rfl,(Below.refl _ _).alloc (Nat.le_refl _) _⟩
theorem baseName_any (s:ByteArray) (w:World) :
 Calls Tryz.prog 58 #[.string s] w fun e w'=>e = .returned (.bool (isNameB s)) ∧ Below w.heap.size w w':=by
 by_cases h31:s.size ≤ 31
 ·exact baseName_ok s w (by omega)
 ·have hfin:=Hd (show isNameB s = false by rw [isName_of];simp [h31])
  have t1:decide ((s.size:Int) ≤ 31) = false:=by simp;omega
  go_enter Tryz.func58,Tryz.ntmps58
  go_wp2_with fail
  all_goals go_ret
  all_goals exact ⟨by rw [hfin.out];rfl,Below.refl _ _⟩
end Go.Proofs.YtbbaooeioogijaaGreatDoor
