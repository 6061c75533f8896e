/- A region that draws its order and begins with a call that wr -/
import Derived.RegionTactic
import Derived.Test.YtkokdafkjjcgoaaGreatDoorRead2
namespace Go
open Go.RowKit
theorem wpAny_rest {P:Program} {md:Region.Mode} {ops:Array Oper} {Q:Exit → Act → World → Prop} {fuel:Nat} {listed:Array Bool} {a:Act} {w:World} (k:Nat) (l:List Oper) (hl:ops.toList.drop k = l) (hn:l.length = fuel)
 (hns:Region.noSelect ops = true) (hB:Region.lexFrom md ops l.length k listed = true)
 (h:wpQuiet P ops (fun w'=>∃ n,w' = w.drewN n) (fun a'=>∀ w',(∃ n,w' = w.drewN n) → Q .normal a' w') l a):wpAny P md ops Q fuel listed a w:=by
 subst hn
 refine wpAny_of_quiet (C:=fun w'=>∃ n,w' = w.drewN n) (Q:=fun a'=>∀ w',(∃ n,w' = w.drewN n) → Q .normal a' w') (fun _ w' hw' h=>h w' hw') _ _ _ _ ⟨0,rfl⟩ ?_
 refine wpAnyQ_lex hns l k listed a (fun j=>?_) hB h
 rw [← hl,List.getElem?_drop,Array.getElem?_toList]
end Go
namespace Go.Proofs.YtkokdafkjjcgoaaGreatDoor
open Go.RowKit
def depthS (s:ByteArray):Nat:=match tyS s with
 | some t=>deepT t
 | none=>0
theorem tyS_in {s:ByteArray} (hs:s.size ≤ 65536):tyS s = (tyF (2 * s.size + 1) (sfx s 0)).bind fun q=>if q.2 = [] then some q.1 else none:=by
 unfold tyS
 rw [if_pos hs,tyE]
 have:s.data.toList.length = s.size:=by rw [Array.length_toList];rfl
 rw [this]
 simp [sfx]
theorem blw_grown {w w1 w4:World} {b:Nat} (h:Below w.heap.size w w1) (hg:w1.drew.grownBy w4 (some b)) (hb:w.heap.size ≤ b:=by exact Nat.le_refl _):Below w.heap.size w w4:=
 h.trans (below_grown (grown_trans (grown_drewN (grown_refl w1 _) 1) hg) hb h.size)
set_option maxHeartbeats 2000000 in
theorem depth_long (s:ByteArray) (w:World) (hs:65536 < s.size):Calls Tryz.prog 180 #[.string s] w fun e w'=>e = .returned (.int .i64 0) ∧ Below w.heap.size w w':=by
 have t1:(65536:Int) < s.size:=by omega
 go_enter Tryz.func180,Tryz.ntmps180
 go_wp2_with fail
 go_ret
 exact ⟨rfl,Below.refl _ _⟩
set_option maxHeartbeats 4000000 in
set_option maxRecDepth 100000 in
theorem depth_in (s:ByteArray) (w:World) (hs:s.size ≤ 65536) (hK:KeysAt w) (hb:1 < w.heap.size):Calls Tryz.prog 180 #[.string s] w fun e w'=>e = .returned (.int .i64 (depthS s)) ∧ Below w.heap.size w w':=by
 have t1:(s.size:Int) ≤ 65536:=by omega
 have HT:=Hd (tyS_in hs)
 have HK:=Hd hK
 clear hK
 go_enter Tryz.func180,Tryz.ntmps180
 go_upto_region 4 with fail
 generalize hw1:World.alloc _ _ = w1
 have H1:=Hd (show RdAt w1 w.heap.size s 0 0 by rw [← hw1];exact ⟨heap_alloc_new w _⟩)
 have HB1:=Hd (show Below w.heap.size w w1 by rw [← hw1];exact (Below.refl _ _).alloc (Nat.le_refl _) _)
 clear hw1
 have HRd:=Hd (show Calls Tryz.prog 184 #[.pointer (some ⟨w.heap.size,0,none⟩),.int .i64 1] w1.drew (ReadP w1.drew w.heap.size s 1 0 (tyF (2 * s.size + 1) (sfx s 0))) from
  read_all (2 * s.size + 1) w.heap.size 0 1 0 s w1.drew (H1.out.drewN 1) (Nat.zero_le _) (by omega) hs (by omega) ((HK.out.below HB1.out).drewN 1) hb)
 rcases hty:tyF (2 * s.size + 1) (sfx s 0) with _ | ⟨t,q⟩
 ·rw [hty] at HRd
  have hfin:=Hd (show depthS s = 0 by unfold depthS;rw [HT.out,hty];rfl)
  clear hty
  ·skip
   refine wp_region_any (by kernel_rfl) ?_
   change wpAny _ _ _ _ _ _ _ (World.drew _)
   refine wpAny_ready (rs:=[0]) (by kernel_rfl) (by simp) ?_
   refine AllReady.cons rfl (fun K hK=>?_) AllReady.nil
   go_simp
   refine hK _ _ ?_
   clear hK K
   refine wpAny_ready (rs:=[1]) (by kernel_rfl) (by simp) ?_
   refine AllReady.cons rfl (fun K hK=>?_) AllReady.nil
   go_simp
   (with_reducible refine HRd.out.mono ?_)
   rintro e w4 ⟨⟨rfl,k2,d2,hT⟩,hg⟩
   show K _ _
   refine hK _ _ ?_
   clear hK K
   have HBx:=Hd (blw_grown HB1.out hg)
   clear hT hg
   refine wpAny_rest 2 _ (by simp only [List.drop_succ_cons,List.drop_zero]) rfl (by kernel_rfl) (by kernel_rfl) ?_
   repeat (go_big_quiet_step (fail))
   refine wpQuiet_nil ?_
   intro _ hw'
   obtain ⟨nq,rfl⟩:=hw'
   go_wp2_with fail
   go_ret
   exact ⟨by rw [hfin.out];rfl,blw_drewN HBx.out _⟩
 ·rw [hty] at HRd
  obtain ⟨hcode,hrt⟩:=(tyF_code _).1 _ _ _ hty
  obtain ⟨hq,hpos,hle,hql⟩:=rest_sfx hcode (Nat.zero_le _)
  have hdp:=deepT_pos t
  by_cases hq0:q = []
  ·subst hq0
   have hfin:=Hd (show depthS s = deepT t by unfold depthS;rw [HT.out,hty];rfl)
   clear hty hcode hrt hq hpos hle hql
   refine wp_region_any (by kernel_rfl) ?_
   change wpAny _ _ _ _ _ _ _ (World.drew _)
   refine wpAny_ready (rs:=[0]) (by kernel_rfl) (by simp) ?_
   refine AllReady.cons rfl (fun K hK=>?_) AllReady.nil
   go_simp
   refine hK _ _ ?_
   clear hK K
   refine wpAny_ready (rs:=[1]) (by kernel_rfl) (by simp) ?_
   refine AllReady.cons rfl (fun K hK=>?_) AllReady.nil
   go_simp
   (with_reducible refine HRd.out.mono ?_)
   rintro e w4 ⟨⟨rfl,hT⟩,hg⟩
   show K _ _
   refine hK _ _ ?_
   clear hK K
   rw [show s.size - ([]:List UInt8).length = s.size by simp,show max 0 (1 + deepT t - 1) = deepT t by omega] at hT
   obtain ⟨⟨c0,c1,c2⟩,_⟩:=hT.cells
   have HBx:=Hd (blw_grown HB1.out hg)
   clear hT hg
   refine wpAny_rest 2 _ (by simp only [List.drop_succ_cons,List.drop_zero]) rfl (by kernel_rfl) (by kernel_rfl) ?_
   repeat (go_big_quiet_step (fail))
   refine wpQuiet_nil ?_
   intro _ hw'
   obtain ⟨nq,rfl⟩:=hw'
   go_wp2_with fail
   go_ret
   exact ⟨by rw [hfin.out];rfl,blw_drewN HBx.out _⟩
  ·have hfin:=Hd (show depthS s = 0 by unfold depthS;rw [HT.out,hty];simp [hq0])
   obtain ⟨k3,ek⟩:∃ k3,k3 = s.size - q.length:=⟨_,rfl⟩
   have hk3:((k3:Int) != s.size) = true:=by
    have:1 ≤ q.length:=List.length_pos_iff.2 hq0
    simp;omega
   have EK:=Hd ek
   clear hty hcode hrt hq hpos hle hql hq0 ek
   refine wp_region_any (by kernel_rfl) ?_
   change wpAny _ _ _ _ _ _ _ (World.drew _)
   refine wpAny_ready (rs:=[0]) (by kernel_rfl) (by simp) ?_
   refine AllReady.cons rfl (fun K hK=>?_) AllReady.nil
   go_simp
   refine hK _ _ ?_
   clear hK K
   refine wpAny_ready (rs:=[1]) (by kernel_rfl) (by simp) ?_
   refine AllReady.cons rfl (fun K hK=>?_) AllReady.nil
   go_simp
   (with_reducible refine HRd.out.mono ?_)
   rintro e w4 ⟨⟨rfl,hT⟩,hg⟩
   show K _ _
   refine hK _ _ ?_
   clear hK K
   rw [← EK.out] at hT
   obtain ⟨⟨c0,c1,c2⟩,_⟩:=hT.cells
   have HBx:=Hd (blw_grown HB1.out hg)
   clear hT hg
   refine wpAny_rest 2 _ (by simp only [List.drop_succ_cons,List.drop_zero]) rfl (by kernel_rfl) (by kernel_rfl) ?_
   repeat (go_big_quiet_step (fail))
   refine wpQuiet_nil ?_
   intro _ hw'
   obtain ⟨nq,rfl⟩:=hw'
   go_wp2_with fail
   go_ret
   exact ⟨by rw [hfin.out];rfl,blw_drewN HBx.out _⟩
theorem depth_ok (s:ByteArray) (w:World) (hK:KeysAt w) (hb:1 < w.heap.size):Calls Tryz.prog 180 #[.string s] w fun e w'=>e = .returned (.int .i64 (depthS s)) ∧ Below w.heap.size w w':=by
 by_cases hs:s.size ≤ 65536
 ·exact depth_in s w hs hK hb
 ·have:depthS s = 0:=by unfold depthS tyS;rw [if_neg hs]
  rw [this]
  exact depth_long s w (by omega)
theorem depthS_pos (s:ByteArray):decide ((0:Int) < depthS s) = (tyS s).isSome:=by
 unfold depthS
 cases h:tyS s with
 | none=>simp
 | some t=>have:=deepT_pos t;simp;omega
theorem form_ok (s:ByteArray) (w:World) (hK:KeysAt w) (hb:1 < w.heap.size):Calls Tryz.prog 149 #[.string s] w fun e w'=>e = .returned (.bool (tyS s).isSome) ∧ Below w.heap.size w w':=by
 have HF:=Hd (depthS_pos s)
 have HD:=Hd (depth_ok s w hK hb)
 clear hK
 go_enter Tryz.func149,Tryz.ntmps149
 go_wp2_with (go_at_call 180;refine HD.out.mono ?_)
 rintro e w1 ⟨rfl,hb1⟩
 have HB:=Hd hb1
 clear hb1
 generalize (depthS s:Int) = x at HF ⊢
 go_wp2_with fail
 go_ret
 exact ⟨by rw [← HF.out];rfl,HB.out⟩
def tyB (t:Ty):ByteArray:=⟨(code t).toArray⟩
theorem tyB_list (t:Ty):(tyB t).data.toList = code t:=by simp [tyB]
theorem tyB_eq {x:ByteArray} {t:Ty} (h:x.data.toList = code t):x = tyB t:=toList_eq (by rw [h,tyB_list])
theorem tyB_size (t:Ty):(tyB t).size = (code t).length:=by simp [tyB,ByteArray.size]
theorem tyB_sfx (t:Ty) (k:Nat):sfx (tyB t) k = (code t).drop k:=by rw [sfx,tyB_list]
theorem tyB_get {t:Ty} {c:UInt8} {l:List UInt8} (h:code t = c :: l):∃ hk:0 < (tyB t).size,(tyB t)[0] = c:=by
 have h1:sfx (tyB t) 0 = c :: l:=by rw [tyB_sfx,h];rfl
 obtain ⟨hk,h2,_⟩:=sfx_head h1
 exact ⟨hk,h2⟩
theorem tyB_ext {t u:Ty} {k:Nat} (h:(code t).drop k = code u):(tyB t).extract k (tyB t).size = tyB u:=tyB_eq (by rw [sfx_extract,tyB_sfx,h])
def SplitP (t:Ty) (w:World) (e:Ending) (w':World):Prop:=
 (match t with
   | .ptr u=>e = .returned (.tuple #[.string (tyB u),.int .i64 0,.slice none 0 0])
   | .arr n u=>e = .returned (.tuple #[.string (tyB u),.int .i64 n,.slice none 0 0])
   | .fn ps r=>∃ v,e = .returned (.tuple #[.string (tyB r),.int .i64 0,v]) ∧ w'.ownsRow w.heap.size 34 1 v ps.length (ps.map fun p=>.string (tyB p))
   | _=>True) ∧ Below w.heap.size w w'
theorem cut_one {c:UInt8} {l u r:List UInt8} (h:cutAt c l = some (u,r)):Lib.cut l [c] = (u,r,true):=by
 obtain ⟨rfl,h2⟩:=cutAt_some h
 have hi:Lib.index (u ++ c :: r) [c] = (u.length:Nat):=Lib.index_first (by simp) (by simp [Lib.occAt]) (fun k hk=>by
  unfold Lib.occAt
  rw [Bool.eq_false_iff]
  intro e
  rw [List.isPrefixOf_iff_prefix] at e
  obtain ⟨x,hx⟩:=e
  have hk2:(u ++ c :: r)[k]? = some c:=by
   have:=congrArg (fun l=>l[0]?) hx
   simp only [List.getElem?_drop] at this
   simpa using this.symm
  rw [List.getElem?_append_left hk] at hk2
  exact h2 (List.mem_of_getElem? hk2))
 unfold Lib.cut
 rw [hi,if_pos (by omega)]
 simp
theorem split_arr (n:Nat) (u:Ty) (w:World) (hr:Right (.arr n u)) (hM:MaxLenAt w) (hs:(code (.arr n u)).length ≤ 65536):Calls Tryz.prog 150 #[.string (tyB (.arr n u))] w (SplitP (.arr n u) w):=by
 obtain ⟨h0,hc⟩:=tyB_get (t:=.arr n u) (c:=97) (l:=Lib.decDigits n ++ 58 :: code u) rfl
 have hno:(58:UInt8) ∉ Lib.decDigits n:=fun hm=>by
  have:=List.all_eq_true.1 (dec_digits n).1 _ hm
  exact absurd this (by decide)
 have hcut:=cut_one (cutAt_mk (r:=code u) hno)
 rw [← show ((tyB (.arr n u)).extract 1 (tyB (.arr n u)).size).data.toList = Lib.decDigits n ++ 58 :: code u by rw [sfx_extract,tyB_sfx];rfl] at hcut
 have t1:(((tyB (.arr n u))[0].toNat:Int) == 112) = false:=by rw [hc];rfl
 have t2:(((tyB (.arr n u))[0].toNat:Int) == 97) = true:=by rw [hc];rfl
 have hsz:(tyB (.arr n u)).size ≤ 65536:=by rw [tyB_size];exact hs
 obtain ⟨m,hm⟩:=hM
 generalize tyB (.arr n u) = s at *
 have HCut:=Hd (Tryz.strings_Cut (s.extract 1 s.size) ⟨#[58]⟩ m w (by rw [ByteArray.size_extract];omega) hm)
 rw [show (⟨#[58]⟩:ByteArray).data.toList = [58] from rfl,hcut] at HCut
 have HN:=Hd (fun w=>number_is (some n) ⟨(Lib.decDigits n).toArray⟩ w (by simpa using numT_mk hr.1))
 have h1:(1:Int) ≤ s.size:=by omega
 clear hc hcut hno hm hr hs
 go_enter Tryz.func150,Tryz.ntmps150
 go_wp2_with (go_at_call 181;(with_reducible refine HCut.out.mono ?_);rintro e w1 ⟨rfl,nq,rfl⟩)
 go_wp2_with (go_at_call 182;(with_reducible refine (HN.out _).mono ?_))
 rintro e w2 ⟨rfl,hb2⟩
 have HB:=Hd ((blw_drewN (Below.refl w.heap.size w) nq).trans hb2)
 clear hb2
 go_wp2_with fail
 go_ret3
 exact ⟨rfl,HB.out⟩
theorem infoT:(Tryz.prog.info? 34).map (fun i=>(i.zero,i.size,i.bytes)) = some (some (.string ⟨#[]⟩),1,16):=by kernel_rfl
theorem own_apartT {w w':World} {B n b:Nat} {T:TypeId} {sz:Nat} {v:Value} {xs:List Value} (h:w.ownsRow B T sz v n xs) (hg:w.grownBy w' (some b)) (hb:b < B):w'.ownsRow B T sz v n xs:=
 h.kept hg (.inr fun e=>by have:=(h.lt _ e).1;omega)
theorem own_leT {w:World} {base base':Nat} {e:TypeId} {size:Nat} {v:Value} {n:Nat} {xs:List Value} (h:w.ownsRow base e size v n xs) (hb:base' ≤ base):w.ownsRow base' e size v n xs:=
 ⟨h.1,h.2.imp id fun ⟨g,cap,cur,e,hg,r⟩=>⟨g,cap,cur,e,Nat.le_trans hb hg,r⟩⟩
def leftL (done rest:List Ty) (r:Ty):List UInt8:=(if done = [] then codes rest else codes' rest) ++ 41 :: code r
theorem left_step (done rest:List Ty) (p r:Ty):leftL (done ++ [p]) rest r = codes' rest ++ 41 :: code r:=by simp [leftL]
theorem left_first (rest:List Ty) (p r:Ty):leftL [] (p :: rest) r = code p ++ (codes' rest ++ 41 :: code r):=by simp [leftL,codes_cons]
theorem left_more {done:List Ty} (h:done ≠ []) (rest:List Ty) (p r:Ty):leftL done (p :: rest) r = 44 :: (code p ++ (codes' rest ++ 41 :: code r)):=by
 rw [leftL,if_neg h,codes'_cons,codes_cons];simp
theorem left_end (done:List Ty) (r:Ty):leftL done [] r = 41 :: code r:=by unfold leftL;split <;> simp [codes,codes']
theorem RdAt.grown {w w' b s k d o} (h:RdAt w b s k d) (hg:w.grownBy w' o) (ho:o ≠ some b):RdAt w' b s k d:=⟨by rw [hg.block b h.lt (Ne.symm ho)];exact h.blk⟩
theorem rights_at:∀ {done rest:List Ty} {p:Ty},Rights (done ++ p :: rest) → Right p
 | [],_,_,h=>h.1
 | _ :: d,_,_,h=>rights_at (done:=d) h.2
theorem codes_le:∀ {done rest:List Ty} {p:Ty},(code p).length ≤ (codes (done ++ p :: rest)).length ∧ (code p).length ≤ (codes' (done ++ p :: rest)).length
 | [],rest,p=>by rw [List.nil_append,codes_cons,codes'_cons,codes_cons];simp;omega
 | t :: d,rest,p=>by
   have:=codes_le (done:=d) (rest:=rest) (p:=p)
   rw [List.cons_append,codes_cons,codes'_cons,codes_cons]
   simp;omega
theorem rights_len:∀ {l:List Ty},Rights l → l.length ≤ (codes l).length
 | [],_=>by simp
 | [t],h=>by rw [codes_cons];have:=code_pos h.1;simp;omega
 | t :: u :: l,h=>by
   have h1:=rights_len (l:=u :: l) h.2
   rw [codes_cons,codes'_cons]
   simp at h1 ⊢
   omega
theorem c2_str (s:ByteArray):∀ u ∈ [Value.string s],u.oneCell' = true:=by simp [Value.oneCell']
theorem c3_le {n:Nat} (h:n ≤ 70000):n ≤ maxLen:=by unfold maxLen;omega
theorem c4_le {n:Nat} (h:n ≤ 70000):n * 16 ≤ 140737488355328:=by omega
theorem c5_le {n:Nat} {w4:World} {o:Obj} (h:n < w4.heap.size):n + 1 ≤ (w4.alloc o).heap.size:=by simp;omega
theorem splitF_mk {ps:List Ty} {r:Ty} {w w':World} {x:ByteArray} {v:Value} (hx:x = tyB r) (ho:w'.ownsRow w.heap.size 34 1 v ps.length (ps.map fun p=>.string (tyB p))) (hb:Below w.heap.size w w') :
 SplitP (.fn ps r) w (.returned (.tuple #[.string x,.int .i64 0,v])) w':=by subst hx;exact ⟨⟨v,rfl,ho⟩,hb⟩
theorem no_head {s:ByteArray} {k:Nat} {p:Ty} {q:List UInt8} (h:sfx s k = code p ++ q) (hp:Right p):(∀ h:k < s.size,s[k] ≠ 41) ∧ ∀ h:k < s.size,s[k] ≠ 44:=by
 obtain ⟨c,l,e,h1,h2⟩:=code_head p hp
 rw [e,List.cons_append] at h
 exact ⟨sfx_not (fun l' e'=>by rw [h] at e';exact h1 (List.cons.inj e').1),sfx_not (fun l' e'=>by rw [h] at e';exact h2 (List.cons.inj e').1)⟩
set_option maxHeartbeats 8000000 in
set_option maxRecDepth 100000 in
theorem split_fn (ps:List Ty) (r:Ty) (w:World) (hr:Right (.fn ps r)) (hs:(code (.fn ps r)).length ≤ 65536) (hK:KeysAt w) (hb:1 < w.heap.size):Calls Tryz.prog 150 #[.string (tyB (.fn ps r))] w (SplitP (.fn ps r) w):=by
 obtain ⟨h0,hc⟩:=tyB_get (t:=.fn ps r) (c:=102) (l:=40 :: (codes ps ++ 41 :: code r)) rfl
 have t1:(((tyB (.fn ps r))[0].toNat:Int) == 112) = false:=by rw [hc];rfl
 have t2:(((tyB (.fn ps r))[0].toNat:Int) == 97) = false:=by rw [hc];rfl
 have hsz:(tyB (.fn ps r)).size ≤ 65536:=by rw [tyB_size];exact hs
 have hsz2:2 ≤ (tyB (.fn ps r)).size:=by rw [tyB_size,code];simp
 have HS:=Hd (show sfx (tyB (.fn ps r)) 2 = leftL [] ps r by rw [tyB_sfx];rfl)
 generalize tyB (.fn ps r) = s at *
 have HK:=Hd hK
 have HRt:=Hd hr
 have hs':s.size ≤ 1048576:=by omega
 obtain ⟨i0,hi,hz0,hz1,hz2⟩:=info_parts infoT
 have HI:=Hd (And.intro hi (And.intro hz0 (And.intro hz1 hz2)))
 clear hc hr hs hK hi hz0 hz1 hz2
 go_enter Tryz.func150,Tryz.ntmps150
 go_wp2_with fail
 clear t1 t2
 generalize hw1:World.alloc _ _ = w1
 have H1:=Hd (show RdAt w1 w.heap.size s 2 0 by rw [← hw1];exact ⟨heap_alloc_new w _⟩)
 have HB1:=Hd (show Below w.heap.size w w1 by rw [← hw1];exact (Below.refl _ _).alloc (Nat.le_refl _) _)
 clear hw1
 go_loopg [11] ps.length (fun g lv wr=>∃ (done rest:List Ty) (k dd:Nat),rest.length = g ∧ k ≤ s.size ∧ Hid (done ++ rest = ps) ∧ RdAt wr w.heap.size s k dd ∧ wr.ownsRow (w.heap.size + 1) 34 1 lv done.length (done.map fun p=>.string (tyB p)) ∧ Below w.heap.size w wr ∧ Hid (sfx s k = leftL done rest r))
 case atStart=>exact ⟨[],ps,2,0,rfl,hsz2,rfl,H1.out,World.ownsRow_nil _ _ _ _,HB1.out,HS.out⟩
 case round=>
  obtain ⟨done,rest,k,dd,hg,hk,hps,hR,hown,hbw,hL⟩:=hrel
  have HR:=Hd hR
  have HO:=Hd hown
  have HB:=Hd hbw
  clear hR hown hbw
  cases rest with
  | nil=>
    obtain ⟨hlt,hb1,hr1⟩:=sfx_head (hL.out.trans (left_end done r))
    have HT:=Hd (takeY 41 41 w.heap.size k _ s wr rfl HR.out hlt hb1 hs')
    have HX:=Hd (show s.extract (k + 1) s.size = tyB r from tyB_eq (by rw [sfx_extract,hr1]))
    have HP:=Hd (show done = ps by have:=hps.out;rwa [List.append_nil] at this)
    have hk1:k + 1 ≤ s.size:=hlt
    clear hb1 hr1
    go_wp2_with (go_at_call 183;(with_reducible refine HT.out.mono ?_);rintro e w2 ⟨rfl,hT,hg2⟩;obtain ⟨⟨c0,c1,c2⟩,_⟩:=hT.cells;have HG2:=Hd hg2;clear hT hg2)
    go_ret3
    refine splitF_mk (by first | exact HX.out | (rw [← HX.out];congr 1)) ?_ (HB.out.trans (below_grown HG2.out (Nat.le_refl _) HB.out.size))
    have:=own_leT (own_apartT HO.out HG2.out (by omega)) (base':=w.heap.size) (by omega)
    rw [HP.out] at this
    exact this
  | cons p rest=>
    have hp:Right p:=rights_at (by rw [hps.out];exact HRt.out.1)
    have hcl:(code p).length < 2 * s.size + 1:=by
     have h1:=(codes_le (done:=done) (rest:=rest) (p:=p)).1
     rw [hps.out] at h1
     have h2:=congrArg List.length HS.out
     rw [sfx_length] at h2
     simp [leftL] at h2
     omega
    have HPc:=Hd hp
    have HCl:=Hd hcl
    obtain ⟨q,eq⟩:∃ q,q = codes' rest ++ 41 :: code r:=⟨_,rfl⟩
    have EQ:=Hd eq
    clear hp hcl eq
    by_cases hd:done = []
    case' pos=>
     have hl2:sfx s k = code p ++ q:=by rw [hL.out,hd,left_first,← EQ.out]
     have HL2:=Hd hl2
     have HC:=Hd (no_head hl2 HPc.out)
     have hk2:k ≤ s.size:=hk
     clear hl2 hd
     go_wp2_with (go_at_call 183;(with_reducible refine (takeNG 41 41 w.heap.size k _ s wr rfl HR.out (by decide) HC.out.1).mono ?_);rintro e w2 ⟨rfl,hT,hg⟩;have HR2:=Hd hT;have HG2:=Hd hg;clear hT hg)
     go_wp2_with (go_at_call 183;(with_reducible refine (takeNG 44 44 w.heap.size k _ s w2 rfl HR2.out (by decide) HC.out.2).mono ?_);rintro e w3 ⟨rfl,hT,hg⟩;have HR3:=Hd hT;have HG3:=Hd (grown_trans HG2.out hg);obtain ⟨⟨c0,c1,c2⟩,_⟩:=hT.cells;clear hT hg)
     clear HR2 HG2 HC
     obtain ⟨k2,rfl⟩:∃ k2,k2 = k:=⟨_,rfl⟩
    case' neg=>
     have hl1:sfx s k = 44 :: (code p ++ q):=by rw [hL.out,left_more hd,← EQ.out]
     obtain ⟨hlt,hb1,hr1⟩:=sfx_head hl1
     obtain ⟨k2,ek2⟩:∃ k2,k2 = k + 1:=⟨_,rfl⟩
     have HL2:=Hd (show sfx s k2 = code p ++ q by rw [ek2];exact hr1)
     have hk2:k2 ≤ s.size:=by omega
     have HC:=Hd (sfx_not (s:=s) (k:=k) (c:=41) (fun l e=>by rw [hl1] at e;exact absurd (List.cons.inj e).1 (by decide)))
     have HT:=Hd (fun (w2:World) (hR2:RdAt w2 w.heap.size s k dd)=>show Calls Tryz.prog 183 #[.pointer (some ⟨w.heap.size,0,none⟩),.int .u8 44] w2 fun e w'=>e = .returned (.bool true) ∧ RdAt w' w.heap.size s k2 dd ∧ w2.grownBy w' (some w.heap.size) by rw [ek2];exact takeY 44 44 w.heap.size k dd s w2 rfl hR2 hlt hb1 hs')
     clear hl1 hb1 hr1 ek2 hd
     go_wp2_with (go_at_call 183;(with_reducible refine (takeNG 41 41 w.heap.size k _ s wr rfl HR.out (by decide) HC.out).mono ?_);rintro e w2 ⟨rfl,hT,hg⟩;have HR2:=Hd hT;have HG2:=Hd hg;clear hT hg)
     go_wp2_with (go_at_call 183;(with_reducible refine (HT.out w2 HR2.out).mono ?_);rintro e w3 ⟨rfl,hT,hg⟩;have HR3:=Hd hT;have HG3:=Hd (grown_trans HG2.out hg);obtain ⟨⟨c0,c1,c2⟩,_⟩:=hT.cells;clear hT hg)
     clear HR2 HG2 HC HT hlt
    all_goals
     have hzz:=grown_trans HG3.out (grown_refl w3 _)
     have HB3:=Hd (HB.out.trans (below_grown HG3.out (Nat.le_refl _) HB.out.size))
     have HO3:=Hd (own_apartT HO.out HG3.out (by omega))
     have hrd:=read_all (2 * s.size + 1) w.heap.size k2 1 dd s w3 HR3.out hk2 (by omega) hsz (by omega) (HK.out.below HB3.out) hb
     rw [HL2.out,code_tyF p HPc.out _ _ HCl.out] at hrd
     have HRd:=Hd (show Calls Tryz.prog 184 #[.pointer (some ⟨w.heap.size,0,none⟩),.int .i64 1] w3 (ReadP w3 w.heap.size s 1 dd (some (p,q))) from hrd)
     obtain ⟨hq,hpos,hle,hql⟩:=rest_sfx HL2.out hk2
     obtain ⟨k3,ek⟩:∃ k3,k3 = s.size - q.length:=⟨_,rfl⟩
     have hk3:k2 ≤ k3:=by omega
     have hk4:k3 ≤ s.size:=by omega
     have EK:=Hd ek
     have HX:=Hd (show s.extract k2 k3 = tyB p from tyB_eq (by rw [ek,hpos,extract_take,HL2.out,List.take_left]))
     have HL3:=Hd (show sfx s k3 = leftL (done ++ [p]) rest r by rw [left_step,← EQ.out,ek,hq])
     have HP3:=Hd (show (done ++ [p]) ++ rest = ps by rw [← hps.out];simp)
     clear hzz hrd hq hpos hle hql ek
     have hdl:=Hd (show done.length + 1 ≤ 70000 by
      have h1:=congrArg List.length hps.out
      have h2:=congrArg List.length HS.out
      rw [sfx_length] at h2
      have h3:ps.length ≤ (codes ps).length:=rights_len HRt.out.1
      simp [leftL] at h1 h2
      omega)
     go_wp2_with (first | (go_at_call 184;(with_reducible refine HRd.out.mono ?_);rintro e w4 ⟨⟨rfl,hT⟩,hg⟩;rw [← EK.out] at hT;have HR4:=Hd hT;have HB4:=Hd (HB3.out.trans (below_grown hg (Nat.le_refl _) HB3.out.size));have HO4:=Hd (own_apartT HO3.out hg (Nat.lt_succ_self _));obtain ⟨⟨q0,q1,q2⟩,_⟩:=hT.cells;clear hT hg) | (at_builtin;refine wpList_append_own _ rfl _ _ 168 rfl (w.heap.size + 1) 34 i0 (.string ⟨#[]⟩) 1 16 Tryz.underlying168 HI.out.1 HI.out.2.1 HI.out.2.2.1 HI.out.2.2.2 rfl (by decide) _ _ _ rfl (HO4.out.alloc _) ⟨w4.heap.size,0,none⟩ 1 1 [.string (s.extract k2 k3)] rfl rfl (fun j u h=>cell_one _ _ _ j u h) (c2_str _) (c3_le hdl.out) (c4_le hdl.out) (c5_le HR4.out.lt) ?_))
     intro v' w6 hown hgrow _
     rw [HX.out] at hown hgrow
     have HO6:=Hd (show w6.ownsRow (w.heap.size + 1) 34 1 v' (done ++ [p]).length ((done ++ [p]).map fun p=>.string (tyB p)) by
      rw [List.length_append,List.map_append];exact hown)
     have HA:=Hd (show Below w4.heap.size w4 (w4.alloc (.cells #[.string (tyB p)] 34)) from (Below.refl _ _).alloc (Nat.le_refl _) _)
     have HR6:=Hd ((HR4.out.below HA.out).grown hgrow (fun e=>by have:=(HO4.out.lt _ e).1;omega))
     have HB6:=Hd ((HB4.out.trans (HA.out.mono HB4.out.size)).grown hgrow (Nat.le_trans HB4.out.size HA.out.size) (fun q e=>by have:=(HO4.out.lt _ e).1;omega))
     clear hown hgrow
     go_wp2_with fail
     go_roundg rest.length
     case measure=>simp at hg;omega
     case rel=>exact ⟨done ++ [p],rest,k3,_,rfl,hk4,HP3,HR6.out,HO6.out,HB6.out,HL3⟩
structure TE (w:World):Prop where
 keys:KeysAt w
 maxl:MaxLenAt w
theorem TE.below {w w':World} (h:TE w) (hb:Below w.heap.size w w'):TE w':=⟨h.keys.below hb,h.maxl.below hb⟩
theorem TE.drewN {w:World} (h:TE w) (n:Nat):TE (w.drewN n):=⟨h.keys.drewN n,h.maxl.drewN n⟩
structure TP (w:World):Prop where
 te:TE w
 pow:PowAt w
 powlt:3 < w.heap.size
theorem TP.below {w w':World} (h:TP w) (hb:Below w.heap.size w w'):TP w':=⟨h.te.below hb,h.pow.below hb h.powlt,Nat.lt_of_lt_of_le h.powlt hb.size⟩
theorem TP.drewN {w:World} (h:TP w) (n:Nat):TP (w.drewN n):=⟨h.te.drewN n,h.pow.drewN n,h.powlt⟩
theorem TE.lt {w:World} (h:TE w):1 < w.heap.size:=World.block_lt_of_cell? w _ (h.keys 0 (by decide))
theorem tyS_some {s:ByteArray} {t:Ty}:tyS s = some t ↔ s = tyB t ∧ Right t ∧ (code t).length ≤ 65536:=by
 unfold tyS
 have hl:s.data.toList.length = s.size:=by rw [Array.length_toList];rfl
 constructor
 ·intro h
  split at h
  ·obtain ⟨h1,h2⟩:=tyE_some.1 h
   exact ⟨tyB_eq h1,h2,by rw [← h1,hl];assumption⟩
  ·cases h
 ·rintro ⟨rfl,h2,h3⟩
  rw [if_pos (by rw [tyB_size];exact h3)]
  exact tyE_some.2 ⟨tyB_list t,h2⟩
theorem form_is (r:Bool) (s:ByteArray) (w:World) (hE:TE w) (hr:(tyS s).isSome = r):Calls Tryz.prog 149 #[.string s] w fun e w'=>e = .returned (.bool r) ∧ Below w.heap.size w w':=by
 subst hr;exact form_ok s w hE.keys hE.lt
theorem str_one (s:ByteArray) (c:UInt8):(s.toList == [c]) = decide (s = ⟨#[c]⟩):=by
 rw [Bool.eq_iff_iff,beq_iff_eq,decide_eq_true_iff,Lib.toList_data]
 exact ⟨fun h=>toList_eq (by rw [h]),fun h=>by rw [h]⟩
theorem one_base {t:Ty} (h:Right t) (c:UInt8):(tyB t = ⟨#[c]⟩) ↔ t = .base c:=by
 constructor
 ·intro e
  have e2:code t = [c]:=by rw [← tyB_list,e]
  cases t with
  | base d=>simp [code] at e2;rw [e2]
  | ptr u=>rw [code] at e2;have:=code_pos (t:=u) h;simp at e2;rw [e2.2] at this;simp at this
  | arr n u=>rw [code] at e2;simp at e2
  | str s=>rw [code] at e2;simp at e2
  | fn ps r=>rw [code] at e2;simp at e2
 ·rintro rfl;rfl
def isIntS (s:ByteArray):Bool:=(tyS s).any isIntT
theorem isIntS_not {s:ByteArray} (h1:s ≠ ⟨#[99]⟩) (h2:s ≠ ⟨#[115]⟩) (h3:s ≠ ⟨#[105]⟩) (h4:s ≠ ⟨#[117]⟩):isIntS s = false:=by
 unfold isIntS
 rcases h:tyS s with _ | t
 ·rfl
 ·obtain ⟨rfl,hr,_⟩:=tyS_some.1 h
  cases t with
  | base c=>
    simp only [Option.any_some,isIntT,decide_eq_false_iff_not]
    rintro (rfl | rfl | rfl | rfl)
    ·exact h1 rfl
    ·exact h2 rfl
    ·exact h3 rfl
    ·exact h4 rfl
  | _=>rfl
theorem tyS_base {c:UInt8} (h:isBase c = true):tyS ⟨#[c]⟩ = some (.base c):=tyS_some.2 ⟨rfl,h,by simp [code]⟩
theorem isInt_ok (s:ByteArray) (w:World):Calls Tryz.prog 250 #[.string s] w fun e w'=>e = .returned (.bool (isIntS s)) ∧ w' = w:=by
 by_cases h1:s = ⟨#[99]⟩
 ·have hfin:=Hd (show isIntS s = true by rw [h1,isIntS,tyS_base (by decide)];rfl)
  have t1:(s.toList == [99]) = true:=by rw [str_one];simpa using h1
  clear h1
  go_enter Tryz.func250,Tryz.ntmps250
  go_wp2_with fail
  go_ret
  exact ⟨by rw [hfin.out];rfl,rfl⟩
 ·have t1:(s.toList == [99]) = false:=by rw [str_one];simpa using h1
  by_cases h2:s = ⟨#[115]⟩
  ·have hfin:=Hd (show isIntS s = true by rw [h2,isIntS,tyS_base (by decide)];rfl)
   have t2:(s.toList == [115]) = true:=by rw [str_one];simpa using h2
   clear h1 h2
   go_enter Tryz.func250,Tryz.ntmps250
   go_wp2_with fail
   go_ret
   exact ⟨by rw [hfin.out];rfl,rfl⟩
  ·have t2:(s.toList == [115]) = false:=by rw [str_one];simpa using h2
   by_cases h3:s = ⟨#[105]⟩
   ·have hfin:=Hd (show isIntS s = true by rw [h3,isIntS,tyS_base (by decide)];rfl)
    have t3:(s.toList == [105]) = true:=by rw [str_one];simpa using h3
    clear h1 h2 h3
    go_enter Tryz.func250,Tryz.ntmps250
    go_wp2_with fail
    go_ret
    exact ⟨by rw [hfin.out];rfl,rfl⟩
   ·have t3:(s.toList == [105]) = false:=by rw [str_one];simpa using h3
    by_cases h4:s = ⟨#[117]⟩
    ·have hfin:=Hd (show isIntS s = true by rw [h4,isIntS,tyS_base (by decide)];rfl)
     have t4:(s.toList == [117]) = true:=by rw [str_one];simpa using h4
     clear h1 h2 h3 h4
     go_enter Tryz.func250,Tryz.ntmps250
     go_wp2_with fail
     go_ret
     exact ⟨by rw [hfin.out];rfl,rfl⟩
    ·have t4:(s.toList == [117]) = false:=by rw [str_one];simpa using h4
     have hfin:=Hd (isIntS_not h1 h2 h3 h4)
     clear h1 h2 h3 h4
     go_enter Tryz.func250,Tryz.ntmps250
     go_wp2_with fail
     go_ret
     exact ⟨by rw [hfin.out];rfl,rfl⟩
theorem isInt_is (r:Bool) (s:ByteArray) (w:World) (hr:isIntS s = r):Calls Tryz.prog 250 #[.string s] w fun e w'=>e = .returned (.bool r) ∧ w' = w:=by subst hr;exact isInt_ok s w
def isScalS (s:ByteArray):Bool:=(tyS s).any isScalarT
theorem isScal_int {s:ByteArray} (h:isIntS s = true):isScalS s = true:=by
 unfold isIntS at h;unfold isScalS
 rcases hs:tyS s with _ | t
 ·rw [hs] at h;cases h
 ·rw [hs] at h;simp only [Option.any_some] at h ⊢;simp [isScalarT,h]
theorem isScal_ptr {s:ByteArray} (hi:isIntS s = false) (hk:0 < s.size) (hc:s[0] = 112):isScalS s = (tyS s).isSome:=by
 unfold isScalS
 rcases hs:tyS s with _ | t
 ·rfl
 ·obtain ⟨rfl,hr,_⟩:=tyS_some.1 hs
  cases t with
  | ptr u=>rfl
  | base c=>
    obtain ⟨_,h2⟩:=tyB_get (t:=.base c) (c:=c) (l:=[]) rfl
    rw [h2] at hc
    rw [hc] at hr
    exact absurd hr (by show ¬ isBase 112 = true;decide)
  | arr n u=>obtain ⟨_,h2⟩:=tyB_get (t:=.arr n u) rfl;rw [h2] at hc;exact absurd hc (by decide)
  | str n=>obtain ⟨_,h2⟩:=tyB_get (t:=.str n) rfl;rw [h2] at hc;exact absurd hc (by decide)
  | fn ps r=>obtain ⟨_,h2⟩:=tyB_get (t:=.fn ps r) rfl;rw [h2] at hc;exact absurd hc (by decide)
theorem isScal_no {s:ByteArray} (hi:isIntS s = false) (hc:∀ h:0 < s.size,s[0] ≠ 112):isScalS s = false:=by
 unfold isScalS
 unfold isIntS at hi
 rcases hs:tyS s with _ | t
 ·rfl
 ·obtain ⟨rfl,hr,_⟩:=tyS_some.1 hs
  rw [hs] at hi
  simp only [Option.any_some] at hi ⊢
  cases t with
  | ptr u=>obtain ⟨h1,h2⟩:=tyB_get (t:=.ptr u) rfl;exact absurd h2 (hc h1)
  | _=>simp [isScalarT,hi,isPtrT]
set_option maxHeartbeats 1000000 in
theorem isScalar_ok (s:ByteArray) (w:World) (hE:TE w):Calls Tryz.prog 234 #[.string s] w fun e w'=>e = .returned (.bool (isScalS s)) ∧ Below w.heap.size w w':=by
 have HE:=Hd hE
 clear hE
 rcases hi:isIntS s with _ | _
 ·have HI:=Hd hi
  by_cases h0:0 < s.size
  ·by_cases hc:s[0] = 112
   ·have HF:=Hd (isScal_ptr hi h0 hc)
    have t0:decide (0 < s.size) = true:=by simpa using h0
    have t1:((s[0].toNat:Int) == 112) = true:=by rw [hc];rfl
    rcases hf:(tyS s).isSome with _ | _
    all_goals
     have HFm:=Hd (form_is _ s w HE.out hf)
     have hfin:=Hd (HF.out.trans hf)
     clear hi hc hf
     go_enter Tryz.func234,Tryz.ntmps234
     go_wp2_with (first | (go_at_call 250;(with_reducible refine (isInt_is _ s _ HI.out).mono ?_);rintro e w1 ⟨rfl,rfl⟩) | (go_at_call 149;(with_reducible refine HFm.out.mono ?_);rintro e w1 ⟨rfl,hb1⟩))
     go_ret
     exact ⟨by rw [hfin.out];rfl,hb1⟩
   ·have hfin:=Hd (isScal_no hi (fun _=>hc))
    have t0:decide (0 < s.size) = true:=by simpa using h0
    have t1:((s[0].toNat:Int) == 112) = false:=by
     rw [beq_eq_false_iff_ne];intro e
     exact hc (UInt8.toNat_inj.1 (by have:s[0].toNat = 112:=by omega
                                     simpa using this))
    clear hi hc
    go_enter Tryz.func234,Tryz.ntmps234
    go_wp2_with (first | (go_at_call 250;(with_reducible refine (isInt_is _ s _ HI.out).mono ?_);rintro e w1 ⟨rfl,rfl⟩))
    go_ret
    exact ⟨by rw [hfin.out];rfl,Below.refl _ _⟩
  ·have hfin:=Hd (isScal_no hi (fun h=>absurd h h0))
   have t0:decide (0 < s.size) = false:=by simpa using h0
   clear hi
   go_enter Tryz.func234,Tryz.ntmps234
   go_wp2_with (first | (go_at_call 250;(with_reducible refine (isInt_is _ s _ HI.out).mono ?_);rintro e w1 ⟨rfl,rfl⟩))
   go_ret
   exact ⟨by rw [hfin.out];rfl,Below.refl _ _⟩
 ·have HI:=Hd hi
  have hfin:=Hd (isScal_int hi)
  clear hi
  go_enter Tryz.func234,Tryz.ntmps234
  go_wp2_with (first | (go_at_call 250;(with_reducible refine (isInt_is _ s _ HI.out).mono ?_);rintro e w1 ⟨rfl,rfl⟩))
  go_ret
  exact ⟨by rw [hfin.out];rfl,Below.refl _ _⟩
def isC (c:UInt8):Ty → Bool
 | .base d=>decide (d = c)
 | _=>false
def SignP (r:Option Ty) (w:World) (e:Ending) (w':World):Prop:=
 (match r with
   | none=>e = .returned (.tuple #[.string ⟨#[]⟩,.slice none 0 0,.int .i64 2])
   | some (.fn ps r)=>∃ v,e = .returned (.tuple #[.string (tyB r),v,.int .i64 0]) ∧ w'.ownsRow w.heap.size 34 1 v ps.length (ps.map fun p=>.string (tyB p))
   | some _=>e = .returned (.tuple #[.string ⟨#[]⟩,.slice none 0 0,.int .i64 5])) ∧ Below w.heap.size w w'
theorem tup_eq {a b:Value} (h:a = b):Ending.returned a = .returned b:=by rw [h]
theorem base_six {c:UInt8} (h:isBase c = true):c = 118 ∨ c = 99 ∨ c = 115 ∨ c = 105 ∨ c = 117 ∨ c = 106:=by
 unfold isBase at h
 rw [List.contains_iff_mem] at h
 simpa using h
def headT:Ty → UInt8
 | .base c=>c
 | .ptr _=>112
 | .arr _ _=>97
 | .str _=>83
 | .fn _ _=>102
theorem tyB_head (t:Ty):∃ h:0 < (tyB t).size,(tyB t)[0] = headT t:=by
 cases t with
 | base c=>exact tyB_get (t:=.base c) rfl
 | ptr u=>exact tyB_get (t:=.ptr u) rfl
 | arr n u=>exact tyB_get (t:=.arr n u) rfl
 | str n=>exact tyB_get (t:=.str n) rfl
 | fn ps r=>exact tyB_get (t:=.fn ps r) rfl
theorem ne_true {s:ByteArray} {h:0 < s.size} {c d:UInt8} (hc:s[0] = c) (hd:c ≠ d):((s[0].toNat:Int) != (d.toNat:Int)) = true:=by
 rw [hc,bne_iff_ne]
 intro e
 exact hd (UInt8.toNat_inj.1 (by omega))
theorem ne_false {s:ByteArray} {h:0 < s.size} {c:UInt8} (hc:s[0] = c):((s[0].toNat:Int) != (c.toNat:Int)) = false:=by rw [hc];simp
theorem eq_false' {s:ByteArray} {h:0 < s.size} {c d:UInt8} (hc:s[0] = c) (hd:c ≠ d):((s[0].toNat:Int) == (d.toNat:Int)) = false:=by
 rw [hc,beq_eq_false_iff_ne]
 intro e
 exact hd (UInt8.toNat_inj.1 (by omega))
theorem eq_true' {s:ByteArray} {h:0 < s.size} {c:UInt8} (hc:s[0] = c):((s[0].toNat:Int) == (c.toNat:Int)) = true:=by rw [hc];simp
theorem add_namedT (a b y:ByteArray) (hy:a ++ b = y) (h:a.size + b.size ≤ 9223372036854775807):∀ w,(Op.stringOp .add a b).run Tryz.prog w = .ok (.string y) w:=fun w=>by rw [← hy];exact run_string_add_sum w a b h
theorem one_is {t:Ty} (h:Right t) (c:UInt8):((tyB t).toList == [c]) = isC c t:=by
 rw [str_one,Bool.eq_iff_iff,decide_eq_true_iff,one_base h]
 cases t <;> simp [isC]
end Go.Proofs.YtkokdafkjjcgoaaGreatDoor
