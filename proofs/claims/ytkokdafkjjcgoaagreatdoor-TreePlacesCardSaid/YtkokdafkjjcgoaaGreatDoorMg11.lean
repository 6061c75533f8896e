/- The reader of types: a type, a function's parameters. -/
import Derived.Test.YtkokdafkjjcgoaaGreatDoorMg10
namespace Go.Proofs.YtkokdafkjjcgoaaGreatDoor
open Go.RowKit
theorem KeysAt.grown {w w':World} {b:Nat} (h:KeysAt w) (hg:w.grownBy w' (some b)) (hb:1 < b):KeysAt w':=fun j hj=>by
 have h1:=h j hj
 have hlt:=World.block_lt_of_cell? w _ h1
 unfold World.cell? at h1 ⊢
 rw [hg.block _ hlt (by simp;omega)];exact h1
def ReadP (w:World) (b:Nat) (s:ByteArray) (d dd:Nat) (r:Option (Ty × List UInt8)) (e:Ending) (w':World):Prop:=
 (match r with
   | some (t,q)=>e = .returned (.bool true) ∧ RdAt w' b s (s.size - q.length) (max dd (d + deepT t - 1))
   | none=>e = .returned (.bool false) ∧ ∃ k d',RdAt w' b s k d') ∧ w.grownBy w' (some b)
def ParsP (w:World) (b:Nat) (s:ByteArray) (d dd:Nat) (r:Option (List Ty × List UInt8)) (e:Ending) (w':World):Prop:=
 (match r with
   | some (ps,q)=>e = .returned (.bool true) ∧ RdAt w' b s (s.size - q.length) (max dd (d + deepL ps))
   | none=>e = .returned (.bool false) ∧ ∃ k d',RdAt w' b s k d') ∧ w.grownBy w' (some b)
def ReadC (n:Nat):Prop:=∀ (b k d dd:Nat) (s:ByteArray) (w:World),RdAt w b s k dd → k ≤ s.size → 2 * (s.size - k) < n → s.size ≤ 65536 → d + (s.size - k) ≤ 70000 → KeysAt w → 1 < b →
 Calls Tryz.prog 184 #[.pointer (some ⟨b,0,none⟩),.int .i64 d] w (ReadP w b s d dd (tyF n (sfx s k)))
theorem readP_no {w w':World} {b:Nat} {s:ByteArray} {d dd k d':Nat} {r:Option (Ty × List UInt8)} (hr:r = none) (h:RdAt w' b s k d') (hg:w.grownBy w' (some b)):ReadP w b s d dd r (.returned (.bool false)) w':=by subst hr;exact ⟨⟨rfl,_,_,h⟩,hg⟩
theorem readP_yes {w w':World} {b:Nat} {s:ByteArray} {d dd k d':Nat} {r:Option (Ty × List UInt8)} {t:Ty} {q:List UInt8} (hr:r = some (t,q)) (h:RdAt w' b s k d') (hk:k = s.size - q.length) (hd:d' = max dd (d + deepT t - 1)) (hg:w.grownBy w' (some b)):ReadP w b s d dd r (.returned (.bool true)) w':=by subst hr hk hd;exact ⟨⟨rfl,h⟩,hg⟩
theorem parsP_no {w w':World} {b:Nat} {s:ByteArray} {d dd k d':Nat} {r:Option (List Ty × List UInt8)} (hr:r = none) (h:RdAt w' b s k d') (hg:w.grownBy w' (some b)):ParsP w b s d dd r (.returned (.bool false)) w':=by subst hr;exact ⟨⟨rfl,_,_,h⟩,hg⟩
theorem parsP_yes {w w':World} {b:Nat} {s:ByteArray} {d dd k d':Nat} {r:Option (List Ty × List UInt8)} {ps:List Ty} {q:List UInt8} (hr:r = some (ps,q)) (h:RdAt w' b s k d') (hk:k = s.size - q.length) (hd:d' = max dd (d + deepL ps)) (hg:w.grownBy w' (some b)):ParsP w b s d dd r (.returned (.bool true)) w':=by subst hr hk hd;exact ⟨⟨rfl,h⟩,hg⟩
theorem rest_sfx {s:ByteArray} {k:Nat} {u q:List UInt8} (h:sfx s k = u ++ q) (hk:k ≤ s.size):sfx s (s.size - q.length) = q ∧ s.size - q.length = k + u.length ∧ k + u.length ≤ s.size ∧ q.length ≤ s.size - k:=by
 have hl:=congrArg List.length h
 rw [sfx_length,List.length_append] at hl
 have e:s.size - q.length = k + u.length:=by omega
 refine ⟨?_,e,by omega,by omega⟩
 rw [e,← sfx_drop,h,List.drop_left]
theorem sfx_head {s:ByteArray} {k:Nat} {c:UInt8} {l:List UInt8} (h:sfx s k = c :: l):∃ hk:k < s.size,s[k] = c ∧ sfx s (k + 1) = l:=by
 rcases Nat.lt_or_ge k s.size with hk | hk
 ·rw [sfx_cons s k hk] at h
  obtain ⟨h1,h2⟩:=List.cons.inj h
  exact ⟨hk,h1,h2⟩
 ·rw [sfx_nil s k hk] at h;cases h
theorem sfx_not {s:ByteArray} {k:Nat} {c:UInt8} (h:∀ l,sfx s k ≠ c :: l):∀ hk:k < s.size,s[k] ≠ c:=fun hk e=>h (sfx s (k + 1)) (by rw [sfx_cons s k hk,e])
def moreG (m:Nat) (t:Ty) (q:List UInt8):Option (List Ty × List UInt8):=match q with
 | 41 :: r=>some ([t],r)
 | 44 :: r=>(moreF m r).map fun x=>(t :: x.1,x.2)
 | _=>none
theorem more_some {m:Nat} {L q:List UInt8} {t:Ty} (h:tyF m L = some (t,q)):moreF (m + 1) L = moreG m t q:=by rw [moreF,h];rfl
theorem more_none {m:Nat} {L:List UInt8} (h:tyF m L = none):moreF (m + 1) L = none:=by rw [moreF,h];rfl
theorem moreG_no {m:Nat} {t:Ty} {q:List UInt8} (h1:¬ ∃ l,q = 41 :: l) (h2:¬ ∃ l,q = 44 :: l):moreG m t q = none:=by
 unfold moreG
 split
 ·exact absurd ⟨_,rfl⟩ h1
 ·exact absurd ⟨_,rfl⟩ h2
 ·rfl
def putL (done:List Ty) (x:List Ty × List UInt8):List Ty × List UInt8:=(done ++ x.1,x.2)
theorem put_nil (x:Option (List Ty × List UInt8)):x = x.map (putL []):=by cases x <;> rfl
theorem put_more (done:List Ty) (t:Ty) (x:Option (List Ty × List UInt8)):(x.map fun y=>(t :: y.1,y.2)).map (putL done) = x.map (putL (done ++ [t])):=by cases x <;> simp [putL]
theorem deepT_pos (t:Ty):1 ≤ deepT t:=by cases t <;> simp [deepT]
theorem deepL_snoc (l:List Ty) (t:Ty):deepL (l ++ [t]) = max (deepL l) (deepT t):=by
 induction l with
 | nil=>simp [deepL]
 | cons u l ih=>simp only [List.cons_append,deepL,ih];omega
theorem code_pos {t:Ty} (h:Right t):1 ≤ (code t).length:=by
 obtain ⟨c,l,e,_⟩:=code_head t h
 rw [e];simp
set_option maxHeartbeats 8000000 in
set_option maxRecDepth 100000 in
theorem params_ok (n:Nat) (ih:∀ m,m < n → ReadC m) (b k d dd:Nat) (s:ByteArray) (w:World) (h:RdAt w b s k dd) (hk:k ≤ s.size) (hn:2 * (s.size - k) + 2 < n) (hs:s.size ≤ 65536) (hd:d + 1 + (s.size - k) ≤ 70000) (hdd:d ≤ dd) (hK:KeysAt w) (hb:1 < b) :
 Calls Tryz.prog 217 #[.pointer (some ⟨b,0,none⟩),.int .i64 d] w (ParsP w b s d dd (parsF n (sfx s k))):=by
 obtain ⟨r,er⟩:∃ r,r = parsF n (sfx s k):=⟨_,rfl⟩
 rw [← er]
 have ER:=Hd er
 have H:=Hd h
 have HK:=Hd hK
 have IH:=Hd ih
 have hs':s.size ≤ 1048576:=by omega
 clear er h hK ih
 obtain ⟨n,rfl⟩:∃ m,n = m + 1:=⟨n - 1,by omega⟩
 by_cases hc:∃ l,sfx s k = 41 :: l
 ·obtain ⟨l,hl⟩:=hc
  obtain ⟨hlt,hb1,hr1⟩:=sfx_head hl
  have HT:=Hd (takeY 41 41 b k dd s w rfl H.out hlt hb1 hs')
  have hfin:=Hd (show r = some ([],l) by rw [ER.out,hl,parsF,if_pos rfl])
  have hlen:=Hd (show k + 1 = s.size - l.length by
   have:=congrArg List.length hl
   rw [sfx_length] at this
   simp only [List.length_cons] at this
   omega)
  clear hl hb1 hr1
  go_enter Tryz.func217,Tryz.ntmps217
  go_wp2_with (go_at_call 183;refine HT.out.mono ?_;rintro e w1 ⟨rfl,hT,hg⟩;have HT1:=Hd hT;have HG1:=Hd hg;clear hT hg)
  go_ret
  exact parsP_yes hfin.out HT1.out hlen.out (by simp [deepL];omega) HG1.out
 ·have HT:=Hd (takeN 41 41 b k dd s w rfl H.out (by decide) (sfx_not (fun l e=>hc ⟨l,e⟩)))
  have hM:=Hd (show r = moreF n (sfx s k) by
   rw [ER.out]
   rcases hx:sfx s k with _ | ⟨c,l⟩
   ·cases n with
    | zero=>rw [parsF,moreF]
    | succ n=>
      rw [parsF,moreF]
      cases n with
      | zero=>rw [tyF];rfl
      | succ n=>rw [tyF];rfl
   ·rw [parsF,if_neg (fun e=>hc ⟨l,by rw [hx,e]⟩)])
  clear hc
  go_enter Tryz.func217,Tryz.ntmps217
  go_wp2_with (go_at_call 183;(with_reducible refine HT.out.mono ?_);rintro e w1 ⟨rfl,nq,rfl⟩)
  go_loopg [9] (s.size - k) (fun g _ wr=>∃ (k' m:Nat) (done:List Ty),k' ≤ s.size ∧ k ≤ k' ∧ k' + g = s.size ∧ 2 * (s.size - k') + 1 < m ∧ m ≤ n ∧ RdAt wr b s k' (max dd (d + deepL done)) ∧ w.grownBy wr (some b) ∧ Hid (r = (moreF m (sfx s k')).map (putL done)))
  case atStart=>exact ⟨k,n,[],hk,Nat.le_refl _,by omega,by omega,Nat.le_refl _,by have:=H.out.drewN nq;rwa [show dd = max dd (d + deepL []) by simp [deepL];omega] at this,grown_drewN (grown_refl _ _) _,hM.out.trans (put_nil _)⟩
  case round=>
   obtain ⟨k',m,done,hk1,hk2,hkg,hm1,hm2,hR,hg,hr⟩:=hrel
   obtain ⟨m,rfl⟩:∃ m',m = m' + 1:=⟨m - 1,by omega⟩
   have HRd:=Hd (IH.out m (by omega) b k' (d + 1) _ s wr hR hk1 (by omega) hs (by omega) (HK.out.grown hg hb) hb)
   have HG:=Hd hg
   clear hR hg
   rcases hty:tyF m (sfx s k') with _ | ⟨t,q⟩
   ·rw [hty] at HRd
    have hfin:=Hd (show r = none by rw [hr.out,more_none hty];rfl)
    clear hty
    go_wp2_with (go_at_call 184;refine HRd.out.mono ?_;rintro e w2 ⟨⟨rfl,k2,d2,hT⟩,hg2⟩;have HT2:=Hd hT;have HG2:=Hd hg2;clear hT hg2)
    go_ret
    exact parsP_no hfin.out HT2.out (grown_trans HG.out HG2.out)
   ·rw [hty] at HRd
    obtain ⟨hcode,hrt⟩:=(tyF_code m).1 _ _ _ hty
    obtain ⟨hq,hpos,hle,hql⟩:=rest_sfx hcode hk1
    have hcp:=code_pos hrt
    have HQ:=Hd (show r = (moreG m t q).map (putL done) by rw [hr.out,more_some hty])
    clear hty hcode hrt hr
    go_wp2_with (go_at_call 184;refine HRd.out.mono ?_)
    rintro e w2 ⟨⟨rfl,hT⟩,hg2⟩
    rw [show max (max dd (d + deepL done)) (d + 1 + deepT t - 1) = max dd (d + deepL (done ++ [t])) by rw [deepL_snoc];omega] at hT
    obtain ⟨k2,ek⟩:∃ k2,k2 = s.size - q.length:=⟨_,rfl⟩
    rw [← ek] at hT hq hpos
    have HT2:=Hd hT
    have HG2:=Hd (grown_trans HG.out hg2)
    have hk2:k' + 1 ≤ k2:=by omega
    have hk3:k2 ≤ s.size:=by omega
    clear hT hg2 hpos
    by_cases h41:∃ l,q = 41 :: l
    ·obtain ⟨l,rfl⟩:=h41
     obtain ⟨hlt,hb1,hr1⟩:=sfx_head hq
     have HT3:=Hd (takeY 41 41 b k2 _ s w2 rfl HT2.out hlt hb1 hs')
     have hfin:=Hd (show r = some (done ++ [t],l) from HQ.out)
     have hle2:=Hd (show k2 + 1 = s.size - l.length by simp only [List.length_cons] at hql ek;omega)
     clear hq hb1 hr1 ek hql
     go_wp2_with (go_at_call 183;refine HT3.out.mono ?_;rintro e w3 ⟨rfl,hT,hg⟩;have HT4:=Hd hT;have HG4:=Hd hg;clear hT hg)
     go_ret
     exact parsP_yes hfin.out HT4.out hle2.out rfl (grown_trans HG2.out HG4.out)
    ·have HN:=Hd (takeN 41 41 b k2 _ s w2 rfl HT2.out (by decide) (sfx_not (fun l e=>h41 ⟨l,by rw [← hq,e]⟩)))
     by_cases h44:∃ l,q = 44 :: l
     ·obtain ⟨l,rfl⟩:=h44
      obtain ⟨hlt,hb1,hr1⟩:=sfx_head hq
      have hfin:=Hd (show r = (moreF m (sfx s (k2 + 1))).map (putL (done ++ [t])) by rw [HQ.out,hr1];exact put_more done t _)
      have hlt2:=Hd hlt
      have hb2:=Hd hb1
      clear hq hb1 hr1 h41 ek hql
      go_wp2_with (go_at_call 183;(with_reducible refine HN.out.mono ?_);rintro e w3 ⟨rfl,nq,rfl⟩)
      refine (takeY 44 44 b k2 _ s _ rfl (HT2.out.drewN nq) hlt2.out hb2.out hs').mono ?_
      rintro e w4 ⟨rfl,hT,hg⟩
      have HT4:=Hd hT
      have HG4:=Hd (grown_trans (grown_drewN HG2.out nq) hg)
      clear hT hg
      go_wp2_with fail
      go_roundg (s.size - (k2 + 1))
      case measure=>omega
      case rel=>exact ⟨k2 + 1,m,done ++ [t],by omega,by omega,by omega,by omega,by omega,HT4.out,HG4.out,hfin⟩
     ·have hfin:=Hd (show r = none by rw [HQ.out,moreG_no h41 h44];rfl)
      have HN2:=Hd (fun nq=>takeN 44 44 b k2 _ s (w2.drewN nq) rfl (HT2.out.drewN nq) (by decide) (sfx_not (fun l e=>h44 ⟨l,by rw [← hq,e]⟩)))
      clear hq h41 h44 ek hql
      go_wp2_with (go_at_call 183;(with_reducible refine HN.out.mono ?_);rintro e w3 ⟨rfl,nq,rfl⟩)
      refine (HN2.out nq).mono ?_
      rintro e w4 ⟨rfl,nq2,rfl⟩
      go_wp2_with fail
      go_ret
      exact parsP_no hfin.out (by first | exact (HT2.out.drewN _).drewN _ | exact HT2.out.drewN _) (by first | exact grown_drewN (grown_drewN HG2.out _) _ | exact grown_drewN HG2.out _)
theorem lexIsName_any (s:ByteArray) (w:World) (hK:KeysAt w) :
 Calls Tryz.prog 124 #[.string s] w fun e w'=>e = .returned (.bool (isNameB s)) ∧ Below w.heap.size w w':=by
 by_cases h31:s.size ≤ 31
 ·exact lexIsName_ok s w hK (by omega)
 ·have hfin:=Hd (show isNameB s = false by simp [isNameB,h31])
  have t1:decide ((s.size:Int) ≤ 31) = false:=by simp;omega
  clear hK
  go_enter Tryz.func124,Tryz.ntmps124
  go_wp2_with fail
  all_goals go_ret
  all_goals exact ⟨by rw [hfin.out];rfl,(Below.refl _ _).alloc (Nat.le_refl _) _⟩
end Go.Proofs.YtkokdafkjjcgoaaGreatDoor
