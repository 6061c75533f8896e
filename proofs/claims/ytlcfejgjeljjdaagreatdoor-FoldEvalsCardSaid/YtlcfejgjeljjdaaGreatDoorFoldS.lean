/- Is all of a part such as a constant is made of? The program. -/
import Derived.Test.YtlcfejgjeljjdaaGreatDoorMg16
namespace Go.Proofs.YtlcfejgjeljjdaaGreatDoor
open Go.RowKit
theorem segN_get {t:List Nd} {s e i:Nat} (h1:s ≤ i) (h2:i < e) (h3:i < t.length):t[i] ∈ segN t s e:=by
 unfold segN
 rw [List.mem_iff_getElem?]
 refine ⟨i - s,?_⟩
 rw [List.getElem?_take_of_lt (by omega),List.getElem?_drop,show s + (i - s) = i by omega]
 exact List.getElem?_eq_getElem h3
theorem seg_false {t:List Nd} {s e i:Nat} {p:Nd → Bool} (h1:s ≤ i) (h2:i < e) (h3:i < t.length) (h:p t[i] = false):(segN t s e).all p = false:=by
 rw [Bool.eq_false_iff]
 intro hc
 have:=List.all_eq_true.1 hc _ (segN_get h1 h2 h3)
 rw [h] at this
 cases this
theorem seg_true {t:List Nd} {s i:Nat} {p:Nd → Bool} (h1:s ≤ i) (h3:i < t.length) (h:(segN t s i).all p = true) (hi:p t[i] = true):(segN t s (i + 1)).all p = true:=by
 rw [← segN_join t (b:=i) h1 (by omega),List.all_append,h,segN_one h3]
 have:t.getD i nd0 = t[i]:=by simp [List.getD,h3]
 rw [this]
 simp [hi]
theorem seg_nil {t:List Nd} {s:Nat} {p:Nd → Bool}:(segN t s s).all p = true:=by
 unfold segN
 simp
def ShapEnd (r:Bool) (w:World) (e:Ending) (w':World):Prop:=e = .returned (.bool r) ∧ Below w.heap.size w w'
set_option maxRecDepth 100000 in
set_option maxHeartbeats 8000000 in
theorem shaped_ok {f:Nat} {a:Option Addr} {cap:Nat} {t:List Nd} {l:Option Addr} {lc:Nat} {L:List Sr} {mv:List Value} {b:Option Addr} {cb:Nat} {fr:List Nat} {B:Nat} (w:World) (hFo:FoldAt B w f a cap t l lc L mv b cb fr) (hl:t.length ≤ 4096) (hf:Formed t fr) (k:Nat) (hk:k < t.length) :
 Calls Tryz.prog 47 #[.pointer (some ⟨f,0,none⟩),.int .i64 (k:Int)] w (ShapEnd ((segN t (fr.getD k 0) (k + 1)).all (shN L)) w):=by
 obtain ⟨_,_,hst⟩:=hf.node k _ (List.getElem?_eq_getElem hk)
 have hfk:k < fr.length:=by rw [hf.len];exact hk
 have hg:fr.getD k 0 = fr[k]:=by rw [List.getD_eq_getElem?_getD,List.getElem?_eq_getElem hfk];rfl
 rw [hg] at hst ⊢
 obtain ⟨_,_,z2⟩:=hFo.cells
 obtain ⟨bf,of,hbf,_,c3⟩:=nats_at hFo.frs hfk
 subst hbf
 have HFo:=Hd hFo
 clear hFo hf hg
 generalize fr[k]'hfk = s at *
 have HP0:=Hd (show Below w.heap.size w w ∧ s ≤ s ∧ (segN t s s).all (shN L) = true from ⟨Below.refl _ _,Nat.le_refl _,seg_nil⟩)
 go_enter Tryz.func47,Tryz.ntmps47
 go_wp2_with fail
 clear z2 c3
 go_loopg [5] (k + 1 - s) (fun m v5 wy=>∃ (i:Nat),i ≤ k + 1 ∧ m = k + 1 - i ∧ v5 = .int .i64 (i:Int) ∧ Hid (Below w.heap.size w wy ∧ s ≤ i ∧ (segN t s i).all (shN L) = true))
 case atStart=>exact ⟨s,by omega,rfl,rfl,HP0⟩
 case round=>
  obtain ⟨i,hi,hm,rfl,HG⟩:=hrel
  by_cases hlt:i < k + 1
  ·have t0:decide ((i:Int) ≤ (k:Int)) = true:=by simp;omega
   have hit:i < t.length:=by omega
   have HF2:=Hd (HFo.out.below HG.out.1)
   obtain ⟨z0,z1,_⟩:=HF2.out.cells
   obtain ⟨ba,off,ha,hbl,x0,x1,x2,x3,x4,x5⟩:=nds_at HF2.out.nodes hit
   subst ha
   have HNo:=Hd (fun (h:shN L t[i] = false)=>seg_false (s:=s) (e:=k + 1) HG.out.2.1 hlt hit h)
   have HYes:=Hd (fun (h:shN L t[i] = true)=>seg_true (s:=s) HG.out.2.1 hit HG.out.2.2 h)
   generalize t[i]'hit = x at *
   obtain ⟨kk,n,p,ii,sx,ty⟩:=x
   simp only at x0 x1 x2 x3 x4 x5
   go_upto_region 5 with fail
   have hx2:(wr.alloc (ndObj ⟨kk,n,p,ii,sx,ty⟩)).heap[wr.heap.size]? = some (.cells #[.int .i64 kk,.int .i64 n,.int .i64 p,.int .i64 ii,.string sx,.string ty] 42 (0,0)):=heap_alloc_new _ _
   have hb2:Below wr.heap.size wr (wr.alloc (ndObj ⟨kk,n,p,ii,sx,ty⟩)):=(Below.refl _ _).alloc (Nat.le_refl _) _
   simp only [ndObj] at hx2 hb2
   generalize wr.alloc (.cells #[.int .i64 kk,.int .i64 n,.int .i64 p,.int .i64 ii,.string sx,.string ty] 42) = w2 at *
   clear x0 x1 x2 x3 x4 x5 z0 z1
   obtain ⟨⟨x0,_,_,_,x4,x5⟩,_⟩:=six_block hx2
   have HX2:=Hd hx2
   have HB2:=Hd (HG.out.1.trans (hb2.mono HG.out.1.size))
   have HF3:=Hd (HF2.out.below hb2)
   clear hx2 hb2
   by_cases k1:kk = 1
   ·subst k1
    have HN:=Hd (HYes.out rfl)
    go_wp2_with fail
    go_roundg (k - i)
    case measure=>omega
    case rel=>exact ⟨i + 1,by omega,by omega,by rw [Int.natCast_add];rfl,⟨HB2.out,by have:=HG.out.2.1;omega,HN.out⟩⟩
   have q1:(kk == 1) = false:=by simpa using k1
   by_cases k9:kk = 9
   ·subst k9
    have HN:=Hd (HYes.out rfl)
    go_wp2_with fail
    go_roundg (k - i)
    case measure=>omega
    case rel=>exact ⟨i + 1,by omega,by omega,by rw [Int.natCast_add];rfl,⟨HB2.out,by have:=HG.out.2.1;omega,HN.out⟩⟩
   have q9:(kk == 9) = false:=by simpa using k9
   by_cases k4:kk = 4
   ·subst k4
    by_cases m1:sx = mAnd
    ·have t1:(sx.toList == [38]) = true:=by rw [m1];exact lit_eq rfl rfl
     have HN:=Hd (HNo.out (by subst m1;rfl))
     clear m1
     go_wp2_with fail
     go_ret
     exact ⟨by rw [HN.out];rfl,HB2.out⟩
    have t1:(sx.toList == [38]) = false:=by rw [str_one];exact decide_eq_false m1
    by_cases m2:sx = mMul
    ·have t2:(sx.toList == [42]) = true:=by rw [m2];exact lit_eq rfl rfl
     have HN:=Hd (HNo.out (by subst m2;rfl))
     clear m2
     go_wp2_with fail
     go_ret
     exact ⟨by rw [HN.out];rfl,HB2.out⟩
    have t2:(sx.toList == [42]) = false:=by rw [str_one];exact decide_eq_false m2
    have HN:=Hd (HYes.out (by unfold shN;simp [m1,m2]))
    clear m1 m2
    go_wp2_with fail
    go_roundg (k - i)
    case measure=>omega
    case rel=>exact ⟨i + 1,by omega,by omega,by rw [Int.natCast_add];rfl,⟨HB2.out,by have:=HG.out.2.1;omega,HN.out⟩⟩
   have q4:(kk == 4) = false:=by simpa using k4
   by_cases k7:kk = 7
   ·subst k7
    have HN:=Hd (HYes.out rfl)
    go_wp2_with fail
    go_roundg (k - i)
    case measure=>omega
    case rel=>exact ⟨i + 1,by omega,by omega,by rw [Int.natCast_add];rfl,⟨HB2.out,by have:=HG.out.2.1;omega,HN.out⟩⟩
   have q7:(kk == 7) = false:=by simpa using k7
   by_cases k15:kk = 15
   ·subst k15
    have HI:=Hd (isInt_ok ty w2)
    rcases hb:isIntS ty with _ | _
    ·rw [hb] at HI
     have HN:=Hd (HNo.out (by unfold shN;simp [hb]))
     clear hb
     go_wp2_with (go_at_call 28;(with_reducible refine HI.out.mono ?_);rintro e w3 ⟨rfl,rfl⟩)
     go_ret
     exact ⟨by rw [HN.out];rfl,HB2.out⟩
    ·rw [hb] at HI
     have HN:=Hd (HYes.out (by unfold shN;simp [hb]))
     clear hb
     go_wp2_with (go_at_call 28;(with_reducible refine HI.out.mono ?_);rintro e w3 ⟨rfl,rfl⟩)
     go_roundg (k - i)
     case measure=>omega
     case rel=>exact ⟨i + 1,by omega,by omega,by rw [Int.natCast_add];rfl,⟨HB2.out,by have:=HG.out.2.1;omega,HN.out⟩⟩
   have q15:(kk == 15) = false:=by simpa using k15
   by_cases k17:kk = 17
   ·subst k17
    obtain ⟨_,z1,_⟩:=HF3.out.cells
    have HS:=Hd (fun (w':World) (h:FoldAt B w' f (some ⟨ba,off,none⟩) cap t l lc L mv (some ⟨bf,of,none⟩) cb fr)=>size_ok ty l lc L mv w' h.te (h.srs.mono h.le))
    have HS2:=Hd (HS.out _ (HF3.out.below (Below.refl _ _).drew))
    by_cases hz:(sizeR L ty).2.2 = 0
    ·have HN:=Hd (HYes.out (by unfold shN;simp [hz]))
     rw [hz] at HS2
     clear hz
     go_upto_region 17 with fail
     go_region_with (go_at_call 79;(with_reducible refine HS2.out.mono ?_);rintro e w3 ⟨rfl,hb3⟩;have HB3:=Hd hb3;clear hb3)
     all_goals
      go_wp2_with fail
      go_roundg (k - i)
      case measure=>omega
      case rel=>exact ⟨i + 1,by omega,by omega,by rw [Int.natCast_add];rfl,⟨HB2.out.trans ((Below.refl _ _).drew.trans (HB3.out.mono (Nat.le_refl _)) |>.mono HB2.out.size),by have:=HG.out.2.1;omega,HN.out⟩⟩
    ·have t2:((sizeR L ty).2.2 != 0) = true:=by simpa using hz
     have HN:=Hd (HNo.out (by unfold shN;simp [hz]))
     generalize (sizeR L ty).2.2 = z at *
     clear hz
     go_upto_region 17 with fail
     go_region_with (go_at_call 79;(with_reducible refine HS2.out.mono ?_);rintro e w3 ⟨rfl,hb3⟩;have HB3:=Hd hb3;clear hb3)
     all_goals
      go_wp2_with fail
      go_ret
      exact ⟨by rw [HN.out];rfl,HB2.out.trans ((Below.refl _ _).drew.trans (HB3.out.mono (Nat.le_refl _)) |>.mono HB2.out.size)⟩
   have q17:(kk == 17) = false:=by simpa using k17
   have HN:=Hd (HNo.out (by unfold shN;simp [k1,k9,k4,k7,k15,k17]))
   clear k1 k9 k4 k7 k15 k17
   go_wp2_with fail
   go_ret
   exact ⟨by rw [HN.out];rfl,HB2.out⟩
  ·obtain rfl:i = k + 1:=by omega
   have t0:decide (((k + 1:Nat):Int) ≤ (k:Int)) = false:=by simp;omega
   go_wp2_with fail
   go_ret
   exact ⟨by rw [HG.out.2.2];rfl,HG.out.1⟩
end Go.Proofs.YtlcfejgjeljjdaaGreatDoor
