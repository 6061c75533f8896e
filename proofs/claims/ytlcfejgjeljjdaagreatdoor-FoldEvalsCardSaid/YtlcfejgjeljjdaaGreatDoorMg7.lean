/- Structs are looked at one by one: the program. · An argument that is a slice, opened by its elements. · An argument that is a list of structs, opened. · The rows' last step, alike for all laws: the arguments read · Numbers of the integer types · Trees: nodes behind their parts; where a part begins, what i · Trees: what is so of parts, of open ifs, of depths -/
import Derived.Test.YtlcfejgjeljjdaaGreatDoorAdd2
import Derived.Test.YtlcfejgjeljjdaaGreatDoorChecked
import Derived.Test.YtlcfejgjeljjdaaGreatDoorMg1
import Derived.Deep.Slices
import Derived.ProofKit
import Derived.OpenShut
import Derived.SizedLaws
import Derived.Test.YtlcfejgjeljjdaaGreatDoorRows
import Derived.JoinedCond
namespace Go.Proofs.YtlcfejgjeljjdaaGreatDoor
open Go.RowKit Go.Maps
def SrRow (B:Nat) (w:World) (b off:Nat) (L:List Sr) (mv:List Value):Prop:=∀ i x v,L[i]? = some x → mv[i]? = some v → w.cell? ⟨b,off + i * 2,none⟩ = some (.string x.name) ∧ w.cell? ⟨b,off + i * 2 + 1,none⟩ = some v ∧ IsMems B w v x.mems
structure IsSrs (B:Nat) (w:World) (a:Option Addr) (L:List Sr) (mv:List Value):Prop where
 len:mv.length = L.length
 at_:L ≠ [] → ∃ b off,a = some ⟨b,off,none⟩ ∧ b < B ∧ SrRow B w b off L mv
 names:∀ x ∈ L,x.name.size ≤ maxLen
theorem SrRow.below {B b off:Nat} {w w':World} {L:List Sr} {mv:List Value} (h:SrRow B w b off L mv) (hb:Below B w w') (hB:b < B):SrRow B w' b off L mv:=fun i x v hi hv=>by
 rw [hb.cell hB,hb.cell hB]
 obtain ⟨h1,h2,h3⟩:=h i x v hi hv
 exact ⟨h1,h2,h3.below hb (Nat.le_refl _)⟩
theorem IsSrs.below {B:Nat} {w w':World} {a:Option Addr} {L:List Sr} {mv:List Value} (h:IsSrs B w a L mv) (hb:Below B w w'):IsSrs B w' a L mv:=
 ⟨h.len,fun hn=>(by obtain ⟨b,off,e,hlt,hr⟩:=h.at_ hn;exact ⟨b,off,e,hlt,hr.below hb hlt⟩),h.names⟩
theorem memsK_ne {K:List Kn}:∀ (l:List (ByteArray × ByteArray)) (seen:List ByteArray) (n a:Nat) {c:Int},memsK K l seen n a = .inl c → c ≠ 0
 | [],_,_,_,_,h=>by rw [memsK] at h;cases h
 | m :: l,seen,n,a,c,h=>by
   rw [memsK] at h
   split at h
   ·obtain rfl:=Sum.inl.inj h;decide
   ·split at h
    ·obtain rfl:=Sum.inl.inj h;decide
    ·split at h
     ·obtain rfl:=Sum.inl.inj h;decide
     ·split at h
      ·obtain rfl:=Sum.inl.inj h;assumption
      ·split at h
       ·obtain rfl:=Sum.inl.inj h;decide
       ·exact memsK_ne l _ _ _ h
theorem addK_ne {K:List Kn} {x:Sr} {c:Int} (h:addK K x = .inl c):c ≠ 0:=by
 unfold addK at h
 split at h
 ·obtain rfl:=Sum.inl.inj h;decide
 ·split at h
  ·obtain rfl:=Sum.inl.inj h;decide
  ·split at h
   ·obtain rfl:=Sum.inl.inj h;decide
   ·split at h
    ·obtain rfl:=Sum.inl.inj h;decide
    ·split at h
     ·obtain rfl:=Sum.inl.inj h
      rename_i h1
      exact memsK_ne _ _ _ _ h1
     ·split at h
      ·obtain rfl:=Sum.inl.inj h;decide
      ·cases h
theorem memsK_al {K:List Kn} (hF:FitK K):∀ (l:List (ByteArray × ByteArray)) (seen:List ByteArray) (n a:Nat) {n' a':Nat},1 ≤ a ∧ a ≤ 4 → memsK K l seen n a = .inr (n',a') → 1 ≤ a' ∧ a' ≤ 4
 | [],_,_,_,_,_,ha,h=>by rw [memsK] at h;obtain ⟨rfl,rfl⟩:=Prod.mk.inj (Sum.inr.inj h);exact ha
 | m :: l,seen,n,a,n',a',ha,h=>by
   rw [memsK] at h
   split at h
   ·cases h
   ·split at h
    ·cases h
    ·split at h
     ·cases h
     ·split at h
      ·cases h
      ·split at h
       ·cases h
       ·rename_i t _ _ _
        have:=meas_al hF t
        exact memsK_al hF l _ _ _ (by omega) h
theorem addK_fit {K:List Kn} (hF:FitK K) (h64:K.length < 64) {x:Sr} {k:Kn} (h:addK K x = .inr k):FitK (K ++ [k]):=by
 refine ⟨by simp;omega,fun k' hk'=>?_⟩
 rcases List.mem_append.1 hk' with h1 | h1
 ·exact hF.2 k' h1
 ·obtain rfl:=List.mem_singleton.1 h1
  refine ⟨(addK_bd h).2.2,?_⟩
  unfold addK at h
  split at h
  ·cases h
  ·split at h
   ·cases h
   ·split at h
    ·cases h
    ·split at h
     ·cases h
     ·split at h
      ·cases h
      ·split at h
       ·cases h
       ·rename_i n a hm _
        obtain rfl:=Sum.inr.inj h
        exact memsK_al hF _ _ _ _ ⟨Nat.le_refl _,by decide⟩ hm
def LearnEnd (mv:List Value) (L:List Sr) (w:World) (e:Ending) (w':World):Prop:=
 Below w.heap.size w w' ∧ ((∃ (i:Nat) (c:Int),learnK L = .inl (i,c) ∧ c ≠ 0 ∧ e = .returned (.tuple #[.pointer none,.agg #[.int .i64 (i:Int),.int .i64 c]])) ∨
  ∃ K b mb lv sv av,learnK L = .inr K ∧ e = .returned (.tuple #[.pointer (some ⟨b,0,none⟩),.agg #[.int .i64 0,.int .i64 0]]) ∧ FitK K ∧ KnAt (w.heap.size + 1) w' b mb lv sv av mv K)
structure LearnInv (w w1:World) (b mb:Nat) (mv:List Value) (L:List Sr) (wy:World) (j:Nat) (K:List Kn):Prop where
 rest:learnF [] L = learnF K (L.drop j)
 len:K.length = j
 fit:FitK K
 below:Below (w.heap.size + 1) w1 wy
 kn:∃ lv sv av,KnAt (w.heap.size + 1) wy b mb lv sv av (mv.take j) K
theorem learn_no {mv:List Value} {L:List Sr} {w w':World} {i:Nat} {c:Int} (h:learnK L = .inl (i,c)) (hc:c ≠ 0) (hb:Below w.heap.size w w') :
 LearnEnd mv L w (.returned (.tuple #[.pointer none,.agg #[.int .i64 (i:Int),.int .i64 c]])) w':=⟨hb,.inl ⟨i,c,h,hc,rfl⟩⟩
theorem learn_yes {mv:List Value} {L:List Sr} {w w':World} {K:List Kn} {b mb:Nat} {lv sv av:Value} (h:learnK L = .inr K) (hF:FitK K) (hk:KnAt (w.heap.size + 1) w' b mb lv sv av mv K) (hb:Below w.heap.size w w') :
 LearnEnd mv L w (.returned (.tuple #[.pointer (some ⟨b,0,none⟩),.agg #[.int .i64 0,.int .i64 0]])) w':=⟨hb,.inr ⟨K,b,mb,lv,sv,av,h,rfl,hF,hk⟩⟩
theorem IsMems.mono {B B':Nat} {w:World} {v:Value} {L:List (ByteArray × ByteArray)} (h:IsMems B w v L) (hB:B ≤ B'):IsMems B' w v L:=by
 obtain ⟨a,cap,rfl,hr⟩:=h
 refine ⟨a,cap,rfl,fun hn=>?_⟩
 obtain ⟨b,off,rfl,hlt,hm⟩:=hr hn
 exact ⟨b,off,rfl,Nat.lt_of_lt_of_le hlt hB,hm⟩
theorem KnAt.low {B b mb:Nat} {w:World} {lv sv av:Value} {mv:List Value} {K:List Kn} (h:KnAt B w b mb lv sv av mv K) (a:Addr) (ha:a.block < B) (v:Value):KnAt B (w.setCell a v) b mb lv sv av mv K:=
 ⟨by rw [Below.heap_setCell _ _ _ _ (by have:=h.base.1;omega)];exact h.blk,h.base,h.names.other _ (by have:=h.base.2.1;omega) _,ownsRow_setCell_below h.sizes ha _,ownsRow_setCell_below h.aligns ha _,ownsRow_setCell_below h.list ha _,h.mems,h.apart⟩
theorem learntW_kn1 (w:World):KnAt (w.heap.size + 1) (learntW w) (w.heap.size + 2) (w.heap.size + 1) (.slice none 0 0) (.slice none 0 0) (.slice none 0 0) [] []:=
 knAt_nil (learntW_kn w).blk ⟨by omega,by omega,by omega⟩ (learntW_kn w).names
theorem learnInv_start {w:World} {mv:List Value} {L:List Sr}:LearnInv w (learntW w) (w.heap.size + 2) (w.heap.size + 1) mv L (learntW w) 0 []:=
 ⟨rfl,rfl,fitK_nil,Below.refl _ _,_,_,_,learntW_kn1 w⟩
theorem LearnInv.next {w w1 w2 w3 wy:World} {b mb j:Nat} {mv:List Value} {L:List Sr} {K:List Kn} {x:Sr} {v:Value} {k:Kn} {lv sv av:Value} (h:LearnInv w w1 b mb mv L wy j K) (hj:K.length < 64) (h1:w.heap.size + 1 ≤ wy.heap.size) (h2:Below wy.heap.size wy w2) (h3:Below (w.heap.size + 1) w2 w3)
 (hx:L.drop j = x :: L.drop (j + 1)) (hv:mv.take (j + 1) = mv.take j ++ [v]) (hk:addK K x = .inr k) (hkn:KnAt (w.heap.size + 1) w3 b mb lv sv av (mv.take j ++ [v]) (K ++ [k])):LearnInv w w1 b mb mv L w3 (j + 1) (K ++ [k]):=by
 refine ⟨?_,by simp [h.len],addK_fit h.fit hj hk,h.below.trans ((h2.mono h1).trans h3),lv,sv,av,by rw [hv];exact hkn⟩
 rw [h.rest,hx,learnF,hk]
theorem LearnInv.bad {w w1 wy:World} {b mb j:Nat} {mv:List Value} {L:List Sr} {K:List Kn} {x:Sr} {c:Int} (h:LearnInv w w1 b mb mv L wy j K) (hx:L.drop j = x :: L.drop (j + 1)) (hk:addK K x = .inl c):learnF [] L = .inl (j,c):=by
 rw [h.rest,hx,learnF,hk,h.len]
theorem LearnInv.done {w w1 wy:World} {b mb:Nat} {mv:List Value} {L:List Sr} {K:List Kn} (h:LearnInv w w1 b mb mv L wy L.length K):learnF [] L = .inr K:=by
 rw [h.rest,List.drop_length,learnF]
set_option maxRecDepth 100000 in
set_option maxHeartbeats 4000000 in
theorem learn_ok (a:Option Addr) (cap:Nat) (L:List Sr) (mv:List Value) (w:World) (hE:TE w) (hS:IsSrs w.heap.size w a L mv) :
 Calls Tryz.prog 78 #[.slice a L.length cap] w fun e w'=>LearnEnd mv L w e w':=by
 have HE:=Hd hE
 have HS:=Hd hS
 have hmm:=@run_makeMap Tryz.prog
 clear hE hS
 by_cases h64:64 < L.length
 ·have hfin:=Hd (show learnK L = .inl (0,3) by unfold learnK;rw [if_pos h64])
  have t1:(64:Int) < L.length:=by omega
  clear h64
  go_enter Tryz.func78,Tryz.ntmps78
  go_wp2_with fail
  exact bodyPost_ret (v:=.tuple #[.pointer none,.agg #[.int .i64 ((0:Nat):Int),.int .i64 3]]) (by simp [results,Tryz.results78,go_sem]) rfl (learn_no hfin.out (by decide) ((Below.refl _ _).alloc (Nat.le_refl _) _))
 have t1:(L.length:Int) ≤ 64:=by omega
 have hL:=Hd (show learnK L = learnF [] L by unfold learnK;rw [if_neg h64])
 have hat:=learntW_at w
 obtain ⟨⟨d0,d1⟩,fd⟩:=two_block hat
 have hkn:=learntW_kn w
 go_enter Tryz.func78,Tryz.ntmps78
 go_wp2_with fail
 rw [learntW_eq]
 have hi0:=learnInv_start (w:=w) (mv:=mv) (L:=L)
 have hw1:=learntW_below w
 have hsz:=learntW_size w
 generalize learntW w = w1 at *
 have HI0:=Hd hi0
 have HW1:=Hd hw1
 have HAt:=Hd hat
 have HSz:=Hd hsz
 clear hkn hi0 hw1 fd hat hsz d0 d1
 go_loopg [17] L.length (fun g v17 wy=>∃ (j:Nat) (K:List Kn),j ≤ L.length ∧ j + g = L.length ∧ v17 = .int .i64 (j:Int) ∧ Hid (LearnInv w w1 (w.heap.size + 2) (w.heap.size + 1) mv L wy j K))
 case atStart=>exact ⟨0,[],by omega,by omega,rfl,HI0.out⟩
 case round=>
  obtain ⟨j,K,hj,hjg,rfl,HI⟩:=hrel
  have hbr:Below w.heap.size w wr:=HW1.out.trans (HI.out.below.mono (by omega))
  have hzr:w.heap.size + 1 ≤ wr.heap.size:=by have:=HI.out.below.size;have:=HSz.out;omega
  have hat:wr.heap[w.heap.size]? = some (.cells #[.int .i64 0,.int .i64 0] 77 (0,0)):=(HI.out.below.block _ (by omega)).trans HAt.out
  by_cases hlt:j < L.length
  ·obtain ⟨bb,off,ha,hbl,hrow⟩:=HS.out.at_ (fun e=>by rw [e] at hlt;simp at hlt)
   have hlm:j < mv.length:=by rw [HS.out.len];exact hlt
   obtain ⟨e1,e2,hms⟩:=hrow j _ _ (List.getElem?_eq_getElem hlt) (List.getElem?_eq_getElem hlm)
   rw [← hbr.cell hbl] at e1 e2
   have hx:=drop_at L j hlt
   have hv:=take_at mv j hlm
   have hnx:=HS.out.names _ (List.getElem_mem hlt)
   generalize L[j]'hlt = x at *
   generalize mv[j]'hlm = v at *
   have HX:=Hd hx
   have HV:=Hd hv
   have HMs:=Hd (hms.below hbr (Nat.le_refl _))
   have HMl:=Hd HS.out.len
   obtain ⟨am,cm,rfl,_⟩:=hms
   have HAt':=Hd hat
   have HNx:=Hd hnx
   have HBr:=Hd hbr
   clear hx hv hrow hlm hat hnx hbr
   subst ha
   go_upto_region 7 with fail
   have hm2:(wr.alloc (.cells #[.string x.name,.slice am x.mems.length cm] 45)).heap[wr.heap.size]? = some (.cells #[.string x.name,.slice am x.mems.length cm] 45 (0,0)):=heap_alloc_new _ _
   have hb2:Below wr.heap.size wr (wr.alloc (.cells #[.string x.name,.slice am x.mems.length cm] 45)):=(Below.refl _ _).alloc (Nat.le_refl _) _
   generalize wr.alloc (.cells #[.string x.name,.slice am x.mems.length cm] 45) = w2 at *
   obtain ⟨⟨m0,m1⟩,_⟩:=two_block hm2
   have HB2:=Hd hb2
   have hbw2:=HBr.out.trans (hb2.mono HBr.out.size)
   have hk64:K.length < 64:=by have:=HI.out.len;omega
   obtain ⟨lv,sv,av,hkn⟩:=HI.out.kn
   have HA:=Hd (add_ok x (.slice am x.mems.length cm) w2 (HE.out.below hbw2) (hkn.below hb2) HI.out.fit hk64 HNx.out ((HMs.out.below hb2 HBr.out.size).mono hbw2.size))
   have h30:=(hb2.block _ (by omega)).trans HAt'.out
   have HAt2:=Hd h30
   have hz2:=lt_of_heap h30
   clear hkn hbw2 hb2 hm2 h30 e1 e2
   go_wp2_with (go_at_call 101;(with_reducible refine HA.out.mono ?_))
   intro e w3 hend
   obtain ⟨hb3,⟨c,hc,rfl⟩ | ⟨k,lv',sv',av',hk,rfl,hkn⟩⟩:=hend
   ·have hfin:=Hd (hL.out.trans (HI.out.bad HX.out hc))
    have hcn:=addK_ne hc
    have t3:(c != 0) = true:=by simp [hcn]
    have h31:=(hb3.block _ (by omega)).trans HAt2.out
    have hz3:=lt_of_heap h31
    obtain ⟨⟨d0,d1⟩,fd⟩:=two_block h31
    have fd0:=fd 0
    have fd1:=fd 1
    have HB3:=Hd (HBr.out.trans ((HB2.out.mono HBr.out.size).trans (hb3.mono (Nat.le_succ _))))
    have HCn:=Hd hcn
    clear fd hb3 hc hcn h31
    go_wp2_with fail
    exact bodyPost_ret (v:=.tuple #[.pointer none,.agg #[.int .i64 (j:Int),.int .i64 c]]) (by simp [results,Tryz.results78,go_sem,d0,d1]) rfl (learn_no hfin.out HCn.out (set_fault HB3.out _ _))
   ·have HN:=Hd (HI.out.next hk64 hzr HB2.out hb3 HX.out HV.out hk hkn)
    clear hb3 hk hkn
    go_wp2_with fail
    go_roundg (L.length - (j + 1))
    case measure=>omega
    case rel=>exact ⟨j + 1,K ++ [k],by omega,by omega,by rw [Int.natCast_add];rfl,HN.out⟩
  ·obtain rfl:j = L.length:=by omega
   have t3:(L.length:Int) ≤ (L.length:Int):=Int.le_refl _
   have hfin:=Hd (hL.out.trans HI.out.done)
   obtain ⟨lv,sv,av,hkn⟩:=HI.out.kn
   have htk:mv.take L.length = mv:=List.take_of_length_le (by rw [HS.out.len];exact Nat.le_refl _)
   rw [htk] at hkn
   have HKn:=Hd hkn
   have HFt:=Hd HI.out.fit
   have HBr:=Hd hbr
   have hz3:=lt_of_heap hat
   obtain ⟨⟨d0,d1⟩,fd⟩:=two_block hat
   have fd0:=fd 0
   have fd1:=fd 1
   clear fd hbr hkn hat
   go_wp2_with fail
   exact bodyPost_ret (v:=.tuple #[.pointer (some ⟨w.heap.size + 2,0,none⟩),.agg #[.int .i64 0,.int .i64 0]]) (by simp [results,Tryz.results78,go_sem,d0,d1]) rfl (learn_yes hfin.out HFt.out ((HKn.out.low _ (Nat.lt_succ_self _) _).low _ (Nat.lt_succ_self _) _) (set_fault HBr.out _ _))
end Go.Proofs.YtlcfejgjeljjdaaGreatDoor
namespace Go.Proofs.YtlcfejgjeljjdaaGreatDoor
open Go.ChangeShapes Go.WideShapes Go.ChangeAt Go.RowKit Go.Deep
def IsSl {α:Type} (k:Nat) (cells:α → List Value) (B:Nat) (w:World) (a:Option Addr) (L:List α):Prop:=
 L ≠ [] → ∃ b off,a = some ⟨b,off,none⟩ ∧ b < B ∧ ∀ (i:Nat) t,L[i]? = some t → ∀ (j:Nat) u,(cells t)[j]? = some u → w.cell? ⟨b,off + i * k + j,none⟩ = some u
theorem IsSl.below {α:Type} {k:Nat} {cells:α → List Value} {B B':Nat} {w w':World} {a:Option Addr} {L:List α} (h:IsSl k cells B w a L) (hb:Below B' w w') (hB:B ≤ B'):IsSl k cells B w' a L:=fun hn=>by
 obtain ⟨b,off,rfl,hlt,hc⟩:=h hn
 exact ⟨b,off,rfl,hlt,fun i t ht j u hu=>by rw [hb.cell (show b < B' by omega)];exact hc i t ht j u hu⟩
theorem IsSl.mono {α:Type} {k:Nat} {cells:α → List Value} {B B':Nat} {w:World} {a:Option Addr} {L:List α} (h:IsSl k cells B w a L) (hB:B ≤ B'):IsSl k cells B' w a L:=fun hn=>by
 obtain ⟨b,off,rfl,hlt,hc⟩:=h hn
 exact ⟨b,off,rfl,by omega,hc⟩
theorem isSl_nil {α:Type} {k:Nat} {cells:α → List Value} {B:Nat} {w:World} {a:Option Addr}:IsSl k cells B w a []:=fun h=>absurd rfl h
section
variable {H:Type} {enc:TypeId × Value → H} {w:World} {base:Nat} {spare:Nat → Bool} {held:Bool}
theorem open_list {t e:TypeId} {k:Nat} (hk0:0 < k) (ht:Tryz.prog.underlying t = some (.slice e)) (hk:Tryz.prog.cellsOf e = k) {α:Type} (cells:α → List Value) (data:α → DataW H) (Ok:α → Prop)
 (hel:∀ {n:Nat} {cs:List Value} {D:DataW H} {pl:List MemPlace},DataW.trod enc Tryz.prog w base spare held n e cs = some (D,pl) → ∃ a,cs = cells a ∧ D = data a ∧ Ok a)
 {fuel:Nat} {v:Value} {x:DataW H × List MemPlace} (h:DataW.trod enc Tryz.prog w base spare held fuel t [v] = some x) :
 ∃ (a:Option Addr) (cap:Nat) (L:List α),v = .slice a L.length cap ∧ L.length ≤ cap ∧ cap ≤ maxLen ∧ (a = none → L = [] ∧ cap = 0) ∧ ((x.1 = .nil ∧ L = []) ∨ ∃ rest,x.1 = .slice (L.map data) rest) ∧ IsSl k cells w.heap.size w a L ∧ ∀ t ∈ L,Ok t:=by
 rcases open_slice ht h with ⟨hv,hx⟩ | ⟨a,len,cap,m,n,D,Pl,hv,_,hl,hcm,hm,hx,hi⟩
 ·exact ⟨none,0,[],by simpa using hv,Nat.zero_le _,Nat.zero_le _,fun _=>⟨rfl,rfl⟩,.inl ⟨by rw [hx],rfl⟩,isSl_nil,fun t ht=>by cases ht⟩
 ·have hlm:len ≤ m:=by rw [hm];split <;> omega
  have hD:∀ i,i < len → ∃ t:α,D i = data t ∧ Ok t ∧ (cells t).length = k ∧ ∀ j,j < k → w.cell? ((a.add (i * k)).add j) = (cells t)[j]?:=fun i hlt=>by
   obtain ⟨cs',hc,ht⟩:=hi i (by omega)
   obtain ⟨t,rfl,hd,hok⟩:=hel ht
   rw [hk] at hc
   exact ⟨t,hd,hok,(World.cells?_some hc).2⟩
  have key:∀ q,q ≤ len → ∃ L:List α,L.length = q ∧ (List.range q).map D = L.map data ∧ ∀ (i:Nat) t,L[i]? = some t → Ok t ∧ (cells t).length = k ∧ ∀ j,j < k → w.cell? ((a.add (i * k)).add j) = (cells t)[j]?:=by
   intro q
   induction q with
   | zero=>intro _;exact ⟨[],rfl,rfl,fun i t hi=>by simp at hi⟩
   | succ q ih=>
     intro hq
     obtain ⟨L,hL,hm',hc⟩:=ih (by omega)
     obtain ⟨t,hd,hok,hcell⟩:=hD q (by omega)
     refine ⟨L ++ [t],by simp [hL],by rw [List.range_succ,List.map_append,List.map_append,hm'];simp [hd],fun i u hu=>?_⟩
     rcases Nat.lt_or_ge i L.length with h' | h'
     ·rw [List.getElem?_append_left h'] at hu;exact hc i u hu
     ·rw [List.getElem?_append_right h'] at hu
      have hi0:i - L.length = 0:=by
       rcases Nat.eq_zero_or_pos (i - L.length) with h0 | h0
       ·exact h0
       ·rw [List.getElem?_eq_none (by simp;omega)] at hu;cases hu
      rw [hi0] at hu
      obtain rfl:=Option.some.inj hu
      obtain rfl:i = q:=by omega
      exact ⟨hok,hcell⟩
  obtain ⟨L,hL,hm',hc⟩:=key len (Nat.le_refl _)
  subst hL
  refine ⟨some a,cap,L,by simpa using hv,hl,hcm,(fun h=>by cases h),.inr ⟨_,by rw [hx,hm']⟩,fun hne=>?_,fun t ht=>?_⟩
  ·obtain ⟨b,off,sp⟩:=a
   have h0:0 < L.length:=List.length_pos_iff.2 hne
   have hsp:sp = none:=by
    obtain ⟨_,hlk,hat⟩:=hc 0 _ (List.getElem?_eq_getElem h0)
    have h:=hat 0 hk0
    rw [List.getElem?_eq_getElem (by omega)] at h
    simp only [Nat.zero_mul,Addr.add,if_true,World.cell?] at h
    cases sp with
    | none=>rfl
    | some z=>
      exfalso
      simp at h
      split at h <;> simp at h
   subst hsp
   have hadd:∀ i j,(((⟨b,off,none⟩:Addr).add i).add j) = ⟨b,off + i + j,none⟩:=by
    intro i j
    unfold Addr.add
    split <;> split <;> simp_all
   have hall:∀ (i:Nat) t,L[i]? = some t → ∀ (j:Nat) u,(cells t)[j]? = some u → w.cell? ⟨b,off + i * k + j,none⟩ = some u:=fun i t ht j u hu=>by
    obtain ⟨_,hlk,hat⟩:=hc i t ht
    have hj:j < k:=by obtain ⟨h1,_⟩:=List.getElem?_eq_some_iff.1 hu;omega
    have:=hat j hj
    rw [hadd] at this
    rw [this,hu]
   refine ⟨b,off,rfl,?_,hall⟩
   obtain ⟨_,hlk,_⟩:=hc 0 _ (List.getElem?_eq_getElem h0)
   exact World.block_lt_of_cell? w _ (hall 0 _ (List.getElem?_eq_getElem h0) 0 _ (List.getElem?_eq_getElem (by omega)))
  ·obtain ⟨i,hi,rfl⟩:=List.getElem_of_mem ht
   exact (hc i _ (List.getElem?_eq_getElem hi)).1
end
end Go.Proofs.YtlcfejgjeljjdaaGreatDoor
namespace Go.Proofs.YtlcfejgjeljjdaaGreatDoor
open Go.ChangeShapes Go.WideShapes Go.ChangeAt Go.RowKit Go.Deep
section
variable {H:Type} {enc:TypeId × Value → H} {w:World} {base:Nat} {spare:Nat → Bool} {held:Bool}
def memCells (m:ByteArray × ByteArray):List Value:=[.string m.1,.string m.2]
def memData (m:ByteArray × ByteArray):DataW H:=.agg [.lit (.string m.1.data.toList),.lit (.string m.2.data.toList)]
theorem cellsMem:Tryz.prog.cellsOf 142 = 2:=by kernel_rfl
theorem cellsSt:Tryz.prog.cellsOf 45 = 2:=by kernel_rfl
theorem cellsS1:Tryz.prog.cellsOf 9 = 1:=by kernel_rfl
theorem cellsT1:Tryz.prog.cellsOf 27 = 1:=by kernel_rfl
theorem cellsMs:Tryz.prog.cellsOf 43 = 1:=by kernel_rfl
set_option maxRecDepth 100000 in
theorem open_mem {n:Nat} {cs:List Value} {D:DataW H} {pl:List MemPlace} (h:DataW.trod enc Tryz.prog w base spare held n 142 cs = some (D,pl)) :
 ∃ m:ByteArray × ByteArray,cs = memCells m ∧ D = memData m ∧ m.1.size ≤ maxLen:=by
 obtain ⟨xs,n',_,hx,hlen,hxs,hf⟩:=DataW.trod_struct Tryz.underlying142 h
 rw [cellsMem] at hlen
 match cs,hlen with
 | [c0,c1],_=>
   match xs,hxs with
   | [y0,y1],_=>
     have f0:=hf 0 _ rfl
     have f1:=hf 1 _ rfl
     simp [cellsS1] at f0
     simp [cellsT1] at f1
     obtain ⟨a,e0,r0,l0⟩:=DataW.trod_string Tryz.underlying9 f0
     obtain ⟨b,e1,r1,_⟩:=DataW.trod_string Tryz.underlying27 f1
     simp only [List.cons.injEq,and_true] at e0 e1
     subst e0 e1 r0 r1
     exact ⟨(a,b),rfl,congrArg Prod.fst hx,l0⟩
theorem isMems_of {w:World} {a:Option Addr} {cap:Nat} {L:List (ByteArray × ByteArray)} {B:Nat} (h:IsSl 2 memCells B w a L):IsMems B w (.slice a L.length cap) L:=
 ⟨a,cap,rfl,fun hn=>by
   obtain ⟨b,off,e,hlt,hc⟩:=h hn
   exact ⟨b,off,e,hlt,fun i m hm=>⟨hc i m hm 0 _ rfl,hc i m hm 1 _ rfl⟩⟩⟩
def srCells (q:Sr × Value × DataW H):List Value:=[.string q.1.name,q.2.1]
def srData (q:Sr × Value × DataW H):DataW H:=.agg [.lit (.string q.1.name.data.toList),q.2.2]
def SrOk (w:World) (q:Sr × Value × DataW H):Prop:=q.1.name.size ≤ maxLen ∧ IsMems w.heap.size w q.2.1 q.1.mems ∧ (∀ m ∈ q.1.mems,m.1.size ≤ maxLen) ∧ (∀ cap n,q.2.1 = .slice none n cap → n = 0 ∧ cap = 0) ∧ ((q.2.2 = .nil ∧ q.1.mems = []) ∨ ∃ rest,q.2.2 = .slice (q.1.mems.map memData) rest)
set_option maxRecDepth 100000 in
theorem open_sr {n:Nat} {cs:List Value} {D:DataW H} {pl:List MemPlace} (h:DataW.trod enc Tryz.prog w base spare held n 45 cs = some (D,pl)) :
 ∃ q:Sr × Value × DataW H,cs = srCells q ∧ D = srData q ∧ SrOk w q:=by
 obtain ⟨xs,n',_,hx,hlen,hxs,hf⟩:=DataW.trod_struct Tryz.underlying45 h
 rw [cellsSt] at hlen
 match cs,hlen with
 | [c0,c1],_=>
   match xs,hxs with
   | [y0,y1],_=>
     have f0:=hf 0 _ rfl
     have f1:=hf 1 _ rfl
     simp [cellsS1] at f0
     simp [cellsMs] at f1
     obtain ⟨a,e0,r0,l0⟩:=DataW.trod_string Tryz.underlying9 f0
     simp only [List.cons.injEq,and_true] at e0
     subst e0 r0
     obtain ⟨am,cm,L,rfl,_,hl,hn,hd,hs,hok⟩:=open_list (by decide) Tryz.underlying43 cellsMem memCells memData (fun m=>m.1.size ≤ maxLen) (fun h=>open_mem h) f1
     refine ⟨(⟨a,L⟩,.slice am L.length cm,y1.1),rfl,congrArg Prod.fst hx,l0,isMems_of hs,hok,fun cap n e=>?_,hd⟩
     simp only [Value.slice.injEq] at e
     obtain ⟨e1,e2,e3⟩:=e
     obtain ⟨h1,h2⟩:=hn e1
     exact ⟨by rw [← e2,h1];rfl,by omega⟩
theorem open_srs {fuel:Nat} {v:Value} {x:DataW H × List MemPlace} (h:DataW.trod enc Tryz.prog w base spare held fuel 24 [v] = some x) :
 ∃ (a:Option Addr) (cap:Nat) (Q:List (Sr × Value × DataW H)),v = .slice a Q.length cap ∧ Q.length ≤ cap ∧ cap ≤ maxLen ∧ (a = none → Q = [] ∧ cap = 0) ∧ ((x.1 = .nil ∧ Q = []) ∨ ∃ rest,x.1 = .slice (Q.map srData) rest) ∧ IsSrs w.heap.size w a (Q.map Prod.fst) (Q.map fun q=>q.2.1) ∧ ∀ q ∈ Q,SrOk w q:=by
 obtain ⟨a,cap,Q,hv,hl,hc,hn,hd,hs,hok⟩:=open_list (by decide) Tryz.underlying24 cellsSt srCells srData (SrOk w) (fun h=>open_sr h) h
 refine ⟨a,cap,Q,hv,hl,hc,hn,hd,⟨by simp,fun hne=>?_,fun y hy=>?_⟩,hok⟩
 ·obtain ⟨b,off,e,hlt,hc⟩:=hs (fun e=>hne (by rw [e];rfl))
  refine ⟨b,off,e,hlt,fun i y u hy hu=>?_⟩
  rw [List.getElem?_map,Option.map_eq_some_iff] at hy hu
  obtain ⟨q,hq,rfl⟩:=hy
  obtain ⟨q',hq',rfl⟩:=hu
  obtain rfl:=Option.some.inj (hq.symm.trans hq')
  exact ⟨hc i q hq 0 _ rfl,hc i q hq 1 _ rfl,(hok q (List.mem_of_getElem? hq)).2.1⟩
 ·obtain ⟨q,hq,rfl⟩:=List.mem_map.1 hy
  exact (hok q hq).1
theorem weightsAll_mem {P:Program} {e:TypeId} {l:List (DataW H)} {d:DataW H} (h:d ∈ l) {n:Nat} (hn:n ∈ d.weights P e):n ∈ DataW.weightsAll P e l:=by
 induction l with
 | nil=>cases h
 | cons x r ih=>
   rw [DataW.weightsAll]
   rcases List.mem_cons.1 h with rfl | h
   ·exact List.mem_append_left _ hn
   ·exact List.mem_append_right _ (ih h)
theorem srs_sized {ts:List TypeId} {ds:List (DataW H)} (hw:(DataW.weightsEach Tryz.prog ts ds).all (· ≤ reachBytes) = true) {j:Nat} {D:DataW H} {Q:List (Sr × Value × DataW H)} (ht:ts[j]? = some 24) (hD:ds[j]? = some D) (hd:(D = .nil ∧ Q = []) ∨ ∃ rest,D = .slice (Q.map srData) rest) (hok:∀ q ∈ Q,SrOk w q) :
 Q.length * 40 ≤ 140737488351232 ∧ ∀ q ∈ Q,q.1.mems.length * 32 ≤ 140737488351232:=by
 rcases hd with ⟨_,rfl⟩ | ⟨rest,rfl⟩
 ·exact ⟨by simp,fun q hq=>by cases hq⟩
 have hr:reachBytes = 140737488351232:=rfl
 refine ⟨?_,fun q hq=>?_⟩
 ·have:=sized_slice hw ht hD Tryz.underlying24
  rw [show Tryz.prog.bytesOf 45 = 40 by kernel_rfl,List.length_map,hr] at this
  omega
 ·rcases (hok q hq).2.2.2.2 with ⟨_,h0⟩ | ⟨rm,h0⟩
  ·rw [h0];simp
  ·have hm:(q.1.mems.length + rm.length) * 32 ∈ (srData q).weights Tryz.prog 45:=by
    unfold srData
    rw [DataW.weights,Tryz.underlying45]
    simp only [DataW.weightsEach,List.map]
    refine List.mem_append_right _ (List.mem_append_left _ ?_)
    rw [h0,DataW.weights,Tryz.underlying43]
    simp only [List.length_map]
    rw [show Tryz.prog.bytesOf 142 = 32 by kernel_rfl]
    exact List.mem_cons_self
   have h1:(q.1.mems.length + rm.length) * 32 ∈ (DataW.slice (Q.map srData) rest).weights Tryz.prog 24:=by
    rw [DataW.weights,Tryz.underlying24]
    exact List.mem_cons_of_mem _ (List.mem_append_left _ (weightsAll_mem (List.mem_map_of_mem hq) hm))
   have:=List.all_eq_true.1 hw _ (DataW.weights_mem_each ht hD _ h1)
   rw [hr] at this
   have:=of_decide_eq_true this
   omega
end
end Go.Proofs.YtlcfejgjeljjdaaGreatDoor
namespace Go.Proofs.YtlcfejgjeljjdaaGreatDoor
open Go.ChangeShapes Go.WideShapes Go.ChangeAt Go.RowKit
theorem laidOut:laidOutB Tryz.prog = true:=by kernel_rfl
section
variable {H:Type} {enc:TypeId × Value → H}
theorem all_stays {W W':World} (hb:Below W.heap.size W W'):∀ {ts:List TypeId} {vs:List Value} {ds:List (DataW H)} {ps:List MemPlace},DataW.TrodAll enc Tryz.prog W 0 (fun _=>true) true ts vs ds ps →
 (∀ t ∈ ts,Tryz.prog.readableRec t = true ∧ t < Tryz.prog.types.size) → (∀ x ∈ ps,x.block < W.heap.size) → DataW.TrodAll enc Tryz.prog W' 0 (fun b=>decide (b < W.heap.size)) true ts vs ds ps
 | [],vs,ds,ps,h,_,_=>by
   obtain ⟨rfl,rfl,rfl⟩:=trodAll_nil h
   exact trodAll_mk0
 | t :: ts,vs,ds,ps,h,ht,hx=>by
   obtain ⟨v0,vs0,d0,ds0,p0,q0,rfl,rfl,rfl,h0,r0⟩:=trodAll_cons h
   have h1:=Below.trod laidOut (ht t (by simp)).1 (ht t (by simp)).2 h0 hb (fun x hxm=>hx x (List.mem_append.2 (Or.inl hxm)))
   have h2:=all_stays hb r0 (fun u hu=>ht u (by simp [hu])) (fun x hxm=>hx x (List.mem_append.2 (Or.inr hxm)))
   exact trodAll_cons_mk h1 h2
theorem law_post {f:Func} {s:ChangeSpec} {W W':World} {args:Array Value} {ds:List (DataW H)} {before:List MemPlace}
 (hW:DataW.Whole enc Tryz.prog f.params.toList s.vars false W args.toList ds [] before) (hv:s.vars = []) (hr:f.resultTypes.toList = [4]) (hsz:f.resultTypes.size = 1)
 (hts:∀ t ∈ f.params.toList,Tryz.prog.readableRec t = true ∧ t < Tryz.prog.types.size)
 (hfn:s.fn H (ds ++ []) = { results:=[.lit (.bool true)],args:=ds }) (hb:Below W.heap.size W W'):s.post enc Tryz.prog f false true false false W args (.bool true) W':=by
 have hlt:∀ p ∈ before,p.block < W.heap.size:=fun p hp=>hW.lt p hp
 have hW0:=hW
 obtain ⟨p,q,hA,hV,rfl,_,_⟩:=hW0
 rw [hv] at hV
 obtain ⟨_,rfl⟩:=trodVars_none hV
 refine ⟨ds,[],p ++ [],[],p,[],hW,?_,?_,?_,World.keptBut_mono (fun x hx=>⟨hx,Or.inr ?_⟩) (hb.frame (· ∈ p ++ [])),fun h=>by cases h⟩
 ·rw [hfn,hr,hsz]
  exact trodAll_cons_mk (shut_bool Tryz.underlying4 _) trodAll_mk0
 ·rw [hfn]
  exact all_stays hb hA hts (fun x hx=>hlt x (by simp [hx]))
 ·rw [hfn,hv]
  exact rfl
 ·exact List.mem_append.1 hx
end
end Go.Proofs.YtlcfejgjeljjdaaGreatDoor
namespace Go.Proofs.YtlcfejgjeljjdaaGreatDoor
def sgnI (b:Nat) (n:Int):Int:=(n + 2 ^ (b - 1)) % 2 ^ b - 2 ^ (b - 1)
def uText12:ByteArray:=⟨#[117]⟩
def cText12:ByteArray:=⟨#[99]⟩
def sText12:ByteArray:=⟨#[115]⟩
def iText12:ByteArray:=⟨#[105]⟩
def asI (n:Int) (t:ByteArray):Int:=if t = uText12 then n % 4294967296 else if t = cText12 then sgnI 8 n else if t = sText12 then sgnI 16 n else sgnI 32 n
theorem sgn8 (n:Int):sgnI 8 n = (n + 128) % 256 - 128:=rfl
theorem sgn16 (n:Int):sgnI 16 n = (n + 32768) % 65536 - 32768:=rfl
theorem sgn32 (n:Int):sgnI 32 n = (n + 2147483648) % 4294967296 - 2147483648:=rfl
theorem asI_range (n:Int) (t:ByteArray):-2147483648 ≤ asI n t ∧ asI n t < 4294967296:=by
 unfold asI
 split
 ·omega
 split
 ·rw [sgn8];omega
 split
 ·rw [sgn16];omega
 ·rw [sgn32];omega
theorem asI_twice (n:Int) (t:ByteArray):asI (asI n t) t = asI n t:=by
 unfold asI
 split
 ·omega
 split
 ·rw [sgn8,sgn8];omega
 split
 ·rw [sgn16,sgn16];omega
 ·rw [sgn32,sgn32];omega
theorem asI_mod {n m:Int} (h:n % 4294967296 = m % 4294967296) (t:ByteArray):asI n t = asI m t:=by
 unfold asI
 split
 ·exact h
 split
 ·rw [sgn8,sgn8];omega
 split
 ·rw [sgn16,sgn16];omega
 ·rw [sgn32,sgn32];omega
theorem asI_word (n:Int) {t:ByteArray} (h:t = uText12 ∨ t = iText12):asI n t % 4294967296 = n % 4294967296:=by
 unfold asI
 rcases h with rfl | rfl
 ·rw [if_pos rfl];omega
 ·rw [if_neg (by decide),if_neg (by decide),if_neg (by decide),sgn32];omega
def promI (t:ByteArray):ByteArray:=if t = uText12 then uText12 else iText12
def commI (x y:ByteArray):ByteArray:=if x = uText12 ∨ y = uText12 then uText12 else iText12
theorem commI_ui (x y:ByteArray):commI x y = uText12 ∨ commI x y = iText12:=by
 unfold commI
 split
 ·exact .inl rfl
 ·exact .inr rfl
theorem promI_ui (t:ByteArray):promI t = uText12 ∨ promI t = iText12:=by
 unfold promI
 split
 ·exact .inl rfl
 ·exact .inr rfl
def mulW (a b:Int):Int:=(a % 4294967296) * (b % 4294967296) % 4294967296
end Go.Proofs.YtlcfejgjeljjdaaGreatDoor
namespace Go.Proofs.YtlcfejgjeljjdaaGreatDoor
structure Nd where
 kind:Int
 n:Int
 at_:Int
 int:Int
 text:ByteArray
 type:ByteArray
def arityN (k:Int):Int × Int:=
 if k = 1 ∨ k = 2 ∨ k = 3 ∨ k = 17 ∨ k = 30 ∨ k = 31 ∨ k = 33 then (0,0)
 else if k = 4 ∨ k = 5 ∨ k = 6 ∨ k = 13 ∨ k = 14 ∨ k = 15 ∨ k = 16 ∨ k = 20 ∨ k = 29 then (1,1)
 else if k = 7 ∨ k = 8 ∨ k = 10 ∨ k = 12 ∨ k = 24 ∨ k = 25 ∨ k = 27 ∨ k = 28 then (2,2)
 else if k = 9 then (3,3)
 else if k = 26 then (4,4)
 else if k = 11 then (1,9)
 else if k = 21 then (0,4096)
 else if k = 22 ∨ k = 32 then (0,1)
 else if k = 23 then (2,3)
 else (-1,-1)
def typedS (s:ByteArray):Bool:=decide (checkS [] s = 0 ∨ checkS [] s = 4)
def objectS (s:ByteArray):Bool:=(tyS s).any objectT
def marksB:List ByteArray:=[⟨#[42]⟩,⟨#[47]⟩,⟨#[37]⟩,⟨#[43]⟩,⟨#[45]⟩,⟨#[60,60]⟩,⟨#[62,62]⟩,⟨#[60]⟩,⟨#[62]⟩,⟨#[60,61]⟩,⟨#[62,61]⟩,⟨#[61,61]⟩,⟨#[33,61]⟩,⟨#[38]⟩,⟨#[94]⟩,⟨#[124]⟩,⟨#[38,38]⟩,⟨#[124,124]⟩]
def marksN (k:Int):List ByteArray:=
 if k = 4 then [⟨#[45]⟩,⟨#[126]⟩,⟨#[33]⟩,⟨#[38]⟩,⟨#[42]⟩]
 else if k = 5 ∨ k = 6 then [⟨#[43,43]⟩,⟨#[45,45]⟩]
 else if k = 7 then marksB
 else if k = 8 then [⟨#[61]⟩,⟨#[42,61]⟩,⟨#[47,61]⟩,⟨#[37,61]⟩,⟨#[43,61]⟩,⟨#[45,61]⟩,⟨#[60,60,61]⟩,⟨#[62,62,61]⟩,⟨#[38,61]⟩,⟨#[94,61]⟩,⟨#[124,61]⟩]
 else []
def noText (s:ByteArray):Bool:=decide (s.size = 0)
def numberN (x:Nd):Bool:=if x.type = ⟨#[117]⟩ then decide (0 ≤ x.int ∧ x.int < 4294967296) else decide (x.type = ⟨#[105]⟩) && decide (-128 ≤ x.int ∧ x.int < 2147483648)
def sizeOk (x:Nd):Bool:=decide (0 ≤ (arityN x.kind).1 ∧ (arityN x.kind).1 ≤ x.n ∧ x.n ≤ (arityN x.kind).2 ∧ 0 ≤ x.at_ ∧ x.at_ ≤ 65536)
def intOk (x:Nd):Bool:=decide (x.int = 0 ∨ (x.kind = 22 ∧ x.int = 1))
def bodyOk (x:Nd):Bool:=
 if x.kind = 2 then decide (x.text.size ≤ 4096) && noText x.type
 else if x.kind = 3 ∨ x.kind = 13 ∨ x.kind = 14 then isNameB x.text && noText x.type
 else if x.kind = 22 then isNameB x.text && (typedS x.type && objectS x.type)
 else if x.kind = 4 ∨ x.kind = 5 ∨ x.kind = 6 ∨ x.kind = 7 ∨ x.kind = 8 then Lib.containsS (marksN x.kind) x.text && noText x.type
 else if x.kind = 15 ∨ x.kind = 17 then noText x.text && typedS x.type
 else noText x.text && noText x.type
def wellN (x:Nd):Bool:=sizeOk x && (if x.kind = 1 then numberN x && noText x.text else intOk x && bodyOk x)
def beginsF:List Nd → Nat → List Nat → Option (List Nat × List Nat)
 | [],_,st=>some ([],st)
 | x :: l,i,st=>
   if x.n < 0 ∨ (st.length:Int) < x.n then none
   else
    let a:=if 0 < x.n then st.getD (x.n.toNat - 1) 0 else i
    (beginsF l (i + 1) (a :: st.drop x.n.toNat)).map fun r=>(a :: r.1,r.2)
def beginsN (t:List Nd):Option (List Nat):=match beginsF t 0 [] with
 | some (f,[_])=>some f
 | _=>none
def partsE (fr:List Nat):Nat → Nat → List Nat
 | 0,_=>[]
 | n + 1,e=>partsE fr n (fr.getD (e - 1) 0) ++ [e - 1]
def Back (fr:List Nat):Nat → Nat → Prop
 | 0,_=>True
 | n + 1,e=>0 < e ∧ fr.getD (e - 1) 0 < e ∧ Back fr n (fr.getD (e - 1) 0)
def Ends (fr:List Nat):List Nat → Nat → Prop
 | [],_=>True
 | s :: st,e=>s < e ∧ fr.getD (e - 1) 0 = s ∧ Ends fr st s
theorem Ends.back {fr:List Nat}:∀ {st:List Nat} {e n:Nat},Ends fr st e → n ≤ st.length → Back fr n e
 | _,_,0,_,_=>trivial
 | [],_,n + 1,_,h=>by simp at h
 | s :: st,e,n + 1,⟨h1,h2,h3⟩,h=>⟨by omega,by omega,by rw [h2];exact Ends.back h3 (by simpa using h)⟩
theorem getD_app {fr g:List Nat} {k:Nat} (h:k < fr.length):(fr ++ g).getD k 0 = fr.getD k 0:=by
 rw [List.getD_eq_getElem?_getD,List.getD_eq_getElem?_getD,List.getElem?_append_left h]
theorem Ends.app {fr g:List Nat}:∀ {st:List Nat} {e:Nat},e ≤ fr.length → Ends fr st e → Ends (fr ++ g) st e
 | [],_,_,_=>trivial
 | s :: st,e,he,⟨h1,h2,h3⟩=>⟨h1,by rw [getD_app (by omega)];exact h2,Ends.app (by omega) h3⟩
theorem Ends.drop {fr:List Nat}:∀ {st:List Nat} {e:Nat} (n:Nat),Ends fr st e → 0 < n → n ≤ st.length → Ends fr (st.drop n) (st.getD (n - 1) 0)
 | [],_,n,_,h0,h=>by simp at h;omega
 | s :: st,e,n + 1,⟨h1,h2,h3⟩,_,h=>by
   cases n with
   | zero=>simpa using h3
   | succ n=>
     have:=Ends.drop (n + 1) h3 (by omega) (by simpa using h)
     simpa using this
theorem Ends.lt {fr:List Nat}:∀ {st:List Nat} {e:Nat} (n:Nat),Ends fr st e → n < st.length → st.getD n 0 < e
 | [],_,n,_,h=>by simp at h
 | s :: st,e,0,⟨h1,_,_⟩,_=>by simpa using h1
 | s :: st,e,n + 1,⟨h1,_,h3⟩,h=>by
   have:=Ends.lt n h3 (by simpa using h)
   simp only [List.getD_cons_succ]
   omega
theorem begins_back:∀ (l:List Nd) (pre:List Nat) (st:List Nat) {f st':List Nat},beginsF l pre.length st = some (f,st') → Ends pre st pre.length →
 f.length = l.length ∧ Ends (pre ++ f) st' (pre.length + l.length) ∧ ∀ (j:Nat) x,l[j]? = some x → 0 ≤ x.n ∧ Back (pre ++ f) x.n.toNat (pre.length + j) ∧ (pre ++ f).getD (pre.length + j) 0 ≤ pre.length + j
 | [],pre,st,f,st',h,he=>by
   rw [beginsF] at h
   obtain ⟨rfl,rfl⟩:=Prod.mk.inj (Option.some.inj h)
   exact ⟨rfl,by simpa using he,fun j x hx=>by simp at hx⟩
 | x :: l,pre,st,f,st',h,he=>by
   rw [beginsF] at h
   split at h
   ·cases h
   ·rename_i hn
    simp only [Option.map_eq_some_iff] at h
    obtain ⟨⟨g,st2⟩,hg,e⟩:=h
    obtain ⟨rfl,rfl⟩:=Prod.mk.inj e
    simp only at hg ⊢
    generalize ha:(if 0 < x.n then st.getD (x.n.toNat - 1) 0 else pre.length) = a at *
    have hle:x.n.toNat ≤ st.length:=by omega
    have ha1:a ≤ pre.length:=by
     rw [← ha]
     split
     ·exact Nat.le_of_lt (he.lt _ (by omega))
     ·exact Nat.le_refl _
    have he2:Ends (pre ++ [a]) (a :: st.drop x.n.toNat) (pre ++ [a]).length:=by
     refine ⟨by simp;omega,by simp,?_⟩
     by_cases h0:0 < x.n
     ·rw [if_pos h0] at ha
      rw [← ha]
      exact (he.drop x.n.toNat (by omega) hle).app (by rw [ha];exact ha1)
     ·rw [if_neg h0] at ha
      have:x.n.toNat = 0:=by omega
      rw [this,← ha]
      simpa using he.app (Nat.le_refl _)
    have hl1:(pre ++ [a]).length = pre.length + 1:=by simp
    obtain ⟨h1,h2,h3⟩:=begins_back l (pre ++ [a]) _ (by rw [hl1];exact hg) he2
    have hap:pre ++ [a] ++ g = pre ++ a :: g:=by simp
    rw [hap,hl1] at h2 h3
    refine ⟨by simp [h1],by rw [show pre.length + (x :: l).length = pre.length + 1 + l.length by simp;omega];exact h2,fun j y hy=>?_⟩
    cases j with
    | zero=>
      obtain rfl:=Option.some.inj hy
      refine ⟨by omega,?_,?_⟩
      ·have:=(he.app (g:=a :: g) (Nat.le_refl _)).back (n:=x.n.toNat) hle
       simpa using this
      ·rw [List.getD_eq_getElem?_getD,Nat.add_zero,List.getElem?_append_right (Nat.le_refl _),Nat.sub_self]
       exact ha1
    | succ j=>
      have:=h3 j y (by simpa using hy)
      rw [show pre.length + (j + 1) = pre.length + 1 + j by omega]
      exact this
structure Formed (t:List Nd) (fr:List Nat):Prop where
 len:fr.length = t.length
 pos:0 < t.length
 node:∀ (j:Nat) x,t[j]? = some x → 0 ≤ x.n ∧ Back fr x.n.toNat j ∧ fr.getD j 0 ≤ j
theorem formed_of {t:List Nd} {fr:List Nat} (h:beginsN t = some fr):Formed t fr:=by
 unfold beginsN at h
 split at h
 ·rename_i f s hb
  obtain rfl:=Option.some.inj h
  obtain ⟨h1,h2,h3⟩:=begins_back t [] [] hb trivial
  refine ⟨h1,?_,fun j x hx=>by simpa using h3 j x hx⟩
  have:=h2.1
  simp at this;omega
 ·cases h
def exprK (k:Int):Bool:=decide (1 ≤ k ∧ k ≤ 17)
def stmtK (k:Int):Bool:=decide (20 ≤ k ∧ k ≤ 32 ∧ k ≠ 22)
def mayN (k:Int) (i:Nat) (q:Int):Bool:=
 if exprK k = true ∨ k = 20 ∨ k = 32 ∨ k = 22 then exprK q
 else if k = 26 then (if i = 0 then decide (q = 20 ∨ q = 22 ∨ q = 33) else if i = 3 then stmtK q else exprK q || decide (q = 33))
 else if k = 21 then stmtK q || decide (q = 22)
 else if k = 25 then (if i = 0 then stmtK q else exprK q)
 else if k = 23 ∨ k = 24 ∨ k = 27 ∨ k = 28 then (if i = 0 then exprK q else stmtK q)
 else stmtK q
def kindAt (t:List Nd) (k:Nat):Int:=(t[k]?.map Nd.kind).getD 0
def partsAt (t:List Nd) (fr:List Nat) (k:Nat):List Nat:=partsE fr ((t[k]?.map fun x=>x.n.toNat).getD 0) k
def openF (t:List Nd) (fr:List Nat):Nat → Nat → Bool
 | 0,_=>false
 | m + 1,k=>
   let p:=partsAt t fr k
   if kindAt t k = 23 then decide (p.length = 2) || openF t fr m (p.getD 2 0)
   else if kindAt t k = 24 ∨ kindAt t k = 26 ∨ kindAt t k = 27 ∨ kindAt t k = 28 ∨ kindAt t k = 29 then openF t fr m (p.getD (p.length - 1) 0)
   else false
def openN (t:List Nd) (fr:List Nat) (k:Nat):Bool:=openF t fr (k + 1) k
def mayAll (t:List Nd) (k:Int):Nat → List Nat → Bool
 | _,[]=>true
 | i,p :: l=>mayN k i (kindAt t p) && mayAll t k (i + 1) l
def fitsN (t:List Nd) (fr:List Nat) (k:Nat):Bool:=
 mayAll t (kindAt t k) 0 (partsAt t fr k) && (decide (kindAt t k ≠ 23) || (decide ((partsAt t fr k).length < 3) || !openN t fr ((partsAt t fr k).getD 1 0)))
def deepF:List Nd → List Nat → List Nat
 | [],st=>st
 | x :: l,st=>deepF l (((st.take x.n.toNat).foldl max 0 + 1) :: st.drop x.n.toNat)
def deepN (t:List Nd):Nat:=(deepF t []).getD 0 0
def checkN9 (t:List Nd):Int:=
 if 4096 < t.length then 3
 else if t.all wellN = false then 90
 else match beginsN t with
  | none=>90
  | some fr=>if (List.range t.length).all (fitsN t fr) = false then 90 else if 48 < deepN t then 3 else 0
end Go.Proofs.YtlcfejgjeljjdaaGreatDoor
namespace Go.Proofs.YtlcfejgjeljjdaaGreatDoor
theorem partsE_length (fr:List Nat):∀ (n e:Nat),(partsE fr n e).length = n
 | 0,_=>rfl
 | n + 1,e=>by rw [partsE,List.length_append,partsE_length fr n];rfl
theorem partsE_lt {fr:List Nat}:∀ {n e:Nat},Back fr n e → ∀ p ∈ partsE fr n e,p < e
 | 0,_,_,p,hp=>by rw [partsE] at hp;cases hp
 | n + 1,e,⟨h1,h2,h3⟩,p,hp=>by
   rw [partsE] at hp
   rcases List.mem_append.1 hp with hp | hp
   ·have:=partsE_lt h3 p hp;omega
   ·obtain rfl:=List.mem_singleton.1 hp;omega
theorem partsAt_is {t:List Nd} {fr:List Nat} {k:Nat} {x:Nd} (hx:t[k]? = some x):partsAt t fr k = partsE fr x.n.toNat k:=by unfold partsAt;rw [hx];rfl
theorem kindAt_is {t:List Nd} {k:Nat} {x:Nd} (hx:t[k]? = some x):kindAt t k = x.kind:=by unfold kindAt;rw [hx];rfl
theorem Formed.parts_lt {t:List Nd} {fr:List Nat} (h:Formed t fr) {k p:Nat} (hp:p ∈ partsAt t fr k):p < k:=by
 unfold partsAt at hp
 cases hx:t[k]? with
 | none=>rw [hx] at hp;simp [partsE] at hp
 | some x=>
   rw [hx] at hp
   exact partsE_lt (h.node k x hx).2.1 p hp
theorem well_parts {x:Nd} (h:wellN x = true):(arityN x.kind).1 ≤ x.n ∧ x.n ≤ (arityN x.kind).2 ∧ 0 ≤ (arityN x.kind).1:=by
 unfold wellN sizeOk at h
 simp only [Bool.and_eq_true,decide_eq_true_eq] at h
 exact ⟨h.1.2.1,h.1.2.2.1,h.1.1⟩
theorem openF_more {t:List Nd} {fr:List Nat} (h:Formed t fr) (hw:∀ (k:Nat) x,t[k]? = some x → wellN x = true):∀ (m k:Nat),k < t.length → k < m → openF t fr m k = openF t fr (k + 1) k
 | 0,k,_,hk=>by omega
 | m + 1,k,hl,hk=>by
   have hx:=List.getElem?_eq_getElem hl
   have hwx:=well_parts (hw k _ hx)
   rw [openF,openF]
   have hpl:(partsAt t fr k).length = t[k].n.toNat:=by rw [partsAt_is hx,partsE_length]
   have hkd:=kindAt_is hx
   have key:∀ i,i < (partsAt t fr k).length → openF t fr m ((partsAt t fr k).getD i 0) = openF t fr k ((partsAt t fr k).getD i 0):=fun i hi=>by
    have hm:(partsAt t fr k).getD i 0 ∈ partsAt t fr k:=by
     rw [List.getD_eq_getElem?_getD,List.getElem?_eq_getElem hi]
     exact List.getElem_mem hi
    have hlt:=h.parts_lt hm
    rw [openF_more h hw m _ (by omega) (by omega),openF_more h hw k _ (by omega) hlt]
   by_cases h23:kindAt t k = 23
   ·rw [if_pos h23,if_pos h23]
    by_cases h2:(partsAt t fr k).length = 2
    ·simp [h2]
    ·have:2 < (partsAt t fr k).length:=by
      rw [hkd] at h23
      rw [h23] at hwx
      have:arityN 23 = (2,3):=by decide
      rw [this] at hwx
      rw [hpl] at h2 ⊢
      simp only at hwx
      omega
     rw [key 2 this]
   ·rw [if_neg h23,if_neg h23]
    split
    ·rename_i hk5
     have:0 < (partsAt t fr k).length:=by
      have ha:1 ≤ (arityN t[k].kind).1:=by
       rw [hkd] at hk5
       rcases hk5 with e | e | e | e | e <;> rw [e] <;> decide
      rw [hpl]
      omega
     rw [key _ (by omega)]
    ·rfl
theorem open_if {t:List Nd} {fr:List Nat} (h:Formed t fr) (hw:∀ (k:Nat) x,t[k]? = some x → wellN x = true) {k:Nat} (hl:k < t.length) (h23:kindAt t k = 23):openN t fr k = (decide ((partsAt t fr k).length = 2) || (decide (2 < (partsAt t fr k).length) && openN t fr ((partsAt t fr k).getD 2 0))):=by
 unfold openN
 rw [openF]
 rw [if_pos h23]
 by_cases h2:(partsAt t fr k).length = 2
 ·simp [h2]
 ·have hx:=List.getElem?_eq_getElem hl
  have hwx:=well_parts (hw k _ hx)
  have hpl:(partsAt t fr k).length = t[k].n.toNat:=by rw [partsAt_is hx,partsE_length]
  have h3:2 < (partsAt t fr k).length:=by
   rw [kindAt_is hx] at h23
   rw [h23,show arityN 23 = (2,3) by decide] at hwx
   rw [hpl] at h2 ⊢
   simp only at hwx
   omega
  have hm:(partsAt t fr k).getD 2 0 ∈ partsAt t fr k:=by
   rw [List.getD_eq_getElem?_getD,List.getElem?_eq_getElem h3]
   exact List.getElem_mem h3
  have hlt:=h.parts_lt hm
  rw [openF_more h hw k _ (by omega) hlt]
  simp [h2,h3]
theorem open_last {t:List Nd} {fr:List Nat} (h:Formed t fr) (hw:∀ (k:Nat) x,t[k]? = some x → wellN x = true) {k:Nat} (hl:k < t.length) (h5:kindAt t k = 24 ∨ kindAt t k = 26 ∨ kindAt t k = 27 ∨ kindAt t k = 28 ∨ kindAt t k = 29) :
 0 < (partsAt t fr k).length ∧ openN t fr k = openN t fr ((partsAt t fr k).getD ((partsAt t fr k).length - 1) 0):=by
 have hx:=List.getElem?_eq_getElem hl
 have hwx:=well_parts (hw k _ hx)
 have hpl:(partsAt t fr k).length = t[k].n.toNat:=by rw [partsAt_is hx,partsE_length]
 have h0:0 < (partsAt t fr k).length:=by
  have ha:1 ≤ (arityN t[k].kind).1:=by
   have:=h5
   rw [kindAt_is hx] at this
   rcases this with e | e | e | e | e <;> rw [e] <;> decide
  rw [hpl];omega
 have hm:(partsAt t fr k).getD ((partsAt t fr k).length - 1) 0 ∈ partsAt t fr k:=by
  rw [List.getD_eq_getElem?_getD,List.getElem?_eq_getElem (by omega)]
  exact List.getElem_mem _
 refine ⟨h0,?_⟩
 unfold openN
 rw [openF]
 rw [if_neg (by omega),if_pos h5,openF_more h hw k _ (by have:=h.parts_lt hm;omega) (h.parts_lt hm)]
theorem open_no {t:List Nd} {fr:List Nat} {k:Nat} (h:kindAt t k ≠ 23 ∧ kindAt t k ≠ 24 ∧ kindAt t k ≠ 26 ∧ kindAt t k ≠ 27 ∧ kindAt t k ≠ 28 ∧ kindAt t k ≠ 29):openN t fr k = false:=by
 unfold openN
 rw [openF]
 rw [if_neg (by omega),if_neg (by omega)]
end Go.Proofs.YtlcfejgjeljjdaaGreatDoor
