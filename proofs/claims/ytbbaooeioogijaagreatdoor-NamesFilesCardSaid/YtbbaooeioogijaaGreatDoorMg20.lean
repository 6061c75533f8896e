/- Sign: the program. · A function of a unit looked at: the program. -/
import Derived.Test.YtbbaooeioogijaaGreatDoorMg4
import Derived.Test.YtbbaooeioogijaaGreatDoorMg19
import Derived.Test.YtbbaooeioogijaaGreatDoorMg18
namespace Go.Proofs.YtbbaooeioogijaaGreatDoor
open Go.RowKit
theorem signP_no {r:Option Ty} {w w':World} (hr:r = none) (hb:Below w.heap.size w w'):SignP r w (.returned (.tuple #[.string ⟨#[]⟩,.slice none 0 0,.int .i64 2])) w':=by subst hr;exact ⟨rfl,hb⟩
theorem signP_other {t:Ty} {w w':World} (ht:isFnT t = false) (hb:Below w.heap.size w w'):SignP (some t) w (.returned (.tuple #[.string ⟨#[]⟩,.slice none 0 0,.int .i64 5])) w':=by
 cases t with
 | fn ps r=>cases ht
 | _=>exact ⟨rfl,hb⟩
set_option maxHeartbeats 1000000 in
theorem sign_none (s:ByteArray) (w:World) (hE:TE w) (h:tyS s = none):Calls Tryz.prog 85 #[.string s] w (SignP (tyS s) w):=by
 have HF:=Hd (form_is false s w hE (by rw [h];rfl))
 have H:=Hd h
 clear h hE
 go_enter Tryz.func85,Tryz.ntmps85
 go_wp2_with (go_at_call 112;(with_reducible refine HF.out.mono ?_);rintro e w1 ⟨rfl,hb1⟩)
 go_ret3
 exact signP_no H.out hb1
set_option maxHeartbeats 1000000 in
theorem sign_other (t:Ty) (w:World) (hE:TE w) (h:tyS (tyB t) = some t) (h1:headT t ≠ 102) (hf:isFnT t = false):Calls Tryz.prog 85 #[.string (tyB t)] w (SignP (some t) w):=by
 have HF:=Hd (form_is true (tyB t) w hE (by rw [h];rfl))
 have HN:=Hd hf
 obtain ⟨h0,hc⟩:=tyB_head t
 have t1:(((tyB t)[0].toNat:Int) != 102) = true:=ne_true (d:=102) hc h1
 generalize tyB t = s at *
 clear h hE hc h1 hf
 go_enter Tryz.func85,Tryz.ntmps85
 go_wp2_with (go_at_call 112;(with_reducible refine HF.out.mono ?_);rintro e w1 ⟨rfl,hb1⟩)
 go_ret3
 exact signP_other HN.out hb1
set_option maxHeartbeats 1000000 in
theorem sign_fn (ps:List Ty) (r:Ty) (w:World) (hE:TE w) (h:tyS (tyB (.fn ps r)) = some (.fn ps r)):Calls Tryz.prog 85 #[.string (tyB (.fn ps r))] w (SignP (some (.fn ps r)) w):=by
 have HE:=Hd hE
 obtain ⟨_,hr,hl⟩:=tyS_some.1 h
 have HF:=Hd (form_is true (tyB (.fn ps r)) w hE (by rw [h];rfl))
 have HS:=Hd (fun w hK hb=>split_fn ps r w hr hl hK hb)
 obtain ⟨h0,hc⟩:=tyB_head (.fn ps r)
 have t1:(((tyB (.fn ps r))[0].toNat:Int) != 102) = false:=ne_false hc
 generalize tyB (.fn ps r) = s at *
 clear h hE hc hr hl
 go_enter Tryz.func85,Tryz.ntmps85
 go_wp2_with (first | (go_at_call 112;(with_reducible refine HF.out.mono ?_);rintro e w1 ⟨rfl,hb1⟩;have HE1:=Hd (HE.out.below hb1)) | (go_at_call 113;(with_reducible refine (HS.out _ HE1.out.keys HE1.out.lt).mono ?_);rintro e w2 ⟨⟨v,rfl,ho⟩,hb2⟩;have HO:=Hd ho;clear ho))
 go_ret3
 exact ⟨⟨v,rfl,own_leT HO.out hb1.size⟩,hb1.trans (hb2.mono hb1.size)⟩
theorem sign_ok (s:ByteArray) (w:World) (hE:TE w):Calls Tryz.prog 85 #[.string s] w (SignP (tyS s) w):=by
 rcases h:tyS s with _ | t
 ·rw [← h];exact sign_none s w hE h
 ·obtain ⟨rfl,hr,_⟩:=tyS_some.1 h
  cases t with
  | fn ps r=>exact sign_fn ps r w hE h
  | base c=>exact sign_other _ w hE h (by rcases base_six hr with rfl | rfl | rfl | rfl | rfl | rfl <;> decide) rfl
  | str n=>exact sign_other _ w hE h (by simp [headT]) rfl
  | ptr u=>exact sign_other _ w hE h (by simp [headT]) rfl
  | arr n u=>exact sign_other _ w hE h (by simp [headT]) rfl
end Go.Proofs.YtbbaooeioogijaaGreatDoor
namespace Go.Proofs.YtbbaooeioogijaaGreatDoor
open Go.RowKit
theorem five_block {w:World} {b:Nat} {a0 a1 a2 a3 a4:Value} {T:TypeId} (h:w.heap[b]? = some (.cells #[a0,a1,a2,a3,a4] T (0,0))) :
 (w.cell? ⟨b,0,none⟩ = some a0 ∧ w.cell? ⟨b,1,none⟩ = some a1 ∧ w.cell? ⟨b,2,none⟩ = some a2 ∧ w.cell? ⟨b,3,none⟩ = some a3 ∧ w.cell? ⟨b,4,none⟩ = some a4) ∧ ∀ j,w.frozen? ⟨b,j,none⟩ = false:=by
 refine ⟨⟨?_,?_,?_,?_,?_⟩,fun j=>?_⟩ <;> simp [World.cell?,World.frozen?,h]
theorem three_block {w:World} {b:Nat} {a0 a1 a2:Value} {T:TypeId} (h:w.heap[b]? = some (.cells #[a0,a1,a2] T (0,0))) :
 (w.cell? ⟨b,0,none⟩ = some a0 ∧ w.cell? ⟨b,1,none⟩ = some a1 ∧ w.cell? ⟨b,2,none⟩ = some a2) ∧ ∀ j,w.frozen? ⟨b,j,none⟩ = false:=by
 refine ⟨⟨?_,?_,?_⟩,fun j=>?_⟩ <;> simp [World.cell?,World.frozen?,h]
abbrev fnUV (f:FnU) (vp vb:Value):Value:=.agg #[.int .i64 f.at_,.string f.name,.string f.type,vp,vb]
abbrev glUV (g:GlU) (v:Value):Value:=.agg #[.int .i64 g.at_,.string g.var.name,.string g.var.type,.bool g.var.vol,v]
def CodeEnd (c:Int) (w:World) (e:Ending) (w':World):Prop:=e = .returned (.int .i64 c) ∧ Below w.heap.size w w'
theorem codeEnd {c d:Int} {w w':World} (h:c = d) (hb:Below w.heap.size w w'):CodeEnd c w (.returned (.int .i64 d)) w':=⟨by rw [h],hb⟩
theorem funcE_head {L:List Sr} {f:FnU} (h:headF L f = false):funcE L f = 90:=by
 unfold funcE
 split
 ·rw [if_pos (.inl h)]
 ·rfl
theorem funcE_sign {L:List Sr} {f:FnU} (h:∀ ps r,tyS f.type ≠ some (.fn ps r)):funcE L f = 90:=by
 unfold funcE
 split
 ·rename_i ps r e;exact absurd e (h ps r)
 ·rfl
theorem sign_bad {s:ByteArray} {w:World} (hE:TE w) (h:∀ ps r,tyS s ≠ some (.fn ps r)):Calls Tryz.prog 85 #[.string s] w fun e w'=>(∃ s v c,e = .returned (.tuple #[.string s,v,.int .i64 c]) ∧ (c != 0) = true) ∧ Below w.heap.size w w':=by
 refine (sign_ok s w hE).mono fun e w' ⟨h1,h2⟩=>⟨?_,h2⟩
 rcases ht:tyS s with _ | t
 ·rw [ht] at h1
  exact ⟨_,_,2,h1,rfl⟩
 ·rw [ht] at h1
  cases t with
  | fn ps r=>exact absurd ht (h ps r)
  | _=>exact ⟨_,_,5,h1,rfl⟩
theorem sign_good {s:ByteArray} {w:World} {ps:List Ty} {r:Ty} (hE:TE w) (h:tyS s = some (.fn ps r)):Calls Tryz.prog 85 #[.string s] w fun e w'=>(∃ a cap,e = .returned (.tuple #[.string (tyB r),.slice a ps.length cap,.int .i64 0]) ∧ ∀ i (hi:i < ps.length),∃ g,a = some ⟨g,0,none⟩ ∧ g < w'.heap.size ∧ w'.cell? ⟨g,i,none⟩ = some (.string (tyB ps[i]))) ∧ Below w.heap.size w w':=by
 have:=sign_ok s w hE
 rw [h] at this
 refine this.mono fun e w' ⟨⟨v,he,ho⟩,h2⟩=>⟨?_,h2⟩
 rcases ho.2 with ⟨rfl,h0⟩ | ⟨g,cap,cur,rfl,_,hg,_⟩
 ·refine ⟨none,0,by rw [he,h0],fun i hi=>?_⟩
  omega
 ·refine ⟨some ⟨g,0,none⟩,cap,he,fun i hi=>⟨g,rfl,lt_of_heap hg,?_⟩⟩
  rw [ho.cellAt i (by omega),List.getElem?_map,List.getElem?_eq_getElem hi]
  rfl
theorem lexIsName_is (r:Bool) (s:ByteArray) (w:World) (hK:KeysAt w) (h:isNameB s = r):Calls Tryz.prog 80 #[.string s] w fun e w'=>e = .returned (.bool r) ∧ Below w.heap.size w w':=by
 subst h;exact lexIsName_any s w hK
theorem sign_any (s:ByteArray) (w:World) (hE:TE w):Calls Tryz.prog 85 #[.string s] w fun e w'=>(∃ s v c,e = .returned (.tuple #[.string s,v,.int .i64 c])) ∧ Below w.heap.size w w':=by
 refine (sign_ok s w hE).mono fun e w' ⟨h1,h2⟩=>⟨?_,h2⟩
 rcases ht:tyS s with _ | t
 ·rw [ht] at h1
  exact ⟨_,_,_,h1⟩
 ·rw [ht] at h1
  cases t with
  | fn ps r=>
    obtain ⟨v,he,_⟩:=h1
    exact ⟨_,_,_,he⟩
  | _=>exact ⟨_,_,_,h1⟩
set_option maxRecDepth 100000 in
set_option maxHeartbeats 4000000 in
theorem func9_name (f:FnU) (vp vb:Value) (l:Option Addr) (lc:Nat) (L:List Sr) (mv:List Value) (w:World) (hE:TE w) (hF:IsFnU w.heap.size w f vp vb) (hS:IsSrs w.heap.size w l L mv) (hn:isNameB f.name = false) :
 Calls Tryz.prog 56 #[fnUV f vp vb,.slice l L.length lc] w (CodeEnd (funcE L f) w):=by
 have hfin:funcE L f = 90:=funcE_head (by unfold headF;rw [hn];rfl)
 have HNm:=Hd (fun w (hK:KeysAt w)=>lexIsName_is false f.name w hK hn)
 obtain ⟨fat,fname,ftype,fparams,fbody⟩:=f
 simp only [fnUV] at *
 go_enter Tryz.func56,Tryz.ntmps56
 go_upto_region 1 with fail
 have hx0:(w.alloc (.cells #[.int .i64 fat,.string fname,.string ftype,vp,vb] 45)).heap[w.heap.size]? = some (.cells #[.int .i64 fat,.string fname,.string ftype,vp,vb] 45 (0,0)):=heap_alloc_new _ _
 have hb0:=ba1 w (.cells #[.int .i64 fat,.string fname,.string ftype,vp,vb] 45)
 generalize w.alloc (.cells #[.int .i64 fat,.string fname,.string ftype,vp,vb] 45) = w0 at *
 have HNd:=Hd (fun w' (h:Below w0.heap.size w0 w')=>(five_block ((h.block _ (lt_of_heap hx0)).trans hx0)).1)
 have HB0:=Hd hb0
 have HEx:=Hd (fun w' (h:Below w0.heap.size w0 w')=>hE.below (hb0.trans (h.mono hb0.size)))
 have HSx:=Hd (fun w' (h:Below w0.heap.size w0 w')=>(hS.below (hb0.trans (h.mono hb0.size))).mono (hb0.trans (h.mono hb0.size)).size)
 have HSg:=Hd (sign_any ftype w0 (HEx.out w0 (Below.refl _ _)))
 obtain ⟨x0,x1,x2,x3,x4⟩:=HNd.out w0 (Below.refl _ _)
 have HFin:=Hd hfin
 clear hE hF hS hx0 hb0 hfin
 go_wp2_with (first
  | (go_at_call 85;(with_reducible refine HSg.out.mono ?_);rintro e w1 ⟨⟨s1,v1,c1,rfl⟩,hb1⟩;have HB1:=Hd (hb1);obtain ⟨x0,x1,x2,x3,x4⟩:=HNd.out w1 HB1.out;have HN1:=Hd (HNm.out w1 (HEx.out w1 HB1.out).keys);clear hb1)
  | (go_at_call 80;(with_reducible refine HN1.out.mono ?_);rintro e w2 ⟨rfl,hb2⟩;have HB2:=Ht HB1 hb2;obtain ⟨x0,x1,x2,x3,x4⟩:=HNd.out w2 HB2.out;clear hb2))
 go_ret
 exact codeEnd HFin.out (HB0.out.trans (HB2.out.mono HB0.out.size))
set_option maxRecDepth 100000 in
set_option maxHeartbeats 4000000 in
theorem func9_lo (f:FnU) (vp vb:Value) (l:Option Addr) (lc:Nat) (L:List Sr) (mv:List Value) (w:World) (hE:TE w) (hF:IsFnU w.heap.size w f vp vb) (hS:IsSrs w.heap.size w l L mv) (hn:isNameB f.name = true) (ha:f.at_ < 0) :
 Calls Tryz.prog 56 #[fnUV f vp vb,.slice l L.length lc] w (CodeEnd (funcE L f) w):=by
 have hfin:funcE L f = 90:=funcE_head (by unfold headF;rw [hn,decide_eq_false (by omega)];rfl)
 have HNm:=Hd (fun w (hK:KeysAt w)=>lexIsName_is true f.name w hK hn)
 obtain ⟨fat,fname,ftype,fparams,fbody⟩:=f
 simp only [fnUV] at *
 go_enter Tryz.func56,Tryz.ntmps56
 go_upto_region 1 with fail
 have hx0:(w.alloc (.cells #[.int .i64 fat,.string fname,.string ftype,vp,vb] 45)).heap[w.heap.size]? = some (.cells #[.int .i64 fat,.string fname,.string ftype,vp,vb] 45 (0,0)):=heap_alloc_new _ _
 have hb0:=ba1 w (.cells #[.int .i64 fat,.string fname,.string ftype,vp,vb] 45)
 generalize w.alloc (.cells #[.int .i64 fat,.string fname,.string ftype,vp,vb] 45) = w0 at *
 have HNd:=Hd (fun w' (h:Below w0.heap.size w0 w')=>(five_block ((h.block _ (lt_of_heap hx0)).trans hx0)).1)
 have HB0:=Hd hb0
 have HEx:=Hd (fun w' (h:Below w0.heap.size w0 w')=>hE.below (hb0.trans (h.mono hb0.size)))
 have HSx:=Hd (fun w' (h:Below w0.heap.size w0 w')=>(hS.below (hb0.trans (h.mono hb0.size))).mono (hb0.trans (h.mono hb0.size)).size)
 have HSg:=Hd (sign_any ftype w0 (HEx.out w0 (Below.refl _ _)))
 obtain ⟨x0,x1,x2,x3,x4⟩:=HNd.out w0 (Below.refl _ _)
 have HFin:=Hd hfin
 have t1:decide (fat < 0) = true:=by simpa using ha
 clear hE hF hS hx0 hb0 hfin ha
 go_wp2_with (first
  | (go_at_call 85;(with_reducible refine HSg.out.mono ?_);rintro e w1 ⟨⟨s1,v1,c1,rfl⟩,hb1⟩;have HB1:=Hd (hb1);obtain ⟨x0,x1,x2,x3,x4⟩:=HNd.out w1 HB1.out;have HN1:=Hd (HNm.out w1 (HEx.out w1 HB1.out).keys);clear hb1)
  | (go_at_call 80;(with_reducible refine HN1.out.mono ?_);rintro e w2 ⟨rfl,hb2⟩;have HB2:=Ht HB1 hb2;obtain ⟨x0,x1,x2,x3,x4⟩:=HNd.out w2 HB2.out;clear hb2))
 go_ret
 exact codeEnd HFin.out (HB0.out.trans (HB2.out.mono HB0.out.size))
set_option maxRecDepth 100000 in
set_option maxHeartbeats 4000000 in
theorem func9_hi (f:FnU) (vp vb:Value) (l:Option Addr) (lc:Nat) (L:List Sr) (mv:List Value) (w:World) (hE:TE w) (hF:IsFnU w.heap.size w f vp vb) (hS:IsSrs w.heap.size w l L mv) (hn:isNameB f.name = true) (ha:¬ f.at_ < 0) (ha2:65536 < f.at_) :
 Calls Tryz.prog 56 #[fnUV f vp vb,.slice l L.length lc] w (CodeEnd (funcE L f) w):=by
 have hfin:funcE L f = 90:=funcE_head (by unfold headF;rw [hn,decide_eq_false (by omega)];rfl)
 have HNm:=Hd (fun w (hK:KeysAt w)=>lexIsName_is true f.name w hK hn)
 obtain ⟨fat,fname,ftype,fparams,fbody⟩:=f
 simp only [fnUV] at *
 go_enter Tryz.func56,Tryz.ntmps56
 go_upto_region 1 with fail
 have hx0:(w.alloc (.cells #[.int .i64 fat,.string fname,.string ftype,vp,vb] 45)).heap[w.heap.size]? = some (.cells #[.int .i64 fat,.string fname,.string ftype,vp,vb] 45 (0,0)):=heap_alloc_new _ _
 have hb0:=ba1 w (.cells #[.int .i64 fat,.string fname,.string ftype,vp,vb] 45)
 generalize w.alloc (.cells #[.int .i64 fat,.string fname,.string ftype,vp,vb] 45) = w0 at *
 have HNd:=Hd (fun w' (h:Below w0.heap.size w0 w')=>(five_block ((h.block _ (lt_of_heap hx0)).trans hx0)).1)
 have HB0:=Hd hb0
 have HEx:=Hd (fun w' (h:Below w0.heap.size w0 w')=>hE.below (hb0.trans (h.mono hb0.size)))
 have HSx:=Hd (fun w' (h:Below w0.heap.size w0 w')=>(hS.below (hb0.trans (h.mono hb0.size))).mono (hb0.trans (h.mono hb0.size)).size)
 have HSg:=Hd (sign_any ftype w0 (HEx.out w0 (Below.refl _ _)))
 obtain ⟨x0,x1,x2,x3,x4⟩:=HNd.out w0 (Below.refl _ _)
 have HFin:=Hd hfin
 have t1:decide (fat < 0) = false:=by simpa using ha
 have t2:decide (65536 < fat) = true:=by simpa using ha2
 clear hE hF hS hx0 hb0 hfin ha ha2
 go_wp2_with (first
  | (go_at_call 85;(with_reducible refine HSg.out.mono ?_);rintro e w1 ⟨⟨s1,v1,c1,rfl⟩,hb1⟩;have HB1:=Hd (hb1);obtain ⟨x0,x1,x2,x3,x4⟩:=HNd.out w1 HB1.out;have HN1:=Hd (HNm.out w1 (HEx.out w1 HB1.out).keys);clear hb1)
  | (go_at_call 80;(with_reducible refine HN1.out.mono ?_);rintro e w2 ⟨rfl,hb2⟩;have HB2:=Ht HB1 hb2;obtain ⟨x0,x1,x2,x3,x4⟩:=HNd.out w2 HB2.out;clear hb2))
 go_ret
 exact codeEnd HFin.out (HB0.out.trans (HB2.out.mono HB0.out.size))
set_option maxRecDepth 100000 in
set_option maxHeartbeats 4000000 in
theorem func9_bad (f:FnU) (vp vb:Value) (l:Option Addr) (lc:Nat) (L:List Sr) (mv:List Value) (w:World) (hE:TE w) (hF:IsFnU w.heap.size w f vp vb) (hS:IsSrs w.heap.size w l L mv) (hn:isNameB f.name = true) (ha:¬ f.at_ < 0) (ha2:¬ 65536 < f.at_) (hs:∀ ps r,tyS f.type ≠ some (.fn ps r)) :
 Calls Tryz.prog 56 #[fnUV f vp vb,.slice l L.length lc] w (CodeEnd (funcE L f) w):=by
 have hfin:funcE L f = 90:=funcE_sign hs
 have HNm:=Hd (fun w (hK:KeysAt w)=>lexIsName_is true f.name w hK hn)
 obtain ⟨fat,fname,ftype,fparams,fbody⟩:=f
 simp only [fnUV] at *
 go_enter Tryz.func56,Tryz.ntmps56
 go_upto_region 1 with fail
 have hx0:(w.alloc (.cells #[.int .i64 fat,.string fname,.string ftype,vp,vb] 45)).heap[w.heap.size]? = some (.cells #[.int .i64 fat,.string fname,.string ftype,vp,vb] 45 (0,0)):=heap_alloc_new _ _
 have hb0:=ba1 w (.cells #[.int .i64 fat,.string fname,.string ftype,vp,vb] 45)
 generalize w.alloc (.cells #[.int .i64 fat,.string fname,.string ftype,vp,vb] 45) = w0 at *
 have HNd:=Hd (fun w' (h:Below w0.heap.size w0 w')=>(five_block ((h.block _ (lt_of_heap hx0)).trans hx0)).1)
 have HB0:=Hd hb0
 have HEx:=Hd (fun w' (h:Below w0.heap.size w0 w')=>hE.below (hb0.trans (h.mono hb0.size)))
 have HSx:=Hd (fun w' (h:Below w0.heap.size w0 w')=>(hS.below (hb0.trans (h.mono hb0.size))).mono (hb0.trans (h.mono hb0.size)).size)
 have HSg:=Hd (sign_bad (HEx.out w0 (Below.refl _ _)) hs)
 obtain ⟨x0,x1,x2,x3,x4⟩:=HNd.out w0 (Below.refl _ _)
 have HFin:=Hd hfin
 have t1:decide (fat < 0) = false:=by simpa using ha
 have t2:decide (65536 < fat) = false:=by simpa using ha2
 clear hE hF hS hx0 hb0 hfin ha ha2 hs
 go_wp2_with (first
  | (go_at_call 85;(with_reducible refine HSg.out.mono ?_);rintro e w1 ⟨⟨s1,v1,c1,rfl,hc1⟩,hb1⟩;have HB1:=Hd (hb1);obtain ⟨x0,x1,x2,x3,x4⟩:=HNd.out w1 HB1.out;have HN1:=Hd (HNm.out w1 (HEx.out w1 HB1.out).keys);clear hb1)
  | (go_at_call 80;(with_reducible refine HN1.out.mono ?_);rintro e w2 ⟨rfl,hb2⟩;have HB2:=Ht HB1 hb2;obtain ⟨x0,x1,x2,x3,x4⟩:=HNd.out w2 HB2.out;clear hb2))
 go_ret
 exact codeEnd HFin.out (HB0.out.trans (HB2.out.mono HB0.out.size))
theorem checkAll_is (c:Int) (s:ByteArray) (a:Option Addr) (cap:Nat) (L:List Sr) (mv:List Value) (w:World) (hE:TE w) (hS:IsSrs w.heap.size w a L mv) (h:checkN L s = c) :
 Calls Tryz.prog 81 #[.string s,.slice a L.length cap] w fun e w'=>e = .returned (.int .i64 c) ∧ Below w.heap.size w w':=by subst h;exact checkAll_ok s a cap L mv w hE hS
set_option maxRecDepth 100000 in
set_option maxHeartbeats 4000000 in
theorem func9_check (f:FnU) (vp vb:Value) (l:Option Addr) (lc:Nat) (L:List Sr) (mv:List Value) (w:World) (hE:TE w) (hF:IsFnU w.heap.size w f vp vb) (hS:IsSrs w.heap.size w l L mv) (hn:isNameB f.name = true) (ha:¬ f.at_ < 0) (ha2:¬ 65536 < f.at_) {ps:List Ty} {r:Ty} (hs:tyS f.type = some (.fn ps r)) (hc:checkN L f.type ≠ 0) :
 Calls Tryz.prog 56 #[fnUV f vp vb,.slice l L.length lc] w (CodeEnd (funcE L f) w):=by
 have hfin:funcE L f = 90:=funcE_head (by unfold headF;rw [decide_eq_false hc];simp)
 have HNm:=Hd (fun w (hK:KeysAt w)=>lexIsName_is true f.name w hK hn)
 obtain ⟨fat,fname,ftype,fparams,fbody⟩:=f
 simp only [fnUV] at *
 go_enter Tryz.func56,Tryz.ntmps56
 go_upto_region 1 with fail
 have hx0:(w.alloc (.cells #[.int .i64 fat,.string fname,.string ftype,vp,vb] 45)).heap[w.heap.size]? = some (.cells #[.int .i64 fat,.string fname,.string ftype,vp,vb] 45 (0,0)):=heap_alloc_new _ _
 have hb0:=ba1 w (.cells #[.int .i64 fat,.string fname,.string ftype,vp,vb] 45)
 generalize w.alloc (.cells #[.int .i64 fat,.string fname,.string ftype,vp,vb] 45) = w0 at *
 have HNd:=Hd (fun w' (h:Below w0.heap.size w0 w')=>(five_block ((h.block _ (lt_of_heap hx0)).trans hx0)).1)
 have HB0:=Hd hb0
 have HEx:=Hd (fun w' (h:Below w0.heap.size w0 w')=>hE.below (hb0.trans (h.mono hb0.size)))
 have HSx:=Hd (fun w' (h:Below w0.heap.size w0 w')=>(hS.below (hb0.trans (h.mono hb0.size))).mono (hb0.trans (h.mono hb0.size)).size)
 have HSg:=Hd (sign_good (HEx.out w0 (Below.refl _ _)) hs)
 have HCk:=Hd (fun w' (h:Below w0.heap.size w0 w')=>checkAll_ok ftype l lc L mv w' (HEx.out w' h) (HSx.out w' h))
 obtain ⟨x0,x1,x2,x3,x4⟩:=HNd.out w0 (Below.refl _ _)
 have HFin:=Hd hfin
 have t3:(checkN L ftype != 0) = true:=by simpa using hc
 have t1:decide (fat < 0) = false:=by simpa using ha
 have t2:decide (65536 < fat) = false:=by simpa using ha2
 clear hE hF hS hx0 hb0 hfin ha ha2 hs hc
 generalize checkN L ftype = cc at *
 go_wp2_with (first
  | (go_at_call 85;(with_reducible refine HSg.out.mono ?_);rintro e w1 ⟨⟨pa,pc,rfl,hpr⟩,hb1⟩;have HB1:=Hd (hb1);obtain ⟨x0,x1,x2,x3,x4⟩:=HNd.out w1 HB1.out;have HPr:=Hd hpr;have HN1:=Hd (HNm.out w1 (HEx.out w1 HB1.out).keys);clear hb1)
  | (go_at_call 80;(with_reducible refine HN1.out.mono ?_);rintro e w2 ⟨rfl,hb2⟩;have HB2:=Ht HB1 hb2;obtain ⟨x0,x1,x2,x3,x4⟩:=HNd.out w2 HB2.out;have HC2:=Hd (HCk.out w2 HB2.out);clear hb2)
  | (go_at_call 81;(with_reducible refine HC2.out.mono ?_);rintro e w3 ⟨rfl,hb3⟩;have HB3:=Ht HB2 hb3;obtain ⟨x0,x1,x2,x3,x4⟩:=HNd.out w3 HB3.out;clear hb3))
 go_ret
 exact codeEnd HFin.out (HB0.out.trans (HB3.out.mono HB0.out.size))
set_option maxRecDepth 100000 in
set_option maxHeartbeats 4000000 in
theorem func9_len (f:FnU) (vp vb:Value) (l:Option Addr) (lc:Nat) (L:List Sr) (mv:List Value) (w:World) (hE:TE w) (hF:IsFnU w.heap.size w f vp vb) (hS:IsSrs w.heap.size w l L mv) (hn:isNameB f.name = true) (ha:¬ f.at_ < 0) (ha2:¬ 65536 < f.at_) {ps:List Ty} {r:Ty} (hs:tyS f.type = some (.fn ps r)) (hc:checkN L f.type = 0) (hl:ps.length ≠ f.params.length) :
 Calls Tryz.prog 56 #[fnUV f vp vb,.slice l L.length lc] w (CodeEnd (funcE L f) w):=by
 have hfin:funcE L f = 90:=by
  unfold funcE
  rw [hs]
  exact if_pos (.inr hl)
 obtain ⟨ap,cp,rfl,hsp,hsl,hvo⟩:=hF.params
 have HNm:=Hd (fun w (hK:KeysAt w)=>lexIsName_is true f.name w hK hn)
 obtain ⟨fat,fname,ftype,fparams,fbody⟩:=f
 simp only [fnUV] at *
 go_enter Tryz.func56,Tryz.ntmps56
 go_upto_region 1 with fail
 have hx0:(w.alloc (.cells #[.int .i64 fat,.string fname,.string ftype,.slice ap fparams.length cp,vb] 45)).heap[w.heap.size]? = some (.cells #[.int .i64 fat,.string fname,.string ftype,.slice ap fparams.length cp,vb] 45 (0,0)):=heap_alloc_new _ _
 have hb0:=ba1 w (.cells #[.int .i64 fat,.string fname,.string ftype,.slice ap fparams.length cp,vb] 45)
 generalize w.alloc (.cells #[.int .i64 fat,.string fname,.string ftype,.slice ap fparams.length cp,vb] 45) = w0 at *
 have HNd:=Hd (fun w' (h:Below w0.heap.size w0 w')=>(five_block ((h.block _ (lt_of_heap hx0)).trans hx0)).1)
 have HB0:=Hd hb0
 have HEx:=Hd (fun w' (h:Below w0.heap.size w0 w')=>hE.below (hb0.trans (h.mono hb0.size)))
 have HSx:=Hd (fun w' (h:Below w0.heap.size w0 w')=>(hS.below (hb0.trans (h.mono hb0.size))).mono (hb0.trans (h.mono hb0.size)).size)
 have HSg:=Hd (sign_good (HEx.out w0 (Below.refl _ _)) hs)
 have HCk:=Hd (fun w' (h:Below w0.heap.size w0 w')=>checkAll_is 0 ftype l lc L mv w' (HEx.out w' h) (HSx.out w' h) hc)
 obtain ⟨x0,x1,x2,x3,x4⟩:=HNd.out w0 (Below.refl _ _)
 have HFin:=Hd hfin
 have t3:((ps.length:Int) != (fparams.length:Int)) = true:=by simp;omega
 have t1:decide (fat < 0) = false:=by simpa using ha
 have t2:decide (65536 < fat) = false:=by simpa using ha2
 clear hE hF hS hx0 hb0 hfin ha ha2 hs hc hl
 go_wp2_with (first
  | (go_at_call 85;(with_reducible refine HSg.out.mono ?_);rintro e w1 ⟨⟨pa,pc,rfl,hpr⟩,hb1⟩;have HB1:=Hd (hb1);obtain ⟨x0,x1,x2,x3,x4⟩:=HNd.out w1 HB1.out;have HPr:=Hd hpr;have HN1:=Hd (HNm.out w1 (HEx.out w1 HB1.out).keys);clear hb1)
  | (go_at_call 80;(with_reducible refine HN1.out.mono ?_);rintro e w2 ⟨rfl,hb2⟩;have HB2:=Ht HB1 hb2;obtain ⟨x0,x1,x2,x3,x4⟩:=HNd.out w2 HB2.out;have HC2:=Hd (HCk.out w2 HB2.out);clear hb2)
  | (go_at_call 81;(with_reducible refine HC2.out.mono ?_);rintro e w3 ⟨rfl,hb3⟩;have HB3:=Ht HB2 hb3;obtain ⟨x0,x1,x2,x3,x4⟩:=HNd.out w3 HB3.out;clear hb3))
 go_ret
 exact codeEnd HFin.out (HB0.out.trans (HB3.out.mono HB0.out.size))
end Go.Proofs.YtbbaooeioogijaaGreatDoor
