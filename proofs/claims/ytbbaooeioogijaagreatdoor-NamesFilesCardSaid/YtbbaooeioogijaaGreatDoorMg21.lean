/- A global of a unit looked at: the program · A unit looked at: the program · A file's names in memory, while one more is put: each part b -/
import Derived.Test.YtbbaooeioogijaaGreatDoorUnitF2
import Derived.Test.YtbbaooeioogijaaGreatDoorMg19
import Derived.Deep.AppendLies
namespace Go.Proofs.YtbbaooeioogijaaGreatDoor
open Go.RowKit
theorem globE_head {L:List Sr} {g:GlU} (h:headG L g = false):globE L g = 90:=by unfold globE;rw [if_pos h]
set_option maxRecDepth 100000 in
set_option maxHeartbeats 4000000 in
theorem glob9_name (g:GlU) (v:Value) (l:Option Addr) (lc:Nat) (L:List Sr) (mv:List Value) (w:World) (hE:TE w) (hG:IsGlU w.heap.size w g v) (hS:IsSrs w.heap.size w l L mv) (hn:isNameB g.var.name = false) :
 Calls Tryz.prog 55 #[glUV g v,.slice l L.length lc] w (CodeEnd (globE L g) w):=by
 have hfin:globE L g = 90:=globE_head (by unfold headG;rw [hn];rfl)
 have HNm:=Hd (fun w (hK:KeysAt w)=>lexIsName_is false g.var.name w hK hn)
 obtain ⟨gat,⟨gname,gtype,gvol⟩,ginit⟩:=g
 simp only [glUV] at *
 go_enter Tryz.func55,Tryz.ntmps55
 go_upto_region 1 with fail
 have hx0:(w.alloc (.cells #[.int .i64 gat,.string gname,.string gtype,.bool gvol,v] 64)).heap[w.heap.size]? = some (.cells #[.int .i64 gat,.string gname,.string gtype,.bool gvol,v] 64 (0,0)):=heap_alloc_new _ _
 have hb0:=ba1 w (.cells #[.int .i64 gat,.string gname,.string gtype,.bool gvol,v] 64)
 generalize w.alloc (.cells #[.int .i64 gat,.string gname,.string gtype,.bool gvol,v] 64) = w0 at *
 have HNd:=Hd (fun w' (h:Below w0.heap.size w0 w')=>(five_block ((h.block _ (lt_of_heap hx0)).trans hx0)).1)
 have HB0:=Hd hb0
 have HEx:=Hd (fun w' (h:Below w0.heap.size w0 w')=>hE.below (hb0.trans (h.mono hb0.size)))
 have HSx:=Hd (fun w' (h:Below w0.heap.size w0 w')=>(hS.below (hb0.trans (h.mono hb0.size))).mono (hb0.trans (h.mono hb0.size)).size)
 have HN1:=Hd (HNm.out w0 (HEx.out w0 (Below.refl _ _)).keys)
 obtain ⟨x0,x1,x2,x3,x4⟩:=HNd.out w0 (Below.refl _ _)
 have HFin:=Hd hfin
 clear hE hG hS hx0 hb0 hfin hn
 go_wp2_with (go_at_call 80;(with_reducible refine HN1.out.mono ?_);rintro e w1 ⟨rfl,hb1⟩;have HB1:=Hd (hb1);obtain ⟨x0,x1,x2,x3,x4⟩:=HNd.out w1 HB1.out;clear hb1)
 go_ret
 exact codeEnd HFin.out (HB0.out.trans (HB1.out.mono HB0.out.size))
set_option maxRecDepth 100000 in
set_option maxHeartbeats 4000000 in
theorem glob9_lo (g:GlU) (v:Value) (l:Option Addr) (lc:Nat) (L:List Sr) (mv:List Value) (w:World) (hE:TE w) (hG:IsGlU w.heap.size w g v) (hS:IsSrs w.heap.size w l L mv) (hn:isNameB g.var.name = true) (ha:g.at_ < 0) :
 Calls Tryz.prog 55 #[glUV g v,.slice l L.length lc] w (CodeEnd (globE L g) w):=by
 have hfin:globE L g = 90:=globE_head (by unfold headG;rw [hn,decide_eq_false (by omega)];rfl)
 have HNm:=Hd (fun w (hK:KeysAt w)=>lexIsName_is true g.var.name w hK hn)
 obtain ⟨gat,⟨gname,gtype,gvol⟩,ginit⟩:=g
 simp only [glUV] at *
 go_enter Tryz.func55,Tryz.ntmps55
 go_upto_region 1 with fail
 have hx0:(w.alloc (.cells #[.int .i64 gat,.string gname,.string gtype,.bool gvol,v] 64)).heap[w.heap.size]? = some (.cells #[.int .i64 gat,.string gname,.string gtype,.bool gvol,v] 64 (0,0)):=heap_alloc_new _ _
 have hb0:=ba1 w (.cells #[.int .i64 gat,.string gname,.string gtype,.bool gvol,v] 64)
 generalize w.alloc (.cells #[.int .i64 gat,.string gname,.string gtype,.bool gvol,v] 64) = w0 at *
 have HNd:=Hd (fun w' (h:Below w0.heap.size w0 w')=>(five_block ((h.block _ (lt_of_heap hx0)).trans hx0)).1)
 have HB0:=Hd hb0
 have HEx:=Hd (fun w' (h:Below w0.heap.size w0 w')=>hE.below (hb0.trans (h.mono hb0.size)))
 have HSx:=Hd (fun w' (h:Below w0.heap.size w0 w')=>(hS.below (hb0.trans (h.mono hb0.size))).mono (hb0.trans (h.mono hb0.size)).size)
 have HN1:=Hd (HNm.out w0 (HEx.out w0 (Below.refl _ _)).keys)
 obtain ⟨x0,x1,x2,x3,x4⟩:=HNd.out w0 (Below.refl _ _)
 have t1:decide (gat < 0) = true:=by simpa using ha
 have HFin:=Hd hfin
 clear hE hG hS hx0 hb0 hfin hn ha
 go_wp2_with (go_at_call 80;(with_reducible refine HN1.out.mono ?_);rintro e w1 ⟨rfl,hb1⟩;have HB1:=Hd (hb1);obtain ⟨x0,x1,x2,x3,x4⟩:=HNd.out w1 HB1.out;clear hb1)
 go_ret
 exact codeEnd HFin.out (HB0.out.trans (HB1.out.mono HB0.out.size))
set_option maxRecDepth 100000 in
set_option maxHeartbeats 4000000 in
theorem glob9_hi (g:GlU) (v:Value) (l:Option Addr) (lc:Nat) (L:List Sr) (mv:List Value) (w:World) (hE:TE w) (hG:IsGlU w.heap.size w g v) (hS:IsSrs w.heap.size w l L mv) (hn:isNameB g.var.name = true) (ha:¬ g.at_ < 0) (ha2:65536 < g.at_) :
 Calls Tryz.prog 55 #[glUV g v,.slice l L.length lc] w (CodeEnd (globE L g) w):=by
 have hfin:globE L g = 90:=globE_head (by unfold headG;rw [hn,decide_eq_false (by omega)];rfl)
 have HNm:=Hd (fun w (hK:KeysAt w)=>lexIsName_is true g.var.name w hK hn)
 obtain ⟨gat,⟨gname,gtype,gvol⟩,ginit⟩:=g
 simp only [glUV] at *
 go_enter Tryz.func55,Tryz.ntmps55
 go_upto_region 1 with fail
 have hx0:(w.alloc (.cells #[.int .i64 gat,.string gname,.string gtype,.bool gvol,v] 64)).heap[w.heap.size]? = some (.cells #[.int .i64 gat,.string gname,.string gtype,.bool gvol,v] 64 (0,0)):=heap_alloc_new _ _
 have hb0:=ba1 w (.cells #[.int .i64 gat,.string gname,.string gtype,.bool gvol,v] 64)
 generalize w.alloc (.cells #[.int .i64 gat,.string gname,.string gtype,.bool gvol,v] 64) = w0 at *
 have HNd:=Hd (fun w' (h:Below w0.heap.size w0 w')=>(five_block ((h.block _ (lt_of_heap hx0)).trans hx0)).1)
 have HB0:=Hd hb0
 have HEx:=Hd (fun w' (h:Below w0.heap.size w0 w')=>hE.below (hb0.trans (h.mono hb0.size)))
 have HSx:=Hd (fun w' (h:Below w0.heap.size w0 w')=>(hS.below (hb0.trans (h.mono hb0.size))).mono (hb0.trans (h.mono hb0.size)).size)
 have HN1:=Hd (HNm.out w0 (HEx.out w0 (Below.refl _ _)).keys)
 obtain ⟨x0,x1,x2,x3,x4⟩:=HNd.out w0 (Below.refl _ _)
 have t1:decide (gat < 0) = false:=by simpa using ha
 have t2:decide (65536 < gat) = true:=by simpa using ha2
 have HFin:=Hd hfin
 clear hE hG hS hx0 hb0 hfin hn ha ha2
 go_wp2_with (go_at_call 80;(with_reducible refine HN1.out.mono ?_);rintro e w1 ⟨rfl,hb1⟩;have HB1:=Hd (hb1);obtain ⟨x0,x1,x2,x3,x4⟩:=HNd.out w1 HB1.out;clear hb1)
 go_ret
 exact codeEnd HFin.out (HB0.out.trans (HB1.out.mono HB0.out.size))
set_option maxRecDepth 100000 in
set_option maxHeartbeats 4000000 in
theorem glob9_check (g:GlU) (v:Value) (l:Option Addr) (lc:Nat) (L:List Sr) (mv:List Value) (w:World) (hE:TE w) (hG:IsGlU w.heap.size w g v) (hS:IsSrs w.heap.size w l L mv) (hn:isNameB g.var.name = true) (ha:¬ g.at_ < 0) (ha2:¬ 65536 < g.at_) (hc:checkN L g.var.type ≠ 0) :
 Calls Tryz.prog 55 #[glUV g v,.slice l L.length lc] w (CodeEnd (globE L g) w):=by
 have hfin:globE L g = 90:=globE_head (by unfold headG;rw [decide_eq_false hc];simp)
 have HNm:=Hd (fun w (hK:KeysAt w)=>lexIsName_is true g.var.name w hK hn)
 obtain ⟨gat,⟨gname,gtype,gvol⟩,ginit⟩:=g
 simp only [glUV] at *
 go_enter Tryz.func55,Tryz.ntmps55
 go_upto_region 1 with fail
 have hx0:(w.alloc (.cells #[.int .i64 gat,.string gname,.string gtype,.bool gvol,v] 64)).heap[w.heap.size]? = some (.cells #[.int .i64 gat,.string gname,.string gtype,.bool gvol,v] 64 (0,0)):=heap_alloc_new _ _
 have hb0:=ba1 w (.cells #[.int .i64 gat,.string gname,.string gtype,.bool gvol,v] 64)
 generalize w.alloc (.cells #[.int .i64 gat,.string gname,.string gtype,.bool gvol,v] 64) = w0 at *
 have HNd:=Hd (fun w' (h:Below w0.heap.size w0 w')=>(five_block ((h.block _ (lt_of_heap hx0)).trans hx0)).1)
 have HB0:=Hd hb0
 have HEx:=Hd (fun w' (h:Below w0.heap.size w0 w')=>hE.below (hb0.trans (h.mono hb0.size)))
 have HSx:=Hd (fun w' (h:Below w0.heap.size w0 w')=>(hS.below (hb0.trans (h.mono hb0.size))).mono (hb0.trans (h.mono hb0.size)).size)
 have HN1:=Hd (HNm.out w0 (HEx.out w0 (Below.refl _ _)).keys)
 obtain ⟨x0,x1,x2,x3,x4⟩:=HNd.out w0 (Below.refl _ _)
 have t1:decide (gat < 0) = false:=by simpa using ha
 have t2:decide (65536 < gat) = false:=by simpa using ha2
 have t3:(checkN L gtype != 0) = true:=by simpa using hc
 have HCk:=Hd (fun w' (h:Below w0.heap.size w0 w')=>checkAll_ok gtype l lc L mv w' (HEx.out w' h) (HSx.out w' h))
 have HFin:=Hd hfin
 clear hE hG hS hx0 hb0 hfin hn ha ha2 hc
 generalize checkN L gtype = cc at *
 go_wp2_with (first
  | (go_at_call 80;(with_reducible refine HN1.out.mono ?_);rintro e w1 ⟨rfl,hb1⟩;have HB1:=Hd (hb1);obtain ⟨x0,x1,x2,x3,x4⟩:=HNd.out w1 HB1.out;have HC1:=Hd (HCk.out w1 HB1.out);clear hb1)
  | (go_at_call 81;(with_reducible refine HC1.out.mono ?_);rintro e w2 ⟨rfl,hb2⟩;have HB2:=Ht HB1 hb2;obtain ⟨x0,x1,x2,x3,x4⟩:=HNd.out w2 HB2.out;clear hb2))
 go_ret
 exact codeEnd HFin.out (HB0.out.trans (HB2.out.mono HB0.out.size))
theorem object_bool (r:Bool) (s:ByteArray) (w:World) (hty:typedS s = true) (h:objectS s = r):Calls Tryz.prog 82 #[.string s] w fun e w'=>e = .returned (.bool r) ∧ w' = w:=by subst h;exact objectS_ok s w hty
set_option maxRecDepth 100000 in
set_option maxHeartbeats 4000000 in
theorem glob9_object (g:GlU) (v:Value) (l:Option Addr) (lc:Nat) (L:List Sr) (mv:List Value) (w:World) (hE:TE w) (hG:IsGlU w.heap.size w g v) (hS:IsSrs w.heap.size w l L mv) (hn:isNameB g.var.name = true) (ha:¬ g.at_ < 0) (ha2:¬ 65536 < g.at_) (hc:checkN L g.var.type = 0) (ho:objectS g.var.type = false) :
 Calls Tryz.prog 55 #[glUV g v,.slice l L.length lc] w (CodeEnd (globE L g) w):=by
 have hfin:globE L g = 90:=globE_head (by unfold headG;rw [ho];simp)
 have HNm:=Hd (fun w (hK:KeysAt w)=>lexIsName_is true g.var.name w hK hn)
 obtain ⟨gat,⟨gname,gtype,gvol⟩,ginit⟩:=g
 simp only [glUV] at *
 go_enter Tryz.func55,Tryz.ntmps55
 go_upto_region 1 with fail
 have hx0:(w.alloc (.cells #[.int .i64 gat,.string gname,.string gtype,.bool gvol,v] 64)).heap[w.heap.size]? = some (.cells #[.int .i64 gat,.string gname,.string gtype,.bool gvol,v] 64 (0,0)):=heap_alloc_new _ _
 have hb0:=ba1 w (.cells #[.int .i64 gat,.string gname,.string gtype,.bool gvol,v] 64)
 generalize w.alloc (.cells #[.int .i64 gat,.string gname,.string gtype,.bool gvol,v] 64) = w0 at *
 have HNd:=Hd (fun w' (h:Below w0.heap.size w0 w')=>(five_block ((h.block _ (lt_of_heap hx0)).trans hx0)).1)
 have HB0:=Hd hb0
 have HEx:=Hd (fun w' (h:Below w0.heap.size w0 w')=>hE.below (hb0.trans (h.mono hb0.size)))
 have HSx:=Hd (fun w' (h:Below w0.heap.size w0 w')=>(hS.below (hb0.trans (h.mono hb0.size))).mono (hb0.trans (h.mono hb0.size)).size)
 have HN1:=Hd (HNm.out w0 (HEx.out w0 (Below.refl _ _)).keys)
 obtain ⟨x0,x1,x2,x3,x4⟩:=HNd.out w0 (Below.refl _ _)
 have t1:decide (gat < 0) = false:=by simpa using ha
 have t2:decide (65536 < gat) = false:=by simpa using ha2
 have HOb:=Hd (fun w'=>object_bool false gtype w' (checkN_typed hc) ho)
 have HCk:=Hd (fun w' (h:Below w0.heap.size w0 w')=>checkAll_is 0 gtype l lc L mv w' (HEx.out w' h) (HSx.out w' h) hc)
 have HFin:=Hd hfin
 clear hE hG hS hx0 hb0 hfin hn ha ha2 hc ho
 go_wp2_with (first
  | (go_at_call 80;(with_reducible refine HN1.out.mono ?_);rintro e w1 ⟨rfl,hb1⟩;have HB1:=Hd (hb1);obtain ⟨x0,x1,x2,x3,x4⟩:=HNd.out w1 HB1.out;have HC1:=Hd (HCk.out w1 HB1.out);clear hb1)
  | (go_at_call 81;(with_reducible refine HC1.out.mono ?_);rintro e w2 ⟨rfl,hb2⟩;have HB2:=Ht HB1 hb2;obtain ⟨x0,x1,x2,x3,x4⟩:=HNd.out w2 HB2.out;clear hb2)
  | (go_at_call 82;(with_reducible refine (HOb.out _).mono ?_);rintro e wc ⟨rfl,hwc⟩;subst wc))
 go_ret
 exact codeEnd HFin.out (HB0.out.trans (HB2.out.mono HB0.out.size))
def FitG (l:List (List Nd)) (i:Nat):Prop:=∀ (j:Nat) (h:j < l.length),j < i → itemE l[j] = 0
theorem FitG.next {l:List (List Nd)} {i:Nat} (h:FitG l i) (hi:i < l.length) (h0:itemE l[i] = 0):FitG l (i + 1):=fun j hj hji=>by
 rcases Nat.lt_or_ge j i with h' | h'
 ·exact h j hj h'
 ·obtain rfl:j = i:=by omega
  exact h0
theorem globE_is {L:List Sr} {g:GlU} (h:headG L g = true) (hl:g.init.length ≤ 4096):globE L g = codeE (firstE itemE g.init 0):=by
 unfold globE
 rw [if_neg (by rw [h];simp),if_neg (by omega)]
theorem globE_item {L:List Sr} {g:GlU} (h:headG L g = true) (hl:g.init.length ≤ 4096) {i:Nat} (hi:i < g.init.length) (hk:FitG g.init i) (hp:itemE g.init[i] ≠ 0):globE L g = itemE g.init[i]:=by
 rw [globE_is h hl,firstE_some hi hk hp]
 rfl
theorem globE_all {L:List Sr} {g:GlU} (h:headG L g = true) (hl:g.init.length ≤ 4096) (hk:FitG g.init g.init.length):globE L g = 0:=by
 rw [globE_is h hl,firstE_none hk]
 rfl
set_option maxRecDepth 100000 in
set_option maxHeartbeats 8000000 in
theorem glob9_fits (g:GlU) (v:Value) (l:Option Addr) (lc:Nat) (L:List Sr) (mv:List Value) (w:World) (hE:TE w) (hG:IsGlU w.heap.size w g v) (hS:IsSrs w.heap.size w l L mv) (hn:isNameB g.var.name = true) (ha:¬ g.at_ < 0) (ha2:¬ 65536 < g.at_) (hc:checkN L g.var.type = 0) (ho:objectS g.var.type = true) :
 Calls Tryz.prog 55 #[glUV g v,.slice l L.length lc] w (CodeEnd (globE L g) w):=by
 have hh:headG L g = true:=by unfold headG;rw [hn,decide_eq_true hc,ho,decide_eq_true (by omega)];rfl
 have HIt:=Hd (fun (hl:g.init.length ≤ 4096) (i:Nat) (hi:i < g.init.length) hk hp=>globE_item hh hl (i:=i) hi hk hp)
 have HAll:=Hd (fun (hl:g.init.length ≤ 4096) hk=>globE_all hh hl hk)
 have HLong:=Hd (fun (hl:4096 < g.init.length)=>show globE L g = 3 from by unfold globE;rw [if_neg (by rw [hh];simp),if_pos hl])
 have HTa:=Hd (fun (i:Nat) (hi:i < g.init.length)=>trs_at hG.init hi)
 generalize hfe:globE L g = fe at *
 clear hfe hh
 obtain ⟨ai,ci,Qi,rfl,hsi,_⟩:=hG.init
 have HNm:=Hd (fun w (hK:KeysAt w)=>lexIsName_is true g.var.name w hK hn)
 obtain ⟨gat,⟨gname,gtype,gvol⟩,ginit⟩:=g
 simp only [glUV] at *
 go_enter Tryz.func55,Tryz.ntmps55
 go_upto_region 1 with fail
 have hx0:(w.alloc (.cells #[.int .i64 gat,.string gname,.string gtype,.bool gvol,.slice ai ginit.length ci] 64)).heap[w.heap.size]? = some (.cells #[.int .i64 gat,.string gname,.string gtype,.bool gvol,.slice ai ginit.length ci] 64 (0,0)):=heap_alloc_new _ _
 have hb0:=ba1 w (.cells #[.int .i64 gat,.string gname,.string gtype,.bool gvol,.slice ai ginit.length ci] 64)
 generalize w.alloc (.cells #[.int .i64 gat,.string gname,.string gtype,.bool gvol,.slice ai ginit.length ci] 64) = w0 at *
 have HNd:=Hd (fun w' (h:Below w0.heap.size w0 w')=>(five_block ((h.block _ (lt_of_heap hx0)).trans hx0)).1)
 have HB0:=Hd hb0
 have HEx:=Hd (fun w' (h:Below w0.heap.size w0 w')=>hE.below (hb0.trans (h.mono hb0.size)))
 have HSx:=Hd (fun w' (h:Below w0.heap.size w0 w')=>(hS.below (hb0.trans (h.mono hb0.size))).mono (hb0.trans (h.mono hb0.size)).size)
 have HN1:=Hd (HNm.out w0 (HEx.out w0 (Below.refl _ _)).keys)
 obtain ⟨x0,x1,x2,x3,x4⟩:=HNd.out w0 (Below.refl _ _)
 have t1:decide (gat < 0) = false:=by simpa using ha
 have t2:decide (65536 < gat) = false:=by simpa using ha2
 have HOb:=Hd (fun w'=>object_bool true gtype w' (checkN_typed hc) ho)
 have HCk:=Hd (fun w' (h:Below w0.heap.size w0 w')=>checkAll_is 0 gtype l lc L mv w' (HEx.out w' h) (HSx.out w' h) hc)
 have hil:(ginit.length:Int) ≤ 140737488351232:=by have:=hsi.1;omega
 clear hG hS hx0 hb0 ha ha2 hc hn ho hsi
 go_upto_region 3 with (first
  | (go_at_call 80;(with_reducible refine HN1.out.mono ?_);rintro e w1 ⟨rfl,hb1⟩;have HB1:=Hd (hb1);obtain ⟨x0,x1,x2,x3,x4⟩:=HNd.out w1 HB1.out;have HC1:=Hd (HCk.out w1 HB1.out);clear hb1)
  | (go_at_call 81;(with_reducible refine HC1.out.mono ?_);rintro e w2 ⟨rfl,hb2⟩;have HB2:=Ht HB1 hb2;obtain ⟨x0,x1,x2,x3,x4⟩:=HNd.out w2 HB2.out;clear hb2)
  | (go_at_call 82;(with_reducible refine (HOb.out _).mono ?_);rintro e wc ⟨rfl,hwc⟩;subst wc))
 by_cases hlong:4096 < ginit.length
 ·have t4:decide (4096 < (ginit.length:Int)) = true:=by simp;omega
  have HFin:=Hd (HLong.out hlong)
  clear hlong
  go_wp2_with fail
  go_ret
  exact codeEnd HFin.out (HB0.out.trans (HB2.out.mono HB0.out.size))
 have t4:decide (4096 < (ginit.length:Int)) = false:=by simp;omega
 have hl4:ginit.length ≤ 4096:=by omega
 clear hlong
 go_wp2_with fail
 go_loopg [45] ginit.length (fun m v45 wy=>∃ (i:Nat),i ≤ ginit.length ∧ i + m = ginit.length ∧ v45 = .int .i64 (i:Int) ∧ Hid (Below w0.heap.size w0 wy) ∧ Hid (FitG ginit i))
 case atStart=>exact ⟨0,by omega,by omega,rfl,HB2,Hd (fun j _ h=>by omega)⟩
 case round=>
  obtain ⟨i,hi,him,rfl,HB,HK⟩:=hrel
  by_cases hlt:i < ginit.length
  ·obtain ⟨b,off,cq,q,hsq,hblt,hT,c0⟩:=HTa.out i hlt
   obtain ⟨rfl,rfl⟩:ai = some ⟨b,off,none⟩ ∧ ci = cq:=by simpa using hsq
   have hwb:=HB0.out.trans (HB.out.mono HB0.out.size)
   rw [← hwb.cell hblt] at c0
   have HNx:=Hd (fun h0=>HK.out.next hlt h0)
   have HBad:=Hd (fun hp=>HIt.out hl4 i hlt HK.out hp)
   obtain ⟨aT,cT,rfl,hsT,hnT,hkT⟩:=hT
   generalize ginit[i]'hlt = T at *
   have HTc:=Hd (treeCheck_ok aT cT T wr (HEx.out wr HB.out) ((hnT.below hwb (Nat.le_refl _)).mono hwb.size) hkT hsT.1)
   have hTl:(T.length:Int) ≤ 2199023255488:=by have:=hsT.1;omega
   clear hsq
   by_cases hck:checkN9 T = 0
   ·rw [hck] at HTc
    obtain ⟨fr,_,hGv⟩:=check_formed hck
    have hpos:=hGv.formed.pos
    obtain ⟨k,hk⟩:∃ k,T.length = k + 1:=⟨T.length - 1,by omega⟩
    have hk1:(T.length:Int) - 1 = (k:Int):=by omega
    have hkl:k < T.length:=by omega
    have hk2:T.length - 1 = k:=by omega
    have hkd:=kindAt_is (List.getElem?_eq_getElem hkl)
    have HI:=Hd (show itemE T = if exprK T[k].kind = false then 90 else 0 from by unfold itemE;rw [if_neg (by simp [hck]),hk2,hkd])
    have HZ:=Hd (fun w' (h:Below w0.heap.size w0 w')=>nds_at (hnT.below (HB0.out.trans (h.mono HB0.out.size)) (Nat.le_refl _)) hkl)
    have HX:=Hd (fun w'=>expr_ok T[k].kind w')
    generalize T[k].kind = kk at *
    clear hck hGv hk hkd hnT hkT hsT hk2
    rcases hex:exprK kk with _ | _
    ·rw [hex] at HX HI
     have HFin:=Hd (show fe = 90 from by rw [HBad.out (by rw [HI.out];simp),HI.out];rfl)
     clear hex
     go_wp2_with (first
      | (go_at_call 83;(with_reducible refine HTc.out.mono ?_);rintro e w7 ⟨rfl,hb7⟩;have HB7:=Ht HB hb7;obtain ⟨zb,zo,hz,_,z0,_⟩:=HZ.out w7 HB7.out;cases hz;clear hb7)
      | (go_at_call 84;(with_reducible refine (HX.out _).mono ?_);rintro e wc ⟨rfl,hwc⟩;subst wc))
     go_ret
     exact codeEnd HFin.out (HB0.out.trans (HB7.out.mono HB0.out.size))
    ·rw [hex] at HX HI
     have HN7:=Hd (HNx.out (by rw [HI.out];simp))
     clear hex
     go_wp2_with (first
      | (go_at_call 83;(with_reducible refine HTc.out.mono ?_);rintro e w7 ⟨rfl,hb7⟩;have HB7:=Ht HB hb7;obtain ⟨zb,zo,hz,_,z0,_⟩:=HZ.out w7 HB7.out;cases hz;clear hb7)
      | (go_at_call 84;(with_reducible refine (HX.out _).mono ?_);rintro e wc ⟨rfl,hwc⟩;subst wc))
     go_roundg (ginit.length - (i + 1))
     case measure=>omega
     case rel=>exact ⟨i + 1,by omega,by omega,by rw [Int.natCast_add];rfl,HB7,HN7⟩
   ·have HI:=Hd (show itemE T = checkN9 T from by unfold itemE;rw [if_pos hck])
    have HFin:=Hd (show fe = checkN9 T from by rw [HBad.out (by rw [HI.out];exact hck),HI.out])
    have t6:(checkN9 T != 0) = true:=by simpa using hck
    clear hck
    generalize checkN9 T = cc at *
    go_wp2_with (go_at_call 83;(with_reducible refine HTc.out.mono ?_);rintro e w7 ⟨rfl,hb7⟩;have HB7:=Ht HB hb7;clear hb7)
    go_ret
    exact codeEnd HFin.out (HB0.out.trans (HB7.out.mono HB0.out.size))
  ·obtain rfl:i = ginit.length:=by omega
   have HFin:=Hd (show fe = 0 from HAll.out hl4 HK.out)
   go_wp2_with fail
   go_ret
   exact codeEnd HFin.out (HB0.out.trans (HB.out.mono HB0.out.size))
theorem glob9_ok (g:GlU) (v:Value) (l:Option Addr) (lc:Nat) (L:List Sr) (mv:List Value) (w:World) (hE:TE w) (hG:IsGlU w.heap.size w g v) (hS:IsSrs w.heap.size w l L mv):Calls Tryz.prog 55 #[glUV g v,.slice l L.length lc] w (CodeEnd (globE L g) w):=by
 rcases hn:isNameB g.var.name with _ | _
 ·exact glob9_name g v l lc L mv w hE hG hS hn
 by_cases ha:g.at_ < 0
 ·exact glob9_lo g v l lc L mv w hE hG hS hn ha
 by_cases ha2:65536 < g.at_
 ·exact glob9_hi g v l lc L mv w hE hG hS hn ha ha2
 by_cases hc:checkN L g.var.type = 0
 ·rcases ho:objectS g.var.type with _ | _
  ·exact glob9_object g v l lc L mv w hE hG hS hn ha ha2 hc ho
  ·exact glob9_fits g v l lc L mv w hE hG hS hn ha ha2 hc ho
 ·exact glob9_check g v l lc L mv w hE hG hS hn ha ha2 hc
end Go.Proofs.YtbbaooeioogijaaGreatDoor
namespace Go.Proofs.YtbbaooeioogijaaGreatDoor
open Go.RowKit
def FaultEnd (p:Int × Int) (w:World) (e:Ending) (w':World):Prop:=e = .returned (.agg #[.int .i64 p.1,.int .i64 p.2]) ∧ Below w.heap.size w w'
theorem faultEnd {p:Int × Int} {x c:Int} {w w':World} (h:p = (x,c)) (hb:Below w.heap.size w w'):FaultEnd p w (.returned (.agg #[.int .i64 x,.int .i64 c])) w':=by subst h;exact ⟨rfl,hb⟩
def FitA {α:Type} (f:α → Int) (L:List α) (i:Nat):Prop:=∀ (j:Nat) (h:j < L.length),j < i → f L[j] = 0
theorem FitA.next {α:Type} {f:α → Int} {L:List α} {i:Nat} (h:FitA f L i) (hi:i < L.length) (h0:f L[i] = 0):FitA f L (i + 1):=fun j hj hji=>by
 rcases Nat.lt_or_ge j i with h' | h'
 ·exact h j hj h'
 ·obtain rfl:j = i:=by omega
  exact h0
theorem unitE_long {u:UnU} (h:64 < u.structs.length ∨ 256 < u.globals.length ∨ 256 < u.funcs.length):unitE u = (0,3):=by unfold unitE;rw [if_pos h]
theorem unitE_struct {u:UnU} (h:¬ (64 < u.structs.length ∨ 256 < u.globals.length ∨ 256 < u.funcs.length)) (hf:(faultN u.structs).2 ≠ 0):unitE u = faultN u.structs:=by unfold unitE;rw [if_neg h,if_pos hf]
theorem unitE_glob {u:UnU} (h:¬ (64 < u.structs.length ∨ 256 < u.globals.length ∨ 256 < u.funcs.length)) (hf:(faultN u.structs).2 = 0) {i:Nat} (hi:i < u.globals.length) (hk:FitA (globE u.structs) u.globals i) (hp:globE u.structs u.globals[i] ≠ 0):unitE u = ((i:Int),globE u.structs u.globals[i]):=by
 unfold unitE
 rw [if_neg h,if_neg (by simp [hf]),firstE_some hi hk hp]
theorem unitE_func {u:UnU} (h:¬ (64 < u.structs.length ∨ 256 < u.globals.length ∨ 256 < u.funcs.length)) (hf:(faultN u.structs).2 = 0) (hg:FitA (globE u.structs) u.globals u.globals.length) {i:Nat} (hi:i < u.funcs.length) (hk:FitA (funcE u.structs) u.funcs i) (hp:funcE u.structs u.funcs[i] ≠ 0):unitE u = ((i:Int),funcE u.structs u.funcs[i]):=by
 unfold unitE
 rw [if_neg h,if_neg (by simp [hf]),firstE_none hg,firstE_some hi hk hp]
theorem unitE_all {u:UnU} (h:¬ (64 < u.structs.length ∨ 256 < u.globals.length ∨ 256 < u.funcs.length)) (hf:(faultN u.structs).2 = 0) (hg:FitA (globE u.structs) u.globals u.globals.length) (hk:FitA (funcE u.structs) u.funcs u.funcs.length):unitE u = (0,0):=by
 unfold unitE
 rw [if_neg h,if_neg (by simp [hf]),firstE_none hg,firstE_none hk]
set_option maxRecDepth 100000 in
set_option maxHeartbeats 16000000 in
theorem checkUnit_ok (u:UnU) (vs vg vf:Value) (w:World) (hE:TE w) (hU:IsUn w.heap.size w u vs vg vf) :
 Calls Tryz.prog 33 #[.agg #[vs,vg,vf]] w (FaultEnd (unitE u) w):=by
 obtain ⟨sa,sc,mv,rfl,hso,hS⟩:=hU.structs
 have HGl:=Hd (fun (i:Nat) (hi:i < u.globals.length)=>glsU_at hU.globals hi)
 have HFl:=Hd (fun (i:Nat) (hi:i < u.funcs.length)=>fnsU_at hU.funcs hi)
 have U1:=Hd (fun h=>unitE_long (u:=u) h)
 have U2:=Hd (fun h hf=>unitE_struct (u:=u) h hf)
 have U3:=Hd (fun h hf (i:Nat) (hi:i < u.globals.length) hk hp=>unitE_glob (u:=u) h hf hi hk hp)
 have U4:=Hd (fun h hf hg (i:Nat) (hi:i < u.funcs.length) hk hp=>unitE_func (u:=u) h hf hg hi hk hp)
 have U5:=Hd (fun h hf hg hk=>unitE_all (u:=u) h hf hg hk)
 obtain ⟨ag,cg,rfl,hlg⟩:=glsU_len hU.globals
 obtain ⟨af,cf,rfl,hlf⟩:=fnsU_len hU.funcs
 have hls:=hso.2.2.1
 have HE:=Hd hE
 have HS:=Hd hS
 clear hE hU hS hso
 generalize unitE u = res at *
 obtain ⟨us,ug,uf⟩:=u
 simp only at *
 go_enter Tryz.func33,Tryz.ntmps33
 go_upto_region 1 with fail
 have hb1:=(ba1 w (.cells #[.slice sa us.length sc,.slice ag ug.length cg,.slice af uf.length cf] 26)).alloc (ba1 w (.cells #[.slice sa us.length sc,.slice ag ug.length cg,.slice af uf.length cf] 26)).size (.cells #[.int .i64 0,.int .i64 0] 32)
 have hxq:((w.alloc (.cells #[.slice sa us.length sc,.slice ag ug.length cg,.slice af uf.length cf] 26)).alloc (.cells #[.int .i64 0,.int .i64 0] 32)).heap[w.heap.size]? = some (.cells #[.slice sa us.length sc,.slice ag ug.length cg,.slice af uf.length cf] 26 (0,0)):=((ba1 (w.alloc (.cells #[.slice sa us.length sc,.slice ag ug.length cg,.slice af uf.length cf] 26)) _).block _ (by simp)).trans (heap_alloc_new _ _)
 have hxr:((w.alloc (.cells #[.slice sa us.length sc,.slice ag ug.length cg,.slice af uf.length cf] 26)).alloc (.cells #[.int .i64 0,.int .i64 0] 32)).heap[w.heap.size + 1]? = some (.cells #[.int .i64 0,.int .i64 0] 32 (0,0)):=by
  have:=heap_alloc_new (w.alloc (.cells #[.slice sa us.length sc,.slice ag ug.length cg,.slice af uf.length cf] 26)) (.cells #[.int .i64 0,.int .i64 0] 32)
  simpa using this
 generalize (w.alloc (.cells #[.slice sa us.length sc,.slice ag ug.length cg,.slice af uf.length cf] 26)).alloc (.cells #[.int .i64 0,.int .i64 0] 32) = w1 at *
 have HQ:=Hd (fun w' (h:Below w1.heap.size w1 w')=>(three_block ((h.block _ (lt_of_heap hxq)).trans hxq)).1)
 have HR:=Hd (fun w' (h:Below w1.heap.size w1 w')=>two_block ((h.block _ (lt_of_heap hxr)).trans hxr))
 have HB1:=Hd hb1
 have HEx:=Hd (fun w' (h:Below w1.heap.size w1 w')=>HE.out.below (hb1.trans (h.mono hb1.size)))
 have HSx:=Hd (fun w' (h:Below w1.heap.size w1 w')=>(HS.out.below (hb1.trans (h.mono hb1.size))).mono (hb1.trans (h.mono hb1.size)).size)
 have HBw:=Hd (fun w' (h:Below w1.heap.size w1 w')=>hb1.trans (h.mono hb1.size))
 clear hb1 hxq hxr
 obtain ⟨q0,q1,q2⟩:=HQ.out w1 (Below.refl _ _)
 by_cases l1:64 < us.length
 ·have t1:decide (64 < (us.length:Int)) = true:=by simp;omega
  have HFin:=Hd (U1.out (.inl l1))
  clear l1
  obtain ⟨⟨d0,d1⟩,fd⟩:=HR.out w1 (Below.refl w1.heap.size w1)
  have fd0:=fd 0
  have fd1:=fd 1
  go_wp2_with fail
  exact bodyPost_ret (v:=.agg #[.int .i64 0,.int .i64 3]) (by simp [results,Tryz.results33,go_sem,d0,d1]) rfl (faultEnd HFin.out ((Below.setCell (Below.setCell (HB1.out.trans ((Below.refl w1.heap.size w1).mono HB1.out.size)) (Nat.le_succ _) _) (Nat.le_succ _) _)))
 have t1:decide (64 < (us.length:Int)) = false:=by simp;omega
 by_cases l2:256 < ug.length
 ·have t2:decide (256 < (ug.length:Int)) = true:=by simp;omega
  have HFin:=Hd (U1.out (.inr (.inl l2)))
  clear l1 l2
  obtain ⟨⟨d0,d1⟩,fd⟩:=HR.out w1 (Below.refl w1.heap.size w1)
  have fd0:=fd 0
  have fd1:=fd 1
  go_wp2_with fail
  exact bodyPost_ret (v:=.agg #[.int .i64 0,.int .i64 3]) (by simp [results,Tryz.results33,go_sem,d0,d1]) rfl (faultEnd HFin.out ((Below.setCell (Below.setCell (HB1.out.trans ((Below.refl w1.heap.size w1).mono HB1.out.size)) (Nat.le_succ _) _) (Nat.le_succ _) _)))
 have t2:decide (256 < (ug.length:Int)) = false:=by simp;omega
 by_cases l3:256 < uf.length
 ·have t3:decide (256 < (uf.length:Int)) = true:=by simp;omega
  have HFin:=Hd (U1.out (.inr (.inr l3)))
  clear l1 l2 l3
  obtain ⟨⟨d0,d1⟩,fd⟩:=HR.out w1 (Below.refl w1.heap.size w1)
  have fd0:=fd 0
  have fd1:=fd 1
  go_wp2_with fail
  exact bodyPost_ret (v:=.agg #[.int .i64 0,.int .i64 3]) (by simp [results,Tryz.results33,go_sem,d0,d1]) rfl (faultEnd HFin.out ((Below.setCell (Below.setCell (HB1.out.trans ((Below.refl w1.heap.size w1).mono HB1.out.size)) (Nat.le_succ _) _) (Nat.le_succ _) _)))
 have t3:decide (256 < (uf.length:Int)) = false:=by simp;omega
 have HLe:=Hd (show ¬ (64 < us.length ∨ 256 < ug.length ∨ 256 < uf.length) from by rintro (h | h | h) <;> omega)
 have hl2:ug.length ≤ 256:=by omega
 have hl3:uf.length ≤ 256:=by omega
 clear l1 l2 l3
 have hst:=structs_ok sa sc us mv w1 (HEx.out w1 (Below.refl _ _)) (HSx.out w1 (Below.refl _ _))
 unfold StructsEnd at hst
 have HFn:=Hd (show faultN us = ((faultN us).1,(faultN us).2) from rfl)
 have V2:=Hd (U2.out HLe.out)
 have V3:=Hd (U3.out HLe.out)
 have V4:=Hd (U4.out HLe.out)
 have V5:=Hd (U5.out HLe.out)
 generalize hfl:faultN us = fl at *
 obtain ⟨fx,fc⟩:=fl
 simp only at hst
 have HSt:=Hd hst
 clear hst hfl
 go_upto_region 4 with (go_at_call 54;(with_reducible refine HSt.out.mono ?_);rintro e w2 ⟨rfl,hb2⟩;have HB2:=Hd hb2;obtain ⟨q0,q1,q2⟩:=HQ.out w2 hb2;clear hb2)
 have hxf:=fault_blk w2 (.int .i64 fx) (.int .i64 fc)
 have hb3:=ba1 w2 (.cells #[.int .i64 fx,.int .i64 fc] 32)
 generalize w2.alloc (.cells #[.int .i64 fx,.int .i64 fc] 32) = w3 at *
 have HB3:=Ht HB2 hb3
 obtain ⟨⟨k0,k1⟩,_⟩:=two_block hxf
 obtain ⟨q0,q1,q2⟩:=HQ.out w3 HB3.out
 clear hxf hb3
 by_cases hf0:fc = 0
 ·have t4:(fc != 0) = false:=by simpa using hf0
  have W3:=Hd (V3.out hf0)
  have W4:=Hd (V4.out hf0)
  have W5:=Hd (V5.out hf0)
  clear hf0
  go_wp2_with fail
  go_loopg [37] ug.length (fun m v37 wy=>∃ (i:Nat),i ≤ ug.length ∧ i + m = ug.length ∧ v37 = .int .i64 (i:Int) ∧ Hid (Below w1.heap.size w1 wy) ∧ Hid (FitA (globE us) ug i))
  case atStart=>exact ⟨0,by omega,by omega,rfl,HB3,Hd (fun j _ h=>by omega)⟩
  case round=>
   obtain ⟨i,hi,him,rfl,HB,HK⟩:=hrel
   obtain ⟨q0,q1,q2⟩:=HQ.out wr HB.out
   by_cases hlt:i < ug.length
   ·obtain ⟨b,off,cq,v,hsq,hblt,hG,c0,c1,c2,c3,c4⟩:=HGl.out i hlt
    obtain ⟨rfl,rfl⟩:ag = some ⟨b,off,none⟩ ∧ cg = cq:=by simpa using hsq
    obtain ⟨ai,ci,hvs⟩:=trs_len hG.init
    subst hvs
    have hwb:=HBw.out wr HB.out
    rw [← hwb.cell hblt] at c0 c1 c2 c3 c4
    have HNx:=Hd (fun h0=>HK.out.next hlt h0)
    have HBad:=Hd (fun hp=>W3.out i hlt HK.out hp)
    have HGc:=Hd (fun w' (h:Below w1.heap.size w1 w')=>glob9_ok (ug[i]'hlt) _ sa sc us mv w' (HEx.out w' h) ((hG.below (HBw.out w' h) (Nat.le_refl _)).mono (HBw.out w' h).size) (HSx.out w' h))
    unfold CodeEnd at HGc
    generalize (ug[i]'hlt).init.length = n9 at *
    generalize ug[i]'hlt = g at *
    generalize globE us g = ge at *
    clear hsq hG
    go_upto_region 9 with fail
    have hxg:=(show (wr.alloc (.cells #[.int .i64 g.at_,.string g.var.name,.string g.var.type,.bool g.var.vol,.slice ai n9 ci] 64)).heap[wr.heap.size]? = some (.cells #[.int .i64 g.at_,.string g.var.name,.string g.var.type,.bool g.var.vol,.slice ai n9 ci] 64 (0,0)) from heap_alloc_new _ _)
    have hba:=ba1 wr (.cells #[.int .i64 g.at_,.string g.var.name,.string g.var.type,.bool g.var.vol,.slice ai n9 ci] 64)
    generalize wr.alloc (.cells #[.int .i64 g.at_,.string g.var.name,.string g.var.type,.bool g.var.vol,.slice ai n9 ci] 64) = wa at *
    have HBa:=Ht HB hba
    obtain ⟨⟨y0,y1,y2,y3,y4⟩,_⟩:=five_block hxg
    obtain ⟨q0,q1,q2⟩:=HQ.out wa HBa.out
    have HGa:=Hd (HGc.out wa HBa.out)
    clear hxg hba c0 c1 c2 c3 c4
    by_cases hge:ge = 0
    ·subst hge
     have HN7:=Hd (HNx.out rfl)
     go_wp2_with (go_at_call 55;(with_reducible refine HGa.out.mono ?_);rintro e w6 ⟨rfl,hb6⟩;have HB6:=Ht HBa hb6;clear hb6)
     go_roundg (ug.length - (i + 1))
     case measure=>omega
     case rel=>exact ⟨i + 1,by omega,by omega,by rw [Int.natCast_add];rfl,HB6,HN7⟩
    ·have t5:(ge != 0) = true:=by simpa using hge
     have HFin:=Hd (HBad.out hge)
     clear hge
     go_upto_region 11 with (go_at_call 55;(with_reducible refine HGa.out.mono ?_);rintro e w6 ⟨rfl,hb6⟩;have HB6:=Ht HBa hb6;clear hb6)
     obtain ⟨⟨d0,d1⟩,fd⟩:=HR.out w6 HB6.out
     have fd0:=fd 0
     have fd1:=fd 1
     go_wp2_with fail
     exact bodyPost_ret (v:=.agg #[.int .i64 (i:Int),.int .i64 ge]) (by simp [results,Tryz.results33,go_sem,d0,d1]) rfl (faultEnd HFin.out ((Below.setCell (Below.setCell (HB1.out.trans (HB6.out.mono HB1.out.size)) (Nat.le_succ _) _) (Nat.le_succ _) _)))
   ·obtain rfl:i = ug.length:=by omega
    have X4:=Hd (W4.out HK.out)
    have X5:=Hd (W5.out HK.out)
    have HBg:=HB
    go_wp2_with fail
    go_loopg [55] uf.length (fun m v55 wy=>∃ (i:Nat),i ≤ uf.length ∧ i + m = uf.length ∧ v55 = .int .i64 (i:Int) ∧ Hid (Below w1.heap.size w1 wy) ∧ Hid (FitA (funcE us) uf i))
    case atStart=>exact ⟨0,by omega,by omega,rfl,HBg,Hd (fun j _ h=>by omega)⟩
    case round=>
     obtain ⟨i,hi,him,rfl,HB,HK⟩:=hrel
     obtain ⟨q0,q1,q2⟩:=HQ.out wr HB.out
     by_cases hlt:i < uf.length
     ·obtain ⟨b,off,cq,vp,vb,hsq,hblt,hG,c0,c1,c2,c3,c4⟩:=HFl.out i hlt
      obtain ⟨rfl,rfl⟩:af = some ⟨b,off,none⟩ ∧ cf = cq:=by simpa using hsq
      obtain ⟨ap,cp,hvs,_⟩:=hG.params
      subst hvs
      obtain ⟨ab,cb,hvs,_⟩:=hG.body
      subst hvs
      have hwb:=HBw.out wr HB.out
      rw [← hwb.cell hblt] at c0 c1 c2 c3 c4
      have HNx:=Hd (fun h0=>HK.out.next hlt h0)
      have HBad:=Hd (fun hp=>X4.out i hlt HK.out hp)
      have HGc:=Hd (fun w' (h:Below w1.heap.size w1 w')=>func9_ok (uf[i]'hlt) _ _ sa sc us mv w' (HEx.out w' h) ((hG.below (HBw.out w' h) (Nat.le_refl _)).mono (HBw.out w' h).size) (HSx.out w' h))
      unfold CodeEnd at HGc
      generalize (uf[i]'hlt).params.length = np at *
      generalize (uf[i]'hlt).body.length = nb at *
      generalize uf[i]'hlt = g at *
      generalize funcE us g = ge at *
      clear hsq hG
      go_upto_region 16 with fail
      have hxg:=(show (wr.alloc (.cells #[.int .i64 g.at_,.string g.name,.string g.type,.slice ap np cp,.slice ab nb cb] 45)).heap[wr.heap.size]? = some (.cells #[.int .i64 g.at_,.string g.name,.string g.type,.slice ap np cp,.slice ab nb cb] 45 (0,0)) from heap_alloc_new _ _)
      have hba:=ba1 wr (.cells #[.int .i64 g.at_,.string g.name,.string g.type,.slice ap np cp,.slice ab nb cb] 45)
      generalize wr.alloc (.cells #[.int .i64 g.at_,.string g.name,.string g.type,.slice ap np cp,.slice ab nb cb] 45) = wa at *
      have HBa:=Ht HB hba
      obtain ⟨⟨y0,y1,y2,y3,y4⟩,_⟩:=five_block hxg
      obtain ⟨q0,q1,q2⟩:=HQ.out wa HBa.out
      have HGa:=Hd (HGc.out wa HBa.out)
      clear hxg hba c0 c1 c2 c3 c4
      by_cases hge:ge = 0
      ·subst hge
       have HN7:=Hd (HNx.out rfl)
       go_wp2_with (go_at_call 56;(with_reducible refine HGa.out.mono ?_);rintro e w6 ⟨rfl,hb6⟩;have HB6:=Ht HBa hb6;clear hb6)
       go_roundg (uf.length - (i + 1))
       case measure=>omega
       case rel=>exact ⟨i + 1,by omega,by omega,by rw [Int.natCast_add];rfl,HB6,HN7⟩
      ·have t5:(ge != 0) = true:=by simpa using hge
       have HFin:=Hd (HBad.out hge)
       clear hge
       go_upto_region 18 with (go_at_call 56;(with_reducible refine HGa.out.mono ?_);rintro e w6 ⟨rfl,hb6⟩;have HB6:=Ht HBa hb6;clear hb6)
       obtain ⟨⟨d0,d1⟩,fd⟩:=HR.out w6 HB6.out
       have fd0:=fd 0
       have fd1:=fd 1
       go_wp2_with fail
       exact bodyPost_ret (v:=.agg #[.int .i64 (i:Int),.int .i64 ge]) (by simp [results,Tryz.results33,go_sem,d0,d1]) rfl (faultEnd HFin.out ((Below.setCell (Below.setCell (HB1.out.trans (HB6.out.mono HB1.out.size)) (Nat.le_succ _) _) (Nat.le_succ _) _)))
     ·obtain rfl:i = uf.length:=by omega
      have HFin:=Hd (X5.out HK.out)
      obtain ⟨⟨d0,d1⟩,fd⟩:=HR.out wr HB.out
      have fd0:=fd 0
      have fd1:=fd 1
      go_wp2_with fail
      exact bodyPost_ret (v:=.agg #[.int .i64 0,.int .i64 0]) (by simp [results,Tryz.results33,go_sem,d0,d1]) rfl (faultEnd HFin.out ((Below.setCell (Below.setCell (HB1.out.trans (HB.out.mono HB1.out.size)) (Nat.le_succ _) _) (Nat.le_succ _) _)))
 ·have t4:(fc != 0) = true:=by simpa using hf0
  have HFin:=Hd ((V2.out hf0).trans rfl)
  clear hf0
  obtain ⟨⟨d0,d1⟩,fd⟩:=HR.out w3 HB3.out
  have fd0:=fd 0
  have fd1:=fd 1
  go_wp2_with fail
  exact bodyPost_ret (v:=.agg #[.int .i64 fx,.int .i64 fc]) (by simp [results,Tryz.results33,go_sem,d0,d1]) rfl (faultEnd HFin.out ((Below.setCell (Below.setCell (HB1.out.trans (HB3.out.mono HB1.out.size)) (Nat.le_succ _) _) (Nat.le_succ _) _)))
end Go.Proofs.YtbbaooeioogijaaGreatDoor
namespace Go.Proofs.YtbbaooeioogijaaGreatDoor
open Go.RowKit Go.Maps
structure FileR (B:Nat) (w:World) (b mb:Nat) (c0 c2 c3 lv sv av:Value) (n:Nat) (f:ByteArray → Option Bnd) (nl:Nat) (ll:List Value) (ns:Nat) (ls:List Value) (na:Nat) (la:List Value):Prop where
 blk:w.heap[b]? = some (.cells #[.map (some mb),c0,c2,c3] 73 (0,0))
 base:B ≤ b ∧ B ≤ mb ∧ b ≠ mb
 mlt:mb < w.heap.size
 names:MapB w mb n f
 sizes:w.ownsRow B 78 3 sv ns ls
 aligns:w.ownsRow B 9 1 av na la
 list:w.ownsRow B 45 5 lv nl ll
 apart:∀ k,(sv.ownBlock = some k → k ≠ b ∧ k ≠ mb ∧ av.ownBlock ≠ some k ∧ lv.ownBlock ≠ some k) ∧ (av.ownBlock = some k → k ≠ b ∧ k ≠ mb ∧ lv.ownBlock ≠ some k) ∧ (lv.ownBlock = some k → k ≠ b ∧ k ≠ mb)
section
variable {B b mb:Nat} {w w':World} {c0 c2 c3 lv sv av:Value} {n:Nat} {f:ByteArray → Option Bnd} {nl ns na:Nat} {ll ls la:List Value}
theorem FileR.lt (h:FileR B w b mb c0 c2 c3 lv sv av n f nl ll ns ls na la):b < w.heap.size:=lt_of_heap h.blk
theorem FileR.below (h:FileR B w b mb c0 c2 c3 lv sv av n f nl ll ns ls na la) (hb:Below w.heap.size w w'):FileR B w' b mb c0 c2 c3 lv sv av n f nl ll ns ls na la:=
 ⟨by rw [hb.block b h.lt];exact h.blk,h.base,Nat.lt_of_lt_of_le h.mlt hb.size,h.names.below hb,h.sizes.belowed hb,h.aligns.belowed hb,h.list.belowed hb,h.apart⟩
theorem FileR.cells (h:FileR B w b mb c0 c2 c3 lv sv av n f nl ll ns ls na la) :
 (w.cell? ⟨b,0,none⟩ = some (.map (some mb)) ∧ w.cell? ⟨b,1,none⟩ = some c0 ∧ w.cell? ⟨b,2,none⟩ = some c2 ∧ w.cell? ⟨b,3,none⟩ = some c3) ∧ ∀ j,w.frozen? ⟨b,j,none⟩ = false:=by
 refine ⟨⟨?_,?_,?_,?_⟩,fun j=>?_⟩
 ·simp [World.cell?,h.blk]
 ·simp [World.cell?,h.blk]
 ·simp [World.cell?,h.blk]
 ·simp [World.cell?,h.blk]
 ·simp [World.frozen?,h.blk]
theorem row_keptU {e:TypeId} {size m:Nat} {v u:Value} {xs:List Value} (h:w.ownsRow B e size v m xs) (hg:w.grownBy w' u.ownBlock) (hne:∀ k,u.ownBlock = some k → v.ownBlock ≠ some k):w'.ownsRow B e size v m xs:=by
 refine h.kept hg ?_
 cases hv:v.ownBlock with
 | none=>exact .inl rfl
 | some k=>exact .inr fun e=>hne k e.symm hv
theorem row_keptU' {e:TypeId} {size m:Nat} {v u:Value} {xs:List Value} (h:w.ownsRow B e size v m xs) (hg:w.grownBy w' u.ownBlock) (hne:∀ k,v.ownBlock = some k → u.ownBlock ≠ some k):w'.ownsRow B e size v m xs:=
 row_keptU h hg fun k hk hv=>hne k hv hk
theorem FileR.grewS {sv':Value} {ns':Nat} {ls':List Value} (h:FileR B w b mb c0 c2 c3 lv sv av n f nl ll ns ls na la) (hg:w.grownBy w' sv.ownBlock) (ho:w'.ownsRow B 78 3 sv' ns' ls')
 (hs:∀ k,sv'.ownBlock = some k → sv.ownBlock = some k ∨ k = w.heap.size):FileR B w' b mb c0 c2 c3 lv sv' av n f nl ll ns' ls' na la:=by
 have hb:some b ≠ sv.ownBlock:=fun e=>((h.apart b).1 e.symm).1 rfl
 have hm:some mb ≠ sv.ownBlock:=fun e=>((h.apart mb).1 e.symm).2.1 rfl
 refine ⟨by rw [hg.block b h.lt hb];exact h.blk,h.base,Nat.lt_of_lt_of_le h.mlt hg.size,h.names.kept hg hm,ho,row_keptU h.aligns hg fun k hk=>((h.apart k).1 hk).2.2.1,row_keptU h.list hg fun k hk=>((h.apart k).1 hk).2.2.2,fun k=>⟨fun hk=>?_,(h.apart k).2⟩⟩
 rcases hs k hk with h1 | rfl
 ·exact (h.apart k).1 h1
 ·have h1:=h.lt
  have h2:=h.mlt
  exact ⟨by omega,by omega,fun e=>absurd (h.aligns.lt _ e).2 (Nat.lt_irrefl _),fun e=>absurd (h.list.lt _ e).2 (Nat.lt_irrefl _)⟩
theorem FileR.grewA {av':Value} {na':Nat} {la':List Value} (h:FileR B w b mb c0 c2 c3 lv sv av n f nl ll ns ls na la) (hg:w.grownBy w' av.ownBlock) (ho:w'.ownsRow B 9 1 av' na' la')
 (hs:∀ k,av'.ownBlock = some k → av.ownBlock = some k ∨ k = w.heap.size):FileR B w' b mb c0 c2 c3 lv sv av' n f nl ll ns ls na' la':=by
 have hb:some b ≠ av.ownBlock:=fun e=>((h.apart b).2.1 e.symm).1 rfl
 have hm:some mb ≠ av.ownBlock:=fun e=>((h.apart mb).2.1 e.symm).2.1 rfl
 refine ⟨by rw [hg.block b h.lt hb];exact h.blk,h.base,Nat.lt_of_lt_of_le h.mlt hg.size,h.names.kept hg hm,row_keptU' h.sizes hg fun k hk=>((h.apart k).1 hk).2.2.1,ho,row_keptU h.list hg fun k hk=>((h.apart k).2.1 hk).2.2,fun k=>⟨fun hk=>⟨((h.apart k).1 hk).1,((h.apart k).1 hk).2.1,fun e=>?_,((h.apart k).1 hk).2.2.2⟩,fun hk=>?_,(h.apart k).2.2⟩⟩
 ·rcases hs k e with h1 | rfl
  ·exact ((h.apart k).1 hk).2.2.1 h1
  ·exact absurd (h.sizes.lt _ hk).2 (Nat.lt_irrefl _)
 ·rcases hs k hk with h1 | rfl
  ·exact (h.apart k).2.1 h1
  ·have h1:=h.lt
   have h2:=h.mlt
   exact ⟨by omega,by omega,fun e=>absurd (h.list.lt _ e).2 (Nat.lt_irrefl _)⟩
theorem FileR.grewL {lv':Value} {nl':Nat} {ll':List Value} (h:FileR B w b mb c0 c2 c3 lv sv av n f nl ll ns ls na la) (hg:w.grownBy w' lv.ownBlock) (ho:w'.ownsRow B 45 5 lv' nl' ll')
 (hs:∀ k,lv'.ownBlock = some k → lv.ownBlock = some k ∨ k = w.heap.size):FileR B w' b mb c0 c2 c3 lv' sv av n f nl' ll' ns ls na la:=by
 have hb:some b ≠ lv.ownBlock:=fun e=>((h.apart b).2.2 e.symm).1 rfl
 have hm:some mb ≠ lv.ownBlock:=fun e=>((h.apart mb).2.2 e.symm).2 rfl
 refine ⟨by rw [hg.block b h.lt hb];exact h.blk,h.base,Nat.lt_of_lt_of_le h.mlt hg.size,h.names.kept hg hm,row_keptU' h.sizes hg fun k hk=>((h.apart k).1 hk).2.2.2,row_keptU' h.aligns hg fun k hk=>((h.apart k).2.1 hk).2.2,ho,fun k=>⟨fun hk=>⟨((h.apart k).1 hk).1,((h.apart k).1 hk).2.1,((h.apart k).1 hk).2.2.1,fun e=>?_⟩,fun hk=>⟨((h.apart k).2.1 hk).1,((h.apart k).2.1 hk).2.1,fun e=>?_⟩,fun hk=>?_⟩⟩
 ·rcases hs k e with h1 | rfl
  ·exact ((h.apart k).1 hk).2.2.2 h1
  ·exact absurd (h.sizes.lt _ hk).2 (Nat.lt_irrefl _)
 ·rcases hs k e with h1 | rfl
  ·exact ((h.apart k).2.1 hk).2.2 h1
  ·exact absurd (h.aligns.lt _ hk).2 (Nat.lt_irrefl _)
 ·rcases hs k hk with h1 | rfl
  ·exact (h.apart k).2.2 h1
  ·have h1:=h.lt
   have h2:=h.mlt
   exact ⟨by omega,by omega⟩
theorem FileR.turned {n':Nat} {f':ByteArray → Option Bnd} (h:FileR B w b mb c0 c2 c3 lv sv av n f nl ll ns ls na la) (ht:w.mapTurned w' mb) (hn:MapB w' mb n' f'):FileR B w' b mb c0 c2 c3 lv sv av n' f' nl ll ns ls na la:=by
 have hg:=ht.grown
 refine ⟨by rw [hg.block b h.lt (by simp only [ne_eq,Option.some.injEq];exact h.base.2.2)];exact h.blk,h.base,Nat.lt_of_lt_of_le h.mlt hg.size,hn,h.sizes.kept hg ?_,h.aligns.kept hg ?_,h.list.kept hg ?_,h.apart⟩
 ·exact .inr fun e=>((h.apart mb).1 e).2.1 rfl
 ·exact .inr fun e=>((h.apart mb).2.1 e).2.1 rfl
 ·exact .inr fun e=>((h.apart mb).2.2 e).2 rfl
theorem row_setU {e:TypeId} {size m:Nat} {v:Value} {xs:List Value} (h:w.ownsRow B e size v m xs) (a:Addr) (u:Value) (hne:v.ownBlock ≠ some a.block):(w.setCell a u).ownsRow B e size v m xs:=
 h.kept (row:=some a.block) ⟨rfl,rfl,rfl,by simp,fun k _ hk=>Below.heap_setCell _ _ _ _ (by simpa using hk)⟩ (.inr hne)
theorem FileR.put {c0' c2' c3':Value} (h:FileR B w b mb c0 c2 c3 lv sv av n f nl ll ns ls na la) (j:Nat) (u:Value) (hc:(#[.map (some mb),c0,c2,c3]:Array Value).setIfInBounds j u = #[.map (some mb),c0',c2',c3']) :
 FileR B (w.setCell ⟨b,j,none⟩ u) b mb c0' c2' c3' lv sv av n f nl ll ns ls na la:=by
 refine ⟨?_,h.base,by simpa using h.mlt,h.names.other _ (by simpa using Ne.symm h.base.2.2) _,row_setU h.sizes _ _ (fun e=>((h.apart b).1 e).1 rfl),row_setU h.aligns _ _ (fun e=>((h.apart b).2.1 e).1 rfl),row_setU h.list _ _ (fun e=>((h.apart b).2.2 e).1 rfl),h.apart⟩
 rw [← hc]
 simp [World.setCell,Array.getElem?_modify,h.blk]
end
end Go.Proofs.YtbbaooeioogijaaGreatDoor
