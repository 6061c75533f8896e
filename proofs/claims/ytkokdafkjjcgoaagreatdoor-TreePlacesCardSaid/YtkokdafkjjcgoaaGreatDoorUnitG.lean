/- A global of a unit looked at: the program -/
import Derived.Test.YtkokdafkjjcgoaaGreatDoorUnitF2
namespace Go.Proofs.YtkokdafkjjcgoaaGreatDoor
open Go.RowKit
theorem globE_head {L:List Sr} {g:GlU} (h:headG L g = false):globE L g = 90:=by unfold globE;rw [if_pos h]
set_option maxRecDepth 100000 in
set_option maxHeartbeats 4000000 in
theorem glob9_name (g:GlU) (v:Value) (l:Option Addr) (lc:Nat) (L:List Sr) (mv:List Value) (w:World) (hE:TE w) (hG:IsGlU w.heap.size w g v) (hS:IsSrs w.heap.size w l L mv) (hn:isNameB g.var.name = false) :
 Calls Tryz.prog 74 #[glUV g v,.slice l L.length lc] w (CodeEnd (globE L g) w):=by
 have hfin:globE L g = 90:=globE_head (by unfold headG;rw [hn];rfl)
 have HNm:=Hd (fun w (hK:KeysAt w)=>lexIsName_is false g.var.name w hK hn)
 obtain ⟨gat,⟨gname,gtype,gvol⟩,ginit⟩:=g
 simp only [glUV] at *
 go_enter Tryz.func74,Tryz.ntmps74
 go_upto_region 1 with fail
 have hx0:(w.alloc (.cells #[.int .i64 gat,.string gname,.string gtype,.bool gvol,v] 118)).heap[w.heap.size]? = some (.cells #[.int .i64 gat,.string gname,.string gtype,.bool gvol,v] 118 (0,0)):=heap_alloc_new _ _
 have hb0:=ba1 w (.cells #[.int .i64 gat,.string gname,.string gtype,.bool gvol,v] 118)
 generalize w.alloc (.cells #[.int .i64 gat,.string gname,.string gtype,.bool gvol,v] 118) = w0 at *
 have HNd:=Hd (fun w' (h:Below w0.heap.size w0 w')=>(five_block ((h.block _ (lt_of_heap hx0)).trans hx0)).1)
 have HB0:=Hd hb0
 have HEx:=Hd (fun w' (h:Below w0.heap.size w0 w')=>hE.below (hb0.trans (h.mono hb0.size)))
 have HSx:=Hd (fun w' (h:Below w0.heap.size w0 w')=>(hS.below (hb0.trans (h.mono hb0.size))).mono (hb0.trans (h.mono hb0.size)).size)
 have HN1:=Hd (HNm.out w0 (HEx.out w0 (Below.refl _ _)).keys)
 obtain ⟨x0,x1,x2,x3,x4⟩:=HNd.out w0 (Below.refl _ _)
 have HFin:=Hd hfin
 clear hE hG hS hx0 hb0 hfin hn
 go_wp2_with (go_at_call 124;(with_reducible refine HN1.out.mono ?_);rintro e w1 ⟨rfl,hb1⟩;have HB1:=Hd (hb1);obtain ⟨x0,x1,x2,x3,x4⟩:=HNd.out w1 HB1.out;clear hb1)
 go_ret
 exact codeEnd HFin.out (HB0.out.trans (HB1.out.mono HB0.out.size))
set_option maxRecDepth 100000 in
set_option maxHeartbeats 4000000 in
theorem glob9_lo (g:GlU) (v:Value) (l:Option Addr) (lc:Nat) (L:List Sr) (mv:List Value) (w:World) (hE:TE w) (hG:IsGlU w.heap.size w g v) (hS:IsSrs w.heap.size w l L mv) (hn:isNameB g.var.name = true) (ha:g.at_ < 0) :
 Calls Tryz.prog 74 #[glUV g v,.slice l L.length lc] w (CodeEnd (globE L g) w):=by
 have hfin:globE L g = 90:=globE_head (by unfold headG;rw [hn,decide_eq_false (by omega)];rfl)
 have HNm:=Hd (fun w (hK:KeysAt w)=>lexIsName_is true g.var.name w hK hn)
 obtain ⟨gat,⟨gname,gtype,gvol⟩,ginit⟩:=g
 simp only [glUV] at *
 go_enter Tryz.func74,Tryz.ntmps74
 go_upto_region 1 with fail
 have hx0:(w.alloc (.cells #[.int .i64 gat,.string gname,.string gtype,.bool gvol,v] 118)).heap[w.heap.size]? = some (.cells #[.int .i64 gat,.string gname,.string gtype,.bool gvol,v] 118 (0,0)):=heap_alloc_new _ _
 have hb0:=ba1 w (.cells #[.int .i64 gat,.string gname,.string gtype,.bool gvol,v] 118)
 generalize w.alloc (.cells #[.int .i64 gat,.string gname,.string gtype,.bool gvol,v] 118) = w0 at *
 have HNd:=Hd (fun w' (h:Below w0.heap.size w0 w')=>(five_block ((h.block _ (lt_of_heap hx0)).trans hx0)).1)
 have HB0:=Hd hb0
 have HEx:=Hd (fun w' (h:Below w0.heap.size w0 w')=>hE.below (hb0.trans (h.mono hb0.size)))
 have HSx:=Hd (fun w' (h:Below w0.heap.size w0 w')=>(hS.below (hb0.trans (h.mono hb0.size))).mono (hb0.trans (h.mono hb0.size)).size)
 have HN1:=Hd (HNm.out w0 (HEx.out w0 (Below.refl _ _)).keys)
 obtain ⟨x0,x1,x2,x3,x4⟩:=HNd.out w0 (Below.refl _ _)
 have t1:decide (gat < 0) = true:=by simpa using ha
 have HFin:=Hd hfin
 clear hE hG hS hx0 hb0 hfin hn ha
 go_wp2_with (go_at_call 124;(with_reducible refine HN1.out.mono ?_);rintro e w1 ⟨rfl,hb1⟩;have HB1:=Hd (hb1);obtain ⟨x0,x1,x2,x3,x4⟩:=HNd.out w1 HB1.out;clear hb1)
 go_ret
 exact codeEnd HFin.out (HB0.out.trans (HB1.out.mono HB0.out.size))
set_option maxRecDepth 100000 in
set_option maxHeartbeats 4000000 in
theorem glob9_hi (g:GlU) (v:Value) (l:Option Addr) (lc:Nat) (L:List Sr) (mv:List Value) (w:World) (hE:TE w) (hG:IsGlU w.heap.size w g v) (hS:IsSrs w.heap.size w l L mv) (hn:isNameB g.var.name = true) (ha:¬ g.at_ < 0) (ha2:65536 < g.at_) :
 Calls Tryz.prog 74 #[glUV g v,.slice l L.length lc] w (CodeEnd (globE L g) w):=by
 have hfin:globE L g = 90:=globE_head (by unfold headG;rw [hn,decide_eq_false (by omega)];rfl)
 have HNm:=Hd (fun w (hK:KeysAt w)=>lexIsName_is true g.var.name w hK hn)
 obtain ⟨gat,⟨gname,gtype,gvol⟩,ginit⟩:=g
 simp only [glUV] at *
 go_enter Tryz.func74,Tryz.ntmps74
 go_upto_region 1 with fail
 have hx0:(w.alloc (.cells #[.int .i64 gat,.string gname,.string gtype,.bool gvol,v] 118)).heap[w.heap.size]? = some (.cells #[.int .i64 gat,.string gname,.string gtype,.bool gvol,v] 118 (0,0)):=heap_alloc_new _ _
 have hb0:=ba1 w (.cells #[.int .i64 gat,.string gname,.string gtype,.bool gvol,v] 118)
 generalize w.alloc (.cells #[.int .i64 gat,.string gname,.string gtype,.bool gvol,v] 118) = w0 at *
 have HNd:=Hd (fun w' (h:Below w0.heap.size w0 w')=>(five_block ((h.block _ (lt_of_heap hx0)).trans hx0)).1)
 have HB0:=Hd hb0
 have HEx:=Hd (fun w' (h:Below w0.heap.size w0 w')=>hE.below (hb0.trans (h.mono hb0.size)))
 have HSx:=Hd (fun w' (h:Below w0.heap.size w0 w')=>(hS.below (hb0.trans (h.mono hb0.size))).mono (hb0.trans (h.mono hb0.size)).size)
 have HN1:=Hd (HNm.out w0 (HEx.out w0 (Below.refl _ _)).keys)
 obtain ⟨x0,x1,x2,x3,x4⟩:=HNd.out w0 (Below.refl _ _)
 have t1:decide (gat < 0) = false:=by simpa using ha
 have t2:decide (65536 < gat) = true:=by simpa using ha2
 have HFin:=Hd hfin
 clear hE hG hS hx0 hb0 hfin hn ha ha2
 go_wp2_with (go_at_call 124;(with_reducible refine HN1.out.mono ?_);rintro e w1 ⟨rfl,hb1⟩;have HB1:=Hd (hb1);obtain ⟨x0,x1,x2,x3,x4⟩:=HNd.out w1 HB1.out;clear hb1)
 go_ret
 exact codeEnd HFin.out (HB0.out.trans (HB1.out.mono HB0.out.size))
set_option maxRecDepth 100000 in
set_option maxHeartbeats 4000000 in
theorem glob9_check (g:GlU) (v:Value) (l:Option Addr) (lc:Nat) (L:List Sr) (mv:List Value) (w:World) (hE:TE w) (hG:IsGlU w.heap.size w g v) (hS:IsSrs w.heap.size w l L mv) (hn:isNameB g.var.name = true) (ha:¬ g.at_ < 0) (ha2:¬ 65536 < g.at_) (hc:checkN L g.var.type ≠ 0) :
 Calls Tryz.prog 74 #[glUV g v,.slice l L.length lc] w (CodeEnd (globE L g) w):=by
 have hfin:globE L g = 90:=globE_head (by unfold headG;rw [decide_eq_false hc];simp)
 have HNm:=Hd (fun w (hK:KeysAt w)=>lexIsName_is true g.var.name w hK hn)
 obtain ⟨gat,⟨gname,gtype,gvol⟩,ginit⟩:=g
 simp only [glUV] at *
 go_enter Tryz.func74,Tryz.ntmps74
 go_upto_region 1 with fail
 have hx0:(w.alloc (.cells #[.int .i64 gat,.string gname,.string gtype,.bool gvol,v] 118)).heap[w.heap.size]? = some (.cells #[.int .i64 gat,.string gname,.string gtype,.bool gvol,v] 118 (0,0)):=heap_alloc_new _ _
 have hb0:=ba1 w (.cells #[.int .i64 gat,.string gname,.string gtype,.bool gvol,v] 118)
 generalize w.alloc (.cells #[.int .i64 gat,.string gname,.string gtype,.bool gvol,v] 118) = w0 at *
 have HNd:=Hd (fun w' (h:Below w0.heap.size w0 w')=>(five_block ((h.block _ (lt_of_heap hx0)).trans hx0)).1)
 have HB0:=Hd hb0
 have HEx:=Hd (fun w' (h:Below w0.heap.size w0 w')=>hE.below (hb0.trans (h.mono hb0.size)))
 have HSx:=Hd (fun w' (h:Below w0.heap.size w0 w')=>(hS.below (hb0.trans (h.mono hb0.size))).mono (hb0.trans (h.mono hb0.size)).size)
 have HN1:=Hd (HNm.out w0 (HEx.out w0 (Below.refl _ _)).keys)
 obtain ⟨x0,x1,x2,x3,x4⟩:=HNd.out w0 (Below.refl _ _)
 have t1:decide (gat < 0) = false:=by simpa using ha
 have t2:decide (65536 < gat) = false:=by simpa using ha2
 have t3:(checkN L gtype != 0) = true:=by simpa using hc
 have HCk:=Hd (fun w' (h:Below w0.heap.size w0 w')=>checkAll_ok gtype l lc L mv w' (HEx.out w' h) (HSx.out w' h))
 have HFin:=Hd hfin
 clear hE hG hS hx0 hb0 hfin hn ha ha2 hc
 generalize checkN L gtype = cc at *
 go_wp2_with (first
  | (go_at_call 124;(with_reducible refine HN1.out.mono ?_);rintro e w1 ⟨rfl,hb1⟩;have HB1:=Hd (hb1);obtain ⟨x0,x1,x2,x3,x4⟩:=HNd.out w1 HB1.out;have HC1:=Hd (HCk.out w1 HB1.out);clear hb1)
  | (go_at_call 125;(with_reducible refine HC1.out.mono ?_);rintro e w2 ⟨rfl,hb2⟩;have HB2:=Ht HB1 hb2;obtain ⟨x0,x1,x2,x3,x4⟩:=HNd.out w2 HB2.out;clear hb2))
 go_ret
 exact codeEnd HFin.out (HB0.out.trans (HB2.out.mono HB0.out.size))
theorem object_bool (r:Bool) (s:ByteArray) (w:World) (hty:typedS s = true) (h:objectS s = r):Calls Tryz.prog 126 #[.string s] w fun e w'=>e = .returned (.bool r) ∧ w' = w:=by subst h;exact objectS_ok s w hty
set_option maxRecDepth 100000 in
set_option maxHeartbeats 4000000 in
theorem glob9_object (g:GlU) (v:Value) (l:Option Addr) (lc:Nat) (L:List Sr) (mv:List Value) (w:World) (hE:TE w) (hG:IsGlU w.heap.size w g v) (hS:IsSrs w.heap.size w l L mv) (hn:isNameB g.var.name = true) (ha:¬ g.at_ < 0) (ha2:¬ 65536 < g.at_) (hc:checkN L g.var.type = 0) (ho:objectS g.var.type = false) :
 Calls Tryz.prog 74 #[glUV g v,.slice l L.length lc] w (CodeEnd (globE L g) w):=by
 have hfin:globE L g = 90:=globE_head (by unfold headG;rw [ho];simp)
 have HNm:=Hd (fun w (hK:KeysAt w)=>lexIsName_is true g.var.name w hK hn)
 obtain ⟨gat,⟨gname,gtype,gvol⟩,ginit⟩:=g
 simp only [glUV] at *
 go_enter Tryz.func74,Tryz.ntmps74
 go_upto_region 1 with fail
 have hx0:(w.alloc (.cells #[.int .i64 gat,.string gname,.string gtype,.bool gvol,v] 118)).heap[w.heap.size]? = some (.cells #[.int .i64 gat,.string gname,.string gtype,.bool gvol,v] 118 (0,0)):=heap_alloc_new _ _
 have hb0:=ba1 w (.cells #[.int .i64 gat,.string gname,.string gtype,.bool gvol,v] 118)
 generalize w.alloc (.cells #[.int .i64 gat,.string gname,.string gtype,.bool gvol,v] 118) = w0 at *
 have HNd:=Hd (fun w' (h:Below w0.heap.size w0 w')=>(five_block ((h.block _ (lt_of_heap hx0)).trans hx0)).1)
 have HB0:=Hd hb0
 have HEx:=Hd (fun w' (h:Below w0.heap.size w0 w')=>hE.below (hb0.trans (h.mono hb0.size)))
 have HSx:=Hd (fun w' (h:Below w0.heap.size w0 w')=>(hS.below (hb0.trans (h.mono hb0.size))).mono (hb0.trans (h.mono hb0.size)).size)
 have HN1:=Hd (HNm.out w0 (HEx.out w0 (Below.refl _ _)).keys)
 obtain ⟨x0,x1,x2,x3,x4⟩:=HNd.out w0 (Below.refl _ _)
 have t1:decide (gat < 0) = false:=by simpa using ha
 have t2:decide (65536 < gat) = false:=by simpa using ha2
 have HOb:=Hd (fun w'=>object_bool false gtype w' (checkN_typed hc) ho)
 have HCk:=Hd (fun w' (h:Below w0.heap.size w0 w')=>checkAll_is 0 gtype l lc L mv w' (HEx.out w' h) (HSx.out w' h) hc)
 have HFin:=Hd hfin
 clear hE hG hS hx0 hb0 hfin hn ha ha2 hc ho
 go_wp2_with (first
  | (go_at_call 124;(with_reducible refine HN1.out.mono ?_);rintro e w1 ⟨rfl,hb1⟩;have HB1:=Hd (hb1);obtain ⟨x0,x1,x2,x3,x4⟩:=HNd.out w1 HB1.out;have HC1:=Hd (HCk.out w1 HB1.out);clear hb1)
  | (go_at_call 125;(with_reducible refine HC1.out.mono ?_);rintro e w2 ⟨rfl,hb2⟩;have HB2:=Ht HB1 hb2;obtain ⟨x0,x1,x2,x3,x4⟩:=HNd.out w2 HB2.out;clear hb2)
  | (go_at_call 126;(with_reducible refine (HOb.out _).mono ?_);rintro e wc ⟨rfl,hwc⟩;subst wc))
 go_ret
 exact codeEnd HFin.out (HB0.out.trans (HB2.out.mono HB0.out.size))
def FitG (l:List (List Nd)) (i:Nat):Prop:=∀ (j:Nat) (h:j < l.length),j < i → itemE l[j] = 0
theorem FitG.next {l:List (List Nd)} {i:Nat} (h:FitG l i) (hi:i < l.length) (h0:itemE l[i] = 0):FitG l (i + 1):=fun j hj hji=>by
 rcases Nat.lt_or_ge j i with h' | h'
 ·exact h j hj h'
 ·obtain rfl:j = i:=by omega
  exact h0
theorem globE_is {L:List Sr} {g:GlU} (h:headG L g = true) (hl:g.init.length ≤ 4096):globE L g = codeE (firstE itemE g.init 0):=by
 unfold globE
 rw [if_neg (by rw [h];simp),if_neg (by omega)]
theorem globE_item {L:List Sr} {g:GlU} (h:headG L g = true) (hl:g.init.length ≤ 4096) {i:Nat} (hi:i < g.init.length) (hk:FitG g.init i) (hp:itemE g.init[i] ≠ 0):globE L g = itemE g.init[i]:=by
 rw [globE_is h hl,firstE_some hi hk hp]
 rfl
theorem globE_all {L:List Sr} {g:GlU} (h:headG L g = true) (hl:g.init.length ≤ 4096) (hk:FitG g.init g.init.length):globE L g = 0:=by
 rw [globE_is h hl,firstE_none hk]
 rfl
set_option maxRecDepth 100000 in
set_option maxHeartbeats 8000000 in
theorem glob9_fits (g:GlU) (v:Value) (l:Option Addr) (lc:Nat) (L:List Sr) (mv:List Value) (w:World) (hE:TE w) (hG:IsGlU w.heap.size w g v) (hS:IsSrs w.heap.size w l L mv) (hn:isNameB g.var.name = true) (ha:¬ g.at_ < 0) (ha2:¬ 65536 < g.at_) (hc:checkN L g.var.type = 0) (ho:objectS g.var.type = true) :
 Calls Tryz.prog 74 #[glUV g v,.slice l L.length lc] w (CodeEnd (globE L g) w):=by
 have hh:headG L g = true:=by unfold headG;rw [hn,decide_eq_true hc,ho,decide_eq_true (by omega)];rfl
 have HIt:=Hd (fun (hl:g.init.length ≤ 4096) (i:Nat) (hi:i < g.init.length) hk hp=>globE_item hh hl (i:=i) hi hk hp)
 have HAll:=Hd (fun (hl:g.init.length ≤ 4096) hk=>globE_all hh hl hk)
 have HLong:=Hd (fun (hl:4096 < g.init.length)=>show globE L g = 3 from by unfold globE;rw [if_neg (by rw [hh];simp),if_pos hl])
 have HTa:=Hd (fun (i:Nat) (hi:i < g.init.length)=>trs_at hG.init hi)
 generalize hfe:globE L g = fe at *
 clear hfe hh
 obtain ⟨ai,ci,Qi,rfl,hsi,_⟩:=hG.init
 have HNm:=Hd (fun w (hK:KeysAt w)=>lexIsName_is true g.var.name w hK hn)
 obtain ⟨gat,⟨gname,gtype,gvol⟩,ginit⟩:=g
 simp only [glUV] at *
 go_enter Tryz.func74,Tryz.ntmps74
 go_upto_region 1 with fail
 have hx0:(w.alloc (.cells #[.int .i64 gat,.string gname,.string gtype,.bool gvol,.slice ai ginit.length ci] 118)).heap[w.heap.size]? = some (.cells #[.int .i64 gat,.string gname,.string gtype,.bool gvol,.slice ai ginit.length ci] 118 (0,0)):=heap_alloc_new _ _
 have hb0:=ba1 w (.cells #[.int .i64 gat,.string gname,.string gtype,.bool gvol,.slice ai ginit.length ci] 118)
 generalize w.alloc (.cells #[.int .i64 gat,.string gname,.string gtype,.bool gvol,.slice ai ginit.length ci] 118) = w0 at *
 have HNd:=Hd (fun w' (h:Below w0.heap.size w0 w')=>(five_block ((h.block _ (lt_of_heap hx0)).trans hx0)).1)
 have HB0:=Hd hb0
 have HEx:=Hd (fun w' (h:Below w0.heap.size w0 w')=>hE.below (hb0.trans (h.mono hb0.size)))
 have HSx:=Hd (fun w' (h:Below w0.heap.size w0 w')=>(hS.below (hb0.trans (h.mono hb0.size))).mono (hb0.trans (h.mono hb0.size)).size)
 have HN1:=Hd (HNm.out w0 (HEx.out w0 (Below.refl _ _)).keys)
 obtain ⟨x0,x1,x2,x3,x4⟩:=HNd.out w0 (Below.refl _ _)
 have t1:decide (gat < 0) = false:=by simpa using ha
 have t2:decide (65536 < gat) = false:=by simpa using ha2
 have HOb:=Hd (fun w'=>object_bool true gtype w' (checkN_typed hc) ho)
 have HCk:=Hd (fun w' (h:Below w0.heap.size w0 w')=>checkAll_is 0 gtype l lc L mv w' (HEx.out w' h) (HSx.out w' h) hc)
 have hil:(ginit.length:Int) ≤ 140737488351232:=by have:=hsi.1;omega
 clear hG hS hx0 hb0 ha ha2 hc hn ho hsi
 go_upto_region 3 with (first
  | (go_at_call 124;(with_reducible refine HN1.out.mono ?_);rintro e w1 ⟨rfl,hb1⟩;have HB1:=Hd (hb1);obtain ⟨x0,x1,x2,x3,x4⟩:=HNd.out w1 HB1.out;have HC1:=Hd (HCk.out w1 HB1.out);clear hb1)
  | (go_at_call 125;(with_reducible refine HC1.out.mono ?_);rintro e w2 ⟨rfl,hb2⟩;have HB2:=Ht HB1 hb2;obtain ⟨x0,x1,x2,x3,x4⟩:=HNd.out w2 HB2.out;clear hb2)
  | (go_at_call 126;(with_reducible refine (HOb.out _).mono ?_);rintro e wc ⟨rfl,hwc⟩;subst wc))
 by_cases hlong:4096 < ginit.length
 ·have t4:decide (4096 < (ginit.length:Int)) = true:=by simp;omega
  have HFin:=Hd (HLong.out hlong)
  clear hlong
  go_wp2_with fail
  go_ret
  exact codeEnd HFin.out (HB0.out.trans (HB2.out.mono HB0.out.size))
 have t4:decide (4096 < (ginit.length:Int)) = false:=by simp;omega
 have hl4:ginit.length ≤ 4096:=by omega
 clear hlong
 go_wp2_with fail
 go_loopg [45] ginit.length (fun m v45 wy=>∃ (i:Nat),i ≤ ginit.length ∧ i + m = ginit.length ∧ v45 = .int .i64 (i:Int) ∧ Hid (Below w0.heap.size w0 wy) ∧ Hid (FitG ginit i))
 case atStart=>exact ⟨0,by omega,by omega,rfl,HB2,Hd (fun j _ h=>by omega)⟩
 case round=>
  obtain ⟨i,hi,him,rfl,HB,HK⟩:=hrel
  by_cases hlt:i < ginit.length
  ·obtain ⟨b,off,cq,q,hsq,hblt,hT,c0⟩:=HTa.out i hlt
   obtain ⟨rfl,rfl⟩:ai = some ⟨b,off,none⟩ ∧ ci = cq:=by simpa using hsq
   have hwb:=HB0.out.trans (HB.out.mono HB0.out.size)
   rw [← hwb.cell hblt] at c0
   have HNx:=Hd (fun h0=>HK.out.next hlt h0)
   have HBad:=Hd (fun hp=>HIt.out hl4 i hlt HK.out hp)
   obtain ⟨aT,cT,rfl,hsT,hnT,hkT⟩:=hT
   generalize ginit[i]'hlt = T at *
   have HTc:=Hd (treeCheck_ok aT cT T wr (HEx.out wr HB.out) ((hnT.below hwb (Nat.le_refl _)).mono hwb.size) hkT hsT.1)
   have hTl:(T.length:Int) ≤ 2199023255488:=by have:=hsT.1;omega
   clear hsq
   by_cases hck:checkN9 T = 0
   ·rw [hck] at HTc
    obtain ⟨fr,_,hGv⟩:=check_formed hck
    have hpos:=hGv.formed.pos
    obtain ⟨k,hk⟩:∃ k,T.length = k + 1:=⟨T.length - 1,by omega⟩
    have hk1:(T.length:Int) - 1 = (k:Int):=by omega
    have hkl:k < T.length:=by omega
    have hk2:T.length - 1 = k:=by omega
    have hkd:=kindAt_is (List.getElem?_eq_getElem hkl)
    have HI:=Hd (show itemE T = if exprK T[k].kind = false then 90 else 0 from by unfold itemE;rw [if_neg (by simp [hck]),hk2,hkd])
    have HZ:=Hd (fun w' (h:Below w0.heap.size w0 w')=>nds_at (hnT.below (HB0.out.trans (h.mono HB0.out.size)) (Nat.le_refl _)) hkl)
    have HX:=Hd (fun w'=>expr_ok T[k].kind w')
    generalize T[k].kind = kk at *
    clear hck hGv hk hkd hnT hkT hsT hk2
    rcases hex:exprK kk with _ | _
    ·rw [hex] at HX HI
     have HFin:=Hd (show fe = 90 from by rw [HBad.out (by rw [HI.out];simp),HI.out];rfl)
     clear hex
     go_wp2_with (first
      | (go_at_call 10;(with_reducible refine HTc.out.mono ?_);rintro e w7 ⟨rfl,hb7⟩;have HB7:=Ht HB hb7;obtain ⟨zb,zo,hz,_,z0,_⟩:=HZ.out w7 HB7.out;cases hz;clear hb7)
      | (go_at_call 51;(with_reducible refine (HX.out _).mono ?_);rintro e wc ⟨rfl,hwc⟩;subst wc))
     go_ret
     exact codeEnd HFin.out (HB0.out.trans (HB7.out.mono HB0.out.size))
    ·rw [hex] at HX HI
     have HN7:=Hd (HNx.out (by rw [HI.out];simp))
     clear hex
     go_wp2_with (first
      | (go_at_call 10;(with_reducible refine HTc.out.mono ?_);rintro e w7 ⟨rfl,hb7⟩;have HB7:=Ht HB hb7;obtain ⟨zb,zo,hz,_,z0,_⟩:=HZ.out w7 HB7.out;cases hz;clear hb7)
      | (go_at_call 51;(with_reducible refine (HX.out _).mono ?_);rintro e wc ⟨rfl,hwc⟩;subst wc))
     go_roundg (ginit.length - (i + 1))
     case measure=>omega
     case rel=>exact ⟨i + 1,by omega,by omega,by rw [Int.natCast_add];rfl,HB7,HN7⟩
   ·have HI:=Hd (show itemE T = checkN9 T from by unfold itemE;rw [if_pos hck])
    have HFin:=Hd (show fe = checkN9 T from by rw [HBad.out (by rw [HI.out];exact hck),HI.out])
    have t6:(checkN9 T != 0) = true:=by simpa using hck
    clear hck
    generalize checkN9 T = cc at *
    go_wp2_with (go_at_call 10;(with_reducible refine HTc.out.mono ?_);rintro e w7 ⟨rfl,hb7⟩;have HB7:=Ht HB hb7;clear hb7)
    go_ret
    exact codeEnd HFin.out (HB0.out.trans (HB7.out.mono HB0.out.size))
  ·obtain rfl:i = ginit.length:=by omega
   have HFin:=Hd (show fe = 0 from HAll.out hl4 HK.out)
   go_wp2_with fail
   go_ret
   exact codeEnd HFin.out (HB0.out.trans (HB.out.mono HB0.out.size))
theorem glob9_ok (g:GlU) (v:Value) (l:Option Addr) (lc:Nat) (L:List Sr) (mv:List Value) (w:World) (hE:TE w) (hG:IsGlU w.heap.size w g v) (hS:IsSrs w.heap.size w l L mv):Calls Tryz.prog 74 #[glUV g v,.slice l L.length lc] w (CodeEnd (globE L g) w):=by
 rcases hn:isNameB g.var.name with _ | _
 ·exact glob9_name g v l lc L mv w hE hG hS hn
 by_cases ha:g.at_ < 0
 ·exact glob9_lo g v l lc L mv w hE hG hS hn ha
 by_cases ha2:65536 < g.at_
 ·exact glob9_hi g v l lc L mv w hE hG hS hn ha ha2
 by_cases hc:checkN L g.var.type = 0
 ·rcases ho:objectS g.var.type with _ | _
  ·exact glob9_object g v l lc L mv w hE hG hS hn ha ha2 hc ho
  ·exact glob9_fits g v l lc L mv w hE hG hS hn ha ha2 hc ho
 ·exact glob9_check g v l lc L mv w hE hG hS hn ha ha2 hc
end Go.Proofs.YtkokdafkjjcgoaaGreatDoor
