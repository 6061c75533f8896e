/- A name put: the program. · A name looked for: the program. · A file's names in memory, whole. -/
import Derived.Test.YtbbaooeioogijaaGreatDoorMg21
namespace Go.Proofs.YtbbaooeioogijaaGreatDoor
open Go.RowKit Go.Maps
theorem own_grewU {v:Value} {g H n c k:Nat} (h:v.ownBlock = some g ∨ g = H) (hk:(Value.slice (some ⟨g,0,none⟩) n c).ownBlock = some k):v.ownBlock = some k ∨ k = H:=by
 simp only [Value.ownBlock,Option.some.injEq] at hk
 subst hk;exact h
theorem below_turnedU {w0 w w':World} {b B:Nat} (h:Below B w0 w) (hB:B ≤ w0.heap.size) (hb:B ≤ b) (ht:w.mapTurned w' b):Below B w0 w':=by
 have hg:=ht.grown
 exact ⟨hg.os.trans h.os,hg.tape.trans h.tape,hg.output.trans h.output,Nat.le_trans h.size hg.size,fun k hk=>(hg.block k (Nat.lt_of_lt_of_le hk (Nat.le_trans hB h.size)) (by simp;omega)).trans (h.block k hk)⟩
theorem infoBnd:(Tryz.prog.info? 78).map (fun i=>(i.zero,i.size,i.bytes)) = some (some (bndV bnd0),3,32):=by kernel_rfl
theorem infoStrU:(Tryz.prog.info? 9).map (fun i=>(i.zero,i.size,i.bytes)) = some (some (.string ⟨#[]⟩),1,16):=by kernel_rfl
def KeepU (w w':World) (T:Nat → Prop):Prop:=∀ k,k < w.heap.size → ¬ T k → w'.heap[k]? = w.heap[k]?
def PutT (b mb:Nat) (sv av:Value) (k:Nat):Prop:=k = b ∨ k = mb ∨ sv.ownBlock = some k ∨ av.ownBlock = some k
theorem KeepU.below {w w1 w2:World} {T:Nat → Prop} (h:KeepU w w1 T) (hs:w.heap.size ≤ w1.heap.size) (hb:Below w1.heap.size w1 w2):KeepU w w2 T:=fun k hk hT=>(hb.block k (Nat.lt_of_lt_of_le hk hs)).trans (h k hk hT)
theorem KeepU.grown {w w1 w2:World} {T:Nat → Prop} {row:Option Nat} (h:KeepU w w1 T) (hs:w.heap.size ≤ w1.heap.size) (hg:w1.grownBy w2 row) (hr:∀ k,row = some k → T k):KeepU w w2 T:=fun k hk hT=>(hg.block k (Nat.lt_of_lt_of_le hk hs) (fun e=>hT (hr k e.symm))).trans (h k hk hT)
theorem KeepU.set {w w1:World} {T:Nat → Prop} (h:KeepU w w1 T) (a:Addr) (v:Value) (ha:T a.block):KeepU w (w1.setCell a v) T:=fun k hk hT=>(Below.heap_setCell _ _ _ _ (fun e=>hT (by rw [e];exact ha))).trans (h k hk hT)
theorem KeepU.refl (w:World) (T:Nat → Prop):KeepU w w T:=fun _ _ _=>rfl
set_option maxRecDepth 100000 in
set_option maxHeartbeats 8000000 in
theorem put_ok {B b mb:Nat} {lv sv av:Value} {n:Nat} {f:ByteArray → Option Bnd} {nl ns na:Nat} {ll ls la:List Value} (name:ByteArray) (bd:Bnd) (w:World) (h:FileR B w b mb sv av lv lv sv av n f nl ll ns ls na la) (hB:B ≤ w.heap.size) (hn:n < maxLen) (hns:ns ≤ 4096) (hna:na ≤ 4096) (hs:name.size ≤ maxLen) :
 Calls Tryz.prog 35 #[.pointer (some ⟨b,0,none⟩),.string name,bndV bd] w fun e w'=>e = .returned (.tuple #[]) ∧ (∃ sv' av',FileR B w' b mb sv' av' lv lv sv' av' (n + 1) (fun t=>if t = name then some bd else f t) nl ll (ns + 1) (ls ++ bndCells bd) (na + 1) (la ++ [.string name])) ∧ Below B w w' ∧ KeepU w w' (PutT b mb sv av):=by
 have HF:=Hd h
 obtain ⟨bk,bi,bt⟩:=bd
 simp only [bndV]
 go_enter Tryz.func35,Tryz.ntmps35
 go_upto_region 1 with fail
 have hy:=(show (w.alloc (.cells #[.int .i64 bk,.int .i64 bi,.string bt] 78)).heap[w.heap.size]? = some (.cells #[.int .i64 bk,.int .i64 bi,.string bt] 78 (0,0)) from heap_alloc_new _ _)
 have hb1:=ba1 w (.cells #[.int .i64 bk,.int .i64 bi,.string bt] 78)
 generalize hwa:w.alloc (.cells #[.int .i64 bk,.int .i64 bi,.string bt] 78) = wa at *
 have hsa:w.heap.size < wa.heap.size:=lt_of_heap hy
 have hk9:=(HF.out.below hb1).below ((Below.refl _ wa).drew)
 obtain ⟨w3,hup,hm3,ht3⟩:=hk9.names.store hn hs ⟨bk,bi,bt⟩
 simp only [bndV] at hup
 have HM3:=Hd hm3
 have HT3:=Hd ht3
 have HK9:=Hd hk9
 obtain ⟨⟨k0,k1,k2,k3⟩,_⟩:=hk9.cells
 obtain ⟨⟨y0,y1,y2⟩,_⟩:=three_block hy
 have HY:=Hd hy
 have HBa:=Hd (((Below.refl B w).trans (hb1.mono hB)).drew)
 have HU:=Hd ((KeepU.refl w (PutT b mb sv av)).below (Nat.le_refl _) hb1)
 have HU1:=Hd (Nat.le_of_lt hsa)
 clear hm3 ht3 hk9 hy hb1 hwa
 go_still_tail 7,(by kernel_rfl)
 change wpList _ _ _ _ _ wa.drew
 have hne:w.heap.size ≠ mb:=by have:=HF.out.mlt;omega
 have hk3:=HK9.out.turned HT3.out HM3.out
 have hy3:=(HT3.out.grown.block _ (by simpa using hsa) (by simp only [ne_eq,Option.some.injEq];exact hne)).trans (show wa.drew.heap[w.heap.size]? = _ from HY.out)
 have HK3:=Hd hk3
 have HB3:=Hd (below_turnedU HBa.out hB HK9.out.base.2.1 HT3.out)
 have HS3:=Hd (show wa.heap.size ≤ w3.heap.size from by have:=HT3.out.grown.size;simpa using this)
 have HU3:=Hd ((HU.out.below HU1.out (Below.refl _ wa).drew).grown (by have:=HU1.out;simpa using this) HT3.out.grown (fun k hk=>.inr (.inl (Option.some.inj hk).symm)))
 have HZ3:=Hd (Nat.le_trans HU1.out HS3.out)
 clear y0 y1 y2 k0 k1 k2 k3
 go_upto_region 2 with fail
 clear hup
 go_cut [] (fun wx=>∃ sv',Hid (FileR B wx b mb sv' av lv lv sv' av (n + 1) (fun t=>if t = name then some ⟨bk,bi,bt⟩ else f t) nl ll (ns + 1) (ls ++ [.int .i64 bk,.int .i64 bi,.string bt]) na la) ∧ Hid (Below B w wx ∧ KeepU w wx (PutT b mb sv av) ∧ w.heap.size ≤ wx.heap.size ∧ (∀ k,sv'.ownBlock = some k → sv.ownBlock = some k ∨ w.heap.size ≤ k)))
 case first=>
  obtain ⟨⟨k0,k1,k2,k3⟩,_⟩:=hk3.cells
  obtain ⟨⟨y0,y1,y2⟩,_⟩:=three_block hy3
  have HY3:=Hd hy3
  have hz3:=lt_of_heap hy3
  have hbz3:=HK3.out.lt
  have hB3:B ≤ w3.heap.size:=by omega
  have HBig:=Hd (show Below w3.heap.size w3 (w3.alloc (.cells #[.int .i64 bk,.int .i64 bi,.string bt] 78)).drew from ((Below.refl _ _).alloc (Nat.le_refl _) _).drew)
  obtain ⟨i0,hi,hz0,hz1',hz2'⟩:=info_parts infoBnd
  have HIn:=Hd (And.intro hi (And.intro hz0 (And.intro hz1' hz2')))
  clear hi hz0 hz1' hz2' hk3 hy3
  go_region_law ((refine step_append_lies _ (by rfl) _ _ _ (by rfl) B 78 i0 _ 3 32 Tryz.underlying28 HIn.out.1 HIn.out.2.1 HIn.out.2.2.1 HIn.out.2.2.2 rfl (by omega) sv ns ls (by rfl) (HK3.out.sizes.belowed HBig.out) ⟨w3.heap.size,0,none⟩ 1 1 [.int .i64 bk,.int .i64 bi,.string bt] (by rfl) (by rfl) (World.news_of_block (cs:=#[.int .i64 bk,.int .i64 bi,.string bt]) (t:=78) (fr:=(0,0)) (heap_alloc_new w3 _)) (by simp [Value.oneCell']) (by omega) (by unfold maxLen;omega) (by omega) (by simp;omega) (w3.heap.size + 1) (by simp) ?_;intro gg cp w5 hown hgrow hat hlt5;have hk5:=(HK3.out.below HBig.out).grewS hgrow hown (fun k hk=>(own_grewU hat hk).imp id (fun e=>e.trans (by simp)));have j0:=hk5.cells.1.2.1;have jf:=hk5.cells.2 1))
  all_goals
   have HK5:=Hd (hk5.put 1 (Value.slice (some ⟨gg,0,none⟩) (ns + 1) cp) rfl)
   have HB5:=Hd ((((HB3.out.trans (HBig.out.mono (by have:=HB3.out.size;omega))).grown hgrow (by have:=HBig.out.size;omega) (fun k hk=>(HK3.out.sizes.lt k hk).1))).setCell (p:=⟨b,1,none⟩) HK3.out.base.1 (Value.slice (some ⟨gg,0,none⟩) (ns + 1) cp))
   have hu1:=HU3.out.below HZ3.out HBig.out
   have hsz:w.heap.size ≤ (w3.alloc (.cells #[.int .i64 bk,.int .i64 bi,.string bt] 78)).drew.heap.size:=Nat.le_trans HZ3.out HBig.out.size
   have HU5:=Hd ((hu1.grown hsz hgrow (fun k hk=>.inr (.inr (.inl hk)))).set ⟨b,1,none⟩ (Value.slice (some ⟨gg,0,none⟩) (ns + 1) cp) (.inl rfl))
   have HS5:=Hd (show w.heap.size ≤ (w5.setCell ⟨b,1,none⟩ (Value.slice (some ⟨gg,0,none⟩) (ns + 1) cp)).heap.size by have:=hgrow.size;simp;omega)
   have HW5:=Hd (show ∀ k,(Value.slice (some ⟨gg,0,none⟩) (ns + 1) cp).ownBlock = some k → sv.ownBlock = some k ∨ w.heap.size ≤ k from fun k hk=>(own_grewU hat hk).imp id (fun e=>by have:=HZ3.out;omega))
   clear hk5 hown hgrow hat hlt5 j0 jf hu1 hsz
   go_wp2_with fail
   go_meet
   exact ⟨_,HK5,Hd ⟨HB5.out,HU5.out,HS5.out,HW5.out⟩⟩
 case rest=>
  obtain ⟨sv',HK6,HC6⟩:=hcut
  have HB6:=Hd HC6.out.1
  clear HK3 HB3 HS3 HBa HK9 HY HT3 HM3
  obtain ⟨⟨k0,k1,k2,k3⟩,_⟩:=HK6.out.cells
  have hbz6:=HK6.out.lt
  have hB6:B ≤ wc.heap.size:=by have:=HK6.out.base.1;omega
  have HBig:=Hd (show Below wc.heap.size wc (wc.alloc (.cells #[.string name] 9)) from (Below.refl _ _).alloc (Nat.le_refl _) _)
  obtain ⟨i0,hi,hz0,hz1',hz2'⟩:=info_parts infoStrU
  have HIn:=Hd (And.intro hi (And.intro hz0 (And.intro hz1' hz2')))
  have hna1:(na + 1) * 16 ≤ 140737488355328:=by omega
  have hna2:na + 1 ≤ maxLen:=by unfold maxLen;omega
  have hna3:B ≤ (wc.alloc (.cells #[.string name] 9)).heap.size:=by simp;omega
  have HNum:=Hd (And.intro hna2 (And.intro hna1 hna3))
  clear hi hz0 hz1' hz2' hna1 hna2 hna3
  go_wp2_with (at_builtin;go_loud (refine wpList_append_lies _ rfl _ _ _ rfl B 9 i0 _ 1 16 Tryz.underlying29 HIn.out.1 HIn.out.2.1 HIn.out.2.2.1 HIn.out.2.2.2 rfl (by decide) av na la rfl (HK6.out.aligns.belowed HBig.out) ⟨_,0,none⟩ 1 1 [.string name] rfl rfl (World.news_of_block (cs:=#[.string name]) (heap_alloc_new _ _)) (by simp [Value.oneCell']) (by decide) HNum.out.1 HNum.out.2.1 HNum.out.2.2 _ rfl ?_))
  intro gg cp w5 hown hgrow hat hlt5
  have hk5:=(HK6.out.below HBig.out).grewA hgrow hown (fun k hk=>(own_grewU hat hk).imp id (fun e=>e.trans (by simp)))
  have j0:=hk5.cells.1.2.2.1
  have jf:=hk5.cells.2 2
  have HK5:=Hd (hk5.put 2 (Value.slice (some ⟨gg,0,none⟩) (na + 1) cp) rfl)
  have HB5:=Hd ((((HB6.out.trans (HBig.out.mono hB6)).grown hgrow (by have:=HBig.out.size;omega) (fun k hk=>(HK6.out.aligns.lt k hk).1))).setCell (p:=⟨b,2,none⟩) HK6.out.base.1 (Value.slice (some ⟨gg,0,none⟩) (na + 1) cp))
  have hu1:=HC6.out.2.1.below HC6.out.2.2.1 HBig.out
  have hsz:w.heap.size ≤ (wc.alloc (.cells #[.string name] 9)).heap.size:=Nat.le_trans HC6.out.2.2.1 HBig.out.size
  have HU5:=Hd ((hu1.grown hsz hgrow (fun k hk=>.inr (.inr (.inr hk)))).set ⟨b,2,none⟩ (Value.slice (some ⟨gg,0,none⟩) (na + 1) cp) (.inl rfl))
  clear hk5 hown hgrow hat hlt5 hu1 hsz
  go_wp2_with fail
  refine bodyPost_end (results_none rfl _ _ _) rfl ?_
  exact ⟨rfl,⟨_,_,HK5.out⟩,HB5.out,HU5.out⟩
end Go.Proofs.YtbbaooeioogijaaGreatDoor
namespace Go.Proofs.YtbbaooeioogijaaGreatDoor
open Go.RowKit Go.Maps
set_option maxRecDepth 100000 in
set_option maxHeartbeats 4000000 in
theorem has11_ok {mb n:Nat} {f:ByteArray → Option Bnd} (name:ByteArray) (w:World) (h:MapB w mb n f) (hs:name.size ≤ maxLen) :
 Calls Tryz.prog 34 #[.agg #[.map (some mb)],.string name] w fun e w'=>e = .returned (.bool (f name).isSome) ∧ Below w.heap.size w w':=by
 have hb1:=ba1 w (.cells #[.map (some mb)] 71)
 have hl:=(h.below hb1).look2 hs
 have HB:=Hd hb1
 clear hb1
 generalize (f name).getD bnd0 = q at *
 obtain ⟨qk,qi,qt⟩:=q
 simp only [bndV] at hl
 go_enter Tryz.func34,Tryz.ntmps34
 go_wp2_with fail
 go_ret
 exact ⟨rfl,HB.out.alloc HB.out.size _⟩
end Go.Proofs.YtbbaooeioogijaaGreatDoor
namespace Go.Proofs.YtbbaooeioogijaaGreatDoor
open Go.RowKit Go.Maps
def FileM (A B:Nat) (w:World) (b mb:Nat) (s:FileN):Prop:=A ≤ B ∧ ∃ (lv sv av:Value) (Q:List (FnU × Value × Value)) (n:Nat),FileR B w b mb sv av lv lv sv av n s.look s.funcs.length (Q.flatMap fnUCells) s.ents.length (s.ents.flatMap fun e=>bndCells e.2) s.ents.length (s.ents.map fun e=>.string e.1) ∧
 Q.map Prod.fst = s.funcs ∧ (∀ q ∈ Q,IsFnU A w q.1 q.2.1 q.2.2) ∧ n ≤ s.ents.length + 10
theorem FileR.same {B b mb:Nat} {w:World} {c0 c2 c3 lv sv av:Value} {n:Nat} {f g:ByteArray → Option Bnd} {nl ns na:Nat} {ll ls la:List Value} (h:FileR B w b mb c0 c2 c3 lv sv av n f nl ll ns ls na la) (e:∀ t,f t = g t):FileR B w b mb c0 c2 c3 lv sv av n g nl ll ns ls na la:=
 ⟨h.blk,h.base,h.mlt,h.names.same e,h.sizes,h.aligns,h.list,h.apart⟩
theorem FileM.below {A B b mb:Nat} {w w':World} {s:FileN} (h:FileM A B w b mb s) (hb:Below w.heap.size w w'):FileM A B w' b mb s:=by
 obtain ⟨hA,lv,sv,av,Q,n,hR,hQ,hF,hn⟩:=h
 have hB:=hR.base.1
 have hl:=hR.lt
 exact ⟨hA,lv,sv,av,Q,n,hR.below hb,hQ,fun q hq=>(hF q hq).below hb (by omega),hn⟩
theorem FileM.low {A B b mb:Nat} {w:World} {s:FileN} (h:FileM A B w b mb s) {c:Addr} (h1:A ≤ c.block) (h2:c.block < B) (v:Value):FileM A B (w.setCell c v) b mb s:=by
 obtain ⟨hA,lv,sv,av,Q,n,hR,hQ,hF,hn⟩:=h
 have key:∀ u:Value,(∀ k,u.ownBlock = some k → B ≤ k) → u.ownBlock ≠ some c.block:=fun u hu e=>by have:=hu _ e;omega
 refine ⟨hA,lv,sv,av,Q,n,⟨?_,hR.base,by simpa using hR.mlt,hR.names.other _ (by have:=hR.base;omega) _,row_setU hR.sizes _ _ (key _ fun k hk=>(hR.sizes.lt k hk).1),row_setU hR.aligns _ _ (key _ fun k hk=>(hR.aligns.lt k hk).1),row_setU hR.list _ _ (key _ fun k hk=>(hR.list.lt k hk).1),hR.apart⟩,hQ,fun q hq=>(hF q hq).below (Below.setCell (Below.refl A w) h1 v) (Nat.le_refl _),hn⟩
 rw [Below.heap_setCell _ _ _ _ (by have:=hR.base.1;omega)]
 exact hR.blk
theorem own_put {w:World} {base n g cap k c:Nat} {T:TypeId} {xs:List Value} {u:Value} (h:w.ownsRow base T k (.slice (some ⟨g,0,none⟩) n cap) n xs):(w.setCell ⟨g,c,none⟩ u).ownsRow base T k (.slice (some ⟨g,0,none⟩) n cap) n (xs.set c u):=by
 obtain ⟨hl,h⟩:=h
 rcases h with ⟨h,_⟩ | ⟨g',cap',cur,e,hb,hg,hn,hc,hs,ht⟩
 ·cases h
 ·simp only [Value.slice.injEq,Option.some.injEq,Addr.mk.injEq,and_true] at e
  obtain ⟨rfl,_,rfl⟩:=e
  refine ⟨by simpa using hl,.inr ⟨g,cap,cur.setIfInBounds c u,rfl,hb,?_,hn,hc,by simpa using hs,?_⟩⟩
  ·simp [World.setCell,Array.getElem?_modify,hg]
  ·rw [Array.toList_setIfInBounds,List.take_set,ht]
theorem FileR.setL {B b mb g cap:Nat} {w:World} {c0 c2 c3 sv av:Value} {n:Nat} {f:ByteArray → Option Bnd} {nl ns na:Nat} {ll ls la:List Value} (h:FileR B w b mb c0 c2 c3 (.slice (some ⟨g,0,none⟩) nl cap) sv av n f nl ll ns ls na la) (c:Nat) (u:Value) :
 FileR B (w.setCell ⟨g,c,none⟩ u) b mb c0 c2 c3 (.slice (some ⟨g,0,none⟩) nl cap) sv av n f nl (ll.set c u) ns ls na la:=by
 obtain ⟨h1,h2⟩:=(h.apart g).2.2 rfl
 refine ⟨?_,h.base,by simpa using h.mlt,h.names.other _ (by simpa using Ne.symm h2) _,row_setU h.sizes _ _ (fun e=>((h.apart g).1 e).2.2.2 rfl),row_setU h.aligns _ _ (fun e=>((h.apart g).2.1 e).2.2 rfl),own_put h.list,h.apart⟩
 rw [Below.heap_setCell _ _ _ _ (by simpa using Ne.symm h1)]
 exact h.blk
theorem flat_set5 {α:Type} {cells:α → List Value} (hk:∀ a,(cells a).length = 5) {q:α} {a0 a1 a2 a3 a4:Value} (hq:cells q = [a0,a1,a2,a3,a4]):∀ (L:List α) (i:Nat),i < L.length →
 (((((L.flatMap cells).set (i * 5) a0).set (i * 5 + 1) a1).set (i * 5 + 2) a2).set (i * 5 + 3) a3).set (i * 5 + 4) a4 = (L.set i q).flatMap cells
 | [],i,h=>by simp at h
 | y :: r,0,_=>by
   have:=hk y
   rw [List.set_cons_zero,List.flatMap_cons,List.flatMap_cons,hq]
   rcases hc:cells y with _ | ⟨b0,_ | ⟨b1,_ | ⟨b2,_ | ⟨b3,_ | ⟨b4,_ | ⟨b5,c⟩⟩⟩⟩⟩⟩ <;> rw [hc] at this <;> simp at this
   rfl
 | y :: r,i + 1,h=>by
   have h5:=hk y
   have ih:=flat_set5 hk hq r i (by simpa using h)
   have e:∀ j,(i + 1) * 5 + j = (cells y).length + (i * 5 + j):=fun j=>by rw [h5];omega
   have e0:(i + 1) * 5 = (cells y).length + (i * 5):=by rw [h5];omega
   rw [List.set_cons_succ,List.flatMap_cons,List.flatMap_cons,e,e,e,e,e0,← ih]
   have key:∀ (Z:List Value) (j:Nat) (u:Value),(cells y ++ Z).set ((cells y).length + j) u = cells y ++ Z.set j u:=fun Z j u=>by
    rw [List.set_append_right _ _ (by omega)]
    congr 2
    omega
   rw [key,key,key,key,key]
theorem own_rowAt {α:Type} {k:Nat} {cells:α → List Value} (hk:∀ a,(cells a).length = k) {w:World} {base n:Nat} {T:TypeId} {v:Value} {L:List α} (h:w.ownsRow base T k v n (L.flatMap cells)) (hn:n = L.length) {i:Nat} (hi:i < L.length) :
 ∃ g cap,v = .slice (some ⟨g,0,none⟩) n cap ∧ base ≤ g ∧ g < w.heap.size ∧ n ≤ cap ∧ cap ≤ maxLen ∧ (∀ j c,(cells L[i])[j]? = some c → w.cell? ⟨g,i * k + j,none⟩ = some c) ∧ ∀ j,w.frozen? ⟨g,j,none⟩ = false:=by
 have h0:=h
 obtain ⟨hl,h⟩:=h
 rcases h with ⟨_,h⟩ | ⟨g,cap,cur,rfl,hb,hg,hn,hc,hs,ht⟩
 ·omega
 ·exact ⟨g,cap,rfl,hb,lt_of_heap hg,hn,hc,fun j c hj=>own_cell hk h0 (List.getElem?_eq_getElem hi) hj,fun j=>by simp [World.frozen?,hg]⟩
end Go.Proofs.YtbbaooeioogijaaGreatDoor
