/- A function for each name: the program. · The rows that the reference's File makes, in memory. -/
import Derived.Test.YtbbaooeioogijaaGreatDoorMg23
import Derived.Test.YtbbaooeioogijaaGreatDoorMg2
namespace Go.Proofs.YtbbaooeioogijaaGreatDoor
open Go.RowKit
def FuncsEnd (u:UnU) (w:World) (e:Ending) (w':World):Prop:=Below w.heap.size w w' ∧ match fileN u with
 | .inl p=>e = .returned (.tuple #[.slice none 0 0,.agg #[.int .i64 p.1,.int .i64 p.2]])
 | .inr s=>∃ v Q,e = .returned (.tuple #[v,.agg #[.int .i64 0,.int .i64 0]]) ∧ FnsOwn w.heap.size w' v Q ∧ Q.map Prod.fst = s.funcs
def FunsAt (A B:Nat) (w:World) (b:Nat) (s:FileN) (lv:Value) (Q:List (FnU × Value × Value)):Prop:=w.cell? ⟨b,3,none⟩ = some lv ∧ w.ownsRow B 45 5 lv s.funcs.length (Q.flatMap fnUCells) ∧ Q.map Prod.fst = s.funcs ∧ (∀ q ∈ Q,IsFnU A w q.1 q.2.1 q.2.2) ∧ A ≤ B
theorem FileM.funs {A B b mb:Nat} {w:World} {s:FileN} (h:FileM A B w b mb s):∃ lv Q,FunsAt A B w b s lv Q:=by
 obtain ⟨hA,lv,sv,av,Q,n,hR,hQ,hF,_⟩:=h
 exact ⟨lv,Q,hR.cells.1.2.2.2,hR.list,hQ,hF,hA⟩
theorem fnPU_new {A B base:Nat} {w w8:World} {f:FnU} {vp vb v vp' vb':Value} (hf:IsFnU A w f vp vb) (hp:VrRow w8 base vp' f.params) (hb:NdRow w8 base vb' f.body) (hB:B ≤ base) (hv:∀ k,v.ownBlock = some k → k < base):FnPU (OffU B w8 v) w8 (f,vp',vb'):=by
 obtain ⟨ap,cp,_,hop,_,hvo⟩:=hf.params
 obtain ⟨ab,cb,_,hob,_,hno⟩:=hf.body
 obtain ⟨a1,c1,e1,h1,h1',hs1,hn1⟩:=own_slU vr_len hp rfl
 obtain ⟨a2,c2,e2,h2,h2',hs2,hn2⟩:=own_slU nd_len hb rfl
 have key:∀ (x:Value) b,(x.ownBlock = some b ∧ base ≤ b ∧ b < w8.heap.size) → OffU B w8 v b:=fun x b ⟨_,h,h'⟩=>⟨Nat.le_trans hB h,h',fun e=>by have:=hv b e;omega⟩
 exact ⟨hf.name,hf.type,hf.at_,⟨a1,c1,e1,⟨hop.1,h1,h1',hn1⟩,hs1.keep (fun b hb=>⟨rfl,key _ b hb⟩),hvo⟩,⟨a2,c2,e2,⟨hob.1,h2,h2',hn2⟩,hs2.keep (fun b hb=>⟨rfl,key _ b hb⟩),hno⟩,fun hne=>by
  rcases hb.2 with ⟨_,h0⟩ | ⟨g,cap,cur,e,hg1,hg2,_⟩
  ·exact absurd (List.eq_nil_of_length_eq_zero h0) hne
  ·exact ⟨g,0,cap,e,key vb' g ⟨by rw [e];rfl,hg1,lt_of_heap hg2⟩,fun j=>by simp [World.frozen?,hg2]⟩⟩
theorem oneF_flen {s s':FileN} {x:FnU} (h:oneF s x = .inr s') (hs:s.funcs.length ≤ 128):s'.funcs.length ≤ 128:=by
 unfold oneF at h
 split at h
 ·split at h
  ·cases h
  split at h
  ·cases h
  split at h
  ·cases h
  split at h <;> (cases h;simpa using hs)
 ·split at h
  ·cases h
  ·cases h
   rw [List.length_append]
   simp only [List.length_cons,List.length_nil]
   omega
theorem funcsN_flen:∀ {L:List FnU} {s s':FileN},funcsN L s = .inr s' → s.funcs.length ≤ 128 → s'.funcs.length ≤ 128
 | [],s,s',h,hs=>by
   rw [funcsN] at h
   cases h
   exact hs
 | x :: r,s,s',h,hs=>by
   rw [funcsN] at h
   rcases hx:oneF s x with c | s1
   ·rw [hx] at h;cases h
   ·rw [hx] at h
    exact funcsN_flen h (oneF_flen hx hs)
theorem fileN_len {u:UnU} {s:FileN} (h:fileN u = .inr s):s.funcs.length ≤ 128:=by
 unfold fileN at h
 split at h
 ·cases h
 ·rcases hg:globsN u.globals 0 ⟨[],[]⟩ with f | s1
  ·rw [hg] at h;cases h
  ·rw [hg] at h
   have:=(globsN_ok fileOk_nil hg).2
   exact funcsN_flen h (by rw [this];decide)
theorem FnsOwn.move {A B:Nat} {w w':World} {v:Value} {Q:List (FnU × Value × Value)} (h:FnsOwn B w v Q) (hA:A ≤ B) (hw:∀ k,B ≤ k → w'.heap[k]? = w.heap[k]?) (hs:w.heap.size ≤ w'.heap.size):FnsOwn A w' v Q:=
 ⟨own_move h.1 hA hw,fun q hq=>(h.2 q hq).keep fun b ⟨h1,h2,h3⟩=>⟨hw b h1,Nat.le_trans hA h1,Nat.lt_of_lt_of_le h2 hs,h3⟩⟩
theorem fnU_one (q:FnU × Value × Value) (h1:∃ a n c,q.2.1 = .slice a n c) (h2:∃ a n c,q.2.2 = .slice a n c):∀ u ∈ fnUCells q,u.oneCell' = true:=fun u hu=>by
 obtain ⟨a,n,c,e⟩:=h1
 obtain ⟨a2,n2,c2,e2⟩:=h2
 simp only [fnUCells,e,e2,List.mem_cons,List.not_mem_nil,or_false] at hu
 rcases hu with rfl | rfl | rfl | rfl | rfl <;> rfl
set_option maxRecDepth 100000 in
set_option maxHeartbeats 8000000 in
theorem funcs11_ok (u:UnU) (vs vg vf:Value) (w:World) (hE:TE w) (hU:IsUn w.heap.size w u vs vg vf) :
 Calls Tryz.prog 10 #[.agg #[vs,vg,vf]] w (FuncsEnd u w):=by
 obtain ⟨sa,sc,mv,rfl,_⟩:=hU.structs
 obtain ⟨ag,cg,rfl,_⟩:=glsU_len hU.globals
 obtain ⟨af,cf,rfl,_⟩:=fnsU_len hU.funcs
 go_enter Tryz.func10,Tryz.ntmps10
 go_upto_region 1 with fail
 have hb1:=(ba1 w (.cells #[.slice sa u.structs.length sc,.slice ag u.globals.length cg,.slice af u.funcs.length cf] 26)).alloc (ba1 w (.cells #[.slice sa u.structs.length sc,.slice ag u.globals.length cg,.slice af u.funcs.length cf] 26)).size (.cells #[.int .i64 0,.int .i64 0] 32)
 have hxq:((w.alloc (.cells #[.slice sa u.structs.length sc,.slice ag u.globals.length cg,.slice af u.funcs.length cf] 26)).alloc (.cells #[.int .i64 0,.int .i64 0] 32)).heap[w.heap.size]? = some (.cells #[.slice sa u.structs.length sc,.slice ag u.globals.length cg,.slice af u.funcs.length cf] 26 (0,0)):=((ba1 _ _).block _ (lt_of_heap (heap_alloc_new w _))).trans (heap_alloc_new w _)
 have hxr:((w.alloc (.cells #[.slice sa u.structs.length sc,.slice ag u.globals.length cg,.slice af u.funcs.length cf] 26)).alloc (.cells #[.int .i64 0,.int .i64 0] 32)).heap[w.heap.size + 1]? = some (.cells #[.int .i64 0,.int .i64 0] 32 (0,0)):=by
  have:=heap_alloc_new (w.alloc (.cells #[.slice sa u.structs.length sc,.slice ag u.globals.length cg,.slice af u.funcs.length cf] 26)) (.cells #[.int .i64 0,.int .i64 0] 32)
  simpa using this
 generalize (w.alloc (.cells #[.slice sa u.structs.length sc,.slice ag u.globals.length cg,.slice af u.funcs.length cf] 26)).alloc (.cells #[.int .i64 0,.int .i64 0] 32) = w1 at *
 have HR:=Hd (fun w' (h:Below w1.heap.size w1 w')=>two_block ((h.block _ (lt_of_heap hxr)).trans hxr))
 have HB1:=Hd hb1
 have HFd:=Hd (filed11_ok u _ _ _ w1 (hE.below hb1) (hU.go hb1))
 obtain ⟨⟨q0,q1,q2⟩,_⟩:=three_block hxq
 unfold FiledEnd at HFd
 have HX:=Hd hxr
 clear hxq hxr hU hE
 rcases hf:fileN u with p | s
 ·obtain ⟨ux,uc⟩:=p
  rw [hf] at HFd
  simp only at HFd
  have huc:uc ≠ 0:=(fileN_ne hf :)
  have t1:(uc != 0) = true:=by simpa using huc
  go_upto_region 2 with (go_at_call 21;(with_reducible refine HFd.out.mono ?_);rintro e w2 ⟨hb2,rfl⟩;have HB2:=Hd (hb2.alloc hb2.size (.cells #[.int .i64 ux,.int .i64 uc] 32));have HB1':=Hd hb2;clear hb2)
  obtain ⟨⟨d0,d1⟩,fd⟩:=HR.out _ HB2.out
  have fd0:=fd 0
  have fd1:=fd 1
  obtain ⟨⟨y0,y1⟩,_⟩:=two_block (heap_alloc_new w2 (.cells #[.int .i64 ux,.int .i64 uc] 32))
  clear q0 q1 q2
  generalize w2.alloc (.cells #[.int .i64 ux,.int .i64 uc] 32) = w3 at *
  go_wp2_with fail
  go_region_law (fail)
  all_goals
   go_wp2_with fail
   exact bodyPost_ret (v:=.tuple #[.slice none 0 0,.agg #[.int .i64 ux,.int .i64 uc]]) (by simp [results,Tryz.results10,go_sem,d0,d1]) rfl ⟨Below.drew (Below.setCell (Below.setCell (HB1.out.trans (HB2.out.mono HB1.out.size)) (Nat.le_succ _) _) (Nat.le_succ _) _),by rw [hf]⟩
 ·rw [hf] at HFd
  simp only at HFd
  go_upto_region 2 with (go_at_call 21;(with_reducible refine HFd.out.mono ?_);rintro e w2 ⟨hb2,B,b,mb,rfl,hwB,hBw,hm2⟩;have HB2:=Hd (hb2.alloc hb2.size (.cells #[.int .i64 0,.int .i64 0] 32));have HM2:=Hd (hm2.below (ba1 w2 (.cells #[.int .i64 0,.int .i64 0] 32)));have HBl:=Hd (Nat.le_trans hBw (ba1 w2 (.cells #[.int .i64 0,.int .i64 0] 32)).size);clear hb2 hm2 hBw)
  have hx3:=heap_alloc_new w2 (.cells #[.int .i64 0,.int .i64 0] 32)
  obtain ⟨⟨y0,y1⟩,_⟩:=two_block hx3
  obtain ⟨lv,Q0,hfa⟩:=HM2.out.funs
  obtain ⟨k3,hlv,hQ0,hF0,hAB⟩:=hfa
  obtain ⟨al,cl,rfl⟩:=own_slice hlv
  have HLo:=Hd (Nat.lt_of_lt_of_le (lt_of_heap (HX.out)) hwB)
  clear q0 q1 q2
  generalize w2.alloc (.cells #[.int .i64 0,.int .i64 0] 32) = w3 at *
  have HX3:=Hd hx3
  have HLv:=Hd hlv
  have HF0:=Hd hF0
  have hln:Q0.length = s.funcs.length:=by rw [← hQ0,List.length_map]
  have HQ0:=Hd hQ0
  have hz3:=lt_of_heap hx3
  have HLen:=Hd (show s.funcs.length ≤ 128 from fileN_len hf)
  clear hx3 hlv hF0 hQ0
  go_wp2_with fail
  go_loopg [6,23] s.funcs.length (fun m v6 v23 wy=>∃ (i:Nat) (Q:List (FnU × Value × Value)),i ≤ s.funcs.length ∧ i + m = s.funcs.length ∧ v23 = .int .i64 (i:Int) ∧ Q.length = i ∧ Hid (FnsOwn w3.heap.size wy v6 Q) ∧ Hid (Q.map Prod.fst = s.funcs.take i) ∧ Hid (Below w3.heap.size w3 wy))
  case atStart=>exact ⟨0,[],by omega,by omega,rfl,rfl,Hd (fnsOwn_nil _ _),Hd rfl,Hd (Below.refl _ _)⟩
  case round=>
   obtain ⟨i,Q,hi,him,rfl,hql,HO,HQ,HB⟩:=hrel
   subst hql
   obtain ⟨ao,co,rfl⟩:=own_slice HO.out.1
   have hcz:s.funcs.length ≤ 128:=HLen.out
   by_cases hlt:Q.length < s.funcs.length
   ·have hiQ:Q.length < Q0.length:=by omega
    obtain ⟨g,cap,hgs,hgB,hgl,hcap,hcm,hcs,_⟩:=own_rowAt fnU_len HLv.out hln.symm hiQ
    obtain ⟨rfl,rfl⟩:al = some ⟨g,0,none⟩ ∧ cl = cap:=by simpa using hgs
    have hmo:=HF0.out Q0[Q.length] (List.getElem_mem hiQ)
    have hnx:(Q.map Prod.fst) ++ [Q0[Q.length].1] = s.funcs.take (Q.length + 1):=by
     rw [HQ.out,List.take_add_one]
     congr 1
     rw [← HQ0.out,List.getElem?_map,List.getElem?_eq_getElem hiQ]
     rfl
    rcases hqi:Q0[Q.length] with ⟨f,vp,vb⟩
    rw [hqi] at hmo hcs hnx
    simp only at hmo hnx
    obtain ⟨ap,cp,rfl⟩:=vrs_sl hmo.params
    obtain ⟨ab,cb,rfl⟩:=tr_sl hmo.body
    have m0:=hcs 0 _ rfl
    rw [Nat.add_zero] at m0
    have m1:=hcs 1 _ rfl
    have m2:=hcs 2 _ rfl
    have m3:=hcs 3 _ rfl
    have m4:=hcs 4 _ rfl
    rw [← HB.out.cell hgl] at m0 m1 m2 m3 m4
    have HMo:=Hd hmo
    have HNx:=Hd hnx
    clear hcs hmo hnx hgs
    go_upto_region 8 with fail
    have hx:=heap_alloc_new wr (.cells #[.int .i64 f.at_,.string f.name,.string f.type,.slice ap f.params.length cp,.slice ab f.body.length cb] 45)
    have hba:=ba1 wr (.cells #[.int .i64 f.at_,.string f.name,.string f.type,.slice ap f.params.length cp,.slice ab f.body.length cb] 45)
    generalize wr.alloc (.cells #[.int .i64 f.at_,.string f.name,.string f.type,.slice ap f.params.length cp,.slice ab f.body.length cb] 45) = wa at *
    have HBa:=Ht HB hba
    have HOa:=Hd (HO.out.below hba)
    obtain ⟨⟨y0,y1,y2,y3,y4⟩,_⟩:=five_block hx
    have hza:=lt_of_heap hx
    have HCo:=Hd (copied11_ok f _ _ wa ((HMo.out.below (HBa.out.mono (Nat.le_refl _)) (by omega)).mono (by have:=HBa.out.size;omega)))
    unfold CopEnd at HCo
    clear hx hba m0 m1 m2 m3 m4
    obtain ⟨i0,hi0,hz0,hz1',hz2'⟩:=info_parts infoFnU
    have HIn:=Hd (And.intro hi0 (And.intro hz0 (And.intro hz1' hz2')))
    clear hi0 hz0 hz1' hz2'
    have HWa:=Hd (show wr.heap.size ≤ wa.heap.size from by omega)
    have HSa:=Hd HBa.out.size
    have hMr:=fun w9 (h:Below w3.heap.size w3 w9)=>HMo.out.below h (Nat.le_trans hAB HBl.out)
    have HOw:=Hd (fun k (hk:(Value.slice ao Q.length co).ownBlock = some k)=>(HO.out.1.lt k hk).2)
    have hn1:Q.length + 1 ≤ maxLen:=by unfold maxLen;omega
    have hn2:(Q.length + 1) * 88 ≤ 140737488355328:=by omega
    have HNum:=Hd (And.intro hn1 hn2)
    clear hn1 hn2
    go_wp2_with (first
     | (go_at_call 25;(with_reducible refine HCo.out.mono ?_);rintro e w8 ⟨⟨vp',vb',rfl,hp8,hb8'⟩,hb8⟩;obtain ⟨ap',cp',rfl⟩:=own_slice hp8;obtain ⟨ab',cb',rfl⟩:=own_slice hb8';have HP8:=Hd ((fnPU_new (v:=.slice ao Q.length co) (hMr _ (HBa.out.trans (hb8.mono HBa.out.size))) hp8 hb8' HSa.out (fun k hk=>Nat.lt_of_lt_of_le (HOw.out k hk) HWa.out)).keep (keep_offU (grn_blwU none (ba1 w8 (.cells #[.int .i64 f.at_,.string f.name,.string f.type,.slice ap' f.params.length cp',.slice ab' f.body.length cb'] 45))) (fun r e=>by cases e)));have HO8:=Hd ((HOa.out.below hb8).below (ba1 w8 (.cells #[.int .i64 f.at_,.string f.name,.string f.type,.slice ap' f.params.length cp',.slice ab' f.body.length cb'] 45)));have HB8:=Hd ((HBa.out.trans (hb8.mono HBa.out.size)).alloc (Nat.le_trans HBa.out.size hb8.size) (.cells #[.int .i64 f.at_,.string f.name,.string f.type,.slice ap' f.params.length cp',.slice ab' f.body.length cb'] 45));have HOne:=Hd (fnU_one (f,.slice ap' f.params.length cp',.slice ab' f.body.length cb') ⟨_,_,_,rfl⟩ ⟨_,_,_,rfl⟩);clear hp8 hb8' hb8)
     | (at_builtin;go_loud (refine wpList_append_lies _ rfl _ _ _ rfl w3.heap.size 45 i0 _ 5 88 Tryz.underlying24 HIn.out.1 HIn.out.2.1 HIn.out.2.2.1 HIn.out.2.2.2 rfl (by decide) _ Q.length (Q.flatMap fnUCells) rfl HO8.out.1 ⟨_,0,none⟩ 1 1 (fnUCells (f,.slice ap' f.params.length cp',.slice ab' f.body.length cb')) rfl rfl (World.news_of_block (cs:=#[.int .i64 f.at_,.string f.name,.string f.type,.slice ap' f.params.length cp',.slice ab' f.body.length cb']) (heap_alloc_new _ _)) HOne.out (by decide) HNum.out.1 HNum.out.2 HB8.out.size _ rfl ?_)))
    intro gg cap' w11 hown hgrow hat _
    have hpush:=HO8.out.push HP8.out rfl hown hgrow (hat.imp id (fun e=>by rw [e];simp))
    have HE1:=Hd hpush
    have HE2:=Hd (show Below w3.heap.size w3 w11 from HB8.out.grown hgrow HB8.out.size (fun k hk=>(HO8.out.1.lt k hk).1))
    have HE3:=Hd (show (Q ++ [(f,Value.slice ap' f.params.length cp',Value.slice ab' f.body.length cb')]).map Prod.fst = s.funcs.take (Q.length + 1) by rw [List.map_append];exact HNx.out)
    clear hpush hown hgrow hat
    go_wp2_with fail
    go_roundg (s.funcs.length - (Q.length + 1))
    case measure=>omega
    case rel=>exact ⟨Q.length + 1,_,by omega,by omega,by rw [Int.natCast_add];rfl,by simp,HE1,HE3,HE2⟩
   ·have hend:Q.length = s.funcs.length:=by omega
    have t5:(s.funcs.length:Int) ≤ (Q.length:Int):=by omega
    have hmap:Q.map Prod.fst = s.funcs:=by rw [HQ.out,hend,List.take_length]
    have hwr:=HB2.out.trans (HB.out.mono HB2.out.size)
    obtain ⟨⟨d0,d1⟩,fd⟩:=HR.out wr hwr
    have fd0:=fd 0
    have fd1:=fd 1
    obtain ⟨⟨y0,y1⟩,_⟩:=two_block ((HB.out.block _ hz3).trans HX3.out)
    have HWr:=Ht HB1 hwr
    have HMap:=Hd hmap
    clear hwr hend hmap
    go_wp2_with fail
    go_region_law (fail)
    all_goals
     go_wp2_with fail
     refine bodyPost_ret (v:=.tuple #[.slice ao Q.length co,.agg #[.int .i64 0,.int .i64 0]]) (by simp [results,Tryz.results10,go_sem,d0,d1]) rfl ⟨Below.drew (Below.setCell (Below.setCell HWr.out (Nat.le_succ _) _) (Nat.le_succ _) _),?_⟩
     rw [hf]
     refine ⟨_,Q,rfl,HO.out.move (HB1.out.trans (HB2.out.mono HB1.out.size)).size (fun k hk=>?_) (by simp),HMap.out⟩
     have hne:k ≠ w.heap.size + 1:=by have:=HLo.out;have:=HBl.out;omega
     show ((wr.setCell ⟨w.heap.size + 1,0,none⟩ (.int .i64 0)).setCell ⟨w.heap.size + 1,1,none⟩ (.int .i64 0)).heap[k]? = _
     rw [Below.heap_setCell _ _ _ _ hne,Below.heap_setCell _ _ _ _ hne]
end Go.Proofs.YtbbaooeioogijaaGreatDoor
namespace Go.Proofs.YtbbaooeioogijaaGreatDoor
open Go.RowKit Go.Maps
structure RfM (B:Nat) (w:World) (gn cn go co gb cb:Nat) (N:List ByteArray) (O:List Bnd) (S:List ByteArray):Prop where
 names:w.ownsRow B 9 1 (.slice (some ⟨gn,0,none⟩) N.length cn) N.length (N.map .string)
 out:w.ownsRow B 78 3 (.slice (some ⟨go,0,none⟩) O.length co) O.length (O.flatMap bndCells)
 bodies:w.ownsRow B 9 1 (.slice (some ⟨gb,0,none⟩) S.length cb) S.length (S.map .string)
 apart:gn ≠ go ∧ gn ≠ gb ∧ go ≠ gb
structure RfM2 (B:Nat) (w:World) (gn cn go co:Nat) (N:List ByteArray) (O:List Bnd):Prop where
 names:w.ownsRow B 9 1 (.slice (some ⟨gn,0,none⟩) N.length cn) N.length (N.map .string)
 out:w.ownsRow B 78 3 (.slice (some ⟨go,0,none⟩) O.length co) O.length (O.flatMap bndCells)
 apart:gn ≠ go
section
variable {B gn cn go co gb cb:Nat} {w w':World} {N S:List ByteArray} {O:List Bnd}
theorem RfM.below (h:RfM B w gn cn go co gb cb N O S) (hb:Below w.heap.size w w'):RfM B w' gn cn go co gb cb N O S:=⟨h.names.belowed hb,h.out.belowed hb,h.bodies.belowed hb,h.apart⟩
theorem RfM.lt (h:RfM B w gn cn go co gb cb N O S):(B ≤ gn ∧ gn < w.heap.size) ∧ (B ≤ go ∧ go < w.heap.size) ∧ (B ≤ gb ∧ gb < w.heap.size):=⟨h.names.lt _ rfl,h.out.lt _ rfl,h.bodies.lt _ rfl⟩
theorem row_keptG {e:TypeId} {size m:Nat} {v:Value} {xs:List Value} {g:Nat} (h:w.ownsRow B e size v m xs) (hg:w.grownBy w' (some g)) (hne:v.ownBlock ≠ some g):w'.ownsRow B e size v m xs:=h.kept hg (.inr hne)
theorem RfM2.below (h:RfM2 B w gn cn go co N O) (hb:Below w.heap.size w w'):RfM2 B w' gn cn go co N O:=⟨h.names.belowed hb,h.out.belowed hb,h.apart⟩
theorem RfM2.lt (h:RfM2 B w gn cn go co N O):(B ≤ gn ∧ gn < w.heap.size) ∧ (B ≤ go ∧ go < w.heap.size):=⟨h.names.lt _ rfl,h.out.lt _ rfl⟩
theorem RfM2.grewN {gn' cn':Nat} {x:ByteArray} (h:RfM2 B w gn cn go co N O) (hg:w.grownBy w' (some gn)) (ho:w'.ownsRow B 9 1 (.slice (some ⟨gn',0,none⟩) (N.length + 1) cn') (N.length + 1) (N.map .string ++ [.string x])) (hs:gn = gn' ∨ gn' = w.heap.size):RfM2 B w' gn' cn' go co (N ++ [x]) O:=by
 have h1:=h.apart
 obtain ⟨_,l2⟩:=h.lt
 refine ⟨by rw [List.length_append,List.map_append];exact ho,row_keptG h.out hg (fun e=>h1 (Option.some.inj e).symm),?_⟩
 rcases hs with rfl | rfl
 ·exact h.apart
 ·omega
theorem RfM2.grewO {go' co':Nat} {x:Bnd} (h:RfM2 B w gn cn go co N O) (hg:w.grownBy w' (some go)) (ho:w'.ownsRow B 78 3 (.slice (some ⟨go',0,none⟩) (O.length + 1) co') (O.length + 1) (O.flatMap bndCells ++ bndCells x)) (hs:go = go' ∨ go' = w.heap.size):RfM2 B w' gn cn go' co' N (O ++ [x]):=by
 have h1:=h.apart
 obtain ⟨l1,_⟩:=h.lt
 refine ⟨row_keptG h.names hg (fun e=>h1 (Option.some.inj e)),by rw [List.length_append,List.flatMap_append];simpa using ho,?_⟩
 rcases hs with rfl | rfl
 ·exact h.apart
 ·omega
theorem RfM2.three (h:RfM2 B w gn cn go co N O):RfM B (w.alloc (.cells #[] 9)) gn cn go co w.heap.size 0 N O []:=by
 obtain ⟨l1,l2⟩:=h.lt
 have h2:=h.below (ba1 w (.cells #[] 9))
 exact ⟨h2.names,h2.out,World.ownsRow_lit w #[] 0 (by omega) (by decide) rfl,h.apart,by omega,by omega⟩
theorem rfM2_new (w:World):RfM2 w.heap.size ((w.alloc (.cells #[] 9)).alloc (.cells #[] 78)) w.heap.size 0 (w.heap.size + 1) 0 [] []:=by
 have h1:(w.alloc (.cells #[] 9)).ownsRow w.heap.size 9 1 (.slice (some ⟨w.heap.size,0,none⟩) 0 0) 0 (([]:List ByteArray).map .string):=World.ownsRow_lit w #[] 0 (Nat.le_refl _) (by decide) rfl
 have h2:=World.ownsRow_lit (base:=w.heap.size) (w.alloc (.cells #[] 9)) (e:=78) (size:=3) #[] 0 (by simp) (by decide) rfl
 rw [World.size_alloc] at h2
 exact ⟨h1.belowed (ba1 _ _),h2,by omega⟩
theorem RfM.grewN {gn' cn':Nat} {x:ByteArray} (h:RfM B w gn cn go co gb cb N O S) (hg:w.grownBy w' (some gn)) (ho:w'.ownsRow B 9 1 (.slice (some ⟨gn',0,none⟩) (N.length + 1) cn') (N.length + 1) (N.map .string ++ [.string x])) (hs:gn = gn' ∨ gn' = w.heap.size):RfM B w' gn' cn' go co gb cb (N ++ [x]) O S:=by
 obtain ⟨h1,h2,h3⟩:=h.apart
 obtain ⟨_,l2,l3⟩:=h.lt
 refine ⟨by rw [List.length_append,List.map_append];exact ho,row_keptG h.out hg (fun e=>h1 (Option.some.inj e).symm),row_keptG h.bodies hg (fun e=>h2 (Option.some.inj e).symm),?_⟩
 rcases hs with rfl | rfl
 ·exact h.apart
 ·exact ⟨by omega,by omega,h3⟩
theorem RfM.grewO {go' co':Nat} {x:Bnd} (h:RfM B w gn cn go co gb cb N O S) (hg:w.grownBy w' (some go)) (ho:w'.ownsRow B 78 3 (.slice (some ⟨go',0,none⟩) (O.length + 1) co') (O.length + 1) (O.flatMap bndCells ++ bndCells x)) (hs:go = go' ∨ go' = w.heap.size):RfM B w' gn cn go' co' gb cb N (O ++ [x]) S:=by
 obtain ⟨h1,h2,h3⟩:=h.apart
 obtain ⟨l1,_,l3⟩:=h.lt
 refine ⟨row_keptG h.names hg (fun e=>h1 (Option.some.inj e)),by rw [List.length_append,List.flatMap_append];simpa using ho,row_keptG h.bodies hg (fun e=>h3 (Option.some.inj e).symm),?_⟩
 rcases hs with rfl | rfl
 ·exact h.apart
 ·exact ⟨by omega,h2,by omega⟩
theorem RfM.grewB {gb' cb':Nat} {x:ByteArray} (h:RfM B w gn cn go co gb cb N O S) (hg:w.grownBy w' (some gb)) (ho:w'.ownsRow B 9 1 (.slice (some ⟨gb',0,none⟩) (S.length + 1) cb') (S.length + 1) (S.map .string ++ [.string x])) (hs:gb = gb' ∨ gb' = w.heap.size):RfM B w' gn cn go co gb' cb' N O (S ++ [x]):=by
 obtain ⟨h1,h2,h3⟩:=h.apart
 obtain ⟨l1,l2,_⟩:=h.lt
 refine ⟨row_keptG h.names hg (fun e=>h2 (Option.some.inj e)),row_keptG h.out hg (fun e=>h3 (Option.some.inj e)),by rw [List.length_append,List.map_append];exact ho,?_⟩
 rcases hs with rfl | rfl
 ·exact h.apart
 ·exact ⟨h1,by omega,by omega⟩
end
theorem bnC_len (x:Bnd):(bndCells x).length = 3:=rfl
theorem str_own {w:World} {B g n c:Nat} {L:List ByteArray} (h:w.ownsRow B 9 1 (.slice (some ⟨g,0,none⟩) n c) n (L.map .string)) (hn:n = L.length):(g < w.heap.size ∧ n ≤ c ∧ c ≤ maxLen) ∧ ∀ j (hj:j < L.length),w.cell? ⟨g,j,none⟩ = some (.string L[j]):=by
 subst hn
 have h0:=h
 obtain ⟨hl,h⟩:=h
 rcases h with ⟨h,_⟩ | ⟨g',cap',cur,e,hb,hg,hn,hc,hs,ht⟩
 ·cases h
 ·simp only [Value.slice.injEq,Option.some.injEq,Addr.mk.injEq,and_true] at e
  obtain ⟨rfl,_,rfl⟩:=e
  refine ⟨⟨lt_of_heap hg,hn,hc⟩,fun j hj=>?_⟩
  have hL:L.map Value.string = L.flatMap fun s=>[Value.string s]:=List.map_eq_flatMap
  rw [hL] at h0
  have:=own_cell (k:=1) (cells:=fun s=>[Value.string s]) (fun _=>rfl) h0 (List.getElem?_eq_getElem hj) (j:=0) rfl
  rwa [Nat.mul_one,Nat.add_zero] at this
theorem in_own {w:World} {B g n c k:Nat} {L:List ByteArray} (s:ByteArray) (h:w.ownsRow B 9 1 (.slice (some ⟨g,0,none⟩) n c) n (L.map .string)) (hn:n = L.length) (hk:k ≤ n) (hl:n ≤ 1048576) :
 Calls Tryz.prog 23 #[.slice (some ⟨g,0,none⟩) k c,.string s] w fun e w'=>e = .returned (.bool (Lib.containsS (L.take k) s)) ∧ w' = w:=by
 obtain ⟨_,hc⟩:=str_own h hn
 have hlt:(L.take k).length = k:=List.length_take_of_le (by omega)
 have:=baseIn_ok g c (L.take k) s w (by omega) (fun j hj=>by
  rw [hlt] at hj
  rw [hc j (by omega),List.getD_eq_getElem?_getD,List.getElem?_take_of_lt hj,List.getElem?_eq_getElem (by omega)]
  rfl)
 rw [hlt] at this
 exact this.mono fun _ _ ⟨h1,h2⟩=>⟨h1,h2.symm⟩
theorem in_yes {L:List ByteArray} {s:ByteArray} (h:s ∈ L):Lib.containsS L s = true:=(Lib.containsS_iff _ _).2 h
theorem in_no {L:List ByteArray} {s:ByteArray} (h:s ∉ L):Lib.containsS L s = false:=by
 rw [Bool.eq_false_iff]
 exact fun e=>h ((Lib.containsS_iff _ _).1 e)
end Go.Proofs.YtbbaooeioogijaaGreatDoor
