/- A function for each name, handed out: the reference. · A function gone over, in memory: what is found so far, scope · The law's comparisons: meanings, slots. · The law's comparisons: slots, texts. · What is so of a right file's functions; parameters · What a function uses of its file is there, each once, as man · What a file's names are handed out as, both ways in one form · The same nodes, but for places: the program. -/
import Derived.Lib.QuietBelow
import Derived.Test.YtbbaooeioogijaaGreatDoorRefFile
import Derived.Test.YtbbaooeioogijaaGreatDoorRefFs
import Derived.Test.YtbbaooeioogijaaGreatDoorCopyU
import Derived.Test.YtbbaooeioogijaaGreatDoorMg24
import Derived.Test.YtbbaooeioogijaaGreatDoorMg19
import Derived.Test.YtbbaooeioogijaaGreatDoorMg13
import Derived.Test.YtbbaooeioogijaaGreatDoorMg18
import Derived.BigRegion
namespace Go.Proofs.YtbbaooeioogijaaGreatDoor
open Go.RowKit Go.Maps
theorem isSt_nil (B:Nat) (w:World):IsStU B w (.slice none 0 0) []:=⟨none,0,[],rfl,⟨Nat.le_refl _,Nat.zero_le _,by decide,(fun x h=>by cases h),(fun v h=>by cases h),fun _=>⟨rfl,rfl⟩⟩,⟨rfl,(fun h=>absurd rfl h),(fun x h=>by cases h)⟩⟩
theorem isGls_nil (B:Nat) (w:World):IsGlsU B w (.slice none 0 0) []:=⟨none,0,[],rfl,⟨by decide,Nat.le_refl _,Nat.zero_le _,fun _=>⟨rfl,rfl⟩⟩,rfl,(fun h=>absurd rfl h),(fun q h=>by cases h)⟩
theorem isUn_fns {B:Nat} {w:World} {v:Value} {L:List FnU} (h:IsFnsU B w v L):IsUn B w ⟨[],[],L⟩ (.slice none 0 0) (.slice none 0 0) v:=⟨isSt_nil B w,isGls_nil B w,h⟩
theorem FsRow.is {A B:Nat} {w:World} {v:Value} {Q:List (FnU × Value × Value)} (h:FsRow A B w v Q) (hA:A ≤ w.heap.size) (hl:Q.length ≤ 256):IsFnsU w.heap.size w v (Q.map Prod.fst):=by
 obtain ⟨a,cap,e,h1,h2,hs,hn⟩:=own_slU fnU_len h.1 rfl
 exact ⟨a,cap,Q,by rw [List.length_map];exact e,⟨by rw [List.length_map];omega,by rw [List.length_map];exact h1,h2,fun e=>by rw [List.length_map];exact hn e⟩,rfl,hs.sl (fun b hb=>hb.2.2),fun q hq=>(h.2 q hq).mono hA⟩
theorem run_fieldU (a0 a1 a2:Option Addr) (n0 n1 n2 c0 c1 c2:Nat) (w:World):(Instr.field 26 (.agg #[.slice a0 n0 c0,.slice a1 n1 c1,.slice a2 n2 c2]) 2).run Tryz.prog w = .ok (.slice a2 n2 c2) w:=by kernel_rfl
def RFnsEnd (u:UnU) (w:World) (e:Ending) (w':World):Prop:=Below w.heap.size w w' ∧ match fileN u with
 | .inl p=>e = .returned (.tuple #[.slice none 0 0,.agg #[.int .i64 p.1,.int .i64 p.2]])
 | .inr s=>∃ v Q M,e = .returned (.tuple #[v,.agg #[.int .i64 0,.int .i64 0]]) ∧ w.heap.size ≤ M ∧ FnsC M w' v Q ∧ Q.map Prod.fst = s.funcs
set_option maxRecDepth 100000 in
set_option maxHeartbeats 16000000 in
theorem refFns_ok (u:UnU) (vs vg vf:Value) (w:World) (hU:IsUn w.heap.size w u vs vg vf) :
 Calls Tryz.prog 11 #[.agg #[vs,vg,vf]] w (RFnsEnd u w):=by
 obtain ⟨sa,sc,mv,rfl,_⟩:=hU.structs
 obtain ⟨ag,cg,rfl,_⟩:=glsU_len hU.globals
 obtain ⟨af,cf,rfl,_⟩:=fnsU_len hU.funcs
 go_enter Tryz.func11,Tryz.ntmps11
 go_upto_region 1 with fail
 have hb1:=(ba1 w (.cells #[.slice sa u.structs.length sc,.slice ag u.globals.length cg,.slice af u.funcs.length cf] 26)).alloc (ba1 w (.cells #[.slice sa u.structs.length sc,.slice ag u.globals.length cg,.slice af u.funcs.length cf] 26)).size (.cells #[.int .i64 0,.int .i64 0] 32)
 have hxq:=((ba1 (w.alloc (.cells #[.slice sa u.structs.length sc,.slice ag u.globals.length cg,.slice af u.funcs.length cf] 26)) (.cells #[.int .i64 0,.int .i64 0] 32)).block _ (lt_of_heap (heap_alloc_new w _))).trans (heap_alloc_new w (.cells #[.slice sa u.structs.length sc,.slice ag u.globals.length cg,.slice af u.funcs.length cf] 26))
 have hxr:=heap_alloc_new (w.alloc (.cells #[.slice sa u.structs.length sc,.slice ag u.globals.length cg,.slice af u.funcs.length cf] 26)) (.cells #[.int .i64 0,.int .i64 0] 32)
 rw [World.size_alloc] at hxr
 generalize (w.alloc (.cells #[.slice sa u.structs.length sc,.slice ag u.globals.length cg,.slice af u.funcs.length cf] 26)).alloc (.cells #[.int .i64 0,.int .i64 0] 32) = w1 at *
 have HQ:=Hd (fun w' (h:Below w1.heap.size w1 w')=>(three_block ((h.block _ (lt_of_heap hxq)).trans hxq)).1)
 have HR:=Hd (fun w' (h:Below w1.heap.size w1 w')=>two_block ((h.block _ (lt_of_heap hxr)).trans hxr))
 have HXr:=Hd (lt_of_heap hxr)
 have HBw:=Hd (fun w' (h:Below w1.heap.size w1 w')=>hb1.trans (h.mono hb1.size))
 have HUw:=Hd (fun w' (h:Below w1.heap.size w1 w')=>hU.go (hb1.trans (h.mono hb1.size)))
 have HFl:=Hd (refFile_ok u _ _ _ w1 (hU.go hb1))
 clear hb1 hxq hxr hU
 obtain ⟨q0,q1,q2⟩:=HQ.out w1 (Below.refl _ _)
 unfold FileEnd at HFl
 rcases hfile:fileN u with ⟨fx,fc⟩ | fs
 ·rw [hfile] at HFl
  simp only at HFl
  have hne:fc ≠ 0:=(fileN_ne hfile :)
  have t4:(fc != 0) = true:=by simpa using hne
  have HFin:=Hd hfile
  clear hne hfile
  go_upto_region 2 with (go_at_call 7;(with_reducible refine HFl.out.mono ?_);rintro e w2 ⟨hb2,rfl⟩;have HB2:=Hd hb2;clear hb2)
  obtain ⟨⟨k0,k1⟩,_⟩:=two_block (heap_alloc_new w2 (.cells #[.int .i64 fx,.int .i64 fc] 32))
  have HB3:=Hd (HB2.out.alloc HB2.out.size (.cells #[.int .i64 fx,.int .i64 fc] 32))
  generalize w2.alloc (.cells #[.int .i64 fx,.int .i64 fc] 32) = w3 at *
  obtain ⟨⟨d0,d1⟩,fd⟩:=HR.out w3 HB3.out
  have fd0:=fd 0
  have fd1:=fd 1
  clear fd
  go_wp2_with fail
  go_region_law (fail)
  all_goals
   go_wp2_with fail
   exact bodyPost_ret (v:=.tuple #[.slice none 0 0,.agg #[.int .i64 fx,.int .i64 fc]]) (by simp [results,Tryz.results11,go_sem,d0,d1]) rfl ⟨Below.drew (Below.setCell (Below.setCell (HBw.out _ HB3.out) (Nat.le_succ _) _) (Nat.le_succ _) _),by rw [HFin.out]⟩
 ·rw [hfile] at HFl
  simp only at HFl
  have HFi:=Hd hfile
  have h256:=(unitE_lensR (fileN_ok hfile).2.1).2
  have h128:=fileN_len hfile
  have HFr:=Hd (fileN_rfuncs hfile)
  clear hfile
  go_upto_region 2 with (go_at_call 7;(with_reducible refine HFl.out.mono ?_);rintro e w2 ⟨hb2,bv,nv,rfl,hbv,hnv⟩;obtain ⟨aq,cq,rfl⟩:=own_slice hbv;obtain ⟨anq,cnq,rfl⟩:=own_slice hnv;have HB2:=Hd hb2;clear hb2 hbv hnv)
  obtain ⟨⟨k0,k1⟩,_⟩:=two_block (heap_alloc_new w2 (.cells #[.int .i64 0,.int .i64 0] 32))
  have HB3:=Hd (HB2.out.alloc HB2.out.size (.cells #[.int .i64 0,.int .i64 0] 32))
  generalize w2.alloc (.cells #[.int .i64 0,.int .i64 0] 32) = w3 at *
  clear q0 q1 q2
  obtain ⟨q0,q1,q2⟩:=HQ.out w3 HB3.out
  have HRf:=Hd (rfuncs_ok u _ _ _ w3 (HUw.out w3 HB3.out) h256)
  unfold FsEnd at HRf
  have hfd:=run_fieldU
  go_wp2_with (first
   | (go_at_call 26;(with_reducible refine HRf.out.mono ?_);rintro e w4 ⟨⟨fv,Q,rfl,hfv,hQ⟩,hb4⟩;obtain ⟨fa,fcp,rfl⟩:=own_slice hfv.1;have HB4:=Hd hb4;have hql:Q.length ≤ 256:=(by rw [← List.length_map (f:=Prod.fst),hQ,← HFr.out];omega);have HQf:=Hd (hQ.trans HFr.out.symm);have HCp:=Hd (copyUnit_ok _ _ _ _ w4 (isUn_fns (hfv.is (Nat.le_trans (Nat.le_refl _) hb4.size) hql)));unfold CopyUEnd at HCp;clear hb4 hfv hQ)
   | (go_at_call 5;(with_reducible refine HCp.out.mono ?_);rintro e w5 ⟨⟨vs5,vg5,vf5,M5,Q5,rfl,hun⟩,hb5⟩;obtain ⟨fa5,fc5,rfl⟩:=own_slice hun.funcs.1;obtain ⟨sa5,sc5,_,rfl,_⟩:=hun.is.structs;obtain ⟨ga5,gc5,rfl,_⟩:=glsU_len hun.is.globals;have HUn:=Hd hun;have HB5:=Hd (HB3.out.trans ((HB4.out.trans (hb5.mono HB4.out.size)).mono HB3.out.size));obtain ⟨⟨d0,d1⟩,fd⟩:=HR.out w5 (HB3.out.trans ((HB4.out.trans (hb5.mono HB4.out.size)).mono HB3.out.size));have fd0:=fd 0;have fd1:=fd 1;clear hb5 hun fd))
  refine bodyPost_ret (v:=.tuple #[.slice fa5 Q5.length fc5,.agg #[.int .i64 0,.int .i64 0]]) (by simp [results,Tryz.results11,go_sem,d0,d1]) rfl ⟨Below.setCell (Below.setCell (HBw.out _ HB5.out) (Nat.le_succ _) _) (Nat.le_succ _) _,?_⟩
  rw [HFi.out]
  have hM:w.heap.size + 1 < M5:=Nat.lt_of_lt_of_le HXr.out (Nat.le_trans HB3.out.size (Nat.le_trans HB4.out.size HUn.out.low.1))
  have hf:=(HUn.out.funcs.kept (grn_setU w5 (w.heap.size + 1) 0 (.int .i64 0)) (fun r e=>by cases e;exact hM)).kept (grn_setU _ (w.heap.size + 1) 1 (.int .i64 0)) (fun r e=>by cases e;exact hM)
  have hfs:=HUn.out.fns
  exact ⟨_,Q5,M5,rfl,by omega,hf,hfs.trans HQf.out⟩
end Go.Proofs.YtbbaooeioogijaaGreatDoor
namespace Go.Proofs.YtbbaooeioogijaaGreatDoor
open Go.RowKit Go.Maps
theorem MapB.move {w w':World} {b n:Nat} {f:ByteArray → Option Bnd} (h:MapB w b n f) (e:w'.heap[b]? = w.heap[b]?):MapB w' b n f:=by
 obtain ⟨D,⟨es,cl,h1,h2⟩,hv⟩:=h
 exact ⟨D,⟨es,cl,e.trans h1,h2⟩,hv⟩
end Go.Proofs.YtbbaooeioogijaaGreatDoor
namespace Go.Proofs.YtbbaooeioogijaaGreatDoor
open Go.RowKit
theorem bnds_at {B:Nat} {w:World} {a:Option Addr} {t:List Bnd} (h:IsSl 3 bndCells B w a t) {i:Nat} (hi:i < t.length):∃ b off,a = some ⟨b,off,none⟩ ∧ b < B ∧
 w.cell? ⟨b,off + i * 3,none⟩ = some (.int .i64 t[i].kind) ∧ w.cell? ⟨b,off + i * 3 + 1,none⟩ = some (.int .i64 t[i].idx) ∧ w.cell? ⟨b,off + i * 3 + 2,none⟩ = some (.string t[i].type):=by
 obtain ⟨b,off,e,hlt,hc⟩:=h (fun e=>by rw [e] at hi;simp at hi)
 have h1:=hc i _ (List.getElem?_eq_getElem hi)
 exact ⟨b,off,e,hlt,by simpa using h1 0 _ rfl,h1 1 _ rfl,h1 2 _ rfl⟩
set_option maxHeartbeats 4000000 in
theorem bindings11_ok (a b:Option Addr) (ca cb:Nat) (L:List Bnd) (w:World) (hA:IsSl 3 bndCells w.heap.size w a L) (hB:IsSl 3 bndCells w.heap.size w b L) (hl:L.length ≤ 4096) :
 Calls Tryz.prog 8 #[.slice a L.length ca,.slice b L.length cb] w fun e w'=>e = .returned (.bool true) ∧ Below w.heap.size w w':=by
 have HA:=Hd hA
 have HB:=Hd hB
 have hli:(L.length:Int) ≤ 4096:=by omega
 have hne:((L.length:Int) != (L.length:Int)) = false:=by simp
 clear hA hB
 go_enter Tryz.func8,Tryz.ntmps8
 go_wp2_with fail
 go_loopg [5] L.length (fun m v5 wy=>∃ (i:Nat),i ≤ L.length ∧ i + m = L.length ∧ v5 = .int .i64 (i:Int) ∧ Hid (Below w.heap.size w wy))
 case atStart=>exact ⟨0,by omega,by omega,rfl,Hd (Below.refl _ _)⟩
 case round=>
  obtain ⟨i,hi,him,rfl,HW⟩:=hrel
  by_cases hlt:i < L.length
  ·obtain ⟨b1,o1,ha,hb1,c0,c1,c2⟩:=bnds_at HA.out hlt
   obtain ⟨b2,o2,hb,hb2,e0,e1,e2⟩:=bnds_at HB.out hlt
   subst ha hb
   rw [← HW.out.cell hb1] at c0 c1 c2
   rw [← HW.out.cell hb2] at e0 e1 e2
   generalize L[i] = x at *
   obtain ⟨kk,n,ty⟩:=x
   simp only at c0 c1 c2 e0 e1 e2
   have t1:∀ z:Int,(z != z) = false:=by simp
   have t2:∀ z:List UInt8,(z != z) = false:=by simp
   have t3:∀ z:Int,(z == z) = true:=by simp
   have t4:∀ z:List UInt8,(z == z) = true:=by simp
   have hi0:(0:Int) ≤ (i:Int):=by omega
   have hi1:(i:Int) < (L.length:Int):=by omega
   go_wp2_with fail
   go_quiet (fail)
   go_wp2_with fail
   go_roundg (L.length - (i + 1))
   case measure=>omega
   case rel=>exact ⟨i + 1,by omega,by omega,by rw [Int.natCast_add];rfl,Hd (blw_drewN HW.out _)⟩
  ·obtain rfl:i = L.length:=by omega
   go_wp2_with fail
   go_ret
   exact ⟨rfl,HW.out⟩
end Go.Proofs.YtbbaooeioogijaaGreatDoor
namespace Go.Proofs.YtbbaooeioogijaaGreatDoor
open Go.RowKit
def strCells (s:ByteArray):List Value:=[.string s]
theorem strs_at {B:Nat} {w:World} {a:Option Addr} {t:List ByteArray} (h:IsSl 1 strCells B w a t) {i:Nat} (hi:i < t.length):∃ b off,a = some ⟨b,off,none⟩ ∧ b < B ∧ w.cell? ⟨b,off + i,none⟩ = some (.string t[i]):=by
 obtain ⟨b,off,e,hlt,hc⟩:=h (fun e=>by rw [e] at hi;simp at hi)
 have h1:=hc i _ (List.getElem?_eq_getElem hi)
 exact ⟨b,off,e,hlt,by simpa using h1 0 _ rfl⟩
theorem sl_own {α:Type} {k:Nat} {cells:α → List Value} (hk:∀ a,(cells a).length = k) {w:World} {base n c:Nat} {a:Option Addr} {T:TypeId} {L:List α} (h:w.ownsRow base T k (.slice a n c) n (L.flatMap cells)) (hn:n = L.length):IsSl k cells w.heap.size w a L:=by
 intro hne
 have h0:0 < L.length:=List.length_pos_iff.2 hne
 obtain ⟨g,cap,e,_,hlt,_,_,_,_⟩:=own_rowAt hk h hn h0
 obtain ⟨rfl,rfl⟩:a = some ⟨g,0,none⟩ ∧ c = cap:=by simpa using e
 exact ⟨g,0,rfl,hlt,fun i x hx j u hu=>by
  rw [Nat.zero_add]
  exact own_cell hk h hx hu⟩
theorem strs_own {w:World} {base n c:Nat} {a:Option Addr} {L:List ByteArray} (h:w.ownsRow base 9 1 (.slice a n c) n (L.map .string)) (hn:n = L.length):IsSl 1 strCells w.heap.size w a L:=
 sl_own (cells:=strCells) (fun _=>rfl) (by rw [show L.flatMap strCells = L.map .string from List.map_eq_flatMap.symm];exact h) hn
set_option maxHeartbeats 4000000 in
theorem sameTexts_ok (a b:Option Addr) (ca cb:Nat) (L:List ByteArray) (w:World) (hA:IsSl 1 strCells w.heap.size w a L) (hB:IsSl 1 strCells w.heap.size w b L) (hl:L.length ≤ 1048576) :
 Calls Tryz.prog 9 #[.slice a L.length ca,.slice b L.length cb] w fun e w'=>e = .returned (.bool true) ∧ Below w.heap.size w w':=by
 have HA:=Hd hA
 have HB:=Hd hB
 have hli:(L.length:Int) ≤ 1048576:=by omega
 have hne:((L.length:Int) != (L.length:Int)) = false:=by simp
 clear hA hB
 go_enter Tryz.func9,Tryz.ntmps9
 go_wp2_with fail
 go_loopg [5] L.length (fun m v5 wy=>∃ (i:Nat),i ≤ L.length ∧ i + m = L.length ∧ v5 = .int .i64 (i:Int) ∧ Hid (Below w.heap.size w wy))
 case atStart=>exact ⟨0,by omega,by omega,rfl,Hd (Below.refl _ _)⟩
 case round=>
  obtain ⟨i,hi,him,rfl,HW⟩:=hrel
  by_cases hlt:i < L.length
  ·obtain ⟨b1,o1,ha,hb1,c0⟩:=strs_at HA.out hlt
   obtain ⟨b2,o2,hb,hb2,e0⟩:=strs_at HB.out hlt
   subst ha hb
   rw [← HW.out.cell hb1] at c0
   rw [← HW.out.cell hb2] at e0
   generalize L[i] = x at *
   have t2:∀ z:List UInt8,(z != z) = false:=by simp
   have t4:∀ z:List UInt8,(z == z) = true:=by simp
   have hi0:(0:Int) ≤ (i:Int):=by omega
   have hi1:(i:Int) < (L.length:Int):=by omega
   go_wp2_with fail
   go_quiet (fail)
   go_wp2_with fail
   go_roundg (L.length - (i + 1))
   case measure=>omega
   case rel=>exact ⟨i + 1,by omega,by omega,by rw [Int.natCast_add];rfl,Hd (blw_drewN HW.out _)⟩
  ·obtain rfl:i = L.length:=by omega
   go_wp2_with fail
   go_ret
   exact ⟨rfl,HW.out⟩
end Go.Proofs.YtbbaooeioogijaaGreatDoor
namespace Go.Proofs.YtbbaooeioogijaaGreatDoor
theorem fileN_0 {u:UnU} {fs:FileN} (h:fileN u = .inr fs):(unitE u).2 = 0 ∧ ∃ s,globsN u.globals 0 ⟨[],[]⟩ = .inr s ∧ funcsN u.funcs s = .inr fs ∧ s.funcs = [] ∧ FileOk s:=by
 unfold fileN at h
 split at h
 ·cases h
 ·rename_i h1
  rcases hg:globsN u.globals 0 ⟨[],[]⟩ with f | s1
  ·rw [hg] at h;cases h
  ·rw [hg] at h
   obtain ⟨a,b⟩:=globsN_ok fileOk_nil hg
   exact ⟨by simpa using h1,s1,rfl,h,b,a⟩
end Go.Proofs.YtbbaooeioogijaaGreatDoor
namespace Go.Proofs.YtbbaooeioogijaaGreatDoor
theorem oneF_lenK {s s':FileN} {x:FnU} (h:oneF s x = .inr s'):s'.ents.length ≤ s.ents.length + 1:=by
 unfold oneF at h
 split at h
 ·split at h
  ·cases h
  split at h
  ·cases h
  split at h
  ·cases h
  split at h <;> (cases h;simp)
 ·split at h
  ·cases h
  ·cases h;simp
theorem funcsN_lenK:∀ {L:List FnU} {s s':FileN},funcsN L s = .inr s' → s'.ents.length ≤ s.ents.length + L.length
 | [],s,s',h=>by
   rw [funcsN] at h
   obtain rfl:=Sum.inr.inj h
   exact Nat.le_refl _
 | x :: r,s,s',h=>by
   rw [funcsN] at h
   rcases hx:oneF s x with c | s1
   ·rw [hx] at h;cases h
   ·rw [hx] at h
    have h1:=funcsN_lenK h
    have h2:=oneF_lenK hx
    rw [List.length_cons]
    omega
theorem globsN_lenK:∀ {L:List GlU} {i:Nat} {s s':FileN},globsN L i s = .inr s' → s'.ents.length ≤ s.ents.length + L.length
 | [],i,s,s',h=>by
   rw [globsN] at h
   obtain rfl:=Sum.inr.inj h
   exact Nat.le_refl _
 | g :: r,i,s,s',h=>by
   rw [globsN] at h
   split at h
   ·cases h
   ·have h1:=globsN_lenK h
    have e:(s.put g.var.name ⟨1,(i:Int),g.var.type⟩).ents.length = s.ents.length + 1:=by simp [FileN.put]
    rw [e] at h1
    rw [List.length_cons]
    omega
theorem unitE_lens {u:UnU} (h:(unitE u).2 = 0):u.globals.length ≤ 256 ∧ u.funcs.length ≤ 256:=by
 unfold unitE at h
 split at h
 ·exact absurd h (by decide)
 ·omega
theorem file_lenK {u:UnU} {fs:FileN} (h:fileN u = .inr fs):fs.ents.length ≤ 512:=by
 obtain ⟨h0,s,h1,h2,_,_⟩:=fileN_0 h
 obtain ⟨l1,l2⟩:=unitE_lens h0
 have a1:=globsN_lenK h1
 have a2:=funcsN_lenK h2
 simp only [List.length_nil] at a1
 omega
end Go.Proofs.YtbbaooeioogijaaGreatDoor
namespace Go.Proofs.YtbbaooeioogijaaGreatDoor
open Go.RowKit Go.Maps
def entsU (u:UnU):List (ByteArray × Bnd):=match fileN u with
 | .inl _=>[]
 | .inr s=>s.ents
def fnsN (u:UnU):List FnU:=match fileN u with
 | .inl _=>[]
 | .inr s=>s.funcs
def fltU (u:UnU):Int × Int:=match fileN u with
 | .inl p=>p
 | .inr _=>(0,0)
theorem entsU_len (u:UnU):(entsU u).length ≤ 512:=by
 unfold entsU
 rcases h:fileN u with p | s
 ·exact Nat.zero_le _
 ·exact file_lenK h
theorem fnsN_len (u:UnU):(fnsN u).length ≤ 128:=by
 unfold fnsN
 rcases h:fileN u with p | s
 ·exact Nat.zero_le _
 ·exact fileN_len h
def FileU (u:UnU) (w:World) (e:Ending) (w':World):Prop:=Below w.heap.size w w' ∧ ∃ a1 c1 a2 c2,e = .returned (.tuple #[.slice a1 ((entsU u).map Prod.snd).length c1,.slice a2 ((entsU u).map Prod.fst).length c2,.agg #[.int .i64 (fltU u).1,.int .i64 (fltU u).2]]) ∧ IsSl 3 bndCells w'.heap.size w' a1 ((entsU u).map Prod.snd) ∧ IsSl 1 strCells w'.heap.size w' a2 ((entsU u).map Prod.fst)
theorem fileU_of {u:UnU} {w w':World} {e:Ending} (h:FileEnd u w e w'):FileU u w e w':=by
 obtain ⟨hb,h⟩:=h
 refine ⟨hb,?_⟩
 unfold entsU fltU
 rcases hf:fileN u with p | s
 ·rw [hf] at h
  exact ⟨none,0,none,0,h,fun h=>absurd rfl h,fun h=>absurd rfl h⟩
 ·rw [hf] at h
  obtain ⟨sv,av,he,h1,h2⟩:=h
  obtain ⟨a1,c1,rfl⟩:=own_slice h1
  obtain ⟨a2,c2,rfl⟩:=own_slice h2
  refine ⟨a1,c1,a2,c2,by rw [he];simp only [List.length_map],?_,?_⟩
  ·exact sl_own (k:=3) (cells:=bndCells) (L:=s.ents.map Prod.snd) bnC_len (by rw [List.flatMap_map];exact h1) (by rw [List.length_map])
  ·exact strs_own (L:=s.ents.map Prod.fst) (by rw [List.map_map];exact h2) (by rw [List.length_map])
def FnsU1 (u:UnU) (w:World) (e:Ending) (w':World):Prop:=Below w.heap.size w w' ∧ ∃ a c Q,e = .returned (.tuple #[.slice a Q.length c,.agg #[.int .i64 (fltU u).1,.int .i64 (fltU u).2]]) ∧ FnsOwn w.heap.size w' (.slice a Q.length c) Q ∧ Q.map Prod.fst = fnsN u
theorem fnsU1_of {u:UnU} {w w':World} {e:Ending} (h:FuncsEnd u w e w'):FnsU1 u w e w':=by
 obtain ⟨hb,h⟩:=h
 refine ⟨hb,?_⟩
 unfold fnsN fltU
 rcases hf:fileN u with p | s
 ·rw [hf] at h
  exact ⟨none,0,[],h,fnsOwn_nil _ _,rfl⟩
 ·rw [hf] at h
  obtain ⟨v,Q,he,h1,h2⟩:=h
  obtain ⟨a,c,rfl⟩:=own_slice h1.1
  exact ⟨a,c,Q,he,h1,h2⟩
def FnsU2 (u:UnU) (w:World) (e:Ending) (w':World):Prop:=Below w.heap.size w w' ∧ ∃ a c Q M,e = .returned (.tuple #[.slice a Q.length c,.agg #[.int .i64 (fltU u).1,.int .i64 (fltU u).2]]) ∧ w.heap.size ≤ M ∧ FnsC M w' (.slice a Q.length c) Q ∧ Q.map Prod.fst = fnsN u
theorem fnsU2_of {u:UnU} {w w':World} {e:Ending} (h:RFnsEnd u w e w'):FnsU2 u w e w':=by
 obtain ⟨hb,h⟩:=h
 refine ⟨hb,?_⟩
 unfold fnsN fltU
 rcases hf:fileN u with p | s
 ·rw [hf] at h
  exact ⟨none,0,[],w.heap.size,h,Nat.le_refl _,⟨World.ownsRow_nil _ _ _ _,(fun q h=>by cases h),List.Pairwise.nil⟩,rfl⟩
 ·rw [hf] at h
  obtain ⟨v,Q,M,he,hM,h1,h2⟩:=h
  obtain ⟨a,c,rfl⟩:=own_slice h1.1
  exact ⟨a,c,Q,M,he,hM,h1,h2⟩
theorem FnsOwn.is {B:Nat} {w:World} {v:Value} {Q:List (FnU × Value × Value)} (h:FnsOwn B w v Q) (hz:Q.length ≤ 128):IsFnsU w.heap.size w v (Q.map Prod.fst):=by
 obtain ⟨a,cap,e,h1,h2,hs,hn⟩:=own_slU fnU_len h.1 rfl
 exact ⟨a,cap,Q,by rw [List.length_map];exact e,⟨by rw [List.length_map];omega,by rw [List.length_map];exact h1,h2,fun e=>by rw [List.length_map];exact hn e⟩,rfl,hs.sl (fun b hb=>hb.2.2),fun q hq=>(h.2 q hq).is (fun b hb=>hb.2.1)⟩
structure XAt (B:Nat) (w:World) (g:Nat) (Q:List (FnU × Value × Value)):Prop where
 row:∀ (i:Nat) (hi:i < Q.length),w.cell? ⟨g,i * 5 + 4,none⟩ = some Q[i].2.2
 body:∀ (i:Nat) (hi:i < Q.length),Q[i].1.body ≠ [] → ∃ b off c,Q[i].2.2 = .slice (some ⟨b,off,none⟩) Q[i].1.body.length c ∧ B ≤ b ∧ b ≠ g ∧ (∀ j,w.frozen? ⟨b,j,none⟩ = false) ∧ ∀ (k j:Nat),k < Q[i].1.body.length → j < 6 → (w.cell? ⟨b,off + k * 6 + j,none⟩).isSome = true
theorem some_set {w:World} {a a':Addr} {v:Value} (h:(w.cell? a').isSome = true):((w.setCell a v).cell? a').isSome = true:=by
 by_cases e:a = a'
 ·subst e
  rw [World.cell?_setCell_same' _ _ _ h]
  rfl
 ·rw [World.cell?_setCell_other _ _ _ _ e]
  exact h
theorem XAt.set {B g:Nat} {w:World} {Q:List (FnU × Value × Value)} (h:XAt B w g Q) (a:Addr) (v:Value) (ha:a.block ≠ g):XAt B (w.setCell a v) g Q:=
 ⟨fun i hi=>by rw [World.cell?_setCell_far _ _ _ _ ha];exact h.row i hi,fun i hi hne=>by
   obtain ⟨b,off,c,h1,h2,h3,h4,h5⟩:=h.body i hi hne
   exact ⟨b,off,c,h1,h2,h3,fun j=>by rw [World.frozen?_setCell];exact h4 j,fun k j hk hj=>some_set (h5 k j hk hj)⟩⟩
theorem xAt_of {B g c:Nat} {w:World} {Q:List (FnU × Value × Value)} (h:FnsOwn B w (.slice (some ⟨g,0,none⟩) Q.length c) Q):XAt B w g Q:=by
 refine ⟨fun i hi=>own_cell fnU_len h.1 (List.getElem?_eq_getElem hi) (j:=4) rfl,fun i hi hne=>?_⟩
 have hq:=h.2 _ (List.getElem_mem hi)
 obtain ⟨b,off,c2,h1,⟨h2,h3,h4⟩,h5⟩:=hq.free hne
 obtain ⟨a3,c3,e3,_,hs,_⟩:=hq.body
 rw [e3] at h1
 simp only [Value.slice.injEq] at h1
 obtain ⟨rfl,_,rfl⟩:=h1
 obtain ⟨b',off',e4,_,hc⟩:=hs hne
 simp only [Option.some.injEq,Addr.mk.injEq,and_true] at e4
 obtain ⟨rfl,rfl⟩:=e4
 refine ⟨b,off,c3,e3,h2,fun e=>h4 (by rw [e];rfl),h5,fun k j hk hj=>?_⟩
 have hl:j < (ndCells (Q[i].1.body[k]'hk)).length:=hj
 rw [hc k _ (List.getElem?_eq_getElem hk) j _ (List.getElem?_eq_getElem hl)]
 rfl
end Go.Proofs.YtbbaooeioogijaaGreatDoor
namespace Go.Proofs.YtbbaooeioogijaaGreatDoor
open Go.RowKit
def likeNd (places:Bool) (x y:Nd):Prop:=x.kind = y.kind ∧ x.n = y.n ∧ x.int = y.int ∧ x.text = y.text ∧ x.type = y.type ∧ (places = true → x.at_ = y.at_)
theorem six_blockL {w:World} {b:Nat} {a0 a1 a2 a3 a4 a5:Value} {T:TypeId} (h:w.heap[b]? = some (.cells #[a0,a1,a2,a3,a4,a5] T (0,0))) :
 (w.cell? ⟨b,0,none⟩ = some a0 ∧ w.cell? ⟨b,1,none⟩ = some a1 ∧ w.cell? ⟨b,2,none⟩ = some a2 ∧ w.cell? ⟨b,3,none⟩ = some a3 ∧ w.cell? ⟨b,4,none⟩ = some a4 ∧ w.cell? ⟨b,5,none⟩ = some a5) ∧ ∀ j,w.frozen? ⟨b,j,none⟩ = false:=by
 refine ⟨⟨?_,?_,?_,?_,?_,?_⟩,fun j=>?_⟩ <;> simp [World.cell?,World.frozen?,h]
theorem two_newL (w:World) (o0 o1:Obj):((w.alloc o0).alloc o1).drew.heap[w.heap.size]? = some o0 ∧ ((w.alloc o0).alloc o1).drew.heap[w.heap.size + 1]? = some o1 ∧ Below w.heap.size w ((w.alloc o0).alloc o1).drew:=by
 have h1:=heap_alloc_new (w.alloc o0) o1
 simp only [World.size_alloc] at h1
 exact ⟨((ba1 (w.alloc o0) o1).block _ (by simp)).trans (heap_alloc_new w o0),h1,((ba1 w o0).trans ((ba1 _ o1).mono (ba1 w o0).size)).drew⟩
theorem set_two_L {wc:World} {b:Nat} {a0 a1 a2 a3 a4 a5:Value} {T:TypeId} (h:wc.heap[b]? = some (.cells #[a0,a1,a2,a3,a4,a5] T (0,0))) (v:Value):(wc.setCell ⟨b,2,none⟩ v).heap[b]? = some (.cells #[a0,a1,v,a3,a4,a5] T (0,0)):=by
 simp [World.setCell,Array.getElem?_modify,h]
theorem cell_sameL {w w':World} {b:Nat} (h:w'.heap[b]? = w.heap[b]?) (j:Nat):w'.cell? ⟨b,j,none⟩ = w.cell? ⟨b,j,none⟩:=by
 unfold World.cell?
 simp only [h]
set_option maxRecDepth 100000 in
set_option maxHeartbeats 8000000 in
theorem like_ok (a b:Option Addr) (ca cb:Nat) (L M:List Nd) (places:Bool) (w:World) (hA:IsNds w.heap.size w a L) (hB:IsNds w.heap.size w b M) (hl:L.length * 64 ≤ 140737488351232) (hlm:M.length = L.length) (hs:∀ i (h:i < L.length) (h':i < M.length),likeNd places L[i] M[i]) :
 Calls Tryz.prog 27 #[.slice a L.length ca,.slice b M.length cb,.bool places] w fun e w'=>e = .returned (.bool true) ∧ Below w.heap.size w w':=by
 have HA:=Hd hA
 have HB:=Hd hB
 have HS:=Hd hs
 have HLM:=Hd hlm
 have hli:(L.length:Int) ≤ 2199023255488:=by omega
 have hne:((L.length:Int) != (L.length:Int)) = false:=by simp
 rw [hlm]
 clear hA hB hs hlm
 go_enter Tryz.func27,Tryz.ntmps27
 go_wp2_with fail
 go_loopg [7] L.length (fun m v7 wy=>∃ (i:Nat),i ≤ L.length ∧ i + m = L.length ∧ v7 = .int .i64 (i:Int) ∧ Hid (Below w.heap.size w wy))
 case atStart=>exact ⟨0,by omega,by omega,rfl,Hd (Below.refl _ _)⟩
 case round=>
  obtain ⟨i,hi,him,rfl,HW⟩:=hrel
  by_cases hlt:i < L.length
  ·have hltm:i < M.length:=by rw [HLM.out];exact hlt
   obtain ⟨b1,o1,ha,hb1,c0,c1,c2,c3,c4,c5⟩:=nds_at HA.out hlt
   obtain ⟨b2,o2,hb,hb2,e0,e1,e2,e3,e4,e5⟩:=nds_at HB.out hltm
   subst ha hb
   rw [← HW.out.cell hb1] at c0 c1 c2 c3 c4 c5
   rw [← HW.out.cell hb2] at e0 e1 e2 e3 e4 e5
   have hss:=HS.out i hlt hltm
   generalize L[i] = x at *
   generalize M[i] = y at *
   obtain ⟨kk,n,p,ii,s,ty⟩:=x
   obtain ⟨kk',n',p',ii',s',ty'⟩:=y
   obtain ⟨s1,s2,s3,s4,s5,s6⟩:=hss
   simp only at c0 c1 c2 c3 c4 c5 e0 e1 e2 e3 e4 e5 s1 s2 s3 s4 s5 s6
   subst s1 s2 s3 s4 s5
   have HS6:=Hd s6
   clear s6
   have hi0:(0:Int) ≤ (i:Int):=by omega
   have hi1:(i:Int) < (L.length:Int):=by omega
   have hl1:b1 < wr.heap.size:=Nat.lt_of_lt_of_le hb1 HW.out.size
   have hl2:b2 < wr.heap.size:=Nat.lt_of_lt_of_le hb2 HW.out.size
   have f1:∀ o k,(wr.alloc o).cell? ⟨b1,k,none⟩ = wr.cell? ⟨b1,k,none⟩:=fun o k=>(ba1 wr o).cell hl1
   have f2:∀ o k,(wr.alloc o).cell? ⟨b2,k,none⟩ = wr.cell? ⟨b2,k,none⟩:=fun o k=>(ba1 wr o).cell hl2
   have f3:∀ o o' k,((wr.alloc o).alloc o').cell? ⟨b1,k,none⟩ = wr.cell? ⟨b1,k,none⟩:=fun o o' k=>((ba1 wr o).trans ((ba1 _ o').mono (ba1 wr o).size)).cell hl1
   have f4:∀ o o' k,((wr.alloc o).alloc o').cell? ⟨b2,k,none⟩ = wr.cell? ⟨b2,k,none⟩:=fun o o' k=>((ba1 wr o).trans ((ba1 _ o').mono (ba1 wr o).size)).cell hl2
   have n1:¬ b1 = wr.heap.size:=by omega
   have n2:¬ b2 = wr.heap.size:=by omega
   have n3:¬ b1 = wr.heap.size + 1:=by omega
   have n4:¬ b2 = wr.heap.size + 1:=by omega
   go_upto_region 6 with fail
   go_cut [8,9] (fun s8 s9 wx=>∃ r1 r2:Nat,s8 = .pointer (some ⟨r1,0,none⟩) ∧ s9 = .pointer (some ⟨r2,0,none⟩) ∧ wr.heap.size ≤ r1 ∧ wr.heap.size ≤ r2 ∧ r1 ≠ r2 ∧ Hid (wx.heap[r1]? = some (.cells #[.int .i64 kk,.int .i64 n,.int .i64 p,.int .i64 ii,.string s,.string ty] 47 (0,0))) ∧ Hid (wx.heap[r2]? = some (.cells #[.int .i64 kk,.int .i64 n,.int .i64 p',.int .i64 ii,.string s,.string ty] 47 (0,0))) ∧ Hid (Below wr.heap.size wr wx))
   case first=>
    go_region
    ·go_wp2_with fail
     go_meet
     case rel=>exact ⟨wr.heap.size,wr.heap.size + 1,rfl,rfl,by omega,by omega,by omega,Hd (two_newL wr _ _).1,Hd (two_newL wr _ _).2.1,Hd (two_newL wr _ _).2.2⟩
    ·go_wp2_with fail
     go_meet
     case rel=>exact ⟨wr.heap.size + 1,wr.heap.size,rfl,rfl,by omega,by omega,by omega,Hd (two_newL wr _ _).2.1,Hd (two_newL wr _ _).1,Hd (two_newL wr _ _).2.2⟩
   case rest=>
    obtain ⟨r1,r2,rfl,rfl,g1,g2,g3,H1,H2,HB3⟩:=hcut
    clear f1 f2 f3 f4 n1 n2 n3 n4 c0 c1 c2 c3 c4 c5 e0 e1 e2 e3 e4 e5
    have t3:∀ z:Int,(z == z) = true:=by simp
    have t4:∀ z:List UInt8,(z == z) = true:=by simp
    obtain ⟨⟨x0,x1,x2,x3,x4,x5⟩,xf⟩:=six_blockL H1.out
    obtain ⟨⟨y0,y1,y2,y3,y4,y5⟩,yf⟩:=six_blockL H2.out
    cases places with
    | true=>
      have hpp:=HS6.out rfl
      subst hpp
      clear xf yf
      go_wp2_with fail
      go_roundg (L.length - (i + 1))
      case measure=>omega
      case rel=>exact ⟨i + 1,by omega,by omega,by rw [Int.natCast_add];rfl,Hd (HW.out.trans (HB3.out.mono HW.out.size))⟩
    | false=>
      have xf2:=xf 2
      have yf2:=yf 2
      have hq1:=set_two_L (wc:=wc) H1.out (.int .i64 0)
      have hq2:=set_two_L (wc:=wc.setCell ⟨r1,2,none⟩ (.int .i64 0)) ((Below.heap_setCell wc ⟨r1,2,none⟩ (.int .i64 0) r2 (show r2 ≠ r1 by omega)).trans H2.out) (.int .i64 0)
      have hq1':=(Below.heap_setCell (wc.setCell ⟨r1,2,none⟩ (.int .i64 0)) ⟨r2,2,none⟩ (.int .i64 0) r1 (show r1 ≠ r2 by omega)).trans hq1
      have HB9:=Hd ((HB3.out.setCell (p:=⟨r1,2,none⟩) g1 (.int .i64 0)).setCell (p:=⟨r2,2,none⟩) g2 (.int .i64 0))
      have hn:∀ o,(wc.setCell ⟨r1,2,none⟩ (.int .i64 0)).cell? ⟨r2,o,none⟩ = wc.cell? ⟨r2,o,none⟩:=fun o=>cell_sameL (Below.heap_setCell _ _ _ _ (show r2 ≠ r1 by omega)) o
      have hg3:¬ r2 = r1:=by omega
      clear xf yf
      go_upto_region 9 with fail
      generalize (wc.setCell ⟨r1,2,none⟩ (.int .i64 0)).setCell ⟨r2,2,none⟩ (.int .i64 0) = w9 at *
      clear hn x0 x1 x2 x3 x4 x5 y0 y1 y2 y3 y4 y5 hq1
      obtain ⟨⟨x0,x1,x2,x3,x4,x5⟩,_⟩:=six_blockL hq1'
      obtain ⟨⟨y0,y1,y2,y3,y4,y5⟩,_⟩:=six_blockL hq2
      clear hq1' hq2
      go_wp2_with fail
      go_roundg (L.length - (i + 1))
      case measure=>omega
      case rel=>exact ⟨i + 1,by omega,by omega,by rw [Int.natCast_add];rfl,Hd (HW.out.trans (HB9.out.mono HW.out.size))⟩
  ·obtain rfl:i = L.length:=by omega
   go_wp2_with fail
   go_ret
   exact ⟨rfl,HW.out⟩
end Go.Proofs.YtbbaooeioogijaaGreatDoor
