/- The names of a file handed out: the program. -/
import Derived.Test.YtbbaooeioogijaaGreatDoorFiled
namespace Go.Proofs.YtbbaooeioogijaaGreatDoor
open Go.RowKit Go.Maps
def FileEnd (u:UnU) (w:World) (e:Ending) (w':World):Prop:=Below w.heap.size w w' ∧ match fileN u with
 | .inl p=>e = .returned (.tuple #[.slice none 0 0,.slice none 0 0,.agg #[.int .i64 p.1,.int .i64 p.2]])
 | .inr s=>∃ sv av,e = .returned (.tuple #[sv,av,.agg #[.int .i64 0,.int .i64 0]]) ∧ w'.ownsRow w.heap.size 78 3 sv s.ents.length (s.ents.flatMap fun e=>bndCells e.2) ∧ w'.ownsRow w.heap.size 9 1 av s.ents.length (s.ents.map fun e=>.string e.1)
theorem globsN_ne:∀ {L:List GlU} {i:Nat} {s:FileN} {p:Int × Int},globsN L i s = .inl p → p.2 ≠ 0
 | [],i,s,p,h=>by cases h
 | g :: r,i,s,p,h=>by
   rw [globsN] at h
   split at h
   ·obtain rfl:=Sum.inl.inj h
    show (6:Int) ≠ 0
    decide
   ·exact globsN_ne h
theorem funcsN_ne:∀ {L:List FnU} {s:FileN} {p:Int × Int},funcsN L s = .inl p → p.2 ≠ 0
 | [],s,p,h=>by cases h
 | g :: r,s,p,h=>by
   rw [funcsN] at h
   split at h
   ·rename_i e
    cases h
    exact oneF_ne e
   ·exact funcsN_ne h
theorem fileN_ne {u:UnU} {p:Int × Int} (h:fileN u = .inl p):p.2 ≠ 0:=by
 unfold fileN at h
 split at h
 ·rename_i h1;cases h;exact h1
 ·split at h
  ·rename_i e;cases h;exact globsN_ne e
  ·exact funcsN_ne h
theorem own_move {w w':World} {A B:Nat} {T:TypeId} {k n:Nat} {v:Value} {xs:List Value} (h:w.ownsRow B T k v n xs) (hA:A ≤ B) (hw:∀ k,B ≤ k → w'.heap[k]? = w.heap[k]?):w'.ownsRow A T k v n xs:=by
 obtain ⟨h1,h2⟩:=h
 refine ⟨h1,?_⟩
 rcases h2 with h2 | ⟨g,cap,cur,e,hb,hg,h3⟩
 ·exact .inl h2
 ·exact .inr ⟨g,cap,cur,e,Nat.le_trans hA hb,(hw g hb).trans hg,h3⟩
theorem FileM.open {A B b mb:Nat} {w:World} {s:FileN} (h:FileM A B w b mb s):∃ sv av:Value,(w.cell? ⟨b,1,none⟩ = some sv ∧ w.cell? ⟨b,2,none⟩ = some av) ∧ ∀ w':World,(∀ k,B ≤ k → w'.heap[k]? = w.heap[k]?) → w'.ownsRow A 78 3 sv s.ents.length (s.ents.flatMap fun e=>bndCells e.2) ∧ w'.ownsRow A 9 1 av s.ents.length (s.ents.map fun e=>.string e.1):=by
 obtain ⟨hA,lv,sv,av,Q,n,hR,_⟩:=h
 exact ⟨sv,av,⟨hR.cells.1.2.1,hR.cells.1.2.2.1⟩,fun w' hw=>⟨own_move hR.sizes hA hw,own_move hR.aligns hA hw⟩⟩
set_option maxRecDepth 100000 in
set_option maxHeartbeats 8000000 in
theorem file11_ok (u:UnU) (vs vg vf:Value) (w:World) (hE:TE w) (hU:IsUn w.heap.size w u vs vg vf) :
 Calls Tryz.prog 6 #[.agg #[vs,vg,vf]] w (FileEnd u w):=by
 obtain ⟨sa,sc,mv,rfl,_⟩:=hU.structs
 obtain ⟨ag,cg,rfl,_⟩:=glsU_len hU.globals
 obtain ⟨af,cf,rfl,_⟩:=fnsU_len hU.funcs
 go_enter Tryz.func6,Tryz.ntmps6
 go_upto_region 1 with fail
 have hb1:=(ba1 w (.cells #[.slice sa u.structs.length sc,.slice ag u.globals.length cg,.slice af u.funcs.length cf] 26)).alloc (ba1 w (.cells #[.slice sa u.structs.length sc,.slice ag u.globals.length cg,.slice af u.funcs.length cf] 26)).size (.cells #[.int .i64 0,.int .i64 0] 32)
 have hxq:((w.alloc (.cells #[.slice sa u.structs.length sc,.slice ag u.globals.length cg,.slice af u.funcs.length cf] 26)).alloc (.cells #[.int .i64 0,.int .i64 0] 32)).heap[w.heap.size]? = some (.cells #[.slice sa u.structs.length sc,.slice ag u.globals.length cg,.slice af u.funcs.length cf] 26 (0,0)):=((ba1 _ _).block _ (lt_of_heap (heap_alloc_new w _))).trans (heap_alloc_new w _)
 have hxr:((w.alloc (.cells #[.slice sa u.structs.length sc,.slice ag u.globals.length cg,.slice af u.funcs.length cf] 26)).alloc (.cells #[.int .i64 0,.int .i64 0] 32)).heap[w.heap.size + 1]? = some (.cells #[.int .i64 0,.int .i64 0] 32 (0,0)):=by
  have:=heap_alloc_new (w.alloc (.cells #[.slice sa u.structs.length sc,.slice ag u.globals.length cg,.slice af u.funcs.length cf] 26)) (.cells #[.int .i64 0,.int .i64 0] 32)
  simpa using this
 generalize (w.alloc (.cells #[.slice sa u.structs.length sc,.slice ag u.globals.length cg,.slice af u.funcs.length cf] 26)).alloc (.cells #[.int .i64 0,.int .i64 0] 32) = w1 at *
 have HR:=Hd (fun w' (h:Below w1.heap.size w1 w')=>two_block ((h.block _ (lt_of_heap hxr)).trans hxr))
 have HB1:=Hd hb1
 have HFd:=Hd (filed11_ok u _ _ _ w1 (hE.below hb1) (hU.go hb1))
 obtain ⟨⟨q0,q1,q2⟩,_⟩:=three_block hxq
 unfold FiledEnd at HFd
 have HX:=Hd hxr
 clear hxq hxr hU hE
 rcases hf:fileN u with p | s
 ·obtain ⟨ux,uc⟩:=p
  rw [hf] at HFd
  simp only at HFd
  have huc:uc ≠ 0:=(fileN_ne hf :)
  have t1:(uc != 0) = true:=by simpa using huc
  go_upto_region 2 with (go_at_call 21;(with_reducible refine HFd.out.mono ?_);rintro e w2 ⟨hb2,rfl⟩;have HB2:=Hd (hb2.alloc hb2.size (.cells #[.int .i64 ux,.int .i64 uc] 32));have HB1':=Hd hb2;clear hb2)
  obtain ⟨⟨d0,d1⟩,fd⟩:=HR.out _ HB2.out
  have fd0:=fd 0
  have fd1:=fd 1
  obtain ⟨⟨y0,y1⟩,_⟩:=two_block (heap_alloc_new w2 (.cells #[.int .i64 ux,.int .i64 uc] 32))
  clear q0 q1 q2
  generalize w2.alloc (.cells #[.int .i64 ux,.int .i64 uc] 32) = w3 at *
  go_wp2_with fail
  go_region_law (fail)
  all_goals
   go_wp2_with fail
   exact bodyPost_ret (v:=.tuple #[.slice none 0 0,.slice none 0 0,.agg #[.int .i64 ux,.int .i64 uc]]) (by simp [results,Tryz.results6,go_sem,d0,d1]) rfl ⟨Below.drew (Below.setCell (Below.setCell (HB1.out.trans (HB2.out.mono HB1.out.size)) (Nat.le_succ _) _) (Nat.le_succ _) _),by rw [hf]⟩
 ·rw [hf] at HFd
  simp only at HFd
  go_upto_region 2 with (go_at_call 21;(with_reducible refine HFd.out.mono ?_);rintro e w2 ⟨hb2,B,b,mb,rfl,hwB,hBw,hm2⟩;have HB2:=Hd (hb2.alloc hb2.size (.cells #[.int .i64 0,.int .i64 0] 32));have HM2:=Hd (hm2.below (ba1 w2 (.cells #[.int .i64 0,.int .i64 0] 32)));clear hb2 hm2 hBw)
  obtain ⟨⟨d0,d1⟩,fd⟩:=HR.out _ HB2.out
  have fd0:=fd 0
  have fd1:=fd 1
  obtain ⟨⟨y0,y1⟩,_⟩:=two_block (heap_alloc_new w2 (.cells #[.int .i64 0,.int .i64 0] 32))
  obtain ⟨sv,av,⟨k1,k2⟩,hsv⟩:=HM2.out.open
  have HSv:=Hd hsv
  have HLo:=Hd (Nat.lt_of_lt_of_le (lt_of_heap (HX.out)) hwB)
  clear q0 q1 q2 hsv
  generalize w2.alloc (.cells #[.int .i64 0,.int .i64 0] 32) = w3 at *
  go_wp2_with fail
  go_region_law (fail)
  all_goals
   go_wp2_with fail
   have hrows:=HSv.out ((w3.setCell ⟨w.heap.size + 1,0,none⟩ (.int .i64 0)).setCell ⟨w.heap.size + 1,1,none⟩ (.int .i64 0)).drew (fun k hk=>by
    have h1:=HLo.out
    have hne:k ≠ w.heap.size + 1:=by omega
    show ((w3.setCell ⟨w.heap.size + 1,0,none⟩ (.int .i64 0)).setCell ⟨w.heap.size + 1,1,none⟩ (.int .i64 0)).heap[k]? = _
    rw [Below.heap_setCell _ _ _ _ hne,Below.heap_setCell _ _ _ _ hne])
   refine bodyPost_ret (v:=.tuple #[sv,av,.agg #[.int .i64 0,.int .i64 0]]) (by simp [results,Tryz.results6,go_sem,d0,d1]) rfl ⟨Below.drew (Below.setCell (Below.setCell (HB1.out.trans (HB2.out.mono HB1.out.size)) (Nat.le_succ _) _) (Nat.le_succ _) _),?_⟩
   rw [hf]
   exact ⟨sv,av,rfl,own_move hrows.1 HB1.out.size (fun _ _=>rfl),own_move hrows.2 HB1.out.size (fun _ _=>rfl)⟩
end Go.Proofs.YtbbaooeioogijaaGreatDoor
