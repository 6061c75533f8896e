/- Words put on a paper: the program. -/
import Derived.Test.YtkokdafkjjcgoaaGreatDoorMg25
namespace Go.Proofs.YtkokdafkjjcgoaaGreatDoor
open Go.RowKit
def PutEnd (pb:Nat) (W:List ByteArray) (w:World) (e:Ending) (w':World):Prop:=e = .returned (.tuple #[]) ∧ PapAt pb W w' ∧ KeepP pb w w'
theorem infoStrP:(Tryz.prog.info? 9).map (fun i=>(i.zero,i.size,i.bytes)) = some (some (.string ⟨#[]⟩),1,16):=by kernel_rfl
set_option maxRecDepth 100000 in
set_option maxHeartbeats 4000000 in
theorem pput_ok (pb:Nat) (W L:List ByteArray) (b off cap:Nat) (w:World) (hP:PapAt pb W w) (hL:∀ j u,(L.map Value.string)[j]? = some u → w.cell? ((⟨b,off,none⟩:Addr).add j) = some u) (h0:0 < L.length) (hn:W.length + L.length ≤ 1000000000000) :
 Calls Tryz.prog 96 #[.pointer (some ⟨pb,0,none⟩),.slice (some ⟨b,off,none⟩) L.length cap] w (PutEnd pb (W ++ L) w):=by
 obtain ⟨v,hb,ho⟩:=hP.box
 have hpl:=hP.lt
 have HO:=Hd ho
 have HB:=Hd hb
 have HL:=Hd hL
 have HC:=Hd (fun w1 (hg:w.grownBy w1 v.ownBlock)=>one_blockP ((hg.block pb hpl (fun e=>by have:=(ho.lt pb e.symm).1;omega)).trans hb))
 have HP:=Hd (fun w1 g cap hg hown hat=>pap_put (L:=L) (w1:=w1) (g:=g) (cap:=cap) hb ho hg hown hat)
 obtain ⟨c0,f0⟩:=one_blockP hb
 obtain ⟨i0,hi,hz0,hz1,hz2⟩:=info_parts infoStrP
 have HI0:=Hd (And.intro hi (And.intro hz0 (And.intro hz1 hz2)))
 clear hi hz0 hz1 hz2 hP hL ho hb
 go_enter Tryz.func96,Tryz.ntmps96
 go_wp2_with (at_builtin;go_loud (refine wpList_append_lies _ rfl _ _ _ rfl (pb + 1) 9 i0 (.string ⟨#[]⟩) 1 16 Tryz.underlying97 HI0.out.1 HI0.out.2.1 HI0.out.2.2.1 HI0.out.2.2.2 rfl (by decide) v W.length (W.map Value.string) rfl HO.out ⟨b,off,none⟩ L.length cap (L.map Value.string) rfl (by simp) HL.out (by simp [Value.oneCell']) h0 (by unfold maxLen;omega) (by omega) (by omega) w.heap.size rfl ?_);intro g c w1 hown hgrow hat hlt;obtain ⟨c1,f1⟩:=HC.out w1 hgrow)
 go_end0
 exact ⟨rfl,HP.out w1 g c hgrow hown hat⟩
theorem one_cellP (w:World) (s:ByteArray) (T:TypeId):∀ j u,([s].map Value.string)[j]? = some u → (w.alloc (.cells #[.string s] T)).cell? ((⟨w.heap.size,0,none⟩:Addr).add j) = some u:=cell_one w _ _
theorem keep_then {pb:Nat} {w w1 w2:World} (hb:Below w.heap.size w w1) (hp:pb < w.heap.size) (hk:KeepP pb w1 w2):KeepP pb w w2:=(KeepP.of_below hb hp).trans hk
theorem putEnd_then {pb:Nat} {W:List ByteArray} {w w1 w2:World} {e:Ending} (h:PutEnd pb W w1 e w2) (hb:Below w.heap.size w w1) (hp:pb < w.heap.size):PutEnd pb W w e w2:=⟨h.1,h.2.1,keep_then hb hp h.2.2⟩
def tokV (x:Tok):Value:=.agg #[.int .i64 x.kind,.int .i64 x.place,.int .i64 x.num,.string x.text]
theorem laid_word {x:Tok} (h:goodB x = true):laidV [x] = .tuple #[.string (wordV x),.int .i64 0]:=by
 unfold laidV
 rw [if_pos (lay_good (by simpa using h))]
 simp [Lib.join,wordV]
theorem alloc_at {w w1:World} {o:Obj} (h:w.alloc o = w1):w1.heap[w.heap.size]? = some o ∧ Below w.heap.size w w1:=by
 subst h
 exact ⟨heap_alloc_new _ _,ba1 _ _⟩
theorem four_blockP {w:World} {b:Nat} {a0 a1 a2 a3:Value} {T:TypeId} (h:w.heap[b]? = some (.cells #[a0,a1,a2,a3] T (0,0))) :
 (w.cell? ⟨b,0,none⟩ = some a0 ∧ w.cell? ⟨b,1,none⟩ = some a1 ∧ w.cell? ⟨b,2,none⟩ = some a2 ∧ w.cell? ⟨b,3,none⟩ = some a3) ∧ ∀ j,w.frozen? ⟨b,j,none⟩ = false:=by
 refine ⟨⟨?_,?_,?_,?_⟩,fun j=>?_⟩ <;> simp [World.cell?,World.frozen?,h]
theorem put1_ok (pb:Nat) (W:List ByteArray) (s:ByteArray) (w:World) (hP:PapAt pb W w) (hn:W.length < 1000000000000) :
 Calls Tryz.prog 96 #[.pointer (some ⟨pb,0,none⟩),.slice (some ⟨w.heap.size,0,none⟩) 1 1] (w.alloc (.cells #[.string s] 9)) (PutEnd pb (W ++ [s]) w):=
 (pput_ok pb W [s] w.heap.size 0 1 _ (hP.below (ba1 _ _)) (one_cellP w s _) (by simp) (by simp;omega)).mono fun _ _ h=>putEnd_then h (ba1 _ _) hP.lt
theorem two_cellP (w:World) (s r:ByteArray) (T:TypeId):∀ j u,([s,r].map Value.string)[j]? = some u → (w.alloc (.cells #[.string s,.string r] T)).cell? ((⟨w.heap.size,0,none⟩:Addr).add j) = some u:=fun j u hu=>by
 have h:=(two_block (heap_alloc_new w (.cells #[.string s,.string r] T))).1
 match j,hu with
 | 0,hu=>obtain rfl:=Option.some.inj hu;exact h.1
 | 1,hu=>obtain rfl:=Option.some.inj hu;exact h.2
theorem put2_ok (pb:Nat) (W:List ByteArray) (s r:ByteArray) (w:World) (hP:PapAt pb W w) (hn:W.length + 1 < 1000000000000) :
 Calls Tryz.prog 96 #[.pointer (some ⟨pb,0,none⟩),.slice (some ⟨w.heap.size,0,none⟩) 2 2] (w.alloc (.cells #[.string s,.string r] 9)) (PutEnd pb (W ++ [s,r]) w):=
 (pput_ok pb W [s,r] w.heap.size 0 2 _ (hP.below (ba1 _ _)) (two_cellP w s r _) (by simp) (by simp;omega)).mono fun _ _ h=>putEnd_then h (ba1 _ _) hP.lt
theorem toks_one {w:World} {b:Nat} {k p n:Int} {s:ByteArray} {T:TypeId} (h:w.heap[b]? = some (.cells #[.int .i64 k,.int .i64 p,.int .i64 n,.string s] T (0,0))):IsToks w.heap.size w (some ⟨b,0,none⟩) [⟨k,p,n,s⟩]:=fun _=>⟨b,0,rfl,lt_of_heap h,fun i t ht=>by
 cases i with
 | zero=>
   obtain rfl:=Option.some.inj ht
   exact (four_blockP h).1
 | succ i=>simp at ht⟩
set_option maxRecDepth 100000 in
set_option maxHeartbeats 4000000 in
theorem token_ok (pb:Nat) (W:List ByteArray) (x:Tok) (w:World) (hP:PapAt pb W w) (hE:EnvB pb w) (hx:goodB x = true) (hn:W.length < 1000000000000) :
 Calls Tryz.prog 95 #[.pointer (some ⟨pb,0,none⟩),tokV x] w (PutEnd pb (W ++ [wordV x]) w):=by
 have hpl:=hP.lt
 have hw:=laid_word hx
 have hok:=good_tok hx
 have HPut:=Hd (fun (w2:World) (hb:Below w.heap.size w w2)=>put1_ok pb W (wordV x) w2 (hP.below hb) hn)
 generalize wordV x = s1 at *
 obtain ⟨k,p,n,s⟩:=x
 have hg:3 < w.heap.size:=by have:=hE.lts;omega
 have HLay:=Hd (fun (w2:World) (b:Nat) (h2:w2.heap[b]? = some (.cells #[.int .i64 k,.int .i64 p,.int .i64 n,.string s] 151 (0,0))) (hb:Below w.heap.size w w2)=>(lexLay_in (some ⟨b,0,none⟩) 1 [⟨k,p,n,s⟩] w2 (toks_one h2) (by simp) (by simpa using hok) (hE.env.keys.below hb) (hE.env.marks.below hb) (hE.pow.below hb hg) (Nat.lt_of_lt_of_le hg hb.size)).mono fun e w' ⟨he,hb'⟩=>(show e = Ending.returned (.tuple #[.string s1,.int .i64 0]) ∧ Below w2.heap.size w2 w' from ⟨he.trans (by rw [hw]),hb'⟩))
 clear hok hw hE hP hx hg
 unfold tokV
 go_enter Tryz.func95,Tryz.ntmps95
 go_upto_region 1 with fail
 generalize hg1:w.alloc _ = w1 at *
 obtain ⟨hx1,hb1⟩:=alloc_at hg1
 obtain ⟨⟨z0,z1,z2,z3⟩,_⟩:=four_blockP hx1
 have HB1:=Hd hb1
 clear hg1 hx1 hb1
 go_upto_region 2 with (go_at_call 138;go_loud (refine (HLay.out _ _ (heap_alloc_new w1 _) (HB1.out.trans ((ba1 _ _).mono HB1.out.size))).mono ?_);rintro e w2 ⟨rfl,hb2⟩;have HB2:=Hd (HB1.out.trans (((ba1 _ _).trans (hb2.mono (ba1 _ _).size)).mono HB1.out.size));clear hb2)
 go_wp2_with (go_at_call 96;(with_reducible refine (HPut.out w2 HB2.out).mono ?_);rintro e w3 ⟨rfl,hp3,hk3⟩)
 go_end0
 exact putEnd_then ⟨rfl,hp3,hk3⟩ HB2.out hpl
theorem declareV_is (s name:ByteArray):∃ c:Int,declareV (tyS s) name = .tuple #[.string (declW s name),.int .i64 c]:=by
 unfold declW declareV
 cases tyS s with
 | none=>exact ⟨2,rfl⟩
 | some t=>
   simp only
   split
   ·exact ⟨0,rfl⟩
   ·exact ⟨2,rfl⟩
theorem tok_lenP (x:Tok):x.cells.length = 4:=rfl
theorem toks_out {w w':World} {s:ByteArray} {e:Ending} (h:Toked w (tokE s) e w') :
 ∃ a cap p x,e = .returned (.tuple #[.slice a (toksE s).length cap,.agg #[.int .i64 p,.int .i64 x]]) ∧ IsSl 4 Tok.cells w'.heap.size w' a (toksE s) ∧ (toksE s ≠ [] → ∀ b off,a = some ⟨b,off,none⟩ → w.heap.size ≤ b) ∧ Below w.heap.size w w':=by
 obtain ⟨h1,h2⟩:=h
 unfold toksE
 cases hr:tokE s with
 | good L=>
   rw [hr] at h1
   obtain ⟨v,rfl,ho⟩:=h1
   obtain ⟨a,cap,rfl,hI,_⟩:=own_sl tok_lenP ho rfl
   refine ⟨a,cap,0,0,rfl,hI,fun _ b off e=>?_,h2⟩
   subst e
   exact (ho.lt b rfl).1
 | bad p x=>
   rw [hr] at h1
   subst h1
   exact ⟨none,0,p,x,rfl,fun h=>absurd rfl h,fun h=>absurd rfl h,h2⟩
theorem EnvB.tp {pb:Nat} {w:World} (h:EnvB pb w) (hp:pb < w.heap.size):TP w:=⟨⟨h.env.keys,h.env.maxl⟩,h.pow,by have:=h.lts;omega⟩
set_option maxRecDepth 100000 in
set_option maxHeartbeats 4000000 in
theorem declared9_ok (pb:Nat) (W:List ByteArray) (s name:ByteArray) (w:World) (hP:PapAt pb W w) (hE:EnvB pb w) (hn:W.length + (declK s name).length < 1000000000000) :
 Calls Tryz.prog 114 #[.pointer (some ⟨pb,0,none⟩),.string s,.string name] w (PutEnd pb (W ++ (declK s name).map wordV) w):=by
 have hpl:=hP.lt
 obtain ⟨c,hc⟩:=declareV_is s name
 have HD:=Hd (show Calls Tryz.prog 116 #[.string s,.string name] w fun e w'=>e = Ending.returned (.tuple #[.string (declW s name),.int .i64 c]) ∧ Below w.heap.size w w' from (declare_ok s name w (hE.tp hpl)).mono fun e w' ⟨h1,h2⟩=>⟨by rw [h1,hc],h2⟩)
 have HT:=Hd (fun w1 (hb:Below w.heap.size w w1)=>(tokens_any (declW s name) w1 (hE.env.below hb)).mono fun e w' h=>toks_out h)
 have hg:=toksE_good (declW s name)
 unfold declK at *
 generalize declW s name = d at *
 generalize toksE d = L at *
 have HP:=Hd hP
 have HE:=Hd hE
 have HG:=Hd hg
 clear hc hP hE hg
 go_enter Tryz.func114,Tryz.ntmps114
 go_upto_region 2 with (first | (go_at_call 116;(with_reducible refine HD.out.mono ?_);rintro e w1 ⟨rfl,hb1⟩;have HB1:=Hd hb1;clear hb1) | (go_at_call 117;(with_reducible refine (HT.out _ HB1.out).mono ?_);rintro e w2 ⟨a,cap,fp,fx,rfl,hI,hf,hb2⟩;have HI:=Hd hI;have HF:=Hd hf;have HB2:=Hd hb2;clear hI hf hb2))
 generalize hg3:w2.alloc _ = w3 at *
 have hb3:=(alloc_at hg3).2
 have hB3:=HB1.out.trans ((HB2.out.trans (hb3.mono HB2.out.size)).mono HB1.out.size)
 have hs3:w2.heap.size ≤ w3.heap.size:=hb3.size
 have HS:=Hd (SlS.new (w':=w3) HP.out.rowOk hpl hB3 ((HI.out.below hb3 (Nat.le_refl _)).mono hs3) (fun hn b off e=>Nat.le_trans HB1.out.size (HF.out hn b off e)))
 have HP3:=Hd (HP.out.below hB3)
 have HK3:=Hd (KeepP.of_below (bn:=pb) hB3 hpl)
 have HE3:=Hd (HE.out.kept hpl HP.out.rowOk HK3.out)
 clear hg3 hb3 hB3 hs3
 go_wp2_with fail
 go_loopg [25] L.length (fun g v wr=>∃ i:Nat,i ≤ L.length ∧ i + g = L.length ∧ v = .int .i64 (i:Int) ∧ Hid (PapAt pb (W ++ (L.take i).map wordV) wr) ∧ Hid (KeepP pb w3 wr))
 case atStart=>exact ⟨0,Nat.zero_le _,by omega,rfl,Hd (by simpa using HP3.out),Hd (KeepP.refl _ _)⟩
 case round=>
  obtain ⟨i,hi,hig,rfl,HPr,HKr⟩:=hrel
  by_cases hlt:i < L.length
  ·have hsl:=HS.out.kept HP3.out.rowOk HKr.out
   obtain ⟨bb,oo,ha,hbl,hcc⟩:=hsl.sl (fun e=>by rw [e] at hlt;simp at hlt)
   subst ha
   have hx:=List.getElem?_eq_getElem hlt
   have c0:=hcc i _ hx 0 _ rfl
   have c1:=hcc i _ hx 1 _ rfl
   have c2:=hcc i _ hx 2 _ rfl
   have c3:=hcc i _ hx 3 _ rfl
   rw [Nat.add_zero] at c0
   have hEr:=HE3.out.kept HP3.out.lt HP3.out.rowOk HKr.out
   have hgi:goodB L[i] = true:=HG.out _ (List.getElem_mem hlt)
   have HTk:=Hd (fun w4 (hb:Below wr.heap.size wr w4)=>token_ok pb (W ++ (L.take i).map wordV) L[i] w4 (HPr.out.below hb) (hEr.kept HPr.out.lt HPr.out.rowOk (KeepP.of_below hb HPr.out.lt)) hgi (by simp;omega))
   rw [show W ++ (L.take i).map wordV ++ [wordV L[i]] = W ++ (L.take (i + 1)).map wordV by rw [List.take_succ_eq_append_getElem hlt,List.map_append,List.append_assoc];rfl] at HTk
   unfold tokV at HTk
   have hprl:=HPr.out.lt
   clear hcc hx hEr hgi hsl
   generalize L[i] = x at *
   obtain ⟨k,p,n,s2⟩:=x
   simp only at c0 c1 c2 c3 HTk
   go_upto_region 5 with fail
   generalize hg4:wr.alloc _ = w4 at *
   obtain ⟨hx4,hb4⟩:=alloc_at hg4
   obtain ⟨⟨z0,z1,z2,z3⟩,_⟩:=four_blockP hx4
   have HB4:=Hd hb4
   clear hg4 hx4 hb4
   go_wp2_with (go_at_call 95;(with_reducible refine (HTk.out w4 HB4.out).mono ?_);rintro e w5 ⟨rfl,hp5,hk5⟩;have HP5:=Hd hp5;have HK5:=Hd (HKr.out.trans (keep_then HB4.out hprl hk5));clear hp5 hk5)
   go_roundg (L.length - (i + 1))
   case measure=>omega
   case rel=>exact ⟨i + 1,by omega,by omega,by rw [Int.natCast_add];rfl,HP5,HK5⟩
  ·obtain rfl:i = L.length:=by omega
   go_wp2_with fail
   go_end0
   refine ⟨rfl,?_,HK3.out.trans HKr.out⟩
   have:=HPr.out
   rwa [List.take_length] at this
end Go.Proofs.YtkokdafkjjcgoaaGreatDoor
namespace Go.Proofs.YtkokdafkjjcgoaaGreatDoor
def sK (k:Int):Prop:=stmtK k = true ∨ k = 22 ∨ k = 33
theorem AllG.at' {l:List Nat} {f:Nat → List Tok} {i:Nat} (h:∀ hi:i < l.length,AllG (f l[i])):AllG (atF l f i):=by
 by_cases hi:i < l.length
 ·rw [atF_is hi];exact h hi
 ·unfold atF
  rw [List.getElem?_eq_none (by omega)]
  exact .nil
theorem may_e {k:Int} (h:k = 20 ∨ k = 32 ∨ k = 22) (i:Nat) (q:Int):mayN k i q = exprK q:=by unfold mayN;rw [if_pos (by omega)]
theorem may_26 (i:Nat) (q:Int):mayN 26 i q = if i = 0 then decide (q = 20 ∨ q = 22 ∨ q = 33) else if i = 3 then stmtK q else exprK q || decide (q = 33):=by rw [mayN,if_neg (by decide),if_pos rfl]
theorem may_21 (i:Nat) (q:Int):mayN 21 i q = (stmtK q || decide (q = 22)):=by rw [mayN,if_neg (by decide),if_neg (by decide),if_pos rfl]
theorem may_25 (i:Nat) (q:Int):mayN 25 i q = if i = 0 then stmtK q else exprK q:=by rw [mayN,if_neg (by decide),if_neg (by decide),if_neg (by decide),if_pos rfl]
theorem may_i {k:Int} (h:k = 23 ∨ k = 24 ∨ k = 27 ∨ k = 28) (i:Nat) (q:Int):mayN k i q = if i = 0 then exprK q else stmtK q:=by
 unfold mayN exprK
 rw [if_neg (by simp;omega),if_neg (by omega),if_neg (by omega),if_neg (by omega),if_pos h]
theorem may_29 (i:Nat) (q:Int):mayN 29 i q = stmtK q:=by rw [mayN,if_neg (by decide),if_neg (by decide),if_neg (by decide),if_neg (by decide),if_neg (by decide)]
theorem stmtK_iff {k:Int}:stmtK k = true ↔ 20 ≤ k ∧ k ≤ 32 ∧ k ≠ 22:=by unfold stmtK;rw [decide_eq_true_iff]
structure StParts (t:List Nd) (fr:List Nat) (k:Nat):Prop where
 low:∀ p ∈ partsAt t fr k,p < k
 ex:∀ i (hi:i < (partsAt t fr k).length),(kindAt t k = 20 ∨ kindAt t k = 32 ∨ kindAt t k = 22 ∨ ((kindAt t k = 23 ∨ kindAt t k = 24 ∨ kindAt t k = 27 ∨ kindAt t k = 28) ∧ i = 0) ∨ (kindAt t k = 25 ∧ i = 1)) → exprK (kindAt t (partsAt t fr k)[i]) = true
 per:∀ i (hi:i < (partsAt t fr k).length),kindAt t k = 26 → (i = 1 ∨ i = 2) → exprK (kindAt t (partsAt t fr k)[i]) = true ∨ kindAt t (partsAt t fr k)[i] = 33
 st:∀ i (hi:i < (partsAt t fr k).length),(kindAt t k = 21 ∨ kindAt t k = 29 ∨ ((kindAt t k = 23 ∨ kindAt t k = 24 ∨ kindAt t k = 27 ∨ kindAt t k = 28) ∧ 0 < i) ∨ (kindAt t k = 25 ∧ i = 0) ∨ (kindAt t k = 26 ∧ (i = 0 ∨ i = 3))) → sK (kindAt t (partsAt t fr k)[i])
theorem Right9.st {t:List Nd} {fr:List Nat} (h:Right9 t fr) {k:Nat} (hk:k < t.length):StParts t fr k:=by
 refine ⟨fun p hp=>h.given.formed.parts_lt hp,fun i hi hc=>?_,fun i hi hc hj=>?_,fun i hi hc=>?_⟩
 ·have hm:=h.may hk i hi
  rcases hc with e | e | e | ⟨e,rfl⟩ | ⟨e,rfl⟩
  ·rwa [may_e (.inl e)] at hm
  ·rwa [may_e (.inr (.inl e))] at hm
  ·rwa [may_e (.inr (.inr e))] at hm
  ·rwa [may_i e,if_pos rfl] at hm
  ·rwa [e,may_25,if_neg (by decide)] at hm
 ·have hm:=h.may hk i hi
  rw [hc,may_26,if_neg (by omega),if_neg (by omega),Bool.or_eq_true,decide_eq_true_iff] at hm
  exact hm
 ·have hm:=h.may hk i hi
  rcases hc with e | e | ⟨e,h0⟩ | ⟨e,rfl⟩ | ⟨e,h0⟩
  ·rw [e,may_21,Bool.or_eq_true,decide_eq_true_iff] at hm
   exact hm.imp id .inl
  ·rw [e,may_29] at hm
   exact .inl hm
  ·rw [may_i e,if_neg (by omega)] at hm
   exact .inl hm
  ·rw [e,may_25,if_pos rfl] at hm
   exact .inl hm
  ·rw [e,may_26] at hm
   rcases h0 with rfl | rfl
   ·rw [if_pos rfl,decide_eq_true_iff] at hm
    rcases hm with e | e | e
    ·exact .inl (stmtK_iff.2 (by omega))
    ·exact .inr (.inl e)
    ·exact .inr (.inr e)
   ·rw [if_neg (by decide),if_pos rfl] at hm
    exact .inl hm
theorem partN_good {t:List Nd} {fr:List Nat} (h:Right9 t fr) {due:Int} {p:Nat} (hp:p < t.length) (he:exprK (kindAt t p) = true):AllG (partN t fr due p):=partF_good (exprN_good h (p + 1) p (Nat.lt_succ_self p) hp he)
theorem askF_good {l:List Nat} {f:Nat → List Tok} {word:ByteArray} {i:Nat} (hw:isKeyB word = true) (h:AllG (atF l f i)):AllG (askF l f word i):=.cons (good_K hw) (.cons (good_M (by decide)) (.app h (.cons (good_M (by decide)) .nil)))
theorem stmtN_good {t:List Nd} {fr:List Nat} (h:Right9 t fr):∀ (m k:Nat),k < m → k < t.length → sK (kindAt t k) → AllG (stmtN t fr k)
 | 0,k,hm,_,_=>by omega
 | m + 1,k,hm,hk,hs=>by
   have hS:=h.st hk
   rw [stmtN_eq h.given.formed]
   have hkd:=ndAt_kind t k
   have ha:∀ due i,(kindAt t k = 20 ∨ kindAt t k = 32 ∨ kindAt t k = 22 ∨ ((kindAt t k = 23 ∨ kindAt t k = 24 ∨ kindAt t k = 27 ∨ kindAt t k = 28) ∧ i = 0) ∨ (kindAt t k = 25 ∧ i = 1)) → AllG (atF (partsAt t fr k) (partN t fr due) i):=fun due i hc=>.at' fun hi=>by
    have:=hS.low _ (List.getElem_mem hi)
    exact partN_good h (by omega) (hS.ex i hi hc)
   have hp:∀ i,kindAt t k = 26 → (i = 1 ∨ i = 2) → AllG (atF (partsAt t fr k) (perF t (partN t fr 1)) i):=fun i hc hj=>.at' fun hi=>by
    have:=hS.low _ (List.getElem_mem hi)
    refine .ite (fun _=>.nil) fun e=>?_
    rcases hS.per i hi hc hj with h1 | h1
    ·exact partN_good h (by omega) h1
    ·exact absurd h1 e
   have hst:∀ i,(kindAt t k = 21 ∨ kindAt t k = 29 ∨ ((kindAt t k = 23 ∨ kindAt t k = 24 ∨ kindAt t k = 27 ∨ kindAt t k = 28) ∧ 0 < i) ∨ (kindAt t k = 25 ∧ i = 0) ∨ (kindAt t k = 26 ∧ (i = 0 ∨ i = 3))) → AllG (atF (partsAt t fr k) (stmtN t fr) i):=fun i hc=>.at' fun hi=>by
    have:=hS.low _ (List.getElem_mem hi)
    exact stmtN_good h m _ (by omega) (by omega) (hS.st i hi hc)
   have hx:kindAt t k = 20 → AllG (atF (partsAt t fr k) (perF t (partN t fr 1)) 0):=fun hc=>.at' fun hi=>by
    have:=hS.low _ (List.getElem_mem hi)
    exact .ite (fun _=>.nil) fun e=>partN_good h (by omega) (hS.ex 0 hi (.inl hc))
   have hl:kindAt t k = 22 → (partsAt t fr k).length = (partsAt t fr k).length:=fun _=>rfl
   rw [hkd] at hs ha hp hst hx
   clear hS hl hkd
   generalize partsAt t fr k = l at *
   generalize ndAt t k = x at *
   unfold stmtB
   refine .ite (fun e=>.cons (good_M (by decide)) .nil) fun _=>?_
   refine .ite (fun e=>.app (hx e) (.cons (good_M (by decide)) .nil)) fun _=>?_
   refine .ite (fun e=>.cons (good_M (by decide)) (.app (.flat fun i _=>hst i (.inl e)) (.cons (good_M (by decide)) .nil))) fun _=>?_
   refine .ite (fun e=>.app (.ite (fun _=>.cons (good_K (by decide)) .nil) fun _=>.nil) (.app (declK_good _ _) (.app (.ite (fun _=>.cons (good_M (by decide)) (ha _ _ (by omega))) fun _=>.nil) (.cons (good_M (by decide)) .nil)))) fun _=>?_
   refine .ite (fun e=>.app (askF_good (by decide) (ha _ _ (by omega))) (.app (hst _ (by omega)) (.ite (fun _=>.cons (good_K (by decide)) (hst _ (by omega))) fun _=>.nil))) fun _=>?_
   refine .ite (fun e=>.app (askF_good (by decide) (ha _ _ (by omega))) (hst _ (by omega))) fun _=>?_
   refine .ite (fun e=>.app (askF_good (by decide) (ha _ _ (by omega))) (hst _ (by omega))) fun _=>?_
   refine .ite (fun e=>.cons (good_K (by decide)) (.app (hst _ (by omega)) (.app (askF_good (by decide) (ha _ _ (by omega))) (.cons (good_M (by decide)) .nil)))) fun _=>?_
   refine .ite (fun e=>.cons (good_K (by decide)) (.cons (good_M (by decide)) (.app (hst _ (by omega)) (.app (hp _ e (.inl rfl)) (.cons (good_M (by decide)) (.app (hp _ e (.inr rfl)) (.cons (good_M (by decide)) (hst _ (by omega))))))))) fun _=>?_
   refine .ite (fun e=>.cons (good_K (by decide)) (.app (ha _ _ (by omega)) (.cons (good_M (by decide)) (hst _ (by omega))))) fun _=>?_
   refine .ite (fun e=>.cons (good_K (by decide)) (.cons (good_M (by decide)) (hst _ (by omega)))) fun _=>?_
   refine .ite (fun e=>.cons (good_K (by decide)) (.cons (good_M (by decide)) .nil)) fun _=>?_
   refine .ite (fun e=>.cons (good_K (by decide)) (.cons (good_M (by decide)) .nil)) fun _=>?_
   have h32:x.kind = 32:=by
    rcases hs with e | e | e
    ·have:=stmtK_iff.1 e;omega
    ·omega
    ·omega
   exact .cons (good_K (by decide)) (.app (ha _ _ (by omega)) (.cons (good_M (by decide)) .nil))
theorem stmtB_len {t:List Nd} {l:List Nat} {f:Int → Nat → List Tok} {e:Nat → List Tok} {g:Nat → Nat} {D:Nat} (x:Nd) (he:∀ p ∈ l,(e p).length ≤ g p) (hf:∀ due,∀ p ∈ l,(f due p).length ≤ g p) (hD:∀ s n,(declK s n).length ≤ D):(stmtB t l f e x).length ≤ D + 6 + (l.map g).sum:=by
 have h1:∀ due i,(atF l (f due) i).length ≤ (l.map g)[i]?.getD 0:=fun due i=>atF_len (hf due) i
 have h2:∀ i,(atF l e i).length ≤ (l.map g)[i]?.getD 0:=fun i=>atF_len he i
 have h3:∀ i,(atF l (perF t (f 1)) i).length ≤ (l.map g)[i]?.getD 0:=fun i=>atF_len (fun p hp=>by
  unfold perF
  split
  ·exact Nat.zero_le _
  ·exact hf 1 p hp) i
 have h4:=get4_sum (l.map g)
 have h5:=hD x.type x.text
 have h6:((List.range l.length).flatMap (atF l e)).length ≤ (l.map g).sum:=by
  have:=range_get (l.map g)
  rw [List.length_map] at this
  rw [← this]
  exact flatMap_le fun i _=>h2 i
 have a0:=h1 1 0
 have a1:=h1 1 1
 have a2:=h1 2 0
 have a3:=h1 3 0
 have b0:=h2 0
 have b1:=h2 1
 have b2:=h2 2
 have b3:=h2 3
 have c0:=h3 0
 have c1:=h3 1
 have c2:=h3 2
 have hv:(if x.int = 1 then [tkK ⟨#[118,111,108,97,116,105,108,101]⟩] else []).length ≤ 1:=ite_le (by simp) (by simp)
 have hi:(if 0 < l.length then tkM ⟨#[61]⟩ :: atF l (f 2) 0 else []).length ≤ 1 + (l.map g)[0]?.getD 0:=ite_le (by simp only [List.length_cons];omega) (by simp)
 have hj:(if l.length = 3 then tkK ⟨#[101,108,115,101]⟩ :: atF l e 2 else []).length ≤ 1 + (l.map g)[2]?.getD 0:=ite_le (by simp only [List.length_cons];omega) (by simp)
 unfold stmtB askF
 repeat' refine ite_le ?_ ?_
 all_goals
  simp only [List.length_append,List.length_cons,List.length_nil] at hv hi hj ⊢
  omega
theorem stmtN_len {t:List Nd} {fr:List Nat} (h:Right9 t fr):∀ (m k:Nat),k < m → k < t.length → (stmtN t fr k).length ≤ 16392 * (k + 1 - fr.getD k 0)
 | 0,k,hm,_=>by omega
 | m + 1,k,hm,hk=>by
   have hx:=List.getElem?_eq_getElem hk
   obtain ⟨_,hbk,hle⟩:=h.given.formed.node k _ hx
   have h1:=stmtB_len (t:=t) (l:=partsAt t fr k) (f:=partN t fr) (e:=stmtN t fr) (g:=fun p=>16392 * (p + 1 - fr.getD p 0)) (D:=16384) (ndAt t k)
    (fun p hp=>by have:=h.given.formed.parts_lt hp;exact stmtN_len h m p (by omega) (by omega))
    (fun due p hp=>by
      have:=h.given.formed.parts_lt hp
      have h2:=exprN_len h (p + 1) p (Nat.lt_succ_self p) (by omega)
      have h3:=partF_len t (exprN t fr) due p
      show (partF t (exprN t fr) due p).length ≤ _
      omega) (fun s n=>toksE_len _)
   rw [stmtN_eq h.given.formed]
   rw [sum_mul,partsAt_is hx,(back_sum hbk).2,start_of h.begins hx] at h1
   rw [partsAt_is hx]
   have:16392 * (k + 1 - fr.getD k 0) = 16392 * (k - fr.getD k 0) + 16392:=by
    rw [← Nat.mul_succ];congr 1;omega
   omega
end Go.Proofs.YtkokdafkjjcgoaaGreatDoor
namespace Go.Proofs.YtkokdafkjjcgoaaGreatDoor
open Go.RowKit
abbrev prV (pb:Nat) (a:Option Addr) (n cap:Nat) (b:Option Addr) (m capb:Nat):Value:=.agg #[.pointer (some ⟨pb,0,none⟩),.slice a n cap,.slice b m capb]
structure PrOk (pb:Nat) (a:Option Addr) (t:List Nd) (b:Option Addr) (fr:List Nat) (w:World):Prop where
 env:EnvB pb w
 nds:SlS 6 ndCells pb w a t
 nats:SlS 1 natCells pb w b fr
theorem PrOk.kept {pb:Nat} {a b:Option Addr} {t:List Nd} {fr:List Nat} {w w':World} (h:PrOk pb a t b fr w) (hp:pb < w.heap.size) (hr:RowOk pb w) (hk:KeepP pb w w'):PrOk pb a t b fr w':=⟨h.env.kept hp hr hk,h.nds.kept hr hk,h.nats.kept hr hk⟩
structure PrSt (pb:Nat) (a:Option Addr) (cap:Nat) (t:List Nd) (b:Option Addr) (capb:Nat) (fr:List Nat) (bx:Nat) (w0:World) (W:List ByteArray) (w:World):Prop where
 pap:PapAt pb W w
 ok:PrOk pb a t b fr w
 box:w.heap[bx]? = some (.cells #[.pointer (some ⟨pb,0,none⟩),.slice a t.length cap,.slice b fr.length capb] 101 (0,0))
 safe:SafeB pb w bx
 keep:KeepP pb w0 w
section
variable {pb:Nat} {a b:Option Addr} {cap capb:Nat} {t:List Nd} {fr:List Nat} {bx:Nat} {w0 w w':World} {W W':List ByteArray}
theorem PrSt.put {e:Ending} (h:PrSt pb a cap t b capb fr bx w0 W w) (h':PutEnd pb W' w e w'):PrSt pb a cap t b capb fr bx w0 W' w':=
 ⟨h'.2.1,h.ok.kept h.pap.lt h.pap.rowOk h'.2.2,h.safe.obj h.pap.rowOk h'.2.2 h.box,h.safe.kept h.pap.rowOk h'.2.2,h.keep.trans h'.2.2⟩
theorem PrSt.below (h:PrSt pb a cap t b capb fr bx w0 W w) (hb:Below w.heap.size w w'):PrSt pb a cap t b capb fr bx w0 W w':=
 have hk:=KeepP.of_below (bn:=pb) hb h.pap.lt
 ⟨h.pap.below hb,h.ok.kept h.pap.lt h.pap.rowOk hk,h.safe.obj h.pap.rowOk hk h.box,h.safe.kept h.pap.rowOk hk,h.keep.trans hk⟩
theorem PrSt.end_ (h:PrSt pb a cap t b capb fr bx w0 W w):PutEnd pb W w0 (.returned (.tuple #[])) w:=⟨rfl,h.pap,h.keep⟩
theorem three_blockP {w:World} {b:Nat} {a0 a1 a2:Value} {T:TypeId} (h:w.heap[b]? = some (.cells #[a0,a1,a2] T (0,0))) :
 (w.cell? ⟨b,0,none⟩ = some a0 ∧ w.cell? ⟨b,1,none⟩ = some a1 ∧ w.cell? ⟨b,2,none⟩ = some a2) ∧ ∀ j,w.frozen? ⟨b,j,none⟩ = false:=by
 refine ⟨⟨?_,?_,?_⟩,fun j=>?_⟩ <;> simp [World.cell?,World.frozen?,h]
theorem PrSt.start {w1:World} (hP:PapAt pb W w) (hO:PrOk pb a t b fr w) (h:w.alloc (.cells #[.pointer (some ⟨pb,0,none⟩),.slice a t.length cap,.slice b fr.length capb] 101) = w1):PrSt pb a cap t b capb fr w.heap.size w W w1:=by
 obtain ⟨hx,hb⟩:=alloc_at h
 have hk:=KeepP.of_below (bn:=pb) hb hP.lt
 exact ⟨hP.below hb,hO.kept hP.lt hP.rowOk hk,hx,.new hP.rowOk hP.lt hb (Nat.le_refl _) (lt_of_heap hx),hk⟩
end
theorem exprKinds {k:Int} (h:exprK k = true):k = 1 ∨ k = 2 ∨ k = 3 ∨ k = 4 ∨ k = 5 ∨ k = 6 ∨ k = 7 ∨ k = 8 ∨ k = 9 ∨ k = 10 ∨ k = 11 ∨ k = 12 ∨ k = 13 ∨ k = 14 ∨ k = 15 ∨ k = 16 ∨ k = 17:=by
 unfold exprK at h
 rw [decide_eq_true_iff] at h
 omega
set_option maxHeartbeats 8000000 in
theorem levelOf_ok (x:Nd) (w:World) (h:exprK x.kind = true):Calls Tryz.prog 141 #[ndV x] w fun e w'=>e = .returned (.int .i64 (lvN x)) ∧ Below w.heap.size w w':=by
 obtain ⟨k,n,p,i,s,y⟩:=x
 have HL:=Hd (fun w=>level_ok s w)
 have hx:=heap_alloc_new w (ndObj ⟨k,n,p,i,s,y⟩)
 have hb:=ba1 w (ndObj ⟨k,n,p,i,s,y⟩)
 unfold lvN
 simp only at h ⊢
 generalize levelN s = lv at *
 rcases exprKinds h with rfl | rfl | rfl | rfl | rfl | rfl | rfl | rfl | rfl | rfl | rfl | rfl | rfl | rfl | rfl | rfl | rfl
 all_goals
  generalize hg:w.alloc _ = w1 at *
  obtain ⟨⟨y0,y1,y2,y3,y4,y5⟩,_⟩:=six_block hx
  clear hx h
  unfold ndV
  go_enter Tryz.func141,Tryz.ntmps141
  go_upto_region 1 with fail
  go_wp2_with (go_at_call 100;(with_reducible refine (HL.out _).mono ?_);rintro e w2 ⟨rfl,hw2⟩;subst w2)
  go_ret
  exact ⟨by rfl,hb⟩
def Puts (pb:Nat) (a:Option Addr) (t:List Nd) (b:Option Addr) (fr:List Nat) (f:FuncId) (args:Array Value) (L:List Tok):Prop:=
 ∀ (W:List ByteArray) (w:World),PapAt pb W w → PrOk pb a t b fr w → W.length + L.length < 1000000000000 → Calls Tryz.prog f args w (PutEnd pb (W ++ L.map wordV) w)
section
variable {pb:Nat} {a b:Option Addr} {cap capb:Nat} {t:List Nd} {fr:List Nat} {bx:Nat} {w0 w w':World} {W W':List ByteArray}
theorem PrSt.call {f:FuncId} {args:Array Value} {L:List Tok} (h:PrSt pb a cap t b capb fr bx w0 W w) (hf:Puts pb a t b fr f args L) (hn:W.length + L.length < 1000000000000):Calls Tryz.prog f args w fun e w'=>e = .returned (.tuple #[]) ∧ PrSt pb a cap t b capb fr bx w0 (W ++ L.map wordV) w':=
 (hf W w h.pap h.ok hn).mono fun _ _ h'=>⟨h'.1,h.put h'⟩
theorem PrSt.put1 (h:PrSt pb a cap t b capb fr bx w0 W w) (s:ByteArray) (hn:W.length < 1000000000000):Calls Tryz.prog 96 #[.pointer (some ⟨pb,0,none⟩),.slice (some ⟨w.heap.size,0,none⟩) 1 1] (w.alloc (.cells #[.string s] 9)) fun e w'=>e = .returned (.tuple #[]) ∧ PrSt pb a cap t b capb fr bx w0 (W ++ [s]) w':=
 (put1_ok pb W s w h.pap hn).mono fun _ _ h'=>⟨h'.1,h.put h'⟩
theorem PrSt.put2 (h:PrSt pb a cap t b capb fr bx w0 W w) (s r:ByteArray) (hn:W.length + 1 < 1000000000000):Calls Tryz.prog 96 #[.pointer (some ⟨pb,0,none⟩),.slice (some ⟨w.heap.size,0,none⟩) 2 2] (w.alloc (.cells #[.string s,.string r] 9)) fun e w'=>e = .returned (.tuple #[]) ∧ PrSt pb a cap t b capb fr bx w0 (W ++ [s,r]) w':=
 (put2_ok pb W s r w h.pap hn).mono fun _ _ h'=>⟨h'.1,h.put h'⟩
theorem PrSt.cells (h:PrSt pb a cap t b capb fr bx w0 W w):w.cell? ⟨bx,0,none⟩ = some (.pointer (some ⟨pb,0,none⟩)) ∧ w.cell? ⟨bx,1,none⟩ = some (.slice a t.length cap) ∧ w.cell? ⟨bx,2,none⟩ = some (.slice b fr.length capb):=(three_blockP h.box).1
end
theorem word_M (s:ByteArray):wordV (tkM s) = s:=by simp [wordV,wordL,tkM]
theorem word_K (s:ByteArray):wordV (tkK s) = s:=by simp [wordV,wordL,tkK]
theorem word_N (s:ByteArray):wordV (tkN s) = s:=by simp [wordV,wordL,tkN]
set_option maxRecDepth 100000 in
set_option maxHeartbeats 4000000 in
theorem part9_ok {pb:Nat} {a b:Option Addr} {cap capb:Nat} {t:List Nd} {fr:List Nat} {p:Nat} (hp:p < t.length) (he:exprK (kindAt t p) = true)
 (hx:Puts pb a t b fr 53 #[prV pb a t.length cap b fr.length capb,.int .i64 (p:Int)] (exprN t fr p)) (due:Int) :
 Puts pb a t b fr 98 #[prV pb a t.length cap b fr.length capb,.int .i64 (p:Int),.int .i64 due] (partN t fr due p):=by
 intro W w hP hO hn
 have hlv:ndAt t p = t[p]:=ndAt_is (List.getElem?_eq_getElem hp)
 rw [ndAt_kind,hlv] at he
 have HLv:=Hd (fun w=>levelOf_ok t[p] w he)
 unfold partN partF at hn ⊢
 rw [hlv] at hn ⊢
 have HX:=Hd hx
 have HS0:=Hd (fun w1 h=>PrSt.start (cap:=cap) (capb:=capb) (w1:=w1) hP hO h)
 have HNd:=Hd (fun (w1:World) (h:SlS 6 ndCells pb w1 a t)=>nds_at h.sl hp)
 clear hP hO hx he hlv
 unfold ndV at HLv
 generalize lvN t[p] = lv at *
 generalize exprN t fr p = L at *
 generalize t[p] = x at *
 refine Or.elim (Classical.em (due ≤ lv)) (fun hd=>?a1) (fun hd=>?b1)
 case' a1=>
  have t1:decide (due ≤ lv) = true:=by simpa using hd
  rw [if_pos hd] at hn ⊢
 case' b1=>
  have t1:decide (due ≤ lv) = false:=by simpa using hd
  rw [if_neg hd] at hn ⊢
  simp only [List.length_cons,List.length_append,List.length_nil] at hn
  rw [show W ++ (tkM ⟨#[40]⟩ :: (L ++ [tkM ⟨#[41]⟩])).map wordV = W ++ [⟨#[40]⟩] ++ L.map wordV ++ [⟨#[41]⟩] by simp [word_M]]
 all_goals
  go_enter Tryz.func98,Tryz.ntmps98
  go_upto_region 1 with fail
  generalize hg1:w.alloc _ = w1 at *
  have HS1:=Hd (HS0.out w1 rfl)
  clear hg1 HS0
  obtain ⟨y0,y1,y2⟩:=HS1.out.cells
  obtain ⟨bb,oo,ha,hbl,x0,x1,x2,x3,x4,x5⟩:=HNd.out w1 HS1.out.ok.nds
  subst ha
  go_wp2_with (first
   | (go_at_call 141;(with_reducible refine (HLv.out _).mono ?_);rintro e w2 ⟨rfl,hb2⟩;have HS2:=Hd (HS1.out.below hb2);clear hb2;obtain ⟨z0,z1,z2⟩:=HS2.out.cells)
   | (go_at_call 96;(refine (HS4.out.put1 ⟨#[41]⟩ (by simp;omega)).mono ?_);rintro e w5 ⟨rfl,hs⟩;have HS5:=Hd hs;clear hs)
   | (go_at_call 96;(refine (HS2.out.put1 ⟨#[40]⟩ (by omega)).mono ?_);rintro e w3 ⟨rfl,hs⟩;have HS3:=Hd hs;clear hs;obtain ⟨z0,z1,z2⟩:=HS3.out.cells)
   | (go_at_call 53;(refine (HS3.out.call HX.out (by simp;omega)).mono ?_);rintro e w4 ⟨rfl,hs⟩;have HS4:=Hd hs;clear hs;obtain ⟨z0,z1,z2⟩:=HS4.out.cells)
   | (go_at_call 53;(refine (HS2.out.call HX.out (by omega)).mono ?_);rintro e w5 ⟨rfl,hs⟩;have HS5:=Hd hs;clear hs))
  go_end0
  simpa using HS5.out.end_
end Go.Proofs.YtkokdafkjjcgoaaGreatDoor
