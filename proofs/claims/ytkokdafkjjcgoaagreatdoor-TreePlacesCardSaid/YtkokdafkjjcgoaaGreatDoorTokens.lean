/- All tokens of a text: the program. -/
import Derived.Test.YtkokdafkjjcgoaaGreatDoorMg8
import Derived.Deep.RegionLaw
import Derived.Deep.AppendLies
import Derived.Laws.OwnMore
namespace Go.Proofs.YtkokdafkjjcgoaaGreatDoor
open Go.RowKit
theorem blank_pair {s:ByteArray} {k p:Nat} {t:Bool} (h:blankAt s k = (p,t)):∃ b,blankL (sfx s k) = (b,t) ∧ p = k + b ∧ (sfx s k).drop b = sfx s p:=by
 rcases hb:blankL (sfx s k) with ⟨b,t'⟩
 rw [blankAt,hb] at h
 simp only [addGap,Prod.mk.injEq] at h
 obtain ⟨rfl,rfl⟩:=h
 exact ⟨b,rfl,rfl,sfx_drop s k b⟩
theorem sfx_ne {s:ByteArray} {p:Nat} (h:p < s.size):sfx s p ≠ []:=by rw [sfx_cons s p h];simp
theorem tl_bad {s:ByteArray} {k p:Nat} {out:List Tok} (h:blankAt s k = (p,false)):tokL k (sfx s k) out = .bad p 71:=by
 obtain ⟨b,hb,rfl,_⟩:=blank_pair h
 exact tokL_done (by unfold tokStep;rw [hb])
theorem tl_end {s:ByteArray} {k p:Nat} {out:List Tok} (h:blankAt s k = (p,true)) (hp:s.size ≤ p):tokL k (sfx s k) out = .good out:=by
 obtain ⟨b,hb,rfl,hd⟩:=blank_pair h
 exact tokL_done (step_end hb (by rw [hd,sfx_nil s _ hp]))
theorem tl_many {s:ByteArray} {k p:Nat} {out:List Tok} (h:blankAt s k = (p,true)) (hp:p < s.size) (hj:joins (sfx s p) out = false) (hl:16384 ≤ out.length):tokL k (sfx s k) out = .bad p 3:=by
 obtain ⟨b,hb,rfl,hd⟩:=blank_pair h
 refine tokL_done ?_
 unfold tokStep
 rw [hb]
 simp only
 rw [hd,if_neg (sfx_ne hp),if_pos ⟨hj,hl⟩]
theorem tl_one {s:ByteArray} {k p:Nat} {out:List Tok} {e:Int} (h:blankAt s k = (p,true)) (hp:p < s.size) (hj:¬ (joins (sfx s p) out = false ∧ 16384 ≤ out.length)) (ho:oneL (sfx s p) = .bad e):tokL k (sfx s k) out = .bad p e:=by
 obtain ⟨b,hb,rfl,hd⟩:=blank_pair h
 refine tokL_done ?_
 unfold tokStep
 rw [hb]
 simp only
 rw [hd,if_neg (sfx_ne hp),if_neg hj,ho]
theorem tl_long {s:ByteArray} {k p n:Nat} {out o:List Tok} {t x:Tok} (h:blankAt s k = (p,true)) (hp:p < s.size) (hj:¬ (joins (sfx s p) out = false ∧ 16384 ≤ out.length)) (ho:oneL (sfx s p) = .good t n) (hx:putTok (sfx s p) p out t = o ++ [x]) (hl:4096 < x.text.size):tokL k (sfx s k) out = .bad x.place.toNat 3:=by
 obtain ⟨b,hb,rfl,hd⟩:=blank_pair h
 refine tokL_done ?_
 unfold tokStep
 rw [hb]
 simp only
 rw [hd,if_neg (sfx_ne hp),if_neg hj,ho]
 simp only
 rw [hx,endStep]
 simp [hl]
theorem tl_next {s:ByteArray} {k p n:Nat} {out o:List Tok} {t x:Tok} (h:blankAt s k = (p,true)) (hp:p < s.size) (hj:¬ (joins (sfx s p) out = false ∧ 16384 ≤ out.length)) (ho:oneL (sfx s p) = .good t n) (hx:putTok (sfx s p) p out t = o ++ [x]) (hl:¬ 4096 < x.text.size):tokL k (sfx s k) out = tokL (p + n) (sfx s (p + n)) (o ++ [x]):=by
 obtain ⟨b,hb,rfl,hd⟩:=blank_pair h
 have:=step_mk (k:=k) (out:=out) hb (by rw [hd];exact sfx_ne hp) (by rw [hd];exact hj) (by rw [hd];exact ho) (by rw [hd,hx];intro y hy;simp at hy;subst hy;omega)
 rw [hd,hx] at this
 rw [tokL_more this,sfx_drop,Nat.add_assoc]
theorem flatL_snoc (L:List Tok) (t:Tok):flatL (L ++ [t]) = flatL L ++ t.cells:=by simp [flatL,List.flatMap_append]
theorem flatL_set (L:List Tok) (t:Tok) (x:ByteArray):(flatL (L ++ [t])).set (L.length * 4 + 3) (.string x) = flatL (L ++ [{ t with text:=x }]):=by
 rw [flatL_snoc,flatL_snoc,List.set_append_right _ _ (by rw [flatL_length];omega),flatL_length,Nat.add_sub_cancel_left];rfl
theorem quotedL_len (q:UInt8):∀ (k:Nat) (L:List UInt8),L.length ≤ k → ∀ {l:List UInt8} {n:Nat},quotedL q L = .good l n → l.length ≤ n
 | k,[],_,l,n,h=>by rw [quotedL_nil] at h;cases h
 | 0,c :: r,hk,_,_,_=>by simp at hk
 | k + 1,c :: r,hk,l,n,h=>by
   rw [quotedL_cons] at h
   split at h
   ·simp only [QEnd.good.injEq] at h;obtain ⟨rfl,rfl⟩:=h;simp
   ·split at h
    ·cases h
    ·split at h
     ·cases h
     ·rename_i b j hp
      have hj:=pieceL_le hp
      obtain ⟨l',n',h1,rfl,rfl⟩:=consQ_good h
      have:=quotedL_len q k ((c :: r).drop j) (by rw [List.length_drop];simp at hk ⊢;omega) h1
      simp;omega
theorem oneL_text {L:List UInt8} {t:Tok} {n:Nat} (h:oneL L = .good t n):t.text.size ≤ L.length:=by
 have hle:=oneL_le h
 match L,h with
 | [],h=>cases h
 | c :: l,h=>
   have hw:(strOf ((c :: l).take (wlen (c :: l)))).size ≤ (c :: l).length:=by
    show ((c :: l).take (wlen (c :: l))).length ≤ _
    rw [List.length_take];omega
   rw [oneL] at h
   split at h
   ·unfold wordE at h
    repeat' split at h
    all_goals first
     | (cases h;done)
     | (have e:=(OEnd.good.inj h).1;subst e;exact hw)
   ·split at h
    ·unfold numE at h
     split at h
     ·cases h
     ·have e:=(OEnd.good.inj h).1
      subst e
      show (if _ then uText else (⟨#[]⟩:ByteArray)).size ≤ _
      split
      ·show 1 ≤ _;omega
      ·show 0 ≤ _;omega
    ·split at h
     ·obtain ⟨b,j,h1,h2,rfl⟩:=charE_good h
      show 0 ≤ _;omega
     ·split at h
      ·obtain ⟨q,j,h1,h2,rfl⟩:=strE_good h
       have:=quotedL_len 34 _ _ (Nat.le_refl _) h1
       show q.length ≤ _
       omega
      ·unfold markE at h
       split at h
       ·cases h
       ·rename_i m _
        have e:=OEnd.good.inj h
        rw [← e.1];show m.size ≤ _
        omega
structure Rd (w0 w:World) (s:ByteArray) (k:Nat) (lv:Value) (out:List Tok):Prop where
 text:TextAt w (w0.heap.size + 1) #[.string s,.int .i64 0,lv] 201 s k
 own:w.ownsRow (w0.heap.size + 2) 151 4 lv out.length (flatL out)
 below:Below w0.heap.size w0 w
 fault:w.heap[w0.heap.size]? = some (.cells #[.int .i64 0,.int .i64 0] 68 (0,0))
theorem Rd.c2 {w0 w:World} {s:ByteArray} {k:Nat} {lv:Value} {out:List Tok} (h:Rd w0 w s k lv out):w.cell? ⟨w0.heap.size + 1,2,none⟩ = some lv:=by
 simp [World.cell?,h.text.blk]
theorem Rd.drewN {w0 w:World} {s:ByteArray} {k:Nat} {lv:Value} {out:List Tok} (h:Rd w0 w s k lv out) (n:Nat):Rd w0 (w.drewN n) s k lv out:=
 ⟨h.text.drew,own_drewN h.own n,blw_drewN h.below n,h.fault⟩
theorem Rd.next {w0 w w':World} {s:ByteArray} {k k':Nat} {lv:Value} {out:List Tok} (h:Rd w0 w s k lv out) (hg:w.grownBy w' (some (w0.heap.size + 1))) (ht:TextAt w' (w0.heap.size + 1) #[.string s,.int .i64 0,lv] 201 s k'):Rd w0 w' s k' lv out:=
 ⟨ht,own_apart h.own hg (by omega),h.below.trans (below_grown hg (by omega) h.below.size),by rw [hg.block _ (lt_of_heap h.fault) (by simp)];exact h.fault⟩
theorem Rd.belowed {w0 w w':World} {s:ByteArray} {k:Nat} {lv:Value} {out:List Tok} (h:Rd w0 w s k lv out) (hb:Below w.heap.size w w'):Rd w0 w' s k lv out:=
 ⟨h.text.below hb,h.own.belowed hb,h.below.trans (hb.mono h.below.size),by rw [hb.block _ (lt_of_heap h.fault)];exact h.fault⟩
theorem Rd.lt {w0 w:World} {s:ByteArray} {k:Nat} {lv:Value} {out:List Tok} (h:Rd w0 w s k lv out):w0.heap.size + 1 < w.heap.size:=h.text.lt
def Toked (w:World) (r:TEnd) (e:Ending) (w':World):Prop:=
 (match r with
   | .good L=>∃ v,e = .returned (.tuple #[v,.agg #[.int .i64 0,.int .i64 0]]) ∧ w'.ownsRow w.heap.size 151 4 v L.length (flatL L)
   | .bad p x=>e = .returned (.tuple #[.slice none 0 0,.agg #[.int .i64 p,.int .i64 x]])) ∧ Below w.heap.size w w'
theorem toked_yes {w w':World} {r:TEnd} {L:List Tok} {v:Value} (hr:r = .good L) (ho:w'.ownsRow w.heap.size 151 4 v L.length (flatL L)) (hb:Below w.heap.size w w'):Toked w r (.returned (.tuple #[v,.agg #[.int .i64 0,.int .i64 0]])) w':=by subst hr;exact ⟨⟨v,rfl,ho⟩,hb⟩
theorem toked_no {w w':World} {r:TEnd} {p:Nat} {q x:Int} (hr:r = .bad p x) (hq:q = p) (hb:Below w.heap.size w w'):Toked w r (.returned (.tuple #[.slice none 0 0,.agg #[.int .i64 q,.int .i64 x]])) w':=by subst hr hq;exact ⟨rfl,hb⟩
theorem two_blockL {w:World} {b:Nat} {a0 a1:Value} {T:TypeId} (h:w.heap[b]? = some (.cells #[a0,a1] T (0,0))) :
 (w.cell? ⟨b,0,none⟩ = some a0 ∧ w.cell? ⟨b,1,none⟩ = some a1) ∧ ∀ j,w.frozen? ⟨b,j,none⟩ = false:=by
 refine ⟨⟨?_,?_⟩,fun j=>?_⟩
 ·simp [World.cell?,h]
 ·simp [World.cell?,h]
 ·simp [World.frozen?,h]
theorem own_le {w:World} {base base':Nat} {e:TypeId} {size:Nat} {v:Value} {n:Nat} {xs:List Value} (h:w.ownsRow base e size v n xs) (hb:base' ≤ base):w.ownsRow base' e size v n xs:=
 ⟨h.1,h.2.imp id fun ⟨g,cap,cur,e,hg,r⟩=>⟨g,cap,cur,e,Nat.le_trans hb hg,r⟩⟩
theorem own_form {w:World} {base:Nat} {e:TypeId} {size:Nat} {v:Value} {n:Nat} {xs:List Value} (h:w.ownsRow base e size v n xs):∃ a cap,v = .slice a n cap ∧ (0 < n → ∃ g,a = some ⟨g,0,none⟩ ∧ base ≤ g ∧ g < w.heap.size):=by
 rcases h.2 with ⟨rfl,rfl⟩ | ⟨g,cap,cur,rfl,hb,hg,_⟩
 ·exact ⟨_,_,rfl,fun h=>by omega⟩
 ·exact ⟨_,_,rfl,fun _=>⟨g,rfl,hb,lt_of_heap hg⟩⟩
theorem last_cells {w:World} {base g cap:Nat} {o:List Tok} {t:Tok} (h:w.ownsRow base 151 4 (.slice (some ⟨g,0,none⟩) (o ++ [t]).length cap) (o ++ [t]).length (flatL (o ++ [t]))) :
 w.cell? ⟨g,o.length * 4,none⟩ = some (.int .i64 t.kind) ∧ w.cell? ⟨g,o.length * 4 + 1,none⟩ = some (.int .i64 t.place) ∧ w.cell? ⟨g,o.length * 4 + 3,none⟩ = some (.string t.text) ∧ w.frozen? ⟨g,o.length * 4 + 3,none⟩ = false:=by
 have hl:(o ++ [t]).length = o.length + 1:=by simp
 obtain ⟨f0,f1,_,f3⟩:=flatL_get (o ++ [t]) o.length (by omega)
 have hg:(o ++ [t])[o.length] = t:=by simp
 rw [hg] at f0 f1 f3
 exact ⟨by rw [h.cellAt _ (by omega)];exact f0,by rw [h.cellAt _ (by omega)];exact f1,by rw [h.cellAt _ (by omega)];exact f3,h.frozenAt _⟩
theorem nil_or_snoc (out:List Tok):out = [] ∨ ∃ o t,out = o ++ [t]:=by
 by_cases h:out = []
 ·exact .inl h
 ·exact .inr (snoc_of h)
theorem joins_quote {s:ByteArray} {p:Nat} (hp:p < s.size) (out:List Tok):joins (sfx s p) out = (decide (s[p].toNat = 34) && out.getLast?.any isStr):=by
 rw [sfx_cons s p hp,joins];rfl
theorem grown_fault {w0 w w':World} {s:ByteArray} {k:Nat} {lv:Value} {out:List Tok} (h:Rd w0 w s k lv out) (hg:w.grownBy w' (some (w0.heap.size + 1))):w'.heap[w0.heap.size]? = some (.cells #[.int .i64 0,.int .i64 0] 68 (0,0)) ∧ Below w0.heap.size w0 w':=
 ⟨by rw [hg.block _ (lt_of_heap h.fault) (by simp)];exact h.fault,h.below.trans (below_grown hg (by omega) h.below.size)⟩
theorem set_faultL {w0 w:World} (h:Below w0.heap.size w0 w) (v v':Value):Below w0.heap.size w0 ((w.setCell ⟨w0.heap.size,0,none⟩ v).setCell ⟨w0.heap.size,1,none⟩ v'):=
 (h.setCell (Nat.le_refl _) _).setCell (Nat.le_refl _) _
theorem TextAt.other {w b cs T s k} (h:TextAt w b cs T s k) (a:Addr) (ha:a.block ≠ b) (v:Value):TextAt (w.setCell a v) b cs T s k:=
 ⟨by rw [Below.heap_setCell _ _ _ _ (fun e=>ha e.symm)];exact h.blk,h.text,h.two⟩
theorem TextAt.list {w b z lv T s k} (h:TextAt w b #[.string s,z,lv] T s k) (v:Value):TextAt (w.setCell ⟨b,2,none⟩ v) b #[.string s,z,v] T s k:=by
 refine ⟨?_,rfl,by simp⟩
 simp [World.setCell,Array.getElem?_modify,h.blk]
theorem Rd.store {w0 w:World} {s x:ByteArray} {k g cap:Nat} {o:List Tok} {t:Tok} (h:Rd w0 w s k (.slice (some ⟨g,0,none⟩) (o ++ [t]).length cap) (o ++ [t])) :
 Rd w0 (w.setCell ⟨g,o.length * 4 + 3,none⟩ (.string x)) s k (.slice (some ⟨g,0,none⟩) (o ++ [t]).length cap) (o ++ [{ t with text:=x }]):=by
 have hg:=(h.own.lt g rfl).1
 refine ⟨h.text.other _ (by simp;omega) _,?_,h.below.setCell (by simp;omega) _,by rw [Below.heap_setCell _ _ _ _ (by simp;omega)];exact h.fault⟩
 have:=(h.own.stored (o.length * 4 + 3) (.string x)).1
 rw [flatL_set] at this
 have hl:∀ t':Tok,(o ++ [t']).length = o.length + 1:=fun t'=>by simp
 rw [hl] at this ⊢
 rw [hl]
 exact this
theorem Rd.pushed {w0 w w6:World} {s:ByteArray} {k n:Nat} {lv v:Value} {out:List Tok} {t:Tok} (h:Rd w0 w s k lv out) (hg:w.grownBy w6 lv.ownBlock) (hn:n = (out ++ [t]).length)
 (ho:w6.ownsRow (w0.heap.size + 2) 151 4 v n (flatL out ++ t.cells)):Rd w0 (w6.setCell ⟨w0.heap.size + 1,2,none⟩ v) s k v (out ++ [t]):=by
 have hl:=fun q e=>(h.own.lt q e).1
 refine ⟨(h.text.grown hg (fun e=>by have:=hl _ e;omega)).list v,?_,(h.below.grown hg h.below.size (fun q e=>by have:=hl q e;omega)).setCell (by simp) _,?_⟩
 ·rw [flatL_snoc,← hn]
  exact ownsRow_setCell_below ho (by simp) _
 ·rw [Below.heap_setCell _ _ _ _ (by simp),hg.block _ (lt_of_heap h.fault) (fun e=>by have:=hl _ e.symm;omega)];exact h.fault
def OutOk (out:List Tok):Prop:=out.length ≤ 16384 ∧ ∀ t ∈ out,0 ≤ t.place ∧ t.text.size ≤ 4096
theorem put_place {M:List UInt8} {p:Nat} {out o:List Tok} {t x:Tok} (h:∀ t ∈ out,0 ≤ t.place) (hp:putTok M p out t = o ++ [x]):(∀ y ∈ o,y ∈ out) ∧ 0 ≤ x.place ∧ o.length ≤ out.length:=by
 rcases hj:joins M out with _ | _
 ·rw [put_new hj] at hp
  obtain ⟨rfl,h2⟩:=List.append_inj' hp rfl
  simp only [List.cons.injEq,and_true] at h2
  subst h2
  exact ⟨fun y hy=>hy,by simp,Nat.le_refl _⟩
 ·obtain ⟨q,t0,rfl⟩:=snoc_of (joins_ne hj)
  rw [put_joins hj,glue_snoc] at hp
  obtain ⟨rfl,h2⟩:=List.append_inj' hp rfl
  simp only [List.cons.injEq,and_true] at h2
  subst h2
  exact ⟨fun y hy=>by simp [hy],h t0 (by simp),by simp⟩
theorem put_len {M:List UInt8} {p:Nat} {out o:List Tok} {t x:Tok} (hp:putTok M p out t = o ++ [x]) (hn:¬ (joins M out = false ∧ 16384 ≤ out.length)) (hl:out.length ≤ 16384):(o ++ [x]).length ≤ 16384:=by
 rw [← hp]
 rcases hj:joins M out with _ | _
 ·rw [put_new hj,List.length_append]
  have:¬ 16384 ≤ out.length:=fun e=>hn ⟨hj,e⟩
  simp;omega
 ·obtain ⟨q,t0,rfl⟩:=snoc_of (joins_ne hj)
  rw [put_joins hj,glue_snoc]
  simp at hl ⊢;exact hl
theorem put_okL {M:List UInt8} {p:Nat} {out o:List Tok} {t x:Tok} (h:OutOk out) (hp:putTok M p out t = o ++ [x]) (hn:¬ (joins M out = false ∧ 16384 ≤ out.length)) (hx:x.text.size ≤ 4096):OutOk (o ++ [x]):=by
 obtain ⟨h1,h2,_⟩:=put_place (fun t ht=>(h.2 t ht).1) hp
 refine ⟨put_len hp hn h.1,fun y hy=>?_⟩
 rcases List.mem_append.1 hy with e | e
 ·exact h.2 y (h1 y e)
 ·obtain rfl:=List.mem_singleton.1 e
  exact ⟨h2,hx⟩
set_option maxHeartbeats 1000000 in
theorem tokens_long (s:ByteArray) (w:World) (hs:65536 < s.size):Calls Tryz.prog 117 #[.string s] w (Toked w (.bad 0 3)):=by
 have t1:decide ((65536:Int) < s.size) = true:=by simp;omega
 clear hs
 go_enter Tryz.func117,Tryz.ntmps117
 go_wp2
 exact bodyPost_ret (v:=.tuple #[.slice none 0 0,.agg #[.int .i64 0,.int .i64 3]]) (by simp [results,Tryz.results117,go_sem]) rfl ⟨rfl,(Below.refl _ _).alloc (Nat.le_refl _) _⟩
set_option maxHeartbeats 8000000 in
set_option maxRecDepth 100000 in
theorem tokens_in (s:ByteArray) (w:World) (hs:s.size ≤ 65536) (hE:Env w):Calls Tryz.prog 117 #[.string s] w (Toked w (tokE s)):=by
 have HE:=Hd hE
 have HA:=Hd (hE.apart (b:=w.heap.size + 1) (by omega))
 obtain ⟨r,er⟩:∃ r,r = tokE s:=⟨_,rfl⟩
 rw [← er]
 have ER:=Hd (er.trans (tokE_L hs))
 have t0:decide ((65536:Int) < s.size) = false:=by simp;omega
 clear er hE
 go_enter Tryz.func117,Tryz.ntmps117
 go_wp2_with fail
 clear t0
 go_loopg [5] s.size (fun g _ wr=>∃ (k:Nat) (out:List Tok) (lv:Value),k ≤ s.size ∧ k + g = s.size ∧ Rd w wr s k lv out ∧ Hid (OutOk out) ∧ Hid (r = tokL k (sfx s k) out))
 case atStart=>
  refine ⟨0,[],.slice none 0 0,Nat.zero_le _,by omega,⟨⟨?_,rfl,by simp⟩,World.ownsRow_nil _ _ _ _,two_blw _ _ _,?_⟩,⟨by simp,fun t ht=>by cases ht⟩,ER.out⟩
  ·exact (show w.heap.size + 1 = (w.alloc _).heap.size by simp) ▸ heap_alloc_new (w.alloc _) _
  ·rw [((Below.refl (w.alloc _).heap.size (w.alloc _)).alloc (Nat.le_refl _) _).block _ (by simp)];exact heap_alloc_new w _
 case round=>
  obtain ⟨k,out,lv,hk,hkg,hrd,hok,hr⟩:=hrel
  have HR:=Hd hrd
  have HE1:=Hd (HE.out.below hrd.below)
  have hsz:=hrd.below.size
  have hlt:=hrd.lt
  obtain ⟨⟨d0,d1⟩,fd⟩:=two_blockL hrd.fault
  have fd0:=fd 0
  have fd1:=fd 1
  clear hrd fd
  rcases hbl:blankAt s k with ⟨p,t⟩
  have hple:=blankAt_le hk
  rw [hbl] at hple
  have HBl:Hid (Calls Tryz.prog 152 #[.pointer (some ⟨w.heap.size + 1,0,none⟩)] wr (Blanked wr (w.heap.size + 1) #[.string s,.int .i64 0,lv] 201 s (p,t))):=by
   rw [← hbl]
   exact blank_ok _ k _ _ s wr HR.out.text hk (by omega) HE1.out.maxl HA.out.2.2.1
  cases t with
  | false=>
    have hfin:=Hd (hr.out.trans (tl_bad hbl))
    clear hbl
    go_wp2_with (go_at_call 152;refine HBl.out.mono ?_)
    rintro e w1 ⟨he,hg⟩
    simp only [Bool.false_eq_true,if_false] at he
    subst he
    obtain ⟨hf1,hb1⟩:=grown_fault HR.out hg
    have HB:=Hd hb1
    obtain ⟨⟨e0,e1⟩,fe⟩:=two_blockL hf1
    have fe0:=fe 0
    have fe1:=fe 1
    clear fe d0 d1 fd0 fd1 hf1 hb1 hg
    go_wp2
    exact bodyPost_ret (v:=.tuple #[.slice none 0 0,.agg #[.int .i64 p,.int .i64 71]]) (by simp [results,Tryz.results117,go_sem,e0,e1]) rfl (toked_no hfin.out rfl (set_faultL HB.out _ _))
  | true=>
    by_cases hps:p < s.size
    ·have HJ:=Hd (joins_quote hps out)
     have hM:=Hd (show decide (p < s.size) = true by simpa using hps)
     have HBlk:=Hd hbl
     clear hbl
     go_wp2_with (go_at_call 152;refine HBl.out.mono ?_)
     rintro e w1 ⟨he,hg⟩
     simp only [if_true] at he
     obtain ⟨rfl,hT⟩:=he
     have hrd1:=HR.out.next hg hT
     have HR1:=Hd hrd1
     clear d0 d1 fd0 fd1 hrd1 hg hT HBl HE1
     go_wp2_with (go_at_call 153;refine (more_is true _ _ _ _ _ _ HR1.out.text hM.out).mono ?_;rintro e w1 ⟨rfl,n,rfl⟩)
     have hrd2:=HR1.out.drewN n
     generalize w1.drewN n = w2 at hrd2 ⊢
     have HR2:=Hd hrd2
     have c0:=hrd2.text.c0
     have c1:=hrd2.text.c1
     have c2:=hrd2.c2
     obtain ⟨a,cap,rfl,hform⟩:=own_form hrd2.own
     have HF:=Hd hform
     clear hrd2 hform HR HR1 hM
     have hol:(out.length:Int) ≤ 16384:=by have:=hok.out.1;omega
     have w8:IntKind.i64.wrap ((out.length:Int) - 1) = (out.length:Int) - 1:=IntWalk.i64_in _ (by omega)
     go_wp2_with fail
     go_quiet (fail)
     clear w8
     go_upto_region 10 with fail
     go_cut [9] (fun v wx=>∃ j:Bool,v = .bool j ∧ Hid (j = joins (sfx s p) out) ∧ wx = w2.drewN nq)
     case first=>
      by_cases h34:s[p].toNat = 34
      ·have t1:((s[p].toNat:Int) == 34) = true:=by simp [h34]
       rcases nil_or_snoc out with h0 | ⟨o,t,h0⟩
       ·have hj:=Hd (show false = joins (sfx s p) out by rw [HJ.out,h0];simp)
        have t2:decide ((0:Int) ≤ (out.length:Int) - 1) = false:=by rw [h0];rfl
        have t3:decide ((1:Int) ≤ (out.length:Int)) = false:=by rw [h0];rfl
        clear h34 h0
        go_wp2_with fail
        go_meet
        exact ⟨false,rfl,hj,rfl⟩
       ·have hj:=Hd (show decide (t.kind = 4) = joins (sfx s p) out by rw [HJ.out,h0];simp [isStr,h34])
        have hlen:out.length = o.length + 1:=by rw [h0];simp
        obtain ⟨g,rfl,hg1,hg2⟩:=HF.out (by omega)
        have hown:=HR2.out.own
        rw [h0] at hown
        obtain ⟨q0,_,_,_⟩:=last_cells hown
        have t2:decide ((0:Int) ≤ (out.length:Int) - 1) = true:=by rw [decide_eq_true_iff];omega
        have t3:decide ((1:Int) ≤ (out.length:Int)) = true:=by rw [decide_eq_true_iff];omega
        have e8:((out.length:Int) - 1).toNat = o.length:=by omega
        have p8:(0:Int) ≤ (out.length:Int) - 1:=by omega
        have l8:(out.length:Int) - 1 < out.length:=by omega
        clear hown hlen h34 h0
        by_cases h4:t.kind = 4
        ·have t4:(t.kind == 4) = true:=by simpa using h4
         have hj1:=Hd (show true = joins (sfx s p) out by rw [← hj.out];simpa using h4)
         clear h4 hj
         go_wp2_with fail
         go_meet
         exact ⟨true,rfl,hj1,rfl⟩
        ·have t4:(t.kind == 4) = false:=by simpa using h4
         have hj1:=Hd (show false = joins (sfx s p) out by rw [← hj.out];simpa using h4)
         clear h4 hj
         go_wp2_with fail
         go_meet
         exact ⟨false,rfl,hj1,rfl⟩
      ·have t1:((s[p].toNat:Int) == 34) = false:=by simp;omega
       have hj:=Hd (show false = joins (sfx s p) out by rw [HJ.out];simp [h34])
       clear h34
       go_wp2_with fail
       go_meet
       exact ⟨false,rfl,hj,rfl⟩
     case rest=>
      obtain ⟨j,rfl,hj,rfl⟩:=hcut
      have hrd3:=HR2.out.drewN nq
      generalize w2.drewN nq = w3 at hrd3 ⊢
      have HR3:=Hd hrd3
      have HE3:=Hd (HE.out.below hrd3.below)
      obtain ⟨⟨d0,d1⟩,fd⟩:=two_blockL hrd3.fault
      have fd0:=fd 0
      have fd1:=fd 1
      clear fd hrd3 c0 c1 c2 HJ
      by_cases hmany:j = false ∧ 16384 ≤ out.length
      ·obtain ⟨rfl,hm⟩:=hmany
       have hfin:=Hd (hr.out.trans (tl_many HBlk.out hps hj.out.symm hm))
       have t1:decide ((16384:Int) ≤ (out.length:Int) - 1 + 1) = true:=by rw [decide_eq_true_iff];omega
       have t2:decide ((16384:Int) ≤ (out.length:Int)) = true:=by rw [decide_eq_true_iff];omega
       have hmi:(16384:Int) ≤ (out.length:Int):=by omega
       clear hm
       go_wp2
       exact bodyPost_ret (v:=.tuple #[.slice none 0 0,.agg #[.int .i64 p,.int .i64 3]]) (by simp [results,Tryz.results117,go_sem,d0,d1]) rfl (toked_no hfin.out rfl (set_faultL HR3.out.below _ _))
      ·have t1:j = true ∨ (j = false ∧ (out.length:Int) < 16384):=by
        rcases Bool.eq_false_or_eq_true j with h | h
        ·exact .inl h
        ·exact .inr ⟨h,by
          rcases Nat.lt_or_ge out.length 16384 with h' | h'
          ·omega
          ·exact absurd ⟨h,h'⟩ hmany⟩
       have hnm:=Hd (show ¬ (joins (sfx s p) out = false ∧ 16384 ≤ out.length) by rw [← hj.out];exact hmany)
       have HOne:=Hd (one_ok (w.heap.size + 1) p _ _ s w3 HR3.out.text hps (by omega) HE3.out HA.out)
       clear hmany
       rcases ho:oneL (sfx s p) with ⟨t,m⟩ | x
       ·rw [ho] at HOne
        have HO:=Hd ho
        clear ho
        rcases t1 with hj1 | ⟨rfl,t1⟩
        ·subst hj1
         obtain ⟨o0,t0,h0⟩:=snoc_of (joins_ne hj.out.symm)
         have H0:=Hd h0
         have hlen0:out.length = o0.length + 1:=by rw [h0];simp
         obtain ⟨g,rfl,hg1,hg2⟩:=HF.out (by omega)
         clear h0
         go_wp2_with (go_at_call 154;refine HOne.out.mono ?_)
         rintro e w4 ⟨⟨rfl,hT4⟩,hg4⟩
         have hrd4:=HR3.out.next hg4 hT4
         have HR4:=Hd hrd4
         have hz4:=hrd4.lt
         clear d0 d1 fd0 fd1 hT4 hg4 hrd4
         go_upto_if 94 with fail
         go_cut [8] (fun v wx=>∃ (o:List Tok) (x:Tok) (lv:Value),v = .int .i64 (o.length:Int) ∧ Hid (putTok (sfx s p) p out t = o ++ [x]) ∧ Rd w wx s (p + m) lv (o ++ [x]))
         case first=>
          generalize hw5:w4.alloc _ = w5
          have hb45:Below w4.heap.size w4 w5:=by rw [← hw5];exact (Below.refl _ _).alloc (Nat.le_refl _) _
          have hblk:w5.heap[w4.heap.size]? = some (.cells #[.int .i64 t.kind,.int .i64 p,.int .i64 t.num,.string t.text] 151 (0,0)):=by rw [← hw5];exact heap_alloc_new w4 _
          have hrd5:=HR4.out.belowed hb45
          have hz5:=hrd5.lt
          obtain ⟨⟨_,_,_,b3⟩,_⟩:=tok_block hblk
          have c2:=hrd5.c2
          rw [H0.out] at hrd5
          obtain ⟨_,_,q3,qf⟩:=last_cells hrd5.own
          have HR6:=Hd (hrd5.store (x:=t0.text ++ t.text))
          have e8:((out.length:Int) - 1).toNat = o0.length:=by omega
          have p8:(0:Int) ≤ (out.length:Int) - 1:=by omega
          have l8:(out.length:Int) - 1 < out.length:=by omega
          have HL:=Hd (show (out.length:Int) - 1 = (o0.length:Int) by omega)
          have hs1:(t0.text.size:Int) ≤ 8388608:=by
           have:=(hok.out.2 t0 (by rw [H0.out];simp)).2
           omega
          have hs2:(t.text.size:Int) ≤ 8388608:=by
           have:=oneL_text HO.out
           rw [sfx_length] at this
           omega
          clear hb45 hw5 hrd5 hblk hlen0
          go_wp2_with fail
          go_region
          all_goals
           go_wp2_with fail
           go_meet
           exact ⟨o0,{ t0 with text:=t0.text ++ t.text },_,by first | rfl | rw [HL.out],Hd (by rw [put_joins hj.out.symm,H0.out,glue_snoc]),HR6.out.drewN 1⟩
         case rest=>
          obtain ⟨o,x,lv,rfl,hput,hrd6⟩:=hcut
          obtain ⟨a6,cap6,rfl,hform6⟩:=own_form hrd6.own
          obtain ⟨g6,rfl,hg61,hg62⟩:=hform6 (by simp)
          obtain ⟨q0,q1,q3,qf⟩:=last_cells hrd6.own
          have c2:=hrd6.c2
          obtain ⟨⟨d0,d1⟩,fd⟩:=two_blockL hrd6.fault
          have fd0:=fd 0
          have fd1:=fd 1
          have hlen:(o.length:Int) < ((o ++ [x]).length:Int):=by
           have:(o ++ [x]).length = o.length + 1:=by simp
           omega
          have HR6:=Hd hrd6
          clear fd hform6 hrd6
          by_cases hbig:4096 < x.text.size
          ·have hfin:=Hd (hr.out.trans (tl_long HBlk.out hps hnm.out HO.out hput.out hbig))
           have hpl:=Hd (put_place (fun t ht=>(hok.out.2 t ht).1) hput.out).2.1
           have t5:(4096:Int) < x.text.size:=by omega
           clear hbig
           go_wp2_with fail
           go_region
           all_goals
            go_wp2_with fail
            exact bodyPost_ret (v:=.tuple #[.slice none 0 0,.agg #[.int .i64 x.place,.int .i64 3]]) (by simp [results,Tryz.results117,go_sem,d0,d1]) rfl (toked_no hfin.out (by have:=hpl.out;omega) (set_faultL HR6.out.below _ _).drew)
          ·have hfin:=Hd (hr.out.trans (tl_next HBlk.out hps hnm.out HO.out hput.out hbig))
           have hok':=Hd (put_okL hok.out hput.out hnm.out (by omega))
           have t5:(x.text.size:Int) ≤ 4096:=by omega
           have hml:=oneL_le HO.out
           rw [sfx_length] at hml
           clear hbig
           go_wp2_with fail
           go_roundg (s.size - (p + m))
           case measure=>omega
           case rel=>exact ⟨p + m,o ++ [x],_,by omega,by omega,HR6.out,hok',hfin⟩
        ·go_wp2_with (go_at_call 154;refine HOne.out.mono ?_)
         rintro e w4 ⟨⟨rfl,hT4⟩,hg4⟩
         have hrd4:=HR3.out.next hg4 hT4
         have HR4:=Hd hrd4
         have hz4:=hrd4.lt
         clear d0 d1 fd0 fd1 hT4 hg4 hrd4
         go_upto_if 94 with fail
         go_cut [8] (fun v wx=>∃ (o:List Tok) (x:Tok) (lv:Value),v = .int .i64 (o.length:Int) ∧ Hid (putTok (sfx s p) p out t = o ++ [x]) ∧ Rd w wx s (p + m) lv (o ++ [x]))
         case first=>
          generalize hw5:w4.alloc _ = w5
          have hb45:Below w4.heap.size w4 w5:=by rw [← hw5];exact (Below.refl _ _).alloc (Nat.le_refl _) _
          have hblk:w5.heap[w4.heap.size]? = some (.cells #[.int .i64 t.kind,.int .i64 p,.int .i64 t.num,.string t.text] 151 (0,0)):=by rw [← hw5];exact heap_alloc_new w4 _
          have hrd5:=HR4.out.belowed hb45
          have HR5:=Hd hrd5
          have hz5:=hrd5.lt
          have hz5':w4.heap.size < w5.heap.size:=lt_of_heap hblk
          obtain ⟨⟨b0,b1,b2,b3⟩,_⟩:=tok_block hblk
          have c2:=hrd5.c2
          have f2:=hrd5.text.f1 2
          have hne:(Value.slice a out.length cap).ownBlock ≠ some w4.heap.size:=fun e=>by have:=(HR4.out.own.lt _ e).2;omega
          have hne2:(Value.slice a out.length cap).ownBlock ≠ some (w.heap.size + 1):=fun e=>by have:=(HR4.out.own.lt _ e).1;omega
          obtain ⟨i0,hi,hz0,hz1,hz2⟩:=info_parts info_tok
          have HI:=Hd (And.intro hi (And.intro hz0 (And.intro hz1 hz2)))
          have hbb:Below w5.heap.size w5 ((w5.alloc (.cells #[.int .i64 t.kind,.int .i64 p,.int .i64 t.num,.string t.text] 151)).drew):=((Below.refl _ _).alloc (Nat.le_refl _) _).drew
          clear hi hz0 hz1 hz2 hb45 hw5 hrd5
          go_wp2_with fail
          go_region_law ((refine step_append_lies _ (by rfl) _ _ _ (by rfl) (w.heap.size + 2) 151 i0 _ 4 40 Tryz.underlying106 HI.out.1 HI.out.2.1 HI.out.2.2.1 HI.out.2.2.2 rfl (by omega) (.slice a out.length cap) out.length (flatL out) (by rfl) ((HR5.out.own.alloc _).drew) ⟨w5.heap.size,0,none⟩ 1 1 [.int .i64 t.kind,.int .i64 p,.int .i64 t.num,.string t.text] (by rfl) (by rfl) (World.news_of_block (cs:=#[.int .i64 t.kind,.int .i64 p,.int .i64 t.num,.string t.text]) (t:=151) (fr:=(0,0)) (heap_alloc_new w5 _)) (by simp [Value.oneCell']) (by omega) (by unfold maxLen;omega) (by omega) (by simp;omega) (w5.heap.size + 1) (by simp) ?_;intro gg cp w6 hown hgrow hat hlt6;have k2:=(hgrow.cell_far ⟨w.heap.size + 1,2,none⟩ (by simp;omega) (Ne.symm hne2));have g2:=(hgrow.frozen_far ⟨w.heap.size + 1,2,none⟩ (by simp;omega) (Ne.symm hne2));rw [hbb.cell hz5,c2] at k2;rw [hbb.frozen hz5,f2] at g2))
          all_goals
           have HR6:=Hd ((HR5.out.belowed hbb).pushed (t:={ t with place:=(p:Int) }) hgrow (by simp) hown)
           clear hown hgrow hat hlt6 k2 g2
           go_wp2_with fail
           go_meet
           exact ⟨out,{ t with place:=(p:Int) },_,(by first | rfl | (congr 1;omega)),Hd (put_new hj.out.symm),HR6.out⟩
         case rest=>
          obtain ⟨o,x,lv,rfl,hput,hrd6⟩:=hcut
          obtain ⟨a6,cap6,rfl,hform6⟩:=own_form hrd6.own
          obtain ⟨g6,rfl,hg61,hg62⟩:=hform6 (by simp)
          obtain ⟨q0,q1,q3,qf⟩:=last_cells hrd6.own
          have c2:=hrd6.c2
          obtain ⟨⟨d0,d1⟩,fd⟩:=two_blockL hrd6.fault
          have fd0:=fd 0
          have fd1:=fd 1
          have hlen:(o.length:Int) < ((o ++ [x]).length:Int):=by
           have:(o ++ [x]).length = o.length + 1:=by simp
           omega
          have HR6:=Hd hrd6
          clear fd hform6 hrd6
          by_cases hbig:4096 < x.text.size
          ·have hfin:=Hd (hr.out.trans (tl_long HBlk.out hps hnm.out HO.out hput.out hbig))
           have hpl:=Hd (put_place (fun t ht=>(hok.out.2 t ht).1) hput.out).2.1
           have t5:(4096:Int) < x.text.size:=by omega
           clear hbig
           go_wp2_with fail
           go_region
           all_goals
            go_wp2_with fail
            exact bodyPost_ret (v:=.tuple #[.slice none 0 0,.agg #[.int .i64 x.place,.int .i64 3]]) (by simp [results,Tryz.results117,go_sem,d0,d1]) rfl (toked_no hfin.out (by have:=hpl.out;omega) (set_faultL HR6.out.below _ _).drew)
          ·have hfin:=Hd (hr.out.trans (tl_next HBlk.out hps hnm.out HO.out hput.out hbig))
           have hok':=Hd (put_okL hok.out hput.out hnm.out (by omega))
           have t5:(x.text.size:Int) ≤ 4096:=by omega
           have hml:=oneL_le HO.out
           rw [sfx_length] at hml
           clear hbig
           go_wp2_with fail
           go_roundg (s.size - (p + m))
           case measure=>omega
           case rel=>exact ⟨p + m,o ++ [x],_,by omega,by omega,HR6.out,hok',hfin⟩
       ·have hfin:=Hd (hr.out.trans (tl_one HBlk.out hps hnm.out ho))
        have hx:=oneL_bad ho
        have t4:(x != 0) = true:=by simp;omega
        rw [ho] at HOne
        clear ho hx
        rcases t1 with rfl | ⟨rfl,t1⟩
        all_goals
         go_wp2_with (go_at_call 154;refine HOne.out.mono ?_)
         rintro e w4 ⟨⟨t,rfl⟩,hg4⟩
         obtain ⟨hf4,hb4⟩:=grown_fault HR3.out hg4
         have HB4:=Hd hb4
         have hz4:w.heap.size < w4.heap.size:=lt_of_heap hf4
         obtain ⟨⟨e0,e1⟩,fe⟩:=two_blockL hf4
         have fe0:=fe 0
         have fe1:=fe 1
         clear fe d0 d1 fd0 fd1 hf4 hb4 hg4
         go_wp2
         exact bodyPost_ret (v:=.tuple #[.slice none 0 0,.agg #[.int .i64 p,.int .i64 x]]) (by simp [results,Tryz.results117,go_sem,e0,e1,hz4]) rfl (toked_no hfin.out rfl ((set_faultL HB4.out _ _).alloc (by simp;omega) _))
    ·have hfin:=Hd (hr.out.trans (tl_end hbl (by omega)))
     have hM:=Hd (show decide (p < s.size) = false by simpa using hps)
     clear hbl
     go_wp2_with (go_at_call 152;refine HBl.out.mono ?_)
     rintro e w1 ⟨he,hg⟩
     simp only [if_true] at he
     obtain ⟨rfl,hT⟩:=he
     have hrd1:=HR.out.next hg hT
     have HR1:=Hd hrd1
     obtain ⟨⟨e0,e1⟩,fe⟩:=two_blockL hrd1.fault
     have fe0:=fe 0
     have fe1:=fe 1
     have c2:=hrd1.c2
     clear fe d0 d1 fd0 fd1 hrd1 hg hT
     go_wp2_with (go_at_call 153;refine (more_is false _ _ _ _ _ _ HR1.out.text hM.out).mono ?_;rintro e w1 ⟨rfl,n,rfl⟩)
     exact bodyPost_ret (v:=.tuple #[lv,.agg #[.int .i64 0,.int .i64 0]]) (by simp [results,Tryz.results117,go_sem,e0,e1]) rfl (toked_yes hfin.out (by
      have:=ownsRow_setCell_below (ownsRow_setCell_below (HR1.out.drewN n).own (a:=⟨w.heap.size,0,none⟩) (by simp) (.int .i64 0)) (a:=⟨w.heap.size,1,none⟩) (by simp) (.int .i64 0)
      exact own_le this (by omega)) (set_faultL (HR1.out.drewN n).below _ _))
end Go.Proofs.YtkokdafkjjcgoaaGreatDoor
