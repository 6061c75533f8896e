/- All steps of a text: plainly, no program here. -/
import Derived.Test.YtkokdafkjjcgoaaGreatDoorMg7
namespace Go.Proofs.YtkokdafkjjcgoaaGreatDoor
open Go.RowKit
theorem joins_none (M:List UInt8):joins M [] = false:=by simp [joins]
theorem endStep_more {n m:Nat} {out out':List Tok} (h:endStep n out = .more m out'):m = n ∧ out' = out ∧ ∀ t,out.getLast? = some t → t.text.size ≤ 4096:=by
 unfold endStep at h
 split at h
 ·rename_i e;cases h;exact ⟨rfl,rfl,fun t ht=>by rw [e] at ht;cases ht⟩
 ·rename_i t e
  split at h
  ·cases h
  ·rename_i h1;cases h;exact ⟨rfl,rfl,fun u hu=>by rw [e] at hu;cases hu;omega⟩
theorem endStep_mk {n:Nat} {out:List Tok} (h:∀ t,out.getLast? = some t → t.text.size ≤ 4096):endStep n out = .more n out:=by
 unfold endStep
 split
 ·rfl
 ·rename_i t e
  rw [if_neg (by have:=h t e;omega)]
theorem endStep_bad {n:Nat} {out:List Tok} {e:TEnd} (h:endStep n out = .done e):∃ t,out.getLast? = some t ∧ 4096 < t.text.size ∧ e = .bad t.place.toNat 3:=by
 unfold endStep at h
 split at h
 ·cases h
 ·rename_i t e'
  split at h
  ·rename_i h1;cases h;exact ⟨t,e',h1,rfl⟩
  ·cases h
theorem step_more {k n:Nat} {M:List UInt8} {out out':List Tok} (h:tokStep k M out = .more n out') :
 ∃ b t j,blankL M = (b,true) ∧ M.drop b ≠ [] ∧ ¬ (joins (M.drop b) out = false ∧ 16384 ≤ out.length) ∧ oneL (M.drop b) = .good t j ∧ n = b + j ∧ out' = putTok (M.drop b) (k + b) out t ∧ ∀ x,out'.getLast? = some x → x.text.size ≤ 4096:=by
 unfold tokStep at h
 split at h
 ·cases h
 ·rename_i b hb
  split at h
  ·cases h
  ·rename_i h1
   split at h
   ·cases h
   ·rename_i h2
    split at h
    ·cases h
    ·rename_i t j ho
     obtain ⟨e1,e2,e3⟩:=endStep_more h
     exact ⟨b,t,j,hb,h1,h2,ho,e1,e2,by rw [e2];exact e3⟩
theorem step_mk {k b j:Nat} {M:List UInt8} {out:List Tok} {t:Tok} (hb:blankL M = (b,true)) (h1:M.drop b ≠ []) (h2:¬ (joins (M.drop b) out = false ∧ 16384 ≤ out.length)) (ho:oneL (M.drop b) = .good t j)
 (he:∀ x,(putTok (M.drop b) (k + b) out t).getLast? = some x → x.text.size ≤ 4096):tokStep k M out = .more (b + j) (putTok (M.drop b) (k + b) out t):=by
 unfold tokStep
 rw [hb]
 simp only
 rw [if_neg h1,if_neg h2,ho]
 exact endStep_mk he
theorem step_good {k:Nat} {M:List UInt8} {out L:List Tok} (h:tokStep k M out = .done (.good L)):∃ b,blankL M = (b,true) ∧ M.drop b = [] ∧ L = out:=by
 unfold tokStep at h
 split at h
 ·cases h
 ·rename_i b hb
  split at h
  ·rename_i h1;cases h;exact ⟨b,hb,h1,rfl⟩
  ·split at h
   ·cases h
   ·split at h
    ·cases h
    ·obtain ⟨t,_,_,e⟩:=endStep_bad h
     cases e
theorem step_end {k b:Nat} {M:List UInt8} {out:List Tok} (hb:blankL M = (b,true)) (h1:M.drop b = []):tokStep k M out = .done (.good out):=by
 unfold tokStep
 rw [hb]
 simp only
 rw [if_pos h1]
theorem step_pos {k n:Nat} {M:List UInt8} {out out':List Tok} (h:tokStep k M out = .more n out'):0 < n ∧ n ≤ M.length:=by
 obtain ⟨b,t,j,hb,_,_,ho,rfl,_⟩:=step_more h
 have:=oneL_le ho
 have h2:=(blankL_ends M).1
 rw [hb] at h2
 rw [List.length_drop] at this
 simp only at h2
 omega
theorem tokF_eq:∀ (n n' k:Nat) (M:List UInt8) (out:List Tok),M.length < n → M.length < n' → tokF n k M out = tokF n' k M out
 | 0,_,_,_,_,h,_=>by omega
 | _ + 1,0,_,_,_,_,h=>by omega
 | n + 1,n' + 1,k,M,out,h,h'=>by
   unfold tokF
   rcases hs:tokStep k M out with e | ⟨m,out'⟩
   ·rfl
   ·have:=step_pos hs
    simp only
    exact tokF_eq n n' _ _ _ (by rw [List.length_drop];omega) (by rw [List.length_drop];omega)
def tokL (k:Nat) (M:List UInt8) (out:List Tok):TEnd:=tokF (M.length + 1) k M out
theorem tokL_done {k:Nat} {M:List UInt8} {out:List Tok} {e:TEnd} (h:tokStep k M out = .done e):tokL k M out = e:=by unfold tokL tokF;rw [h]
theorem tokL_more {k n:Nat} {M:List UInt8} {out out':List Tok} (h:tokStep k M out = .more n out'):tokL k M out = tokL (k + n) (M.drop n) out':=by
 have:=step_pos h
 unfold tokL
 conv=>lhs;unfold tokF
 rw [h]
 exact tokF_eq _ _ _ _ _ (by rw [List.length_drop];omega) (by rw [List.length_drop];omega)
theorem tokE_L {s:ByteArray} (h:s.size ≤ 65536):tokE s = tokL 0 s.data.toList []:=by
 unfold tokE tokL
 rw [if_neg (by omega),Array.length_toList];rfl
theorem tokL_ind {P:Nat → List UInt8 → List Tok → TEnd → Prop} (hd:∀ k M out e,tokStep k M out = .done e → P k M out e) (hm:∀ k M out n out',tokStep k M out = .more n out' → P (k + n) (M.drop n) out' (tokL (k + n) (M.drop n) out') → P k M out (tokL (k + n) (M.drop n) out')) :
 ∀ k M out,P k M out (tokL k M out):=by
 have key:∀ n k M out,M.length ≤ n → P k M out (tokL k M out):=by
  intro n
  induction n with
  | zero=>
    intro k M out hn
    rcases hs:tokStep k M out with e | ⟨m,out'⟩
    ·rw [tokL_done hs];exact hd _ _ _ _ hs
    ·have:=step_pos hs;omega
  | succ n ih=>
    intro k M out hn
    rcases hs:tokStep k M out with e | ⟨m,out'⟩
    ·rw [tokL_done hs];exact hd _ _ _ _ hs
    ·have:=step_pos hs
     rw [tokL_more hs]
     exact hm _ _ _ _ _ hs (ih _ _ _ (by rw [List.length_drop];omega))
 exact fun k M out=>key M.length k M out (Nat.le_refl _)
theorem glue_snoc (o:List Tok) (t:Tok) (x:ByteArray):glue (o ++ [t]) x = o ++ [{ t with text:=t.text ++ x }]:=by simp [glue]
theorem joins_snoc (M:List UInt8) (o:List Tok) (t:Tok):joins M (o ++ [t]) = (M.head?.any (fun c=>decide (c.toNat = 34)) && isStr t):=by simp [joins]
theorem snoc_of {o:List Tok} (h:o ≠ []):∃ p t,o = p ++ [t]:=⟨o.dropLast,o.getLast h,(List.dropLast_concat_getLast h).symm⟩
theorem joins_ne {M:List UInt8} {o:List Tok} (h:joins M o = true):o ≠ []:=by rintro rfl;rw [joins_none] at h;cases h
theorem put_joins {M:List UInt8} {p:Nat} {o:List Tok} {t:Tok} (h:joins M o = true):putTok M p o t = glue o t.text:=by rw [putTok,if_pos h]
theorem put_new {M:List UInt8} {p:Nat} {o:List Tok} {t:Tok} (h:joins M o = false):putTok M p o t = o ++ [{ t with place:=p }]:=by rw [putTok,if_neg (by simp [h])]
theorem map_place_glue {o:List Tok} (x:ByteArray) (h:o ≠ []):(glue o x).map (·.place) = o.map (·.place):=by
 obtain ⟨p,t,rfl⟩:=snoc_of h
 rw [glue_snoc];simp
theorem tokL_rise:∀ k M out L,tokL k M out = .good L → (out.map (·.place)).Pairwise (· < ·) → (∀ x ∈ out.map (·.place),(0:Int) ≤ x ∧ x < k) → (L.map (·.place)).Pairwise (· < ·) ∧ ∀ x ∈ L.map (·.place),(0:Int) ≤ x ∧ x < k + M.length:=by
 have key:=tokL_ind (P:=fun k M out e=>∀ L,e = .good L → (out.map (·.place)).Pairwise (· < ·) → (∀ x ∈ out.map (·.place),(0:Int) ≤ x ∧ x < k) → (L.map (·.place)).Pairwise (· < ·) ∧ ∀ x ∈ L.map (·.place),(0:Int) ≤ x ∧ x < k + M.length) ?_ ?_
 ·exact fun k M out L h=>key k M out L h
 ·intro k M out e h L he hp hb
  subst he
  obtain ⟨_,_,_,rfl⟩:=step_good h
  exact ⟨hp,fun x hx=>⟨(hb x hx).1,by have:=(hb x hx).2;omega⟩⟩
 ·intro k M out n out' h ih L he hp hb
  have hpos:=step_pos h
  obtain ⟨b,t',j,hbl,h1,h2,ho1,rfl,hput,hs⟩:=step_more h
  have hone:=oneL_le ho1
  have hl:(M.drop (b + j)).length = M.length - (b + j):=List.length_drop
  have h3:(out'.map (·.place)).Pairwise (· < ·) ∧ ∀ x ∈ out'.map (·.place),(0:Int) ≤ x ∧ x < ((k + (b + j):Nat):Int):=by
   rcases hj:joins (M.drop b) out with _ | _
   ·rw [put_new hj] at hput
    subst hput
    rw [List.map_append,List.pairwise_append]
    refine ⟨⟨hp,by simp,fun x hx y hy=>?_⟩,fun x hx=>?_⟩
    ·simp at hy;have:=(hb x hx).2;omega
    ·rcases List.mem_append.1 hx with h | h
     ·have:=hb x h;omega
     ·simp at h;omega
   ·rw [put_joins hj] at hput
    subst hput
    rw [map_place_glue _ (joins_ne hj)]
    exact ⟨hp,fun x hx=>by have:=hb x hx;omega⟩
  obtain ⟨h4,h5⟩:=ih L he h3.1 h3.2
  exact ⟨h4,fun x hx=>by have:=h5 x hx;omega⟩
theorem quotedL_bad (q:UInt8):∀ (k:Nat) (L:List UInt8),L.length ≤ k → ∀ {e:Int},quotedL q L = .bad e → e = 71 ∨ e = 72
 | k,[],_,e,h=>by rw [quotedL_nil] at h;cases h;exact .inl rfl
 | 0,c :: r,hk,_,_=>by simp at hk
 | k + 1,c :: r,hk,e,h=>by
   rw [quotedL_cons] at h
   split at h
   ·cases h
   ·split at h
    ·cases h;exact .inl rfl
    ·split at h
     ·cases h;exact .inr rfl
     ·rename_i b j hp
      have hj:=pieceL_le hp
      rcases hx:quotedL q ((c :: r).drop j) with ⟨l,n⟩ | e'
      ·rw [hx] at h;cases h
      ·rw [hx] at h
       cases h
       exact quotedL_bad q k _ (by rw [List.length_drop];simp at hk ⊢;omega) hx
theorem oneL_bad {L:List UInt8} {e:Int} (h:oneL L = .bad e):0 < e:=by
 match L,h with
 | [],h=>cases h;decide
 | c :: l,h=>
   rw [oneL] at h
   split at h
   ·unfold wordE at h
    repeat' split at h
    all_goals first
     | (cases h;done)
     | (cases h;decide)
   ·split at h
    ·unfold numE at h
     split at h
     ·cases h;decide
     ·cases h
    ·split at h
     ·rcases hx:quotedL 39 l with ⟨q,n⟩ | e'
      ·rw [hx] at h
       match q,h with
       | [],h=>cases h;decide
       | [_],h=>cases h
       | _ :: _ :: _,h=>cases h;decide
      ·rw [hx] at h
       cases h
       have:=quotedL_bad 39 _ _ (Nat.le_refl _) hx
       omega
     ·split at h
      ·rcases hx:quotedL 34 l with ⟨q,n⟩ | e'
       ·rw [hx] at h;cases h
       ·rw [hx] at h
        cases h
        have:=quotedL_bad 34 _ _ (Nat.le_refl _) hx
        omega
      ·unfold markE at h
       split at h
       ·cases h;decide
       ·cases h
theorem oneL_digit {s:ByteArray} {k:Nat} (hk:k < s.size) (hl:letB s[k] = false) (h:digB s[k] = true):oneL (sfx s k) = numE (sfx s k):=by
 rw [sfx_cons s k hk,oneL,if_neg (by simp [hl]),if_pos h]
theorem oneL_char {s:ByteArray} {k:Nat} (hk:k < s.size) (h:s[k].toNat = 39):oneL (sfx s k) = charE (quotedL s[k] (sfx s (k + 1))):=by
 have e:s[k] = 39:=UInt8.toNat_inj.1 h
 rw [sfx_cons s k hk,oneL,e,if_neg (by decide),if_neg (by decide),if_pos (by decide)]
theorem oneL_str {s:ByteArray} {k:Nat} (hk:k < s.size) (h:s[k].toNat = 34):oneL (sfx s k) = strE (quotedL s[k] (sfx s (k + 1))):=by
 have e:s[k] = 34:=UInt8.toNat_inj.1 h
 rw [sfx_cons s k hk,oneL,e,if_neg (by decide),if_neg (by decide),if_neg (by decide),if_pos (by decide)]
theorem let_noL {c:UInt8} (h:digB c = true ∨ c.toNat = 39 ∨ c.toNat = 34):letB c = false:=by
 unfold letB;rw [decide_eq_false_iff_not]
 rcases h with h | h | h
 ·have:=of_decide_eq_true h;omega
 ·omega
 ·omega
set_option maxHeartbeats 4000000 in
set_option maxRecDepth 100000 in
theorem one_digit (b k:Nat) (cs:Array Value) (T:TypeId) (s:ByteArray) (w:World) (h:TextAt w b cs T s k) (hk:k < s.size) (hs:s.size ≤ 1048576) (hE:Env w) (hA:Apart b) (hl:digB s[k] = true) :
 Calls Tryz.prog 154 #[.pointer (some ⟨b,0,none⟩)] w (OneAt w b cs T s k (oneL (sfx s k))):=by
 have hbw:=h.lt
 have H:=Hd (h.below ((Below.refl w.heap.size w).alloc (Nat.le_refl _) (.cells #[.int .i64 0,.int .i64 0,.int .i64 0,.string ⟨#[]⟩] 151)))
 have HE:=Hd (hE.below ((Below.refl w.heap.size w).alloc (Nat.le_refl _) (.cells #[.int .i64 0,.int .i64 0,.int .i64 0,.string ⟨#[]⟩] 151)))
 have HA:=Hd hA
 have c0:=h.c0
 have c1:=h.c1
 obtain ⟨r,er⟩:∃ r,r = oneL (sfx s k):=⟨_,rfl⟩
 rw [← er]
 have ER:=Hd (er.trans (oneL_digit hk (let_noL (.inl hl)) hl))
 have HL:=Hd (let_noL (.inl hl))
 have HD:=Hd hl
 have HSz:=Hd (show (s.extract k (k + wlen (s.data.toList.drop k))).size = (wlen (sfx s k) - 1) + 1 ∧ wlen (sfx s k) - 1 < (s.extract k (k + wlen (s.data.toList.drop k))).size ∧ (s.extract k (k + wlen (s.data.toList.drop k))).size ≤ 1048576 by
  have h1:=(word_end (s:=s) (a:=k) (by omega)).1
  have h2:0 < wlen (sfx s k):=by rw [sfx_cons s k hk];exact wlen_pos (by simp [wordB,hl])
  have h3:wlen (sfx s k) = wlen (s.data.toList.drop k):=rfl
  rw [ByteArray.size_extract];omega)
 clear er hl hA hE h
 go_enter Tryz.func154,Tryz.ntmps154
 go_wp2_with fail
 go_quiet (fail)
 go_wp2_with (first
  | (go_at_call 167;refine (lexLetter_is false _ _ HL.out).mono ?_;rintro e w' ⟨rfl,rfl⟩)
  | (go_at_call 190;refine (lexDigit_is true _ _ HD.out).mono ?_;rintro e w' ⟨rfl,rfl⟩)
  | (go_at_call 168;refine (word_ok b k cs T s _ H.out.drew (by omega) hs).mono ?_))
 rintro e w1 ⟨rfl,hT1,hg1⟩
 have HT1:=Hd hT1
 have HG1:=Hd (grown_trans (grown_drewN (grown_refl _ _) _) hg1)
 clear hT1 hg1
 have HE1:=Hd (HE.out.grown HG1.out HA.out)
 have HW:=Hd (sfx_take_word s k)
 have HB:=Hd (res_block HG1.out hbw)
 clear c0 c1
 generalize s.extract k (k + wlen (s.data.toList.drop k)) = x at HW HSz ⊢
 have HR:=Hd (show r = match numW x.data.toList with
  | none=>.bad 73
  | some (n,u)=>.good ⟨3,0,n,uOf u⟩ (wlen (sfx s k)) by rw [ER.out,numE,HW.out];rfl)
 go_wp2_with (go_at_call 191;refine (number_okL x (wlen (sfx s k) - 1) _ (Hd HSz.out.1) HSz.out.2.1 HSz.out.2.2 HE1.out.errs).mono ?_)
 rintro e w2 ⟨he,hb2⟩
 have HT2:=Hd (HT1.out.below hb2)
 have HG2:=Hd (grown_below HG1.out hb2)
 have hw1:w.heap.size < w1.heap.size:=lt_of_heap HB.out
 have hb2s:=hb2.size
 obtain ⟨⟨a0,a1,a2,a3⟩,fa⟩:=tok_block ((hb2.block _ hw1).trans HB.out)
 have fa0:=fa 0
 have fa1:=fa 1
 have fa2:=fa 2
 have fa3:=fa 3
 have hlt2:w.heap.size < w2.heap.size:=by omega
 clear fa hb2
 rcases hn:numW x.data.toList with _ | ⟨n,u⟩
 ·rw [hn] at he
  have hfin:=Hd (show r = .bad 73 by rw [HR.out,hn])
  obtain ⟨t,rfl⟩:=he
  clear hn
  go_wp2
  exact bodyPost_ret (v:=.tuple #[.agg #[.int .i64 0,.int .i64 0,.int .i64 0,.string ⟨#[]⟩],.int .i64 73]) (by simp [results,Tryz.results154,go_sem,a0,a1,a2,a3,hlt2]) rfl (one_noL hfin.out (grown_below (grown_four (grown_alloc HG2.out) (Nat.le_refl _) _ _ _ _) ((Below.refl _ _).alloc (Nat.le_refl _) _)))
 ·rw [hn] at he
  have hfin:=Hd (show r = .good ⟨3,0,n,uOf u⟩ (wlen (sfx s k)) by rw [HR.out,hn])
  subst he
  clear hn
  go_wp2
  exact bodyPost_ret (v:=.tuple #[.agg #[.int .i64 3,.int .i64 0,.int .i64 n,.string (uOf u)],.int .i64 0]) (by simp [results,Tryz.results154,go_sem,a0,a1,a2,a3,hlt2]) rfl (one_yes ⟨3,0,n,uOf u⟩ hfin.out ⟨rfl,rfl,rfl,rfl⟩ ((text_four HT2.out (by omega) _ _ _ _).below ((Below.refl _ _).alloc (Nat.le_refl _) _)) (grown_below (grown_four (grown_alloc HG2.out) (Nat.le_refl _) _ _ _ _) ((Below.refl _ _).alloc (Nat.le_refl _) _)))
theorem i8_sgn:∀ c:Fin 256,IntKind.i8.wrap (c.val:Int) = if c.val < 128 then (c.val:Int) else (c.val:Int) - 256:=by decide +kernel
theorem sgn_wrap (c:UInt8):IntKind.i8.wrap (c.toNat:Int) = sgn c:=i8_sgn ⟨c.toNat,c.toNat_lt⟩
set_option maxHeartbeats 4000000 in
set_option maxRecDepth 100000 in
theorem one_char' (b k:Nat) (cs:Array Value) (T:TypeId) (s:ByteArray) (w:World) (h:TextAt w b cs T s k) (hk:k < s.size) (hs:s.size ≤ 1048576) (hl:s[k].toNat = 39) :
 Calls Tryz.prog 154 #[.pointer (some ⟨b,0,none⟩)] w (OneAt w b cs T s k (oneL (sfx s k))):=by
 have hbw:=h.lt
 have H:=Hd (h.below ((Below.refl w.heap.size w).alloc (Nat.le_refl _) (.cells #[.int .i64 0,.int .i64 0,.int .i64 0,.string ⟨#[]⟩] 151)))
 have c0:=h.c0
 have c1:=h.c1
 obtain ⟨r,er⟩:∃ r,r = oneL (sfx s k):=⟨_,rfl⟩
 rw [← er]
 have ER:=Hd (er.trans (oneL_char hk hl))
 have HL:=Hd (let_noL (.inr (.inl hl)))
 have HD:=Hd (show digB s[k] = false by unfold digB;rw [decide_eq_false_iff_not];omega)
 have t1:((s[k].toNat:Int) == 39) = true:=by simp [hl]
 clear er hl h
 go_enter Tryz.func154,Tryz.ntmps154
 go_wp2_with fail
 go_quiet (fail)
 go_wp2_with (first
  | (go_at_call 167;refine (lexLetter_is false _ _ HL.out).mono ?_;rintro e w' ⟨rfl,rfl⟩)
  | (go_at_call 190;refine (lexDigit_is false _ _ HD.out).mono ?_;rintro e w' ⟨rfl,rfl⟩)
  | (go_at_call 192;refine (quoted_ok b k cs T s _ H.out.drew hk hs).mono ?_))
 rintro e w1 ⟨he,hg1⟩
 have HG1:=Hd (grown_trans (grown_drewN (grown_refl _ _) _) hg1)
 clear hg1 c0 c1
 obtain ⟨⟨a0,a1,a2,a3⟩,fa⟩:=tok_block (res_block HG1.out hbw)
 have fa0:=fa 0
 have fa1:=fa 1
 have fa2:=fa 2
 have fa3:=fa 3
 clear fa
 rcases hq:quotedL s[k] (sfx s (k + 1)) with ⟨l,n⟩ | x
 ·rw [hq] at he
  obtain ⟨v,rfl,ho,hT⟩:=he
  have HT:=Hd hT
  clear hT
  match l,hq,ho with
  | [],hq,ho=>
    have hfin:=Hd (show r = .bad 72 by rw [ER.out,hq];rfl)
    have hv:∃ a cap,v = .slice a 0 cap:=by
     rcases ho.2 with ⟨rfl,_⟩ | ⟨g,cap,cur,rfl,_⟩
     ·exact ⟨_,_,rfl⟩
     ·exact ⟨_,_,rfl⟩
    obtain ⟨a,cap,rfl⟩:=hv
    clear ho hq ER
    go_wp2
    exact bodyPost_ret (v:=.tuple #[.agg #[.int .i64 0,.int .i64 0,.int .i64 0,.string ⟨#[]⟩],.int .i64 72]) (by simp [results,Tryz.results154,go_sem,a0,a1,a2,a3]) rfl (one_noL hfin.out (grown_four (grown_alloc HG1.out) (Nat.le_refl _) _ _ _ _))
  | [c],hq,ho=>
    have hfin:=Hd (show r = .good ⟨3,0,sgn c,⟨#[]⟩⟩ (n + 1) by rw [ER.out,hq];rfl)
    have hv:∃ g cap,v = .slice (some ⟨g,0,none⟩) 1 cap ∧ w1.cell? ⟨g,0,none⟩ = some (.int .u8 (c.toNat:Int)):=by
     rcases ho.2 with ⟨rfl,h0⟩ | ⟨g,cap,cur,rfl,_⟩
     ·simp at h0
     ·refine ⟨g,cap,rfl,?_⟩
      have:=ho.cells (g:=g) rfl 0 (.int .u8 (c.toNat:Int)) rfl
      rwa [addr_add] at this
    obtain ⟨g,cap,rfl,cg⟩:=hv
    have hw:=sgn_wrap c
    obtain ⟨y,hy⟩:∃ y,y = sgn c:=⟨_,rfl⟩
    rw [← hy] at hw hfin
    have hy1:-128 ≤ y ∧ y ≤ 127:=by
     have:=c.toNat_lt
     rw [hy];unfold sgn;split <;> omega
    obtain ⟨hy1,hy2⟩:=hy1
    clear ho hq ER hy
    go_wp2
    exact bodyPost_ret (v:=.tuple #[.agg #[.int .i64 3,.int .i64 0,.int .i64 y,.string ⟨#[]⟩],.int .i64 0]) (by simp [results,Tryz.results154,go_sem,a0,a1,a2,a3]) rfl (one_yes ⟨3,0,y,⟨#[]⟩⟩ hfin.out ⟨rfl,rfl,rfl,rfl⟩ (by rw [show k + (n + 1) = k + 1 + n by omega];exact text_four HT.out (by omega) _ _ _ _) (grown_four (grown_alloc HG1.out) (Nat.le_refl _) _ _ _ _))
  | c :: d :: l,hq,ho=>
    have hfin:=Hd (show r = .bad 72 by rw [ER.out,hq];rfl)
    have hv:∃ a cap,v = .slice a (l.length + 2) cap:=by
     rcases ho.2 with ⟨rfl,h0⟩ | ⟨g,cap,cur,rfl,_⟩
     ·simp at h0
     ·exact ⟨_,_,rfl⟩
    obtain ⟨a,cap,rfl⟩:=hv
    have t5:(((l.length + 2:Nat):Int) != 1) = true:=by simp;omega
    have t6:((l.length:Int) + 2 != 1) = true:=by simp;omega
    clear ho hq ER
    go_wp2
    exact bodyPost_ret (v:=.tuple #[.agg #[.int .i64 0,.int .i64 0,.int .i64 0,.string ⟨#[]⟩],.int .i64 72]) (by simp [results,Tryz.results154,go_sem,a0,a1,a2,a3]) rfl (one_noL hfin.out (grown_four (grown_alloc HG1.out) (Nat.le_refl _) _ _ _ _))
 ·rw [hq] at he
  have hfin:=Hd (show r = .bad x by rw [ER.out,hq];rfl)
  have hx:=quotedL_bad _ _ _ (Nat.le_refl _) hq
  have t4:(x != 0) = true:=by simp;omega
  subst he
  clear hq hx ER
  go_wp2
  exact bodyPost_ret (v:=.tuple #[.agg #[.int .i64 0,.int .i64 0,.int .i64 0,.string ⟨#[]⟩],.int .i64 x]) (by simp [results,Tryz.results154,go_sem,a0,a1,a2,a3]) rfl (one_noL hfin.out (grown_four (grown_alloc HG1.out) (Nat.le_refl _) _ _ _ _))
set_option maxHeartbeats 4000000 in
set_option maxRecDepth 100000 in
theorem one_str' (b k:Nat) (cs:Array Value) (T:TypeId) (s:ByteArray) (w:World) (h:TextAt w b cs T s k) (hk:k < s.size) (hs:s.size ≤ 1048576) (hl:s[k].toNat = 34) :
 Calls Tryz.prog 154 #[.pointer (some ⟨b,0,none⟩)] w (OneAt w b cs T s k (oneL (sfx s k))):=by
 have hbw:=h.lt
 have H:=Hd (h.below ((Below.refl w.heap.size w).alloc (Nat.le_refl _) (.cells #[.int .i64 0,.int .i64 0,.int .i64 0,.string ⟨#[]⟩] 151)))
 have c0:=h.c0
 have c1:=h.c1
 obtain ⟨r,er⟩:∃ r,r = oneL (sfx s k):=⟨_,rfl⟩
 rw [← er]
 have ER:=Hd (er.trans (oneL_str hk hl))
 have HL:=Hd (let_noL (.inr (.inr hl)))
 have HD:=Hd (show digB s[k] = false by unfold digB;rw [decide_eq_false_iff_not];omega)
 have t0:((s[k].toNat:Int) == 39) = false:=by simp [hl]
 have t1:((s[k].toNat:Int) == 34) = true:=by simp [hl]
 clear er hl h
 go_enter Tryz.func154,Tryz.ntmps154
 go_wp2_with fail
 go_quiet (fail)
 go_wp2_with (first
  | (go_at_call 167;refine (lexLetter_is false _ _ HL.out).mono ?_;rintro e w' ⟨rfl,rfl⟩)
  | (go_at_call 190;refine (lexDigit_is false _ _ HD.out).mono ?_;rintro e w' ⟨rfl,rfl⟩)
  | (go_at_call 192;refine (quoted_ok b k cs T s _ H.out.drew hk hs).mono ?_))
 rintro e w1 ⟨he,hg1⟩
 have HG1:=Hd (grown_trans (grown_drewN (grown_refl _ _) _) hg1)
 clear hg1 c0 c1
 obtain ⟨⟨a0,a1,a2,a3⟩,fa⟩:=tok_block (res_block HG1.out hbw)
 have fa0:=fa 0
 have fa1:=fa 1
 have fa2:=fa 2
 have fa3:=fa 3
 clear fa
 rcases hq:quotedL s[k] (sfx s (k + 1)) with ⟨l,n⟩ | x
 ·rw [hq] at he
  obtain ⟨v,rfl,ho,hT⟩:=he
  have HT:=Hd hT
  have hcv:=own_str ho
  have hfin:=Hd (show r = .good ⟨4,0,0,strOf l⟩ (n + 1) by rw [ER.out,hq];rfl)
  clear hT ho hq ER
  go_wp2
  exact bodyPost_ret (v:=.tuple #[.agg #[.int .i64 4,.int .i64 0,.int .i64 0,.string ⟨l.toArray⟩],.int .i64 0]) (by simp [results,Tryz.results154,go_sem,a0,a1,a2,a3]) rfl (one_yes ⟨4,0,0,strOf l⟩ hfin.out ⟨rfl,rfl,rfl,rfl⟩ (by rw [show k + (n + 1) = k + 1 + n by omega];exact text_four HT.out (by omega) _ _ _ _) (grown_four (grown_alloc HG1.out) (Nat.le_refl _) _ _ _ _))
 ·rw [hq] at he
  have hfin:=Hd (show r = .bad x by rw [ER.out,hq];rfl)
  have hx:=quotedL_bad _ _ _ (Nat.le_refl _) hq
  have t4:(x != 0) = true:=by simp;omega
  subst he
  clear hq hx ER
  go_wp2
  exact bodyPost_ret (v:=.tuple #[.agg #[.int .i64 0,.int .i64 0,.int .i64 0,.string ⟨#[]⟩],.int .i64 x]) (by simp [results,Tryz.results154,go_sem,a0,a1,a2,a3]) rfl (one_noL hfin.out (grown_four (grown_alloc HG1.out) (Nat.le_refl _) _ _ _ _))
theorem oneL_mark {s:ByteArray} {k:Nat} (hk:k < s.size) (h1:letB s[k] = false) (h2:digB s[k] = false) (h3:s[k].toNat ≠ 39) (h4:s[k].toNat ≠ 34):oneL (sfx s k) = markE (sfx s k):=by
 rw [sfx_cons s k hk,oneL,if_neg (by simp [h1]),if_neg (by simp [h2]),if_neg h3,if_neg h4]
set_option maxHeartbeats 4000000 in
set_option maxRecDepth 100000 in
theorem one_mark' (b k:Nat) (cs:Array Value) (T:TypeId) (s:ByteArray) (w:World) (h:TextAt w b cs T s k) (hk:k < s.size) (hs:s.size ≤ 1048576) (hE:Env w) (hA:Apart b) (h1:letB s[k] = false) (h2:digB s[k] = false) (h3:s[k].toNat ≠ 39) (h4:s[k].toNat ≠ 34) :
 Calls Tryz.prog 154 #[.pointer (some ⟨b,0,none⟩)] w (OneAt w b cs T s k (oneL (sfx s k))):=by
 have hbw:=h.lt
 have H:=Hd (h.below ((Below.refl w.heap.size w).alloc (Nat.le_refl _) (.cells #[.int .i64 0,.int .i64 0,.int .i64 0,.string ⟨#[]⟩] 151)))
 have HE:=Hd (hE.below ((Below.refl w.heap.size w).alloc (Nat.le_refl _) (.cells #[.int .i64 0,.int .i64 0,.int .i64 0,.string ⟨#[]⟩] 151)))
 have c0:=h.c0
 have c1:=h.c1
 have f1:=h.f1 1
 obtain ⟨r,er⟩:∃ r,r = oneL (sfx s k):=⟨_,rfl⟩
 rw [← er]
 have ER:=Hd (er.trans (oneL_mark hk h1 h2 h3 h4))
 have HL:=Hd h1
 have HD:=Hd h2
 have t0:((s[k].toNat:Int) == 39) = false:=by simp;omega
 have t1:((s[k].toNat:Int) == 34) = false:=by simp;omega
 have HX:Hid (∃ x,markX (sfx s k) = x ∧ ((x = -1 ∧ r = .bad 70) ∨ ∃ (j:Nat) (m:ByteArray),x = j ∧ j < 45 ∧ markT.getD j ByteArray.empty = m ∧ r = .good ⟨5,0,0,m⟩ m.size ∧ m.size ≤ 3)):=by
  refine ⟨_,rfl,?_⟩
  have hf:=firstI_find (p:=fun m:ByteArray=>Lib.hasPrefix (sfx s k) m.data.toList) (l:=markT)
  unfold markX markI
  rcases hi:firstI (fun m:ByteArray=>Lib.hasPrefix (sfx s k) m.data.toList) markT with _ | j
  ·rw [hi] at hf
   exact .inl ⟨rfl,by rw [ER.out,markE];unfold Lib.hasPrefix at hf;rw [hf]⟩
  ·rw [hi] at hf
   obtain ⟨m,e1,e2⟩:=hf
   have hlt:=(List.getElem?_eq_some_iff.1 e1).1
   refine .inr ⟨j,m,rfl,by rw [markT_length] at hlt;exact hlt,by rw [getD_lt _ _ hlt,(List.getElem?_eq_some_iff.1 e1).2],by rw [ER.out,markE];unfold Lib.hasPrefix at e2;rw [e2],?_⟩
   have key:∀ x ∈ markT,x.size ≤ 3:=by decide
   exact key m (List.mem_of_getElem? e1)
 obtain ⟨x,hx,hc⟩:=HX.out
 have HX2:=Hd hx
 have HA:=Hd hA
 clear er h1 h2 h3 h4 h hE hA ER HX hx
 rcases hc with ⟨rfl,hr⟩ | ⟨j,m,rfl,hj,hm,hr,hm3⟩
 ·have hfin:=Hd hr
  clear hr
  go_enter Tryz.func154,Tryz.ntmps154
  go_wp2_with fail
  go_quiet (fail)
  go_wp2_with (first
   | (go_at_call 167;refine (lexLetter_is false _ _ HL.out).mono ?_;rintro e w' ⟨rfl,rfl⟩)
   | (go_at_call 190;refine (lexDigit_is false _ _ HD.out).mono ?_;rintro e w' ⟨rfl,rfl⟩))
  go_quiet ((go_at_call 193;exact quiet_sum2 (indexFunc_is (-1) b k cs T s _ H.out.drew (by omega) (HE.out.marks.drewN _) HX2.out)))
  go_wp2
  exact bodyPost_ret (v:=.tuple #[.agg #[.int .i64 0,.int .i64 0,.int .i64 0,.string ⟨#[]⟩],.int .i64 70]) (by simp [results,Tryz.results154,go_sem]) rfl (one_noL hfin.out (grown_four (grown_drewN (grown_below (grown_refl _ _) ((Below.refl _ _).alloc (Nat.le_refl _) _)) _) (Nat.le_refl _) _ _ _ _))
 ·have hfin:=Hd hr
  have hc:(w.alloc (.cells #[.int .i64 0,.int .i64 0,.int .i64 0,.string ⟨#[]⟩] 151)).cell? ⟨0,j,none⟩ = some (Value.string m):=by
   have:=HE.out.marks j (by rw [markT_length];exact hj)
   rw [hm,Nat.zero_add] at this;exact this
  have HC:=Hd hc
  clear hr hm hc
  go_enter Tryz.func154,Tryz.ntmps154
  go_wp2_with fail
  go_quiet (fail)
  go_wp2_with (first
   | (go_at_call 167;refine (lexLetter_is false _ _ HL.out).mono ?_;rintro e w' ⟨rfl,rfl⟩)
   | (go_at_call 190;refine (lexDigit_is false _ _ HD.out).mono ?_;rintro e w' ⟨rfl,rfl⟩))
  go_quiet ((go_at_call 193;exact quiet_sum2 (indexFunc_is j b k cs T s _ H.out.drew (by omega) (HE.out.marks.drewN _) HX2.out)))
  have hcm:=HC.out
  go_wp2_with fail
  go_region
  generalize hwx:World.setCell _ _ _ = wx
  have hT:TextAt wx b cs T s (k + m.size):=by rw [← hwx];exact H.out.drew.next (k + m.size)
  have hG:(w.alloc (.cells #[.int .i64 0,.int .i64 0,.int .i64 0,.string ⟨#[]⟩] 151)).grownBy wx (some b):=by rw [← hwx];exact grown_set (grown_drewN (grown_refl _ _) _) _ rfl _
  have HT:=Hd hT
  have HG:=Hd hG
  have hcx:wx.cell? ⟨0,j,none⟩ = some (.string m):=cell_grown hcm hG (by have:=HA.out.2.1;omega)
  obtain ⟨⟨a0,a1,a2,a3⟩,fa⟩:=tok_block (res_block hG hbw)
  have fa0:=fa 0
  have fa1:=fa 1
  have fa2:=fa 2
  have fa3:=fa 3
  clear fa hwx hT hG c0 c1 f1 hcm
  go_wp2
  exact bodyPost_ret (v:=.tuple #[.agg #[.int .i64 5,.int .i64 0,.int .i64 0,.string m],.int .i64 0]) (by simp [results,Tryz.results154,go_sem,a0,a1,a2,a3]) rfl (one_yes ⟨5,0,0,m⟩ hfin.out ⟨rfl,rfl,rfl,rfl⟩ (text_four HT.out (by omega) _ _ _ _) (grown_four (grown_alloc HG.out) (Nat.le_refl _) _ _ _ _))
theorem one_ok (b k:Nat) (cs:Array Value) (T:TypeId) (s:ByteArray) (w:World) (h:TextAt w b cs T s k) (hk:k < s.size) (hs:s.size ≤ 1048576) (hE:Env w) (hA:Apart b) :
 Calls Tryz.prog 154 #[.pointer (some ⟨b,0,none⟩)] w (OneAt w b cs T s k (oneL (sfx s k))):=by
 rcases h1:letB s[k] with _ | _
 ·rcases h2:digB s[k] with _ | _
  ·by_cases h3:s[k].toNat = 39
   ·exact one_char' b k cs T s w h hk hs h3
   ·by_cases h4:s[k].toNat = 34
    ·exact one_str' b k cs T s w h hk hs h4
    ·exact one_mark' b k cs T s w h hk hs hE hA h1 h2 h3 h4
  ·exact one_digit b k cs T s w h hk hs hE hA h2
 ·exact one_letter b k cs T s w h hk hs hE hA h1
end Go.Proofs.YtkokdafkjjcgoaaGreatDoor
