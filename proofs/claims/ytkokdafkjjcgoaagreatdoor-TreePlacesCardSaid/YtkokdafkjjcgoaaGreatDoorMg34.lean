/- How many bytes an expression laid out takes. -/
import Derived.Test.YtkokdafkjjcgoaaGreatDoorMg33
namespace Go.Proofs.YtkokdafkjjcgoaaGreatDoor
open Go.RowKit
def byt (L:List Tok):Nat:=wtL L + L.length
theorem byt_nil:byt [] = 0:=rfl
theorem byt_cons (x:Tok) (L:List Tok):byt (x :: L) = wt x + 1 + byt L:=by simp [byt,wtL];omega
theorem byt_app (A B:List Tok):byt (A ++ B) = byt A + byt B:=by simp [byt,wtL];omega
theorem wt_M (s:ByteArray):wt (tkM s) = s.size:=rfl
theorem wt_K (s:ByteArray):wt (tkK s) = s.size:=rfl
theorem wt_N (s:ByteArray):wt (tkN s) = s.size:=rfl
theorem wt_S (s:ByteArray):wt (tkS s) = 4 * s.size + 2:=rfl
theorem wt_I (x:Nd):wt (tkI x) = 21:=rfl
theorem declK_byt (s n:ByteArray):byt (declK s n) ≤ 1392640:=by
 have h1:=toksE_wt (declW s n)
 have h2:=toksE_len (declW s n)
 unfold byt declK
 omega
theorem atF_byt {l:List Nat} {f:Nat → List Tok} {g:Nat → Nat} (h:∀ p ∈ l,byt (f p) ≤ g p) (i:Nat):byt (atF l f i) ≤ (l.map g)[i]?.getD 0:=by
 unfold atF
 rw [List.getElem?_map]
 cases hi:l[i]? with
 | none=>simp [byt_nil]
 | some p=>simpa using h p (List.mem_of_getElem? hi)
theorem flat_byt {α:Type} {f:α → List Tok} {g:α → Nat}:∀ {l:List α},(∀ x ∈ l,byt (f x) ≤ g x) → byt (l.flatMap f) ≤ (l.map g).sum
 | [],_=>by simp [byt_nil]
 | x :: l,h=>by
   rw [List.flatMap_cons,byt_app,List.map_cons,List.sum_cons]
   have:=h x (List.mem_cons_self ..)
   have:=flat_byt fun y hy=>h y (List.mem_cons_of_mem _ hy)
   omega
theorem ite_byt {c:Prop} [Decidable c] {a b:List Tok} {n:Nat} (h1:byt a ≤ n) (h2:byt b ≤ n):byt (if c then a else b) ≤ n:=by split <;> assumption
theorem comma_byt (c:Prop) [Decidable c]:byt (if c then [tkM ⟨#[44]⟩] else []) ≤ 2:=ite_byt (by decide) (by decide)
theorem rowF_byt {l:List Nat} {f:Nat → List Tok} {g:Nat → Nat} (h:∀ p ∈ l,byt (f p) + 2 ≤ g p):byt (rowF l f l.length) ≤ (l.map g).sum:=by
 unfold rowF
 refine Nat.le_trans (flat_byt (g:=fun i=>(l.map g)[i]?.getD 0) fun i hi=>?_) ?_
 ·rw [List.mem_range] at hi
  have hm:byt (f l[i]) + 2 ≤ g l[i]:=h _ (List.getElem_mem hi)
  have:=comma_byt (0 < i)
  rw [byt_app,atF_is hi,List.getElem?_map,List.getElem?_eq_getElem hi]
  simp only [Option.map_some,Option.getD_some]
  omega
 ·have:=range_get (l.map g)
  rw [List.length_map] at this
  omega
theorem partF_byt (t:List Nd) (e:Nat → List Tok) (due:Int) (p:Nat):byt (partF t e due p) ≤ byt (e p) + 4:=by
 unfold partF
 split
 ·omega
 ·have l1:(⟨#[40]⟩:ByteArray).size = 1:=rfl
  have l2:(⟨#[41]⟩:ByteArray).size = 1:=rfl
  simp only [byt_app,byt_cons,byt_nil,wt_M]
  omega
theorem exprB_byt {t:List Nd} {l:List Nat} {e:Nat → List Tok} {g:Nat → Nat} {D:Nat} (x:Nd) (h:∀ p ∈ l,byt (e p) + 6 ≤ g p) (hD:∀ s n,byt (declK s n) ≤ D) (hx:x.text.size ≤ 4096):byt (exprB t l e x) ≤ D + 16400 + (l.map g).sum:=by
 have h0:∀ due,∀ p ∈ l,byt (partF t e due p) ≤ g p:=fun due p hp=>by have:=partF_byt t e due p;have:=h p hp;omega
 have h1:∀ due i,byt (atF l (partF t e due) i) ≤ (l.map g)[i]?.getD 0:=fun due i=>atF_byt (h0 due) i
 have h2:byt (rowF l.tail (partF t e 2) l.tail.length) ≤ (l.tail.map g).sum:=rowF_byt fun p hp=>by have:=partF_byt t e 2 p;have:=h p (List.mem_of_mem_tail hp);omega
 have h3:=get4_sum (l.map g)
 have h4:=getD_tail (l.map g)
 have h5:=hD x.type ⟨#[]⟩
 rw [← List.map_tail] at h4
 have q0:∀ due,byt (atF l (partF t e due) 0) ≤ (l.map g)[0]?.getD 0:=fun due=>h1 due 0
 have q1:∀ due,byt (atF l (partF t e due) 1) ≤ (l.map g)[1]?.getD 0:=fun due=>h1 due 1
 have q2:∀ due,byt (atF l (partF t e due) 2) ≤ (l.map g)[2]?.getD 0:=fun due=>h1 due 2
 clear h0 h1
 generalize (l.map g)[0]?.getD 0 = a0 at *
 generalize (l.map g)[1]?.getD 0 = a1 at *
 generalize (l.map g)[2]?.getD 0 = a2 at *
 generalize (l.map g)[3]?.getD 0 = a3 at *
 have e1:=q0 14
 have e2:=q0 15
 have e3:=q0 16
 have e4:=q0 (levelN x.text)
 have e5:=q1 (levelN x.text + 1)
 have e6:=q1 2
 have e7:=q0 1
 have e8:=q0 4
 have e9:=q1 1
 have e10:=q2 3
 have l1:(⟨#[40]⟩:ByteArray).size = 1:=rfl
 have l2:(⟨#[41]⟩:ByteArray).size = 1:=rfl
 have l3:(⟨#[91]⟩:ByteArray).size = 1:=rfl
 have l4:(⟨#[93]⟩:ByteArray).size = 1:=rfl
 have l5:(⟨#[46]⟩:ByteArray).size = 1:=rfl
 have l6:(⟨#[45,62]⟩:ByteArray).size = 2:=rfl
 have l7:(⟨#[44]⟩:ByteArray).size = 1:=rfl
 have l8:(⟨#[63]⟩:ByteArray).size = 1:=rfl
 have l9:(⟨#[58]⟩:ByteArray).size = 1:=rfl
 have l10:(⟨#[115,105,122,101,111,102]⟩:ByteArray).size = 6:=rfl
 have e11:byt (atF l (partF t e 16) 0 ++ backB t l e x) ≤ D + 16400 + (l.map g).sum:=by
  rw [byt_app]
  have:byt (backB t l e x) ≤ 16400 + (l.map g).sum - a0:=by
   unfold backB
   repeat' refine ite_byt ?_ ?_
   all_goals
    simp only [byt_app,byt_cons,byt_nil,wt_M,wt_N]
    omega
  omega
 unfold exprB brkT
 repeat' refine ite_byt ?_ ?_
 all_goals first
  | exact e11
  | (simp only [byt_app,byt_cons,byt_nil,wt_M,wt_N,wt_K,wt_S,wt_I]
     omega)
theorem wellN_text {x:Nd} (hw:wellN x = true):x.text.size ≤ 4096:=by
 by_cases hm:x.kind = 4 ∨ x.kind = 5 ∨ x.kind = 6 ∨ x.kind = 7 ∨ x.kind = 8
 ·exact good_size (t:=tkM x.text) (ndM_good hw (by omega))
 ·unfold wellN at hw
  rw [Bool.and_eq_true] at hw
  have h:=hw.2
  split at h
  ·simp only [Bool.and_eq_true,noText,decide_eq_true_eq] at h
   omega
  ·rw [Bool.and_eq_true] at h
   have h2:=h.2
   unfold bodyOk at h2
   rw [if_neg (c:=x.kind = 4 ∨ x.kind = 5 ∨ x.kind = 6 ∨ x.kind = 7 ∨ x.kind = 8) hm] at h2
   repeat' split at h2
   all_goals rw [Bool.and_eq_true] at h2
   ·have:=h2.1
    rw [decide_eq_true_eq] at this
    exact this
   ·have:=(isName_parts h2.1).2.1
    omega
   ·have:=(isName_parts h2.1).2.1
    omega
   ·have:=h2.1
    simp only [noText,decide_eq_true_eq] at this
    omega
   ·have:=h2.1
    simp only [noText,decide_eq_true_eq] at this
    omega
theorem exprN_byt {t:List Nd} {fr:List Nat} (h:Right9 t fr):∀ (m k:Nat),k < m → k < t.length → byt (exprN t fr k) + 6 ≤ 1500000 * (k + 1 - fr.getD k 0)
 | 0,k,hm,_=>by omega
 | m + 1,k,hm,hk=>by
   have hx:=List.getElem?_eq_getElem hk
   obtain ⟨_,hbk,hle⟩:=h.given.formed.node k _ hx
   have hsz:=wellN_text (h.nd hk).2
   have h1:=exprB_byt (t:=t) (l:=partsAt t fr k) (e:=exprN t fr) (g:=fun p=>1500000 * (p + 1 - fr.getD p 0)) (D:=1392640) (ndAt t k)
    (fun p hp=>by have:=h.given.formed.parts_lt hp;exact exprN_byt h m p (by omega) (by omega)) declK_byt hsz
   rw [exprN_eq h.given.formed]
   rw [sum_mul,partsAt_is hx,(back_sum hbk).2,start_of h.begins hx] at h1
   rw [partsAt_is hx]
   have:1500000 * (k + 1 - fr.getD k 0) = 1500000 * (k - fr.getD k 0) + 1500000:=by
    rw [← Nat.mul_succ];congr 1;omega
   omega
theorem itemT_byt {t:List Nd} (h:checkN9 t = 0):byt (itemT t) ≤ 6144000004:=by
 obtain ⟨fr,hR⟩:=check_right h
 have hp:=hR.given.formed.pos
 have h1:=exprN_byt hR (t.length - 1 + 1) (t.length - 1) (Nat.lt_succ_self _) (by omega)
 have h2:=partF_byt t (exprN t fr) 2 (t.length - 1)
 have h3:=hR.given.le
 have h4:1500000 * (t.length - 1 + 1 - fr.getD (t.length - 1) 0) ≤ 1500000 * 4096:=Nat.mul_le_mul_left _ (by omega)
 unfold itemT partN
 rw [hR.begins,Option.getD_some]
 omega
theorem sum_le {α:Type} {g:α → Nat} {c:Nat}:∀ {l:List α},(∀ x ∈ l,g x ≤ c) → (l.map g).sum ≤ l.length * c
 | [],_=>by simp
 | x :: r,h=>by
   have h1:=h x (by simp)
   have h2:=sum_le (l:=r) (g:=g) (fun y hy=>h y (List.mem_cons_of_mem _ hy))
   rw [List.map_cons,List.sum_cons,List.length_cons,Nat.succ_mul]
   omega
theorem itemsF_byt {l:List (List Nd)} (h:∀ t ∈ l,checkN9 t = 0):byt (itemsF l l.length) ≤ l.length * 6144000006:=by
 unfold itemsF
 refine Nat.le_trans (flat_byt (g:=fun _=>6144000006) fun i _=>?_) (Nat.le_trans (sum_le (c:=6144000006) (fun _ _=>Nat.le_refl _)) (by rw [List.length_range];exact Nat.le_refl _))
 have:=comma_byt (0 < i)
 rw [byt_app]
 cases hi:l[i]? with
 | none=>dsimp only;rw [byt_nil];omega
 | some t=>
   have:=itemT_byt (h t (List.mem_of_getElem? hi))
   dsimp only
   omega
theorem brT_byt (b:Bool) (c:UInt8):byt (brT b c) ≤ 2:=ite_byt (by rw [byt_cons,wt_M,byt_nil];exact Nat.le_refl _) (by decide)
theorem globT_byt {g:GlU} (h:∀ t ∈ g.init,checkN9 t = 0) (hl:g.init.length ≤ 4096):byt (globT g) ≤ 25165830000000:=by
 have h1:=itemsF_byt h
 have h2:=declK_byt g.var.type g.var.name
 have h3:byt (volT g.var.vol) ≤ 9:=ite_byt (by decide) (by decide)
 have h4:=brT_byt (bracesB g) 123
 have h5:=brT_byt (bracesB g) 125
 have l1:(⟨#[61]⟩:ByteArray).size = 1:=rfl
 have l2:(⟨#[59]⟩:ByteArray).size = 1:=rfl
 have h6:byt (if 0 < g.init.length then tkM ⟨#[61]⟩ :: (brT (bracesB g) 123 ++ (itemsF g.init g.init.length ++ brT (bracesB g) 125)) else []) ≤ 25165824025000:=ite_byt (by simp only [byt_app,byt_cons,wt_M];omega) (by decide)
 unfold globT
 simp only [byt_app,byt_cons,byt_nil,wt_M]
 omega
theorem byt_len (L:List Tok):L.length ≤ byt L:=Nat.le_add_left _ _
theorem laid_byt {L:List Tok} (h:AllG L):(laidW L).size ≤ byt L:=laid_wt h
def PageAt (B b:Nat) (l:List UInt8) (w:World):Prop:=Lib.IsBuilder 122 5 B b (Lib.byteCells l) w
theorem PageAt.base {B b:Nat} {l:List UInt8} {w:World} (h:PageAt B b l w):B ≤ b ∧ b < w.heap.size:=by
 rcases h with h | h
 ·obtain ⟨hB,v,hb,_⟩:=h
  exact ⟨hB,lt_of_heap hb⟩
 ·obtain ⟨hB,v,hb,_⟩:=h
  exact ⟨hB,lt_of_heap hb⟩
theorem PageAt.below {B b:Nat} {l:List UInt8} {w w':World} (h:PageAt B b l w) (hb:Below w.heap.size w w'):PageAt B b l w':=by
 have key:∀ p,Lib.BuilderAt 122 5 B b p (Lib.byteCells l) w → Lib.BuilderAt 122 5 B b p (Lib.byteCells l) w':=fun p ⟨hB,v,hbk,hown,hne⟩=>
  ⟨hB,v,(hb.block b (lt_of_heap hbk)).trans hbk,World.ownsRow.belowed hown hb,hne⟩
 exact h.imp (key _) (key _)
def lineU (l:List UInt8) (L:List Tok):List UInt8:=if l.length ≤ 65536 then l ++ ((laidW L).data.toList ++ [10]) else l
theorem blen9 (B b:Nat) (bs:List Value) (w:World) (h:Lib.IsBuilder 122 5 B b bs w) :
 Calls Tryz.prog 61 #[.pointer (some ⟨b,0,none⟩)] w fun e w'=>e = .returned (.int .i64 bs.length) ∧ w' = w:=by
 obtain ⟨p,hB,v,hbk,hown,hne⟩:∃ p,Lib.BuilderAt 122 5 B b p bs w:=by
  rcases h with h | h
  ·exact ⟨_,h⟩
  ·exact ⟨_,h⟩
 have c1:w.cell? ⟨b,1,none⟩ = some v:=by rw [Lib.cell_of_heap hbk];rfl
 obtain ⟨ao,cap,rfl⟩:∃ ao cap,v = .slice ao bs.length cap:=by
  rcases hown.2 with ⟨hv,h0⟩ | ⟨g,cap,cur,hv,_⟩
  ·exact ⟨none,0,by rw [hv,h0]⟩
  ·exact ⟨_,_,hv⟩
 clear h hown hne hbk
 go_enter Tryz.func61,Tryz.ntmps61
 go_wp2
 go_ret
 exact ⟨rfl,rfl⟩
def LinePut (f:FuncId) (c:Array Value) (L:List Tok) (w:World):Prop:=
 ∀ w1,PapAt w.heap.size [] w1 → EnvB w.heap.size w1 → Below w.heap.size w w1 → Calls Tryz.prog f (#[.pointer (some ⟨w.heap.size,0,none⟩)] ++ c) w1 (PutEnd w.heap.size (L.map wordV) w1)
set_option maxRecDepth 100000 in
set_option maxHeartbeats 4000000 in
theorem line_ok {g:FuncId} (hF:g = 63 ∨ g = 65 ∨ g = 67) (B bb:Nat) (l:List UInt8) (L:List Tok) (c:Value) (w:World) (hT:PageAt B bb l w) (hE:EnvP w) (hB:B ≤ w.heap.size) (hg:AllG L) (hn:byt L ≤ 140000000000000) (hl:l.length ≤ 140000000065537)
 (hput:LinePut g #[c] L w) :
 Calls Tryz.prog 60 #[.func (.func g) #[] #[c],.pointer (some ⟨bb,0,none⟩)] w fun e w'=>e = .returned (.tuple #[]) ∧ PageAt B bb (lineU l L) w' ∧ Below B w w':=by
 rcases hF with rfl | rfl | rfl
 all_goals
  have hlen:=blen9 B bb _ w hT
  rw [Lib.byteCells_length] at hlen
  have HLn:=Hd hlen
  have HT:=Hd hT
  have HPut:=Hd hput
  have hsz:=laid_byt hg
  have hbl:=byt_len L
  have hjl:(Lib.join (L.map wordL) [32]).length = (laidW L).size:=rfl
  have HE:=Hd hE
  have HG:=Hd hg
  clear hlen hT hput hE hg
  by_cases hc:l.length ≤ 65536
  ·have d1:decide ((65536:Int) < (l.length:Int)) = false:=decide_eq_false (by omega)
   have hle:lineU l L = l ++ ((laidW L).data.toList ++ [10]):=by unfold lineU;rw [if_pos hc]
   obtain ⟨l2,hl2⟩:∃ l2,l2 = l ++ ((laidW L).data.toList ++ [10]):=⟨_,rfl⟩
   rw [hle,← hl2]
   go_enter Tryz.func60,Tryz.ntmps60
   go_upto_region 1 with (go_at_call 61;refine HLn.out.mono ?_;rintro e w1 ⟨rfl,hw1⟩;subst w1)
   go_upto_region 2 with fail
   generalize hg1:w.alloc _ = w1 at *
   have hP1:=pap_new hg1
   have hb1:=(alloc_at hg1).2
   have HPu:=Hd (HPut.out w1 hP1 (HE.out.under hb1) hb1)
   have HB1:=Hd hb1
   clear hP1 hb1 hg1
   have hls:(laidW L).data.toList.length = (laidW L).size:=by rw [Array.length_toList];rfl
   go_upto_region 3 with ((first | go_at_call 63 | go_at_call 65 | go_at_call 67);refine HPu.out.mono ?_;rintro e w2 ⟨rfl,hp,hk⟩;have HP2:=Hd hp;have HB2:=Hd (HB1.out.trans hk.below);clear hp hk)
   have HT2:=Hd (HT.out.below HB2.out)
   have HX:=Hd (text_ok HP2.out (by rw [hjl];omega) (by omega))
   clear hjl
   generalize laidW L = s at *
   have ha:∀ w,(Op.stringOp .add s (⟨#[10]⟩:ByteArray)).run Tryz.prog w = .ok (.string (s ++ ⟨#[10]⟩)) w:=fun w=>run_string_add_sum w _ _ (by have:(⟨#[10]⟩:ByteArray).size = 1:=rfl;omega)
   have hsz2:(s ++ ⟨#[10]⟩:ByteArray).size = s.size + 1:=by rw [ByteArray.size_append];rfl
   have he:Lib.byteCells l ++ Lib.strCells (s ++ ⟨#[10]⟩) = Lib.byteCells (l ++ (s.data.toList ++ [10])):=by simp [Lib.byteCells,Lib.strCells]
   have HSt:=Hd (fun w3 (hb3:Below w2.heap.size w2 w3)=>bstr B bb (Lib.byteCells l) (s ++ ⟨#[10]⟩) w3 (HT2.out.below hb3) (by rw [Lib.byteCells_length,hsz2];omega) (Nat.le_trans hB (Nat.le_trans HB2.out.size hb3.size)))
   rw [he,← hl2] at HSt
   clear he hl2 hsz hsz2 hn hl hc hle hls
   generalize s ++ (⟨#[10]⟩:ByteArray) = s2 at *
   go_wp2_with (first
    | (go_at_call 54;(with_reducible refine HX.out.mono ?_);rintro e w3 ⟨rfl,hb⟩;have HB3:=Hd hb;clear hb)
    | (go_at_call 62;refine (HSt.out _ HB3.out).mono ?_;rintro e w4 ⟨rfl,h4,hb4⟩;have H4:=Hd (show PageAt B bb l2 w4 from h4);have HB4:=Hd (((HB2.out.mono hB).trans (HB3.out.mono (Nat.le_trans hB HB2.out.size))).trans hb4);clear h4 hb4))
   go_end0
   exact ⟨rfl,H4.out,HB4.out⟩
  ·have d1:decide ((65536:Int) < (l.length:Int)) = true:=decide_eq_true (by omega)
   have hle:lineU l L = l:=by unfold lineU;rw [if_neg hc]
   rw [hle]
   clear hc hle hl hn hsz
   go_enter Tryz.func60,Tryz.ntmps60
   go_wp2_with (go_at_call 61;refine HLn.out.mono ?_;rintro e w1 ⟨rfl,hw1⟩;subst w1)
   exact bodyPost_ret (v:=.tuple #[]) (by simp [results,Tryz.results60,go_sem]) rfl ⟨rfl,HT.out,Below.refl _ _⟩
theorem put_struct9 {s:Sr} {v:Value} {w:World} {cb:Nat} (hc:w.heap[cb]? = some (.cells #[.string s.name,v] 114 (0,0))) (hM:∀ w1,Below w.heap.size w w1 → IsMems w.heap.size w1 v s.mems) (hl:s.mems.length ≤ 1000000) (hn:(structT s).length < 1000000000000) :
 LinePut 63 #[.pointer (some ⟨cb,0,none⟩)] (structT s) w:=by
 intro w1 hP hE hb
 have HC:=Hd (structure9_ok w.heap.size [] s v w1 hP hE (hM w1 hb) hl (by simpa using hn))
 obtain ⟨⟨y0,y1⟩,_⟩:=two_block ((hb.block cb (lt_of_heap hc)).trans hc)
 show Calls Tryz.prog _ #[_,_] w1 _
 simp only [List.nil_append] at HC
 clear hP hE hb hc hM hl hn
 go_enter Tryz.func63,Tryz.ntmps63
 go_wp2_with (go_at_call 64;(with_reducible refine HC.out.mono ?_);rintro e w2 ⟨rfl,hp,hk⟩;have HZ:=Hd (And.intro hp hk);clear hp hk)
 go_end0
 exact ⟨rfl,HZ.out⟩
theorem put_global9 {g:GlU} {v:Value} {w:World} {cb:Nat} (hc:w.heap[cb]? = some (.cells #[.int .i64 g.at_,.string g.var.name,.string g.var.type,.bool g.var.vol,v] 118 (0,0))) (hG:∀ w1,Below w.heap.size w w1 → IsTrs w.heap.size w1 v g.init) (h0:0 < g.var.type.size) (hI:∀ t ∈ g.init,checkN9 t = 0 ∧ exprK (lastK t) = true) (hl:g.init.length ≤ 1000000) (hn:(globT g).length < 1000000000000) :
 LinePut 65 #[.pointer (some ⟨cb,0,none⟩)] (globT g) w:=by
 intro w1 hP hE hb
 have HC:=Hd (global9_ok w.heap.size [] g v w1 hP hE (hG w1 hb) h0 hI hl (by simpa using hn))
 obtain ⟨⟨y0,y1,y2,y3,y4⟩,_⟩:=five_blockP ((hb.block cb (lt_of_heap hc)).trans hc)
 show Calls Tryz.prog _ #[_,_] w1 _
 simp only [List.nil_append] at HC
 clear hP hE hb hc hG hl hn h0 hI
 go_enter Tryz.func65,Tryz.ntmps65
 go_wp2_with (go_at_call 66;(with_reducible refine HC.out.mono ?_);rintro e w2 ⟨rfl,hp,hk⟩;have HZ:=Hd (And.intro hp hk);clear hp hk)
 go_end0
 exact ⟨rfl,HZ.out⟩
theorem put_func9 {f:FnU} {vp vb:Value} {w:World} {cb:Nat} (hc:w.heap[cb]? = some (.cells #[.int .i64 f.at_,.string f.name,.string f.type,vp,vb] 77 (0,0))) (hV:∀ w1,Below w.heap.size w w1 → IsVrs w.heap.size w1 vp f.params) (hB:∀ w1,Below w.heap.size w w1 → IsTr w.heap.size w1 vb f.body) (hty:∃ ps r,tyS f.type = some (.fn ps r)) (hI:f.body ≠ [] → checkN9 f.body = 0 ∧ lastK f.body = 21) (hl:f.params.length ≤ 1000000) (hn:(funT f).length < 1000000000000) :
 LinePut 67 #[.pointer (some ⟨cb,0,none⟩)] (funT f) w:=by
 intro w1 hP hE hb
 have HC:=Hd (function9_ok w.heap.size [] f vp vb w1 hP hE (hV w1 hb) (hB w1 hb) hty hI hl (by simpa using hn))
 obtain ⟨⟨y0,y1,y2,y3,y4⟩,_⟩:=five_blockP ((hb.block cb (lt_of_heap hc)).trans hc)
 show Calls Tryz.prog _ #[_,_] w1 _
 simp only [List.nil_append] at HC
 clear hP hE hb hc hV hB hl hn hty hI
 go_enter Tryz.func67,Tryz.ntmps67
 go_wp2_with (go_at_call 68;(with_reducible refine HC.out.mono ?_);rintro e w2 ⟨rfl,hp,hk⟩;have HZ:=Hd (And.intro hp hk);clear hp hk)
 go_end0
 exact ⟨rfl,HZ.out⟩
theorem firstU_all {α:Type} {f:α → Int}:∀ {L:List α} {n:Nat},firstE f L n = none → ∀ x ∈ L,f x = 0
 | [],_,_,x,h=>by cases h
 | y :: r,n,h,x,hx=>by
   rw [firstE] at h
   split at h
   ·cases h
   ·rename_i hy
    rcases List.mem_cons.1 hx with rfl | hx
    ·simpa using hy
    ·exact firstU_all h x hx
theorem firstU_ne {α:Type} {f:α → Int}:∀ {L:List α} {n:Nat} {p:Int × Int},firstE f L n = some p → p.2 ≠ 0
 | [],_,_,h=>by cases h
 | y :: r,n,p,h=>by
   rw [firstE] at h
   split at h
   ·rename_i hy
    obtain rfl:=Option.some.inj h
    exact hy
   ·exact firstU_ne h
theorem codeE_0 {x:Option (Int × Int)} (hx:∀ p,x = some p → p.2 ≠ 0) (h:codeE x = 0):x = none:=by
 cases x with
 | none=>rfl
 | some p=>exact absurd h (hx p rfl)
theorem learnF_right:∀ {L:List Sr} {K K':List Kn},learnF K L = .inr K' → ∀ s ∈ L,isNameB s.name = true ∧ s.mems.length ≤ 64
 | [],_,_,_,s,hs=>by cases hs
 | x :: l,K,K',h,s,hs=>by
   rw [learnF] at h
   split at h
   ·cases h
   ·rename_i k hk
    rcases List.mem_cons.1 hs with rfl | hs
    ·exact ⟨(addK_right hk).1,(addK_right hk).2.2.1⟩
    ·exact learnF_right h s hs
theorem code_ne9 (t:Ty):code t ≠ []:=by cases t <;> simp [code]
structure UnitR (u:UnU):Prop where
 few:u.structs.length ≤ 64 ∧ u.globals.length ≤ 256 ∧ u.funcs.length ≤ 256
 strs:∀ s ∈ u.structs,isNameB s.name = true ∧ s.mems.length ≤ 64
 glbs:∀ g ∈ u.globals,0 < g.var.type.size ∧ (∀ t ∈ g.init,checkN9 t = 0 ∧ exprK (lastK t) = true) ∧ g.init.length ≤ 4096
 funs:∀ f ∈ u.funcs,(∃ ps r,tyS f.type = some (.fn ps r)) ∧ (f.body ≠ [] → checkN9 f.body = 0 ∧ lastK f.body = 21) ∧ f.params.length ≤ 8
theorem globE_right {L:List Sr} {g:GlU} (h:globE L g = 0):0 < g.var.type.size ∧ (∀ t ∈ g.init,checkN9 t = 0 ∧ exprK (lastK t) = true) ∧ g.init.length ≤ 4096:=by
 unfold globE at h
 split at h
 ·cases h
 ·rename_i hh
  split at h
  ·cases h
  ·refine ⟨?_,fun t ht=>?_,by omega⟩
   ·have hh:headG L g = true:=by simpa using hh
    unfold headG objectS at hh
    simp only [Bool.and_eq_true] at hh
    have ho:=hh.2.2.2
    cases hty:tyS g.var.type with
    | none=>rw [hty] at ho;cases ho
    | some t=>
      obtain ⟨e,_,_⟩:=tyS_some.1 hty
      rw [e]
      have:=List.length_pos_iff.2 (code_ne9 t)
      exact this
   ·have hn:=codeE_0 (fun p hp=>firstU_ne hp) h
    have:=firstU_all hn t ht
    unfold itemE at this
    split at this
    ·rename_i h1;exact absurd this h1
    ·rename_i h1
     split at this
     ·cases this
     ·rename_i h2
      exact ⟨by simpa using h1,by simpa [lastK] using h2⟩
theorem funcE_right {L:List Sr} {f:FnU} (h:funcE L f = 0):(∃ ps r,tyS f.type = some (.fn ps r)) ∧ (f.body ≠ [] → checkN9 f.body = 0 ∧ lastK f.body = 21) ∧ f.params.length ≤ 8:=by
 unfold funcE at h
 split at h
 ·rename_i ps r hty
  split at h
  ·cases h
  ·rename_i hh
   split at h
   ·cases h
   ·refine ⟨⟨ps,r,hty⟩,fun hb=>?_,?_⟩
    ·unfold bodyE at h
     rw [if_neg hb] at h
     split at h
     ·rename_i h1;exact absurd h h1
     ·rename_i h1
      split at h
      ·cases h
      ·rename_i h2
       exact ⟨by simpa using h1,by simpa [lastK] using h2⟩
    ·have h1:headF L f = true:=by
      cases hf:headF L f
      ·exact absurd (Or.inl hf) hh
      ·rfl
     have h2:ps.length = f.params.length:=Classical.byContradiction fun e=>hh (Or.inr e)
     unfold headF at h1
     simp only [Bool.and_eq_true,decide_eq_true_eq] at h1
     have h3:=h1.2.2
     unfold checkN at h3
     split at h3
     ·rename_i h4;exact absurd h3 (learnK_ne h4)
     ·unfold checkS at h3
      rw [hty] at h3
      simp only at h3
      unfold checkT at h3
      split at h3
      ·cases h3
      ·split at h3
       ·cases h3
       ·rename_i h5
        rw [shapeT] at h5
        simp only [Bool.and_eq_false_iff,decide_eq_false_iff_not,not_or,Decidable.not_not] at h5
        omega
 ·cases h
theorem unit_right {u:UnU} (h:(unitE u).2 = 0):UnitR u:=by
 unfold unitE at h
 split at h
 ·cases h
 rename_i hl
 split at h
 ·rename_i h1;exact absurd h h1
 rename_i h1
 have hs:∀ s ∈ u.structs,isNameB s.name = true ∧ s.mems.length ≤ 64:=by
  unfold faultN at h1
  split at h1
  ·rename_i h2;exact absurd (learnK_ne h2) (by simpa using h1)
  ·rename_i K h2
   unfold learnK at h2
   split at h2
   ·cases h2
   ·exact learnF_right h2
 rcases hg:firstE (globE u.structs) u.globals 0 with _ | p
 ·rw [hg] at h
  simp only at h
  rcases hf:firstE (funcE u.structs) u.funcs 0 with _ | p
  ·exact ⟨by omega,hs,fun g hx=>globE_right (firstU_all hg g hx),fun f hx=>funcE_right (firstU_all hf f hx)⟩
  ·rw [hf] at h
   exact absurd h (firstU_ne hf)
 ·rw [hg] at h
  exact absurd h (firstU_ne hg)
end Go.Proofs.YtkokdafkjjcgoaaGreatDoor
