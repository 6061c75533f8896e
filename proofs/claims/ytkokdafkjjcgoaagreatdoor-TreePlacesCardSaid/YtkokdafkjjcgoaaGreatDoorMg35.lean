/- Trees put together; trees the same but for places -/
import Derived.Test.YtkokdafkjjcgoaaGreatDoorPrintW
namespace Go.Proofs.YtkokdafkjjcgoaaGreatDoor
def eqNd (x y:Nd):Bool:=decide (x.kind = y.kind) && (decide (x.n = y.n) && (decide (x.int = y.int) && (decide (x.text = y.text) && decide (x.type = y.type))))
def sameT:List Nd → List Nd → Bool
 | [],[]=>true
 | x :: a,y :: b=>eqNd x y && sameT a b
 | _,_=>false
theorem sameT_len:∀ {a b:List Nd},a.length ≠ b.length → sameT a b = false
 | [],[],h=>absurd rfl h
 | [],_ :: _,_=>rfl
 | _ :: _,[],_=>rfl
 | x :: a,y :: b,h=>by rw [sameT,sameT_len (a:=a) (b:=b) (by simpa using h),Bool.and_false]
theorem sameT_no:∀ {a b:List Nd} {i:Nat} (h1:i < a.length) (h2:i < b.length),eqNd a[i] b[i] = false → sameT a b = false
 | x :: a,y :: b,0,_,_,h=>by rw [sameT,show eqNd x y = false from h];rfl
 | x :: a,y :: b,i + 1,h1,h2,h=>by rw [sameT,sameT_no (a:=a) (b:=b) (i:=i) (by simpa using h1) (by simpa using h2) h,Bool.and_false]
theorem sameT_yes:∀ {a b:List Nd},a.length = b.length → (∀ (i:Nat) (h1:i < a.length) (h2:i < b.length),eqNd a[i] b[i] = true) → sameT a b = true
 | [],[],_,_=>rfl
 | x :: a,y :: b,hl,h=>by
   rw [sameT,show eqNd x y = true from h 0 (by simp) (by simp),sameT_yes (a:=a) (b:=b) (by simpa using hl) fun i h1 h2=>h (i + 1) (by simpa using h1) (by simpa using h2)]
   rfl
def mvN (d:Int) (x:Nd):Nd:=⟨x.kind,x.n,x.at_ + d,x.int,x.text,x.type⟩
def mvT (d:Int) (t:List Nd):List Nd:=t.map (mvN d)
def mvF (d:Int) (f:FnU):FnU:=⟨f.at_,f.name,f.type,f.params,mvT d f.body⟩
def mvU (d:Int) (u:UnU):UnU:=⟨u.structs,u.globals,u.funcs.map (mvF d)⟩
theorem mvT_len (d:Int) (t:List Nd):(mvT d t).length = t.length:=by simp [mvT]
theorem same_mv (d:Int):∀ t:List Nd,sameT (mvT d t) t = true
 | []=>rfl
 | x :: t=>by
   show sameT (mvN d x :: mvT d t) (x :: t) = true
   rw [sameT,same_mv d t]
   simp [eqNd,mvN]
theorem ndAt_mv (d:Int) (t:List Nd) (k:Nat):∃ a,ndAt (mvT d t) k = ⟨(ndAt t k).kind,(ndAt t k).n,a,(ndAt t k).int,(ndAt t k).text,(ndAt t k).type⟩:=by
 unfold ndAt mvT
 rw [List.getElem?_map]
 cases t[k]? with
 | none=>exact ⟨0,rfl⟩
 | some x=>exact ⟨x.at_ + d,rfl⟩
theorem kindAt_mv (d:Int) (t:List Nd) (k:Nat):kindAt (mvT d t) k = kindAt t k:=by
 unfold kindAt mvT
 rw [List.getElem?_map]
 cases t[k]? <;> rfl
theorem partsAt_mv (d:Int) (t:List Nd) (fr:List Nat) (k:Nat):partsAt (mvT d t) fr k = partsAt t fr k:=by
 unfold partsAt mvT
 rw [List.getElem?_map]
 cases t[k]? <;> rfl
theorem partF_mv (d:Int) (t:List Nd):partF (mvT d t) = partF t:=by
 funext e due p
 obtain ⟨a,h⟩:=ndAt_mv d t p
 unfold partF
 rw [h]
 rfl
theorem exprB_mv (d:Int) (t:List Nd) (l:List Nat) (e:Nat → List Tok) (k:Nat):exprB (mvT d t) l e (ndAt (mvT d t) k) = exprB t l e (ndAt t k):=by
 obtain ⟨a,h⟩:=ndAt_mv d t k
 unfold exprB backB
 rw [h,partF_mv]
 rfl
theorem exprF_mv (d:Int) (t:List Nd) (fr:List Nat):∀ m,exprF (mvT d t) fr m = exprF t fr m
 | 0=>by funext k;rfl
 | m + 1=>by
   funext k
   rw [exprF,exprF,exprF_mv d t fr m,partsAt_mv]
   exact exprB_mv ..
theorem exprN_mv (d:Int) (t:List Nd) (fr:List Nat):exprN (mvT d t) fr = exprN t fr:=by
 funext k
 unfold exprN
 rw [exprF_mv]
theorem partN_mv (d:Int) (t:List Nd) (fr:List Nat):partN (mvT d t) fr = partN t fr:=by
 funext due p
 unfold partN
 rw [exprN_mv,partF_mv]
theorem perF_mv (d:Int) (t:List Nd):perF (mvT d t) = perF t:=by
 funext f p
 unfold perF
 rw [kindAt_mv]
theorem stmtB_mv (d:Int) (t:List Nd) (l:List Nat) (f:Int → Nat → List Tok) (e:Nat → List Tok) (k:Nat):stmtB (mvT d t) l f e (ndAt (mvT d t) k) = stmtB t l f e (ndAt t k):=by
 obtain ⟨a,h⟩:=ndAt_mv d t k
 unfold stmtB
 rw [h,perF_mv]
theorem stmtF_mv (d:Int) (t:List Nd) (fr:List Nat):∀ m,stmtF (mvT d t) fr m = stmtF t fr m
 | 0=>by funext k;rfl
 | m + 1=>by
   funext k
   rw [stmtF,stmtF,stmtF_mv d t fr m,partsAt_mv,partN_mv]
   exact stmtB_mv ..
theorem beginsF_mv (d:Int):∀ (l:List Nd) (i:Nat) (st:List Nat),beginsF (mvT d l) i st = beginsF l i st
 | [],_,_=>rfl
 | x :: l,i,st=>by
   show beginsF (mvN d x :: mvT d l) i st = beginsF (x :: l) i st
   rw [beginsF,beginsF]
   simp only [beginsF_mv d l,mvN]
   rfl
theorem beginsN_mv (d:Int) (t:List Nd):beginsN (mvT d t) = beginsN t:=by
 unfold beginsN
 rw [beginsF_mv]
theorem deepF_mv (d:Int):∀ (l:List Nd) (st:List Nat),deepF (mvT d l) st = deepF l st
 | [],_=>rfl
 | x :: l,st=>by
   show deepF (mvN d x :: mvT d l) st = deepF (x :: l) st
   rw [deepF,deepF]
   simp only [deepF_mv d l,mvN]
theorem openF_mv (d:Int) (t:List Nd) (fr:List Nat):∀ m k,openF (mvT d t) fr m k = openF t fr m k
 | 0,_=>rfl
 | m + 1,k=>by
   rw [openF,openF]
   simp only [partsAt_mv,kindAt_mv,openF_mv d t fr m]
theorem mayAll_mv (d:Int) (t:List Nd) (k:Int):∀ (l:List Nat) (i:Nat),mayAll (mvT d t) k i l = mayAll t k i l
 | [],_=>rfl
 | p :: l,i=>by rw [mayAll,mayAll,kindAt_mv,mayAll_mv d t k l]
theorem fitsN_mv (d:Int) (t:List Nd) (fr:List Nat):fitsN (mvT d t) fr = fitsN t fr:=by
 funext k
 unfold fitsN openN
 rw [kindAt_mv,partsAt_mv,mayAll_mv,openF_mv]
def PlOk (d:Int) (t:List Nd):Prop:=∀ x ∈ t,0 ≤ x.at_ ∧ x.at_ + d ≤ 65536
theorem wellN_mv {d:Int} {x:Nd} (h0:0 ≤ d) (h:0 ≤ x.at_ ∧ x.at_ + d ≤ 65536):wellN (mvN d x) = wellN x:=by
 have e:sizeOk (mvN d x) = sizeOk x:=by
  unfold sizeOk mvN
  refine decide_eq_decide.2 ⟨fun ⟨h1,h2,h3,h4,h5⟩=>⟨h1,h2,h3,h.1,?_⟩,fun ⟨h1,h2,h3,h4,h5⟩=>⟨h1,h2,h3,?_,h.2⟩⟩
  ·omega
  ·show 0 ≤ x.at_ + d
   omega
 unfold wellN
 rw [e]
 rfl
theorem well_mv {d:Int} (h0:0 ≤ d):∀ {t:List Nd},PlOk d t → (mvT d t).all wellN = t.all wellN
 | [],_=>rfl
 | x :: t,h=>by
   show (mvN d x :: mvT d t).all wellN = (x :: t).all wellN
   rw [List.all_cons,List.all_cons,well_mv h0 (t:=t) (fun y hy=>h y (List.mem_cons_of_mem _ hy)),wellN_mv h0 (h x (by simp))]
theorem check_mv {d:Int} {t:List Nd} (h0:0 ≤ d) (h:PlOk d t):checkN9 (mvT d t) = checkN9 t:=by
 unfold checkN9 deepN
 rw [mvT_len,well_mv h0 h,beginsN_mv,deepF_mv]
 cases beginsN t with
 | none=>rfl
 | some fr=>simp only [fitsN_mv]
theorem mvT_nil (d:Int) (t:List Nd):mvT d t = [] ↔ t = []:=by
 cases t <;> simp [mvT]
theorem funcE_mv {d:Int} {L:List Sr} {f:FnU} (h0:0 ≤ d) (h:PlOk d f.body):funcE L (mvF d f) = funcE L f:=by
 have h1:decide ((mvF d f).body ≠ []) = decide (f.body ≠ []):=decide_eq_decide.2 (not_congr (mvT_nil d f.body))
 have h2:bodyE (mvF d f).body = bodyE f.body:=by
  show bodyE (mvT d f.body) = bodyE f.body
  unfold bodyE
  rw [check_mv h0 h,kindAt_mv,mvT_len]
  simp only [mvT_nil]
 unfold funcE
 rw [h1,h2]
 rfl
theorem firstE_mv {d:Int} {L:List Sr} (h0:0 ≤ d):∀ {F:List FnU} (n:Nat),(∀ f ∈ F,PlOk d f.body) → firstE (funcE L) (F.map (mvF d)) n = firstE (funcE L) F n
 | [],_,_=>rfl
 | f :: F,n,h=>by
   rw [List.map_cons,firstE,firstE,funcE_mv h0 (h f (by simp)),firstE_mv h0 (F:=F) (n + 1) (fun g hg=>h g (List.mem_cons_of_mem _ hg))]
theorem unitE_mv {d:Int} {u:UnU} (h0:0 ≤ d) (h:∀ f ∈ u.funcs,PlOk d f.body):unitE (mvU d u) = unitE u:=by
 unfold unitE
 have e:firstE (funcE (mvU d u).structs) (mvU d u).funcs 0 = firstE (funcE u.structs) u.funcs 0:=firstE_mv h0 0 h
 have e2:(mvU d u).funcs.length = u.funcs.length:=by simp [mvU]
 rw [e,e2]
 rfl
theorem funT_mv (d:Int) (f:FnU):funT (mvF d f) = funT f:=by
 have h2:stmtN (mvT d f.body) ((beginsN (mvT d f.body)).getD []) ((mvT d f.body).length - 1) = stmtN f.body ((beginsN f.body).getD []) (f.body.length - 1):=by
  unfold stmtN
  rw [beginsN_mv,mvT_len,stmtF_mv]
 unfold funT
 show funHd f ++ (if (mvT d f.body).length = 0 then _ else stmtN (mvT d f.body) ((beginsN (mvT d f.body)).getD []) ((mvT d f.body).length - 1)) = _
 rw [h2,mvT_len]
theorem printUR_mv {d:Int} {u:UnU} (h0:0 ≤ d) (h:∀ f ∈ u.funcs,PlOk d f.body):printUR (mvU d u) = printUR u:=by
 have e:linesU (mvU d u) = linesU u:=by
  unfold linesU
  show u.structs.map structT ++ (u.globals.map globT ++ (u.funcs.map (mvF d)).map funT) = _
  rw [List.map_map,show funT ∘ mvF d = funT from funext (funT_mv d)]
 unfold printUR
 rw [unitE_mv h0 h,e]
end Go.Proofs.YtkokdafkjjcgoaaGreatDoor
namespace Go.Proofs.YtkokdafkjjcgoaaGreatDoor
open Go.RowKit
theorem five_block {w:World} {b:Nat} {a0 a1 a2 a3 a4:Value} {T:TypeId} (h:w.heap[b]? = some (.cells #[a0,a1,a2,a3,a4] T (0,0))) :
 (w.cell? ⟨b,0,none⟩ = some a0 ∧ w.cell? ⟨b,1,none⟩ = some a1 ∧ w.cell? ⟨b,2,none⟩ = some a2 ∧ w.cell? ⟨b,3,none⟩ = some a3 ∧ w.cell? ⟨b,4,none⟩ = some a4) ∧ ∀ j,w.frozen? ⟨b,j,none⟩ = false:=by
 refine ⟨⟨?_,?_,?_,?_,?_⟩,fun j=>?_⟩ <;> simp [World.cell?,World.frozen?,h]
theorem three_block {w:World} {b:Nat} {a0 a1 a2:Value} {T:TypeId} (h:w.heap[b]? = some (.cells #[a0,a1,a2] T (0,0))) :
 (w.cell? ⟨b,0,none⟩ = some a0 ∧ w.cell? ⟨b,1,none⟩ = some a1 ∧ w.cell? ⟨b,2,none⟩ = some a2) ∧ ∀ j,w.frozen? ⟨b,j,none⟩ = false:=by
 refine ⟨⟨?_,?_,?_⟩,fun j=>?_⟩ <;> simp [World.cell?,World.frozen?,h]
abbrev fnUV (f:FnU) (vp vb:Value):Value:=.agg #[.int .i64 f.at_,.string f.name,.string f.type,vp,vb]
abbrev glUV (g:GlU) (v:Value):Value:=.agg #[.int .i64 g.at_,.string g.var.name,.string g.var.type,.bool g.var.vol,v]
def CodeEnd (c:Int) (w:World) (e:Ending) (w':World):Prop:=e = .returned (.int .i64 c) ∧ Below w.heap.size w w'
theorem codeEnd {c d:Int} {w w':World} (h:c = d) (hb:Below w.heap.size w w'):CodeEnd c w (.returned (.int .i64 d)) w':=⟨by rw [h],hb⟩
theorem funcE_head {L:List Sr} {f:FnU} (h:headF L f = false):funcE L f = 90:=by
 unfold funcE
 split
 ·rw [if_pos (.inl h)]
 ·rfl
theorem funcE_sign {L:List Sr} {f:FnU} (h:∀ ps r,tyS f.type ≠ some (.fn ps r)):funcE L f = 90:=by
 unfold funcE
 split
 ·rename_i ps r e;exact absurd e (h ps r)
 ·rfl
theorem sign_bad {s:ByteArray} {w:World} (hE:TE w) (h:∀ ps r,tyS s ≠ some (.fn ps r)):Calls Tryz.prog 115 #[.string s] w fun e w'=>(∃ s v c,e = .returned (.tuple #[.string s,v,.int .i64 c]) ∧ (c != 0) = true) ∧ Below w.heap.size w w':=by
 refine (sign_ok s w hE).mono fun e w' ⟨h1,h2⟩=>⟨?_,h2⟩
 rcases ht:tyS s with _ | t
 ·rw [ht] at h1
  exact ⟨_,_,2,h1,rfl⟩
 ·rw [ht] at h1
  cases t with
  | fn ps r=>exact absurd ht (h ps r)
  | _=>exact ⟨_,_,5,h1,rfl⟩
theorem sign_good {s:ByteArray} {w:World} {ps:List Ty} {r:Ty} (hE:TE w) (h:tyS s = some (.fn ps r)):Calls Tryz.prog 115 #[.string s] w fun e w'=>(∃ a cap,e = .returned (.tuple #[.string (tyB r),.slice a ps.length cap,.int .i64 0]) ∧ ∀ i (hi:i < ps.length),∃ g,a = some ⟨g,0,none⟩ ∧ g < w'.heap.size ∧ w'.cell? ⟨g,i,none⟩ = some (.string (tyB ps[i]))) ∧ Below w.heap.size w w':=by
 have:=sign_ok s w hE
 rw [h] at this
 refine this.mono fun e w' ⟨⟨v,he,ho⟩,h2⟩=>⟨?_,h2⟩
 rcases ho.2 with ⟨rfl,h0⟩ | ⟨g,cap,cur,rfl,_,hg,_⟩
 ·refine ⟨none,0,by rw [he,h0],fun i hi=>?_⟩
  omega
 ·refine ⟨some ⟨g,0,none⟩,cap,he,fun i hi=>⟨g,rfl,lt_of_heap hg,?_⟩⟩
  rw [ho.cellAt i (by omega),List.getElem?_map,List.getElem?_eq_getElem hi]
  rfl
theorem lexIsName_is (r:Bool) (s:ByteArray) (w:World) (hK:KeysAt w) (h:isNameB s = r):Calls Tryz.prog 124 #[.string s] w fun e w'=>e = .returned (.bool r) ∧ Below w.heap.size w w':=by
 subst h;exact lexIsName_any s w hK
theorem sign_any (s:ByteArray) (w:World) (hE:TE w):Calls Tryz.prog 115 #[.string s] w fun e w'=>(∃ s v c,e = .returned (.tuple #[.string s,v,.int .i64 c])) ∧ Below w.heap.size w w':=by
 refine (sign_ok s w hE).mono fun e w' ⟨h1,h2⟩=>⟨?_,h2⟩
 rcases ht:tyS s with _ | t
 ·rw [ht] at h1
  exact ⟨_,_,_,h1⟩
 ·rw [ht] at h1
  cases t with
  | fn ps r=>
    obtain ⟨v,he,_⟩:=h1
    exact ⟨_,_,_,he⟩
  | _=>exact ⟨_,_,_,h1⟩
set_option maxRecDepth 100000 in
set_option maxHeartbeats 4000000 in
theorem func9_name (f:FnU) (vp vb:Value) (l:Option Addr) (lc:Nat) (L:List Sr) (mv:List Value) (w:World) (hE:TE w) (hF:IsFnU w.heap.size w f vp vb) (hS:IsSrs w.heap.size w l L mv) (hn:isNameB f.name = false) :
 Calls Tryz.prog 75 #[fnUV f vp vb,.slice l L.length lc] w (CodeEnd (funcE L f) w):=by
 have hfin:funcE L f = 90:=funcE_head (by unfold headF;rw [hn];rfl)
 have HNm:=Hd (fun w (hK:KeysAt w)=>lexIsName_is false f.name w hK hn)
 obtain ⟨fat,fname,ftype,fparams,fbody⟩:=f
 simp only [fnUV] at *
 go_enter Tryz.func75,Tryz.ntmps75
 go_upto_region 1 with fail
 have hx0:(w.alloc (.cells #[.int .i64 fat,.string fname,.string ftype,vp,vb] 77)).heap[w.heap.size]? = some (.cells #[.int .i64 fat,.string fname,.string ftype,vp,vb] 77 (0,0)):=heap_alloc_new _ _
 have hb0:=ba1 w (.cells #[.int .i64 fat,.string fname,.string ftype,vp,vb] 77)
 generalize w.alloc (.cells #[.int .i64 fat,.string fname,.string ftype,vp,vb] 77) = w0 at *
 have HNd:=Hd (fun w' (h:Below w0.heap.size w0 w')=>(five_block ((h.block _ (lt_of_heap hx0)).trans hx0)).1)
 have HB0:=Hd hb0
 have HEx:=Hd (fun w' (h:Below w0.heap.size w0 w')=>hE.below (hb0.trans (h.mono hb0.size)))
 have HSx:=Hd (fun w' (h:Below w0.heap.size w0 w')=>(hS.below (hb0.trans (h.mono hb0.size))).mono (hb0.trans (h.mono hb0.size)).size)
 have HSg:=Hd (sign_any ftype w0 (HEx.out w0 (Below.refl _ _)))
 obtain ⟨x0,x1,x2,x3,x4⟩:=HNd.out w0 (Below.refl _ _)
 have HFin:=Hd hfin
 clear hE hF hS hx0 hb0 hfin
 go_wp2_with (first
  | (go_at_call 115;(with_reducible refine HSg.out.mono ?_);rintro e w1 ⟨⟨s1,v1,c1,rfl⟩,hb1⟩;have HB1:=Hd (hb1);obtain ⟨x0,x1,x2,x3,x4⟩:=HNd.out w1 HB1.out;have HN1:=Hd (HNm.out w1 (HEx.out w1 HB1.out).keys);clear hb1)
  | (go_at_call 124;(with_reducible refine HN1.out.mono ?_);rintro e w2 ⟨rfl,hb2⟩;have HB2:=Ht HB1 hb2;obtain ⟨x0,x1,x2,x3,x4⟩:=HNd.out w2 HB2.out;clear hb2))
 go_ret
 exact codeEnd HFin.out (HB0.out.trans (HB2.out.mono HB0.out.size))
set_option maxRecDepth 100000 in
set_option maxHeartbeats 4000000 in
theorem func9_lo (f:FnU) (vp vb:Value) (l:Option Addr) (lc:Nat) (L:List Sr) (mv:List Value) (w:World) (hE:TE w) (hF:IsFnU w.heap.size w f vp vb) (hS:IsSrs w.heap.size w l L mv) (hn:isNameB f.name = true) (ha:f.at_ < 0) :
 Calls Tryz.prog 75 #[fnUV f vp vb,.slice l L.length lc] w (CodeEnd (funcE L f) w):=by
 have hfin:funcE L f = 90:=funcE_head (by unfold headF;rw [hn,decide_eq_false (by omega)];rfl)
 have HNm:=Hd (fun w (hK:KeysAt w)=>lexIsName_is true f.name w hK hn)
 obtain ⟨fat,fname,ftype,fparams,fbody⟩:=f
 simp only [fnUV] at *
 go_enter Tryz.func75,Tryz.ntmps75
 go_upto_region 1 with fail
 have hx0:(w.alloc (.cells #[.int .i64 fat,.string fname,.string ftype,vp,vb] 77)).heap[w.heap.size]? = some (.cells #[.int .i64 fat,.string fname,.string ftype,vp,vb] 77 (0,0)):=heap_alloc_new _ _
 have hb0:=ba1 w (.cells #[.int .i64 fat,.string fname,.string ftype,vp,vb] 77)
 generalize w.alloc (.cells #[.int .i64 fat,.string fname,.string ftype,vp,vb] 77) = w0 at *
 have HNd:=Hd (fun w' (h:Below w0.heap.size w0 w')=>(five_block ((h.block _ (lt_of_heap hx0)).trans hx0)).1)
 have HB0:=Hd hb0
 have HEx:=Hd (fun w' (h:Below w0.heap.size w0 w')=>hE.below (hb0.trans (h.mono hb0.size)))
 have HSx:=Hd (fun w' (h:Below w0.heap.size w0 w')=>(hS.below (hb0.trans (h.mono hb0.size))).mono (hb0.trans (h.mono hb0.size)).size)
 have HSg:=Hd (sign_any ftype w0 (HEx.out w0 (Below.refl _ _)))
 obtain ⟨x0,x1,x2,x3,x4⟩:=HNd.out w0 (Below.refl _ _)
 have HFin:=Hd hfin
 have t1:decide (fat < 0) = true:=by simpa using ha
 clear hE hF hS hx0 hb0 hfin ha
 go_wp2_with (first
  | (go_at_call 115;(with_reducible refine HSg.out.mono ?_);rintro e w1 ⟨⟨s1,v1,c1,rfl⟩,hb1⟩;have HB1:=Hd (hb1);obtain ⟨x0,x1,x2,x3,x4⟩:=HNd.out w1 HB1.out;have HN1:=Hd (HNm.out w1 (HEx.out w1 HB1.out).keys);clear hb1)
  | (go_at_call 124;(with_reducible refine HN1.out.mono ?_);rintro e w2 ⟨rfl,hb2⟩;have HB2:=Ht HB1 hb2;obtain ⟨x0,x1,x2,x3,x4⟩:=HNd.out w2 HB2.out;clear hb2))
 go_ret
 exact codeEnd HFin.out (HB0.out.trans (HB2.out.mono HB0.out.size))
set_option maxRecDepth 100000 in
set_option maxHeartbeats 4000000 in
theorem func9_hi (f:FnU) (vp vb:Value) (l:Option Addr) (lc:Nat) (L:List Sr) (mv:List Value) (w:World) (hE:TE w) (hF:IsFnU w.heap.size w f vp vb) (hS:IsSrs w.heap.size w l L mv) (hn:isNameB f.name = true) (ha:¬ f.at_ < 0) (ha2:65536 < f.at_) :
 Calls Tryz.prog 75 #[fnUV f vp vb,.slice l L.length lc] w (CodeEnd (funcE L f) w):=by
 have hfin:funcE L f = 90:=funcE_head (by unfold headF;rw [hn,decide_eq_false (by omega)];rfl)
 have HNm:=Hd (fun w (hK:KeysAt w)=>lexIsName_is true f.name w hK hn)
 obtain ⟨fat,fname,ftype,fparams,fbody⟩:=f
 simp only [fnUV] at *
 go_enter Tryz.func75,Tryz.ntmps75
 go_upto_region 1 with fail
 have hx0:(w.alloc (.cells #[.int .i64 fat,.string fname,.string ftype,vp,vb] 77)).heap[w.heap.size]? = some (.cells #[.int .i64 fat,.string fname,.string ftype,vp,vb] 77 (0,0)):=heap_alloc_new _ _
 have hb0:=ba1 w (.cells #[.int .i64 fat,.string fname,.string ftype,vp,vb] 77)
 generalize w.alloc (.cells #[.int .i64 fat,.string fname,.string ftype,vp,vb] 77) = w0 at *
 have HNd:=Hd (fun w' (h:Below w0.heap.size w0 w')=>(five_block ((h.block _ (lt_of_heap hx0)).trans hx0)).1)
 have HB0:=Hd hb0
 have HEx:=Hd (fun w' (h:Below w0.heap.size w0 w')=>hE.below (hb0.trans (h.mono hb0.size)))
 have HSx:=Hd (fun w' (h:Below w0.heap.size w0 w')=>(hS.below (hb0.trans (h.mono hb0.size))).mono (hb0.trans (h.mono hb0.size)).size)
 have HSg:=Hd (sign_any ftype w0 (HEx.out w0 (Below.refl _ _)))
 obtain ⟨x0,x1,x2,x3,x4⟩:=HNd.out w0 (Below.refl _ _)
 have HFin:=Hd hfin
 have t1:decide (fat < 0) = false:=by simpa using ha
 have t2:decide (65536 < fat) = true:=by simpa using ha2
 clear hE hF hS hx0 hb0 hfin ha ha2
 go_wp2_with (first
  | (go_at_call 115;(with_reducible refine HSg.out.mono ?_);rintro e w1 ⟨⟨s1,v1,c1,rfl⟩,hb1⟩;have HB1:=Hd (hb1);obtain ⟨x0,x1,x2,x3,x4⟩:=HNd.out w1 HB1.out;have HN1:=Hd (HNm.out w1 (HEx.out w1 HB1.out).keys);clear hb1)
  | (go_at_call 124;(with_reducible refine HN1.out.mono ?_);rintro e w2 ⟨rfl,hb2⟩;have HB2:=Ht HB1 hb2;obtain ⟨x0,x1,x2,x3,x4⟩:=HNd.out w2 HB2.out;clear hb2))
 go_ret
 exact codeEnd HFin.out (HB0.out.trans (HB2.out.mono HB0.out.size))
set_option maxRecDepth 100000 in
set_option maxHeartbeats 4000000 in
theorem func9_bad (f:FnU) (vp vb:Value) (l:Option Addr) (lc:Nat) (L:List Sr) (mv:List Value) (w:World) (hE:TE w) (hF:IsFnU w.heap.size w f vp vb) (hS:IsSrs w.heap.size w l L mv) (hn:isNameB f.name = true) (ha:¬ f.at_ < 0) (ha2:¬ 65536 < f.at_) (hs:∀ ps r,tyS f.type ≠ some (.fn ps r)) :
 Calls Tryz.prog 75 #[fnUV f vp vb,.slice l L.length lc] w (CodeEnd (funcE L f) w):=by
 have hfin:funcE L f = 90:=funcE_sign hs
 have HNm:=Hd (fun w (hK:KeysAt w)=>lexIsName_is true f.name w hK hn)
 obtain ⟨fat,fname,ftype,fparams,fbody⟩:=f
 simp only [fnUV] at *
 go_enter Tryz.func75,Tryz.ntmps75
 go_upto_region 1 with fail
 have hx0:(w.alloc (.cells #[.int .i64 fat,.string fname,.string ftype,vp,vb] 77)).heap[w.heap.size]? = some (.cells #[.int .i64 fat,.string fname,.string ftype,vp,vb] 77 (0,0)):=heap_alloc_new _ _
 have hb0:=ba1 w (.cells #[.int .i64 fat,.string fname,.string ftype,vp,vb] 77)
 generalize w.alloc (.cells #[.int .i64 fat,.string fname,.string ftype,vp,vb] 77) = w0 at *
 have HNd:=Hd (fun w' (h:Below w0.heap.size w0 w')=>(five_block ((h.block _ (lt_of_heap hx0)).trans hx0)).1)
 have HB0:=Hd hb0
 have HEx:=Hd (fun w' (h:Below w0.heap.size w0 w')=>hE.below (hb0.trans (h.mono hb0.size)))
 have HSx:=Hd (fun w' (h:Below w0.heap.size w0 w')=>(hS.below (hb0.trans (h.mono hb0.size))).mono (hb0.trans (h.mono hb0.size)).size)
 have HSg:=Hd (sign_bad (HEx.out w0 (Below.refl _ _)) hs)
 obtain ⟨x0,x1,x2,x3,x4⟩:=HNd.out w0 (Below.refl _ _)
 have HFin:=Hd hfin
 have t1:decide (fat < 0) = false:=by simpa using ha
 have t2:decide (65536 < fat) = false:=by simpa using ha2
 clear hE hF hS hx0 hb0 hfin ha ha2 hs
 go_wp2_with (first
  | (go_at_call 115;(with_reducible refine HSg.out.mono ?_);rintro e w1 ⟨⟨s1,v1,c1,rfl,hc1⟩,hb1⟩;have HB1:=Hd (hb1);obtain ⟨x0,x1,x2,x3,x4⟩:=HNd.out w1 HB1.out;have HN1:=Hd (HNm.out w1 (HEx.out w1 HB1.out).keys);clear hb1)
  | (go_at_call 124;(with_reducible refine HN1.out.mono ?_);rintro e w2 ⟨rfl,hb2⟩;have HB2:=Ht HB1 hb2;obtain ⟨x0,x1,x2,x3,x4⟩:=HNd.out w2 HB2.out;clear hb2))
 go_ret
 exact codeEnd HFin.out (HB0.out.trans (HB2.out.mono HB0.out.size))
theorem checkAll_is (c:Int) (s:ByteArray) (a:Option Addr) (cap:Nat) (L:List Sr) (mv:List Value) (w:World) (hE:TE w) (hS:IsSrs w.heap.size w a L mv) (h:checkN L s = c) :
 Calls Tryz.prog 125 #[.string s,.slice a L.length cap] w fun e w'=>e = .returned (.int .i64 c) ∧ Below w.heap.size w w':=by subst h;exact checkAll_ok s a cap L mv w hE hS
set_option maxRecDepth 100000 in
set_option maxHeartbeats 4000000 in
theorem func9_check (f:FnU) (vp vb:Value) (l:Option Addr) (lc:Nat) (L:List Sr) (mv:List Value) (w:World) (hE:TE w) (hF:IsFnU w.heap.size w f vp vb) (hS:IsSrs w.heap.size w l L mv) (hn:isNameB f.name = true) (ha:¬ f.at_ < 0) (ha2:¬ 65536 < f.at_) {ps:List Ty} {r:Ty} (hs:tyS f.type = some (.fn ps r)) (hc:checkN L f.type ≠ 0) :
 Calls Tryz.prog 75 #[fnUV f vp vb,.slice l L.length lc] w (CodeEnd (funcE L f) w):=by
 have hfin:funcE L f = 90:=funcE_head (by unfold headF;rw [decide_eq_false hc];simp)
 have HNm:=Hd (fun w (hK:KeysAt w)=>lexIsName_is true f.name w hK hn)
 obtain ⟨fat,fname,ftype,fparams,fbody⟩:=f
 simp only [fnUV] at *
 go_enter Tryz.func75,Tryz.ntmps75
 go_upto_region 1 with fail
 have hx0:(w.alloc (.cells #[.int .i64 fat,.string fname,.string ftype,vp,vb] 77)).heap[w.heap.size]? = some (.cells #[.int .i64 fat,.string fname,.string ftype,vp,vb] 77 (0,0)):=heap_alloc_new _ _
 have hb0:=ba1 w (.cells #[.int .i64 fat,.string fname,.string ftype,vp,vb] 77)
 generalize w.alloc (.cells #[.int .i64 fat,.string fname,.string ftype,vp,vb] 77) = w0 at *
 have HNd:=Hd (fun w' (h:Below w0.heap.size w0 w')=>(five_block ((h.block _ (lt_of_heap hx0)).trans hx0)).1)
 have HB0:=Hd hb0
 have HEx:=Hd (fun w' (h:Below w0.heap.size w0 w')=>hE.below (hb0.trans (h.mono hb0.size)))
 have HSx:=Hd (fun w' (h:Below w0.heap.size w0 w')=>(hS.below (hb0.trans (h.mono hb0.size))).mono (hb0.trans (h.mono hb0.size)).size)
 have HSg:=Hd (sign_good (HEx.out w0 (Below.refl _ _)) hs)
 have HCk:=Hd (fun w' (h:Below w0.heap.size w0 w')=>checkAll_ok ftype l lc L mv w' (HEx.out w' h) (HSx.out w' h))
 obtain ⟨x0,x1,x2,x3,x4⟩:=HNd.out w0 (Below.refl _ _)
 have HFin:=Hd hfin
 have t3:(checkN L ftype != 0) = true:=by simpa using hc
 have t1:decide (fat < 0) = false:=by simpa using ha
 have t2:decide (65536 < fat) = false:=by simpa using ha2
 clear hE hF hS hx0 hb0 hfin ha ha2 hs hc
 generalize checkN L ftype = cc at *
 go_wp2_with (first
  | (go_at_call 115;(with_reducible refine HSg.out.mono ?_);rintro e w1 ⟨⟨pa,pc,rfl,hpr⟩,hb1⟩;have HB1:=Hd (hb1);obtain ⟨x0,x1,x2,x3,x4⟩:=HNd.out w1 HB1.out;have HPr:=Hd hpr;have HN1:=Hd (HNm.out w1 (HEx.out w1 HB1.out).keys);clear hb1)
  | (go_at_call 124;(with_reducible refine HN1.out.mono ?_);rintro e w2 ⟨rfl,hb2⟩;have HB2:=Ht HB1 hb2;obtain ⟨x0,x1,x2,x3,x4⟩:=HNd.out w2 HB2.out;have HC2:=Hd (HCk.out w2 HB2.out);clear hb2)
  | (go_at_call 125;(with_reducible refine HC2.out.mono ?_);rintro e w3 ⟨rfl,hb3⟩;have HB3:=Ht HB2 hb3;obtain ⟨x0,x1,x2,x3,x4⟩:=HNd.out w3 HB3.out;clear hb3))
 go_ret
 exact codeEnd HFin.out (HB0.out.trans (HB3.out.mono HB0.out.size))
set_option maxRecDepth 100000 in
set_option maxHeartbeats 4000000 in
theorem func9_len (f:FnU) (vp vb:Value) (l:Option Addr) (lc:Nat) (L:List Sr) (mv:List Value) (w:World) (hE:TE w) (hF:IsFnU w.heap.size w f vp vb) (hS:IsSrs w.heap.size w l L mv) (hn:isNameB f.name = true) (ha:¬ f.at_ < 0) (ha2:¬ 65536 < f.at_) {ps:List Ty} {r:Ty} (hs:tyS f.type = some (.fn ps r)) (hc:checkN L f.type = 0) (hl:ps.length ≠ f.params.length) :
 Calls Tryz.prog 75 #[fnUV f vp vb,.slice l L.length lc] w (CodeEnd (funcE L f) w):=by
 have hfin:funcE L f = 90:=by
  unfold funcE
  rw [hs]
  exact if_pos (.inr hl)
 obtain ⟨ap,cp,rfl,hsp,hsl,hvo⟩:=hF.params
 have HNm:=Hd (fun w (hK:KeysAt w)=>lexIsName_is true f.name w hK hn)
 obtain ⟨fat,fname,ftype,fparams,fbody⟩:=f
 simp only [fnUV] at *
 go_enter Tryz.func75,Tryz.ntmps75
 go_upto_region 1 with fail
 have hx0:(w.alloc (.cells #[.int .i64 fat,.string fname,.string ftype,.slice ap fparams.length cp,vb] 77)).heap[w.heap.size]? = some (.cells #[.int .i64 fat,.string fname,.string ftype,.slice ap fparams.length cp,vb] 77 (0,0)):=heap_alloc_new _ _
 have hb0:=ba1 w (.cells #[.int .i64 fat,.string fname,.string ftype,.slice ap fparams.length cp,vb] 77)
 generalize w.alloc (.cells #[.int .i64 fat,.string fname,.string ftype,.slice ap fparams.length cp,vb] 77) = w0 at *
 have HNd:=Hd (fun w' (h:Below w0.heap.size w0 w')=>(five_block ((h.block _ (lt_of_heap hx0)).trans hx0)).1)
 have HB0:=Hd hb0
 have HEx:=Hd (fun w' (h:Below w0.heap.size w0 w')=>hE.below (hb0.trans (h.mono hb0.size)))
 have HSx:=Hd (fun w' (h:Below w0.heap.size w0 w')=>(hS.below (hb0.trans (h.mono hb0.size))).mono (hb0.trans (h.mono hb0.size)).size)
 have HSg:=Hd (sign_good (HEx.out w0 (Below.refl _ _)) hs)
 have HCk:=Hd (fun w' (h:Below w0.heap.size w0 w')=>checkAll_is 0 ftype l lc L mv w' (HEx.out w' h) (HSx.out w' h) hc)
 obtain ⟨x0,x1,x2,x3,x4⟩:=HNd.out w0 (Below.refl _ _)
 have HFin:=Hd hfin
 have t3:((ps.length:Int) != (fparams.length:Int)) = true:=by simp;omega
 have t1:decide (fat < 0) = false:=by simpa using ha
 have t2:decide (65536 < fat) = false:=by simpa using ha2
 clear hE hF hS hx0 hb0 hfin ha ha2 hs hc hl
 go_wp2_with (first
  | (go_at_call 115;(with_reducible refine HSg.out.mono ?_);rintro e w1 ⟨⟨pa,pc,rfl,hpr⟩,hb1⟩;have HB1:=Hd (hb1);obtain ⟨x0,x1,x2,x3,x4⟩:=HNd.out w1 HB1.out;have HPr:=Hd hpr;have HN1:=Hd (HNm.out w1 (HEx.out w1 HB1.out).keys);clear hb1)
  | (go_at_call 124;(with_reducible refine HN1.out.mono ?_);rintro e w2 ⟨rfl,hb2⟩;have HB2:=Ht HB1 hb2;obtain ⟨x0,x1,x2,x3,x4⟩:=HNd.out w2 HB2.out;have HC2:=Hd (HCk.out w2 HB2.out);clear hb2)
  | (go_at_call 125;(with_reducible refine HC2.out.mono ?_);rintro e w3 ⟨rfl,hb3⟩;have HB3:=Ht HB2 hb3;obtain ⟨x0,x1,x2,x3,x4⟩:=HNd.out w3 HB3.out;clear hb3))
 go_ret
 exact codeEnd HFin.out (HB0.out.trans (HB3.out.mono HB0.out.size))
end Go.Proofs.YtkokdafkjjcgoaaGreatDoor
