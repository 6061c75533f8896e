/- A region that draws its order: an operation that leaves the  -/
import Derived.OrdersHeld
import Derived.StillTail
import Derived.RegionTactic
import Derived.Deep.RegionLaw
namespace Go
section
variable {P:Program} {ops:Array Oper} {Q:Exit → Act → World → Prop} {md:Region.Mode} {S:World → Prop} {T:Nat → Bool}
def stillUpon (P:Program) (w:World) (v:Value):Result Next → Prop
 | .ok (.value u) w'=>u = v ∧ w' = w
 | .ok (.enter f args) w'=>w' = w ∧ Calls P f args w fun e w''=>e = .returned v ∧ w'' = w
 | _=>False
def YieldsS (P:Program) (ops:Array Oper) (S:World → Prop) (o:Oper) (v:Value) (a:Act):Prop:=
 (Region.wanted o (yielded ops a.tmps) = true ∧ ∀ w,S w → stillUpon P w v ((execOp a.eval o).run P w)) ∨
 (Region.wanted o (yielded ops a.tmps) = false ∧ v = undef)
theorem YieldsS.wpOp {i:Nat} {o:Oper} {v:Value} {a:Act} (hi:ops[i]? = some o) (hy:YieldsS P ops S o v a)
 {K:Act → World → Prop} {w:World} (hS:S w) (h:K (a.put o.dst v) w):wpOp P ops Q i K a w:=by
 unfold Go.wpOp
 simp only [hi]
 rcases hy with ⟨hw,hv⟩ | ⟨hw,rfl⟩
 ·simp only [hw,if_true,Oper.wp]
  left
  have h1:=hv w hS
  generalize (execOp a.eval o).run P w = r at *
  cases r with
  | ok n w'=>
    cases n <;> simp only [stillUpon] at h1 <;> simp only [Oper.upon]
    case value u=>
     obtain ⟨rfl,rfl⟩:=h1
     exact h
    case enter f args=>
     obtain ⟨rfl,hc⟩:=h1
     exact hc.mono fun e w'' ⟨he,hw''⟩=>by subst he;subst hw'';exact h
  | halt x w'=>simp only [stillUpon] at h1
 ·simp only [hw,Bool.false_eq_true,if_false];exact h
theorem YieldsS.of_same {o:Oper} {v:Value} {a a':Act} (hy:YieldsS P ops S o v a) (he:execOp a'.eval o = execOp a.eval o)
 (hw:Region.wanted o (yielded ops a'.tmps) = Region.wanted o (yielded ops a.tmps)):YieldsS P ops S o v a':=by
 unfold YieldsS at *
 rw [he,hw]
 exact hy
theorem wpOp_putS {j:Nat} {oi oj:Oper} {v:Value} (hj:ops[j]? = some oj) (hap:oi.apart ops oj = true)
 (hsi:∀ cs b,oi.op ≠ .select cs b) (hsj:∀ cs b,oj.op ≠ .select cs b)
 (hQ:∀ c a w,Q (.panic c) (a.put oi.dst v) w → Q (.panic c) a w) {K:Act → World → Prop} {a:Act} {w:World}
 (hy:YieldsS P ops S oi v a) (h:wpOp P ops Q j K (a.put oi.dst v) w) :
 wpOp P ops Q j (fun a' w'=>YieldsS P ops S oi v a' ∧ K (a'.put oi.dst v) w') a w:=by
 obtain ⟨h1,h2,h3⟩:=Oper.apart_spec hap
 have keep:∀ (a:Act),YieldsS P ops S oi v a → ∀ u,YieldsS P ops S oi v (a.put oj.dst u):=fun a hy u=>
  hy.of_same (execOp_put oi hsi a oj.dst u h3) (wanted_put oi a oj.dst u h3)
 have keepD:∀ d,YieldsS P ops S oi v { a with defers:=d :: a.defers }:=fun d=>hy.of_same rfl rfl
 unfold wpOp at *
 simp only [hj] at *
 rw [wanted_put oj a oi.dst v h1] at h
 split
 ·rename_i hw
  simp only [hw,if_true] at h
  rcases h with h | ⟨hasks,hlets⟩
  case inr=>exact .inr ⟨by unfold Oper.asks at *;rw [execOp_put oj hsj a oi.dst v h1] at hasks;exact hasks,hlets⟩
  refine .inl ?_
  unfold Oper.wp at *
  rw [execOp_put oj hsj a oi.dst v h1] at h
  generalize (execOp a.eval oj).run P w = r at *
  cases r with
  | ok n w'=>
    cases n <;> simp only [Oper.upon] at h ⊢
    case value u=>exact ⟨keep a hy u,by rw [← Act.put_comm a v u h2];exact h⟩
    case skip=>exact ⟨keep a hy _,by rw [← Act.put_comm a v undef h2];exact h⟩
    case defer d=>
     refine ⟨keep _ (keepD d) _,?_⟩
     rw [← Act.put_comm _ v undef h2,← Act.put_defers]
     exact h
    case enter f args=>
     refine Calls.mono h fun e w'' he=>?_
     cases e with
     | returned u=>exact ⟨keep a hy u,by rw [← Act.put_comm a v u h2];exact he⟩
     | panicked c=>exact hQ _ _ _ he
     | outgrown=>exact he
    case row row args=>exact Rows.mono h fun u w'' he=>⟨keep a hy u,by rw [← Act.put_comm a v u h2];exact he⟩
  | halt x w'=>
    cases x <;> simp only [Oper.upon] at h ⊢
    case panic u=>exact hQ _ _ _ h
 ·rename_i hw
  simp only [hw] at h
  exact ⟨keep a hy _,by rw [← Act.put_comm a v undef h2];exact h⟩
def wpAnyT (P:Program) (md:Region.Mode) (ops:Array Oper) (Q:Exit → Act → World → Prop) (S:World → Prop) (T:Nat → Bool):Nat → Array Bool → Act → World → Prop
 | 0,listed,a,w=>Region.ready md ops listed = [] ∧ Q .normal a w
 | fuel + 1,listed,a,w=>
   (Region.ready md ops listed = [] → Q .normal a w) ∧
   ∀ i ∈ Region.ready md ops listed,wpOp P ops Q i (fun a' w'=>if T i = true then wpAny P md ops Q fuel (listed.setIfInBounds i true) a' w' else S w' ∧ wpAnyT P md ops Q S T fuel (listed.setIfInBounds i true) a' w') a w
theorem wpAny_of_T:∀ (fuel:Nat) (listed:Array Bool) (a:Act) (w:World),wpAnyT P md ops Q S T fuel listed a w → wpAny P md ops Q fuel listed a w
 | 0,_,_,_,h=>h
 | fuel + 1,_,_,_,h=>⟨h.1,fun i hi=>wpOp_mono (fun a' w' h'=>by
    by_cases ht:T i = true
    ·rw [if_pos ht] at h';exact h'
    ·rw [if_neg ht] at h';exact wpAny_of_T fuel _ a' w' h'.2) (h.2 i hi)⟩
theorem wpAnyT_first {i:Nat} {oi:Oper} {v:Value} (hi:ops[i]? = some oi) (hsel:∀ (j:Nat) (o:Oper) cs b,ops[j]? = some o → o.op ≠ .select cs b)
 (hQ:∀ c a w,Q (.panic c) (a.put oi.dst v) w → Q (.panic c) a w) (hT:∀ j,T j = true → Region.waitsFor md ops j i = true) :
 ∀ (fuel:Nat) (listed:Array Bool) (a:Act) (w:World),
  (∀ j oj,ops[j]? = some oj → j ≠ i → listed.getD j true = false → (∀ e ∈ oj.after,Region.binds md e = true → e.on ≠ i) → oi.apart ops oj = true) →
  i ∈ Region.ready md ops listed → YieldsS P ops S oi v a → S w → T i = false →
  wpAnyT P md ops Q S T fuel (listed.setIfInBounds i true) (a.put oi.dst v) w → wpAnyT P md ops Q S T (fuel + 1) listed a w:=by
 intro fuel
 induction fuel with
 | zero=>
   intro listed a w _ hr hy hS hTi H
   refine ⟨fun h=>(by rw [h] at hr;cases hr),fun j hj=>?_⟩
   by_cases hji:j = i
   ·subst hji;exact hy.wpOp hi hS (by rw [if_neg (by rw [hTi];decide)];exact ⟨hS,H⟩)
   ·have:=ready_mono hj hji
    rw [H.1] at this
    cases this
 | succ fuel ih=>
   intro listed a w hfree hr hy hS hTi H
   refine ⟨fun h=>(by rw [h] at hr;cases hr),fun j hj=>?_⟩
   by_cases hji:j = i
   ·subst hji;exact hy.wpOp hi hS (by rw [if_neg (by rw [hTi];decide)];exact ⟨hS,H⟩)
   ·have h1:=H.2 j (ready_mono hj hji)
    obtain ⟨hjun,oj,hoj,hall⟩:=mem_ready.1 hj
    have hnot:∀ e ∈ oj.after,Region.binds md e = true → e.on ≠ i:=fun e he hb heq=>by
     have h1:=hall e he hb
     have h0:=(mem_ready.1 hr).1
     rw [heq] at h1
     rcases Nat.lt_or_ge i listed.size with h' | h'
     ·simp [h'] at h0 h1;rw [h0] at h1;cases h1
     ·simp [Array.getElem?_eq_none h'] at h1
    have hTj:¬ T j = true:=fun ht=>by
     obtain ⟨oj',hoj',e,he,hb,hon⟩:=Region.waitsFor_spec (hT j ht)
     have:oj' = oj:=Option.some.inj (hoj'.symm.trans hoj)
     subst this
     exact hnot e he hb hon
    simp only [if_neg hTj] at h1 ⊢
    have h2:=wpOp_putS hoj (hfree j oj hoj hji hjun hnot) (fun cs b=>hsel i oi cs b hi) (fun cs b=>hsel j oj cs b hoj) hQ hy h1
    have hfree':∀ k ok,ops[k]? = some ok → k ≠ i → (listed.setIfInBounds j true).getD k true = false →
     (∀ e ∈ ok.after,Region.binds md e = true → e.on ≠ i) → oi.apart ops ok = true:=fun k ok hk hki hun hno=>by
     refine hfree k ok hk hki ?_ hno
     by_cases hjk:j = k
     ·subst hjk;exact hjun
     ·rw [getD_set_ne true hjk] at hun;exact hun
    refine wpOp_mono (fun a' w' h3=>⟨h3.2.1,ih (listed.setIfInBounds j true) a' w' hfree' (ready_mono hr (Ne.symm hji)) h3.1 h3.2.1 hTi ?_⟩) h2
    rw [Array.setIfInBounds_comm _ _ hji]
    exact h3.2.2
theorem wpAnyT_take {i:Nat} {l:List Nat} {oi:Oper} {v:Value} {fuel:Nat} {listed:Array Bool} {a:Act} {w:World} (hi:ops[i]? = some oi)
 (hs:Region.noSelect ops = true) (hf:Region.free md ops listed i = true) (hr:(Region.ready md ops listed).contains i = true)
 (hT:(l.all fun j=>Region.waitsFor md ops j i) = true) (hTi:l.contains i = false)
 (hQ:∀ c a w,Q (.panic c) (a.put oi.dst v) w → Q (.panic c) a w) (hS:S w) (hy:YieldsS P ops S oi v a)
 (h:wpAnyT P md ops Q S l.contains fuel (listed.setIfInBounds i true) (a.put oi.dst v) w):wpAnyT P md ops Q S l.contains (fuel + 1) listed a w:=
 wpAnyT_first hi (Region.noSelect_spec hs) hQ (fun j hj=>List.all_eq_true.1 hT j (by simpa using hj)) fuel listed a w (Region.free_spec hi hf) (by simpa using hr) hy hS hTi h
theorem wpAnyT_ready {rs:List Nat} {fuel:Nat} {listed:Array Bool} {a:Act} {w:World} (hr:Region.ready md ops listed = rs) (hne:rs ≠ [])
 (h:∀ i ∈ rs,wpOp P ops Q i (fun a' w'=>if T i = true then wpAny P md ops Q fuel (listed.setIfInBounds i true) a' w' else S w' ∧ wpAnyT P md ops Q S T fuel (listed.setIfInBounds i true) a' w') a w):wpAnyT P md ops Q S T (fuel + 1) listed a w:=
 ⟨fun h0=>absurd (hr ▸ h0) hne,hr ▸ h⟩
theorem wpAnyT_one {i:Nat} {fuel:Nat} {listed:Array Bool} {a:Act} {w:World} (hr:Region.ready md ops listed = [i])
 (h:wpOp P ops Q i (fun a' w'=>if T i = true then wpAny P md ops Q fuel (listed.setIfInBounds i true) a' w' else S w' ∧ wpAnyT P md ops Q S T fuel (listed.setIfInBounds i true) a' w') a w):wpAnyT P md ops Q S T (fuel + 1) listed a w:=
 wpAnyT_ready hr (by simp) fun j hj=>by
  obtain rfl:=List.mem_singleton.1 hj
  exact h
theorem wpAnyT_two {i j:Nat} {fuel:Nat} {listed:Array Bool} {a:Act} {w:World} (hr:Region.ready md ops listed = [i,j])
 (h1:wpOp P ops Q i (fun a' w'=>if T i = true then wpAny P md ops Q fuel (listed.setIfInBounds i true) a' w' else S w' ∧ wpAnyT P md ops Q S T fuel (listed.setIfInBounds i true) a' w') a w)
 (h2:wpOp P ops Q j (fun a' w'=>if T j = true then wpAny P md ops Q fuel (listed.setIfInBounds j true) a' w' else S w' ∧ wpAnyT P md ops Q S T fuel (listed.setIfInBounds j true) a' w') a w):wpAnyT P md ops Q S T (fuel + 1) listed a w:=
 wpAnyT_ready hr (by simp) fun k hk=>by
  rcases List.mem_cons.1 hk with rfl | hk
  ·exact h1
  ·obtain rfl:=List.mem_singleton.1 hk
   exact h2
theorem wpOp_keep {i:Nat} {o:Oper} {fuel:Nat} {listed:Array Bool} {a:Act} {w:World} (ho:ops[i]? = some o) (hT:T i = false)
 (h:∀ K':Act → World → Prop,(∀ a' w',S w' → wpAnyT P md ops Q S T fuel (listed.setIfInBounds i true) a' w' → K' a' w') → if Region.wanted o (yielded ops a.tmps) = true then Oper.wp P o a w K' Q else K' (a.put o.dst undef) w) :
 wpOp P ops Q i (fun a' w'=>if T i = true then wpAny P md ops Q fuel (listed.setIfInBounds i true) a' w' else S w' ∧ wpAnyT P md ops Q S T fuel (listed.setIfInBounds i true) a' w') a w:=
 wpOp_step ho fun K' hK'=>h K' fun a' w' hs hw=>hK' a' w' (by rw [if_neg (by rw [hT];decide)];exact ⟨hs,hw⟩)
theorem wpOp_last {i:Nat} {o:Oper} {fuel:Nat} {listed:Array Bool} {a:Act} {w:World} (ho:ops[i]? = some o) (hT:T i = true)
 (h:∀ K':Act → World → Prop,(∀ a' w',wpAny P md ops Q fuel (listed.setIfInBounds i true) a' w' → K' a' w') → if Region.wanted o (yielded ops a.tmps) = true then Oper.wp P o a w K' Q else K' (a.put o.dst undef) w) :
 wpOp P ops Q i (fun a' w'=>if T i = true then wpAny P md ops Q fuel (listed.setIfInBounds i true) a' w' else S w' ∧ wpAnyT P md ops Q S T fuel (listed.setIfInBounds i true) a' w') a w:=
 wpOp_step ho fun K' hK'=>h K' fun a' w' hw=>hK' a' w' (by rw [if_pos hT];exact hw)
end
end Go
