/- For every tree and all structs, what the tree comes to as a  -/
import Derived.Test.YtlcfejgjeljjdaaGreatDoorCards
import Derived.Test.YtlcfejgjeljjdaaGreatDoorTie
import Derived.Test.YtlcfejgjeljjdaaGreatDoorMg4
import Derived.Test.YtlcfejgjeljjdaaGreatDoorMg7
import Derived.Test.YtlcfejgjeljjdaaGreatDoorFoldEvals
import Derived.ProofKit
import Derived.OpenShut
import Derived.JoinedCond
import Derived.Deep.DeepHandedRow
import Derived.SizedLaws
namespace Go.Proofs.YtlcfejgjeljjdaaGreatDoor.foldEvals
open Go.ChangeShapes Go.WideShapes Go.ChangeAt Go.RowKit
open Go.ChangeMaps (open_string shut_string)
theorem own:ownKnob Tryz.prog.godebug = none:=by kernel_rfl
set_option maxRecDepth 100000 in
set_option maxHeartbeats 4000000 in
theorem contract (H:Type) (enc:TypeId × Value → H) (W:World) (base:Nat) (args:Array Value) (ds gs:List (DataW H)) (before:List MemPlace)
 (hval:∀ (j:Nat) t v,Tryz.f3.params[j]? = some t → args[j]? = some v → Value.okWide Tryz.prog W .any base t v)
 (hW:DataW.Whole enc Tryz.prog Tryz.f3.params.toList Rows.foldEvalsSpec.vars false W args.toList ds gs before) (hw:(DataW.weightsEach Tryz.prog (Tryz.f3.params.toList ++ (OpenSpec.ofChange Rows.foldEvalsSpec).bare.plain.varTypes Tryz.prog) (ds ++ gs)).all (· ≤ reachBytes) = true) (hL:laidMetH Tryz.prog Rows.foldEvalsRow.laid W) (hS:W.ShapedOpen Tryz.prog) :
 Calls Tryz.prog 3 args W fun e W'=>∃ v,e = .returned v ∧ Rows.foldEvalsSpec.post enc Tryz.prog Tryz.f3 false true false false W args v W':=by
 have hL':laidMet Tryz.prog Rows.foldEvalsRow.laid W:=hL
 have hE:=te_laid hL' hS (.head _)
 have hW':=hW
 obtain ⟨p,q,hA,hV,rfl,hfz,hnd⟩:=hW
 rw [Tryz.params3] at hA hval
 obtain ⟨v0,vs0,d0,ds0,p0,q0,hargs,rfl,rfl,h0,r0⟩:=trodAll_cons hA
 obtain ⟨v1,vs1,d1,ds1,p1,q1,rfl,rfl,rfl,h1,r1⟩:=trodAll_cons r0
 obtain ⟨rfl,rfl,rfl⟩:=trodAll_nil r1
 obtain rfl:args = #[v0,v1]:=by cases args;simp_all
 obtain ⟨rfl,rfl⟩:=trodVars_none hV
 obtain ⟨b0,len0,c0,rfl⟩:=okWide_slice Tryz.underlying23 (hval 0 23 v0 rfl rfl)
 obtain ⟨_,g0⟩:=h0
 obtain ⟨a0,cp0,Q0,hv0,hl0,hc0,hn0,hd0,hI0,hok0⟩:=open_tree (v:=.slice b0 len0 c0) g0
 have hz0:=tree_sized hw (j:=0) (D:=d0) (by rw [Tryz.params3];rfl) rfl hd0 hok0
 obtain ⟨rfl,rfl,rfl⟩:b0 = a0 ∧ len0 = Q0.length ∧ c0 = cp0:=by simpa using hv0
 obtain ⟨b1,len1,c1,rfl⟩:=okWide_slice Tryz.underlying24 (hval 1 24 v1 rfl rfl)
 obtain ⟨_,g1⟩:=h1
 obtain ⟨a1,cp1,Q1,hv1,hl1,hc1,hn1,hd1,hI1,hok1⟩:=open_srs (v:=.slice b1 len1 c1) g1
 have hz1:=srs_sized hw (j:=1) (D:=d1) (by rw [Tryz.params3];rfl) rfl hd1 hok1
 obtain ⟨rfl,rfl,rfl⟩:b1 = a1 ∧ len1 = Q1.length ∧ c1 = cp1:=by simpa using hv1
 have key:Calls Tryz.prog 3 #[.slice b0 Q0.length c0,.slice b1 Q1.length c1] W fun e w'=>e = .returned (.bool true) ∧ Below W.heap.size W w':=by
  have h:=foldEvals_ok b0 c0 Q0 b1 c1 (Q1.map Prod.fst) (Q1.map fun q=>q.2.1) W hE hI0 hok0 hz0 hn0 hI1 (by simpa using hl1) hc1 (by simpa using hz1.1) (fun x hx=>by obtain ⟨q,hq,rfl⟩:=List.mem_map.1 hx;exact hz1.2 q hq) (fun v hv n c e=>by obtain ⟨q,hq,rfl⟩:=List.mem_map.1 hv;exact (hok1 q hq).2.2.2.1 c n e)
  rw [List.length_map] at h
  exact h
 refine key.mono fun e W' ⟨he,hbw⟩=>?_
 subst he
 exact ⟨_,rfl,law_post hW' rfl (by kernel_rfl) (by kernel_rfl) (by rw [Tryz.params3];intro t ht;simp at ht;rcases ht with rfl | rfl <;> exact ⟨by kernel_rfl,of_decide_eq_true (by kernel_rfl)⟩) rfl hbw⟩
theorem laid_met (os:Os):laidMet Tryz.prog Rows.foldEvalsRow.laid ((envWorld os).forCall (fun _ _=>0) ⟨#[],#[.slice none 0 0,.slice none 0 0],[]⟩).memory:=
 laidMet_of_run' 8 (by kernel_rfl) (by kernel_rfl)
theorem reads (os:Os) {H:Type} (enc:TypeId × Value → H):∃ places,DataW.whole enc Tryz.prog ((envWorld os).forCall (fun _ _=>0) ⟨#[],#[.slice none 0 0,.slice none 0 0],[]⟩).memory Tryz.f3.params.toList Rows.foldEvalsSpec.vars false (#[.slice none 0 0,.slice none 0 0]:Array Value).toList 8 = some ([.nil,.nil],[],places):=
 ⟨[],by kernel_rfl⟩
set_option maxRecDepth 100000 in
theorem lifted (os:Os) (started:os.Started) (H:Type) (enc:TypeId × Value → H) (F:Stop.Interp) :
 ReturnsInHanded {} Tryz.checked os 3 .any ((OpenSpec.ofChange Rows.foldEvalsSpec).preRow enc Tryz.prog Tryz.f3 Rows.foldEvalsRow.domain false Rows.foldEvalsRow.laid) (((OpenSpec.ofChange Rows.foldEvalsSpec).at F).post enc Tryz.prog Tryz.f3 false true false false):=by
 obtain ⟨places,hx⟩:=reads os enc
 refine returnsInHanded_of_row (C:=Tryz.checked) (s:=OpenSpec.ofChange Rows.foldEvalsSpec) own started (by kernel_rfl) Tryz.func3
  (witness_row_at (enc:=enc) (C:=Tryz.checked) false (envWorld os) #[.slice none 0 0,.slice none 0 0] rfl (by kernel_rfl) (by kernel_rfl) (by kernel_rfl)
    (OpenSpec.preRow_of_cond 8 hx (by kernel_rfl) (fun k hk=>by cases hk) (by kernel_rfl) (laid_met os))) ?_
 intro W base args ds gs before hval hW _ hcond hw hL hS _
 exact contract H enc W base args ds gs before hval hW hw hL hS
theorem said:Rows.FoldEvalsSaid:=
 OpenClaim.holds_of_cond 3 Tryz.f3 rfl rfl rfl rfl rfl rfl rfl ⟨rfl,rfl,rfl,rfl,rfl⟩ rfl rfl rfl rfl rfl (by kernel_rfl) Tryz.func3 (by kernel_rfl)
  (of_decide_eq_true (by kernel_rfl)) (by unfold Func.isWrapper;rw [if_neg (by decide +kernel)];exact ⟨rfl,rfl⟩)
  (fun os started H enc _ F=>by rw [OpenClaim.pre_eq_preRow];exact lifted os started H enc F)
theorem plain (f:FuncId) (fn:Func) (hf:Tryz.pinned.checked.prog.funcNamed "catapult/catapultlaw12.FoldEvals" = some f) (hfn:Tryz.pinned.checked.prog.funcs[f]? = some fn) :
 false = Tryz.pinned.checked.prog.looks [] ∧ ∀ (j:Nat) t,fn.params[j]? = some t → Tryz.pinned.checked.prog.wantsStandIn t = false:=by
 obtain rfl:f = 3:=Option.some.inj ((show Tryz.prog.funcNamed "catapult/catapultlaw12.FoldEvals" = some 3 by kernel_rfl).symm.trans hf) |>.symm
 obtain rfl:fn = Tryz.f3:=(Option.some.inj (Tryz.func3.symm.trans hfn)).symm
 refine ⟨by kernel_rfl,fun j t ht=>?_⟩
 rw [Tryz.params3] at ht
 have hm:=Array.mem_of_getElem? ht
 simp at hm
 rcases hm with rfl | rfl
 ·exact (show Tryz.prog.wantsStandIn 23 = false by kernel_rfl)
 ·exact (show Tryz.prog.wantsStandIn 24 = false by kernel_rfl)
theorem card:Rows.FoldEvalsCardSaid:=
 Claim7.holds_tied_plain_at .later [] _ _ _ _ said (fun _ h=>by cases h) (by kernel_rfl) (fun _ h=>by cases h) foldEvals_row_tie rfl ⟨rfl,rfl⟩ (by kernel_rfl) rfl plain (by kernel_rfl)
#print axioms card
end Go.Proofs.YtlcfejgjeljjdaaGreatDoor.foldEvals
