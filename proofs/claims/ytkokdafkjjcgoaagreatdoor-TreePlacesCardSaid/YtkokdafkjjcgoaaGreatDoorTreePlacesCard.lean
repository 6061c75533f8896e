/- For every unit and number, places that are moved by it chang -/
import Derived.Test.YtkokdafkjjcgoaaGreatDoorCards
import Derived.Test.YtkokdafkjjcgoaaGreatDoorTie
import Derived.Test.YtkokdafkjjcgoaaGreatDoorTreePlaces
import Derived.Deep.DeepHandedRow
namespace Go.Proofs.YtkokdafkjjcgoaaGreatDoor.treePlaces
open Go.ChangeShapes Go.WideShapes Go.ChangeAt Go.RowKit
open Go.ChangeMaps (open_string shut_string)
theorem own:ownKnob Tryz.prog.godebug = none:=by kernel_rfl
set_option maxRecDepth 100000 in
set_option maxHeartbeats 4000000 in
theorem contract (H:Type) (enc:TypeId × Value → H) (W:World) (base:Nat) (args:Array Value) (ds gs:List (DataW H)) (before:List MemPlace)
 (hval:∀ (j:Nat) t v,Tryz.f8.params[j]? = some t → args[j]? = some v → Value.okWide Tryz.prog W .any base t v)
 (hW:DataW.Whole enc Tryz.prog Tryz.f8.params.toList Rows.treePlacesSpec.vars false W args.toList ds gs before) (hw:(DataW.weightsEach Tryz.prog (Tryz.f8.params.toList ++ (OpenSpec.ofChange Rows.treePlacesSpec).bare.plain.varTypes Tryz.prog) (ds ++ gs)).all (· ≤ reachBytes) = true) (hL:laidMetH Tryz.prog Rows.treePlacesRow.laid W) (hS:W.ShapedOpen Tryz.prog) :
 Calls Tryz.prog 8 args W fun e W'=>∃ v,e = .returned v ∧ Rows.treePlacesSpec.post enc Tryz.prog Tryz.f8 false true false false W args v W':=by
 have hL':laidMet Tryz.prog Rows.treePlacesRow.laid W:=hL
 have hpw:=pow_laid hL' (.tail _ (.tail _ (.head _)))
 have hE:EnvP W:=⟨env_laid hL' hS (.tail _ (.tail _ (.tail _ (.head _)))) (.tail _ (.tail _ (.tail _ (.tail _ (.head _))))) (.tail _ (.tail _ (.tail _ (.tail _ (.tail _ (.head _)))))) (.tail _ (.tail _ (.tail _ (.tail _ (.tail _ (.tail _ (.head _))))))),hpw.1,hpw.2⟩
 have hW':=hW
 obtain ⟨p,q,hA,hV,rfl,hfz,hnd⟩:=hW
 rw [Tryz.params8] at hA hval
 obtain ⟨v0,vs0,d0,ds0,p0,q0,hargs,rfl,rfl,h0,r0⟩:=trodAll_cons hA
 obtain ⟨v1,vs1,d1,ds1,p1,q1,rfl,rfl,rfl,h1,r1⟩:=trodAll_cons r0
 obtain ⟨rfl,rfl,rfl⟩:=trodAll_nil r1
 obtain rfl:args = #[v0,v1]:=by cases args;simp_all
 obtain ⟨rfl,rfl⟩:=trodVars_none hV
 obtain ⟨cs0,rfl,_⟩:=okWide_struct Tryz.underlying65 (hval 0 65 v0 rfl rfl)
 obtain ⟨_,g0⟩:=h0
 obtain ⟨u0,x0,y0,z0,hc0,hI0⟩:=open_unit hw (j:=0) (by rw [Tryz.params8];rfl) rfl g0
 have hcs0:cs0 = #[x0,y0,z0]:=by
  have h:cs0.toList = _:=hc0
  rw [← Array.toArray_toList (xs:=cs0),h]
 subst hcs0
 obtain ⟨n1,rfl,rfl,rfl,w1⟩:=open_int Tryz.underlying3 (hval 1 3 v1 rfl rfl) h1
 have key:Calls Tryz.prog 8 #[.agg #[x0,y0,z0],.int .i64 n1] W fun e w'=>e = .returned (.bool true) ∧ Below W.heap.size W w':=by
  exact treePlaces_ok u0 x0 y0 z0 n1 W hE hI0 (bounds_i64 w1)
 refine key.mono fun e W' ⟨he,hbw⟩=>?_
 subst he
 exact ⟨_,rfl,law_post hW' rfl (by kernel_rfl) (by kernel_rfl) (by rw [Tryz.params8];intro t ht;simp at ht;rcases ht with rfl | rfl <;> exact ⟨by kernel_rfl,of_decide_eq_true (by kernel_rfl)⟩) rfl hbw⟩
theorem laid_met (os:Os):laidMet Tryz.prog Rows.treePlacesRow.laid ((envWorld os).forCall (fun _ _=>0) ⟨#[],#[.agg #[.slice none 0 0,.slice none 0 0,.slice none 0 0],.int .i64 0],[]⟩).memory:=
 laidMet_of_run' 8 (by kernel_rfl) (by kernel_rfl)
theorem reads (os:Os) {H:Type} (enc:TypeId × Value → H):∃ places,DataW.whole enc Tryz.prog ((envWorld os).forCall (fun _ _=>0) ⟨#[],#[.agg #[.slice none 0 0,.slice none 0 0,.slice none 0 0],.int .i64 0],[]⟩).memory Tryz.f8.params.toList Rows.treePlacesSpec.vars false (#[.agg #[.slice none 0 0,.slice none 0 0,.slice none 0 0],.int .i64 0]:Array Value).toList 8 = some ([.agg [.nil,.nil,.nil],.lit (.int .i64 0)],[],places):=
 ⟨[],by kernel_rfl⟩
set_option maxRecDepth 100000 in
theorem lifted (os:Os) (started:os.Started) (H:Type) (enc:TypeId × Value → H) (F:Stop.Interp) :
 ReturnsInHanded {} Tryz.checked os 8 .any ((OpenSpec.ofChange Rows.treePlacesSpec).preRow enc Tryz.prog Tryz.f8 Rows.treePlacesRow.domain false Rows.treePlacesRow.laid) (((OpenSpec.ofChange Rows.treePlacesSpec).at F).post enc Tryz.prog Tryz.f8 false true false false):=by
 obtain ⟨places,hx⟩:=reads os enc
 refine returnsInHanded_of_row (C:=Tryz.checked) (s:=OpenSpec.ofChange Rows.treePlacesSpec) own started (by kernel_rfl) Tryz.func8
  (witness_row_at (enc:=enc) (C:=Tryz.checked) false (envWorld os) #[.agg #[.slice none 0 0,.slice none 0 0,.slice none 0 0],.int .i64 0] rfl (by kernel_rfl) (by kernel_rfl) (by kernel_rfl)
    (OpenSpec.preRow_of_cond 8 hx (by kernel_rfl) (fun k hk=>by cases hk) (by kernel_rfl) (laid_met os))) ?_
 intro W base args ds gs before hval hW _ hcond hw hL hS _
 exact contract H enc W base args ds gs before hval hW hw hL hS
theorem said:Rows.TreePlacesSaid:=
 OpenClaim.holds_of_cond 8 Tryz.f8 rfl rfl rfl rfl rfl rfl rfl ⟨rfl,rfl,rfl,rfl,rfl⟩ rfl rfl rfl rfl rfl (by kernel_rfl) Tryz.func8 (by kernel_rfl)
  (of_decide_eq_true (by kernel_rfl)) (by unfold Func.isWrapper;rw [if_neg (by decide +kernel)];exact ⟨rfl,rfl⟩)
  (fun os started H enc _ F=>by rw [OpenClaim.pre_eq_preRow];exact lifted os started H enc F)
theorem plain (f:FuncId) (fn:Func) (hf:Tryz.pinned.checked.prog.funcNamed "catapult/catapultlaw09.TreePlaces" = some f) (hfn:Tryz.pinned.checked.prog.funcs[f]? = some fn) :
 true = Tryz.pinned.checked.prog.looks [] ∧ ∀ (j:Nat) t,fn.params[j]? = some t → Tryz.pinned.checked.prog.wantsStandIn t = false:=by
 obtain rfl:f = 8:=Option.some.inj ((show Tryz.prog.funcNamed "catapult/catapultlaw09.TreePlaces" = some 8 by kernel_rfl).symm.trans hf) |>.symm
 obtain rfl:fn = Tryz.f8:=(Option.some.inj (Tryz.func8.symm.trans hfn)).symm
 refine ⟨by kernel_rfl,fun j t ht=>?_⟩
 rw [Tryz.params8] at ht
 have hm:=Array.mem_of_getElem? ht
 simp at hm
 rcases hm with rfl | rfl
 ·exact (show Tryz.prog.wantsStandIn 65 = false by kernel_rfl)
 ·exact (show Tryz.prog.wantsStandIn 3 = false by kernel_rfl)
theorem card:Rows.TreePlacesCardSaid:=
 Claim7.holds_tied_plain_at .later [] _ _ _ _ said (fun _ h=>by cases h) (by kernel_rfl) (fun _ h=>by cases h) treePlaces_row_tie rfl ⟨rfl,rfl⟩ (by kernel_rfl) rfl plain (by kernel_rfl)
#print axioms card
end Go.Proofs.YtkokdafkjjcgoaaGreatDoor.treePlaces
