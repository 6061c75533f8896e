/- The built-in functions: the program. -/
import Derived.Test.YtbbaooeioogijaaGreatDoorFileF
namespace Go.Proofs.YtbbaooeioogijaaGreatDoor
open Go.RowKit Go.Maps
def bltC (q:ByteArray × ByteArray):List Value:=[.string q.1,.string q.2,.bool false]
def bltCs:Array Value:=(builtL.flatMap bltC).toArray
set_option maxRecDepth 100000 in
set_option maxHeartbeats 4000000 in
theorem built11_ok (w:World):Calls Tryz.prog 13 #[] w fun e w'=>e = .returned (.slice (some ⟨w.heap.size,0,none⟩) 10 10) ∧ w' = w.alloc (.cells bltCs 50):=by
 go_enter Tryz.func13,Tryz.ntmps13
 go_wp2_with fail
 go_ret
 exact ⟨rfl,rfl⟩
def BltAt (w:World) (g:Nat):Prop:=w.heap[g]? = some (.cells bltCs 50 (0,0))
theorem BltAt.cells {w:World} {g:Nat} (h:BltAt w g) {i:Nat} (hi:i < 10):w.cell? ⟨g,i * 3,none⟩ = some (.string (builtL.getD i (⟨#[]⟩,⟨#[]⟩)).1) ∧ w.cell? ⟨g,i * 3 + 1,none⟩ = some (.string (builtL.getD i (⟨#[]⟩,⟨#[]⟩)).2) ∧ w.cell? ⟨g,i * 3 + 2,none⟩ = some (.bool false):=by
 unfold BltAt at h
 simp only [World.cell?,h]
 have key:∀ i < 10,bltCs[i * 3]? = some (.string (builtL.getD i (⟨#[]⟩,⟨#[]⟩)).1) ∧ bltCs[i * 3 + 1]? = some (.string (builtL.getD i (⟨#[]⟩,⟨#[]⟩)).2) ∧ bltCs[i * 3 + 2]? = some (.bool false):=by
  intro i hi
  rcases i with _ | _ | _ | _ | _ | _ | _ | _ | _ | _ | i
  all_goals first | exact ⟨rfl,rfl,rfl⟩ | omega
 exact key i hi
theorem bltE_get:∀ {i:Nat},i < 10 → bltE[i]? = some ((builtL.getD i (⟨#[]⟩,⟨#[]⟩)).1,⟨4,(i:Int),(builtL.getD i (⟨#[]⟩,⟨#[]⟩)).2⟩):=fun {i} hi=>by
 unfold bltE
 rw [List.getElem?_map,List.getElem?_range hi]
 rfl
theorem blt_new:∀ {i:Nat},i < 10 → entB (bltE.take i) (builtL.getD i (⟨#[]⟩,⟨#[]⟩)).1 = none:=fun {i} hi=>by
 rcases i with _ | _ | _ | _ | _ | _ | _ | _ | _ | _ | i
 all_goals first | rfl | (exfalso;omega)
theorem blt_size:∀ {i:Nat},i < 10 → (builtL.getD i (⟨#[]⟩,⟨#[]⟩)).1.size ≤ maxLen:=fun {i} hi=>by
 have:(builtL.getD i (⟨#[]⟩,⟨#[]⟩)).1.size ≤ 16:=by
  rcases i with _ | _ | _ | _ | _ | _ | _ | _ | _ | _ | i
  all_goals first | decide | (exfalso;omega)
 unfold maxLen
 omega
theorem blt_step {i:Nat} (hi:i < 10) (t:ByteArray):(if t = (builtL.getD i (⟨#[]⟩,⟨#[]⟩)).1 then some ⟨4,(i:Int),(builtL.getD i (⟨#[]⟩,⟨#[]⟩)).2⟩ else entB (bltE.take i) t) = entB (bltE.take (i + 1)) t:=by
 rw [List.take_add_one,bltE_get hi,Option.toList_some,entB_snoc]
 by_cases e:t = (builtL.getD i (⟨#[]⟩,⟨#[]⟩)).1
 ·subst e
  rw [blt_new hi,if_pos rfl]
 ·rw [if_neg e,if_neg e]
  rcases entB (bltE.take i) t with _ | c <;> rfl
theorem look_nil (t:ByteArray):(FileN.mk [] []).look t = entB (bltE.take 10) t:=by
 have:bltE.take 10 = bltE:=List.take_of_length_le (by unfold bltE;simp)
 rw [this]
 rfl
end Go.Proofs.YtbbaooeioogijaaGreatDoor
