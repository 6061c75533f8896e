/- The reference's Form, and a function's type taken apart. -/
import Derived.Test.YtbbaooeioogijaaGreatDoorMg8
namespace Go.Proofs.YtbbaooeioogijaaGreatDoor
open Go.RowKit
theorem tyS_isSome (s:ByteArray):(tyS s).isSome = (decide (s.size ≤ 65536) && decide (nE s.data.toList = some [])):=by
 unfold tyS
 by_cases hs:s.size ≤ 65536
 ·rw [if_pos hs,decide_eq_true hs,Bool.true_and]
  unfold tyE
  rw [← nE_fuel (n:=2 * s.data.toList.length + 1) (by omega)]
  rcases tyF (2 * s.data.toList.length + 1) s.data.toList with _ | ⟨t,q⟩
  ·rfl
  ·simp only [Option.bind_some,Option.map_some,Option.some.injEq]
   by_cases hq:q = []
   ·rw [if_pos hq,decide_eq_true hq];rfl
   ·rw [if_neg hq,decide_eq_false hq];rfl
 ·rw [if_neg hs,decide_eq_false hs];rfl
set_option maxHeartbeats 2000000 in
theorem refForm_ok (s:ByteArray) (w:World):Calls Tryz.prog 92 #[.string s] w fun e w'=>e = .returned (.bool (tyS s).isSome) ∧ Below w.heap.size w w':=by
 have hT:=Hd (tyS_isSome s)
 by_cases hs:s.size ≤ 65536
 ·have hs':(s.size:Int) ≤ 65536:=by omega
  have hN:=nextE_ok s 0 w hs (Nat.zero_le _)
  rw [sfx_zero,Int.ofNat_zero] at hN
  rcases hq:nE s.data.toList with _ | q
  ·rw [hq] at hN
   have HN:=Hd hN
   have hfin:=Hd (show (tyS s).isSome = false by rw [hT.out,hq];simp)
   clear hq hN
   go_enter Tryz.func92,Tryz.ntmps92
   go_wp2_with (go_at_call 122;(with_reducible refine HN.out.mono ?_);rintro e w1 ⟨⟨z,rfl⟩,hb⟩;have HB:=Hd hb;clear hb)
   go_ret
   exact ⟨by rw [hfin.out];rfl,HB.out⟩
  ·rw [hq] at hN
   have hN:Calls Tryz.prog 122 #[.string s,.int .i64 0] w (fun x w'=>x = .returned (.tuple #[.int .i64 ((s.size - q.length:Nat):Int),.bool true]) ∧ Below w.heap.size w w'):=hN
   have HN:=Hd hN
   obtain ⟨_,_,_,hlt⟩:=nE_some hq
   have hl:s.data.toList.length = s.size:=by rw [Array.length_toList];rfl
   rw [hl] at hlt
   by_cases hq0:q = []
   ·have hfin:=Hd (show (tyS s).isSome = true by rw [hT.out,hq,hq0];simp [hs])
    have HZ:=Hd (show s.size - q.length = s.size by rw [hq0];rfl)
    rw [HZ.out] at HN
    clear hq hN hl hlt hq0
    go_enter Tryz.func92,Tryz.ntmps92
    go_wp2_with (go_at_call 122;(with_reducible refine HN.out.mono ?_);rintro e w1 ⟨rfl,hb⟩;have HB:=Hd hb;clear hb)
    go_ret
    exact ⟨by rw [hfin.out];simp,HB.out⟩
   ·have hfin:=Hd (show (tyS s).isSome = false by rw [hT.out,hq];simp [hq0])
    have hqp:=List.length_pos_iff.2 hq0
    obtain ⟨z,hz⟩:∃ z,z = s.size - q.length:=⟨_,rfl⟩
    rw [← hz] at HN
    have t1:((z:Int) == (s.size:Int)) = false:=by rw [beq_eq_false_iff_ne];omega
    clear hq hN hl hlt hq0 hqp hz
    go_enter Tryz.func92,Tryz.ntmps92
    go_wp2_with (go_at_call 122;(with_reducible refine HN.out.mono ?_);rintro e w1 ⟨rfl,hb⟩;have HB:=Hd hb;clear hb)
    go_ret
    exact ⟨by rw [hfin.out];rfl,HB.out⟩
 ·have hs':(65536:Int) < s.size:=by omega
  have hfin:=Hd (show (tyS s).isSome = false by rw [hT.out,decide_eq_false hs];rfl)
  clear hs
  go_enter Tryz.func92,Tryz.ntmps92
  go_wp2_with fail
  go_ret
  exact ⟨by rw [hfin.out];rfl,Below.refl _ _⟩
theorem refForm_is (r:Bool) (s:ByteArray) (w:World) (hr:(tyS s).isSome = r):Calls Tryz.prog 92 #[.string s] w fun e w'=>e = .returned (.bool r) ∧ Below w.heap.size w w':=by subst hr;exact refForm_ok s w
def SignR (ps:List Ty) (r:Ty) (w:World) (e:Ending) (w':World):Prop:=(∃ v,e = .returned (.tuple #[.string (tyB r),v]) ∧ w'.ownsRow w.heap.size 40 1 v ps.length (ps.map fun p=>.string (tyB p))) ∧ Below w.heap.size w w'
theorem signR_mk {ps:List Ty} {r:Ty} {w w':World} {x:ByteArray} {v:Value} (hx:x = tyB r) (ho:w'.ownsRow w.heap.size 40 1 v ps.length (ps.map fun p=>.string (tyB p))) (hb:Below w.heap.size w w') :
 SignR ps r w (.returned (.tuple #[.string x,v])) w':=by subst hx;exact ⟨⟨v,rfl,ho⟩,hb⟩
end Go.Proofs.YtbbaooeioogijaaGreatDoor
