/- Words, numbers of types: the program. · Nodes in the world: a node by value, a list of nodes. · Rows of one's own, as lists of elements of k cells each. · Sizes, cut at a bound: the reference's reckoning against the · Lists of structs: what is known of them, part by part · The reference's numbers in a code: where digits end; a whole · The reference's first letter of a type; what a pointer point · The reference's reading of a type: its end; letters, pointer -/
import Derived.Test.YtlcfejgjeljjdaaGreatDoorMg8
import Derived.Test.YtlcfejgjeljjdaaGreatDoorMg7
import Derived.SizedLaws
import Derived.Test.YtlcfejgjeljjdaaGreatDoorMg1
import Derived.Test.YtlcfejgjeljjdaaGreatDoorMg4
import Derived.Deep.DeepCutAuto
namespace Go.Proofs.YtlcfejgjeljjdaaGreatDoor
open Go.RowKit
theorem wraps32 (n:Int) (h₀:0 ≤ n) (h₁:n < 2 ^ 32):IntKind.u32.wrap n = n:=by rw [IntKind.wrap_u32];omega
theorem mask31 {y:Int} (h:0 ≤ y ∧ y < 4294967296):bits .and .u32 y 31 = y % 32:=bits_mask .u32 32 (by decide) wraps32 5 (by decide) y h.1 h.2
theorem w32s (x:Int):wrap32 x = sgnI 32 x:=by unfold wrap32;rw [sgn32]
theorem sgn32_range (x:Int):-2147483648 ≤ sgnI 32 x ∧ sgnI 32 x < 2147483648:=by rw [sgn32];omega
theorem w64s (x:Int):wrap64 (wrap32 x) = sgnI 32 x:=by
 rw [w32s]
 have:=sgn32_range x
 unfold wrap64
 omega
theorem ext8_is (x:Int):wrap32 (x * 16777216 % 4294967296) / 16777216 % 4294967296 = sgnI 8 x % 4294967296:=by rw [w32s,sgn32,sgn8];omega
theorem ext16_is (x:Int):wrap32 (x * 65536 % 4294967296) / 65536 % 4294967296 = sgnI 16 x % 4294967296:=by rw [w32s,sgn32,sgn16];omega
theorem ext32_is (x:Int):wrap32 x % 4294967296 = sgnI 32 x % 4294967296:=by rw [w32s]
theorem retU {a b:Int} (h:a = b):Ending.returned (.int .u32 a) = .returned (.int .u32 b):=by rw [h]
theorem retI {a b:Int} (h:a = b):Ending.returned (.int .i64 a) = .returned (.int .i64 b):=by rw [h]
theorem mod_word {x:Int} (h:0 ≤ x ∧ x < 4294967296):x % 4294967296 = x:=by omega
theorem mul_is (x y:Int) (h:0 ≤ x ∧ x < 4294967296) (h2:0 ≤ y ∧ y < 4294967296):IntKind.u64.wrap (x * y) % 4294967296 = mulW x y:=by
 unfold mulW
 rw [mod_word h,mod_word h2,IntKind.wrap_u64]
 omega
theorem wof_ok (n:Int) (w:World):Calls Tryz.prog 55 #[.int .i64 n] w fun e w'=>e = .returned (.int .u32 (n % 4294967296)) ∧ w' = w:=by
 go_enter Tryz.func55,Tryz.ntmps55
 go_wp2_with fail
 go_ret
 exact ⟨rfl,rfl⟩
theorem wsigned_ok (x:Int) (w:World):Calls Tryz.prog 63 #[.int .u32 x] w fun e w'=>e = .returned (.int .i64 (sgnI 32 x)) ∧ w' = w:=by
 have hv:=Hd (w64s x)
 go_enter Tryz.func63,Tryz.ntmps63
 go_wp2_with fail
 go_ret
 exact ⟨retI hv.out,rfl⟩
theorem wext_ok (x b:Int) (w:World) (h:0 ≤ x ∧ x < 4294967296) (hb:b = 8 ∨ b = 16 ∨ b = 32):Calls Tryz.prog 62 #[.int .u32 x,.int .i64 b] w fun e w'=>e = .returned (.tuple #[.int .u32 (sgnI b.toNat x % 4294967296),.int .i64 0]) ∧ w' = w:=by
 have h8:=Hd (ext8_is x)
 have h16:=Hd (ext16_is x)
 have h32:=Hd (ext32_is x)
 rcases hb with rfl | rfl | rfl
 ·go_enter Tryz.func62,Tryz.ntmps62
  go_wp2_with fail
  go_ret2
  exact ⟨congrArg (fun v=>Ending.returned (.tuple #[.int .u32 v,.int .i64 0])) h8.out,rfl⟩
 ·go_enter Tryz.func62,Tryz.ntmps62
  go_wp2_with fail
  go_ret2
  exact ⟨congrArg (fun v=>Ending.returned (.tuple #[.int .u32 v,.int .i64 0])) h16.out,rfl⟩
 ·go_enter Tryz.func62,Tryz.ntmps62
  go_wp2_with fail
  go_ret2
  exact ⟨congrArg (fun v=>Ending.returned (.tuple #[.int .u32 v,.int .i64 0])) h32.out,rfl⟩
theorem wmul_ok (x y:Int) (w:World) (h:0 ≤ x ∧ x < 4294967296) (h2:0 ≤ y ∧ y < 4294967296):Calls Tryz.prog 61 #[.int .u32 x,.int .u32 y] w fun e w'=>(∃ hi,e = .returned (.tuple #[.int .u32 (mulW x y),.int .u32 hi])) ∧ w' = w:=by
 have hv:=Hd (mul_is x y h h2)
 go_enter Tryz.func61,Tryz.ntmps61
 go_wp2_with fail
 go_ret2
 exact ⟨⟨_,congrArg (fun v=>Ending.returned (.tuple #[.int .u32 v,.int .u32 _])) hv.out⟩,rfl⟩
theorem wshl_ok (x y:Int) (w:World) (h:0 ≤ x ∧ x < 4294967296) (h2:0 ≤ y ∧ y < 4294967296):Calls Tryz.prog 56 #[.int .u32 x,.int .u32 y] w fun e w'=>e = .returned (.int .u32 (shlW x y)) ∧ w' = w:=by
 have hb:bits .and .u32 y 31 = y % 32:=mask31 h2
 have h3:0 ≤ y % 32 ∧ y % 32 ≤ 32:=by omega
 have hv:=Hd (show x * 2 ^ (y % 32).toNat % 4294967296 = shlW x y by unfold shlW;rw [mod_word h,mod_word h2])
 go_enter Tryz.func56,Tryz.ntmps56
 go_wp2_with fail
 go_ret
 exact ⟨retU hv.out,rfl⟩
theorem wshr_ok (x y:Int) (w:World) (h2:0 ≤ y ∧ y < 4294967296):Calls Tryz.prog 58 #[.int .u32 x,.int .u32 y] w fun e w'=>e = .returned (.int .u32 (shrsW x y)) ∧ w' = w:=by
 have hb:bits .and .u32 y 31 = y % 32:=mask31 h2
 have h3:0 ≤ y % 32 ∧ y % 32 ≤ 32:=by omega
 have hv:=Hd (show wrap32 x / 2 ^ (y % 32).toNat % 4294967296 = shrsW x y by unfold shrsW;rw [w32s,mod_word h2])
 go_enter Tryz.func58,Tryz.ntmps58
 go_wp2_with fail
 go_ret
 exact ⟨retU hv.out,rfl⟩
theorem wshru_ok (x y:Int) (w:World) (h:0 ≤ x ∧ x < 4294967296) (h2:0 ≤ y ∧ y < 4294967296):Calls Tryz.prog 57 #[.int .u32 x,.int .u32 y] w fun e w'=>e = .returned (.int .u32 (shruW x y)) ∧ w' = w:=by
 have hb:bits .and .u32 y 31 = y % 32:=mask31 h2
 have h3:0 ≤ y % 32 ∧ y % 32 ≤ 32:=by omega
 have hv:=Hd (show x / 2 ^ (y % 32).toNat = shruW x y by unfold shruW;rw [mod_word h,mod_word h2])
 go_enter Tryz.func57,Tryz.ntmps57
 go_wp2_with fail
 go_ret
 exact ⟨retU hv.out,rfl⟩
theorem asI_through {n:Int} {b:Nat} (hb:b = 8 ∨ b = 16 ∨ b = 32):sgnI 32 (sgnI b (n % 4294967296) % 4294967296) = sgnI b n:=by
 rcases hb with rfl | rfl | rfl
 ·rw [sgn32,sgn8,sgn8];omega
 ·rw [sgn32,sgn16,sgn16];omega
 ·rw [sgn32,sgn32,sgn32];omega
theorem as_ok (n:Int) (t:ByteArray) (w:World):Calls Tryz.prog 30 #[.int .i64 n,.string t] w fun e w'=>e = .returned (.int .i64 (asI n t)) ∧ w' = w:=by
 have hm:0 ≤ n % 4294967296 ∧ n % 4294967296 < 4294967296:=by omega
 have H1:=Hd (wof_ok n w)
 by_cases hu:t = uText12
 ·have t1:(t.toList == [117]) = true:=by rw [str_one];exact decide_eq_true hu
  have hv:=Hd (show n % 4294967296 = asI n t by unfold asI;rw [if_pos hu])
  clear hu
  go_enter Tryz.func30,Tryz.ntmps30
  go_wp2_with (go_at_call 55;(with_reducible refine H1.out.mono ?_);rintro e w1 ⟨rfl,rfl⟩)
  go_ret
  exact ⟨retI hv.out,rfl⟩
 have t1:(t.toList == [117]) = false:=by rw [str_one];exact decide_eq_false hu
 by_cases hc:t = cText12
 ·have t2:(t.toList == [99]) = true:=by rw [str_one];exact decide_eq_true hc
  have hv:=Hd (show sgnI 32 (sgnI 8 (n % 4294967296) % 4294967296) = asI n t by rw [asI_through (.inl rfl)];unfold asI;rw [if_neg hu,if_pos hc])
  have H2:=Hd (wext_ok (n % 4294967296) 8 w hm (.inl rfl))
  have H3:=Hd (wsigned_ok (sgnI 8 (n % 4294967296) % 4294967296) w)
  clear hu hc
  go_enter Tryz.func30,Tryz.ntmps30
  go_wp2_with (first | (go_at_call 55;(with_reducible refine H1.out.mono ?_);rintro e w1 ⟨rfl,rfl⟩) | (go_at_call 62;(with_reducible refine H2.out.mono ?_);rintro e w1 ⟨rfl,rfl⟩) | (go_at_call 63;(with_reducible refine H3.out.mono ?_);rintro e w1 ⟨rfl,rfl⟩))
  go_ret
  exact ⟨retI hv.out,rfl⟩
 have t2:(t.toList == [99]) = false:=by rw [str_one];exact decide_eq_false hc
 by_cases hs:t = sText12
 ·have t3:(t.toList == [115]) = true:=by rw [str_one];exact decide_eq_true hs
  have hv:=Hd (show sgnI 32 (sgnI 16 (n % 4294967296) % 4294967296) = asI n t by rw [asI_through (.inr (.inl rfl))];unfold asI;rw [if_neg hu,if_neg hc,if_pos hs])
  have H2:=Hd (wext_ok (n % 4294967296) 16 w hm (.inr (.inl rfl)))
  have H3:=Hd (wsigned_ok (sgnI 16 (n % 4294967296) % 4294967296) w)
  clear hu hc hs
  go_enter Tryz.func30,Tryz.ntmps30
  go_wp2_with (first | (go_at_call 55;(with_reducible refine H1.out.mono ?_);rintro e w1 ⟨rfl,rfl⟩) | (go_at_call 62;(with_reducible refine H2.out.mono ?_);rintro e w1 ⟨rfl,rfl⟩) | (go_at_call 63;(with_reducible refine H3.out.mono ?_);rintro e w1 ⟨rfl,rfl⟩))
  go_ret
  exact ⟨retI hv.out,rfl⟩
 have t3:(t.toList == [115]) = false:=by rw [str_one];exact decide_eq_false hs
 have hv:=Hd (show sgnI 32 (sgnI 32 (n % 4294967296) % 4294967296) = asI n t by rw [asI_through (.inr (.inr rfl))];unfold asI;rw [if_neg hu,if_neg hc,if_neg hs])
 have H2:=Hd (wext_ok (n % 4294967296) 32 w hm (.inr (.inr rfl)))
 have H3:=Hd (wsigned_ok (sgnI 32 (n % 4294967296) % 4294967296) w)
 clear hu hc hs
 go_enter Tryz.func30,Tryz.ntmps30
 go_wp2_with (first | (go_at_call 55;(with_reducible refine H1.out.mono ?_);rintro e w1 ⟨rfl,rfl⟩) | (go_at_call 62;(with_reducible refine H2.out.mono ?_);rintro e w1 ⟨rfl,rfl⟩) | (go_at_call 63;(with_reducible refine H3.out.mono ?_);rintro e w1 ⟨rfl,rfl⟩))
 go_ret
 exact ⟨retI hv.out,rfl⟩
end Go.Proofs.YtlcfejgjeljjdaaGreatDoor
namespace Go.Proofs.YtlcfejgjeljjdaaGreatDoor
open Go.ChangeShapes Go.WideShapes Go.ChangeAt Go.RowKit Go.Deep
def ndCells (x:Nd):List Value:=[.int .i64 x.kind,.int .i64 x.n,.int .i64 x.at_,.int .i64 x.int,.string x.text,.string x.type]
def ndV (x:Nd):Value:=.agg #[.int .i64 x.kind,.int .i64 x.n,.int .i64 x.at_,.int .i64 x.int,.string x.text,.string x.type]
abbrev ndObj (x:Nd):Obj:=.cells #[.int .i64 x.kind,.int .i64 x.n,.int .i64 x.at_,.int .i64 x.int,.string x.text,.string x.type] 42
theorem six_block {w:World} {b:Nat} {a0 a1 a2 a3 a4 a5:Value} {T:TypeId} (h:w.heap[b]? = some (.cells #[a0,a1,a2,a3,a4,a5] T (0,0))) :
 (w.cell? ⟨b,0,none⟩ = some a0 ∧ w.cell? ⟨b,1,none⟩ = some a1 ∧ w.cell? ⟨b,2,none⟩ = some a2 ∧ w.cell? ⟨b,3,none⟩ = some a3 ∧ w.cell? ⟨b,4,none⟩ = some a4 ∧ w.cell? ⟨b,5,none⟩ = some a5) ∧ ∀ j,w.frozen? ⟨b,j,none⟩ = false:=by
 refine ⟨⟨?_,?_,?_,?_,?_,?_⟩,fun j=>?_⟩ <;> simp [World.cell?,World.frozen?,h]
abbrev IsNds (B:Nat) (w:World) (a:Option Addr) (t:List Nd):Prop:=IsSl 6 ndCells B w a t
theorem nds_at {B:Nat} {w:World} {a:Option Addr} {t:List Nd} (h:IsNds B w a t) {i:Nat} (hi:i < t.length):∃ b off,a = some ⟨b,off,none⟩ ∧ b < B ∧
 w.cell? ⟨b,off + i * 6,none⟩ = some (.int .i64 t[i].kind) ∧ w.cell? ⟨b,off + i * 6 + 1,none⟩ = some (.int .i64 t[i].n) ∧ w.cell? ⟨b,off + i * 6 + 2,none⟩ = some (.int .i64 t[i].at_) ∧ w.cell? ⟨b,off + i * 6 + 3,none⟩ = some (.int .i64 t[i].int) ∧ w.cell? ⟨b,off + i * 6 + 4,none⟩ = some (.string t[i].text) ∧ w.cell? ⟨b,off + i * 6 + 5,none⟩ = some (.string t[i].type):=by
 obtain ⟨b,off,e,hlt,hc⟩:=h (fun e=>by rw [e] at hi;simp at hi)
 have hx:=List.getElem?_eq_getElem hi
 exact ⟨b,off,e,hlt,hc i _ hx 0 _ rfl,hc i _ hx 1 _ rfl,hc i _ hx 2 _ rfl,hc i _ hx 3 _ rfl,hc i _ hx 4 _ rfl,hc i _ hx 5 _ rfl⟩
section
variable {H:Type} {enc:TypeId × Value → H} {w:World} {base:Nat} {spare:Nat → Bool} {held:Bool}
def ndData (x:Nd):DataW H:=.agg [.lit (.int .i64 x.kind),.lit (.int .i64 x.n),.lit (.int .i64 x.at_),.lit (.int .i64 x.int),.lit (.string x.text.data.toList),.lit (.string x.type.data.toList)]
theorem cellsNd:Tryz.prog.cellsOf 42 = 6:=by kernel_rfl
theorem cellsI9:Tryz.prog.cellsOf 3 = 1:=by kernel_rfl
theorem cellsS9:Tryz.prog.cellsOf 9 = 1:=by kernel_rfl
theorem cellsT9:Tryz.prog.cellsOf 27 = 1:=by kernel_rfl
def i64In (n:Int):Prop:=-9223372036854775808 ≤ n ∧ n ≤ 9223372036854775807
def NdOk (x:Nd):Prop:=i64In x.kind ∧ i64In x.n ∧ i64In x.at_ ∧ i64In x.int
set_option maxRecDepth 100000 in
theorem open_nd {n:Nat} {cs:List Value} {D:DataW H} {pl:List MemPlace} (h:DataW.trod enc Tryz.prog w base spare held n 42 cs = some (D,pl)) :
 ∃ x:Nd,cs = ndCells x ∧ D = ndData x ∧ NdOk x:=by
 obtain ⟨xs,n',_,hx,hlen,hxs,hf⟩:=DataW.trod_struct Tryz.underlying42 h
 rw [cellsNd] at hlen
 match cs,hlen with
 | [c0,c1,c2,c3,c4,c5],_=>
   match xs,hxs with
   | [y0,y1,y2,y3,y4,y5],_=>
     have f0:=hf 0 _ rfl
     have f1:=hf 1 _ rfl
     have f2:=hf 2 _ rfl
     have f3:=hf 3 _ rfl
     have f4:=hf 4 _ rfl
     have f5:=hf 5 _ rfl
     simp [cellsI9] at f0 f1 f2 f3
     simp [cellsS9] at f4
     simp [cellsT9] at f5
     obtain ⟨a0,e0,r0,w0⟩:=DataW.trod_int Tryz.underlying3 f0
     obtain ⟨a1,e1,r1,w1⟩:=DataW.trod_int Tryz.underlying3 f1
     obtain ⟨a2,e2,r2,w2⟩:=DataW.trod_int Tryz.underlying3 f2
     obtain ⟨a3,e3,r3,w3⟩:=DataW.trod_int Tryz.underlying3 f3
     obtain ⟨a4,e4,r4,_⟩:=DataW.trod_string Tryz.underlying9 f4
     obtain ⟨a5,e5,r5,_⟩:=DataW.trod_string Tryz.underlying27 f5
     simp only [List.cons.injEq,and_true] at e0 e1 e2 e3 e4 e5
     subst e0 e1 e2 e3 e4 e5 r0 r1 r2 r3 r4 r5
     exact ⟨⟨a0,a1,a2,a3,a4,a5⟩,rfl,congrArg Prod.fst hx,bounds_i64 w0,bounds_i64 w1,bounds_i64 w2,bounds_i64 w3⟩
theorem open_tree {fuel:Nat} {v:Value} {x:DataW H × List MemPlace} (h:DataW.trod enc Tryz.prog w base spare held fuel 23 [v] = some x) :
 ∃ (a:Option Addr) (cap:Nat) (Q:List Nd),v = .slice a Q.length cap ∧ Q.length ≤ cap ∧ cap ≤ maxLen ∧ (a = none → Q = [] ∧ cap = 0) ∧ ((x.1 = .nil ∧ Q = []) ∨ ∃ rest,x.1 = .slice (Q.map ndData) rest) ∧ IsNds w.heap.size w a Q ∧ ∀ q ∈ Q,NdOk q:=
 open_list (by decide) Tryz.underlying23 cellsNd ndCells ndData NdOk (fun h=>open_nd h) h
theorem tree_sized {ts:List TypeId} {ds:List (DataW H)} (hw:(DataW.weightsEach Tryz.prog ts ds).all (· ≤ reachBytes) = true) {j:Nat} {D:DataW H} {Q:List Nd} (ht:ts[j]? = some 23) (hD:ds[j]? = some D) (hd:(D = .nil ∧ Q = []) ∨ ∃ rest,D = .slice (Q.map ndData) rest) (_hok:∀ q ∈ Q,NdOk q):Q.length * 64 ≤ 140737488351232:=by
 rcases hd with ⟨_,rfl⟩ | ⟨rest,rfl⟩
 ·simp
 have hr:reachBytes = 140737488351232:=rfl
 have:=sized_slice hw ht hD Tryz.underlying23
 rw [show Tryz.prog.bytesOf 42 = 64 by kernel_rfl,List.length_map,hr] at this
 omega
end
end Go.Proofs.YtlcfejgjeljjdaaGreatDoor
namespace Go.Proofs.YtlcfejgjeljjdaaGreatDoor
open Go.RowKit
theorem flat_len {α:Type} {k:Nat} {cells:α → List Value} (hk:∀ a,(cells a).length = k):∀ L:List α,(L.flatMap cells).length = L.length * k
 | []=>by simp
 | a :: L=>by rw [List.flatMap_cons,List.length_append,hk,flat_len hk L,List.length_cons,Nat.add_mul];omega
theorem flat_at {α:Type} {k:Nat} {cells:α → List Value} (hk:∀ a,(cells a).length = k):∀ {L:List α} {i j:Nat} {a:α} {u:Value},L[i]? = some a → (cells a)[j]? = some u → (L.flatMap cells)[i * k + j]? = some u
 | [],_,_,_,_,h,_=>by simp at h
 | b :: L,0,j,a,u,h,hu=>by
   obtain rfl:=Option.some.inj h
   have hj:=(List.getElem?_eq_some_iff.1 hu).1
   rw [List.flatMap_cons,Nat.zero_mul,Nat.zero_add,List.getElem?_append_left hj]
   exact hu
 | b :: L,i + 1,j,a,u,h,hu=>by
   rw [List.flatMap_cons,List.getElem?_append_right (by rw [hk,Nat.add_mul];omega),hk,show (i + 1) * k + j - k = i * k + j by rw [Nat.add_mul];omega]
   exact flat_at hk (by simpa using h) hu
theorem flat_inv {α:Type} {k:Nat} {cells:α → List Value} (hk:∀ a,(cells a).length = k):∀ {L:List α} {q:Nat} {u:Value},(L.flatMap cells)[q]? = some u → ∃ (i j:Nat) (a:α),q = i * k + j ∧ L[i]? = some a ∧ (cells a)[j]? = some u
 | [],_,_,h=>by simp at h
 | b :: L,q,u,h=>by
   rw [List.flatMap_cons] at h
   rcases Nat.lt_or_ge q (cells b).length with hlt | hge
   ·rw [List.getElem?_append_left hlt] at h
    exact ⟨0,q,b,by omega,rfl,h⟩
   ·rw [List.getElem?_append_right hge,hk] at h
    obtain ⟨i,j,a,e,h1,h2⟩:=flat_inv hk h
    rw [hk] at hge
    exact ⟨i + 1,j,a,by rw [Nat.add_mul];omega,by simpa using h1,h2⟩
theorem addN (b off j:Nat):(⟨b,off,none⟩:Addr).add j = ⟨b,off + j,none⟩:=by unfold Addr.add;split <;> simp_all
theorem sl_news {α:Type} {k:Nat} {cells:α → List Value} (hk:∀ a,(cells a).length = k) {B:Nat} {w:World} {ad:Addr} {L:List α} (h:IsSl k cells B w (some ad) L):∀ (q:Nat) u,(L.flatMap cells)[q]? = some u → w.cell? (ad.add q) = some u:=fun q u hu=>by
 obtain ⟨i,j,a,rfl,ha,hj⟩:=flat_inv hk hu
 obtain ⟨b,off,e,_,hc⟩:=h (fun e=>by rw [e] at ha;simp at ha)
 obtain rfl:=Option.some.inj e
 rw [addN,← Nat.add_assoc]
 exact hc i a ha j u hj
theorem own_sl {α:Type} {k:Nat} {cells:α → List Value} (hk:∀ a,(cells a).length = k) {w:World} {base n:Nat} {T:TypeId} {v:Value} {L:List α} (h:w.ownsRow base T k v n (L.flatMap cells)) (hn:n = L.length):∃ a cap,v = .slice a L.length cap ∧ IsSl k cells w.heap.size w a L ∧ (a = none → L = [] ∧ cap = 0):=by
 subst hn
 rcases h.2 with ⟨rfl,h0⟩ | ⟨g,cap,cur,rfl,_,hg,_⟩
 ·have:L = []:=List.eq_nil_of_length_eq_zero h0
  subst this
  exact ⟨none,0,rfl,isSl_nil,fun _=>⟨rfl,rfl⟩⟩
 ·refine ⟨_,cap,rfl,fun _=>⟨g,0,rfl,lt_of_heap hg,fun i a ha j u hu=>?_⟩,fun h=>by cases h⟩
  have:=h.cells (g:=g) rfl _ _ (flat_at hk ha hu)
  rw [addN,← Nat.add_assoc] at this
  exact this
theorem own_take {w:World} {base n g cap size:Nat} {T:TypeId} {xs:List Value} (h:w.ownsRow base T size (.slice (some ⟨g,0,none⟩) n cap) n xs) {m:Nat} (hm:m ≤ n):w.ownsRow base T size (.slice (some ⟨g,0,none⟩) m cap) m (xs.take (m * size)):=by
 obtain ⟨h1,h2 | ⟨g',cap',cur,e,hb,hg,hnc,hcm,hcs,ht⟩⟩:=h
 ·simp at h2
 ·simp only [Value.slice.injEq,Option.some.injEq,Addr.mk.injEq,and_true,true_and] at e
  obtain ⟨rfl,rfl⟩:=e
  have hle:m * size ≤ n * size:=Nat.mul_le_mul_right size hm
  refine ⟨by rw [List.length_take];omega,.inr ⟨g,cap,cur,rfl,hb,hg,by omega,hcm,hcs,?_⟩⟩
  rw [← ht,List.take_take,Nat.min_eq_left hle]
end Go.Proofs.YtlcfejgjeljjdaaGreatDoor
namespace Go.Proofs.YtlcfejgjeljjdaaGreatDoor
theorem fit_ge (x a:Nat) (h:0 < a):x ≤ fitN x a:=by
 unfold fitN
 have h1:=Nat.div_add_mod (x + a - 1) a
 have h2:=Nat.mod_lt (x + a - 1) h
 rw [Nat.mul_comm] at h1
 omega
theorem fit_mono {x y a:Nat} (h:x ≤ y):fitN x a ≤ fitN y a:=by
 unfold fitN
 exact Nat.mul_le_mul_right a (Nat.div_le_div_right (by omega))
theorem cut_fit {c x b a M:Nat} (h:c = min x M) (ha:0 < a):min (fitN c a + min b M) M = min (fitN x a + b) M:=by
 subst h
 rcases Nat.le_total x M with hx | hx
 ·rw [Nat.min_eq_left hx]
  omega
 ·rw [Nat.min_eq_right hx]
  have h1:=fit_ge M a ha
  have h2:=fit_mono (a:=a) hx
  omega
theorem cut_fit0 {c x a M:Nat} (h:c = min x M) (ha:0 < a):min (fitN c a) M = min (fitN x a) M:=by
 have:=cut_fit (b:=0) h ha
 simpa using this
theorem cut_mul {n b M:Nat} (_h:0 < M):min (n * min b M) M = min (n * b) M:=by
 rcases Nat.le_total b M with hx | hx
 ·rw [Nat.min_eq_left hx]
 ·rw [Nat.min_eq_right hx]
  rcases Nat.eq_zero_or_pos n with rfl | hn
  ·simp
  ·have h1:M ≤ n * M:=Nat.le_mul_of_pos_left M hn
   have h2:n * M ≤ n * b:=Nat.mul_le_mul_left n hx
   omega
end Go.Proofs.YtlcfejgjeljjdaaGreatDoor
namespace Go.Proofs.YtlcfejgjeljjdaaGreatDoor
open Go.RowKit
def findS (L:List Sr) (s:List UInt8):Option Nat:=L.findIdx? fun k=>decide (k.name.data.toList = s)
def placeS (L:List Sr) (s:List UInt8):Int:=match findS L s with
 | some i=>(i:Nat)
 | none=>-1
theorem findS_map (K:List Kn) (s:List UInt8):findS (K.map Kn.toSr) s = findK K s:=by
 unfold findS findK
 rw [List.findIdx?_map];rfl
theorem placeS_map (K:List Kn) (s:List UInt8):placeS (K.map Kn.toSr) s = placeK K s:=by
 unfold placeS placeK
 rw [findS_map]
 cases findK K s <;> rfl
theorem findK_take {K:List Kn} {m i:Nat} {s:List UInt8} (h:findK (K.take m) s = some i):findK K s = some i ∧ i < m:=by
 unfold findK at *
 rw [List.findIdx?_eq_some_iff_getElem] at *
 obtain ⟨h1,h2,h3⟩:=h
 rw [List.length_take] at h1
 refine ⟨⟨by omega,by rw [List.getElem_take] at h2;exact h2,fun j hj=>?_⟩,by omega⟩
 have:=h3 j hj
 rw [List.getElem_take] at this
 exact this
theorem meas_take {K:List Kn} {m:Nat}:∀ {t:Ty},thereT (K.take m) t = true → measT (K.take m) t = measT K t
 | .arr n t,h=>by rw [thereT] at h;rw [measT,measT,meas_take h]
 | .str s,h=>by
   rw [thereT,Option.isSome_iff_exists] at h
   obtain ⟨i,hi⟩:=h
   obtain ⟨h1,h2⟩:=findK_take hi
   rw [measT,measT,hi,h1]
   simp only [Option.bind_some]
   rw [List.getElem?_take_of_lt h2]
 | .base _,_=>by simp [measT]
 | .ptr _,_=>by simp [measT]
 | .fn _ _,_=>by simp [measT]
def memR (K:List Kn):List (ByteArray × ByteArray) → Nat → Nat → Nat × Nat
 | [],n,a=>(n,a)
 | m :: l,n,a=>match tyS m.2 with
   | none=>(n,a)
   | some t=>memR K l (fitN n (measT K t).2 + (measT K t).1) (max a (measT K t).2)
def MemOk (K:List Kn) (m:ByteArray × ByteArray):Prop:=∃ t,tyS m.2 = some t ∧ checkT K t = 0 ∧ objectT t = true
theorem mems_right {K:List Kn}:∀ {l:List (ByteArray × ByteArray)} {seen:List ByteArray} {n a n' a':Nat},memsK K l seen n a = .inr (n',a') → memR K l n a = (n',a') ∧ ∀ m ∈ l,MemOk K m
 | [],_,_,_,_,_,h=>by rw [memsK] at h;exact ⟨Sum.inr.inj h,fun m hm=>by cases hm⟩
 | m :: l,seen,n,a,n',a',h=>by
   rw [memsK] at h
   split at h
   ·cases h
   ·split at h
    ·cases h
    ·split at h
     ·cases h
     ·rename_i t ht
      split at h
      ·cases h
      ·rename_i hc
       split at h
       ·cases h
       ·rename_i ho
        obtain ⟨h1,h2⟩:=mems_right h
        refine ⟨by rw [memR,ht];exact h1,fun m' hm'=>?_⟩
        rcases List.mem_cons.1 hm' with rfl | hm'
        ·exact ⟨t,ht,by simpa using hc,by simpa using ho⟩
        ·exact h2 m' hm'
theorem check_there {K:List Kn} {t:Ty} (h:checkT K t = 0):thereT K t = true ∧ shapeT t = true ∧ sizedT K t = true:=by
 unfold checkT at h
 split at h
 ·cases h
 ·split at h
  ·cases h
  ·rename_i h1
   split at h
   ·cases h
   ·rename_i h2
    split at h
    ·cases h
    ·rename_i h3
     exact ⟨by simpa using h2,by simpa using h1,by simpa using h3⟩
structure GoodK (K:List Kn):Prop where
 mems:∀ i (h:i < K.length),(∀ m ∈ K[i].mems,MemOk (K.take i) m) ∧ ∃ n,memR (K.take i) K[i].mems 0 1 = (n,K[i].align) ∧ K[i].size = fitN n K[i].align
 al:∀ k ∈ K,1 ≤ k.align ∧ k.align ≤ 4
 len:K.length ≤ 65
 mlen:∀ k ∈ K,k.mems.length ≤ 64
theorem goodK_nil:GoodK []:=⟨(fun i h=>absurd h (Nat.not_lt_zero _)),(fun k h=>by cases h),by decide,(fun k h=>by cases h)⟩
theorem meas_align {K:List Kn} (h:∀ k ∈ K,1 ≤ k.align ∧ k.align ≤ 4):∀ t:Ty,1 ≤ (measT K t).2 ∧ (measT K t).2 ≤ 4
 | .base c=>by rw [measT];repeat' split
               all_goals decide
 | .ptr _=>by rw [measT];decide
 | .fn _ _=>by rw [measT];decide
 | .arr n t=>by rw [measT];exact meas_align h t
 | .str s=>by
   rw [measT]
   split
   ·rename_i k hk
    obtain ⟨i,_,hi⟩:=Option.bind_eq_some_iff.1 hk
    exact h k (List.mem_of_getElem? hi)
   ·decide
theorem memR_align {K:List Kn} (h:∀ k ∈ K,1 ≤ k.align ∧ k.align ≤ 4):∀ (l:List (ByteArray × ByteArray)) (n a:Nat),1 ≤ a ∧ a ≤ 4 → 1 ≤ (memR K l n a).2 ∧ (memR K l n a).2 ≤ 4
 | [],_,_,ha=>by rw [memR];exact ha
 | m :: l,n,a,ha=>by
   rw [memR]
   split
   ·exact ha
   ·rename_i t _
    have:=meas_align h t
    exact memR_align h l _ _ (by omega)
theorem goodK_snoc {K:List Kn} (hG:GoodK K) (hl:K.length ≤ 64) {x:Sr} (hm64:x.mems.length ≤ 64) {n a:Nat} (h:memsK K x.mems [] 0 1 = .inr (n,a)):GoodK (K ++ [({ x with size:=fitN n a,align:=a }:Kn)]):=by
 obtain ⟨h1,h2⟩:=mems_right h
 refine ⟨fun i hi=>?_,fun k hk=>?_,by simp;omega,fun k hk=>?_⟩
 ·rcases Nat.lt_or_ge i K.length with hlt | hge
  ·have e:(K ++ [({ x with size:=fitN n a,align:=a }:Kn)]).take i = K.take i:=by rw [List.take_append_of_le_length (by omega)]
   rw [e,List.getElem_append_left hlt]
   exact hG.mems i hlt
  ·obtain rfl:i = K.length:=by simp at hi;omega
   have e:(K ++ [({ x with size:=fitN n a,align:=a }:Kn)]).take K.length = K:=by simp
   rw [e,List.getElem_append_right (Nat.le_refl _)]
   simp only [Nat.sub_self,List.getElem_cons_zero]
   exact ⟨h2,n,h1,rfl⟩
 ·rcases List.mem_append.1 hk with hk | hk
  ·exact hG.al k hk
  ·obtain rfl:=List.mem_singleton.1 hk
   have:=memR_align hG.al x.mems 0 1 ⟨Nat.le_refl _,by decide⟩
   rw [h1] at this
   exact this
 ·rcases List.mem_append.1 hk with hk | hk
  ·exact hG.mlen k hk
  ·obtain rfl:=List.mem_singleton.1 hk
   exact hm64
theorem addK_right {K:List Kn} {x:Sr} {k:Kn} (h:addK K x = .inr k):isNameB x.name = true ∧ (findK K x.name.data.toList).isSome = false ∧ x.mems.length ≤ 64 ∧ x.mems ≠ [] ∧ ∃ n a,memsK K x.mems [] 0 1 = .inr (n,a) ∧ k = { x with size:=fitN n a,align:=a } ∧ fitN n a ≤ 65536:=by
 unfold addK at h
 split at h
 ·cases h
 ·rename_i h1
  split at h
  ·cases h
  ·rename_i h2
   split at h
   ·cases h
   ·rename_i h3
    split at h
    ·cases h
    ·rename_i h4
     split at h
     ·cases h
     ·rename_i n a hm
      split at h
      ·cases h
      ·rename_i h5
       exact ⟨by simpa using h1,by simpa using h2,by omega,h4,n,a,hm,(Sum.inr.inj h).symm,by omega⟩
structure KnowsK (K:List Kn) (L:List Sr):Prop where
 good:GoodK K
 fit:FitK K
 list:K.map Kn.toSr = L
theorem knows_nil:KnowsK [] []:=⟨goodK_nil,fitK_nil,rfl⟩
theorem knows_snoc {K:List Kn} {L:List Sr} {x:Sr} {k:Kn} (h:KnowsK K L) (hl:K.length < 64) (hk:addK K x = .inr k):KnowsK (K ++ [k]) (L ++ [x]):=by
 obtain ⟨_,_,h3,_,n,a,hm,rfl,_⟩:=addK_right hk
 exact ⟨goodK_snoc h.good (by omega) h3 hm,addK_fit h.fit hl hk,by rw [List.map_append,h.list];rfl⟩
theorem learnF_knows:∀ {l L:List Sr} {K K':List Kn},KnowsK K L → L.length + l.length ≤ 64 → learnF K l = .inr K' → KnowsK K' (L ++ l)
 | [],L,K,K',h,_,hl=>by
   rw [learnF] at hl
   obtain rfl:=Sum.inr.inj hl
   rw [List.append_nil];exact h
 | x :: l,L,K,K',h,hn,hl=>by
   rw [learnF] at hl
   have hkl:K.length = L.length:=by rw [← h.list,List.length_map]
   simp only [List.length_cons] at hn
   split at hl
   ·cases hl
   ·rename_i k hk
    have:=learnF_knows (knows_snoc h (by omega) hk) (by simp;omega) hl
    rwa [List.append_assoc] at this
theorem learnK_knows {L:List Sr} {K:List Kn} (h:learnK L = .inr K):KnowsK K L:=by
 unfold learnK at h
 split at h
 ·cases h
 ·have:=learnF_knows knows_nil (by simp;omega) h
  exact this
def cutN (n:Nat):Nat:=min n 65537
theorem memR_cut {n m b a:Nat} (h:m = cutN n) (ha:0 < a):cutN (fitN m a + cutN b) = cutN (fitN n a + b):=cut_fit h ha
theorem memR_snoc {K:List Kn}:∀ {l:List (ByteArray × ByteArray)} {m:ByteArray × ByteArray} {t:Ty} {n a:Nat},(∀ m ∈ l,MemOk K m) → tyS m.2 = some t → memR K (l ++ [m]) n a = (fitN (memR K l n a).1 (measT K t).2 + (measT K t).1,max (memR K l n a).2 (measT K t).2)
 | [],m,t,n,a,_,ht=>by simp [memR,ht]
 | m' :: l,m,t,n,a,hok,ht=>by
   obtain ⟨t',ht',_⟩:=hok m' (by simp)
   rw [List.cons_append,memR,memR,ht']
   simp only
   exact memR_snoc (fun m hm=>hok m (by simp [hm])) ht
end Go.Proofs.YtlcfejgjeljjdaaGreatDoor
namespace Go.Proofs.YtlcfejgjeljjdaaGreatDoor
open Go.RowKit
def runN (l:List UInt8):Nat:=(l.takeWhile digB).length
theorem runN_yes {c:UInt8} {l:List UInt8} (h:digB c = true):runN (c :: l) = runN l + 1:=by simp [runN,h]
theorem runN_no {c:UInt8} {l:List UInt8} (h:digB c = false):runN (c :: l) = 0:=by simp [runN,h]
theorem runN_nil:runN [] = 0:=rfl
theorem ret_num {a b:Int} (h:a = b):Ending.returned (.int .i64 a) = .returned (.int .i64 b):=by rw [h]
set_option maxHeartbeats 2000000 in
theorem refDigits_ok (s:ByteArray) (k:Nat) (hk:k ≤ s.size) (hs:s.size ≤ 1048576) (w:World):Calls Tryz.prog 119 #[.string s,.int .i64 (k:Int)] w fun e w'=>e = .returned (.int .i64 ((k + runN (sfx s k):Nat):Int)) ∧ w' = w:=by
 have hs':(s.size:Int) ≤ 1048576:=by omega
 go_enter Tryz.func119,Tryz.ntmps119
 go_wp2_with fail
 go_loopg [1] (s.size - k) (fun g v wy=>∃ j:Nat,j ≤ s.size ∧ j + g = s.size ∧ v = .int .i64 (j:Int) ∧ Hid (k + runN (sfx s k) = j + runN (sfx s j)) ∧ w = wy)
 case atStart=>exact ⟨k,hk,by omega,rfl,rfl,rfl⟩
 case round=>
  obtain ⟨j,hj,hjg,rfl,hr,rfl⟩:=hrel
  by_cases hlt:j < s.size
  ·by_cases hd:digB s[j] = true
   ·have HN:=Hd (show k + runN (sfx s k) = (j + 1) + runN (sfx s (j + 1)) by
     rw [hr.out,sfx_cons s j hlt,runN_yes hd];omega)
    have h2:=of_decide_eq_true hd
    have t1:(48:Int) ≤ s[j].toNat:=by omega
    have t2:(s[j].toNat:Int) ≤ 57:=by omega
    clear hd h2
    go_wp2_with fail
    go_roundg (s.size - (j + 1))
    case measure=>omega
    case rel=>exact ⟨j + 1,by omega,by omega,by rw [Int.natCast_add];rfl,HN.out,rfl⟩
   ·have hd':digB s[j] = false:=by simpa using hd
    have hfin:=Hd (show k + runN (sfx s k) = j by rw [hr.out,sfx_cons s j hlt,runN_no hd'];omega)
    have h2:¬ (48 ≤ s[j].toNat ∧ s[j].toNat ≤ 57):=of_decide_eq_false hd'
    have h3:(s[j].toNat:Int) < 48 ∨ ((48:Int) ≤ s[j].toNat ∧ (57:Int) < s[j].toNat):=by omega
    clear hd hd' h2
    rcases h3 with t1 | ⟨t1,t2⟩
    all_goals
     go_wp2_with fail
     go_ret
     exact ⟨ret_num (by have:=hfin.out;omega),rfl⟩
  ·have hfin:=Hd (show k + runN (sfx s k) = j by rw [hr.out,sfx_nil s j (by omega),runN_nil];omega)
   have t3:(s.size:Int) ≤ (j:Int):=by omega
   go_wp2_with fail
   go_ret
   exact ⟨ret_num (by have:=hfin.out;omega),rfl⟩
set_option maxHeartbeats 4000000 in
set_option maxRecDepth 100000 in
theorem refWhole_ok (s:ByteArray) (w:World):Calls Tryz.prog 120 #[.string s,.int .i64 1099511627776] w (Numbered (numT s.data.toList) w):=by
 have hl:s.data.toList.length = s.size:=by rw [Array.length_toList];rfl
 have Hl:=Hd hl
 clear hl
 by_cases h0:s.size = 0
 ·have hfin:=Hd (show numT s.data.toList = none by unfold numT;rw [if_pos (.inl (List.eq_nil_of_length_eq_zero (by rw [Hl.out];exact h0)))])
  have t1:((s.size:Int) == 0) = true:=by rw [beq_iff_eq];omega
  go_enter Tryz.func120,Tryz.ntmps120
  go_wp2_with fail
  go_ret2
  exact numbered_no hfin.out (Below.refl _ _)
 ·have t1:((s.size:Int) == 0) = false:=by rw [beq_eq_false_iff_ne];omega
  by_cases h15:15 < s.size
  ·have hfin:=Hd (numT_long (l:=s.data.toList) (by rw [Hl.out];exact h15))
   have t2:(15:Int) < s.size:=by omega
   go_enter Tryz.func120,Tryz.ntmps120
   go_wp2_with fail
   go_ret2
   exact numbered_no hfin.out (Below.refl _ _)
  ·have t2:(s.size:Int) ≤ 15:=by omega
   by_cases hz:1 < s.size ∧ s.data.toList.head? = some 48
   ·have hfin:=Hd (numT_zero (l:=s.data.toList) (by rw [Hl.out];exact hz.1) hz.2)
    have h1:0 < s.size:=by omega
    have t3:(1:Int) < s.size:=by omega
    have t4:((s[0].toNat:Int) == 48) = true:=by
     have:=hz.2
     rw [head_at s h1] at this
     simp [Option.some.inj this]
    clear hz
    go_enter Tryz.func120,Tryz.ntmps120
    go_wp2_with fail
    go_ret2
    exact numbered_no hfin.out (Below.refl _ _)
   ·have h1:0 < s.size:=by omega
    have HZ:=Hd (show 1 < s.data.toList.length → s.data.toList.head? ≠ some 48 from fun a b=>hz ⟨by rw [Hl.out] at a;exact a,b⟩)
    have hz':((s.size:Int) ≤ 1) ∨ ((1:Int) < s.size ∧ ((s[0].toNat:Int) == 48) = false):=by
     by_cases h:1 < s.size
     ·refine .inr ⟨by omega,?_⟩
      have h3:s.data.toList.head? ≠ some 48:=fun e=>hz ⟨h,e⟩
      rw [head_at s h1] at h3
      rw [beq_eq_false_iff_ne]
      intro e
      have e':s[0].toNat = 48:=by omega
      exact h3 (by rw [Option.some.injEq];exact UInt8.toNat_inj.1 e')
     ·exact .inl (by omega)
    clear hz
    go_enter Tryz.func120,Tryz.ntmps120
    go_upto_region 1 with fail
    go_cut [25] (fun v wx=>v = .bool false ∧ w = wx)
    case first=>
     rcases hz' with h | ⟨h,h'⟩
     all_goals
      go_wp2_with fail
      go_meet
      exact ⟨by congr 1;simp_all;try omega,rfl⟩
    case rest=>
     obtain ⟨rfl,rfl⟩:=hcut
     clear hz'
     go_wp2_with fail
     go_loopg [6,7] s.size (fun g nv i wy=>∃ k:Nat,k ≤ s.size ∧ k + g = s.size ∧ i = .int .i64 (k:Int) ∧ nv = .int .i64 (valT (s.data.toList.take k):Nat) ∧ Hid ((s.data.toList.take k).all digB = true) ∧ w = wy)
     case atStart=>exact ⟨0,Nat.zero_le _,by omega,rfl,rfl,rfl,rfl⟩
     case round=>
      obtain ⟨k,hk,hkg,rfl,rfl,hd,rfl⟩:=hrel
      have hv:valT (s.data.toList.take k) < 10 ^ 15:=Nat.lt_of_lt_of_le (valT_bd _ _ rfl hd.out) (Nat.pow_le_pow_right (by decide) (by rw [List.length_take];omega))
      have hv':(valT (s.data.toList.take k):Int) < 1000000000000000:=by omega
      clear hv
      by_cases hlt:k < s.size
      ·have HT:=Hd (take_snoc s k hlt)
       rcases hdk:digB s[k] with _ | _
       ·have hfin:=Hd (show numT s.data.toList = none from numT_bad (by
         rw [Bool.eq_false_iff];intro e
         have:=List.all_eq_true.1 e _ (List.getElem_mem (l:=s.data.toList) (n:=k) (by rw [Hl.out];exact hlt))
         rw [show s.data.toList[k]'(by rw [Hl.out];exact hlt) = s[k] from rfl,hdk] at this;cases this))
        have hw:(s[k].toNat:Int) < 48 ∨ (48 ≤ (s[k].toNat:Int) ∧ 57 < (s[k].toNat:Int)):=by
         unfold digB at hdk
         rw [decide_eq_false_iff_not] at hdk
         omega
        clear hdk
        rcases hw with h | ⟨h,h'⟩
        all_goals
         go_wp2_with fail
         go_ret2
         exact numbered_no hfin.out (Below.refl _ _)
       ·have h1:48 ≤ (s[k].toNat:Int) ∧ (s[k].toNat:Int) ≤ 57:=by
         unfold digB at hdk
         rw [decide_eq_true_iff] at hdk
         omega
        obtain ⟨h1,h2⟩:=h1
        have hd':=Hd (show (s.data.toList.take (k + 1)).all digB = true by rw [HT.out,List.all_append,hd.out];simp [hdk])
        have hv2:=Hd (show valT (s.data.toList.take (k + 1)) = 10 * valT (s.data.toList.take k) + (s[k].toNat - 48) by rw [HT.out,valT_snoc])
        clear hdk
        have hx0:(0:Int) ≤ (valT (s.data.toList.take k):Int):=by omega
        have HV:=Hd (show (valT (s.data.toList.take (k + 1)):Int) = 10 * (valT (s.data.toList.take k):Int) + (s[k].toNat:Int) - 48 by have:=hv2.out;omega)
        clear hv2
        generalize (valT (s.data.toList.take k):Int) = x at hv' hx0 HV ⊢
        go_wp2_with fail
        go_roundg (s.size - (k + 1))
        case measure=>omega
        case rel=>exact ⟨k + 1,by omega,by omega,by rw [Int.natCast_add];rfl,by rw [HV.out],hd',rfl⟩
      ·obtain rfl:k = s.size:=by omega
       rw [← Hl.out,List.take_length] at hd hv'
       have e1:=Hd (show s.data.toList.take s.size = s.data.toList by rw [← Hl.out,List.take_length])
       have hfin:=Hd (numT_end (l:=s.data.toList) (by intro e;rw [e] at Hl;exact h0 Hl.out.symm) (by rw [Hl.out];omega) HZ.out hd.out)
       rw [e1.out]
       obtain ⟨n,en⟩:∃ n,n = valT s.data.toList:=⟨_,rfl⟩
       rw [← en] at hfin hv' ⊢
       clear hd en
       have t3:(s.size:Int) ≤ (s.size:Int):=Int.le_refl _
       go_wp2_with fail
       go_ret2
       exact numbered_end hfin.out (Below.refl _ _)
end Go.Proofs.YtlcfejgjeljjdaaGreatDoor
namespace Go.Proofs.YtlcfejgjeljjdaaGreatDoor
open Go.RowKit
theorem refKind_ok (t:Ty) (w:World):Calls Tryz.prog 114 #[.string (tyB t)] w fun e w'=>e = .returned (.int .u8 ((headT t).toNat:Int)) ∧ w' = w:=by
 obtain ⟨h0,hc⟩:=tyB_head t
 have HC:=Hd hc
 generalize tyB t = s at *
 clear hc
 go_enter Tryz.func114,Tryz.ntmps114
 go_wp2_with fail
 go_ret
 exact ⟨by rw [← HC.out];rfl,rfl⟩
theorem runN_app {l r:List UInt8} (h:l.all digB = true) (hr:∀ c,r.head? = some c → digB c = false):runN (l ++ r) = l.length:=by
 unfold runN
 induction l with
 | nil=>
   cases r with
   | nil=>rfl
   | cons c r=>simp [hr c rfl]
 | cons c l ih=>
   rw [List.all_cons,Bool.and_eq_true] at h
   simp [h.1,ih h.2]
set_option maxHeartbeats 2000000 in
theorem refInner_ptr (u:Ty) (w:World):Calls Tryz.prog 115 #[.string (tyB (.ptr u))] w fun e w'=>e = .returned (.tuple #[.string (tyB u),.int .i64 0]) ∧ Below w.heap.size w w':=by
 have HK:=Hd (refKind_ok (.ptr u) w)
 have HX:=Hd (tyB_ext (t:=.ptr u) (u:=u) (k:=1) rfl)
 have h0:=(tyB_head (.ptr u)).1
 have hk:headT (.ptr u) = 112:=rfl
 rw [hk] at HK
 generalize tyB (.ptr u) = s at *
 have h1:(1:Int) ≤ s.size:=by omega
 clear hk
 go_enter Tryz.func115,Tryz.ntmps115
 go_wp2_with (go_at_call 114;(with_reducible refine HK.out.mono ?_);rintro e w1 ⟨rfl,hw1⟩;subst w1)
 rw [HX.out]
 go_ret2
 exact ⟨rfl,Below.refl _ _⟩
set_option maxHeartbeats 2000000 in
theorem refInner_arr (n:Nat) (u:Ty) (hr:Right (.arr n u)) (hl:(code (.arr n u)).length ≤ 65536) (w:World):Calls Tryz.prog 115 #[.string (tyB (.arr n u))] w fun e w'=>e = .returned (.tuple #[.string (tyB u),.int .i64 (n:Int)]) ∧ Below w.heap.size w w':=by
 have HK:=Hd (refKind_ok (.arr n u) w)
 have hk:headT (.arr n u) = 97:=rfl
 rw [hk] at HK
 have hs:sfx (tyB (.arr n u)) 1 = Lib.decDigits n ++ 58 :: code u:=by rw [sfx,tyB_list,code];rfl
 have hrun:runN (sfx (tyB (.arr n u)) 1) = (Lib.decDigits n).length:=by
  rw [hs]
  exact runN_app (dec_digits n).1 (fun c hc=>by obtain rfl:=Option.some.inj hc;rfl)
 have hsz:(tyB (.arr n u)).size = 1 + (Lib.decDigits n).length + 1 + (code u).length:=by rw [tyB_size,code];simp;omega
 have HD:=Hd (refDigits_ok (tyB (.arr n u)) 1 (by omega) (by rw [tyB_size];omega))
 rw [hrun] at HD
 have HE1:=Hd (show ((tyB (.arr n u)).extract 1 (1 + (Lib.decDigits n).length)).data.toList = Lib.decDigits n by rw [extract_take,hs,List.take_left])
 have HE2:=Hd (tyB_ext (t:=.arr n u) (u:=u) (k:=1 + (Lib.decDigits n).length + 1) (by
  rw [code,Nat.add_comm 1,List.drop_succ_cons]
  rw [show (Lib.decDigits n).length + 1 = (Lib.decDigits n ++ [58]).length by simp]
  rw [show Lib.decDigits n ++ 58 :: code u = (Lib.decDigits n ++ [58]) ++ code u by simp,List.drop_left]))
 have HN:=Hd (numT_mk hr.1)
 have hl':(tyB (.arr n u)).size ≤ 65536:=by rw [tyB_size];exact hl
 generalize tyB (.arr n u) = s at *
 generalize (Lib.decDigits n).length = d at *
 have HWh:=Hd (show Calls Tryz.prog 120 #[.string (s.extract 1 (1 + d)),.int .i64 1099511627776] w fun e w'=>e = .returned (.tuple #[.int .i64 (n:Int),.bool true]) ∧ Below w.heap.size w w' by
  have h:=refWhole_ok (s.extract 1 (1 + d)) w
  rw [HE1.out,HN.out] at h
  exact h)
 have hi:(((1 + d:Nat):Int)) = 1 + (d:Int):=by omega
 have b1:(1:Int) ≤ 1 + (d:Int):=by omega
 have b2:1 + (d:Int) ≤ s.size:=by omega
 have b3:1 + (d:Int) + 1 ≤ s.size:=by omega
 have b4:(s.size:Int) ≤ 65536:=by omega
 rw [hi] at HD
 clear hk hs hrun hl hr hi hsz hl'
 go_enter Tryz.func115,Tryz.ntmps115
 go_wp2_with (first | (go_at_call 114;(with_reducible refine HK.out.mono ?_);rintro e w1 ⟨rfl,hw1⟩;subst w1) | (go_at_call 119;refine (HD.out _).mono ?_;rintro e w2 ⟨rfl,hw2⟩;subst w2))
 go_wp2_with (go_at_call 120;(with_reducible refine HWh.out.mono ?_);rintro e w3 ⟨rfl,hb3⟩;have HB3:=Hd hb3;clear hb3)
 rw [HE2.out]
 go_ret2
 exact ⟨rfl,HB3.out⟩
end Go.Proofs.YtlcfejgjeljjdaaGreatDoor
namespace Go.Proofs.YtlcfejgjeljjdaaGreatDoor
open Go.RowKit
def NextP (s:ByteArray) (r:Option (Ty × List UInt8)) (w:World) (e:Ending) (w':World):Prop:=
 (match r with
   | some q=>e = .returned (.tuple #[.int .i64 ((s.size - q.2.length:Nat):Int),.bool true])
   | none=>∃ z:Int,e = .returned (.tuple #[.int .i64 z,.bool false])) ∧ Below w.heap.size w w'
theorem next_no {s:ByteArray} {r:Option (Ty × List UInt8)} {w w':World} {z:Int} (hr:r = none) (hb:Below w.heap.size w w'):NextP s r w (.returned (.tuple #[.int .i64 z,.bool false])) w':=by subst hr;exact ⟨⟨z,rfl⟩,hb⟩
theorem next_yes {s:ByteArray} {r:Option (Ty × List UInt8)} {t:Ty} {q:List UInt8} {w w':World} {z:Int} (hr:r = some (t,q)) (hz:z = ((s.size - q.length:Nat):Int)) (hb:Below w.heap.size w w'):NextP s r w (.returned (.tuple #[.int .i64 z,.bool true])) w':=by
 subst hr;subst hz;exact ⟨rfl,hb⟩
theorem next_end (n k:Nat) (s:ByteArray) (w:World) (hk:s.size ≤ k):Calls Tryz.prog 92 #[.string s,.int .i64 (k:Int)] w (NextP s (tyF n (sfx s k)) w):=by
 have hfin:=Hd (show tyF n (sfx s k) = none by rw [sfx_nil s k hk];cases n <;> rfl)
 have t1:(s.size:Int) ≤ k:=by omega
 go_enter Tryz.func92,Tryz.ntmps92
 go_wp2_with fail
 go_ret2
 exact next_no hfin.out (Below.refl _ _)
set_option maxHeartbeats 2000000 in
theorem next_base (n k:Nat) (s:ByteArray) (w:World) (hk:k < s.size) (hs:s.size ≤ 65536) (hc:isBase s[k] = true):Calls Tryz.prog 92 #[.string s,.int .i64 (k:Int)] w (NextP s (tyF (n + 1) (sfx s k)) w):=by
 have hfin:=Hd (show tyF (n + 1) (sfx s k) = some (.base s[k],sfx s (k + 1)) by rw [sfx_cons s k hk,tyF,if_pos hc])
 have hz:=Hd (show ((k:Int) + 1) = ((s.size - (sfx s (k + 1)).length:Nat):Int) by rw [sfx_length];omega)
 have hs':(s.size:Int) ≤ 65536:=by omega
 have e:∃ x:Nat,s[k].toNat = x ∧ (x = 118 ∨ x = 99 ∨ x = 115 ∨ x = 105 ∨ x = 117 ∨ x = 106):=⟨_,rfl,by rcases base_six hc with h | h | h | h | h | h <;> rw [h] <;> decide⟩
 obtain ⟨x,hx,hor⟩:=e
 have T:∀ d:Nat,((s[k].toNat:Int) == (d:Int)) = decide (x = d):=fun d=>by rw [Bool.eq_iff_iff,beq_iff_eq,decide_eq_true_iff,hx];omega
 clear hc hx
 rcases hor with rfl | rfl | rfl | rfl | rfl | rfl
 all_goals
  have v1:=T 118
  have v2:=T 99
  have v3:=T 115
  have v4:=T 105
  have v5:=T 117
  have v6:=T 106
  simp only [Int.cast_ofNat_Int,Nat.reduceEqDiff,decide_true,decide_false] at v1 v2 v3 v4 v5 v6
  clear T
  go_enter Tryz.func92,Tryz.ntmps92
  go_wp2_with fail
  go_ret2
  exact next_yes hfin.out hz.out (Below.refl _ _)
theorem six_no {c:UInt8} (h:isBase c = false):((c.toNat:Int) == 118) = false ∧ ((c.toNat:Int) == 99) = false ∧ ((c.toNat:Int) == 115) = false ∧ ((c.toNat:Int) == 105) = false ∧ ((c.toNat:Int) == 117) = false ∧ ((c.toNat:Int) == 106) = false:=by
 have key:∀ d:UInt8,isBase d = true → ((c.toNat:Int) == (d.toNat:Int)) = false:=fun d hd=>by
  rw [beq_eq_false_iff_ne]
  intro e
  have:c = d:=UInt8.toNat_inj.1 (by omega)
  rw [this,hd] at h;cases h
 exact ⟨key 118 (by decide),key 99 (by decide),key 115 (by decide),key 105 (by decide),key 117 (by decide),key 106 (by decide)⟩
set_option maxHeartbeats 2000000 in
theorem next_ptr (n k:Nat) (s:ByteArray) (w:World) (hk:k < s.size) (hs:s.size ≤ 65536) (hc:s[k] = 112) (ih:Calls Tryz.prog 92 #[.string s,.int .i64 ((k + 1:Nat):Int)] w (NextP s (tyF n (sfx s (k + 1))) w)) :
 Calls Tryz.prog 92 #[.string s,.int .i64 (k:Int)] w (NextP s (tyF (n + 1) (sfx s k)) w):=by
 have ht:tyF (n + 1) (sfx s k) = (tyF n (sfx s (k + 1))).map fun q=>(.ptr q.1,q.2):=by rw [sfx_cons s k hk,tyF,hc,if_neg (by decide),if_pos rfl]
 have hs':(s.size:Int) ≤ 65536:=by omega
 obtain ⟨v1,v2,v3,v4,v5,v6⟩:=six_no (c:=s[k]) (by rw [hc];decide)
 have v7:((s[k].toNat:Int) == 112) = true:=by rw [hc];rfl
 rw [Int.natCast_add] at ih
 have IH:=Hd ih
 clear ih hc
 rcases hr:tyF n (sfx s (k + 1)) with _ | ⟨t,q⟩
 ·rw [hr] at ht IH
  have hfin:=Hd ht
  clear ht hr
  go_enter Tryz.func92,Tryz.ntmps92
  go_wp2_with (go_at_call 92;refine IH.out.mono ?_;rintro e w1 ⟨⟨z,rfl⟩,hb⟩;have HB:=Hd hb;clear hb)
  go_ret2
  exact next_no hfin.out HB.out
 ·rw [hr] at ht IH
  have hfin:=Hd ht
  clear ht hr
  go_enter Tryz.func92,Tryz.ntmps92
  go_wp2_with (go_at_call 92;refine IH.out.mono ?_;rintro e w1 ⟨rfl,hb⟩;have HB:=Hd hb;clear hb)
  go_ret2
  exact next_yes hfin.out rfl HB.out
theorem let_no {c:UInt8} {d:UInt8} (h:c ≠ d) {m:Int} (hm:(d.toNat:Int) = m):((c.toNat:Int) == m) = false:=by
 rw [beq_eq_false_iff_ne,← hm]
 intro e
 exact h (UInt8.toNat_inj.1 (by omega))
set_option maxHeartbeats 2000000 in
theorem next_other (n k:Nat) (s:ByteArray) (w:World) (hk:k < s.size) (hs:s.size ≤ 65536) (h0:isBase s[k] = false) (h1:s[k] ≠ 112) (h2:s[k] ≠ 97) (h3:s[k] ≠ 83) (h4:s[k] ≠ 102) :
 Calls Tryz.prog 92 #[.string s,.int .i64 (k:Int)] w (NextP s (tyF (n + 1) (sfx s k)) w):=by
 have hfin:=Hd (show tyF (n + 1) (sfx s k) = none by rw [sfx_cons s k hk,tyF,if_neg (by simp [h0]),if_neg h1,if_neg h2,if_neg h3,if_neg h4])
 have hs':(s.size:Int) ≤ 65536:=by omega
 obtain ⟨v1,v2,v3,v4,v5,v6⟩:=six_no h0
 have v7:=let_no h1 (m:=112) rfl
 have v8:=let_no h2 (m:=97) rfl
 have v9:=let_no h3 (m:=83) rfl
 have v10:=let_no h4 (m:=102) rfl
 clear h0 h1 h2 h3 h4
 go_enter Tryz.func92,Tryz.ntmps92
 go_wp2_with fail
 go_ret2
 exact next_no hfin.out (Below.refl _ _)
end Go.Proofs.YtlcfejgjeljjdaaGreatDoor
