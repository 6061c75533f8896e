/- Rows of functions of one's own: which blocks their parts lie -/
import Derived.Test.YtkokdafkjjcgoaaGreatDoorMg36
namespace Go.Proofs.YtkokdafkjjcgoaaGreatDoor
open Go.RowKit
theorem cell_sameU {w w':World} {b:Nat} (h:w'.heap[b]? = w.heap[b]?) (j:Nat):w'.cell? ⟨b,j,none⟩ = w.cell? ⟨b,j,none⟩:=by
 unfold World.cell?
 simp only [h]
def IsSlU {α:Type} (k:Nat) (cells:α → List Value) (P:Nat → Prop) (w:World) (a:Option Addr) (L:List α):Prop:=
 L ≠ [] → ∃ b off,a = some ⟨b,off,none⟩ ∧ P b ∧ ∀ (i:Nat) t,L[i]? = some t → ∀ (j:Nat) u,(cells t)[j]? = some u → w.cell? ⟨b,off + i * k + j,none⟩ = some u
def KeepPU (P P':Nat → Prop) (w w':World):Prop:=∀ b,P b → w'.heap[b]? = w.heap[b]? ∧ P' b
theorem IsSlU.keep {α:Type} {k:Nat} {cells:α → List Value} {P P':Nat → Prop} {w w':World} {a:Option Addr} {L:List α} (h:IsSlU k cells P w a L) (hk:KeepPU P P' w w'):IsSlU k cells P' w' a L:=fun hn=>by
 obtain ⟨b,off,e,hp,hc⟩:=h hn
 exact ⟨b,off,e,(hk b hp).2,fun i t ht j u hu=>by rw [cell_sameU (hk b hp).1];exact hc i t ht j u hu⟩
theorem IsSlU.sl {α:Type} {k:Nat} {cells:α → List Value} {P:Nat → Prop} {w:World} {a:Option Addr} {L:List α} {B:Nat} (h:IsSlU k cells P w a L) (hP:∀ b,P b → b < B):IsSl k cells B w a L:=fun hn=>by
 obtain ⟨b,off,e,hp,hc⟩:=h hn
 exact ⟨b,off,e,hP b hp,hc⟩
theorem own_slU {α:Type} {k:Nat} {cells:α → List Value} (hk:∀ a,(cells a).length = k) {w:World} {base n:Nat} {T:TypeId} {v:Value} {L:List α} (h:w.ownsRow base T k v n (L.flatMap cells)) (hn:n = L.length):∃ a cap,v = .slice a L.length cap ∧ L.length ≤ cap ∧ cap ≤ maxLen ∧ IsSlU k cells (fun b=>v.ownBlock = some b ∧ base ≤ b ∧ b < w.heap.size) w a L ∧ (a = none → L.length = 0 ∧ cap = 0):=by
 subst hn
 rcases h.2 with ⟨rfl,h0⟩ | ⟨g,cap,cur,rfl,hb,hg,hn,hc,_⟩
 ·refine ⟨none,0,by rw [h0],by omega,by decide,fun hne=>absurd (List.eq_nil_of_length_eq_zero h0) hne,fun _=>⟨h0,rfl⟩⟩
 ·exact ⟨_,cap,rfl,hn,hc,fun hne=>⟨g,0,rfl,⟨rfl,hb,lt_of_heap hg⟩,fun i t ht j u hu=>by rw [Nat.zero_add];exact own_cell hk h ht hu⟩,fun e=>by cases e⟩
abbrev OffU (B:Nat) (w:World) (v:Value):Nat → Prop:=fun b=>B ≤ b ∧ b < w.heap.size ∧ v.ownBlock ≠ some b
theorem keep_offU {B:Nat} {w w':World} {v:Value} {row:Option Nat} (hg:w.grownBy w' row) (hr:∀ r,row = some r → r < B ∨ v.ownBlock = some r):KeepPU (OffU B w v) (OffU B w' v) w w':=fun b ⟨h1,h2,h3⟩=>
 ⟨hg.block b h2 (fun e=>by rcases hr b e.symm with h | h;omega;exact h3 h),h1,Nat.lt_of_lt_of_le h2 hg.size,h3⟩
theorem keep_pushU {B:Nat} {w w':World} {v v':Value} (hg:w.grownBy w' v.ownBlock) (hv:∀ g,v'.ownBlock = some g → v.ownBlock = some g ∨ g = w.heap.size):KeepPU (OffU B w v) (OffU B w' v') w w':=fun b ⟨h1,h2,h3⟩=>
 ⟨hg.block b h2 (fun e=>h3 e.symm),h1,Nat.lt_of_lt_of_le h2 hg.size,fun e=>by
   rcases hv b e with h | h
   ·exact h3 h
   ·omega⟩
theorem grn_blwU {w w':World} (row:Option Nat) (hb:Below w.heap.size w w'):w.grownBy w' row:=⟨hb.os,hb.tape,hb.output,hb.size,fun k hk _=>hb.block k hk⟩
end Go.Proofs.YtkokdafkjjcgoaaGreatDoor
