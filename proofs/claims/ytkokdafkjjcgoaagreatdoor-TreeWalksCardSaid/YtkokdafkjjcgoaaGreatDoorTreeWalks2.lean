/- Any tree is gone over and counted as the document says: the rest; lists of numbers that come in. -/
import Derived.Test.YtkokdafkjjcgoaaGreatDoorTreeWalks
namespace Go.Proofs.YtkokdafkjjcgoaaGreatDoor
open Go.RowKit Go.Shelf

attribute [local go_sem] Oper.semAt_some

set_option maxRecDepth 100000 in
set_option maxHeartbeats 8000000 in
theorem treeWalks_n (a : Option Addr) (cap : Nat) (t : List Nd) (ka : Option Addr) (kc : Nat) (K : List Int) (stop : Int) (w : World) (hE : TE w) (hI : IsNds w.heap.size w a t) (hOk : ∀ x ∈ t, NdOk x) (hz : t.length * 64 ≤ 140737488351232) (hnil : a = none → t = [] ∧ cap = 0)
    (hK : IsInts w.heap.size w ka K) (hkz : K.length * 8 ≤ 140737488351232) (hkn : ka = none → K = [] ∧ kc = 0) (h : checkN9 t ≠ 0) :
    Calls Tryz.prog 4 #[.slice a t.length cap, .slice ka K.length kc, .int .i64 stop] w fun e w' => e = .returned (.bool true) ∧ Below w.heap.size w w' := by
  have hnf : ∀ (wx : World), (binOp .eql 43 .nilFunc .nilFunc).run Tryz.prog wx = .ok (.bool true) wx := fun _ => by kernel_rfl
  have hdd : ∀ k : Nat, (Fence.wide.depth.isSome = true → 1 ≤ k) := fun k h => by cases h
  have hkl : (K.length : Int) ≤ 140737488355328 := by omega
  have K1 := Lib.hid (fun w1 (hI : IsNds w1.heap.size w1 a t) => copyTree_ok a cap t w1 hI hz hnil)
  have K2 := Lib.hid (fun w1 (hK : IsInts w1.heap.size w1 ka K) => copyInts_ok ka kc K w1 hK hkz hkn)
  have K3 := Lib.hid (fun a1 c1 k1 q1 w1 (hE : TE w1) (hI : IsNds w1.heap.size w1 a1 t) hn => treeCount_n a1 c1 t k1 q1 K w1 hE hI hOk hz hn h)
  have K4 := Lib.hid (fun w1 (hI : IsNds w1.heap.size w1 a t) => refCount_n a cap t ka kc K w1 hI hOk hz h)
  have K5 := Lib.hid (fun k1 q1 w1 (hA : IsInts w1.heap.size w1 k1 K) (hB : IsInts w1.heap.size w1 ka K) => sameZ_ok k1 ka q1 kc K w1 hA hB hkl)
  have K6 := Lib.hid (fun a1 c1 w1 (hE : TE w1) (hI : IsNds w1.heap.size w1 a1 t) hn => treeWalk_n a1 c1 t w1 hE hI hOk hz hn h)
  have K7 := Lib.hid (fun w1 (hI : IsNds w1.heap.size w1 a t) => refWalk_n a cap t w1 hI hOk hz h)
  have t3 : (checkN9 t != 0) = true := by simpa using h
  have t4 : (checkN9 t != checkN9 t) = false := bne_self_eq_false _
  generalize checkN9 t = cc at *
  have HE := Lib.hid hE
  have HI := Lib.hid hI
  have HK := Lib.hid hK
  clear hE hI hOk hnil hK hkn h
  refine (callsIn_wide (n := 3)).1 ?_
  refine callsIn_of_wp_marks Tryz.func4 rfl trivial ?_ rfl
  simp only [Tryz.ntmps4, List.size_toArray, List.length_cons, List.length_nil, Nat.reduceAdd, Nat.reduceSub, Array.replicate_succ, Array.replicate_zero, List.push_toArray, List.append_toArray, List.nil_append, List.cons_append]
  have hx1 : ((w.alloc (.cells #[.int .i64 stop] 3)).alloc (.cells #[.bool false] 4)).heap[w.heap.size]? = some (.cells #[.int .i64 stop] 3 (0, 0)) := (Below.heap_alloc _ _ _ (by simp)).trans (heap_alloc_new _ _)
  have hx2 : ((w.alloc (.cells #[.int .i64 stop] 3)).alloc (.cells #[.bool false] 4)).heap[w.heap.size + 1]? = some (.cells #[.bool false] 4 (0, 0)) := by
    have := heap_alloc_new (w.alloc (.cells #[.int .i64 stop] 3)) (.cells #[.bool false] 4)
    rwa [World.size_alloc] at this
  have hb0 : Below w.heap.size w ((w.alloc (.cells #[.int .i64 stop] 3)).alloc (.cells #[.bool false] 4)) := (ba1 _ _).alloc (ba1 _ _).size _
  have hz0 : ((w.alloc (.cells #[.int .i64 stop] 3)).alloc (.cells #[.bool false] 4)).heap.size = w.heap.size + 2 := by simp
  gi_wp2
  generalize (w.alloc (.cells #[.int .i64 stop] 3)).alloc (.cells #[.bool false] 4) = W0 at *
  have HX1 := Lib.hid hx1
  have HX2 := Lib.hid hx2
  have HB0 := Lib.hid hb0
  have L1 := Lib.hid (K1.out W0 ((HI.out.below hb0 (Nat.le_refl _)).mono hb0.size))
  clear hx1 hx2 hb0
  refine ⟨trivial, ?_⟩
  refine (callsIn_wide.2 L1.out).mono ?_
  (rintro e W1 ⟨⟨v, rfl, hr⟩, hb⟩; have HRo := Lib.hid hr; obtain ⟨a1, c1, rfl, _, _, hN, hn1⟩ := hr.opened; have HB01 := Lib.hid hb; have HB1 := Lib.hid (HB0.out.trans (hb.mono HB0.out.size)); have HN1 := Lib.hid hN; have HNil := Lib.hid hn1; have L2 := Lib.hid (K2.out W1 ((HK.out.below HB1.out (Nat.le_refl _)).mono HB1.out.size)); clear hr hb hN hn1)
  gi_wp2_with (refine ⟨trivial, ?_⟩; gi_at_call 18; refine (callsIn_wide.2 L2.out).mono ?_; rintro e W2 ⟨⟨v, rfl, hr⟩, hb⟩; obtain ⟨k1, q1, rfl, hM⟩ := hr.opened; have HB02 := Lib.hid (HB01.out.trans (hb.mono HB01.out.size)); have HB2 := Lib.hid (HB1.out.trans (hb.mono HB1.out.size)); have HN2 := Lib.hid ((HN1.out.below hb (Nat.le_refl _)).mono hb.size); have HM2 := Lib.hid hM; have HR2 := Lib.hid (show NdRow W2 W0.heap.size (.slice a1 t.length c1) t from HRo.out.belowed hb); have L3 := Lib.hid (K3.out a1 c1 k1 q1 W2 (HE.out.below HB2.out) HN2.out HNil.out); clear hr hb hM)
  gi_wp2_with (refine ⟨trivial, ?_⟩; gi_at_call 19; refine (callsIn_wide.2 L3.out).mono ?_; rintro e W3 ⟨rfl, hb⟩; have HB3 := Lib.hid (HB2.out.trans (hb.mono HB2.out.size)); have HB03 := Lib.hid (HB02.out.trans (hb.mono HB02.out.size)); have HN3 := Lib.hid ((HN2.out.below hb (Nat.le_refl _)).mono hb.size); have HM3 := Lib.hid ((HM2.out.below hb (Nat.le_refl _)).mono hb.size); have L4 := Lib.hid (K4.out W3 ((HI.out.below HB3.out (Nat.le_refl _)).mono HB3.out.size)); clear hb)
  gi_wp2_with (refine ⟨trivial, ?_⟩; gi_at_call 20; refine (callsIn_wide.2 L4.out).mono ?_; rintro e W4 ⟨rfl, hb⟩; have HB4 := Lib.hid (HB3.out.trans (hb.mono HB3.out.size)); have HB04 := Lib.hid (HB03.out.trans (hb.mono HB03.out.size)); have HN4 := Lib.hid ((HN3.out.below hb (Nat.le_refl _)).mono hb.size); have HM4 := Lib.hid ((HM3.out.below hb (Nat.le_refl _)).mono hb.size); have L5 := Lib.hid (K5.out k1 q1 W4 HM4.out ((HK.out.below HB4.out (Nat.le_refl _)).mono HB4.out.size)); clear hb)
  gi_wp2_with (refine ⟨trivial, ?_⟩; gi_at_call 14; refine (callsIn_wide.2 L5.out).mono ?_; rintro e W5 ⟨rfl, hb⟩; have HB5 := Lib.hid (HB4.out.trans (hb.mono HB4.out.size)); have HB05 := Lib.hid (HB04.out.trans (hb.mono HB04.out.size)); have HN5 := Lib.hid ((HN4.out.below hb (Nat.le_refl _)).mono hb.size); have L6 := Lib.hid (K6.out a1 c1 W5 (HE.out.below HB5.out) HN5.out HNil.out); clear hb)
  gi_wp2_with (refine ⟨trivial, ?_⟩; gi_at_call 21; refine (callsIn_wide.2 L6.out).mono ?_; rintro e W6 ⟨rfl, hb⟩; have HB6 := Lib.hid (HB5.out.trans (hb.mono HB5.out.size)); have HB06 := Lib.hid (HB05.out.trans (hb.mono HB05.out.size)); have L7 := Lib.hid (K7.out W6 ((HI.out.below HB6.out (Nat.le_refl _)).mono HB6.out.size)); clear hb)
  have hz01 := HB01.out.size
  gi_wp2_with (refine ⟨trivial, ?_⟩; gi_at_call 22; refine (callsIn_wide.2 L7.out).mono ?_; rintro e W7 ⟨rfl, hb⟩; have HB7 := Lib.hid (HB6.out.trans (hb.mono HB6.out.size)); have hb07 := HB06.out.trans (hb.mono HB06.out.size); obtain ⟨u6, u6f⟩ := one_blk (((ba1 W7 (.cells #[.slice none 0 0] 46)).block (w.heap.size + 1) (by have := hb07.size; omega)).trans ((hb07.block (w.heap.size + 1) (by omega)).trans HX2.out)); clear hb hb07)
  refine ⟨.bool true, ?_, rfl, ?_⟩
  · have hcz := World.cell?_setCell_same' (W7.alloc (.cells #[.slice none 0 0] 46)) ⟨w.heap.size + 1, 0, none⟩ (.bool true) (by rw [u6]; rfl)
    simp [results, Tryz.results4, go_sem, hcz]
  · exact (HB7.out.trans ((ba1 W7 _).mono HB7.out.size)).setCell (by show w.heap.size ≤ w.heap.size + 1; omega) _

theorem treeWalks_ok (a : Option Addr) (cap : Nat) (t : List Nd) (ka : Option Addr) (kc : Nat) (K : List Int) (stop : Int) (w : World) (hE : TE w) (hI : IsNds w.heap.size w a t) (hOk : ∀ x ∈ t, NdOk x) (hz : t.length * 64 ≤ 140737488351232) (hnil : a = none → t = [] ∧ cap = 0)
    (hK : IsInts w.heap.size w ka K) (hkz : K.length * 8 ≤ 140737488351232) (hkn : ka = none → K = [] ∧ kc = 0) :
    Calls Tryz.prog 4 #[.slice a t.length cap, .slice ka K.length kc, .int .i64 stop] w fun e w' => e = .returned (.bool true) ∧ Below w.heap.size w w' := by
  by_cases h : checkN9 t = 0
  · exact treeWalks_0 a cap t ka kc K stop w hE hI hOk hz hnil hK hkz hkn h
  · exact treeWalks_n a cap t ka kc K stop w hE hI hOk hz hnil hK hkz hkn h
section
open Go.ChangeShapes Go.WideShapes Go.ChangeAt
variable {H : Type} {enc : TypeId × Value → H} {w : World} {base : Nat} {spare : Nat → Bool} {held : Bool}
def numData (n : Int) : DataW H := .lit (.int .i64 n)
theorem open_nums {fuel : Nat} {v : Value} {x : DataW H × List MemPlace} (h : DataW.trod enc Tryz.prog w base spare held fuel 27 [v] = some x) :
    ∃ (a : Option Addr) (cap : Nat) (Q : List Int), v = .slice a Q.length cap ∧ Q.length ≤ cap ∧ cap ≤ maxLen ∧ (a = none → Q = [] ∧ cap = 0) ∧ ((x.1 = .nil ∧ Q = []) ∨ ∃ rest, x.1 = .slice (Q.map numData) rest) ∧ IsInts w.heap.size w a Q ∧ ∀ q ∈ Q, True :=
  open_list (by decide) Tryz.underlying27 cellsI9 (fun n => [Value.int .i64 n]) numData (fun _ => True) (fun h => by
    obtain ⟨n, e, r, _⟩ := DataW.trod_int Tryz.underlying3 h
    exact ⟨n, e, congrArg Prod.fst r, trivial⟩) h
theorem nums_sized {ts : List TypeId} {ds : List (DataW H)} (hw : (DataW.weightsEach Tryz.prog ts ds).all (· ≤ reachBytes) = true) {j : Nat} {D : DataW H} {Q : List Int} (ht : ts[j]? = some 27) (hD : ds[j]? = some D) (hd : (D = .nil ∧ Q = []) ∨ ∃ rest, D = .slice (Q.map numData) rest) (_hok : ∀ q ∈ Q, True) : Q.length * 8 ≤ 140737488351232 := by
  rcases hd with ⟨_, rfl⟩ | ⟨rest, rfl⟩
  · simp
  have hr : reachBytes = 140737488351232 := rfl
  have := sized_slice hw ht hD Tryz.underlying27
  rw [show Tryz.prog.bytesOf 3 = 8 by kernel_rfl, List.length_map, hr] at this
  omega
end
end Go.Proofs.YtkokdafkjjcgoaaGreatDoor

