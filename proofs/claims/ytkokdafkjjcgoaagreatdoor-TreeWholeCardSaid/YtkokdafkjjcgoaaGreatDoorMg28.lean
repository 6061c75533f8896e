/- A tree is its last node put behind its parts; going over it tells each place once, behind its whole. Plain: nothing of the program. · Going over a tree, whatever a round keeps: the program's walk. · What a round keeps that writes into its own blocks and makes one row longer. · Units: as values of plain Lean, in memory. · Maps from names to what they stand for; from names to numbers. By what is looked up in them. -/
import Derived.Test.YtkokdafkjjcgoaaGreatDoorMg27
import Derived.Test.YtkokdafkjjcgoaaGreatDoorMg23
import Derived.Test.YtkokdafkjjcgoaaGreatDoorMg10
import Derived.Test.YtkokdafkjjcgoaaGreatDoorSrsOwn
import Derived.Deep.RegionHeld3
import Derived.Deep.AppendLies
import Derived.Test.YtkokdafkjjcgoaaGreatDoorMg18
import Derived.Below
import Derived.Maps.OwnSet
import Derived.Maps.OwnOps
namespace Go.Proofs.YtkokdafkjjcgoaaGreatDoor

/-- where one is when the next place has come: the places from the whole down to it -/
def nextD (D : List Nat) (x : Nat × Nat) : List Nat := D.take (x.2 - 1) ++ [x.1]
def deepsD (D : List Nat) (l : List (Nat × Nat)) : List Nat := l.foldl nextD D
/-- the next place stands behind its whole -/
def stepD (t : List Nd) (fr D : List Nat) (x : Nat × Nat) : Prop := 1 ≤ x.2 ∧ x.2 ≤ D.length + 1 ∧ (1 < x.2 → x.1 ∈ partsAt t fr (D.getD (x.2 - 2) 0))
def seqD (t : List Nd) (fr : List Nat) : List Nat → List (Nat × Nat) → Prop
  | _, [] => True
  | D, x :: l => stepD t fr D x ∧ seqD t fr (nextD D x) l
theorem seqD_app {t : List Nd} {fr : List Nat} : ∀ {l m : List (Nat × Nat)} {D : List Nat}, seqD t fr D l → seqD t fr (deepsD D l) m → seqD t fr D (l ++ m)
  | [], _, _, _, h => h
  | _ :: l, _, _, ⟨h1, h2⟩, h => ⟨h1, seqD_app (l := l) h2 h⟩
theorem seqD_at {t : List Nd} {fr : List Nat} : ∀ {l m : List (Nat × Nat)} {D : List Nat} {x : Nat × Nat}, seqD t fr D (l ++ x :: m) → stepD t fr (deepsD D l) x
  | [], _, _, _, h => h.1
  | _ :: l, _, _, _, h => seqD_at (l := l) h.2
theorem nextD_take (D : List Nat) (k d : Nat) (h1 : 1 ≤ d) (h2 : d ≤ D.length + 1) : (nextD D (k, d)).length = d := by
  unfold nextD
  simp only [List.length_append, List.length_take, List.length_singleton]
  omega
theorem take_getD {D E : List Nat} {d i : Nat} (h : D.take d = E.take d) (hi : i < d) : D.getD i 0 = E.getD i 0 := by
  have h1 := congrArg (fun l => l[i]?) h
  simp only [List.getElem?_take_of_lt hi] at h1
  rw [List.getD_eq_getElem?_getD, List.getD_eq_getElem?_getD, h1]
theorem walk_seq {t : List Nd} {fr : List Nat} (hF : Formed t fr) : ∀ (m k d : Nat) (D : List Nat), k < m → 1 ≤ d → d ≤ D.length + 1 → (1 < d → k ∈ partsAt t fr (D.getD (d - 2) 0)) →
    seqD t fr D (walkN t fr k d) ∧ (deepsD D (walkN t fr k d)).take d = nextD D (k, d) ∧ d ≤ (deepsD D (walkN t fr k d)).length
  | 0, k, _, _, hk, _, _, _ => by omega
  | m + 1, k, d, D, hk, h1, h2, h3 => by
    rw [walkN_eq hF]
    have hl := nextD_take D k d h1 h2
    have key : ∀ (P : List Nat) (E : List Nat), (∀ p ∈ P, p ∈ partsAt t fr k) → E.take d = nextD D (k, d) → d ≤ E.length →
        seqD t fr E (P.flatMap fun p => walkN t fr p (d + 1)) ∧ (deepsD E (P.flatMap fun p => walkN t fr p (d + 1))).take d = nextD D (k, d) ∧ d ≤ (deepsD E (P.flatMap fun p => walkN t fr p (d + 1))).length := by
      intro P
      induction P with
      | nil => exact fun E _ hE hd => ⟨trivial, hE, hd⟩
      | cons p P ih =>
        intro E hP hE hd
        have hp := hP p (List.mem_cons_self ..)
        have hpk := hF.parts_lt hp
        have hg : E.getD (d - 1) 0 = k := by
          rw [take_getD (E := nextD D (k, d)) (d := d) (by rw [hE, List.take_of_length_le (by omega)]) (by omega)]
          unfold nextD
          rw [List.getD_eq_getElem?_getD, List.getElem?_append_right (by rw [List.length_take]; simp only; omega)]
          rw [List.length_take, show d - 1 - min ((k, d).2 - 1) D.length = 0 by simp only; omega]
          rfl
        obtain ⟨a1, a2, a3⟩ := walk_seq hF m p (d + 1) E (by omega) (by omega) (by omega) (fun _ => by rw [show d + 1 - 2 = d - 1 by omega, hg]; exact hp)
        have hn : (nextD E (p, d + 1)).take d = E.take d := by
          unfold nextD
          simp only [Nat.add_sub_cancel]
          rw [List.take_append_of_le_length (by rw [List.length_take]; omega), List.take_take, Nat.min_self]
        have hE' : (deepsD E (walkN t fr p (d + 1))).take d = nextD D (k, d) := by
          rw [← hE, ← hn, ← a2, List.take_take, Nat.min_eq_left (by omega)]
        obtain ⟨b1, b2, b3⟩ := ih (deepsD E (walkN t fr p (d + 1))) (fun q hq => hP q (List.mem_cons_of_mem _ hq)) hE' (by omega)
        rw [List.flatMap_cons]
        refine ⟨seqD_app a1 b1, ?_, ?_⟩
        · unfold deepsD at b2 ⊢
          rw [List.foldl_append]
          exact b2
        · unfold deepsD at b3 ⊢
          rw [List.foldl_append]
          exact b3
    obtain ⟨c1, c2, c3⟩ := key (partsAt t fr k) (nextD D (k, d)) (fun _ h => h) (List.take_of_length_le (by omega)) (by omega)
    exact ⟨⟨⟨h1, h2, h3⟩, c1⟩, c2, c3⟩
/-- what has been seen, and how deep: 0: not yet -/
def seenN (n : Nat) (l : List (Nat × Nat)) : List Nat := l.foldl (fun S x => S.set x.1 x.2) (List.replicate n 0)
theorem seenN_snoc (n : Nat) (l : List (Nat × Nat)) (x : Nat × Nat) : seenN n (l ++ [x]) = (seenN n l).set x.1 x.2 := by unfold seenN; rw [List.foldl_append]; rfl
theorem deepsD_snoc (D : List Nat) (l : List (Nat × Nat)) (x : Nat × Nat) : deepsD D (l ++ [x]) = nextD (deepsD D l) x := by unfold deepsD; rw [List.foldl_append]; rfl
theorem seenN_len (n : Nat) (l : List (Nat × Nat)) : (seenN n l).length = n := by
  unfold seenN
  have : ∀ (l : List (Nat × Nat)) (S : List Nat), (l.foldl (fun S x => S.set x.1 x.2) S).length = S.length := by
    intro l
    induction l with
    | nil => exact fun _ => rfl
    | cons x l ih => exact fun S => by rw [List.foldl_cons, ih, List.length_set]
  rw [this, List.length_replicate]
theorem seen_fold : ∀ (l : List (Nat × Nat)) (S : List Nat) (i : Nat), i < S.length → (∀ x ∈ l, 1 ≤ x.2) → ((l.foldl (fun S x => S.set x.1 x.2) S).getD i 0 = 0 ↔ S.getD i 0 = 0 ∧ l.countP (fun x => decide (x.1 = i)) = 0)
  | [], S, i, _, _ => by simp
  | x :: l, S, i, hi, h => by
    have h1 := h x (List.mem_cons_self ..)
    rw [List.foldl_cons, seen_fold l _ i (by simpa using hi) (fun y hy => h y (List.mem_cons_of_mem _ hy)), List.countP_cons]
    by_cases e : x.1 = i
    · subst e
      rw [List.getD_eq_getElem?_getD, List.getElem?_set_self (by omega)]
      simp only [Option.getD_some, decide_true, if_true]
      omega
    · rw [List.getD_eq_getElem?_getD, List.getElem?_set_ne e, ← List.getD_eq_getElem?_getD, decide_eq_false e]
      simp
theorem seenN_zero {n i : Nat} {l : List (Nat × Nat)} (hi : i < n) (h : ∀ x ∈ l, 1 ≤ x.2) : (seenN n l).getD i 0 = 0 ↔ l.countP (fun x => decide (x.1 = i)) = 0 := by
  unfold seenN
  rw [seen_fold l _ i (by simpa using hi) h, List.getD_eq_getElem?_getD, List.getElem?_replicate, if_pos hi]
  simp
/-- each place stands once in the walk over the whole -/
theorem whole_once {t : List Nd} {fr : List Nat} (hb : beginsN t = some fr) (hp : 0 < t.length) {i : Nat} (hi : i < t.length) : (walkN t fr (t.length - 1) 1).countP (fun x => decide (x.1 = i)) = 1 := by
  rw [walk_cnt hb (fun p => decide (p = i)) t.length (t.length - 1) 1 (by omega) (by omega), begins_ends hb, show t.length - 1 + 1 = t.length by omega]
  unfold cntR
  rw [List.countP_eq_length_filter]
  have : ∀ n, i < n → ((List.range' 0 n).filter (fun p => decide (p = i))).length = 1 := by
    intro n
    induction n with
    | zero => exact fun h => by omega
    | succ n ih =>
      intro h
      rw [List.range'_concat, List.filter_append, List.length_append]
      by_cases e : n = i
      · subst e
        have : (List.range' 0 n).filter (fun p => decide (p = n)) = [] := by
          rw [List.filter_eq_nil_iff]
          intro a ha
          have := List.mem_range'_1.1 ha
          simp; omega
        rw [this]; simp
      · rw [ih (by omega)]
        simp [e]
  exact this _ (by omega)
/-- the parts, one behind the other, are what stands ahead of their whole -/
theorem parts_flat {t : List Nd} {fr : List Nat} : ∀ {n e : Nat}, Back fr n e → (partsE fr n e).flatMap (subT t fr) = (t.drop (startE fr n e)).take (e - startE fr n e)
  | 0, e, _ => by simp [partsE, startE]
  | n + 1, e, ⟨h1, h2, h3⟩ => by
    have hs := (back_sum h3).1
    rw [partsE, List.flatMap_append, parts_flat h3, startE]
    have e1 : List.flatMap (subT t fr) [e - 1] = (t.drop (fr.getD (e - 1) 0)).take (e - fr.getD (e - 1) 0) := by
      simp only [List.flatMap_cons, List.flatMap_nil, List.append_nil, subT]
      rw [show e - 1 + 1 = e by omega]
    rw [e1]
    generalize fr.getD (e - 1) 0 = s at *
    generalize startE fr n s = st at *
    rw [show e - st = (s - st) + (e - s) by omega, List.take_add, List.drop_drop, show st + (s - st) = s by omega]
theorem joinP_all : ∀ (L : List (List Nd)) (O : List Nd), (∀ p ∈ L, checkN9 p = 0) → O.length + L.flatten.length ≤ 4096 → joinP O L = (O ++ L.flatten, 0)
  | [], O, _, _ => by simp [joinP]
  | p :: L, O, h, hl => by
    rw [List.flatten_cons, List.length_append] at hl
    rw [joinP_more (h p (List.mem_cons_self ..)) (by omega), joinP_all L (O ++ p) (fun q hq => h q (List.mem_cons_of_mem _ hq)) (by rw [List.length_append]; omega)]
    simp
theorem build_whole {t : List Nd} {fr : List Nat} (h : checkN9 t = 0) (hb : beginsN t = some fr) (hG : Given t fr) {x : Nd} (hx : t[t.length - 1]? = some x) (hp : ∀ p ∈ partsAt t fr (t.length - 1), checkN9 (subT t fr p) = 0) :
    buildR x ((partsAt t fr (t.length - 1)).map (subT t fr)) = (t, 0) := by
  have hpos := hG.formed.pos
  obtain ⟨hn, hbk, _⟩ := hG.formed.node _ _ hx
  have hst := start_of hb hx
  rw [begins_ends hb] at hst
  have hfl := parts_flat (t := t) hbk
  rw [hst, Nat.sub_zero, List.drop_zero] at hfl
  have hdl : t.take (t.length - 1) ++ [x] = t := by
    have := List.take_append_drop (t.length - 1) t
    rw [List.drop_eq_getElem_cons (by omega), List.drop_of_length_le (by omega)] at this
    rw [List.getElem?_eq_getElem (by omega)] at hx
    rw [Option.some.inj hx] at this
    exact this
  have hj : joinP [] ((partsAt t fr (t.length - 1)).map (subT t fr)) = (t.take (t.length - 1), 0) := by
    have hf : ((partsAt t fr (t.length - 1)).map (subT t fr)).flatten = t.take (t.length - 1) := by
      rw [← List.flatMap_def, partsAt_is hx, hfl]
    rw [joinP_all _ [] (fun q hq => by obtain ⟨p, h1, rfl⟩ := List.mem_map.1 hq; exact hp p h1) (by rw [hf, List.length_nil, List.length_take]; have := hG.le; omega), hf, List.nil_append]
  have hxn : ({ x with n := ((partsAt t fr (t.length - 1)).map (subT t fr)).length } : Nd) = x := by
    rw [List.length_map, partsAt_is hx, partsE_length]
    have : ((x.n.toNat : Nat) : Int) = x.n := by omega
    rw [this]
  unfold buildR
  rw [hj, if_neg (by simp)]
  simp only [hxn, hdl, h]
  rw [if_neg (by simp)]
end Go.Proofs.YtkokdafkjjcgoaaGreatDoor
namespace Go.Proofs.YtkokdafkjjcgoaaGreatDoor
open Go.RowKit Go.Shelf

attribute [local go_sem] Oper.semAt_some

/-- what a round keeps (K), where the world is as it should be (Ok): the blocks that no round touches (Fr); all below lo is such -/
structure Keeps (K : World → World → Prop) (Ok : World → Prop) (Fr : World → Nat → Prop) (lo : Nat) : Prop where
  refl : ∀ W, K W W
  trans : ∀ {A B C}, K A B → K B C → K A C
  below : ∀ {W W'}, Ok W → Below W.heap.size W W' → K W W' ∧ Ok W'
  ok : ∀ {W W'}, K W W' → Ok W → Ok W'
  size : ∀ {W W'}, K W W' → W.heap.size ≤ W'.heap.size
  keep : ∀ {W W' k o}, K W W' → Ok W → Fr W k → W.heap[k]? = some o → o.isCells = true → W'.heap[k]? = some o ∧ Fr W' k
  new : ∀ {W W' k}, Ok W → Below W.heap.size W W' → W.heap.size ≤ k → k < W'.heap.size → Fr W' k
  low : ∀ {W k}, Ok W → k < lo → Fr W k
  put : ∀ (W : World) (l : Nat) (o o' : Obj), W.heap[l]? = some o → o.isCells = false → K W (W.putObj l o')
section
variable {K : World → World → Prop} {Ok : World → Prop} {Fr : World → Nat → Prop} {lo : Nat} (hK : Keeps K Ok Fr lo)
include hK
theorem Keeps.cell {W W' : World} (h : K W W') (ho : Ok W) {p : Addr} {v : Value} (hf : Fr W p.block) (hc : W.cell? p = some v) : W'.cell? p = some v := by
  unfold World.cell? at hc ⊢
  split at hc
  · rename_i cs T fz hb
    rw [(hK.keep h ho hf hb rfl).1]
    exact hc
  · cases hc
theorem Keeps.sl {α : Type} {kk : Nat} {cells : α → List Value} {W W' : World} (h : K W W') (ho : Ok W) {a : Option Addr} {L : List α} (hs : IsSl kk cells lo W a L) : IsSl kk cells lo W' a L := fun hn => by
  obtain ⟨b, off, ha, hlt, hc⟩ := hs hn
  exact ⟨b, off, ha, hlt, fun i x hx j u hu => hK.cell h ho (hK.low ho hlt) (hc i x hx j u hu)⟩
end
/-- how going over ends -/
def WalkEndA {t : List Nd} (L : List (Nat × Nat)) (K : World → World → Prop) (J Jx : List (Elt t) → World → Prop) (pre : List (Elt t)) (W : World) (e : Ending) (W' : World) : Prop :=
  (e = .returned (.bool true) ∧ ∃ q, elts q = L ∧ J (pre ++ q) W' ∧ K W W') ∨ (e = .returned (.bool false) ∧ ∃ q, elts q <+: L ∧ Jx (pre ++ q) W')

set_option maxRecDepth 100000 in
set_option maxHeartbeats 4000000 in
theorem walkA_in {K : World → World → Prop} {Ok : World → Prop} {Fr : World → Nat → Prop} {lo : Nat} (hK : Keeps K Ok Fr lo) (a : Option Addr) (cap : Nat) (t : List Nd) (b : Option Addr) (capb : Nat) (fr : List Nat) (hG : Given t fr) (l N B : Nat) (J Jx : List (Elt t) → World → Prop) (hJ : AbidesFrom B J)
    (hY : ∀ m pre (x : Elt t) W, J pre W → pre.length < N → YieldAt Fence.wide m Tryz.prog l (eltV x) W fun e W' =>
      (e = .returned (.bool true) ∧ J (pre ++ [x]) W' ∧ K W W') ∨ (e = .returned (.bool false) ∧ Jx (pre ++ [x]) W')) :
    ∀ (m k d n : Nat) (pre : List (Elt t)) (W : World), k < m → k < t.length → d + k ≤ 10000 → IsNds lo W a t → IsNats lo W b fr → lo ≤ W.heap.size → Ok W → J pre W → pre.length + (walkN t fr k d).length ≤ N →
      CallsIn Fence.wide n Tryz.prog 47 #[.agg #[.slice a t.length cap, .slice b fr.length capb], .int .i64 (k : Int), .int .i64 (d : Int), .func (.yield l) #[] #[]] W (WalkEndA (walkN t fr k d) K J Jx pre W)
  | 0, k, _, _, _, _, hk, _, _, _, _, _, _, _, _ => by omega
  | m + 1, k, d, n, pre, W, hkm, hk, hdk, hI, hF, hbn, hro, hj, hN => by
    have hw := walkN_eq hG.formed k d
    have HP := Lib.hid (fun (q : Nat) (h : q ∈ partsAt t fr k) => hG.formed.parts_lt h)
    have HPt := Lib.hid (fun W1 (hI : IsNds W1.heap.size W1 a t) (hF : IsNats W1.heap.size W1 b fr) => tparts_ok a cap t b capb fr W1 hI hF hG.le hG.formed k hk)
    have HRec := Lib.hid (fun p d n pre W h1 h2 h3 h4 h5 h6 h7 h8 h9 => walkA_in hK a cap t b capb fr hG l N B J Jx hJ hY m p d n pre W h1 h2 h3 h4 h5 h6 h7 h8 h9)
    generalize hPq : partsAt t fr k = P at *
    have HWq := Lib.hid hw
    have hpl : P.length ≤ 4096 := by rw [← hPq, partsAt_is (List.getElem?_eq_getElem hk), partsE_length]; have := (hG.formed.node k _ (List.getElem?_eq_getElem hk)).2.1.le; have := hG.le; omega
    clear hw hPq
    have hx0 : (W.alloc (.cells #[.slice a t.length cap, .slice b fr.length capb] 81)).heap[W.heap.size]? = some (.cells #[.slice a t.length cap, .slice b fr.length capb] 81 (0, 0)) := heap_alloc_new _ _
    have hb0 : Below W.heap.size W (W.alloc (.cells #[.slice a t.length cap, .slice b fr.length capb] 81)) := ba1 _ _
    have hz0 : W.heap.size < (W.alloc (.cells #[.slice a t.length cap, .slice b fr.length capb] 81)).heap.size := by simp
    have hdd : ∀ k : Nat, (Fence.wide.depth.isSome = true → 1 ≤ k) := fun k h => by cases h
    have hlen : pre.length < N := by have := congrArg List.length HWq.out; rw [List.length_cons] at this; omega
    have hYW := hY (n - 1) pre ⟨(k, d), hk⟩ _ (abides_below hJ hj hb0) hlen
    refine callsIn_of_wp Tryz.func47 rfl trivial ?_ rfl
    simp only [Tryz.ntmps47, List.size_toArray, List.length_cons, List.length_nil, Nat.reduceAdd, Nat.reduceSub, Array.replicate_succ, Array.replicate_zero, List.push_toArray, List.append_toArray, List.nil_append, List.cons_append]
    obtain ⟨fn, tmps, assign, body, hy, hR⟩ := hYW
    have HJ := Lib.hid hJ
    have HI := Lib.hid hI
    have HF := Lib.hid hF
    have HX0 := Lib.hid hx0
    have HB0 := Lib.hid hb0
    have HR := Lib.hid hR
    have HN := Lib.hid hN
    clear hj hI hF hx0 hb0 hJ hY hR hN
    dsimp only [eltV] at hy
    gi_wp2
    refine ⟨hdd _, ?_⟩
    refine HR.out.mono ?_
    rintro e W1 (⟨rfl, hj1, hk1⟩ | ⟨rfl, hj1⟩)
    · have hro0 := (hK.below hro HB0.out).2
      obtain ⟨hx1, hf1⟩ := hK.keep hk1 hro0 (hK.new hro HB0.out (Nat.le_refl _) hz0) HX0.out rfl
      have hro1 := hK.ok hk1 hro0
      have HX1 := Lib.hid hx1
      have HK1 := Lib.hid (hK.trans (hK.below hro HB0.out).1 hk1)
      have HJ1 := Lib.hid hj1
      obtain ⟨⟨z0, z1⟩, _⟩ := two_block hx1
      have hz1 := lt_of_heap hx1
      have hbn1 : lo ≤ W1.heap.size := Nat.le_trans hbn (hK.size HK1.out)
      have hI1 := hK.sl HK1.out hro HI.out
      have hF1 := hK.sl HK1.out hro HF.out
      have HP1 := Lib.hid (HPt.out W1 (hI1.mono hbn1) (hF1.mono hbn1))
      clear hj1 hk1 hx1 hI1 hF1
      gi_wp2_with (refine ⟨trivial, hdd _, ?_⟩; gi_at_call 42; refine (callsIn_wide.2 HP1.out).mono ?_; rintro e W2 ⟨⟨v, rfl, hrow⟩, hb2⟩; have HR2 := Lib.hid hrow; have HB2 := Lib.hid hb2; obtain ⟨pa, pc, rfl, hN2, _⟩ := hrow.is; have HN2 := Lib.hid hN2; clear hrow hb2 hN2)
      have hN2g := nat_far_any HR2.out
      have hx2 := (HB2.out.block _ hz1).trans HX1.out
      obtain ⟨⟨y0, y1⟩, _⟩ := two_block hx2
      have hB12 := hK.below hro1 HB2.out
      have hK2 := hK.trans HK1.out hB12.1
      have hro2 := hB12.2
      have HFr2 := Lib.hid (hK.keep hB12.1 hro1 hf1 HX1.out rfl).2
      have HNew := Lib.hid (fun k (h1 : W1.heap.size ≤ k) (h2 : k < W2.heap.size) => hK.new hro1 HB2.out h1 h2)
      have hj2 := abides_below HJ.out HJ1.out HB2.out
      have HG := Lib.hid hN2g
      have HX2 := Lib.hid hx2
      have HK2 := Lib.hid hK2
      have HJ2 := Lib.hid hj2
      have hz2 := lt_of_heap hx2
      have HI2 := Lib.hid (hK.sl HK2.out hro HI.out)
      have HF2 := Lib.hid (hK.sl HK2.out hro HF.out)
      have hbn2 : lo ≤ W2.heap.size := Nat.le_trans hbn1 HB2.out.size
      clear hx2 hK2 hj2 hN2g hB12 hf1
      gi_loopw [20] (fun v20 wr => ∃ (i : Nat) (q : List (Elt t)), i ≤ P.length ∧ v20 = .int .i64 (i : Int) ∧ elts q = (k, d) :: doneF t fr P (d + 1) i ∧ J (pre ++ q) wr ∧ K W2 wr) (fun v20 _ => P.length - (intOf v20).toNat)
      case atStart => exact ⟨0, [⟨(k, d), hk⟩], by omega, rfl, rfl, HJ2.out, hK.refl _⟩
      case round =>
        obtain ⟨i, q, hi, rfl, hq, hjr, hkr⟩ := hrel
        have HQ := Lib.hid hq
        have HJr := Lib.hid hjr
        have HKr := Lib.hid hkr
        clear hq hjr hkr
        by_cases hlt : i < P.length
        · obtain ⟨pb, po, hpa, hpb, c2⟩ := nats_at HN2.out hlt
          subst hpa
          have hpn := HG.out _ _ _ _ rfl (by omega)
          have c3 := hK.cell HKr.out hro2 (p := ⟨pb, po + i, none⟩) (HNew.out pb hpn hpb) c2
          have r0 := hK.cell HKr.out hro2 (p := ⟨W.heap.size, 0, none⟩) HFr2.out y0
          have r1 := hK.cell HKr.out hro2 (p := ⟨W.heap.size, 1, none⟩) HFr2.out y1
          obtain ⟨p, hp⟩ : ∃ p, p = P[i] := ⟨_, rfl⟩
          rw [← hp] at c3
          have hpk := HP.out p (by rw [hp]; exact List.getElem_mem hlt)
          have hdn := done_next (t := t) (fr := fr) (d := d + 1) hlt
          have hdp := List.IsPrefix.length_le (done_pre (t := t) (fr := fr) (P := P) (d := d + 1) (i := i + 1))
          have hql := elts_len q
          have hwl := congrArg List.length HWq.out
          rw [HQ.out] at hql
          rw [hdn, List.length_append, ← hp] at hdp
          rw [List.length_cons] at hwl hql
          have hNr := HN.out
          have HC := Lib.hid (HRec.out p (d + 1) (n - 1) (pre ++ q) wr (by omega) (by omega) (by omega) (hK.sl HKr.out hro2 HI2.out) (hK.sl HKr.out hro2 HF2.out) (Nat.le_trans hbn2 (hK.size HKr.out)) (hK.ok HKr.out hro2) HJr.out (by rw [List.length_append]; omega))
          have HDn := Lib.hid (show doneF t fr P (d + 1) (i + 1) = doneF t fr P (d + 1) i ++ walkN t fr p (d + 1) by rw [hdn, ← hp])
          clear c2 hp hdn hdp hql hwl hNr
          gi_wp2_with (refine ⟨trivial, hdd _, ?_⟩; gi_at_call 47; refine HC.out.mono ?_; rintro e W3 (⟨rfl, q3, hq3, hj3, hk3⟩ | ⟨rfl, q3, hq3, hj3⟩))
          · have HQ3 := Lib.hid (show elts (q ++ q3) = (k, d) :: doneF t fr P (d + 1) (i + 1) by rw [elts_app, HQ.out, hq3, HDn.out]; rfl)
            have HJ3 := Lib.hid (show J (pre ++ (q ++ q3)) W3 by rw [← List.append_assoc]; exact hj3)
            clear hq3 hj3
            go_roundw
            case rel => exact ⟨i + 1, q ++ q3, by omega, by go_num, HQ3.out, HJ3.out, hK.trans HKr.out hk3⟩
            case measure => simp [intOf]; omega
          · have HQ3 := Lib.hid (show elts (q ++ q3) <+: walkN t fr k d by
              rw [elts_app, HQ.out, HWq.out]
              refine List.IsPrefix.trans ?_ (List.prefix_cons_inj (k, d) |>.2 (done_pre (t := t) (fr := fr) (P := P) (d := d + 1) (i := i + 1)))
              rw [HDn.out, List.cons_append]
              exact List.prefix_cons_inj _ |>.2 (List.prefix_append_right_inj _ |>.2 hq3))
            have HJ3 := Lib.hid (show Jx (pre ++ (q ++ q3)) W3 by rw [← List.append_assoc]; exact hj3)
            clear hq3 hj3
            go_ret
            exact .inr ⟨rfl, q ++ q3, HQ3.out, HJ3.out⟩
        · obtain rfl : i = P.length := by omega
          gi_wp2
          go_ret
          exact .inl ⟨rfl, q, by rw [HQ.out, HWq.out, done_all], HJr.out, hK.trans HK2.out HKr.out⟩
    · have HJ1 := Lib.hid hj1
      clear hj1
      gi_wp2
      go_ret
      exact .inr ⟨rfl, [⟨(k, d), hk⟩], by rw [HWq.out]; exact ⟨_, rfl⟩, HJ1.out⟩

set_option maxRecDepth 100000 in
set_option maxHeartbeats 4000000 in
theorem walk1A_in {K : World → World → Prop} {Ok : World → Prop} {Fr : World → Nat → Prop} {lo : Nat} (hK : Keeps K Ok Fr lo) (a : Option Addr) (cap : Nat) (t : List Nd) (b : Option Addr) (capb : Nat) (fr : List Nat) (hG : Given t fr) (l bw n B : Nat) (J Jx : List (Elt t) → World → Prop) (hJ : AbidesFrom B J)
    (hY : ∀ m pre (x : Elt t) W, J pre W → pre.length < (wholeL t fr).length → YieldAt Fence.wide m Tryz.prog l (eltV x) W fun e W' =>
      (e = .returned (.bool true) ∧ J (pre ++ [x]) W' ∧ K W W') ∨ (e = .returned (.bool false) ∧ Jx (pre ++ [x]) W'))
    (W : World) (z0 : W.cell? ⟨bw, 0, none⟩ = some (.slice a t.length cap)) (z1 : W.cell? ⟨bw, 1, none⟩ = some (.slice b fr.length capb)) (hI : IsNds lo W a t) (hF : IsNats lo W b fr) (hbn : lo ≤ W.heap.size) (hro : Ok W) (hj : J [] W) :
    CallsIn Fence.wide n Tryz.prog 46 #[.func (.yield l) #[] #[], .pointer (some ⟨bw, 0, none⟩)] W fun e W' => (∃ v, e = .returned v) ∧
      ((∃ ys, elts ys = wholeL t fr ∧ J ys W') ∨ (∃ pre, elts pre <+: wholeL t fr ∧ Jx pre W')) := by
  have hdd : ∀ k : Nat, (Fence.wide.depth.isSome = true → 1 ≤ k) := fun k h => by cases h
  obtain ⟨k, hk⟩ : ∃ k, t.length = k + 1 := ⟨t.length - 1, by have := hG.formed.pos; omega⟩
  have hle := hG.le
  have hw : wholeL t fr = walkN t fr k 1 := by unfold wholeL; rw [hk, Nat.add_sub_cancel]
  have HC := Lib.hid (walkA_in hK a cap t b capb fr hG l (wholeL t fr).length B J Jx hJ hY (k + 1) k 1 (n - 1) [] W (by omega) (by omega) (by omega) hI hF hbn hro hj (by rw [hw]; simp))
  have hk1 : (t.length : Int) - 1 = (k : Int) := by omega
  have HW := Lib.hid hw
  clear hJ hY hI hF hj hw hk
  refine callsIn_of_wp Tryz.func46 rfl trivial ?_ rfl
  simp only [Tryz.ntmps46, List.size_toArray, List.length_cons, List.length_nil, Nat.reduceAdd, Nat.reduceSub, Array.replicate_succ, Array.replicate_zero, List.push_toArray, List.append_toArray, List.nil_append, List.cons_append]
  gi_wp2_with (refine ⟨trivial, hdd _, ?_⟩; gi_at_call 47; refine HC.out.mono ?_; rintro e W3 (⟨rfl, q3, hq3, hj3, hk3⟩ | ⟨rfl, q3, hq3, hj3⟩))
  · go_end0
    exact ⟨⟨_, rfl⟩, .inl ⟨q3, by rw [HW.out, hq3], hj3⟩⟩
  · go_end0
    exact ⟨⟨_, rfl⟩, .inr ⟨q3, by rw [HW.out]; exact hq3, hj3⟩⟩
/-- **what Walk hands back, as a loop over it wants it** -/
theorem walk1A_stops {K : World → World → Prop} {Ok : World → Prop} {Fr : World → Nat → Prop} {lo : Nat} (hK : Keeps K Ok Fr lo) (a : Option Addr) (cap : Nat) (t : List Nd) (b : Option Addr) (capb : Nat) (fr : List Nat) (hG : Given t fr) (bw n : Nat) (w : World) (hbw : bw < w.heap.size) (hbn : lo ≤ w.heap.size)
    (z0 : w.cell? ⟨bw, 0, none⟩ = some (.slice a t.length cap)) (z1 : w.cell? ⟨bw, 1, none⟩ = some (.slice b fr.length capb)) (hI : IsNds lo w a t) (hF : IsNats lo w b fr) (hro : Ok w) :
    SeqStopsK Fence.wide n Tryz.prog 46 #[.pointer (some ⟨bw, 0, none⟩)] (eltV (t := t)) K (fun ys => elts ys = wholeL t fr) (fun pre => elts pre <+: wholeL t fr) (wholeL t fr).length w := fun l J Jx W hW hJ _ hY h0 =>
  walk1A_in hK a cap t b capb fr hG l bw n W.heap.size J Jx hJ (fun m pre x W1 hj hl => by
      obtain ⟨fn, tmps, assign, body, hy, hR⟩ := hY pre x W1 hj hl
      exact ⟨fn, tmps, assign, body, hy, hR.1, fun c cs _ => hR.2 c cs (room_wide _)⟩) W
    ((hW.cell (p := ⟨bw, 0, none⟩) hbw).trans z0) ((hW.cell (p := ⟨bw, 1, none⟩) hbw).trans z1) (hI.below hW hbn) (hF.below hW hbn) (Nat.le_trans hbn hW.size) (hK.below hro hW).2 h0
end Go.Proofs.YtkokdafkjjcgoaaGreatDoor
namespace Go.Proofs.YtkokdafkjjcgoaaGreatDoor
open Go.RowKit Go.Shelf

structure OkS (lo hi bn : Nat) (W : World) : Prop where
  lo_ : lo ≤ bn
  hi_ : bn < hi
  size : hi ≤ W.heap.size
  box : (W.cell? ⟨bn, 0, none⟩).isSome = true
  row : ∀ g, rowB bn W = some g → lo ≤ g ∧ g < W.heap.size
/-- all cells stay, but for the blocks from lo to hi and the row that box bn holds -/
structure KeepS (lo hi bn : Nat) (W W' : World) : Prop where
  os : W'.os = W.os
  tape : W'.tape = W.tape
  output : W'.output = W.output
  size : W.heap.size ≤ W'.heap.size
  rest : OkS lo hi bn W → OkS lo hi bn W' ∧ (∀ (k : Nat) (o : Obj), (k < lo ∨ hi ≤ k) → rowB bn W ≠ some k → W.heap[k]? = some o → o.isCells = true → W'.heap[k]? = some o) ∧ ∀ g, rowB bn W' = some g → rowB bn W = some g ∨ W.heap.size ≤ g ∨ (lo ≤ g ∧ g < hi)
def FrS (lo hi bn : Nat) (W : World) (k : Nat) : Prop := (k < lo ∨ hi ≤ k) ∧ rowB bn W ≠ some k ∧ k < W.heap.size
theorem keepS_keeps (lo hi bn : Nat) : Keeps (KeepS lo hi bn) (OkS lo hi bn) (FrS lo hi bn) lo where
  refl := fun W => ⟨rfl, rfl, rfl, Nat.le_refl _, fun h => ⟨h, fun _ _ _ _ h _ => h, fun _ h => .inl h⟩⟩
  trans := fun {A B C} h k => ⟨k.os.trans h.os, k.tape.trans h.tape, k.output.trans h.output, Nat.le_trans h.size k.size, fun hA => by
    obtain ⟨hB, b1, b2⟩ := h.rest hA
    obtain ⟨hC, c1, c2⟩ := k.rest hB
    refine ⟨hC, fun i o hi hr ho hc => c1 i o hi (fun e => ?_) (b1 i o hi hr ho hc) hc, fun g e => ?_⟩
    · rcases b2 i e with e | e | e
      · exact hr e
      · have := lt_of_heap ho; omega
      · omega
    · rcases c2 g e with e | e | e
      · exact b2 g e
      · exact .inr (.inl (Nat.le_trans h.size e))
      · exact .inr (.inr e)⟩
  below := fun {W W'} ho h => by
    have hbn : bn < W.heap.size := Nat.lt_of_lt_of_le ho.hi_ ho.size
    have hr := rowB_below h hbn
    have hok : OkS lo hi bn W' := ⟨ho.lo_, ho.hi_, Nat.le_trans ho.size h.size, by rw [h.cell hbn]; exact ho.box, fun g e => by rw [hr] at e; exact ⟨(ho.row g e).1, Nat.lt_of_lt_of_le (ho.row g e).2 h.size⟩⟩
    exact ⟨⟨h.os, h.tape, h.output, h.size, fun _ => ⟨hok, fun k _ _ _ ho _ => (h.block k (lt_of_heap ho)).trans ho, fun g e => .inl (by rw [← hr]; exact e)⟩⟩, hok⟩
  ok := fun h ho => (h.rest ho).1
  size := fun h => h.size
  keep := fun {W W' k o} h ho hf hk hc => by
    obtain ⟨_, b1, b2⟩ := h.rest ho
    refine ⟨b1 k o hf.1 hf.2.1 hk hc, hf.1, fun e => ?_, Nat.lt_of_lt_of_le hf.2.2 h.size⟩
    rcases b2 k e with e | e | e
    · exact hf.2.1 e
    · have := hf.2.2; omega
    · have := hf.1; omega
  new := fun {W W' k} ho h h1 h2 => ⟨.inr (Nat.le_trans ho.size h1), fun e => by
    rw [rowB_below h (Nat.lt_of_lt_of_le ho.hi_ ho.size)] at e
    have := (ho.row k e).2
    omega, h2⟩
  low := fun {W k} ho hk => ⟨.inl hk, fun e => by have := (ho.row k e).1; omega, by have := ho.lo_; have := ho.hi_; have := ho.size; omega⟩
  put := fun W l o o' h hc => by
    have hg := grownBy_putObj' W l o'
    refine ⟨rfl, rfl, rfl, hg.size, fun ho => ?_⟩
    have hne : ∀ k o2, W.heap[k]? = some o2 → o2.isCells = true → k ≠ l := fun k o2 hk h2 e => by subst e; rw [h] at hk; cases hk; rw [hc] at h2; cases h2
    have hcl : (W.putObj l o').cell? ⟨bn, 0, none⟩ = W.cell? ⟨bn, 0, none⟩ := by
      obtain ⟨v, hv⟩ := Option.isSome_iff_exists.1 ho.box
      obtain ⟨o2, h2, h3⟩ := cells_of_cell hv
      exact World.cell?_of_block (a := ⟨bn, 0, none⟩) (hg.block bn (lt_of_heap h2) (fun e => hne _ _ h2 h3 (by simpa using e)))
    have hrb : rowB bn (W.putObj l o') = rowB bn W := by unfold rowB; rw [hcl]
    refine ⟨⟨ho.lo_, ho.hi_, Nat.le_trans ho.size hg.size, by rw [hcl]; exact ho.box, fun g e => by rw [hrb] at e; exact ⟨(ho.row g e).1, Nat.lt_of_lt_of_le (ho.row g e).2 hg.size⟩⟩, fun k o2 _ _ hk hc2 => ?_, fun g e => .inl (by rw [← hrb]; exact e)⟩
    rw [hg.block k (lt_of_heap hk) (fun e => hne _ _ hk hc2 (by simpa using e))]
    exact hk
end Go.Proofs.YtkokdafkjjcgoaaGreatDoor
namespace Go.Proofs.YtkokdafkjjcgoaaGreatDoor
open Go.RowKit

def trCells (q : List Nd × Value) : List Value := [q.2]
theorem tr_len (q : List Nd × Value) : (trCells q).length = 1 := rfl
/-- a slice's length and address fit: elements of k bytes each -/
def SlK (k : Nat) (a : Option Addr) (n cap : Nat) : Prop := n * k ≤ 140737488351232 ∧ n ≤ cap ∧ cap ≤ maxLen ∧ (a = none → n = 0 ∧ cap = 0)
/-- a tree's slice -/
def IsTr (B : Nat) (w : World) (v : Value) (T : List Nd) : Prop := ∃ a cap, v = .slice a T.length cap ∧ SlK 64 a T.length cap ∧ IsNds B w a T ∧ ∀ x ∈ T, NdOk x
def IsTrs (B : Nat) (w : World) (v : Value) (L : List (List Nd)) : Prop := ∃ a cap Q, v = .slice a L.length cap ∧ SlK 24 a L.length cap ∧ Q.map Prod.fst = L ∧ IsSl 1 trCells B w a Q ∧ ∀ q ∈ Q, IsTr B w q.2 q.1
theorem IsTr.below {B B' : Nat} {w w' : World} {v : Value} {T : List Nd} (h : IsTr B w v T) (hb : Below B' w w') (hB : B ≤ B') : IsTr B w' v T := by
  obtain ⟨a, cap, e, ho, hs, hk⟩ := h
  exact ⟨a, cap, e, ho, hs.below hb hB, hk⟩
theorem IsTr.mono {B B' : Nat} {w : World} {v : Value} {T : List Nd} (h : IsTr B w v T) (hB : B ≤ B') : IsTr B' w v T := by
  obtain ⟨a, cap, e, ho, hs, hk⟩ := h
  exact ⟨a, cap, e, ho, hs.mono hB, hk⟩
theorem IsTrs.below {B B' : Nat} {w w' : World} {v : Value} {L : List (List Nd)} (h : IsTrs B w v L) (hb : Below B' w w') (hB : B ≤ B') : IsTrs B w' v L := by
  obtain ⟨a, cap, Q, e, ho, hq, hs, hk⟩ := h
  exact ⟨a, cap, Q, e, ho, hq, hs.below hb hB, fun q hm => (hk q hm).below hb hB⟩
theorem IsTrs.mono {B B' : Nat} {w : World} {v : Value} {L : List (List Nd)} (h : IsTrs B w v L) (hB : B ≤ B') : IsTrs B' w v L := by
  obtain ⟨a, cap, Q, e, ho, hq, hs, hk⟩ := h
  exact ⟨a, cap, Q, e, ho, hq, hs.mono hB, fun q hm => (hk q hm).mono hB⟩
theorem trs_at {B : Nat} {w : World} {v : Value} {L : List (List Nd)} (h : IsTrs B w v L) {i : Nat} (hi : i < L.length) : ∃ b off cap q, v = .slice (some ⟨b, off, none⟩) L.length cap ∧ b < B ∧ IsTr B w q L[i] ∧ w.cell? ⟨b, off + i, none⟩ = some q := by
  obtain ⟨a, cap, Q, e, ho, hq, hs, hk⟩ := h
  subst hq
  have hi' : i < Q.length := by simpa using hi
  obtain ⟨b, off, rfl, hlt, hc⟩ := hs (fun e => by rw [e] at hi'; simp at hi')
  have h1 := hc i _ (List.getElem?_eq_getElem hi')
  refine ⟨b, off, cap, Q[i].2, e, hlt, ?_, ?_⟩
  · simpa using hk _ (List.getElem_mem hi')
  · simpa using h1 0 _ rfl
theorem trs_len {B : Nat} {w : World} {v : Value} {L : List (List Nd)} (h : IsTrs B w v L) : ∃ a cap, v = .slice a L.length cap := by
  obtain ⟨a, cap, _, e, _⟩ := h
  exact ⟨a, cap, e⟩
end Go.Proofs.YtkokdafkjjcgoaaGreatDoor
namespace Go.Proofs.YtkokdafkjjcgoaaGreatDoor
open Go.RowKit Go.Maps

/-- what a name stands for -/
structure Bnd where
  kind : Int
  idx : Int
  type : ByteArray
deriving DecidableEq
end Go.Proofs.YtkokdafkjjcgoaaGreatDoor
