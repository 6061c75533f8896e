/- Going over a tree: each place once, a whole ahead of its parts. Plain: nothing of the program. · Going over a tree: the program's walk, whatever a round does. · Walk: what is handed back. -/
import Derived.Test.YtkokdafkjjcgoaaGreatDoorBegM
import Derived.RangeFuncNested
import Derived.RangeFuncBound
import Derived.RangeFuncCalls
import Derived.RangeFuncLeaves
import Derived.Shelf.Abstract
import Derived.WalkKit
import Derived.OwnWalkIn
import Derived.TacticsInMore
import Derived.LoopNIn
import Derived.LoopIn
import Derived.Test.YtkokdafkjjcgoaaGreatDoorTopM
import Derived.Test.YtkokdafkjjcgoaaGreatDoorTreeChecks
namespace Go.Proofs.YtkokdafkjjcgoaaGreatDoor

/-- where the first of n parts begins, the last of which ends ahead of e -/
def startE (fr : List Nat) : Nat → Nat → Nat
  | 0, e => e
  | n + 1, e => startE fr n (fr.getD (e - 1) 0)
theorem Ends.start {fr : List Nat} : ∀ {st : List Nat} {e n : Nat}, Ends fr st e → n ≤ st.length → startE fr n e = if 0 < n then st.getD (n - 1) 0 else e
  | _, _, 0, _, _ => rfl
  | [], _, n + 1, _, h => by simp at h
  | s :: st, e, n + 1, ⟨_, h2, h3⟩, h => by
    rw [startE, h2, Ends.start h3 (by simpa using h), if_pos (Nat.succ_pos n)]
    cases n with
    | zero => rfl
    | succ n => rw [if_pos (Nat.succ_pos n), Nat.add_sub_cancel, Nat.add_sub_cancel]; rfl
theorem begins_start : ∀ (l : List Nd) (pre : List Nat) (st : List Nat) {f st' : List Nat}, beginsF l pre.length st = some (f, st') → Ends pre st pre.length →
    ∀ (j : Nat) x, l[j]? = some x → startE (pre ++ f) x.n.toNat (pre.length + j) = (pre ++ f).getD (pre.length + j) 0
  | [], _, _, _, _, _, _ => fun j x hx => by simp at hx
  | x :: l, pre, st, f, st', h, he => by
    have hfull := begins_back (x :: l) pre st h he
    rw [beginsF] at h
    split at h
    · cases h
    · rename_i hn
      simp only [Option.map_eq_some_iff] at h
      obtain ⟨⟨g, st2⟩, hg, e⟩ := h
      obtain ⟨rfl, rfl⟩ := Prod.mk.inj e
      simp only at hg ⊢
      generalize ha : (if 0 < x.n then st.getD (x.n.toNat - 1) 0 else pre.length) = a at *
      have hle : x.n.toNat ≤ st.length := by omega
      have ha1 : a ≤ pre.length := by
        rw [← ha]
        split
        · exact Nat.le_of_lt (he.lt _ (by omega))
        · exact Nat.le_refl _
      have he2 : Ends (pre ++ [a]) (a :: st.drop x.n.toNat) (pre ++ [a]).length := by
        refine ⟨by simp; omega, by simp, ?_⟩
        by_cases h0 : 0 < x.n
        · rw [if_pos h0] at ha
          rw [← ha]
          exact (he.drop x.n.toNat (by omega) hle).app (by rw [ha]; exact ha1)
        · rw [if_neg h0] at ha
          have : x.n.toNat = 0 := by omega
          rw [this, ← ha]
          simpa using he.app (Nat.le_refl _)
      have hl1 : (pre ++ [a]).length = pre.length + 1 := by simp
      have h3 := begins_start l (pre ++ [a]) _ (by rw [hl1]; exact hg) he2
      have hap : pre ++ [a] ++ g = pre ++ a :: g := by simp
      rw [hap, hl1] at h3
      intro j y hy
      cases j with
      | zero =>
        obtain rfl := Option.some.inj hy
        have h4 := (he.app (g := a :: g) (Nat.le_refl _)).start (n := x.n.toNat) hle
        rw [Nat.add_zero, h4]
        have h5 : (pre ++ a :: g).getD pre.length 0 = a := by rw [List.getD_eq_getElem?_getD, List.getElem?_append_right (Nat.le_refl _), Nat.sub_self]; rfl
        rw [h5, ← ha]
        by_cases h0 : 0 < x.n
        · rw [if_pos (by omega), if_pos h0]
        · rw [if_neg (by omega), if_neg h0]
      | succ j =>
        have := h3 j y (by simpa using hy)
        rw [show pre.length + (j + 1) = pre.length + 1 + j by omega]
        exact this
theorem start_of {t : List Nd} {fr : List Nat} (h : beginsN t = some fr) {j : Nat} {x : Nd} (hx : t[j]? = some x) : startE fr x.n.toNat j = fr.getD j 0 := by
  unfold beginsN at h
  split at h
  · rename_i f s hb
    obtain rfl := Option.some.inj h
    have := begins_start t [] [] hb trivial j x hx
    simpa using this
  · cases h
/-- where all that waits begins -/
theorem begins_low : ∀ (l : List Nd) (i : Nat) (st : List Nat) {f st' : List Nat}, beginsF l i st = some (f, st') → (st ≠ [] → st.getLast? = some 0) → (st = [] → i = 0) → st' ≠ [] → st'.getLast? = some 0
  | [], i, st, f, st', h, h1, _, h3 => by
    rw [beginsF] at h
    obtain ⟨_, rfl⟩ := Prod.mk.inj (Option.some.inj h)
    exact h1 h3
  | x :: l, i, st, f, st', h, h1, h2, h3 => by
    rw [beginsF] at h
    split at h
    · cases h
    · rename_i hn
      simp only [Option.map_eq_some_iff] at h
      obtain ⟨⟨g, st2⟩, hg, e⟩ := h
      obtain ⟨_, rfl⟩ := Prod.mk.inj e
      refine begins_low l (i + 1) _ hg (fun _ => ?_) (fun h => by cases h) h3
      by_cases hs : st = []
      · subst hs
        have : x.n.toNat = 0 := by simp at hn; omega
        rw [this, if_neg (by simp at hn; omega), h2 rfl]
        rfl
      · have hl := h1 hs
        rcases Nat.lt_or_ge x.n.toNat st.length with h' | h'
        · have hd : st.drop x.n.toNat ≠ [] := by simp; omega
          rw [List.getLast?_cons_of_ne_nil hd, List.getLast?_drop, if_neg (by omega)]
          exact hl
        · have hd : st.drop x.n.toNat = [] := by simp; omega
          have hpos : 0 < st.length := List.length_pos_iff.2 hs
          rw [hd, if_pos (by omega)]
          rw [List.getLast?_eq_getElem?] at hl
          have e1 : x.n.toNat - 1 = st.length - 1 := by omega
          rw [List.getD_eq_getElem?_getD, e1, hl]
          rfl
/-- the whole, the last of all, begins at the beginning -/
theorem begins_ends {t : List Nd} {fr : List Nat} (h : beginsN t = some fr) : fr.getD (t.length - 1) 0 = 0 := by
  unfold beginsN at h
  split at h
  · rename_i f s hb
    obtain rfl := Option.some.inj h
    obtain ⟨_, h2, _⟩ := begins_back t [] [] hb trivial
    simp only [List.nil_append, List.length_nil, Nat.zero_add] at h2
    have h3 := begins_low t 0 [] hb (fun h => absurd rfl h) (fun _ => rfl) (by simp)
    simp at h3
    rw [h2.2.1, h3]
  · cases h
/-- so many nodes are in the parts -/
theorem back_sum {fr : List Nat} : ∀ {n e : Nat}, Back fr n e → startE fr n e ≤ e ∧ ((partsE fr n e).map fun p => p + 1 - fr.getD p 0).sum = e - startE fr n e
  | 0, e, _ => ⟨Nat.le_refl _, by simp [partsE, startE]⟩
  | n + 1, e, ⟨h1, h2, h3⟩ => by
    obtain ⟨a, b⟩ := back_sum h3
    refine ⟨by rw [startE]; omega, ?_⟩
    rw [partsE, List.map_append, List.sum_append, b, startE]
    simp only [List.map_cons, List.map_nil, List.sum_cons, List.sum_nil]
    omega

def walkF (t : List Nd) (fr : List Nat) : Nat → Nat → Nat → List (Nat × Nat)
  | 0, _, _ => []
  | m + 1, k, d => (k, d) :: (partsAt t fr k).flatMap fun p => walkF t fr m p (d + 1)
/-- places, and how deep they are: the part that ends at k -/
def walkN (t : List Nd) (fr : List Nat) (k d : Nat) : List (Nat × Nat) := walkF t fr (k + 1) k d
theorem flatMap_same {α β : Type} {f g : α → List β} : ∀ {l : List α}, (∀ x ∈ l, f x = g x) → l.flatMap f = l.flatMap g
  | [], _ => rfl
  | x :: l, h => by rw [List.flatMap_cons, List.flatMap_cons, h x (List.mem_cons_self ..), flatMap_same fun y hy => h y (List.mem_cons_of_mem _ hy)]
theorem walkF_more {t : List Nd} {fr : List Nat} (h : Formed t fr) : ∀ (m k d : Nat), k < m → walkF t fr m k d = walkF t fr (k + 1) k d
  | 0, k, _, hk => by omega
  | m + 1, k, d, hk => by
    rw [walkF, walkF]
    congr 1
    refine flatMap_same fun p hp => ?_
    have := h.parts_lt hp
    rw [walkF_more h m p _ (by omega), walkF_more h k p _ (by omega)]
theorem walkN_eq {t : List Nd} {fr : List Nat} (h : Formed t fr) (k d : Nat) : walkN t fr k d = (k, d) :: (partsAt t fr k).flatMap fun p => walkN t fr p (d + 1) := by
  unfold walkN
  rw [walkF]
  congr 1
  refine flatMap_same fun p hp => ?_
  rw [walkF_more h k p _ (h.parts_lt hp)]
theorem flatMap_len {α β : Type} {f : α → List β} {g : α → Nat} : ∀ {l : List α}, (∀ x ∈ l, (f x).length = g x) → (l.flatMap f).length = (l.map g).sum
  | [], _ => rfl
  | x :: l, h => by rw [List.flatMap_cons, List.length_append, h x (List.mem_cons_self ..), flatMap_len fun y hy => h y (List.mem_cons_of_mem _ hy)]; simp
/-- as many as there are nodes in the part -/
theorem walkN_len {t : List Nd} {fr : List Nat} (hb : beginsN t = some fr) : ∀ (m k d : Nat), k < m → k < t.length → (walkN t fr k d).length = k + 1 - fr.getD k 0
  | 0, k, _, hk, _ => by omega
  | m + 1, k, d, hk, hl => by
    have hF := formed_of hb
    have hx := List.getElem?_eq_getElem hl
    rw [walkN_eq hF, List.length_cons, flatMap_len (g := fun p => p + 1 - fr.getD p 0) (fun p hp => by
      have := hF.parts_lt hp
      exact walkN_len hb m p _ (by omega) (by omega))]
    obtain ⟨h0, hbk, hle⟩ := hF.node k _ hx
    rw [partsAt_is hx, (back_sum hbk).2, start_of hb hx]
    omega
/-- how many places from lo on, ahead of hi, are so -/
def cntR (f : Nat → Bool) (lo hi : Nat) : Nat := (List.range' lo (hi - lo)).countP f
theorem cntR_add (f : Nat → Bool) {lo mid hi : Nat} (h1 : lo ≤ mid) (h2 : mid ≤ hi) : cntR f lo hi = cntR f lo mid + cntR f mid hi := by
  unfold cntR
  rw [← List.countP_append, show hi - lo = (mid - lo) + (hi - mid) by omega, ← List.range'_append_1 (m := mid - lo), show lo + (mid - lo) = mid by omega]
theorem cntR_one (f : Nat → Bool) (k : Nat) : cntR f k (k + 1) = if f k = true then 1 else 0 := by
  unfold cntR
  rw [show k + 1 - k = 1 by omega]
  simp [List.countP_cons]
theorem back_cnt {fr : List Nat} (f : Nat → Bool) : ∀ {n e : Nat}, Back fr n e → ((partsE fr n e).map fun p => cntR f (fr.getD p 0) (p + 1)).sum = cntR f (startE fr n e) e
  | 0, e, _ => by simp [partsE, startE, cntR]
  | n + 1, e, ⟨h1, h2, h3⟩ => by
    have hs := (back_sum h3).1
    rw [partsE, List.map_append, List.sum_append, back_cnt f h3, startE]
    simp only [List.map_cons, List.map_nil, List.sum_cons, List.sum_nil, Nat.add_zero]
    rw [show e - 1 + 1 = e by omega, ← cntR_add f hs (by omega)]
theorem flatMap_cnt {α β : Type} {f : α → List β} {p : β → Bool} {g : α → Nat} : ∀ {l : List α}, (∀ x ∈ l, (f x).countP p = g x) → (l.flatMap f).countP p = (l.map g).sum
  | [], _ => rfl
  | x :: l, h => by rw [List.flatMap_cons, List.countP_append, h x (List.mem_cons_self ..), flatMap_cnt fun y hy => h y (List.mem_cons_of_mem _ hy)]; simp
/-- each place once -/
theorem walk_cnt {t : List Nd} {fr : List Nat} (hb : beginsN t = some fr) (f : Nat → Bool) : ∀ (m k d : Nat), k < m → k < t.length → (walkN t fr k d).countP (fun x => f x.1) = cntR f (fr.getD k 0) (k + 1)
  | 0, k, _, hk, _ => by omega
  | m + 1, k, d, hk, hl => by
    have hF := formed_of hb
    have hx := List.getElem?_eq_getElem hl
    rw [walkN_eq hF, List.countP_cons, flatMap_cnt (g := fun p => cntR f (fr.getD p 0) (p + 1)) (fun p hp => by
      have := hF.parts_lt hp
      exact walk_cnt hb f m p _ (by omega) (by omega))]
    obtain ⟨h0, hbk, hle⟩ := hF.node k _ hx
    rw [partsAt_is hx, back_cnt f hbk, start_of hb hx, cntR_add f hle (Nat.le_succ k), cntR_one]
theorem cnt_nodes {t : List Nd} (g : Int → Bool) : cntR (fun i => g (kindAt t i)) 0 t.length = t.countP fun x => g x.kind := by
  unfold cntR
  rw [Nat.sub_zero, ← List.range_eq_range']
  have e : t = (List.range t.length).map fun i => t.getD i ⟨0, 0, 0, 0, ⟨#[]⟩, ⟨#[]⟩⟩ := by
    apply List.ext_getElem?
    intro i
    rw [List.getElem?_map]
    by_cases hi : i < t.length
    · rw [List.getElem?_range hi, List.getElem?_eq_getElem hi]
      simp [List.getD_eq_getElem?_getD, List.getElem?_eq_getElem hi]
    · rw [List.getElem?_eq_none (by omega), List.getElem?_eq_none (by simp; omega)]; rfl
  conv => rhs; rw [e]
  rw [List.countP_map]
  apply List.countP_congr
  intro i hi
  rw [List.mem_range] at hi
  simp only [Function.comp, kindAt_is (List.getElem?_eq_getElem hi), List.getD_eq_getElem?_getD, List.getElem?_eq_getElem hi, Option.getD_some]
end Go.Proofs.YtkokdafkjjcgoaaGreatDoor
namespace Go.Proofs.YtkokdafkjjcgoaaGreatDoor
open Go.RowKit Go.Shelf

attribute [local go_sem] Oper.semAt_some

/-- what a round keeps: whatever is cells, but for one block -/
structure KeepBut (bn : Nat) (W W' : World) : Prop where
  os : W'.os = W.os
  tape : W'.tape = W.tape
  output : W'.output = W.output
  size : W.heap.size ≤ W'.heap.size
  block : ∀ (k : Nat) (o : Obj), k ≠ bn → W.heap[k]? = some o → o.isCells = true → W'.heap[k]? = some o
theorem KeepBut.refl (bn : Nat) (W : World) : KeepBut bn W W := ⟨rfl, rfl, rfl, Nat.le_refl _, fun _ _ _ h _ => h⟩
theorem KeepBut.trans {bn : Nat} {A B C : World} (h : KeepBut bn A B) (k : KeepBut bn B C) : KeepBut bn A C :=
  ⟨k.os.trans h.os, k.tape.trans h.tape, k.output.trans h.output, Nat.le_trans h.size k.size, fun i o hi ho hc => k.block i o hi (h.block i o hi ho hc) hc⟩
theorem KeepBut.of_below {bn : Nat} {W W' : World} (h : Below W.heap.size W W') : KeepBut bn W W' :=
  ⟨h.os, h.tape, h.output, h.size, fun k _ _ ho _ => (h.block k (lt_of_heap ho)).trans ho⟩
theorem KeepBut.cell {bn : Nat} {W W' : World} (h : KeepBut bn W W') {p : Addr} {v : Value} (hp : p.block ≠ bn) (hc : W.cell? p = some v) : W'.cell? p = some v := by
  unfold World.cell? at hc ⊢
  split at hc
  · rename_i cs T fz hb
    rw [h.block _ _ hp hb rfl]
    exact hc
  · cases hc
theorem KeepBut.sl {α : Type} {kk : Nat} {cells : α → List Value} {bn B : Nat} {W W' : World} (h : KeepBut bn W W') {a : Option Addr} {L : List α} (hs : IsSl kk cells B W a L) (hB : B ≤ bn) : IsSl kk cells B W' a L := fun hn => by
  obtain ⟨b, off, ha, hlt, hc⟩ := hs hn
  exact ⟨b, off, ha, hlt, fun i x hx j u hu => h.cell (by show b ≠ bn; omega) (hc i x hx j u hu)⟩
theorem grown_none {W W' : World} (h : Below W.heap.size W W') : W.grownBy W' none := ⟨h.os, h.tape, h.output, h.size, fun k hk _ => h.block k hk⟩
theorem abides_below {β : Type} {B : Nat} {J : β → World → Prop} (h : AbidesFrom B J) {s : β} {W W' : World} (hs : J s W) (hb : Below W.heap.size W W') : J s W' := h s W W' none hs (grown_none hb) (fun _ e => by cases e)
/-- numbers of one's own lie in a block that was not there -/
theorem nat_far_any {w : World} {base : Nat} {v : Value} {L : List Nat} (h : NatRow w base v L) : ∀ (g off n cap : Nat), v = .slice (some ⟨g, off, none⟩) n cap → L.length ≠ 0 → base ≤ g := fun g off n cap hv hn => by
  obtain ⟨g2, cap2, hv2, hb, _⟩ := h.far (fun e => hn (by rw [e]; rfl))
  rw [hv] at hv2
  simp only [Value.slice.injEq, Option.some.injEq, Addr.mk.injEq] at hv2
  omega
/-- a place in a tree, and how deep it is -/
abbrev Elt (t : List Nd) : Type := { x : Nat × Nat // x.1 < t.length }
def eltV {t : List Nd} (x : Elt t) : Array Value := #[.int .i64 (x.1.1 : Int), .int .i64 (x.1.2 : Int)]
def elts {t : List Nd} (l : List (Elt t)) : List (Nat × Nat) := l.map Subtype.val
theorem elts_app {t : List Nd} (l m : List (Elt t)) : elts (l ++ m) = elts l ++ elts m := List.map_append
theorem elts_len {t : List Nd} (l : List (Elt t)) : (elts l).length = l.length := List.length_map ..
/-- what has come when i parts are over -/
def doneF (t : List Nd) (fr P : List Nat) (d i : Nat) : List (Nat × Nat) := (P.take i).flatMap fun p => walkN t fr p d
theorem done_next {t : List Nd} {fr P : List Nat} {d i : Nat} (hi : i < P.length) : doneF t fr P d (i + 1) = doneF t fr P d i ++ walkN t fr P[i] d := by
  unfold doneF
  rw [List.take_succ_eq_append_getElem hi, List.flatMap_append]
  simp
theorem done_all {t : List Nd} {fr P : List Nat} {d : Nat} : doneF t fr P d P.length = P.flatMap fun p => walkN t fr p d := by unfold doneF; rw [List.take_length]
theorem done_pre {t : List Nd} {fr P : List Nat} {d i : Nat} : doneF t fr P d i <+: P.flatMap fun p => walkN t fr p d := by
  unfold doneF
  conv => rhs; rw [← List.take_append_drop i P, List.flatMap_append]
  exact List.prefix_append ..
/-- how going over ends -/
def WalkEnd {t : List Nd} (L : List (Nat × Nat)) (bn : Nat) (J Jx : List (Elt t) → World → Prop) (pre : List (Elt t)) (W : World) (e : Ending) (W' : World) : Prop :=
  (e = .returned (.bool true) ∧ ∃ q, elts q = L ∧ J (pre ++ q) W' ∧ KeepBut bn W W') ∨ (e = .returned (.bool false) ∧ ∃ q, elts q <+: L ∧ Jx (pre ++ q) W')

set_option maxRecDepth 100000 in
set_option maxHeartbeats 4000000 in
theorem walk_in (a : Option Addr) (cap : Nat) (t : List Nd) (b : Option Addr) (capb : Nat) (fr : List Nat) (hG : Given t fr) (l bn N B : Nat) (J Jx : List (Elt t) → World → Prop) (hJ : AbidesFrom B J)
    (hY : ∀ m pre (x : Elt t) W, J pre W → pre.length < N → YieldAt Fence.wide m Tryz.prog l (eltV x) W fun e W' =>
      (e = .returned (.bool true) ∧ J (pre ++ [x]) W' ∧ KeepBut bn W W') ∨ (e = .returned (.bool false) ∧ Jx (pre ++ [x]) W')) :
    ∀ (m k d n : Nat) (pre : List (Elt t)) (W : World), k < m → k < t.length → d + k ≤ 10000 → IsNds bn W a t → IsNats bn W b fr → bn < W.heap.size → J pre W → pre.length + (walkN t fr k d).length ≤ N →
      CallsIn Fence.wide n Tryz.prog 47 #[.agg #[.slice a t.length cap, .slice b fr.length capb], .int .i64 (k : Int), .int .i64 (d : Int), .func (.yield l) #[] #[]] W (WalkEnd (walkN t fr k d) bn J Jx pre W)
  | 0, k, _, _, _, _, hk, _, _, _, _, _, _, _ => by omega
  | m + 1, k, d, n, pre, W, hkm, hk, hdk, hI, hF, hbn, hj, hN => by
    have hw := walkN_eq hG.formed k d
    have HP := Lib.hid (fun (q : Nat) (h : q ∈ partsAt t fr k) => hG.formed.parts_lt h)
    have HPt := Lib.hid (fun W1 (hI : IsNds W1.heap.size W1 a t) (hF : IsNats W1.heap.size W1 b fr) => tparts_ok a cap t b capb fr W1 hI hF hG.le hG.formed k hk)
    have HRec := Lib.hid (fun p d n pre W h1 h2 h3 h4 h5 h6 h7 h8 => walk_in a cap t b capb fr hG l bn N B J Jx hJ hY m p d n pre W h1 h2 h3 h4 h5 h6 h7 h8)
    generalize hPq : partsAt t fr k = P at *
    have HWq := Lib.hid hw
    have hpl : P.length ≤ 4096 := by rw [← hPq, partsAt_is (List.getElem?_eq_getElem hk), partsE_length]; have := (hG.formed.node k _ (List.getElem?_eq_getElem hk)).2.1.le; have := hG.le; omega
    clear hw hPq
    have hx0 : (W.alloc (.cells #[.slice a t.length cap, .slice b fr.length capb] 81)).heap[W.heap.size]? = some (.cells #[.slice a t.length cap, .slice b fr.length capb] 81 (0, 0)) := heap_alloc_new _ _
    have hb0 : Below W.heap.size W (W.alloc (.cells #[.slice a t.length cap, .slice b fr.length capb] 81)) := ba1 _ _
    have hz0 : W.heap.size < (W.alloc (.cells #[.slice a t.length cap, .slice b fr.length capb] 81)).heap.size := by simp
    have hdd : ∀ k : Nat, (Fence.wide.depth.isSome = true → 1 ≤ k) := fun k h => by cases h
    have hlen : pre.length < N := by have := congrArg List.length HWq.out; rw [List.length_cons] at this; omega
    have hYW := hY (n - 1) pre ⟨(k, d), hk⟩ _ (abides_below hJ hj hb0) hlen
    refine callsIn_of_wp Tryz.func47 rfl trivial ?_ rfl
    simp only [Tryz.ntmps47, List.size_toArray, List.length_cons, List.length_nil, Nat.reduceAdd, Nat.reduceSub, Array.replicate_succ, Array.replicate_zero, List.push_toArray, List.append_toArray, List.nil_append, List.cons_append]
    obtain ⟨fn, tmps, assign, body, hy, hR⟩ := hYW
    have HJ := Lib.hid hJ
    have HI := Lib.hid hI
    have HF := Lib.hid hF
    have HX0 := Lib.hid hx0
    have HB0 := Lib.hid hb0
    have HR := Lib.hid hR
    have HN := Lib.hid hN
    clear hj hI hF hx0 hb0 hJ hY hR hN
    dsimp only [eltV] at hy
    gi_wp2
    refine ⟨hdd _, ?_⟩
    refine HR.out.mono ?_
    rintro e W1 (⟨rfl, hj1, hk1⟩ | ⟨rfl, hj1⟩)
    · have hx1 := hk1.block _ _ (by omega) HX0.out rfl
      have HX1 := Lib.hid hx1
      have HK1 := Lib.hid ((KeepBut.of_below (bn := bn) HB0.out).trans hk1)
      have HJ1 := Lib.hid hj1
      obtain ⟨⟨z0, z1⟩, _⟩ := two_block hx1
      have hz1 := lt_of_heap hx1
      have hbn1 : bn < W1.heap.size := by omega
      have hI1 := HK1.out.sl HI.out (Nat.le_refl _)
      have hF1 := HK1.out.sl HF.out (Nat.le_refl _)
      have HP1 := Lib.hid (HPt.out W1 (hI1.mono (by omega)) (hF1.mono (by omega)))
      clear hj1 hk1 hx1 hI1 hF1
      gi_wp2_with (refine ⟨trivial, hdd _, ?_⟩; gi_at_call 42; refine (callsIn_wide.2 HP1.out).mono ?_; rintro e W2 ⟨⟨v, rfl, hrow⟩, hb2⟩; have HR2 := Lib.hid hrow; have HB2 := Lib.hid hb2; obtain ⟨pa, pc, rfl, hN2, _⟩ := hrow.is; have HN2 := Lib.hid hN2; clear hrow hb2 hN2)
      have hN2g := nat_far_any HR2.out
      have hx2 := (HB2.out.block _ hz1).trans HX1.out
      obtain ⟨⟨y0, y1⟩, _⟩ := two_block hx2
      have hK2 := HK1.out.trans (KeepBut.of_below (bn := bn) HB2.out)
      have hj2 := abides_below HJ.out HJ1.out HB2.out
      have HG := Lib.hid hN2g
      have HX2 := Lib.hid hx2
      have HK2 := Lib.hid hK2
      have HJ2 := Lib.hid hj2
      have hz2 := lt_of_heap hx2
      have HI2 := Lib.hid (HK2.out.sl HI.out (Nat.le_refl _))
      have HF2 := Lib.hid (HK2.out.sl HF.out (Nat.le_refl _))
      have hbn2 : bn < W2.heap.size := by omega
      clear hx2 hK2 hj2 hN2g
      gi_loopw [20] (fun v20 wr => ∃ (i : Nat) (q : List (Elt t)), i ≤ P.length ∧ v20 = .int .i64 (i : Int) ∧ elts q = (k, d) :: doneF t fr P (d + 1) i ∧ J (pre ++ q) wr ∧ KeepBut bn W2 wr) (fun v20 _ => P.length - (intOf v20).toNat)
      case atStart => exact ⟨0, [⟨(k, d), hk⟩], by omega, rfl, rfl, HJ2.out, KeepBut.refl _ _⟩
      case round =>
        obtain ⟨i, q, hi, rfl, hq, hjr, hkr⟩ := hrel
        have HQ := Lib.hid hq
        have HJr := Lib.hid hjr
        have HKr := Lib.hid hkr
        clear hq hjr hkr
        by_cases hlt : i < P.length
        · obtain ⟨pb, po, hpa, hpb, c2⟩ := nats_at HN2.out hlt
          subst hpa
          have hpn := HG.out _ _ _ _ rfl (by omega)
          have c3 := HKr.out.cell (p := ⟨pb, po + i, none⟩) (by show pb ≠ bn; omega) c2
          have r0 := HKr.out.cell (p := ⟨W.heap.size, 0, none⟩) (by show W.heap.size ≠ bn; omega) y0
          have r1 := HKr.out.cell (p := ⟨W.heap.size, 1, none⟩) (by show W.heap.size ≠ bn; omega) y1
          obtain ⟨p, hp⟩ : ∃ p, p = P[i] := ⟨_, rfl⟩
          rw [← hp] at c3
          have hpk := HP.out p (by rw [hp]; exact List.getElem_mem hlt)
          have hdn := done_next (t := t) (fr := fr) (d := d + 1) hlt
          have hdp := List.IsPrefix.length_le (done_pre (t := t) (fr := fr) (P := P) (d := d + 1) (i := i + 1))
          have hql := elts_len q
          have hwl := congrArg List.length HWq.out
          rw [HQ.out] at hql
          rw [hdn, List.length_append, ← hp] at hdp
          rw [List.length_cons] at hwl hql
          have hNr := HN.out
          have HC := Lib.hid (HRec.out p (d + 1) (n - 1) (pre ++ q) wr (by omega) (by omega) (by omega) (HKr.out.sl HI2.out (Nat.le_refl _)) (HKr.out.sl HF2.out (Nat.le_refl _)) (by have := HKr.out.size; omega) HJr.out (by rw [List.length_append]; omega))
          have HDn := Lib.hid (show doneF t fr P (d + 1) (i + 1) = doneF t fr P (d + 1) i ++ walkN t fr p (d + 1) by rw [hdn, ← hp])
          clear c2 hp hdn hdp hql hwl hNr
          gi_wp2_with (refine ⟨trivial, hdd _, ?_⟩; gi_at_call 47; refine HC.out.mono ?_; rintro e W3 (⟨rfl, q3, hq3, hj3, hk3⟩ | ⟨rfl, q3, hq3, hj3⟩))
          · have HQ3 := Lib.hid (show elts (q ++ q3) = (k, d) :: doneF t fr P (d + 1) (i + 1) by rw [elts_app, HQ.out, hq3, HDn.out]; rfl)
            have HJ3 := Lib.hid (show J (pre ++ (q ++ q3)) W3 by rw [← List.append_assoc]; exact hj3)
            clear hq3 hj3
            go_roundw
            case rel => exact ⟨i + 1, q ++ q3, by omega, by go_num, HQ3.out, HJ3.out, HKr.out.trans hk3⟩
            case measure => simp [intOf]; omega
          · have HQ3 := Lib.hid (show elts (q ++ q3) <+: walkN t fr k d by
              rw [elts_app, HQ.out, HWq.out]
              refine List.IsPrefix.trans ?_ (List.prefix_cons_inj (k, d) |>.2 (done_pre (t := t) (fr := fr) (P := P) (d := d + 1) (i := i + 1)))
              rw [HDn.out, List.cons_append]
              exact List.prefix_cons_inj _ |>.2 (List.prefix_append_right_inj _ |>.2 hq3))
            have HJ3 := Lib.hid (show Jx (pre ++ (q ++ q3)) W3 by rw [← List.append_assoc]; exact hj3)
            clear hq3 hj3
            go_ret
            exact .inr ⟨rfl, q ++ q3, HQ3.out, HJ3.out⟩
        · obtain rfl : i = P.length := by omega
          gi_wp2
          go_ret
          exact .inl ⟨rfl, q, by rw [HQ.out, HWq.out, done_all], HJr.out, HK2.out.trans HKr.out⟩
    · have HJ1 := Lib.hid hj1
      clear hj1
      gi_wp2
      go_ret
      exact .inr ⟨rfl, [⟨(k, d), hk⟩], by rw [HWq.out]; exact ⟨_, rfl⟩, HJ1.out⟩

/-- all places of a tree -/
def wholeL (t : List Nd) (fr : List Nat) : List (Nat × Nat) := walkN t fr (t.length - 1) 1
set_option maxRecDepth 100000 in
set_option maxHeartbeats 4000000 in
theorem walk1_in (a : Option Addr) (cap : Nat) (t : List Nd) (b : Option Addr) (capb : Nat) (fr : List Nat) (hG : Given t fr) (l bn bw n B : Nat) (J Jx : List (Elt t) → World → Prop) (hJ : AbidesFrom B J)
    (hY : ∀ m pre (x : Elt t) W, J pre W → pre.length < (wholeL t fr).length → YieldAt Fence.wide m Tryz.prog l (eltV x) W fun e W' =>
      (e = .returned (.bool true) ∧ J (pre ++ [x]) W' ∧ KeepBut bn W W') ∨ (e = .returned (.bool false) ∧ Jx (pre ++ [x]) W'))
    (W : World) (z0 : W.cell? ⟨bw, 0, none⟩ = some (.slice a t.length cap)) (z1 : W.cell? ⟨bw, 1, none⟩ = some (.slice b fr.length capb)) (hI : IsNds bn W a t) (hF : IsNats bn W b fr) (hbn : bn < W.heap.size) (hj : J [] W) :
    CallsIn Fence.wide n Tryz.prog 46 #[.func (.yield l) #[] #[], .pointer (some ⟨bw, 0, none⟩)] W fun e W' => (∃ v, e = .returned v) ∧
      ((∃ ys, elts ys = wholeL t fr ∧ J ys W') ∨ (∃ pre, elts pre <+: wholeL t fr ∧ Jx pre W')) := by
  have hdd : ∀ k : Nat, (Fence.wide.depth.isSome = true → 1 ≤ k) := fun k h => by cases h
  obtain ⟨k, hk⟩ : ∃ k, t.length = k + 1 := ⟨t.length - 1, by have := hG.formed.pos; omega⟩
  have hle := hG.le
  have hw : wholeL t fr = walkN t fr k 1 := by unfold wholeL; rw [hk, Nat.add_sub_cancel]
  have HC := Lib.hid (walk_in a cap t b capb fr hG l bn (wholeL t fr).length B J Jx hJ hY (k + 1) k 1 (n - 1) [] W (by omega) (by omega) (by omega) hI hF hbn hj (by rw [hw]; simp))
  have hk1 : (t.length : Int) - 1 = (k : Int) := by omega
  have HW := Lib.hid hw
  clear hJ hY hI hF hj hw hk
  refine callsIn_of_wp Tryz.func46 rfl trivial ?_ rfl
  simp only [Tryz.ntmps46, List.size_toArray, List.length_cons, List.length_nil, Nat.reduceAdd, Nat.reduceSub, Array.replicate_succ, Array.replicate_zero, List.push_toArray, List.append_toArray, List.nil_append, List.cons_append]
  gi_wp2_with (refine ⟨trivial, hdd _, ?_⟩; gi_at_call 47; refine HC.out.mono ?_; rintro e W3 (⟨rfl, q3, hq3, hj3, hk3⟩ | ⟨rfl, q3, hq3, hj3⟩))
  · go_end0
    exact ⟨⟨_, rfl⟩, .inl ⟨q3, by rw [HW.out, hq3], hj3⟩⟩
  · go_end0
    exact ⟨⟨_, rfl⟩, .inr ⟨q3, by rw [HW.out]; exact hq3, hj3⟩⟩
/-- **what Walk hands back, as a loop over it wants it** -/
theorem walk1_stops (a : Option Addr) (cap : Nat) (t : List Nd) (b : Option Addr) (capb : Nat) (fr : List Nat) (hG : Given t fr) (bn bw n : Nat) (w : World) (hbw : bw < w.heap.size) (hbn : bn < w.heap.size)
    (z0 : w.cell? ⟨bw, 0, none⟩ = some (.slice a t.length cap)) (z1 : w.cell? ⟨bw, 1, none⟩ = some (.slice b fr.length capb)) (hI : IsNds bn w a t) (hF : IsNats bn w b fr) :
    SeqStopsK Fence.wide n Tryz.prog 46 #[.pointer (some ⟨bw, 0, none⟩)] (eltV (t := t)) (KeepBut bn) (fun ys => elts ys = wholeL t fr) (fun pre => elts pre <+: wholeL t fr) (wholeL t fr).length w := fun l J Jx W hW hJ _ hY h0 =>
  walk1_in a cap t b capb fr hG l bn bw n W.heap.size J Jx hJ (fun m pre x W1 hj hl => by
      obtain ⟨fn, tmps, assign, body, hy, hR⟩ := hY pre x W1 hj hl
      exact ⟨fn, tmps, assign, body, hy, hR.1, fun c cs _ => hR.2 c cs (room_wide _)⟩) W
    ((hW.cell (p := ⟨bw, 0, none⟩) hbw).trans z0) ((hW.cell (p := ⟨bw, 1, none⟩) hbw).trans z1) (hI.below hW (Nat.le_of_lt hbn)) (hF.below hW (Nat.le_of_lt hbn)) (Nat.lt_of_lt_of_le hbn hW.size) h0
theorem keepBut_t {bn : Nat} {A B C : World} (h : KeepBut bn A B) (k : KeepBut bn B C) : KeepBut bn A C := h.trans k
theorem keepBut_b {bn : Nat} {w : World} (W : World) (l : Nat) (o o' : Obj) (_ : w.heap.size ≤ l) (h : W.heap[l]? = some o) (hc : o.isCells = false) (_ : o.isWalk = false) : KeepBut bn W (W.putObj l o') :=
  ⟨rfl, rfl, rfl, (grownBy_putObj' W l o').size, fun k o2 _ hk hc2 => by
    have hne : k ≠ l := fun e => by subst e; rw [h] at hk; cases hk; rw [hc] at hc2; cases hc2
    rw [(grownBy_putObj' W l o').block k (lt_of_heap hk) (fun e => hne (by simpa using e))]
    exact hk⟩
end Go.Proofs.YtkokdafkjjcgoaaGreatDoor
namespace Go.Proofs.YtkokdafkjjcgoaaGreatDoor
open Go.RowKit

set_option maxRecDepth 100000 in
set_option maxHeartbeats 4000000 in
theorem clone_some (ad : Addr) (cap : Nat) (t : List Nd) (w : World) (hI : IsNds w.heap.size w (some ad) t) (hz : t.length * 64 ≤ 140737488351232) :
    Calls Tryz.prog 44 #[.slice (some ad) t.length cap] w fun e w' => (∃ v, e = .returned v ∧ NdRow w' w.heap.size v t) ∧ Below w.heap.size w w' := by
  obtain ⟨i0, hi, hz0, hz1, hz2⟩ := info_parts infoNd
  have HI0 := Lib.hid (And.intro hi (And.intro hz0 (And.intro hz1 hz2)))
  clear hi hz0 hz1 hz2
  have HI := Lib.hid hI
  have HL := Lib.hid (flat_len nd_len t)
  clear hI
  have hnl := fun wx => Lib.run_eql_slice_nil (P := Tryz.prog) wx 23 36 (some ad) t.length cap 0 0 Tryz.underlying23
  simp only [Option.isNone_some] at hnl
  go_enter Tryz.func44, Tryz.ntmps44
  go_wp2_with (at_builtin; go_loud (refine wpList_append_own _ rfl _ _ _ rfl w.heap.size 36 i0 _ 6 64 Tryz.underlying23 HI0.out.1 HI0.out.2.1 HI0.out.2.2.1 HI0.out.2.2.2 rfl (by decide) _ 0 [] rfl (nil_row _ (Nat.le_refl _)) ad t.length cap (t.flatMap ndCells) rfl HL.out (sl_news nd_len (HI.out.below (ba1 _ _) (Nat.le_refl _))) (nd_one t) (by unfold maxLen; omega) (by omega) (ba1 _ _).size ?_))
  intro v' w' hown hgrow _
  go_wp2_with fail
  go_ret
  refine ⟨⟨v', rfl, by unfold NdRow; simpa using hown⟩, (ba1 _ _).grown hgrow (ba1 _ _).size (fun k hk => by simp [Value.ownBlock] at hk; omega)⟩
set_option maxRecDepth 100000 in
set_option maxHeartbeats 4000000 in
theorem clone_any (a : Option Addr) (cap : Nat) (t : List Nd) (w : World) (hI : IsNds w.heap.size w a t) (hz : t.length * 64 ≤ 140737488351232) (hnil : a = none → t = [] ∧ cap = 0) :
    Calls Tryz.prog 44 #[.slice a t.length cap] w fun e w' => (∃ v, e = .returned v ∧ NdRow w' w.heap.size v t) ∧ Below w.heap.size w w' := by
  cases a with
  | none =>
    obtain ⟨rfl, rfl⟩ := hnil rfl
    clear hI hnil hz
    have hnl := fun wx => Lib.run_eql_slice_nil (P := Tryz.prog) wx 23 36 none 0 0 0 0 Tryz.underlying23
    simp only [Option.isNone_none] at hnl
    go_enter Tryz.func44, Tryz.ntmps44
    go_wp2_with fail
    go_ret
    exact ⟨⟨_, rfl, nd_nil _ _⟩, Below.refl _ _⟩
  | some ad => exact clone_some ad cap t w hI hz

/-- what Walk's answer leans on: its box; the tree of its own, and where its parts begin; all in blocks from B on -/
def SeqAt (t : List Nd) (fr : List Nat) (B : Nat) (W : World) (bw : Nat) : Prop :=
  ∃ (a : Option Addr) (c : Nat) (b : Option Addr) (capb : Nat), B ≤ bw ∧ W.heap[bw]? = some (.cells #[.slice a t.length c, .slice b fr.length capb] 81 (0, 0)) ∧ IsNds W.heap.size W a t ∧ IsNats W.heap.size W b fr ∧ (∀ g off, a = some ⟨g, off, none⟩ → B ≤ g) ∧ ∀ g off, b = some ⟨g, off, none⟩ → B ≤ g
theorem NdRow.far {w : World} {base : Nat} {v : Value} {L : List Nd} (h : NdRow w base v L) : ∀ (g off n cap : Nat), v = .slice (some ⟨g, off, none⟩) n cap → base ≤ g := fun g off n cap hv => by
  subst hv
  exact (World.ownsRow.lt h g rfl).1
section
variable (a : Option Addr) (cap : Nat) (t : List Nd) (w : World) (hE : TE w) (hI : IsNds w.heap.size w a t) (hOk : ∀ x ∈ t, NdOk x) (hz : t.length * 64 ≤ 140737488351232) (hnil : a = none → t = [] ∧ cap = 0)
include hE hI hOk hz hnil
set_option maxHeartbeats 4000000 in
theorem treeWalk_0 (h : checkN9 t = 0) : Calls Tryz.prog 21 #[.slice a t.length cap] w fun e w' => (∃ (bw : Nat) (fr : List Nat), e = .returned (.tuple #[.func (.func 46) #[] #[.pointer (some ⟨bw, 0, none⟩)], .int .i64 0]) ∧ beginsN t = some fr ∧ Given t fr ∧ SeqAt t fr w.heap.size w' bw) ∧ Below w.heap.size w w' := by
  have HCl := Lib.hid (clone_any a cap t w hI hz hnil)
  have HL := Lib.hid (fun a1 c1 w1 (hE : TE w1) (hI : IsNds w1.heap.size w1 a1 t) => looked_0 a1 c1 t w1 hE hI hOk hz h)
  have HE := Lib.hid hE
  clear hE hI hOk hnil h
  go_enter Tryz.func21, Tryz.ntmps21
  go_wp2_with (first | (go_at_call 44; (with_reducible refine HCl.out.mono ?_); rintro e w1 ⟨⟨v, rfl, hr⟩, hb1⟩; obtain ⟨a1, c1, rfl, _, _, hN, _⟩ := hr.opened; have HN := Lib.hid hN; have HFr := Lib.hid hr.far; have HB1 := Lib.hid hb1; have HL1 := Lib.hid (HL.out a1 c1 w1 (HE.out.below hb1) hN); clear hr hN hb1) | (go_at_call 37; (with_reducible refine HL1.out.mono ?_); rintro e w2 ⟨⟨b, capb, fr, rfl, hbe, hG, hW, hf⟩, hb2⟩; have HBe := Lib.hid hbe; have HG := Lib.hid hG; have HW := Lib.hid hW; have HF := Lib.hid hf; have HB2 := Lib.hid (HB1.out.trans (hb2.mono HB1.out.size)); clear hbe hG hW hf hb2))
  go_ret2
  have hb3 := ba1 w2 (.cells #[.slice a1 t.length c1, .slice b fr.length capb] 81)
  have hW3 := HW.out.below hb3
  exact ⟨⟨_, fr, rfl, HBe.out, HG.out, a1, c1, b, capb, HB2.out.size, heap_alloc_new _ _, hW3.nds, hW3.nats, fun g off e => HFr.out g off _ _ (by rw [e]), fun g off e => Nat.le_trans HB1.out.size (HF.out g off e)⟩, HB2.out.trans (hb3.mono HB2.out.size)⟩
set_option maxHeartbeats 4000000 in
theorem treeWalk_n (h : checkN9 t ≠ 0) : Calls Tryz.prog 21 #[.slice a t.length cap] w fun e w' => e = .returned (.tuple #[.nilFunc, .int .i64 (checkN9 t)]) ∧ Below w.heap.size w w' := by
  have HCl := Lib.hid (clone_any a cap t w hI hz hnil)
  have HL := Lib.hid (fun a1 c1 w1 (hE : TE w1) (hI : IsNds w1.heap.size w1 a1 t) => looked_n a1 c1 t w1 hE hI hOk hz h)
  have HE := Lib.hid hE
  have t3 : (checkN9 t != 0) = true := by simpa using h
  generalize checkN9 t = c at *
  clear hE hI hOk hnil h
  go_enter Tryz.func21, Tryz.ntmps21
  go_wp2_with (first | (go_at_call 44; (with_reducible refine HCl.out.mono ?_); rintro e w1 ⟨⟨v, rfl, hr⟩, hb1⟩; obtain ⟨a1, c1, rfl, _, _, hN, _⟩ := hr.opened; have HB1 := Lib.hid hb1; have HL1 := Lib.hid (HL.out a1 c1 w1 (HE.out.below hb1) hN); clear hr hN hb1) | (go_at_call 37; (with_reducible refine HL1.out.mono ?_); rintro e w2 ⟨rfl, hb2⟩; have HB2 := Lib.hid (HB1.out.trans (hb2.mono HB1.out.size)); clear hb2))
  go_ret2
  exact ⟨rfl, HB2.out.trans ((ba1 _ _).mono HB2.out.size)⟩
end
end Go.Proofs.YtkokdafkjjcgoaaGreatDoor
