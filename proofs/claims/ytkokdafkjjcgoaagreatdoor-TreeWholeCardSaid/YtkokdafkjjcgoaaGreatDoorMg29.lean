/- Rows of functions of one's own: which blocks their parts lie in. · Rows of trees of one's own, each tree with nodes of its own. · Trees put together: the program. · Count: the program. · Counting, going over: the reference; lists of numbers. · Any tree is gone over and counted as the document says, again and again: the law's walk. -/
import Derived.Test.YtkokdafkjjcgoaaGreatDoorMg28
import Derived.Test.YtkokdafkjjcgoaaGreatDoorMg10
import Derived.Test.YtkokdafkjjcgoaaGreatDoorMg14
import Derived.Test.YtkokdafkjjcgoaaGreatDoorMg23
import Derived.Deep.AppendLies
import Derived.Test.YtkokdafkjjcgoaaGreatDoorMg27
import Derived.RangeFuncFrom
import Derived.Shelf.RegionOpen
import Derived.LoopNIn
namespace Go.Proofs.YtkokdafkjjcgoaaGreatDoor
open Go.RowKit

theorem cell_sameU {w w' : World} {b : Nat} (h : w'.heap[b]? = w.heap[b]?) (j : Nat) : w'.cell? ⟨b, j, none⟩ = w.cell? ⟨b, j, none⟩ := by
  unfold World.cell?
  simp only [h]
/-- elements that lie in a block of P -/
def IsSlU {α : Type} (k : Nat) (cells : α → List Value) (P : Nat → Prop) (w : World) (a : Option Addr) (L : List α) : Prop :=
  L ≠ [] → ∃ b off, a = some ⟨b, off, none⟩ ∧ P b ∧ ∀ (i : Nat) t, L[i]? = some t → ∀ (j : Nat) u, (cells t)[j]? = some u → w.cell? ⟨b, off + i * k + j, none⟩ = some u
/-- blocks of P lie in w' as in w, and are of P' -/
def KeepPU (P P' : Nat → Prop) (w w' : World) : Prop := ∀ b, P b → w'.heap[b]? = w.heap[b]? ∧ P' b
theorem IsSlU.keep {α : Type} {k : Nat} {cells : α → List Value} {P P' : Nat → Prop} {w w' : World} {a : Option Addr} {L : List α} (h : IsSlU k cells P w a L) (hk : KeepPU P P' w w') : IsSlU k cells P' w' a L := fun hn => by
  obtain ⟨b, off, e, hp, hc⟩ := h hn
  exact ⟨b, off, e, (hk b hp).2, fun i t ht j u hu => by rw [cell_sameU (hk b hp).1]; exact hc i t ht j u hu⟩
theorem IsSlU.sl {α : Type} {k : Nat} {cells : α → List Value} {P : Nat → Prop} {w : World} {a : Option Addr} {L : List α} {B : Nat} (h : IsSlU k cells P w a L) (hP : ∀ b, P b → b < B) : IsSl k cells B w a L := fun hn => by
  obtain ⟨b, off, e, hp, hc⟩ := h hn
  exact ⟨b, off, e, hP b hp, hc⟩
theorem own_slU {α : Type} {k : Nat} {cells : α → List Value} (hk : ∀ a, (cells a).length = k) {w : World} {base n : Nat} {T : TypeId} {v : Value} {L : List α} (h : w.ownsRow base T k v n (L.flatMap cells)) (hn : n = L.length) : ∃ a cap, v = .slice a L.length cap ∧ L.length ≤ cap ∧ cap ≤ maxLen ∧ IsSlU k cells (fun b => v.ownBlock = some b ∧ base ≤ b ∧ b < w.heap.size) w a L ∧ (a = none → L.length = 0 ∧ cap = 0) := by
  subst hn
  rcases h.2 with ⟨rfl, h0⟩ | ⟨g, cap, cur, rfl, hb, hg, hn, hc, _⟩
  · refine ⟨none, 0, by rw [h0], by omega, by decide, fun hne => absurd (List.eq_nil_of_length_eq_zero h0) hne, fun _ => ⟨h0, rfl⟩⟩
  · exact ⟨_, cap, rfl, hn, hc, fun hne => ⟨g, 0, rfl, ⟨rfl, hb, lt_of_heap hg⟩, fun i t ht j u hu => by rw [Nat.zero_add]; exact own_cell hk h ht hu⟩, fun e => by cases e⟩
/-- what is made new: from B on, what is not v's own block -/
abbrev OffU (B : Nat) (w : World) (v : Value) : Nat → Prop := fun b => B ≤ b ∧ b < w.heap.size ∧ v.ownBlock ≠ some b
theorem keep_offU {B : Nat} {w w' : World} {v : Value} {row : Option Nat} (hg : w.grownBy w' row) (hr : ∀ r, row = some r → r < B ∨ v.ownBlock = some r) : KeepPU (OffU B w v) (OffU B w' v) w w' := fun b ⟨h1, h2, h3⟩ =>
  ⟨hg.block b h2 (fun e => by rcases hr b e.symm with h | h; omega; exact h3 h), h1, Nat.lt_of_lt_of_le h2 hg.size, h3⟩
theorem keep_pushU {B : Nat} {w w' : World} {v v' : Value} (hg : w.grownBy w' v.ownBlock) (hv : ∀ g, v'.ownBlock = some g → v.ownBlock = some g ∨ g = w.heap.size) : KeepPU (OffU B w v) (OffU B w' v') w w' := fun b ⟨h1, h2, h3⟩ =>
  ⟨hg.block b h2 (fun e => h3 e.symm), h1, Nat.lt_of_lt_of_le h2 hg.size, fun e => by
    rcases hv b e with h | h
    · exact h3 h
    · omega⟩
theorem grn_blwU {w w' : World} (row : Option Nat) (hb : Below w.heap.size w w') : w.grownBy w' row := ⟨hb.os, hb.tape, hb.output, hb.size, fun k hk _ => hb.block k hk⟩
end Go.Proofs.YtkokdafkjjcgoaaGreatDoor
namespace Go.Proofs.YtkokdafkjjcgoaaGreatDoor
open Go.RowKit

/-- a tree whose nodes lie in blocks of P -/
def TrP (P : Nat → Prop) (w : World) (q : List Nd × Value) : Prop := ∃ a cap, q.2 = .slice a q.1.length cap ∧ SlK 64 a q.1.length cap ∧ IsSlU 6 ndCells P w a q.1 ∧ ∀ x ∈ q.1, NdOk x
theorem TrP.keep {P P' : Nat → Prop} {w w' : World} {q : List Nd × Value} (h : TrP P w q) (hk : KeepPU P P' w w') : TrP P' w' q := by
  obtain ⟨a, cap, e, ho, hs, hv⟩ := h
  exact ⟨a, cap, e, ho, hs.keep hk, hv⟩
theorem TrP.is {P : Nat → Prop} {w : World} {q : List Nd × Value} {B : Nat} (h : TrP P w q) (hP : ∀ b, P b → b < B) : IsTr B w q.2 q.1 := by
  obtain ⟨a, cap, e, ho, hs, hv⟩ := h
  exact ⟨a, cap, e, ho, hs.sl hP, hv⟩
theorem NdRow.trP {w : World} {base : Nat} {v : Value} {T : List Nd} (h : NdRow w base v T) (hz : T.length * 64 ≤ 140737488351232) (hok : ∀ x ∈ T, NdOk x) : TrP (fun b => v.ownBlock = some b ∧ base ≤ b ∧ b < w.heap.size) w (T, v) := by
  obtain ⟨a, cap, e, h1, h2, hs, hn⟩ := own_slU nd_len h rfl
  exact ⟨a, cap, e, ⟨hz, h1, h2, hn⟩, hs, hok⟩
def TrsOwn (B : Nat) (w : World) (v : Value) (Q : List (List Nd × Value)) : Prop := w.ownsRow B 23 1 v Q.length (Q.flatMap trCells) ∧ ∀ q ∈ Q, TrP (OffU B w v) w q
theorem TrsOwn.below {B : Nat} {w w' : World} {v : Value} {Q : List (List Nd × Value)} (h : TrsOwn B w v Q) (hb : Below w.heap.size w w') : TrsOwn B w' v Q :=
  ⟨h.1.belowed hb, fun q hq => (h.2 q hq).keep (keep_offU (grn_blwU none hb) (fun r e => by cases e))⟩
/-- all that lies from B on stays, but for one block -/
theorem TrsOwn.other {B g : Nat} {w w' : World} {v : Value} {Q : List (List Nd × Value)} (h : TrsOwn B w v Q) (hg : w.grownBy w' (some g)) (hlt : g < B) : TrsOwn B w' v Q :=
  ⟨h.1.kept hg (by
    rcases h.1.2 with ⟨rfl, _⟩ | ⟨g', cap, cur, rfl, hb, _⟩
    · exact .inl rfl
    · refine .inr fun e => ?_
      simp only [Value.ownBlock, Option.some.injEq] at e
      omega), fun q hq => (h.2 q hq).keep (keep_offU hg (fun r e => by cases e; exact .inl hlt))⟩
theorem TrsOwn.push {B : Nat} {w w' : World} {v : Value} {i g cap : Nat} {Q : List (List Nd × Value)} {q : List Nd × Value} (h : TrsOwn B w v Q) (hq : TrP (OffU B w v) w q) (hi : Q.length = i)
    (hown : w'.ownsRow B 23 1 (.slice (some ⟨g, 0, none⟩) (i + 1) cap) (i + 1) (Q.flatMap trCells ++ trCells q)) (hg : w.grownBy w' v.ownBlock) (hv : v.ownBlock = some g ∨ g = w.heap.size) : TrsOwn B w' (.slice (some ⟨g, 0, none⟩) (i + 1) cap) (Q ++ [q]) := by
  have hkp : KeepPU (OffU B w v) (OffU B w' (.slice (some ⟨g, 0, none⟩) (i + 1) cap)) w w' := keep_pushU hg (fun g' e => by cases e; exact hv)
  refine ⟨?_, fun x hx => ?_⟩
  · rw [List.length_append, List.flatMap_append, hi]
    simpa using hown
  · rcases List.mem_append.1 hx with hx | hx
    · exact (h.2 x hx).keep hkp
    · rw [List.mem_singleton.1 hx]
      exact hq.keep hkp
theorem TrsOwn.trs {B : Nat} {w : World} {v : Value} {Q : List (List Nd × Value)} (h : TrsOwn B w v Q) (hz : Q.length * 24 ≤ 140737488351232) : IsTrs w.heap.size w v (Q.map Prod.fst) := by
  obtain ⟨a, cap, e, h1, h2, hs, hn⟩ := own_slU tr_len h.1 rfl
  refine ⟨a, cap, Q, by rw [e, List.length_map], ⟨by rw [List.length_map]; exact hz, by rw [List.length_map]; exact h1, h2, by rw [List.length_map]; exact hn⟩, rfl, hs.sl (fun b hb => hb.2.2), fun q hq => (h.2 q hq).is (fun b hb => hb.2.1)⟩
/-- a tree just made lies in no block of an older row -/
theorem trP_new {B base : Nat} {w : World} {v vt : Value} {T : List Nd} (h : TrP (fun b => vt.ownBlock = some b ∧ base ≤ b ∧ b < w.heap.size) w (T, vt)) (hB : B ≤ base) (hv : ∀ b, v.ownBlock = some b → b < base) : TrP (OffU B w v) w (T, vt) := h.keep fun b ⟨_, h2, h3⟩ => ⟨rfl, by omega, h3, fun e => by have := hv b e; omega⟩
end Go.Proofs.YtkokdafkjjcgoaaGreatDoor
namespace Go.Proofs.YtkokdafkjjcgoaaGreatDoor
open Go.RowKit

def NdsOk (t : List Nd) : Prop := ∀ x ∈ t, NdOk x
theorem NdsOk.app {a b : List Nd} (h : NdsOk a) (h' : NdsOk b) : NdsOk (a ++ b) := fun x hx => (List.mem_append.1 hx).elim (h x) (h' x)
theorem NdRow.more {w w' : World} {base n : Nat} {v v' : Value} {O p : List Nd} (_h : NdRow w base v O) (h' : w'.ownsRow base 36 6 v' n (O.flatMap ndCells ++ p.flatMap ndCells)) (hn : n = O.length + p.length) : NdRow w' base v' (O ++ p) := by
  unfold NdRow
  rw [List.flatMap_append, List.length_append, ← hn]
  exact h'
theorem NdRow.opened9 {w : World} {base : Nat} {v : Value} {L : List Nd} (h : NdRow w base v L) : ∃ a cap, v = .slice a L.length cap ∧ IsNds w.heap.size w a L := by
  obtain ⟨a, cap, hv, hN, hn⟩ := own_sl nd_len h rfl
  exact ⟨a, cap, hv, hN⟩
theorem check_ne {t : List Nd} (h : checkN9 t = 0) : t ≠ [] := fun e => by
  subst e
  have : checkN9 [] = 90 := by decide
  omega
def BuildEnd (x : Nd) (l : List (List Nd)) (w : World) (e : Ending) (w' : World) : Prop := (∃ v, e = .returned (.tuple #[v, .int .i64 (buildR x l).2]) ∧ NdRow w' w.heap.size v (buildR x l).1) ∧ Below w.heap.size w w'
theorem buildR_bad {x : Nd} {l : List (List Nd)} {c : Int} (h : joinP [] l = ([], c)) (hc : c ≠ 0) : buildR x l = ([], c) := by unfold buildR; rw [h]; exact if_pos hc
theorem buildR_out {x : Nd} {l : List (List Nd)} {O : List Nd} {c : Int} (h : joinP [] l = (O, 0)) (hc : checkN9 (O ++ [{ x with n := l.length }]) = c) (h0 : c ≠ 0) : buildR x l = ([], c) := by
  unfold buildR
  rw [h, if_neg (by simp)]
  simp only [hc]
  rw [if_pos h0]
theorem buildR_yes {x : Nd} {l : List (List Nd)} {O : List Nd} (h : joinP [] l = (O, 0)) (hc : checkN9 (O ++ [{ x with n := l.length }]) = 0) : buildR x l = (O ++ [{ x with n := l.length }], 0) := by
  unfold buildR
  rw [h, if_neg (by simp)]
  simp only [hc]
  rw [if_neg (by simp)]
theorem buildEnd_no {x : Nd} {l : List (List Nd)} {w w' : World} {c : Int} (h : buildR x l = ([], c)) (hb : Below w.heap.size w w') : BuildEnd x l w (.returned (.tuple #[.slice none 0 0, .int .i64 c])) w' := ⟨⟨_, by rw [h], by rw [h]; exact nd_nil _ _⟩, hb⟩
theorem buildEnd_yes {x : Nd} {l : List (List Nd)} {w w' : World} {v : Value} {O : List Nd} (h : buildR x l = (O, 0)) (hr : NdRow w' w.heap.size v O) (hb : Below w.heap.size w w') : BuildEnd x l w (.returned (.tuple #[v, .int .i64 0])) w' := ⟨⟨_, by rw [h], by rw [h]; exact hr⟩, hb⟩
theorem set_six1 {w : World} {b : Nat} {a0 a1 a2 a3 a4 a5 : Value} {T : TypeId} (h : w.heap[b]? = some (.cells #[a0, a1, a2, a3, a4, a5] T (0, 0))) (v : Value) : (w.setCell ⟨b, 1, none⟩ v).heap[b]? = some (.cells #[a0, v, a2, a3, a4, a5] T (0, 0)) := by
  simp [World.setCell, Array.getElem?_modify, h]

set_option maxRecDepth 100000 in
set_option maxHeartbeats 4000000 in
theorem treeBuild_ok (x : Nd) (v : Value) (L : List (List Nd)) (w : World) (hE : TE w) (hx : NdOk x) (hL : IsTrs w.heap.size w v L) :
    Calls Tryz.prog 23 #[ndV x, v] w (BuildEnd x L w) := by
  obtain ⟨i0, hi, hz0, hz1, hz2⟩ := info_parts infoNd
  have HI0 := Lib.hid (And.intro hi (And.intro hz0 (And.intro hz1 hz2)))
  clear hi hz0 hz1 hz2
  have hll : L.length * 24 ≤ 140737488351232 := by obtain ⟨_, _, _, _, ho, _⟩ := hL; exact ho.1
  have hli : (L.length : Int) ≤ 5864062014634 := by omega
  have HL := Lib.hid hL
  have HE := Lib.hid hE
  have HCk := Lib.hid (fun w1 (hb : Below w.heap.size w w1) a cap t (hI : IsNds w1.heap.size w1 a t) (hk : NdsOk t) (hz : t.length * 64 ≤ 140737488351232) => treeCheck_ok a cap t w1 (hE.below hb) hI hk hz)
  have HX := Lib.hid (show NdsOk [{ x with n := (L.length : Int) }] from fun y hy => by
    rw [List.mem_singleton.1 hy]
    exact ⟨hx.1, show i64In (L.length : Int) from ⟨by omega, by omega⟩, hx.2.2.1, hx.2.2.2⟩)
  obtain ⟨av, cv, hv⟩ := trs_len hL
  clear hE hL hx
  have hv' := hv
  subst hv
  have hx0 := heap_alloc_new w (ndObj x)
  have hb0 := ba1 w (ndObj x)
  obtain ⟨k, n, p, i', s, ty⟩ := x
  simp only [ndV, ndObj] at *
  go_enter Tryz.func23, Tryz.ntmps23
  go_upto_region 1 with fail
  generalize w.alloc _ = w0 at *
  have HX0 := Lib.hid hx0
  have HB0 := Lib.hid hb0
  have hlt0 := lt_of_heap hx0
  clear hx0 hb0
  go_wp2_with fail
  go_loopg [6, 13] L.length (fun g v6 v13 wy => ∃ (i : Nat) (O : List Nd), i ≤ L.length ∧ i + g = L.length ∧ v13 = .int .i64 (i : Int) ∧ O.length ≤ 8192 ∧ Hid (NdRow wy w0.heap.size v6 O) ∧ Hid (joinP [] L = joinP O (L.drop i)) ∧ Hid (NdsOk O) ∧ Hid (Below w0.heap.size w0 wy))
  case atStart => exact ⟨0, [], by omega, by omega, rfl, by simp, Lib.hid (nd_nil _ _), Lib.hid rfl, Lib.hid (fun _ h => by cases h), Lib.hid (Below.refl _ _)⟩
  case round =>
    obtain ⟨i, O, hi, him, rfl, hO, HO, HJ, HK, HB⟩ := hrel
    obtain ⟨ga, gc, hv6, _⟩ := HO.out.opened9
    subst hv6
    have HBw := Lib.hid (HB0.out.trans (HB.out.mono HB0.out.size))
    by_cases hlt : i < L.length
    · obtain ⟨bt, ot, ct, q, hq, hbt, hT, c0⟩ := trs_at HL.out hlt
      simp only [Value.slice.injEq] at hq
      obtain ⟨rfl, _, rfl⟩ := hq
      obtain ⟨at_, cq, rfl, hk, hI, hok⟩ := hT
      have hz := hk.1
      rw [← HBw.out.cell hbt] at c0
      have HIr := Lib.hid ((hI.below HBw.out (Nat.le_refl _)).mono HBw.out.size)
      have HC := Lib.hid (HCk.out wr HBw.out at_ cq L[i] HIr.out hok hz)
      have HNx := Lib.hid (List.drop_eq_getElem_cons hlt)
      have HOk := Lib.hid hok
      generalize L[i] = t at *
      clear hI hok hk
      by_cases h0 : checkN9 t = 0
      · have hne := check_ne h0
        have htl := checkN9_le h0
        rw [h0] at HC
        obtain ⟨ad, hat⟩ : ∃ ad, at_ = some ad := by
          obtain ⟨b, off, e, _⟩ := HIr.out hne
          exact ⟨_, e⟩
        subst hat
        have H0 := Lib.hid h0
        clear h0 hne
        by_cases hfull : O.length ≤ 4096
        · have t2 : decide ((O.length : Int) ≤ 4096) = true := decide_eq_true (by omega)
          have hJ := Lib.hid (by rw [HJ.out, HNx.out, joinP_more H0.out hfull] : joinP [] L = joinP (O ++ t) (L.drop (i + 1)))
          have HK' := Lib.hid (HK.out.app HOk.out)
          go_wp2_with (first
            | (go_at_call 10; (with_reducible refine HC.out.mono ?_); rintro e w2 ⟨rfl, hb2⟩; have HB2 := Lib.hid (HB.out.trans (hb2.mono HB.out.size)); have HI2 := Lib.hid (HIr.out.below hb2 (Nat.le_refl _)); have HO2 := Lib.hid (show NdRow w2 w0.heap.size _ O from HO.out.belowed hb2); clear hb2)
            | (at_builtin; go_loud (refine wpList_append_own _ rfl _ _ _ rfl w0.heap.size 36 i0 _ 6 64 Tryz.underlying23 HI0.out.1 HI0.out.2.1 HI0.out.2.2.1 HI0.out.2.2.2 rfl (by decide) _ O.length (O.flatMap ndCells) rfl HO2.out ad t.length cq (t.flatMap ndCells) rfl (flat_len nd_len t) (sl_news nd_len HI2.out) (nd_one t) (by unfold maxLen; omega) (by omega) HB2.out.size ?_); intro v3 w3 hown hgrow _; have HO3 := Lib.hid (HO2.out.more hown rfl); have HB3 := Lib.hid (HB2.out.grown hgrow HB2.out.size (fun k hk => (World.ownsRow.lt HO2.out k hk).1)); clear hown hgrow))
          go_roundg (L.length - (i + 1))
          case measure => omega
          case rel => exact ⟨i + 1, O ++ t, by omega, by omega, by rw [Int.natCast_add]; rfl, by rw [List.length_append]; omega, HO3, hJ, HK', HB3⟩
        · have t2 : decide ((O.length : Int) ≤ 4096) = false := decide_eq_false (by omega)
          have hJ := Lib.hid (by rw [HJ.out, HNx.out, joinP_full H0.out hfull] : joinP [] L = joinP O (L.drop (i + 1)))
          go_wp2_with (go_at_call 10; (with_reducible refine HC.out.mono ?_); rintro e w2 ⟨rfl, hb2⟩; have HB2 := Lib.hid (HB.out.trans (hb2.mono HB.out.size)); have HI2 := Lib.hid (HIr.out.below hb2 (Nat.le_refl _)); have HO2 := Lib.hid (show NdRow w2 w0.heap.size _ O from HO.out.belowed hb2); clear hb2)
          go_roundg (L.length - (i + 1))
          case measure => omega
          case rel => exact ⟨i + 1, O, by omega, by omega, by rw [Int.natCast_add]; rfl, hO, HO2, hJ, HK, HB2⟩
      · have hv := Lib.hid (buildR_bad (x := ⟨k, n, p, i', s, ty⟩) (by rw [HJ.out, HNx.out, joinP_bad h0]) h0)
        have t3 : (checkN9 t != 0) = true := by simpa using h0
        clear h0
        generalize checkN9 t = c at *
        go_wp2_with (go_at_call 10; (with_reducible refine HC.out.mono ?_); rintro e w2 ⟨rfl, hb2⟩; have HB2 := Lib.hid (HBw.out.trans (hb2.mono HBw.out.size)); clear hb2)
        go_ret2
        exact buildEnd_no hv.out HB2.out
    · obtain rfl : i = L.length := by omega
      have hJ := Lib.hid (show joinP [] L = (O, 0) by rw [HJ.out, List.drop_length]; rfl)
      have hx1 := (HB.out.block _ hlt0).trans HX0.out
      obtain ⟨⟨n0, n1, n2, n3, n4, n5⟩, f1⟩ := six_block hx1
      have f11 := f1 1
      have hb5 := HB0.out.trans (HB.out.mono HB0.out.size)
      have hx5 := set_six1 hx1 (.int .i64 (L.length : Int))
      have hO5 := row_set9 HO.out ⟨w.heap.size, 1, none⟩ (.int .i64 (L.length : Int)) (fun e => Nat.not_le.2 hlt0 (World.ownsRow.lt HO.out w.heap.size e).1)
      have hb5' := hb5.setCell (p := ⟨w.heap.size, 1, none⟩) (Nat.le_refl _) (.int .i64 (L.length : Int))
      clear f1 hx1 hb5
      go_upto_region 12 with fail
      have hs5 : w0.heap.size ≤ (wr.setCell ⟨w.heap.size, 1, none⟩ (.int .i64 (L.length : Int))).heap.size := by simpa using HB.out.size
      generalize wr.setCell _ _ = w5 at *
      obtain ⟨⟨m0, m1, m2, m3, m4, m5⟩, _⟩ := six_block hx5
      have hlt5 := lt_of_heap hx5
      have hcn : ∀ (q : Nat) u, (ndCells ⟨k, L.length, p, i', s, ty⟩)[q]? = some u → (w5.alloc (ndObj ⟨k, L.length, p, i', s, ty⟩)).cell? ((⟨w5.heap.size, 0, none⟩ : Addr).add q) = some u := fun q u hu => by
        obtain ⟨⟨a0, a1, a2, a3, a4, a5⟩, _⟩ := six_block (heap_alloc_new w5 (ndObj ⟨k, L.length, p, i', s, ty⟩))
        rw [addN, Nat.zero_add]
        match q, hu with
        | 0, hu => obtain rfl := Option.some.inj hu; exact a0
        | 1, hu => obtain rfl := Option.some.inj hu; exact a1
        | 2, hu => obtain rfl := Option.some.inj hu; exact a2
        | 3, hu => obtain rfl := Option.some.inj hu; exact a3
        | 4, hu => obtain rfl := Option.some.inj hu; exact a4
        | 5, hu => obtain rfl := Option.some.inj hu; exact a5
      have hO6 := World.ownsRow.belowed hO5 (ba1 w5 (ndObj ⟨k, L.length, p, i', s, ty⟩))
      have hb6 := hb5'.alloc hb5'.size (ndObj ⟨k, L.length, p, i', s, ty⟩)
      have hone := nd_one [(⟨k, L.length, p, i', s, ty⟩ : Nd)]
      rw [List.flatMap_cons, List.flatMap_nil, List.append_nil] at hone
      simp only [ndObj, ndCells] at hcn hO6 hb6 hone
      have hs6 := Nat.le_trans hs5 (ba1 w5 (ndObj ⟨k, L.length, p, i', s, ty⟩)).size
      simp only [ndObj] at hs6
      have hl7 : (O ++ [(⟨k, L.length, p, i', s, ty⟩ : Nd)]).length * 64 ≤ 140737488351232 := by rw [List.length_append, List.length_singleton]; omega
      have HHs := Lib.hid HB0.out.size
      go_upto_region 13 with (at_builtin; go_loud (refine wpList_append_own _ rfl _ _ _ rfl w0.heap.size 36 i0 _ 6 64 Tryz.underlying23 HI0.out.1 HI0.out.2.1 HI0.out.2.2.1 HI0.out.2.2.2 rfl (by decide) _ O.length (O.flatMap ndCells) rfl hO6 ⟨w5.heap.size, 0, none⟩ 1 1 [.int .i64 k, .int .i64 L.length, .int .i64 p, .int .i64 i', .string s, .string ty] rfl rfl hcn hone (by unfold maxLen; omega) (by omega) hs6 ?_); intro v7 w7 hown hgrow _; have hb7 := hb6.grown hgrow hb6.size (fun k hk => Nat.le_trans HB0.out.size (World.ownsRow.lt hO6 k hk).1); have HO7 := Lib.hid (show NdRow w7 w0.heap.size v7 (O ++ [⟨k, L.length, p, i', s, ty⟩]) from HO.out.more hown rfl); have HB7 := Lib.hid hb7; clear hown hgrow hb7; obtain ⟨a7, c7, hv7, hI7⟩ := HO7.out.opened9; have hc7 := HCk.out w7 HB7.out a7 c7 _ hI7 (HK.out.app HX.out) hl7; simp only [List.length_append, List.length_singleton] at hv7 hc7; subst hv7; have HC := Lib.hid hc7; clear hI7 hc7)
      clear m0 m1 m2 m3 m4 m5 n0 n1 n2 n3 n4 n5 hcn hO6 hb6 hone hs6 hs5 hx5 hb5' hO5 f11
      by_cases h0 : checkN9 (O ++ [⟨k, L.length, p, i', s, ty⟩]) = 0
      · have hv := Lib.hid (buildR_yes (x := ⟨k, n, p, i', s, ty⟩) hJ.out h0)
        rw [h0] at HC
        clear h0
        go_wp2_with (go_at_call 10; (with_reducible refine HC.out.mono ?_); rintro e w8 ⟨rfl, hb8⟩; have HB8 := Lib.hid (HB7.out.trans (hb8.mono HB7.out.size)); have HO8 := Lib.hid (show NdRow w8 w0.heap.size _ _ from HO7.out.belowed hb8); clear hb8)
        go_ret2
        exact buildEnd_yes hv.out (own_le9 HO8.out HHs.out) HB8.out
      · have hv := Lib.hid (buildR_out (x := ⟨k, n, p, i', s, ty⟩) hJ.out rfl h0)
        have t3 : (checkN9 (O ++ [⟨k, L.length, p, i', s, ty⟩]) != 0) = true := by simpa using h0
        simp only at hv
        clear h0
        generalize checkN9 (O ++ [⟨k, L.length, p, i', s, ty⟩]) = c at *
        go_wp2_with (go_at_call 10; (with_reducible refine HC.out.mono ?_); rintro e w8 ⟨rfl, hb8⟩; have HB8 := Lib.hid (HB7.out.trans (hb8.mono HB7.out.size)); clear hb8)
        go_ret2
        exact buildEnd_no hv.out HB8.out
end Go.Proofs.YtkokdafkjjcgoaaGreatDoor
namespace Go.Proofs.YtkokdafkjjcgoaaGreatDoor
open Go.RowKit Go.Shelf

attribute [local go_sem] Oper.semAt_some

/-- numbers in the world -/
abbrev IsInts (B : Nat) (w : World) (a : Option Addr) (L : List Int) : Prop := IsSl 1 (fun n => [Value.int .i64 n]) B w a L
end Go.Proofs.YtkokdafkjjcgoaaGreatDoor
namespace Go.Proofs.YtkokdafkjjcgoaaGreatDoor
open Go.RowKit

theorem ints_at {B : Nat} {w : World} {a : Option Addr} {L : List Int} (h : IsInts B w a L) {i : Nat} (hi : i < L.length) : ∃ b off, a = some ⟨b, off, none⟩ ∧ b < B ∧ w.cell? ⟨b, off + i, none⟩ = some (.int .i64 L[i]) := by
  obtain ⟨b, off, e, hlt, hc⟩ := h (fun e => by rw [e] at hi; simp at hi)
  have := hc i _ (List.getElem?_eq_getElem hi) 0 _ rfl
  rw [Nat.mul_one, Nat.add_zero] at this
  exact ⟨b, off, e, hlt, this⟩
set_option maxHeartbeats 4000000 in
theorem has_ok (a : Option Addr) (ca : Nat) (L : List Int) (x : Int) (w : World) (hA : IsInts w.heap.size w a L) (hl : (L.length : Int) ≤ 140737488355328) :
    Calls Tryz.prog 30 #[.slice a L.length ca, .int .i64 x] w fun e w' => e = .returned (.bool (L.contains x)) ∧ w = w' := by
  have HA := Lib.hid hA
  obtain ⟨r, hr⟩ : ∃ r, r = L.contains x := ⟨_, rfl⟩
  rw [← hr]
  have HR := Lib.hid hr
  clear hA hr
  go_enter Tryz.func30, Tryz.ntmps30
  go_wp2_with fail
  go_loop [5] (fun v5 => ∃ i : Nat, i ≤ L.length ∧ v5 = .int .i64 (i : Int) ∧ Hid (∀ j (hj : j < L.length), j < i → L[j] ≠ x)) (fun v5 => L.length - (intOf v5).toNat)
  case atStart => exact ⟨0, by omega, rfl, Lib.hid (fun j _ h => by omega)⟩
  case round =>
    obtain ⟨i, hi, rfl, HY⟩ := hrel
    by_cases hlt : i < L.length
    · obtain ⟨b1, o1, ha, hb1, c1⟩ := ints_at HA.out hlt
      subst ha
      rcases hx : (L[i] == x) with _ | _
      · have HY2 := Lib.hid (show ∀ j (hj : j < L.length), j < i + 1 → L[j] ≠ x from fun j hj hji => by
          rcases Nat.lt_or_ge j i with h' | h'
          · exact HY.out j hj h'
          · obtain rfl : j = i := by omega
            exact beq_eq_false_iff_ne.1 hx)
        clear HY
        generalize L[i] = q at *
        go_wp2_with fail
        go_round
        case rel => exact ⟨i + 1, by omega, by go_num, HY2⟩
        case measure => simp [intOf]; omega
      · have hv := Lib.hid (show r = true by rw [HR.out, List.contains_iff_mem]; rw [← beq_iff_eq.1 hx]; exact List.getElem_mem hlt)
        clear HY
        generalize L[i] = q at *
        go_wp2_with fail
        go_ret
        exact ⟨by rw [hv.out]; rfl, rfl⟩
    · obtain rfl : i = L.length := by omega
      have hv := Lib.hid (show r = false by
        rw [HR.out, ← Bool.not_eq_true, List.contains_iff_mem]
        intro hm
        obtain ⟨j, hj, e⟩ := List.getElem_of_mem hm
        exact HY.out j hj hj e)
      clear HY
      go_wp2_with fail
      go_ret
      exact ⟨by rw [hv.out]; rfl, rfl⟩
end Go.Proofs.YtkokdafkjjcgoaaGreatDoor
namespace Go.Proofs.YtkokdafkjjcgoaaGreatDoor
open Go.RowKit Go.Shelf

attribute [local go_sem] Oper.semAt_some

theorem NdRow.blk {w : World} {base n c : Nat} {a : Option Addr} {L : List Nd} (h : NdRow w base (.slice a n c) L) (hn : L ≠ []) : ∃ g, a = some ⟨g, 0, none⟩ ∧ base ≤ g ∧ g < w.heap.size := by
  rcases h.2 with ⟨_, h0⟩ | ⟨g, cap, cur, e, hb, hg, _⟩
  · exact absurd (List.eq_nil_of_length_eq_zero h0) hn
  · simp only [Value.slice.injEq] at e
    exact ⟨g, e.1, hb, lt_of_heap hg⟩
end Go.Proofs.YtkokdafkjjcgoaaGreatDoor
