/- What is read may be laid; laid, it is read again: plainly, no program here. · What an argument that is a slice of tokens reads as, opened. · The walk of LexBack. (Printed by wip/tools/gen-back.py.) · Words on a paper: in memory. What is kept while words are put. · What a tree is laid out as: the tokens of an expression, of a statement. Plain: nothing of the program. -/
import Derived.Test.YtkokdafkjjcgoaaGreatDoorMg23
import Derived.Lib.Join
import Derived.Test.YtkokdafkjjcgoaaGreatDoorMg3
import Derived.Deep.Slices
import Derived.ProofKit
import Derived.OpenShut
import Derived.Test.YtkokdafkjjcgoaaGreatDoorMg10
import Derived.Test.YtkokdafkjjcgoaaGreatDoorMg20
import Derived.Test.YtkokdafkjjcgoaaGreatDoorMg14
import Derived.Test.YtkokdafkjjcgoaaGreatDoorMg4
namespace Go.Proofs.YtkokdafkjjcgoaaGreatDoor
open Go.RowKit

theorem one_good {L : List UInt8} {t : Tok} {n : Nat} (h : oneL L = .good t n) : (t.kind = 4 ∧ t.num = 0 ∧ L.head?.any (fun c => decide (c.toNat = 34)) = true) ∨ (goodB t = true ∧ isStr t = false ∧ L.head?.any (fun c => decide (c.toNat = 34)) = false) := by
  match L, h with
  | [], h => cases h
  | c :: l, h =>
    rw [oneL] at h
    by_cases h1 : letB c = true
    · rw [if_pos h1] at h
      have hh : ((c :: l).head?.any fun c => decide (c.toNat = 34)) = false := by simpa using (let_word (.inl h1)).2.1
      unfold wordE at h
      split at h
      · rename_i hk
        have e := (OEnd.good.inj h).1
        subst e
        exact .inr ⟨by simp [goodB, hk], rfl, hh⟩
      · rename_i hk
        split at h
        · cases h
        · rename_i h31
          have e := (OEnd.good.inj h).1
          subst e
          have hwp : 0 < wlen (c :: l) := wlen_pos (by simp [wordB, h1])
          have hwl := wlen_le (c :: l)
          have hlen : ((c :: l).take (wlen (c :: l))).length = wlen (c :: l) := by rw [List.length_take]; omega
          have hs : (strOf ((c :: l).take (wlen (c :: l)))).size = wlen (c :: l) := hlen
          have hall : wlen ((c :: l).take (wlen (c :: l))) = wlen (c :: l) := wlen_take _ _ (Nat.le_refl _)
          refine .inr ⟨?_, rfl, hh⟩
          simp only [goodB]
          have hhead : (strOf ((c :: l).take (wlen (c :: l)))).data.toList.head?.any letB = true := by
            show ((c :: l).take (wlen (c :: l))).head?.any letB = true
            obtain ⟨m, hm⟩ : ∃ m, wlen (c :: l) = m + 1 := ⟨wlen (c :: l) - 1, by omega⟩
            rw [hm, List.take_succ_cons]
            simpa using h1
          have hw2 : wlen (strOf ((c :: l).take (wlen (c :: l)))).data.toList = (strOf ((c :: l).take (wlen (c :: l)))).size := by rw [hs]; exact hall
          have hk' : isKeyB (strOf ((c :: l).take (wlen (c :: l)))) = false := by simpa using hk
          have : isNameB (strOf ((c :: l).take (wlen (c :: l)))) = true := by
            unfold isNameB
            rw [hhead, hw2, hk', hs]
            simp; omega
          simp [this]
    · rw [if_neg h1] at h
      by_cases h2 : digB c = true
      · rw [if_pos h2] at h
        have hh : ((c :: l).head?.any fun c => decide (c.toNat = 34)) = false := by simpa using (let_word (.inr h2)).2.1
        unfold numE at h
        split at h
        · cases h
        · rename_i m u hm
          have e := (OEnd.good.inj h).1
          subst e
          refine .inr ⟨?_, rfl, hh⟩
          unfold numW at hm
          split at hm
          · cases hm
          · rename_i n' _
            split at hm
            · rename_i hlt
              simp only [Option.some.injEq, Prod.mk.injEq] at hm
              obtain ⟨rfl, hu⟩ := hm
              simp only [goodB, goodNum, if_true]
              cases u with
              | true => simp; omega
              | false =>
                have he : ¬ ((⟨#[]⟩ : ByteArray) = uText) := by decide
                have hu2 : ¬ 2147483648 ≤ n' := by
                  intro e
                  simp [e] at hu
                simp only [Bool.false_eq_true, if_false]
                rw [if_neg he]
                have e0 : (⟨#[]⟩ : ByteArray) = ByteArray.empty := rfl
                rw [e0]
                simp; omega
            · cases hm
      · rw [if_neg h2] at h
        by_cases h3 : c.toNat = 39
        · rw [if_pos h3] at h
          obtain ⟨b, j, _, _, rfl⟩ := charE_good h
          refine .inr ⟨?_, rfl, by simp [h3]⟩
          have hb := b.toNat_lt
          have hs : -128 ≤ sgn b ∧ sgn b < 2147483648 := by unfold sgn; split <;> omega
          have he : ¬ ((⟨#[]⟩ : ByteArray) = uText) := by decide
          simp only [goodB, goodNum, if_true]
          rw [if_neg he]
          have e0 : (⟨#[]⟩ : ByteArray) = ByteArray.empty := rfl
          rw [e0]
          simp [hs]
        · rw [if_neg h3] at h
          by_cases h4 : c.toNat = 34
          · rw [if_pos h4] at h
            obtain ⟨q, j, _, _, rfl⟩ := strE_good h
            exact .inl ⟨rfl, rfl, by simp [h4]⟩
          · rw [if_neg h4] at h
            unfold markE at h
            split at h
            · cases h
            · rename_i m hm
              have e := (OEnd.good.inj h).1
              subst e
              refine .inr ⟨?_, rfl, by simp [h4]⟩
              have : Lib.containsS markT m = true := (Lib.containsS_iff _ _).2 (List.mem_of_find?_eq_some hm)
              simp [goodB, this]

theorem noAdj_snoc : ∀ {l : List Tok} {t : Tok}, NoAdj l → (∀ a, l.getLast? = some a → ¬ (isStr a = true ∧ isStr t = true)) → NoAdj (l ++ [t])
  | [], _, _, _ => trivial
  | [x], t, _, h => ⟨h x rfl, trivial⟩
  | x :: y :: l, t, hn, h => ⟨hn.1, noAdj_snoc (l := y :: l) hn.2 (fun a ha => h a (by simpa using ha))⟩
/-- what is read may be laid, and has no two texts in a row -/
theorem tokL_okay : ∀ k M out L, tokL k M out = .good L → (∀ t ∈ out, goodB t = true) → NoAdj out → (∀ t ∈ L, goodB t = true) ∧ NoAdj L := by
  have key := tokL_ind (P := fun _ _ out e => ∀ L, e = .good L → (∀ t ∈ out, goodB t = true) → NoAdj out → (∀ t ∈ L, goodB t = true) ∧ NoAdj L) ?_ ?_
  · exact fun k M out L h => key k M out L h
  · intro k M out e h L he hg hn
    subst he
    obtain ⟨_, _, _, rfl⟩ := step_good h
    exact ⟨hg, hn⟩
  · intro k M out n out' h ih L he hg hn
    obtain ⟨b, t', j, _, _, _, ho, _, hp, hs⟩ := step_more h
    have h1 := one_good ho
    refine ih L he ?_ ?_
    · intro t ht
      rcases hj : joins (M.drop b) out with _ | _
      · rw [put_new hj] at hp
        rw [hp] at ht hs
        rcases List.mem_append.1 ht with e | e
        · exact hg t e
        · obtain rfl := List.mem_singleton.1 e
          rcases h1 with ⟨k4, k0, _⟩ | ⟨k1, _, _⟩
          · have := hs _ List.getLast?_concat
            simp only at this
            simp [goodB, k4, k0, this]
          · exact k1
      · obtain ⟨q, t0, rfl⟩ := snoc_of (joins_ne hj)
        rw [put_joins hj, glue_snoc] at hp
        rw [hp] at ht hs
        rw [joins_snoc] at hj
        rcases List.mem_append.1 ht with e | e
        · exact hg t (by simp [e])
        · obtain rfl := List.mem_singleton.1 e
          have g0 := hg t0 (by simp)
          have k4 : t0.kind = 4 := by simp [isStr] at hj; exact hj.2
          have k0 : t0.num = 0 := by
            simp only [goodB, k4] at g0
            simp at g0
            exact g0.1
          have := hs _ List.getLast?_concat
          simp only [ByteArray.size_append] at this
          simp [goodB, k4, k0, this]
    · rcases hj : joins (M.drop b) out with _ | _
      · rw [put_new hj] at hp
        rw [hp]
        refine noAdj_snoc hn fun a ha ⟨e1, e2⟩ => ?_
        have e3 : isStr t' = true := e2
        rcases h1 with ⟨_, _, k3⟩ | ⟨_, k2, _⟩
        · rw [joins, k3, ha] at hj
          simp [e1] at hj
        · rw [k2] at e3; cases e3
      · obtain ⟨q, t0, rfl⟩ := snoc_of (joins_ne hj)
        rw [put_joins hj, glue_snoc] at hp
        rw [hp]
        exact noAdj_kind (l := q ++ [t0]) (by simp [isStr]) hn

end Go.Proofs.YtkokdafkjjcgoaaGreatDoor
namespace Go.Proofs.YtkokdafkjjcgoaaGreatDoor
open Go.ChangeShapes Go.WideShapes Go.ChangeAt Go.RowKit Go.Deep

section
variable {H : Type} {enc : TypeId × Value → H} {w : World} {base : Nat} {spare : Nat → Bool} {held : Bool}

def Tok.data (t : Tok) : DataW H := .agg [.lit (.int .i64 t.kind), .lit (.int .i64 t.place), .lit (.int .i64 t.num), .lit (.string t.text.data.toList)]
end
end Go.Proofs.YtkokdafkjjcgoaaGreatDoor
namespace Go.Proofs.YtkokdafkjjcgoaaGreatDoor
open Go.RowKit

theorem good_tok {t : Tok} (h : goodB t = true) : TokOk t := by
  have hs := good_size h
  refine ⟨?_, ?_, by omega⟩
  all_goals
    unfold goodB goodNum at h
    split at h
    · split at h
      · rw [decide_eq_true_eq] at h; omega
      · rw [Bool.and_eq_true, decide_eq_true_eq, decide_eq_true_eq] at h; omega
    · split at h
      · cases h
      · rename_i h0; have : t.num = 0 := by simpa using h0
        omega
theorem lay_good {L : List Tok} (h : ∀ t ∈ L, goodB t = true) : allGood L = true := by unfold allGood; rw [List.all_eq_true]; exact h
end Go.Proofs.YtkokdafkjjcgoaaGreatDoor
namespace Go.Proofs.YtkokdafkjjcgoaaGreatDoor
open Go.RowKit

theorem one_blockP {w : World} {b : Nat} {v : Value} {T : TypeId} (h : w.heap[b]? = some (.cells #[v] T (0, 0))) : w.cell? ⟨b, 0, none⟩ = some v ∧ ∀ j, w.frozen? ⟨b, j, none⟩ = false := by
  refine ⟨?_, fun j => ?_⟩ <;> simp [World.cell?, World.frozen?, h]
/-- what is kept while words are put: all below the paper, and of what lies above it all cells but the paper's row -/
structure KeepP (bn : Nat) (W W' : World) : Prop extends KeepR bn W W' where
  low : ∀ k, k < bn → W'.heap[k]? = W.heap[k]?
theorem KeepP.refl (bn : Nat) (W : World) : KeepP bn W W := ⟨.refl _ _, fun _ _ => rfl⟩
theorem KeepP.trans {bn : Nat} {A B C : World} (h : KeepP bn A B) (k : KeepP bn B C) : KeepP bn A C := ⟨h.toKeepR.trans k.toKeepR, fun i hi => (k.low i hi).trans (h.low i hi)⟩
theorem KeepP.of_below {bn : Nat} {W W' : World} (h : Below W.heap.size W W') (hbn : bn < W.heap.size) : KeepP bn W W' := ⟨.of_below h hbn, fun k hk => h.block k (Nat.lt_trans hk hbn)⟩
theorem KeepP.below {bn : Nat} {W W' : World} (h : KeepP bn W W') : Below bn W W' := ⟨h.os, h.tape, h.output, h.size, h.low⟩
/-- words on the paper pb -/
structure PapAt (pb : Nat) (W : List ByteArray) (w : World) : Prop where
  box : ∃ v, w.heap[pb]? = some (.cells #[v] 99 (0, 0)) ∧ w.ownsRow (pb + 1) 9 1 v W.length (W.map Value.string)
theorem PapAt.lt {pb : Nat} {W : List ByteArray} {w : World} (h : PapAt pb W w) : pb < w.heap.size := by
  obtain ⟨v, hb, _⟩ := h.box
  exact lt_of_heap hb
theorem PapAt.rowOk {pb : Nat} {W : List ByteArray} {w : World} (h : PapAt pb W w) : RowOk pb w := by
  obtain ⟨v, hb, ho⟩ := h.box
  have hc := (one_blockP hb).1
  refine ⟨by rw [hc]; rfl, fun g e => ?_⟩
  unfold rowB at e
  rw [hc] at e
  have := ho.lt g e
  omega
theorem PapAt.below {pb : Nat} {W : List ByteArray} {w w' : World} (h : PapAt pb W w) (hb : Below w.heap.size w w') : PapAt pb W w' := by
  obtain ⟨v, h1, h2⟩ := h.box
  exact ⟨v, (hb.block pb (lt_of_heap h1)).trans h1, h2.belowed hb⟩
/-- a block that no word put touches -/
structure SafeB (pb : Nat) (w : World) (b : Nat) : Prop where
  lt : b < w.heap.size
  ne : b ≠ pb
  row : rowB pb w ≠ some b
theorem SafeB.kept {pb b : Nat} {w w' : World} (h : SafeB pb w b) (hr : RowOk pb w) (hk : KeepP pb w w') : SafeB pb w' b :=
  ⟨Nat.lt_of_lt_of_le h.lt hk.size, h.ne, fun e => by
    rcases (hk.rest hr).2.2 b e with e | e
    · exact h.row e
    · have := h.lt; omega⟩
theorem SafeB.low {pb b : Nat} {w : World} (hr : RowOk pb w) (hp : pb < w.heap.size) (hb : b < pb) : SafeB pb w b := ⟨by omega, by omega, fun e => by have := (hr.2 _ e).1; omega⟩
theorem SafeB.cell {pb : Nat} {w w' : World} {p : Addr} {v : Value} (h : SafeB pb w p.block) (hr : RowOk pb w) (hk : KeepP pb w w') (hc : w.cell? p = some v) : w'.cell? p = some v := hk.cell hr h.ne h.row hc
theorem SafeB.obj {pb b : Nat} {w w' : World} {cs : Array Value} {T : TypeId} {fz : Nat × Nat} (h : SafeB pb w b) (hr : RowOk pb w) (hk : KeepP pb w w') (ho : w.heap[b]? = some (.cells cs T fz)) : w'.heap[b]? = some (.cells cs T fz) := (hk.rest hr).2.1 b _ h.ne h.row ho rfl
theorem SafeB.new {pb b : Nat} {w w' : World} (hr : RowOk pb w) (hp : pb < w.heap.size) (hb : Below w.heap.size w w') (h1 : w.heap.size ≤ b) (h2 : b < w'.heap.size) : SafeB pb w' b := ⟨h2, by omega, fun e => by rw [rowB_below hb hp] at e; have := (hr.2 _ e).2; omega⟩
/-- a slice whose elements no word put touches -/
structure SlS {α : Type} (k : Nat) (cells : α → List Value) (pb : Nat) (w : World) (a : Option Addr) (L : List α) : Prop where
  sl : IsSl k cells w.heap.size w a L
  safe : L ≠ [] → ∀ b off, a = some ⟨b, off, none⟩ → SafeB pb w b
theorem SlS.kept {α : Type} {k pb : Nat} {cells : α → List Value} {w w' : World} {a : Option Addr} {L : List α} (h : SlS k cells pb w a L) (hr : RowOk pb w) (hk : KeepP pb w w') : SlS k cells pb w' a L := by
  refine ⟨fun hn => ?_, fun hn b off e => (h.safe hn b off e).kept hr hk⟩
  obtain ⟨b, off, ha, hlt, hc⟩ := h.sl hn
  have hs := h.safe hn b off ha
  exact ⟨b, off, ha, Nat.lt_of_lt_of_le hlt hk.size, fun i x hx j u hu => hs.cell (p := ⟨b, _, none⟩) hr hk (hc i x hx j u hu)⟩
theorem SlS.low {α : Type} {k pb : Nat} {cells : α → List Value} {w : World} {a : Option Addr} {L : List α} (hr : RowOk pb w) (hp : pb < w.heap.size) (h : IsSl k cells pb w a L) : SlS k cells pb w a L := by
  refine ⟨h.mono (Nat.le_of_lt hp), fun hn b off e => ?_⟩
  obtain ⟨b', off', ha, hlt, _⟩ := h hn
  rw [ha] at e
  simp only [Option.some.injEq, Addr.mk.injEq] at e
  obtain ⟨rfl, _, _⟩ := e
  exact .low hr hp hlt
theorem SlS.new {α : Type} {k pb : Nat} {cells : α → List Value} {w w' : World} {a : Option Addr} {L : List α} (hr : RowOk pb w) (hp : pb < w.heap.size) (hb : Below w.heap.size w w') (h : IsSl k cells w'.heap.size w' a L) (hf : L ≠ [] → ∀ b off, a = some ⟨b, off, none⟩ → w.heap.size ≤ b) : SlS k cells pb w' a L := by
  refine ⟨h, fun hn b off e => ?_⟩
  obtain ⟨b', off', ha, hlt, _⟩ := h hn
  have h1 := hf hn b off e
  rw [ha] at e
  simp only [Option.some.injEq, Addr.mk.injEq] at e
  obtain ⟨rfl, _, _⟩ := e
  exact .new hr hp hb h1 hlt
/-- the tables, below a paper -/
structure EnvB (pb : Nat) (w : World) : Prop where
  env : Env w
  pow : PowAt w
  lts : 1 < pb ∧ 0 < pb ∧ 4 < pb ∧ 5 < pb ∧ 2 < pb ∧ 3 < pb
theorem EnvB.kept {pb : Nat} {w w' : World} (h : EnvB pb w) (hp : pb < w.heap.size) (hr : RowOk pb w) (hk : KeepP pb w w') : EnvB pb w' := by
  have low : ∀ b, b < pb → SafeB pb w b := fun b hb => .low hr hp hb
  obtain ⟨g1, g2, g3, g4, g5, g6⟩ := h.lts
  have c : ∀ (p : Addr) (v : Value), p.block < pb → w.cell? p = some v → w'.cell? p = some v := fun p v h1 h2 => (low _ h1).cell hr hk h2
  refine ⟨⟨fun j hj => c _ _ g1 (h.env.keys j hj), fun j hj => c _ _ g2 (h.env.marks j hj), ?_, ?_⟩, ?_, h.lts⟩
  · obtain ⟨⟨x, x1, x2⟩, y, y1, y2⟩ := h.env.errs
    exact ⟨⟨x, c _ _ g3 x1, x2⟩, y, c _ _ g4 y1, y2⟩
  · obtain ⟨m, hm⟩ := h.env.maxl
    exact ⟨m, c _ _ g5 hm⟩
  · have hv := h.pow
    unfold PowAt Lib.TabIs World.var? at hv ⊢
    simp only [powG, Option.bind_some] at hv ⊢
    cases ho : w.heap[3]? with
    | none => rw [ho] at hv; cases hv
    | some o =>
      rw [ho] at hv
      cases o with
      | cells cs T fz =>
        rw [(low _ g6).obj hr hk ho]
        exact hv
      | _ => cases hv
theorem set_blkP {w : World} {b i : Nat} {c : Array Value} {T : TypeId} (h : w.heap[b]? = some (.cells c T (0, 0))) (v : Value) : (w.setCell ⟨b, i, none⟩ v).heap[b]? = some (.cells (c.setIfInBounds i v) T (0, 0)) := by
  simp [World.setCell, Array.getElem?_modify, h]
/-- words are put: the row has grown, the paper holds it -/
theorem pap_put {pb g cap : Nat} {W L : List ByteArray} {w w1 : World} {v : Value} (h : w.heap[pb]? = some (.cells #[v] 99 (0, 0))) (ho : w.ownsRow (pb + 1) 9 1 v W.length (W.map Value.string)) (hg : w.grownBy w1 v.ownBlock)
    (hown : w1.ownsRow (pb + 1) 9 1 (.slice (some ⟨g, 0, none⟩) (W.length + L.length) cap) (W.length + L.length) (W.map Value.string ++ L.map Value.string)) (hat : v.ownBlock = some g ∨ g = w.heap.size) :
    PapAt pb (W ++ L) (w1.setCell ⟨pb, 0, none⟩ (.slice (some ⟨g, 0, none⟩) (W.length + L.length) cap)) ∧ KeepP pb w (w1.setCell ⟨pb, 0, none⟩ (.slice (some ⟨g, 0, none⟩) (W.length + L.length) cap)) := by
  have hpl := lt_of_heap h
  have hg1 := hown.lt g rfl
  have hr := fun k hk => (ho.lt k hk).1
  have hb1 : w1.heap[pb]? = some (.cells #[v] 99 (0, 0)) := (hg.block pb hpl (fun e => by have := hr pb e.symm; omega)).trans h
  have hP : PapAt pb (W ++ L) (w1.setCell ⟨pb, 0, none⟩ (.slice (some ⟨g, 0, none⟩) (W.length + L.length) cap)) := by
    refine ⟨_, set_blkP hb1 _, ?_⟩
    rw [List.length_append, List.map_append]
    exact row_set9 hown _ _ (by simp [Value.ownBlock]; omega)
  refine ⟨hP, ⟨hg.os, hg.tape, hg.output, by simpa using hg.size, fun _ => ⟨hP.rowOk, fun k o hk hn hko _ => ?_, fun g' e => ?_⟩⟩, fun k hk => ?_⟩
  · rw [Below.heap_setCell _ _ _ _ (by simpa using hk)]
    exact (hg.block k (lt_of_heap hko) (fun e => hn (by unfold rowB; rw [(one_blockP h).1]; exact e.symm))).trans hko
  · unfold rowB at e ⊢
    rw [(one_blockP (set_blkP hb1 _)).1] at e
    rw [(one_blockP h).1]
    simp only [Option.bind_some, Value.ownBlock, Option.some.injEq] at e ⊢
    subst e
    exact hat.imp id (fun e => by omega)
  · rw [Below.heap_setCell _ _ _ _ (by simp; omega)]
    exact hg.block k (by omega) (fun e => by have := hr k e.symm; omega)
end Go.Proofs.YtkokdafkjjcgoaaGreatDoor
namespace Go.Proofs.YtkokdafkjjcgoaaGreatDoor

def tkM (s : ByteArray) : Tok := ⟨5, 0, 0, s⟩
def tkK (s : ByteArray) : Tok := ⟨2, 0, 0, s⟩
def tkN (s : ByteArray) : Tok := ⟨1, 0, 0, s⟩
def tkS (s : ByteArray) : Tok := ⟨4, 0, 0, s⟩
def tkI (x : Nd) : Tok := ⟨3, 0, x.int, if x.type = ⟨#[117]⟩ then ⟨#[117]⟩ else ⟨#[]⟩⟩
/-- the tokens of a text; none: it has none -/
def toksE (s : ByteArray) : List Tok := match tokE s with
  | .good L => L
  | .bad _ _ => []
/-- the text of a declaration; empty: there is none -/
def declW (s name : ByteArray) : ByteArray := match tyS s with
  | none => ⟨#[]⟩
  | some t => if name = ⟨#[]⟩ ∨ isNameB name = true then strB (declT t name.data.toList) else ⟨#[]⟩
def declK (s name : ByteArray) : List Tok := toksE (declW s name)
/-- a type in brackets -/
def brkT (s : ByteArray) : List Tok := tkM ⟨#[40]⟩ :: (declK s ⟨#[]⟩ ++ [tkM ⟨#[41]⟩])

def ndAt (t : List Nd) (k : Nat) : Nd := (t[k]?).getD ⟨0, 0, 0, 0, ⟨#[]⟩, ⟨#[]⟩⟩
theorem ndAt_is {t : List Nd} {k : Nat} {x : Nd} (h : t[k]? = some x) : ndAt t k = x := by unfold ndAt; rw [h]; rfl
theorem ndAt_kind (t : List Nd) (k : Nat) : kindAt t k = (ndAt t k).kind := by
  unfold kindAt ndAt
  cases t[k]? <;> rfl
/-- levels of expressions, from the loosest on -/
def lvN (x : Nd) : Int :=
  if x.kind = 10 then 1
  else if x.kind = 8 then 2
  else if x.kind = 9 then 3
  else if x.kind = 7 then levelN x.text
  else if x.kind = 15 then 14
  else if x.kind = 4 ∨ x.kind = 5 ∨ x.kind = 16 ∨ x.kind = 17 then 15
  else if x.kind = 6 ∨ x.kind = 11 ∨ x.kind = 12 ∨ x.kind = 13 ∨ x.kind = 14 then 16
  else 17
/-- an expression where a level is due -/
def partF (t : List Nd) (e : Nat → List Tok) (due : Int) (p : Nat) : List Tok := if due ≤ lvN (ndAt t p) then e p else tkM ⟨#[40]⟩ :: (e p ++ [tkM ⟨#[41]⟩])
/-- of the part that is there -/
def atF (l : List Nat) (f : Nat → List Tok) (i : Nat) : List Tok := match l[i]? with
  | some p => f p
  | none => []
theorem atF_is {l : List Nat} {f : Nat → List Tok} {i : Nat} (h : i < l.length) : atF l f i = f l[i] := by unfold atF; rw [List.getElem?_eq_getElem h]
theorem atF_same {l : List Nat} {f g : Nat → List Tok} (h : ∀ p ∈ l, f p = g p) (i : Nat) : atF l f i = atF l g i := by
  unfold atF
  cases hi : l[i]? with
  | none => rfl
  | some p => exact h p (List.mem_of_getElem? hi)
/-- the first n of some expressions, with commas between -/
def rowF (l : List Nat) (f : Nat → List Tok) (n : Nat) : List Tok := (List.range n).flatMap fun i => (if 0 < i then [tkM ⟨#[44]⟩] else []) ++ atF l f i
theorem rowF_next (l : List Nat) (f : Nat → List Tok) (n : Nat) : rowF l f (n + 1) = rowF l f n ++ ((if 0 < n then [tkM ⟨#[44]⟩] else []) ++ atF l f n) := by
  unfold rowF
  rw [List.range_succ, List.flatMap_append]
  simp
theorem rowF_same {l : List Nat} {f g : Nat → List Tok} (h : ∀ p ∈ l, f p = g p) (n : Nat) : rowF l f n = rowF l g n := by
  unfold rowF
  refine flatMap_same fun i _ => ?_
  rw [atF_same h i]
/-- what stands behind an expression -/
def backB (t : List Nd) (l : List Nat) (e : Nat → List Tok) (x : Nd) : List Tok :=
  if x.kind = 6 then [tkM x.text]
  else if x.kind = 11 then tkM ⟨#[40]⟩ :: (rowF l.tail (partF t e 2) l.tail.length ++ [tkM ⟨#[41]⟩])
  else if x.kind = 12 then tkM ⟨#[91]⟩ :: (atF l (partF t e 1) 1 ++ [tkM ⟨#[93]⟩])
  else if x.kind = 13 then [tkM ⟨#[46]⟩, tkN x.text]
  else if x.kind = 14 then [tkM ⟨#[45, 62]⟩, tkN x.text]
  else []
def exprB (t : List Nd) (l : List Nat) (e : Nat → List Tok) (x : Nd) : List Tok :=
  if x.kind = 1 then [tkI x]
  else if x.kind = 2 then [tkS x.text]
  else if x.kind = 3 then [tkN x.text]
  else if x.kind = 4 then tkM x.text :: atF l (partF t e 14) 0
  else if x.kind = 5 then tkM x.text :: atF l (partF t e 15) 0
  else if x.kind = 7 then atF l (partF t e (levelN x.text)) 0 ++ tkM x.text :: atF l (partF t e (levelN x.text + 1)) 1
  else if x.kind = 8 then atF l (partF t e 15) 0 ++ tkM x.text :: atF l (partF t e 2) 1
  else if x.kind = 10 then atF l (partF t e 1) 0 ++ tkM ⟨#[44]⟩ :: atF l (partF t e 2) 1
  else if x.kind = 9 then atF l (partF t e 4) 0 ++ tkM ⟨#[63]⟩ :: (atF l (partF t e 1) 1 ++ tkM ⟨#[58]⟩ :: atF l (partF t e 3) 2)
  else if x.kind = 15 then brkT x.type ++ atF l (partF t e 14) 0
  else if x.kind = 17 then tkK ⟨#[115, 105, 122, 101, 111, 102]⟩ :: brkT x.type
  else if x.kind = 16 then tkK ⟨#[115, 105, 122, 101, 111, 102]⟩ :: atF l (partF t e 15) 0
  else atF l (partF t e 16) 0 ++ backB t l e x
theorem exprB_same {t : List Nd} {l : List Nat} {e e' : Nat → List Tok} (h : ∀ p ∈ l, e p = e' p) (x : Nd) : exprB t l e x = exprB t l e' x := by
  have h1 : ∀ due, ∀ p ∈ l, partF t e due p = partF t e' due p := fun due p hp => by unfold partF; rw [h p hp]
  have h2 : ∀ due i, atF l (partF t e due) i = atF l (partF t e' due) i := fun due i => atF_same (h1 due) i
  have h3 : ∀ due n, rowF l.tail (partF t e due) n = rowF l.tail (partF t e' due) n := fun due n => rowF_same (fun p hp => h1 due p (List.mem_of_mem_tail hp)) n
  unfold exprB backB
  simp only [h2, h3]
def exprF (t : List Nd) (fr : List Nat) : Nat → Nat → List Tok
  | 0, _ => []
  | m + 1, k => exprB t (partsAt t fr k) (exprF t fr m) (ndAt t k)
/-- the tokens of the expression that ends at a place, without brackets around it -/
def exprN (t : List Nd) (fr : List Nat) (k : Nat) : List Tok := exprF t fr (k + 1) k
theorem exprF_more {t : List Nd} {fr : List Nat} (h : Formed t fr) : ∀ (m k : Nat), k < m → exprF t fr m k = exprF t fr (k + 1) k
  | 0, k, hk => by omega
  | m + 1, k, hk => by
    rw [exprF, exprF]
    refine exprB_same (fun p hp => ?_) _
    have := h.parts_lt hp
    rw [exprF_more h m p (by omega), exprF_more h k p (by omega)]
theorem exprN_eq {t : List Nd} {fr : List Nat} (h : Formed t fr) (k : Nat) : exprN t fr k = exprB t (partsAt t fr k) (exprN t fr) (ndAt t k) := by
  unfold exprN
  rw [exprF]
  exact exprB_same (fun p hp => exprF_more h k p (h.parts_lt hp)) _
/-- an expression where a level is due -/
def partN (t : List Nd) (fr : List Nat) (due : Int) (p : Nat) : List Tok := partF t (exprN t fr) due p
theorem atF_len {l : List Nat} {f : Nat → List Tok} {g : Nat → Nat} (h : ∀ p ∈ l, (f p).length ≤ g p) (i : Nat) : (atF l f i).length ≤ (l.map g)[i]?.getD 0 := by
  unfold atF
  rw [List.getElem?_map]
  cases hi : l[i]? with
  | none => simp
  | some p => simpa using h p (List.mem_of_getElem? hi)
theorem get4_sum : ∀ (L : List Nat), L[0]?.getD 0 + L[1]?.getD 0 + L[2]?.getD 0 + L[3]?.getD 0 ≤ L.sum
  | [] => by simp
  | [a] => by simp
  | [a, b] => by simp
  | [a, b, c] => by simp; omega
  | a :: b :: c :: d :: r => by simp; omega
theorem getD_tail (L : List Nat) : L[0]?.getD 0 + L.tail.sum = L.sum := by cases L <;> simp
theorem range_get : ∀ (L : List Nat), ((List.range L.length).map fun i => L[i]?.getD 0).sum = L.sum
  | [] => rfl
  | a :: L => by
    rw [List.length_cons, List.range_succ_eq_map, List.map_cons, List.map_map, List.sum_cons, List.sum_cons]
    have := range_get L
    simp only [Function.comp_def, List.getElem?_cons_succ, List.getElem?_cons_zero, Option.getD_some]
    omega
theorem flatMap_le {α β : Type} {f : α → List β} {g : α → Nat} : ∀ {l : List α}, (∀ x ∈ l, (f x).length ≤ g x) → (l.flatMap f).length ≤ (l.map g).sum
  | [], _ => by simp
  | x :: l, h => by
    rw [List.flatMap_cons, List.length_append, List.map_cons, List.sum_cons]
    have := h x (List.mem_cons_self ..)
    have := flatMap_le fun y hy => h y (List.mem_cons_of_mem _ hy)
    omega
theorem rowF_len {l : List Nat} {f : Nat → List Tok} {g : Nat → Nat} (h : ∀ p ∈ l, (f p).length + 1 ≤ g p) : (rowF l f l.length).length ≤ (l.map g).sum := by
  unfold rowF
  refine Nat.le_trans (flatMap_le (g := fun i => (l.map g)[i]?.getD 0) fun i hi => ?_) ?_
  · rw [List.mem_range] at hi
    have hm : (f l[i]).length + 1 ≤ g l[i] := h _ (List.getElem_mem hi)
    rw [List.length_append, atF_is hi, List.getElem?_map, List.getElem?_eq_getElem hi]
    simp only [Option.map_some, Option.getD_some]
    split <;> simp <;> omega
  · have := range_get (l.map g)
    rw [List.length_map] at this
    omega
theorem partF_len (t : List Nd) (e : Nat → List Tok) (due : Int) (p : Nat) : (partF t e due p).length ≤ (e p).length + 2 := by
  unfold partF
  split
  · omega
  · simp
theorem ite_le {c : Prop} [Decidable c] {a b : List Tok} {n : Nat} (h1 : a.length ≤ n) (h2 : b.length ≤ n) : (if c then a else b).length ≤ n := by split <;> assumption
theorem exprB_len {t : List Nd} {l : List Nat} {e : Nat → List Tok} {g : Nat → Nat} {D : Nat} (x : Nd) (h : ∀ p ∈ l, (e p).length + 3 ≤ g p) (hD : ∀ s n, (declK s n).length ≤ D) : (exprB t l e x).length ≤ D + 5 + (l.map g).sum := by
  have h0 : ∀ due, ∀ p ∈ l, (partF t e due p).length ≤ g p := fun due p hp => by have := partF_len t e due p; have := h p hp; omega
  have h1 : ∀ due i, (atF l (partF t e due) i).length ≤ (l.map g)[i]?.getD 0 := fun due i => atF_len (h0 due) i
  have h2 : (rowF l.tail (partF t e 2) l.tail.length).length ≤ (l.tail.map g).sum := rowF_len fun p hp => by have := partF_len t e 2 p; have := h p (List.mem_of_mem_tail hp); omega
  have h3 := get4_sum (l.map g)
  have h4 := getD_tail (l.map g)
  have h5 := hD x.type ⟨#[]⟩
  rw [← List.map_tail] at h4
  have q0 : ∀ due, (atF l (partF t e due) 0).length ≤ (l.map g)[0]?.getD 0 := fun due => h1 due 0
  have q1 : ∀ due, (atF l (partF t e due) 1).length ≤ (l.map g)[1]?.getD 0 := fun due => h1 due 1
  have q2 : ∀ due, (atF l (partF t e due) 2).length ≤ (l.map g)[2]?.getD 0 := fun due => h1 due 2
  clear h0 h1
  generalize (l.map g)[0]?.getD 0 = a0 at *
  generalize (l.map g)[1]?.getD 0 = a1 at *
  generalize (l.map g)[2]?.getD 0 = a2 at *
  generalize (l.map g)[3]?.getD 0 = a3 at *
  have e1 := q0 14
  have e2 := q0 15
  have e3 := q0 16
  have e4 := q0 (levelN x.text)
  have e5 := q1 (levelN x.text + 1)
  have e6 := q1 2
  have e7 := q0 1
  have e8 := q0 4
  have e9 := q1 1
  have e10 := q2 3
  have e11 : (atF l (partF t e 16) 0 ++ backB t l e x).length ≤ D + 5 + (l.map g).sum := by
    rw [List.length_append]
    have : (backB t l e x).length ≤ 5 + (l.map g).sum - a0 := by
      unfold backB
      repeat' refine ite_le ?_ ?_
      all_goals
        simp only [List.length_append, List.length_cons, List.length_nil]
        omega
    omega
  unfold exprB brkT
  repeat' refine ite_le ?_ ?_
  all_goals first
    | exact e11
    | (simp only [List.length_append, List.length_cons, List.length_nil]
       omega)
end Go.Proofs.YtkokdafkjjcgoaaGreatDoor
