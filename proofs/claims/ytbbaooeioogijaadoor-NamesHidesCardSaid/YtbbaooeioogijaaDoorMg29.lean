/- Units of one's own in memory: which blocks their parts lie in; rows that grow in a box. · Structs of one's own: lent. -/
import Derived.Test.YtbbaooeioogijaaDoorMg23
import Derived.Test.YtbbaooeioogijaaDoorMg13
import Derived.Deep.RegionHeld3
import Derived.Test.YtbbaooeioogijaaDoorMg10
import Derived.Deep.AppendLies
import Derived.Laws.AppendOwnNone
namespace Go.Proofs.YtbbaooeioogijaaDoor
open Go.RowKit

/-- a struct's members -/
def meCells (m : ByteArray × ByteArray) : List Value := [.string m.1, .string m.2]
def srCellsU (q : Sr × Value) : List Value := [.string q.1.name, q.2]
theorem me_lenU (m : ByteArray × ByteArray) : (meCells m).length = 2 := rfl
theorem sr_lenU (q : Sr × Value) : (srCellsU q).length = 2 := rfl
def MesP (P : Nat → Prop) (w : World) (v : Value) (ms : List (ByteArray × ByteArray)) : Prop := ∃ a cap, v = .slice a ms.length cap ∧ SlK 32 a ms.length cap ∧ IsSlU 2 meCells P w a ms
def SrP (P : Nat → Prop) (w : World) (q : Sr × Value) : Prop := q.1.name.size ≤ maxLen ∧ MesP P w q.2 q.1.mems
def TrPU (P : Nat → Prop) (w : World) (q : List Nd × Value) : Prop := ∃ a cap, q.2 = .slice a q.1.length cap ∧ SlK 64 a q.1.length cap ∧ IsSlU 6 ndCells P w a q.1 ∧ ∀ x ∈ q.1, NdOk x
def TrsP (P : Nat → Prop) (w : World) (v : Value) (L : List (List Nd)) : Prop := ∃ a cap Q, v = .slice a L.length cap ∧ SlK 24 a L.length cap ∧ Q.map Prod.fst = L ∧ IsSlU 1 trCells P w a Q ∧ ∀ q ∈ Q, TrPU P w q
def GlPU (P : Nat → Prop) (w : World) (q : GlU × Value) : Prop := VrOk q.1.var ∧ i64In q.1.at_ ∧ TrsP P w q.2 q.1.init
theorem MesP.keep {P P' : Nat → Prop} {w w' : World} {v : Value} {ms : List (ByteArray × ByteArray)} (h : MesP P w v ms) (hk : KeepPU P P' w w') : MesP P' w' v ms := by
  obtain ⟨a, cap, e, ho, hs⟩ := h
  exact ⟨a, cap, e, ho, hs.keep hk⟩
theorem SrP.keep {P P' : Nat → Prop} {w w' : World} {q : Sr × Value} (h : SrP P w q) (hk : KeepPU P P' w w') : SrP P' w' q := ⟨h.1, h.2.keep hk⟩
theorem TrPU.keep {P P' : Nat → Prop} {w w' : World} {q : List Nd × Value} (h : TrPU P w q) (hk : KeepPU P P' w w') : TrPU P' w' q := by
  obtain ⟨a, cap, e, ho, hs, hv⟩ := h
  exact ⟨a, cap, e, ho, hs.keep hk, hv⟩
theorem TrsP.keep {P P' : Nat → Prop} {w w' : World} {v : Value} {L : List (List Nd)} (h : TrsP P w v L) (hk : KeepPU P P' w w') : TrsP P' w' v L := by
  obtain ⟨a, cap, Q, e, ho, hQ, hs, hv⟩ := h
  exact ⟨a, cap, Q, e, ho, hQ, hs.keep hk, fun q hq => (hv q hq).keep hk⟩
theorem GlPU.keep {P P' : Nat → Prop} {w w' : World} {q : GlU × Value} (h : GlPU P w q) (hk : KeepPU P P' w w') : GlPU P' w' q := ⟨h.1, h.2.1, h.2.2.keep hk⟩
theorem MesP.is {P : Nat → Prop} {w : World} {v : Value} {ms : List (ByteArray × ByteArray)} {B : Nat} (h : MesP P w v ms) (hP : ∀ b, P b → b < B) : IsMems B w v ms := by
  obtain ⟨a, cap, e, ho, hs⟩ := h
  refine ⟨a, cap, e, fun hn => ?_⟩
  obtain ⟨b, off, ea, hb, hc⟩ := hs hn
  exact ⟨b, off, ea, hP b hb, fun i m hm => ⟨by simpa using hc i m hm 0 _ rfl, hc i m hm 1 _ rfl⟩⟩
theorem TrPU.is {P : Nat → Prop} {w : World} {q : List Nd × Value} {B : Nat} (h : TrPU P w q) (hP : ∀ b, P b → b < B) : IsTr B w q.2 q.1 := by
  obtain ⟨a, cap, e, ho, hs, hv⟩ := h
  exact ⟨a, cap, e, ho, hs.sl hP, hv⟩
theorem TrsP.is {P : Nat → Prop} {w : World} {v : Value} {L : List (List Nd)} {B : Nat} (h : TrsP P w v L) (hP : ∀ b, P b → b < B) : IsTrs B w v L := by
  obtain ⟨a, cap, Q, e, ho, hQ, hs, hv⟩ := h
  exact ⟨a, cap, Q, e, ho, hQ, hs.sl hP, fun q hq => (hv q hq).is hP⟩
/-- a row of one's own that grows, of elements that lie elsewhere -/
def RowU {α : Type} (T : TypeId) (k : Nat) (cells : α → List Value) (Ok : (Nat → Prop) → World → α → Prop) (B : Nat) (w : World) (v : Value) (Q : List α) : Prop :=
  w.ownsRow B T k v Q.length (Q.flatMap cells) ∧ ∀ q ∈ Q, Ok (OffU B w v) w q
abbrev KeepOkU {α : Type} (Ok : (Nat → Prop) → World → α → Prop) : Prop := ∀ (P P' : Nat → Prop) (w w' : World) (q : α), Ok P w q → KeepPU P P' w w' → Ok P' w' q
theorem rowU_nil {α : Type} {T : TypeId} {k : Nat} {cells : α → List Value} {Ok : (Nat → Prop) → World → α → Prop} (B : Nat) (w : World) : RowU T k cells Ok B w (.slice none 0 0) [] := ⟨World.ownsRow_nil _ _ _ _, fun _ h => by cases h⟩
theorem RowU.kept {α : Type} {T : TypeId} {k : Nat} {cells : α → List Value} {Ok : (Nat → Prop) → World → α → Prop} (hk : KeepOkU Ok) {B : Nat} {w w' : World} {v : Value} {Q : List α} {row : Option Nat} (h : RowU T k cells Ok B w v Q) (hg : w.grownBy w' row) (hr : ∀ r, row = some r → r < B) : RowU T k cells Ok B w' v Q :=
  ⟨h.1.kept hg (by
    cases hv : v.ownBlock with
    | none => exact .inl rfl
    | some r => exact .inr (fun e => by have := hr r e.symm; have := (h.1.lt r hv).1; omega)), fun q hq => hk _ _ _ _ _ (h.2 q hq) (keep_offU hg (fun r e => .inl (hr r e)))⟩
theorem RowU.step {α : Type} {T : TypeId} {k : Nat} {cells : α → List Value} {Ok : (Nat → Prop) → World → α → Prop} (hk : KeepOkU Ok) {B : Nat} {w w' : World} {v : Value} {i g cap : Nat} {Q : List α} {q : α} (h : RowU T k cells Ok B w v Q) (hq : Ok (OffU B w v) w q) (hi : Q.length = i)
    (hown : w'.ownsRow B T k (.slice (some ⟨g, 0, none⟩) (i + 1) cap) (i + 1) (Q.flatMap cells ++ cells q)) (hg : w.grownBy w' v.ownBlock) (hv : v.ownBlock = some g ∨ g = w.heap.size) : RowU T k cells Ok B w' (.slice (some ⟨g, 0, none⟩) (i + 1) cap) (Q ++ [q]) := by
  have hkp : KeepPU (OffU B w v) (OffU B w' (.slice (some ⟨g, 0, none⟩) (i + 1) cap)) w w' := keep_pushU hg (fun g' e => by cases e; exact hv)
  refine ⟨?_, fun x hx => ?_⟩
  · rw [List.length_append, List.flatMap_append, hi]
    simpa using hown
  · rcases List.mem_append.1 hx with hx | hx
    · exact hk _ _ _ _ _ (h.2 x hx) hkp
    · rw [List.mem_singleton.1 hx]
      exact hk _ _ _ _ _ hq hkp
abbrev SrsRowU : Nat → World → Value → List (Sr × Value) → Prop := RowU 75 2 srCellsU SrP
abbrev TrsRowU : Nat → World → Value → List (List Nd × Value) → Prop := RowU 42 1 trCells TrPU
abbrev GlsRowU : Nat → World → Value → List (GlU × Value) → Prop := RowU 66 5 glUCells GlPU
theorem srP_keep : KeepOkU SrP := fun _ _ _ _ _ h k => h.keep k
theorem trP_keep : KeepOkU TrPU := fun _ _ _ _ _ h k => h.keep k
theorem glP_keepU : KeepOkU GlPU := fun _ _ _ _ _ h k => h.keep k
theorem TrsRowU.p {B : Nat} {w : World} {v : Value} {Q : List (List Nd × Value)} (h : TrsRowU B w v Q) (hz : Q.length * 24 ≤ 140737488351232) : TrsP (fun b => B ≤ b ∧ b < w.heap.size) w v (Q.map Prod.fst) := by
  obtain ⟨a, cap, e, h1, h2, hs, hn⟩ := own_slU tr_len h.1 rfl
  exact ⟨a, cap, Q, by rw [List.length_map]; exact e, ⟨by rw [List.length_map]; exact hz, by rw [List.length_map]; exact h1, h2, fun e => by rw [List.length_map]; exact hn e⟩, rfl, hs.keep (fun b hb => ⟨rfl, hb.2⟩), fun q hq => (h.2 q hq).keep (fun b hb => ⟨rfl, hb.1, hb.2.1⟩)⟩
/-- rows of structs and globals, in blocks of P -/
def StsP (P : Nat → Prop) (w : World) (v : Value) (L : List Sr) : Prop := ∃ a cap Q, v = .slice a L.length cap ∧ SlK 40 a L.length cap ∧ Q.map Prod.fst = L ∧ IsSlU 2 srCellsU P w a Q ∧ ∀ q ∈ Q, SrP P w q
def GlsP (P : Nat → Prop) (w : World) (v : Value) (L : List GlU) : Prop := ∃ a cap Q, v = .slice a L.length cap ∧ SlK 72 a L.length cap ∧ Q.map Prod.fst = L ∧ IsSlU 5 glUCells P w a Q ∧ ∀ q ∈ Q, GlPU P w q
theorem StsP.keep {P P' : Nat → Prop} {w w' : World} {v : Value} {L : List Sr} (h : StsP P w v L) (hk : KeepPU P P' w w') : StsP P' w' v L := by
  obtain ⟨a, cap, Q, e, ho, hQ, hs, hv⟩ := h
  exact ⟨a, cap, Q, e, ho, hQ, hs.keep hk, fun q hq => (hv q hq).keep hk⟩
theorem GlsP.keep {P P' : Nat → Prop} {w w' : World} {v : Value} {L : List GlU} (h : GlsP P w v L) (hk : KeepPU P P' w w') : GlsP P' w' v L := by
  obtain ⟨a, cap, Q, e, ho, hQ, hs, hv⟩ := h
  exact ⟨a, cap, Q, e, ho, hQ, hs.keep hk, fun q hq => (hv q hq).keep hk⟩
theorem SrsRowU.p {B : Nat} {w : World} {v : Value} {Q : List (Sr × Value)} (h : SrsRowU B w v Q) (hz : Q.length * 40 ≤ 140737488351232) : StsP (fun b => B ≤ b ∧ b < w.heap.size) w v (Q.map Prod.fst) := by
  obtain ⟨a, cap, e, h1, h2, hs, hn⟩ := own_slU sr_lenU h.1 rfl
  exact ⟨a, cap, Q, by rw [List.length_map]; exact e, ⟨by rw [List.length_map]; exact hz, by rw [List.length_map]; exact h1, h2, fun e => by rw [List.length_map]; exact hn e⟩, rfl, hs.keep (fun b hb => ⟨rfl, hb.2⟩), fun q hq => (h.2 q hq).keep (fun b hb => ⟨rfl, hb.1, hb.2.1⟩)⟩
theorem GlsRowU.p {B : Nat} {w : World} {v : Value} {Q : List (GlU × Value)} (h : GlsRowU B w v Q) (hz : Q.length * 72 ≤ 140737488351232) : GlsP (fun b => B ≤ b ∧ b < w.heap.size) w v (Q.map Prod.fst) := by
  obtain ⟨a, cap, e, h1, h2, hs, hn⟩ := own_slU glU_len h.1 rfl
  exact ⟨a, cap, Q, by rw [List.length_map]; exact e, ⟨by rw [List.length_map]; exact hz, by rw [List.length_map]; exact h1, h2, fun e => by rw [List.length_map]; exact hn e⟩, rfl, hs.keep (fun b hb => ⟨rfl, hb.2⟩), fun q hq => (h.2 q hq).keep (fun b hb => ⟨rfl, hb.1, hb.2.1⟩)⟩
theorem StsP.is {P : Nat → Prop} {w : World} {v : Value} {L : List Sr} {B : Nat} (h : StsP P w v L) (hP : ∀ b, P b → b < B) : IsStU B w v L := by
  obtain ⟨a, cap, Q, e, ho, hQ, hs, hv⟩ := h
  subst hQ
  refine ⟨a, cap, Q.map Prod.snd, e, ⟨ho.2.1, ho.2.2.1, ho.1, fun x hx => ?_, fun u hu n c eu => ?_, fun ea => ?_⟩, ⟨by simp, fun hn => ?_, fun x hx => ?_⟩⟩
  · obtain ⟨q, hq, rfl⟩ := List.mem_map.1 hx
    obtain ⟨_, _, _, h1, _⟩ := (hv q hq).2
    exact h1.1
  · obtain ⟨q, hq, rfl⟩ := List.mem_map.1 hu
    obtain ⟨a', c', e', h1, _⟩ := (hv q hq).2
    rw [e'] at eu
    cases eu
    exact h1.2.2.2 rfl
  · have := ho.2.2.2 ea
    exact ⟨List.eq_nil_of_length_eq_zero this.1, this.2⟩
  · obtain ⟨b, off, ea, hb, hc⟩ := hs (fun e => hn (by rw [e]; rfl))
    refine ⟨b, off, ea, hP b hb, fun i x u hx hu => ?_⟩
    rw [List.getElem?_map, Option.map_eq_some_iff] at hx hu
    obtain ⟨q, hq, rfl⟩ := hx
    obtain ⟨q', hq', rfl⟩ := hu
    rw [hq] at hq'
    obtain rfl := Option.some.inj hq'
    exact ⟨by simpa using hc i q hq 0 _ rfl, hc i q hq 1 _ rfl, (hv q (List.mem_of_getElem? hq)).2.is hP⟩
  · obtain ⟨q, hq, rfl⟩ := List.mem_map.1 hx
    exact (hv q hq).1
theorem GlsP.is {P : Nat → Prop} {w : World} {v : Value} {L : List GlU} {B : Nat} (h : GlsP P w v L) (hP : ∀ b, P b → b < B) : IsGlsU B w v L := by
  obtain ⟨a, cap, Q, e, ho, hQ, hs, hv⟩ := h
  exact ⟨a, cap, Q, e, ho, hQ, hs.sl hP, fun q hq => ⟨(hv q hq).1, (hv q hq).2.1, (hv q hq).2.2.is hP⟩⟩
/-- a function whose parts are rows of their own -/
structure FnC (B : Nat) (w : World) (q : FnU × Value × Value) : Prop where
  name : q.1.name.size ≤ maxLen
  type : q.1.type.size ≤ maxLen
  at_ : i64In q.1.at_
  plen : q.1.params.length * 40 ≤ 140737488351232
  pok : ∀ x ∈ q.1.params, VrOk x
  blen : q.1.body.length * 64 ≤ 140737488351232
  bok : ∀ x ∈ q.1.body, NdOk x
  params : w.ownsRow B 46 3 q.2.1 q.1.params.length (q.1.params.flatMap vrCells)
  body : w.ownsRow B 48 6 q.2.2 q.1.body.length (q.1.body.flatMap ndCells)
  apart : ∀ k, q.2.1.ownBlock = some k → q.2.2.ownBlock ≠ some k
def BlkU (q : FnU × Value × Value) (k : Nat) : Prop := q.2.1.ownBlock = some k ∨ q.2.2.ownBlock = some k
def ApartU (q q' : FnU × Value × Value) : Prop := ∀ k, BlkU q k → ¬ BlkU q' k
/-- functions in a row of one's own, each in blocks that nobody else has -/
def FnsC (B : Nat) (w : World) (v : Value) (Q : List (FnU × Value × Value)) : Prop := w.ownsRow B 44 5 v Q.length (Q.flatMap fnUCells) ∧ (∀ q ∈ Q, FnC B w q ∧ ∀ k, BlkU q k → v.ownBlock ≠ some k) ∧ Q.Pairwise ApartU
theorem fnsC_nil (B : Nat) (w : World) : FnsC B w (.slice none 0 0) [] := ⟨World.ownsRow_nil _ _ _ _, fun _ h => (by cases h), List.Pairwise.nil⟩
theorem FnC.lt {B : Nat} {w : World} {q : FnU × Value × Value} (h : FnC B w q) {k : Nat} (hk : BlkU q k) : B ≤ k ∧ k < w.heap.size := by
  rcases hk with hk | hk
  · exact h.params.lt k hk
  · exact h.body.lt k hk
theorem own_keptU {w w' : World} {B n k : Nat} {T : TypeId} {v : Value} {xs : List Value} {row : Option Nat} (h : w.ownsRow B T k v n xs) (hg : w.grownBy w' row) (hr : ∀ r, row = some r → v.ownBlock ≠ some r) : w'.ownsRow B T k v n xs :=
  h.kept hg (by
    cases hv : v.ownBlock with
    | none => exact .inl rfl
    | some r => exact .inr (fun e => hr r e.symm hv))
theorem FnC.kept {B : Nat} {w w' : World} {q : FnU × Value × Value} {row : Option Nat} (h : FnC B w q) (hg : w.grownBy w' row) (hr : ∀ r, row = some r → ¬ BlkU q r) : FnC B w' q :=
  ⟨h.name, h.type, h.at_, h.plen, h.pok, h.blen, h.bok, own_keptU h.params hg (fun r e hv => hr r e (.inl hv)), own_keptU h.body hg (fun r e hv => hr r e (.inr hv)), h.apart⟩
theorem FnsC.kept {B : Nat} {w w' : World} {v : Value} {Q : List (FnU × Value × Value)} {row : Option Nat} (h : FnsC B w v Q) (hg : w.grownBy w' row) (hr : ∀ r, row = some r → r < B) : FnsC B w' v Q :=
  ⟨own_keptU h.1 hg (fun r e hv => by have := hr r e; have := (h.1.lt r hv).1; omega), fun q hq => ⟨(h.2.1 q hq).1.kept hg (fun r e hb => by have := hr r e; have := ((h.2.1 q hq).1.lt hb).1; omega), (h.2.1 q hq).2⟩, h.2.2⟩
theorem FnsC.step {B : Nat} {w w' : World} {v : Value} {i g cap : Nat} {Q : List (FnU × Value × Value)} {q : FnU × Value × Value} (h : FnsC B w v Q) (hq : FnC B w q) (hv : ∀ k, BlkU q k → v.ownBlock ≠ some k) (hn : ∀ x ∈ Q, ApartU x q) (hi : Q.length = i)
    (hown : w'.ownsRow B 44 5 (.slice (some ⟨g, 0, none⟩) (i + 1) cap) (i + 1) (Q.flatMap fnUCells ++ fnUCells q)) (hg : w.grownBy w' v.ownBlock) (hgv : v.ownBlock = some g ∨ g = w.heap.size) : FnsC B w' (.slice (some ⟨g, 0, none⟩) (i + 1) cap) (Q ++ [q]) := by
  have key : ∀ x, FnC B w x → (∀ k, BlkU x k → v.ownBlock ≠ some k) → FnC B w' x ∧ ∀ k, BlkU x k → (Value.slice (some ⟨g, 0, none⟩) (i + 1) cap).ownBlock ≠ some k := fun x h1 h2 => by
    refine ⟨h1.kept hg (fun r e hb => h2 r hb e), fun k hb e => ?_⟩
    simp only [Value.ownBlock, Option.some.injEq] at e
    subst e
    rcases hgv with e | e
    · exact h2 _ hb e
    · have := (h1.lt hb).2; omega
  refine ⟨?_, fun x hx => ?_, ?_⟩
  · rw [List.length_append, List.flatMap_append, hi]
    simpa using hown
  · rcases List.mem_append.1 hx with hx | hx
    · exact key x (h.2.1 x hx).1 (h.2.1 x hx).2
    · rw [List.mem_singleton.1 hx]
      exact key q hq hv
  · rw [List.pairwise_append]
    exact ⟨h.2.2, List.pairwise_singleton _ _, fun x hx y hy => by rw [List.mem_singleton.1 hy]; exact hn x hx⟩
theorem FnC.is {B : Nat} {w : World} {q : FnU × Value × Value} (h : FnC B w q) : IsFnU w.heap.size w q.1 q.2.1 q.2.2 := by
  obtain ⟨a, c, e, h1, h2, hs, hn⟩ := own_slU vr_len h.params rfl
  obtain ⟨a2, c2, e2, h3, h4, hs2, hn2⟩ := own_slU nd_len h.body rfl
  exact ⟨h.name, h.type, h.at_, ⟨a, c, e, ⟨h.plen, h1, h2, hn⟩, hs.sl (fun b hb => hb.2.2), h.pok⟩, ⟨a2, c2, e2, ⟨h.blen, h3, h4, hn2⟩, hs2.sl (fun b hb => hb.2.2), h.bok⟩⟩
theorem FnsC.is {B : Nat} {w : World} {v : Value} {Q : List (FnU × Value × Value)} (h : FnsC B w v Q) (hz : Q.length * 88 ≤ 140737488351232) : IsFnsU w.heap.size w v (Q.map Prod.fst) := by
  obtain ⟨a, cap, e, h1, h2, hs, hn⟩ := own_slU fnU_len h.1 rfl
  exact ⟨a, cap, Q, by rw [List.length_map]; exact e, ⟨by rw [List.length_map]; exact hz, by rw [List.length_map]; exact h1, h2, fun e => by rw [List.length_map]; exact hn e⟩, rfl, hs.sl (fun b hb => hb.2.2), fun q hq => (h.2.1 q hq).1.is⟩
/-- a unit of one's own: all of it lies from B on; its functions from M on -/
structure UnC (B : Nat) (w : World) (u : UnU) (vs vg vf : Value) (M : Nat) (Q : List (FnU × Value × Value)) : Prop where
  structs : StsP (fun b => B ≤ b ∧ b < M) w vs u.structs
  globals : GlsP (fun b => B ≤ b ∧ b < M) w vg u.globals
  funcs : FnsC M w vf Q
  fns : Q.map Prod.fst = u.funcs
  few : u.funcs.length * 88 ≤ 140737488351232
  low : B ≤ M ∧ M ≤ w.heap.size
theorem UnC.is {B M : Nat} {w : World} {u : UnU} {vs vg vf : Value} {Q : List (FnU × Value × Value)} (h : UnC B w u vs vg vf M Q) : IsUn w.heap.size w u vs vg vf := by
  have hf := h.funcs.is (by rw [← List.length_map (f := Prod.fst), h.fns]; exact h.few)
  rw [h.fns] at hf
  exact ⟨h.structs.is (fun b hb => Nat.lt_of_lt_of_le hb.2 h.low.2), h.globals.is (fun b hb => Nat.lt_of_lt_of_le hb.2 h.low.2), hf⟩
theorem UnC.below {B M : Nat} {w w' : World} {u : UnU} {vs vg vf : Value} {Q : List (FnU × Value × Value)} (h : UnC B w u vs vg vf M Q) (hb : Below w.heap.size w w') : UnC B w' u vs vg vf M Q :=
  ⟨h.structs.keep (fun b hb' => ⟨hb.block b (Nat.lt_of_lt_of_le hb'.2 h.low.2), hb'⟩), h.globals.keep (fun b hb' => ⟨hb.block b (Nat.lt_of_lt_of_le hb'.2 h.low.2), hb'⟩), h.funcs.kept (grn_blwU none hb) (fun r e => by cases e), h.fns, h.few, h.low.1, Nat.le_trans h.low.2 hb.size⟩
end Go.Proofs.YtbbaooeioogijaaDoor
namespace Go
theorem step_append_none {P : Program} {w : World} {ops : Array Oper} {o : Oper} {a : Act} {K : Act → World → Prop} {Q : Exit → Act → World → Prop} {E : Prop} (hgd : o.guard = none) (s x : Operand) (t : TypeId)
    (ho : o.op = .call { callee := .builtin .append, args := #[s, x], argTypes := #[t, t] })
    (base : Nat) (e : TypeId) (i : TypeInfo) (size : Nat) (ht : P.underlying t = some (.slice e)) (hi : P.info? e = some i)
    (v : Value) (n : Nat) (xs : List Value) (hs : a.eval s = v) (hown : w.ownsRow base e size v n xs) (hx : a.eval x = .slice none 0 0)
    (h : K (a.put o.dst v) w) : if Region.wanted o (yielded ops a.tmps) = true then Oper.wp P o a w K Q else E := by
  have hw : Region.wanted o (yielded ops a.tmps) = true := by simp [Region.wanted, hgd]
  rw [if_pos hw]
  have hrun := run_append_owned_none (P := P) (w := w) base t o.type e i size ht hi v n xs hown
  unfold Oper.wp
  simp [execOp, ho, resolve, invoke, builtin, hs, hx, hrun, Result.andThen]
  exact h
end Go
namespace Go.Proofs.YtbbaooeioogijaaDoor
open Go.RowKit

theorem infoMe : (Tryd.prog.info? 151).map (fun i => (i.zero, i.size, i.bytes)) = some (some (.agg #[.string ⟨#[]⟩, .string ⟨#[]⟩]), 2, 32) := by kernel_rfl
theorem pairM_inv {ms : List (ByteArray × ByteArray)} {i : Nat} {q : Value × Value} (h : (pairM ms)[i]? = some q) : ∃ m, ms[i]? = some m ∧ q = (.string m.1, .string m.2) := by
  rw [pairM, List.getElem?_map, Option.map_eq_some_iff] at h
  obtain ⟨m, hm, rfl⟩ := h
  exact ⟨m, hm, rfl⟩
theorem pairM_length (ms : List (ByteArray × ByteArray)) : (pairM ms).length = ms.length := by simp [pairM]
theorem mems_one (ms : List (ByteArray × ByteArray)) : ∀ u ∈ flat2 (pairM ms), u.oneCell' = true := fun u hu => by
  obtain ⟨j, hj, rfl⟩ := List.getElem_of_mem hu
  obtain ⟨i, q, hq, hj'⟩ := flat2_inv (List.getElem?_eq_getElem hj)
  obtain ⟨m, hm, rfl⟩ := pairM_inv hq
  rcases hj' with ⟨_, h⟩ | ⟨_, h⟩ <;> rw [h] <;> rfl
theorem mems_news {B : Nat} {w : World} {ad : Addr} {n c : Nat} {ms : List (ByteArray × ByteArray)} (h : IsMems B w (.slice (some ad) n c) ms) : ∀ (j : Nat) u, (flat2 (pairM ms))[j]? = some u → w.cell? (ad.add j) = some u := fun j u hu => by
  obtain ⟨i, q, hq, hj⟩ := flat2_inv hu
  obtain ⟨m, hm, rfl⟩ := pairM_inv hq
  obtain ⟨a, cap, e, hr⟩ := h
  obtain ⟨b, off, ha, _, hc⟩ := hr (fun e => by rw [e] at hm; simp at hm)
  simp only [Value.slice.injEq] at e
  obtain ⟨e, _, _⟩ := e
  subst ha
  obtain rfl := Option.some.inj e
  obtain ⟨h1, h2⟩ := hc i m hm
  rcases hj with ⟨rfl, rfl⟩ | ⟨rfl, rfl⟩
  · rw [add2]; exact h1
  · rw [add2, ← Nat.add_assoc]; exact h2
theorem own_mems {w : World} {base : Nat} {v : Value} {ms : List (ByteArray × ByteArray)} (h : w.ownsRow base 151 2 v ms.length (flat2 (pairM ms))) : IsMems w.heap.size w v ms := by
  rcases h.2 with ⟨rfl, h0⟩ | ⟨g, cap, cur, rfl, _, hg, _⟩
  · have : ms = [] := List.eq_nil_of_length_eq_zero h0
    subst this
    exact ⟨none, 0, rfl, fun h => absurd rfl h⟩
  · refine ⟨_, cap, rfl, fun _ => ⟨g, 0, rfl, lt_of_heap hg, fun i m hm => ?_⟩⟩
    have hp : (pairM ms)[i]? = some (.string m.1, .string m.2) := by rw [pairM, List.getElem?_map, hm]; rfl
    obtain ⟨h1, h2⟩ := flat2_at hp
    have c1 := h.cells (g := g) rfl _ _ h1
    have c2 := h.cells (g := g) rfl _ _ h2
    rw [add2, Nat.zero_add] at c1 c2
    exact ⟨by rw [Nat.zero_add]; exact c1, by rw [Nat.zero_add]; exact c2⟩
theorem IsMems.kept {B : Nat} {w w' : World} {v : Value} {ms : List (ByteArray × ByteArray)} {row : Option Nat} (h : IsMems B w v ms) (hB : B ≤ w.heap.size) (hg : w.grownBy w' row) (hne : ∀ k, v.ownBlock = some k → row ≠ some k) : IsMems B w' v ms := by
  obtain ⟨a, cap, rfl, hr⟩ := h
  refine ⟨a, cap, rfl, fun hn => ?_⟩
  obtain ⟨b, off, rfl, hlt, hc⟩ := hr hn
  refine ⟨b, off, rfl, hlt, fun i m hm => ?_⟩
  have hb : some b ≠ row := fun e => hne b rfl e.symm
  rw [hg.cell_far _ (show b < w.heap.size by omega) hb, hg.cell_far _ (show b < w.heap.size by omega) hb]
  exact hc i m hm

end Go.Proofs.YtbbaooeioogijaaDoor
