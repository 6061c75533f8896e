/- Lists of structs: what is known of them, part by part. Plain. · The reference: a struct's place; are the structs given; up to a multiple. · Lists of structs, and of members, as rows that a call made itself; an append as one step of a region that draws. -/
import Derived.Test.YtlcfejgjeljjdaaDoorMg12
import Derived.Test.YtlcfejgjeljjdaaDoorMg2
import Derived.Test.YtlcfejgjeljjdaaDoorMg6
import Derived.Deep.DeepCutAuto
import Derived.Test.YtlcfejgjeljjdaaDoorMg4
import Derived.Test.YtlcfejgjeljjdaaDoorMg15
namespace Go.Proofs.YtlcfejgjeljjdaaDoor
open Go.RowKit

/-- members' bytes and alignment, so far; their types being right -/
def memR (K : List Kn) : List (ByteArray × ByteArray) → Nat → Nat → Nat × Nat
  | [], n, a => (n, a)
  | m :: l, n, a => match tyS m.2 with
    | none => (n, a)
    | some t => memR K l (fitN n (measT K t).2 + (measT K t).1) (max a (measT K t).2)
/-- a member that is right -/
def MemOk (K : List Kn) (m : ByteArray × ByteArray) : Prop := ∃ t, tyS m.2 = some t ∧ checkT K t = 0 ∧ objectT t = true
theorem mems_right {K : List Kn} : ∀ {l : List (ByteArray × ByteArray)} {seen : List ByteArray} {n a n' a' : Nat}, memsK K l seen n a = .inr (n', a') → memR K l n a = (n', a') ∧ ∀ m ∈ l, MemOk K m
  | [], _, _, _, _, _, h => by rw [memsK] at h; exact ⟨Sum.inr.inj h, fun m hm => by cases hm⟩
  | m :: l, seen, n, a, n', a', h => by
    rw [memsK] at h
    split at h
    · cases h
    · split at h
      · cases h
      · split at h
        · cases h
        · rename_i t ht
          split at h
          · cases h
          · rename_i hc
            split at h
            · cases h
            · rename_i ho
              obtain ⟨h1, h2⟩ := mems_right h
              refine ⟨by rw [memR, ht]; exact h1, fun m' hm' => ?_⟩
              rcases List.mem_cons.1 hm' with rfl | hm'
              · exact ⟨t, ht, by simpa using hc, by simpa using ho⟩
              · exact h2 m' hm'
/-- all structs of a list are right, each with those ahead of it -/
structure GoodK (K : List Kn) : Prop where
  mems : ∀ i (h : i < K.length), (∀ m ∈ K[i].mems, MemOk (K.take i) m) ∧ ∃ n, memR (K.take i) K[i].mems 0 1 = (n, K[i].align) ∧ K[i].size = fitN n K[i].align
  al : ∀ k ∈ K, 1 ≤ k.align ∧ k.align ≤ 4
  len : K.length ≤ 65
  mlen : ∀ k ∈ K, k.mems.length ≤ 64
theorem goodK_nil : GoodK [] := ⟨(fun i h => absurd h (Nat.not_lt_zero _)), (fun k h => by cases h), by decide, (fun k h => by cases h)⟩
theorem meas_align {K : List Kn} (h : ∀ k ∈ K, 1 ≤ k.align ∧ k.align ≤ 4) : ∀ t : Ty, 1 ≤ (measT K t).2 ∧ (measT K t).2 ≤ 4
  | .base c => by rw [measT]; repeat' split
                  all_goals decide
  | .ptr _ => by rw [measT]; decide
  | .fn _ _ => by rw [measT]; decide
  | .arr n t => by rw [measT]; exact meas_align h t
  | .str s => by
    rw [measT]
    split
    · rename_i k hk
      obtain ⟨i, _, hi⟩ := Option.bind_eq_some_iff.1 hk
      exact h k (List.mem_of_getElem? hi)
    · decide
theorem memR_align {K : List Kn} (h : ∀ k ∈ K, 1 ≤ k.align ∧ k.align ≤ 4) : ∀ (l : List (ByteArray × ByteArray)) (n a : Nat), 1 ≤ a ∧ a ≤ 4 → 1 ≤ (memR K l n a).2 ∧ (memR K l n a).2 ≤ 4
  | [], _, _, ha => by rw [memR]; exact ha
  | m :: l, n, a, ha => by
    rw [memR]
    split
    · exact ha
    · rename_i t _
      have := meas_align h t
      exact memR_align h l _ _ (by omega)
/-- one more, behind those that are right -/
theorem goodK_snoc {K : List Kn} (hG : GoodK K) (hl : K.length ≤ 64) {x : Sr} (hm64 : x.mems.length ≤ 64) {n a : Nat} (h : memsK K x.mems [] 0 1 = .inr (n, a)) : GoodK (K ++ [({ x with size := fitN n a, align := a } : Kn)]) := by
  obtain ⟨h1, h2⟩ := mems_right h
  refine ⟨fun i hi => ?_, fun k hk => ?_, by simp; omega, fun k hk => ?_⟩
  · rcases Nat.lt_or_ge i K.length with hlt | hge
    · have e : (K ++ [({ x with size := fitN n a, align := a } : Kn)]).take i = K.take i := by rw [List.take_append_of_le_length (by omega)]
      rw [e, List.getElem_append_left hlt]
      exact hG.mems i hlt
    · obtain rfl : i = K.length := by simp at hi; omega
      have e : (K ++ [({ x with size := fitN n a, align := a } : Kn)]).take K.length = K := by simp
      rw [e, List.getElem_append_right (Nat.le_refl _)]
      simp only [Nat.sub_self, List.getElem_cons_zero]
      exact ⟨h2, n, h1, rfl⟩
  · rcases List.mem_append.1 hk with hk | hk
    · exact hG.al k hk
    · obtain rfl := List.mem_singleton.1 hk
      have := memR_align hG.al x.mems 0 1 ⟨Nat.le_refl _, by decide⟩
      rw [h1] at this
      exact this
  · rcases List.mem_append.1 hk with hk | hk
    · exact hG.mlen k hk
    · obtain rfl := List.mem_singleton.1 hk
      exact hm64
theorem addK_right {K : List Kn} {x : Sr} {k : Kn} (h : addK K x = .inr k) : isNameB x.name = true ∧ (findK K x.name.data.toList).isSome = false ∧ x.mems.length ≤ 64 ∧ x.mems ≠ [] ∧ ∃ n a, memsK K x.mems [] 0 1 = .inr (n, a) ∧ k = { x with size := fitN n a, align := a } ∧ fitN n a ≤ 65536 := by
  unfold addK at h
  split at h
  · cases h
  · rename_i h1
    split at h
    · cases h
    · rename_i h2
      split at h
      · cases h
      · rename_i h3
        split at h
        · cases h
        · rename_i h4
          split at h
          · cases h
          · rename_i n a hm
            split at h
            · cases h
            · rename_i h5
              exact ⟨by simpa using h1, by simpa using h2, by omega, h4, n, a, hm, (Sum.inr.inj h).symm, by omega⟩
/-- what is known of a list: its parts are right -/
structure KnowsK (K : List Kn) (L : List Sr) : Prop where
  good : GoodK K
  fit : FitK K
  list : K.map Kn.toSr = L
theorem knows_nil : KnowsK [] [] := ⟨goodK_nil, fitK_nil, rfl⟩
theorem knows_snoc {K : List Kn} {L : List Sr} {x : Sr} {k : Kn} (h : KnowsK K L) (hl : K.length < 64) (hk : addK K x = .inr k) : KnowsK (K ++ [k]) (L ++ [x]) := by
  obtain ⟨_, _, h3, _, n, a, hm, rfl, _⟩ := addK_right hk
  exact ⟨goodK_snoc h.good (by omega) h3 hm, addK_fit h.fit hl hk, by rw [List.map_append, h.list]; rfl⟩
/-- learn, from whatever place on -/
theorem learnF_knows : ∀ {l L : List Sr} {K K' : List Kn}, KnowsK K L → L.length + l.length ≤ 64 → learnF K l = .inr K' → KnowsK K' (L ++ l)
  | [], L, K, K', h, _, hl => by
    rw [learnF] at hl
    obtain rfl := Sum.inr.inj hl
    rw [List.append_nil]; exact h
  | x :: l, L, K, K', h, hn, hl => by
    rw [learnF] at hl
    have hkl : K.length = L.length := by rw [← h.list, List.length_map]
    simp only [List.length_cons] at hn
    split at hl
    · cases hl
    · rename_i k hk
      have := learnF_knows (knows_snoc h (by omega) hk) (by simp; omega) hl
      rwa [List.append_assoc] at this
theorem learnK_knows {L : List Sr} {K : List Kn} (h : learnK L = .inr K) : KnowsK K L := by
  unfold learnK at h
  split at h
  · cases h
  · have := learnF_knows knows_nil (by simp; omega) h
    exact this

end Go.Proofs.YtlcfejgjeljjdaaDoor
namespace Go.Proofs.YtlcfejgjeljjdaaDoor
open Go.RowKit

theorem IsSrs.mono {B B' : Nat} {w : World} {a : Option Addr} {L : List Sr} {mv : List Value} (h : IsSrs B w a L mv) (hB : B ≤ B') : IsSrs B' w a L mv :=
  ⟨h.len, fun hn => (by
    obtain ⟨b, off, e, hlt, hr⟩ := h.at_ hn
    exact ⟨b, off, e, Nat.lt_of_lt_of_le hlt hB, fun i x v hi hv => (by obtain ⟨h1, h2, h3⟩ := hr i x v hi hv; exact ⟨h1, h2, h3.mono hB⟩)⟩), h.names⟩
end Go.Proofs.YtlcfejgjeljjdaaDoor
namespace Go
end Go
namespace Go.Proofs.YtlcfejgjeljjdaaDoor
open Go.RowKit

theorem blw1 (w : World) (o : Obj) : Below w.heap.size w (w.alloc o).drew := ((Below.refl _ _).alloc (Nat.le_refl _) _).drew
theorem blw2 (w : World) (o o2 : Obj) : Below w.heap.size w ((w.alloc o).alloc o2).drew := (((Below.refl _ _).alloc (Nat.le_refl _) _).alloc (by simp) _).drew
end Go.Proofs.YtlcfejgjeljjdaaDoor
