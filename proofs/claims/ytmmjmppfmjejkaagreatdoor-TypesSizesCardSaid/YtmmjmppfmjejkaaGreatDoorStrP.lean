/- Lists of structs: what is known of them, part by part. Plain. -/
import Derived.Test.YtmmjmppfmjejkaaGreatDoorLearn
import Derived.Test.YtmmjmppfmjejkaaGreatDoorTySize
namespace Go.Proofs.YtmmjmppfmjejkaaGreatDoor
open Go.RowKit

/-- a struct's place in a list -/
def findS (L : List Sr) (s : List UInt8) : Option Nat := L.findIdx? fun k => decide (k.name.data.toList = s)
def placeS (L : List Sr) (s : List UInt8) : Int := match findS L s with
  | some i => (i : Nat)
  | none => -1
theorem findS_map (K : List Kn) (s : List UInt8) : findS (K.map Kn.toSr) s = findK K s := by
  unfold findS findK
  rw [List.findIdx?_map]; rfl
theorem placeS_map (K : List Kn) (s : List UInt8) : placeS (K.map Kn.toSr) s = placeK K s := by
  unfold placeS placeK
  rw [findS_map]
  cases findK K s <;> rfl
theorem findK_take {K : List Kn} {m i : Nat} {s : List UInt8} (h : findK (K.take m) s = some i) : findK K s = some i ∧ i < m := by
  unfold findK at *
  rw [List.findIdx?_eq_some_iff_getElem] at *
  obtain ⟨h1, h2, h3⟩ := h
  rw [List.length_take] at h1
  refine ⟨⟨by omega, by rw [List.getElem_take] at h2; exact h2, fun j hj => ?_⟩, by omega⟩
  have := h3 j hj
  rw [List.getElem_take] at this
  exact this
theorem there_take {K : List Kn} {m : Nat} : ∀ {t : Ty}, thereT (K.take m) t = true → thereT K t = true
  | .arr _ t, h => by rw [thereT] at h ⊢; exact there_take h
  | .str s, h => by
    rw [thereT, Option.isSome_iff_exists] at h
    obtain ⟨i, hi⟩ := h
    rw [thereT, (findK_take hi).1]; rfl
  | .base _, _ => by simp [thereT]
  | .ptr _, _ => by simp [thereT]
  | .fn _ _, _ => by simp [thereT]
theorem meas_take {K : List Kn} {m : Nat} : ∀ {t : Ty}, thereT (K.take m) t = true → measT (K.take m) t = measT K t
  | .arr n t, h => by rw [thereT] at h; rw [measT, measT, meas_take h]
  | .str s, h => by
    rw [thereT, Option.isSome_iff_exists] at h
    obtain ⟨i, hi⟩ := h
    obtain ⟨h1, h2⟩ := findK_take hi
    rw [measT, measT, hi, h1]
    simp only [Option.bind_some]
    rw [List.getElem?_take_of_lt h2]
  | .base _, _ => by simp [measT]
  | .ptr _, _ => by simp [measT]
  | .fn _ _, _ => by simp [measT]
theorem there_snoc {K : List Kn} {k : Kn} {t : Ty} (h : thereT K t = true) : thereT (K ++ [k]) t = true ∧ measT (K ++ [k]) t = measT K t := by
  have e : (K ++ [k]).take K.length = K := by simp
  have h' : thereT ((K ++ [k]).take K.length) t = true := by rw [e]; exact h
  exact ⟨there_take h', by have := meas_take h'; rw [e] at this; exact this.symm⟩

/-- members' bytes and alignment, so far; their types being right -/
def memR (K : List Kn) : List (ByteArray × ByteArray) → Nat → Nat → Nat × Nat
  | [], n, a => (n, a)
  | m :: l, n, a => match tyS m.2 with
    | none => (n, a)
    | some t => memR K l (fitN n (measT K t).2 + (measT K t).1) (max a (measT K t).2)
/-- a member that is right -/
def MemOk (K : List Kn) (m : ByteArray × ByteArray) : Prop := ∃ t, tyS m.2 = some t ∧ checkT K t = 0 ∧ objectT t = true
theorem mems_right {K : List Kn} : ∀ {l : List (ByteArray × ByteArray)} {seen : List ByteArray} {n a n' a' : Nat}, memsK K l seen n a = .inr (n', a') → memR K l n a = (n', a') ∧ ∀ m ∈ l, MemOk K m
  | [], _, _, _, _, _, h => by rw [memsK] at h; exact ⟨Sum.inr.inj h, fun m hm => by cases hm⟩
  | m :: l, seen, n, a, n', a', h => by
    rw [memsK] at h
    split at h
    · cases h
    · split at h
      · cases h
      · split at h
        · cases h
        · rename_i t ht
          split at h
          · cases h
          · rename_i hc
            split at h
            · cases h
            · rename_i ho
              obtain ⟨h1, h2⟩ := mems_right h
              refine ⟨by rw [memR, ht]; exact h1, fun m' hm' => ?_⟩
              rcases List.mem_cons.1 hm' with rfl | hm'
              · exact ⟨t, ht, by simpa using hc, by simpa using ho⟩
              · exact h2 m' hm'
theorem check_there {K : List Kn} {t : Ty} (h : checkT K t = 0) : thereT K t = true ∧ shapeT t = true ∧ sizedT K t = true := by
  unfold checkT at h
  split at h
  · cases h
  · split at h
    · cases h
    · rename_i h1
      split at h
      · cases h
      · rename_i h2
        split at h
        · cases h
        · rename_i h3
          exact ⟨by simpa using h2, by simpa using h1, by simpa using h3⟩
/-- all structs of a list are right, each with those ahead of it -/
structure GoodK (K : List Kn) : Prop where
  mems : ∀ i (h : i < K.length), (∀ m ∈ K[i].mems, MemOk (K.take i) m) ∧ ∃ n, memR (K.take i) K[i].mems 0 1 = (n, K[i].align) ∧ K[i].size = fitN n K[i].align
  al : ∀ k ∈ K, 1 ≤ k.align ∧ k.align ≤ 4
  len : K.length ≤ 65
  mlen : ∀ k ∈ K, k.mems.length ≤ 64
theorem goodK_nil : GoodK [] := ⟨(fun i h => absurd h (Nat.not_lt_zero _)), (fun k h => by cases h), by decide, (fun k h => by cases h)⟩
theorem meas_align {K : List Kn} (h : ∀ k ∈ K, 1 ≤ k.align ∧ k.align ≤ 4) : ∀ t : Ty, 1 ≤ (measT K t).2 ∧ (measT K t).2 ≤ 4
  | .base c => by rw [measT]; repeat' split
                  all_goals decide
  | .ptr _ => by rw [measT]; decide
  | .fn _ _ => by rw [measT]; decide
  | .arr n t => by rw [measT]; exact meas_align h t
  | .str s => by
    rw [measT]
    split
    · rename_i k hk
      obtain ⟨i, _, hi⟩ := Option.bind_eq_some_iff.1 hk
      exact h k (List.mem_of_getElem? hi)
    · decide
theorem memR_align {K : List Kn} (h : ∀ k ∈ K, 1 ≤ k.align ∧ k.align ≤ 4) : ∀ (l : List (ByteArray × ByteArray)) (n a : Nat), 1 ≤ a ∧ a ≤ 4 → 1 ≤ (memR K l n a).2 ∧ (memR K l n a).2 ≤ 4
  | [], _, _, ha => by rw [memR]; exact ha
  | m :: l, n, a, ha => by
    rw [memR]
    split
    · exact ha
    · rename_i t _
      have := meas_align h t
      exact memR_align h l _ _ (by omega)
/-- one more, behind those that are right -/
theorem goodK_snoc {K : List Kn} (hG : GoodK K) (hl : K.length ≤ 64) {x : Sr} (hm64 : x.mems.length ≤ 64) {n a : Nat} (h : memsK K x.mems [] 0 1 = .inr (n, a)) : GoodK (K ++ [({ x with size := fitN n a, align := a } : Kn)]) := by
  obtain ⟨h1, h2⟩ := mems_right h
  refine ⟨fun i hi => ?_, fun k hk => ?_, by simp; omega, fun k hk => ?_⟩
  · rcases Nat.lt_or_ge i K.length with hlt | hge
    · have e : (K ++ [({ x with size := fitN n a, align := a } : Kn)]).take i = K.take i := by rw [List.take_append_of_le_length (by omega)]
      rw [e, List.getElem_append_left hlt]
      exact hG.mems i hlt
    · obtain rfl : i = K.length := by simp at hi; omega
      have e : (K ++ [({ x with size := fitN n a, align := a } : Kn)]).take K.length = K := by simp
      rw [e, List.getElem_append_right (Nat.le_refl _)]
      simp only [Nat.sub_self, List.getElem_cons_zero]
      exact ⟨h2, n, h1, rfl⟩
  · rcases List.mem_append.1 hk with hk | hk
    · exact hG.al k hk
    · obtain rfl := List.mem_singleton.1 hk
      have := memR_align hG.al x.mems 0 1 ⟨Nat.le_refl _, by decide⟩
      rw [h1] at this
      exact this
  · rcases List.mem_append.1 hk with hk | hk
    · exact hG.mlen k hk
    · obtain rfl := List.mem_singleton.1 hk
      exact hm64
theorem addK_right {K : List Kn} {x : Sr} {k : Kn} (h : addK K x = .inr k) : isNameB x.name = true ∧ (findK K x.name.data.toList).isSome = false ∧ x.mems.length ≤ 64 ∧ x.mems ≠ [] ∧ ∃ n a, memsK K x.mems [] 0 1 = .inr (n, a) ∧ k = { x with size := fitN n a, align := a } ∧ fitN n a ≤ 65536 := by
  unfold addK at h
  split at h
  · cases h
  · rename_i h1
    split at h
    · cases h
    · rename_i h2
      split at h
      · cases h
      · rename_i h3
        split at h
        · cases h
        · rename_i h4
          split at h
          · cases h
          · rename_i n a hm
            split at h
            · cases h
            · rename_i h5
              exact ⟨by simpa using h1, by simpa using h2, by omega, h4, n, a, hm, (Sum.inr.inj h).symm, by omega⟩
/-- what is known of a list: its parts are right -/
structure KnowsK (K : List Kn) (L : List Sr) : Prop where
  good : GoodK K
  fit : FitK K
  list : K.map Kn.toSr = L
theorem knows_nil : KnowsK [] [] := ⟨goodK_nil, fitK_nil, rfl⟩
theorem knows_snoc {K : List Kn} {L : List Sr} {x : Sr} {k : Kn} (h : KnowsK K L) (hl : K.length < 64) (hk : addK K x = .inr k) : KnowsK (K ++ [k]) (L ++ [x]) := by
  obtain ⟨_, _, h3, _, n, a, hm, rfl, _⟩ := addK_right hk
  exact ⟨goodK_snoc h.good (by omega) h3 hm, addK_fit h.fit hl hk, by rw [List.map_append, h.list]; rfl⟩
/-- learn, from whatever place on -/
theorem learnF_knows : ∀ {l L : List Sr} {K K' : List Kn}, KnowsK K L → L.length + l.length ≤ 64 → learnF K l = .inr K' → KnowsK K' (L ++ l)
  | [], L, K, K', h, _, hl => by
    rw [learnF] at hl
    obtain rfl := Sum.inr.inj hl
    rw [List.append_nil]; exact h
  | x :: l, L, K, K', h, hn, hl => by
    rw [learnF] at hl
    have hkl : K.length = L.length := by rw [← h.list, List.length_map]
    simp only [List.length_cons] at hn
    split at hl
    · cases hl
    · rename_i k hk
      have := learnF_knows (knows_snoc h (by omega) hk) (by simp; omega) hl
      rwa [List.append_assoc] at this
theorem learnK_knows {L : List Sr} {K : List Kn} (h : learnK L = .inr K) : KnowsK K L := by
  unfold learnK at h
  split at h
  · cases h
  · have := learnF_knows knows_nil (by simp; omega) h
    exact this

/-- a size, cut: as the reference reckons -/
def cutN (n : Nat) : Nat := min n 65537
theorem memR_cut {n m b a : Nat} (h : m = cutN n) (ha : 0 < a) : cutN (fitN m a + cutN b) = cutN (fitN n a + b) := cut_fit h ha
theorem memR_snoc {K : List Kn} : ∀ {l : List (ByteArray × ByteArray)} {m : ByteArray × ByteArray} {t : Ty} {n a : Nat}, (∀ m ∈ l, MemOk K m) → tyS m.2 = some t → memR K (l ++ [m]) n a = (fitN (memR K l n a).1 (measT K t).2 + (measT K t).1, max (memR K l n a).2 (measT K t).2)
  | [], m, t, n, a, _, ht => by simp [memR, ht]
  | m' :: l, m, t, n, a, hok, ht => by
    obtain ⟨t', ht', _⟩ := hok m' (by simp)
    rw [List.cons_append, memR, memR, ht']
    simp only
    exact memR_snoc (fun m hm => hok m (by simp [hm])) ht
end Go.Proofs.YtmmjmppfmjejkaaGreatDoor
