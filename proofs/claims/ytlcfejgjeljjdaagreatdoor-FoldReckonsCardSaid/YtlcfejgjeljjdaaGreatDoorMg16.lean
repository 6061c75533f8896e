/- Rows of one's own, as lists of elements of k cells each. · Lists of structs: what is known of them, part by part. Plain. · The reference's numbers in a code: where digits end; a whole number. · The reference's first letter of a type; what a pointer points to, an array has. -/
import Derived.Test.YtlcfejgjeljjdaaGreatDoorMg15
import Derived.Test.YtlcfejgjeljjdaaGreatDoorMg14
import Derived.Test.YtlcfejgjeljjdaaGreatDoorMg3
import Derived.Test.YtlcfejgjeljjdaaGreatDoorMg8
import Derived.Deep.DeepCutAuto
namespace Go.Proofs.YtlcfejgjeljjdaaGreatDoor
open Go.RowKit

theorem flat_at {α : Type} {k : Nat} {cells : α → List Value} (hk : ∀ a, (cells a).length = k) : ∀ {L : List α} {i j : Nat} {a : α} {u : Value}, L[i]? = some a → (cells a)[j]? = some u → (L.flatMap cells)[i * k + j]? = some u
  | [], _, _, _, _, h, _ => by simp at h
  | b :: L, 0, j, a, u, h, hu => by
    obtain rfl := Option.some.inj h
    have hj := (List.getElem?_eq_some_iff.1 hu).1
    rw [List.flatMap_cons, Nat.zero_mul, Nat.zero_add, List.getElem?_append_left hj]
    exact hu
  | b :: L, i + 1, j, a, u, h, hu => by
    rw [List.flatMap_cons, List.getElem?_append_right (by rw [hk, Nat.add_mul]; omega), hk, show (i + 1) * k + j - k = i * k + j by rw [Nat.add_mul]; omega]
    exact flat_at hk (by simpa using h) hu
theorem addN (b off j : Nat) : (⟨b, off, none⟩ : Addr).add j = ⟨b, off + j, none⟩ := by unfold Addr.add; split <;> simp_all
/-- a row of one's own is a slice -/
theorem own_sl {α : Type} {k : Nat} {cells : α → List Value} (hk : ∀ a, (cells a).length = k) {w : World} {base n : Nat} {T : TypeId} {v : Value} {L : List α} (h : w.ownsRow base T k v n (L.flatMap cells)) (hn : n = L.length) : ∃ a cap, v = .slice a L.length cap ∧ IsSl k cells w.heap.size w a L ∧ (a = none → L = [] ∧ cap = 0) := by
  subst hn
  rcases h.2 with ⟨rfl, h0⟩ | ⟨g, cap, cur, rfl, _, hg, _⟩
  · have : L = [] := List.eq_nil_of_length_eq_zero h0
    subst this
    exact ⟨none, 0, rfl, isSl_nil, fun _ => ⟨rfl, rfl⟩⟩
  · refine ⟨_, cap, rfl, fun _ => ⟨g, 0, rfl, lt_of_heap hg, fun i a ha j u hu => ?_⟩, fun h => by cases h⟩
    have := h.cells (g := g) rfl _ _ (flat_at hk ha hu)
    rw [addN, ← Nat.add_assoc] at this
    exact this
/-- the first so many of a row -/
theorem own_take {w : World} {base n g cap size : Nat} {T : TypeId} {xs : List Value} (h : w.ownsRow base T size (.slice (some ⟨g, 0, none⟩) n cap) n xs) {m : Nat} (hm : m ≤ n) : w.ownsRow base T size (.slice (some ⟨g, 0, none⟩) m cap) m (xs.take (m * size)) := by
  obtain ⟨h1, h2 | ⟨g', cap', cur, e, hb, hg, hnc, hcm, hcs, ht⟩⟩ := h
  · simp at h2
  · simp only [Value.slice.injEq, Option.some.injEq, Addr.mk.injEq, and_true, true_and] at e
    obtain ⟨rfl, rfl⟩ := e
    have hle : m * size ≤ n * size := Nat.mul_le_mul_right size hm
    refine ⟨by rw [List.length_take]; omega, .inr ⟨g, cap, cur, rfl, hb, hg, by omega, hcm, hcs, ?_⟩⟩
    rw [← ht, List.take_take, Nat.min_eq_left hle]
end Go.Proofs.YtlcfejgjeljjdaaGreatDoor
namespace Go.Proofs.YtlcfejgjeljjdaaGreatDoor
open Go.RowKit

/-- members' bytes and alignment, so far; their types being right -/
def memR (K : List Kn) : List (ByteArray × ByteArray) → Nat → Nat → Nat × Nat
  | [], n, a => (n, a)
  | m :: l, n, a => match tyS m.2 with
    | none => (n, a)
    | some t => memR K l (fitN n (measT K t).2 + (measT K t).1) (max a (measT K t).2)
/-- a member that is right -/
def MemOk (K : List Kn) (m : ByteArray × ByteArray) : Prop := ∃ t, tyS m.2 = some t ∧ checkT K t = 0 ∧ objectT t = true
theorem mems_right {K : List Kn} : ∀ {l : List (ByteArray × ByteArray)} {seen : List ByteArray} {n a n' a' : Nat}, memsK K l seen n a = .inr (n', a') → memR K l n a = (n', a') ∧ ∀ m ∈ l, MemOk K m
  | [], _, _, _, _, _, h => by rw [memsK] at h; exact ⟨Sum.inr.inj h, fun m hm => by cases hm⟩
  | m :: l, seen, n, a, n', a', h => by
    rw [memsK] at h
    split at h
    · cases h
    · split at h
      · cases h
      · split at h
        · cases h
        · rename_i t ht
          split at h
          · cases h
          · rename_i hc
            split at h
            · cases h
            · rename_i ho
              obtain ⟨h1, h2⟩ := mems_right h
              refine ⟨by rw [memR, ht]; exact h1, fun m' hm' => ?_⟩
              rcases List.mem_cons.1 hm' with rfl | hm'
              · exact ⟨t, ht, by simpa using hc, by simpa using ho⟩
              · exact h2 m' hm'
/-- all structs of a list are right, each with those ahead of it -/
structure GoodK (K : List Kn) : Prop where
  mems : ∀ i (h : i < K.length), (∀ m ∈ K[i].mems, MemOk (K.take i) m) ∧ ∃ n, memR (K.take i) K[i].mems 0 1 = (n, K[i].align) ∧ K[i].size = fitN n K[i].align
  al : ∀ k ∈ K, 1 ≤ k.align ∧ k.align ≤ 4
  len : K.length ≤ 65
  mlen : ∀ k ∈ K, k.mems.length ≤ 64
theorem goodK_nil : GoodK [] := ⟨(fun i h => absurd h (Nat.not_lt_zero _)), (fun k h => by cases h), by decide, (fun k h => by cases h)⟩
theorem meas_align {K : List Kn} (h : ∀ k ∈ K, 1 ≤ k.align ∧ k.align ≤ 4) : ∀ t : Ty, 1 ≤ (measT K t).2 ∧ (measT K t).2 ≤ 4
  | .base c => by rw [measT]; repeat' split
                  all_goals decide
  | .ptr _ => by rw [measT]; decide
  | .fn _ _ => by rw [measT]; decide
  | .arr n t => by rw [measT]; exact meas_align h t
  | .str s => by
    rw [measT]
    split
    · rename_i k hk
      obtain ⟨i, _, hi⟩ := Option.bind_eq_some_iff.1 hk
      exact h k (List.mem_of_getElem? hi)
    · decide
theorem memR_align {K : List Kn} (h : ∀ k ∈ K, 1 ≤ k.align ∧ k.align ≤ 4) : ∀ (l : List (ByteArray × ByteArray)) (n a : Nat), 1 ≤ a ∧ a ≤ 4 → 1 ≤ (memR K l n a).2 ∧ (memR K l n a).2 ≤ 4
  | [], _, _, ha => by rw [memR]; exact ha
  | m :: l, n, a, ha => by
    rw [memR]
    split
    · exact ha
    · rename_i t _
      have := meas_align h t
      exact memR_align h l _ _ (by omega)
/-- one more, behind those that are right -/
theorem goodK_snoc {K : List Kn} (hG : GoodK K) (hl : K.length ≤ 64) {x : Sr} (hm64 : x.mems.length ≤ 64) {n a : Nat} (h : memsK K x.mems [] 0 1 = .inr (n, a)) : GoodK (K ++ [({ x with size := fitN n a, align := a } : Kn)]) := by
  obtain ⟨h1, h2⟩ := mems_right h
  refine ⟨fun i hi => ?_, fun k hk => ?_, by simp; omega, fun k hk => ?_⟩
  · rcases Nat.lt_or_ge i K.length with hlt | hge
    · have e : (K ++ [({ x with size := fitN n a, align := a } : Kn)]).take i = K.take i := by rw [List.take_append_of_le_length (by omega)]
      rw [e, List.getElem_append_left hlt]
      exact hG.mems i hlt
    · obtain rfl : i = K.length := by simp at hi; omega
      have e : (K ++ [({ x with size := fitN n a, align := a } : Kn)]).take K.length = K := by simp
      rw [e, List.getElem_append_right (Nat.le_refl _)]
      simp only [Nat.sub_self, List.getElem_cons_zero]
      exact ⟨h2, n, h1, rfl⟩
  · rcases List.mem_append.1 hk with hk | hk
    · exact hG.al k hk
    · obtain rfl := List.mem_singleton.1 hk
      have := memR_align hG.al x.mems 0 1 ⟨Nat.le_refl _, by decide⟩
      rw [h1] at this
      exact this
  · rcases List.mem_append.1 hk with hk | hk
    · exact hG.mlen k hk
    · obtain rfl := List.mem_singleton.1 hk
      exact hm64
theorem addK_right {K : List Kn} {x : Sr} {k : Kn} (h : addK K x = .inr k) : isNameB x.name = true ∧ (findK K x.name.data.toList).isSome = false ∧ x.mems.length ≤ 64 ∧ x.mems ≠ [] ∧ ∃ n a, memsK K x.mems [] 0 1 = .inr (n, a) ∧ k = { x with size := fitN n a, align := a } ∧ fitN n a ≤ 65536 := by
  unfold addK at h
  split at h
  · cases h
  · rename_i h1
    split at h
    · cases h
    · rename_i h2
      split at h
      · cases h
      · rename_i h3
        split at h
        · cases h
        · rename_i h4
          split at h
          · cases h
          · rename_i n a hm
            split at h
            · cases h
            · rename_i h5
              exact ⟨by simpa using h1, by simpa using h2, by omega, h4, n, a, hm, (Sum.inr.inj h).symm, by omega⟩
/-- what is known of a list: its parts are right -/
structure KnowsK (K : List Kn) (L : List Sr) : Prop where
  good : GoodK K
  fit : FitK K
  list : K.map Kn.toSr = L
theorem knows_nil : KnowsK [] [] := ⟨goodK_nil, fitK_nil, rfl⟩
theorem knows_snoc {K : List Kn} {L : List Sr} {x : Sr} {k : Kn} (h : KnowsK K L) (hl : K.length < 64) (hk : addK K x = .inr k) : KnowsK (K ++ [k]) (L ++ [x]) := by
  obtain ⟨_, _, h3, _, n, a, hm, rfl, _⟩ := addK_right hk
  exact ⟨goodK_snoc h.good (by omega) h3 hm, addK_fit h.fit hl hk, by rw [List.map_append, h.list]; rfl⟩
/-- learn, from whatever place on -/
theorem learnF_knows : ∀ {l L : List Sr} {K K' : List Kn}, KnowsK K L → L.length + l.length ≤ 64 → learnF K l = .inr K' → KnowsK K' (L ++ l)
  | [], L, K, K', h, _, hl => by
    rw [learnF] at hl
    obtain rfl := Sum.inr.inj hl
    rw [List.append_nil]; exact h
  | x :: l, L, K, K', h, hn, hl => by
    rw [learnF] at hl
    have hkl : K.length = L.length := by rw [← h.list, List.length_map]
    simp only [List.length_cons] at hn
    split at hl
    · cases hl
    · rename_i k hk
      have := learnF_knows (knows_snoc h (by omega) hk) (by simp; omega) hl
      rwa [List.append_assoc] at this
theorem learnK_knows {L : List Sr} {K : List Kn} (h : learnK L = .inr K) : KnowsK K L := by
  unfold learnK at h
  split at h
  · cases h
  · have := learnF_knows knows_nil (by simp; omega) h
    exact this

end Go.Proofs.YtlcfejgjeljjdaaGreatDoor
namespace Go.Proofs.YtlcfejgjeljjdaaGreatDoor
open Go.RowKit

/-- how many digits come first -/
def runN (l : List UInt8) : Nat := (l.takeWhile digB).length
theorem runN_yes {c : UInt8} {l : List UInt8} (h : digB c = true) : runN (c :: l) = runN l + 1 := by simp [runN, h]
theorem runN_no {c : UInt8} {l : List UInt8} (h : digB c = false) : runN (c :: l) = 0 := by simp [runN, h]
theorem runN_nil : runN [] = 0 := rfl
theorem ret_num {a b : Int} (h : a = b) : Ending.returned (.int .i64 a) = .returned (.int .i64 b) := by rw [h]
set_option maxHeartbeats 2000000 in
theorem refDigits_ok (s : ByteArray) (k : Nat) (hk : k ≤ s.size) (hs : s.size ≤ 1048576) (w : World) : Calls Tryz.prog 119 #[.string s, .int .i64 (k : Int)] w fun e w' => e = .returned (.int .i64 ((k + runN (sfx s k) : Nat) : Int)) ∧ w' = w := by
  have hs' : (s.size : Int) ≤ 1048576 := by omega
  go_enter Tryz.func119, Tryz.ntmps119
  go_wp2_with fail
  go_loopg [1] (s.size - k) (fun g v wy => ∃ j : Nat, j ≤ s.size ∧ j + g = s.size ∧ v = .int .i64 (j : Int) ∧ Hid (k + runN (sfx s k) = j + runN (sfx s j)) ∧ w = wy)
  case atStart => exact ⟨k, hk, by omega, rfl, rfl, rfl⟩
  case round =>
    obtain ⟨j, hj, hjg, rfl, hr, rfl⟩ := hrel
    by_cases hlt : j < s.size
    · by_cases hd : digB s[j] = true
      · have HN := Lib.hid (show k + runN (sfx s k) = (j + 1) + runN (sfx s (j + 1)) by
          rw [hr.out, sfx_cons s j hlt, runN_yes hd]; omega)
        have h2 := of_decide_eq_true hd
        have t1 : (48 : Int) ≤ s[j].toNat := by omega
        have t2 : (s[j].toNat : Int) ≤ 57 := by omega
        clear hd h2
        go_wp2_with fail
        go_roundg (s.size - (j + 1))
        case measure => omega
        case rel => exact ⟨j + 1, by omega, by omega, by rw [Int.natCast_add]; rfl, HN.out, rfl⟩
      · have hd' : digB s[j] = false := by simpa using hd
        have hfin := Lib.hid (show k + runN (sfx s k) = j by rw [hr.out, sfx_cons s j hlt, runN_no hd']; omega)
        have h2 : ¬ (48 ≤ s[j].toNat ∧ s[j].toNat ≤ 57) := of_decide_eq_false hd'
        have h3 : (s[j].toNat : Int) < 48 ∨ ((48 : Int) ≤ s[j].toNat ∧ (57 : Int) < s[j].toNat) := by omega
        clear hd hd' h2
        rcases h3 with t1 | ⟨t1, t2⟩
        all_goals
          go_wp2_with fail
          go_ret
          exact ⟨ret_num (by have := hfin.out; omega), rfl⟩
    · have hfin := Lib.hid (show k + runN (sfx s k) = j by rw [hr.out, sfx_nil s j (by omega), runN_nil]; omega)
      have t3 : (s.size : Int) ≤ (j : Int) := by omega
      go_wp2_with fail
      go_ret
      exact ⟨ret_num (by have := hfin.out; omega), rfl⟩

set_option maxHeartbeats 4000000 in
set_option maxRecDepth 100000 in
theorem refWhole_ok (s : ByteArray) (w : World) : Calls Tryz.prog 120 #[.string s, .int .i64 1099511627776] w (Numbered (numT s.data.toList) w) := by
  have hl : s.data.toList.length = s.size := by rw [Array.length_toList]; rfl
  have Hl := Lib.hid hl
  clear hl
  by_cases h0 : s.size = 0
  · have hfin := Lib.hid (show numT s.data.toList = none by unfold numT; rw [if_pos (.inl (List.eq_nil_of_length_eq_zero (by rw [Hl.out]; exact h0)))])
    have t1 : ((s.size : Int) == 0) = true := by rw [beq_iff_eq]; omega
    go_enter Tryz.func120, Tryz.ntmps120
    go_wp2_with fail
    go_ret2
    exact numbered_no hfin.out (Below.refl _ _)
  · have t1 : ((s.size : Int) == 0) = false := by rw [beq_eq_false_iff_ne]; omega
    by_cases h15 : 15 < s.size
    · have hfin := Lib.hid (numT_long (l := s.data.toList) (by rw [Hl.out]; exact h15))
      have t2 : (15 : Int) < s.size := by omega
      go_enter Tryz.func120, Tryz.ntmps120
      go_wp2_with fail
      go_ret2
      exact numbered_no hfin.out (Below.refl _ _)
    · have t2 : (s.size : Int) ≤ 15 := by omega
      by_cases hz : 1 < s.size ∧ s.data.toList.head? = some 48
      · have hfin := Lib.hid (numT_zero (l := s.data.toList) (by rw [Hl.out]; exact hz.1) hz.2)
        have h1 : 0 < s.size := by omega
        have t3 : (1 : Int) < s.size := by omega
        have t4 : ((s[0].toNat : Int) == 48) = true := by
          have := hz.2
          rw [head_at s h1] at this
          simp [Option.some.inj this]
        clear hz
        go_enter Tryz.func120, Tryz.ntmps120
        go_wp2_with fail
        go_ret2
        exact numbered_no hfin.out (Below.refl _ _)
      · have h1 : 0 < s.size := by omega
        have HZ := Lib.hid (show 1 < s.data.toList.length → s.data.toList.head? ≠ some 48 from fun a b => hz ⟨by rw [Hl.out] at a; exact a, b⟩)
        have hz' : ((s.size : Int) ≤ 1) ∨ ((1 : Int) < s.size ∧ ((s[0].toNat : Int) == 48) = false) := by
          by_cases h : 1 < s.size
          · refine .inr ⟨by omega, ?_⟩
            have h3 : s.data.toList.head? ≠ some 48 := fun e => hz ⟨h, e⟩
            rw [head_at s h1] at h3
            rw [beq_eq_false_iff_ne]
            intro e
            have e' : s[0].toNat = 48 := by omega
            exact h3 (by rw [Option.some.injEq]; exact UInt8.toNat_inj.1 e')
          · exact .inl (by omega)
        clear hz
        go_enter Tryz.func120, Tryz.ntmps120
        go_upto_region 1 with fail
        go_cut [25] (fun v wx => v = .bool false ∧ w = wx)
        case first =>
          rcases hz' with h | ⟨h, h'⟩
          all_goals
            go_wp2_with fail
            go_meet
            exact ⟨by congr 1; simp_all; try omega, rfl⟩
        case rest =>
          obtain ⟨rfl, rfl⟩ := hcut
          clear hz'
          go_wp2_with fail
          go_loopg [6, 7] s.size (fun g nv i wy => ∃ k : Nat, k ≤ s.size ∧ k + g = s.size ∧ i = .int .i64 (k : Int) ∧ nv = .int .i64 (valT (s.data.toList.take k) : Nat) ∧ Hid ((s.data.toList.take k).all digB = true) ∧ w = wy)
          case atStart => exact ⟨0, Nat.zero_le _, by omega, rfl, rfl, rfl, rfl⟩
          case round =>
            obtain ⟨k, hk, hkg, rfl, rfl, hd, rfl⟩ := hrel
            have hv : valT (s.data.toList.take k) < 10 ^ 15 := Nat.lt_of_lt_of_le (valT_bd _ _ rfl hd.out) (Nat.pow_le_pow_right (by decide) (by rw [List.length_take]; omega))
            have hv' : (valT (s.data.toList.take k) : Int) < 1000000000000000 := by omega
            clear hv
            by_cases hlt : k < s.size
            · have HT := Lib.hid (take_snoc s k hlt)
              rcases hdk : digB s[k] with _ | _
              · have hfin := Lib.hid (show numT s.data.toList = none from numT_bad (by
                  rw [Bool.eq_false_iff]; intro e
                  have := List.all_eq_true.1 e _ (List.getElem_mem (l := s.data.toList) (n := k) (by rw [Hl.out]; exact hlt))
                  rw [show s.data.toList[k]'(by rw [Hl.out]; exact hlt) = s[k] from rfl, hdk] at this; cases this))
                have hw : (s[k].toNat : Int) < 48 ∨ (48 ≤ (s[k].toNat : Int) ∧ 57 < (s[k].toNat : Int)) := by
                  unfold digB at hdk
                  rw [decide_eq_false_iff_not] at hdk
                  omega
                clear hdk
                rcases hw with h | ⟨h, h'⟩
                all_goals
                  go_wp2_with fail
                  go_ret2
                  exact numbered_no hfin.out (Below.refl _ _)
              · have h1 : 48 ≤ (s[k].toNat : Int) ∧ (s[k].toNat : Int) ≤ 57 := by
                  unfold digB at hdk
                  rw [decide_eq_true_iff] at hdk
                  omega
                obtain ⟨h1, h2⟩ := h1
                have hd' := Lib.hid (show (s.data.toList.take (k + 1)).all digB = true by rw [HT.out, List.all_append, hd.out]; simp [hdk])
                have hv2 := Lib.hid (show valT (s.data.toList.take (k + 1)) = 10 * valT (s.data.toList.take k) + (s[k].toNat - 48) by rw [HT.out, valT_snoc])
                clear hdk
                have hx0 : (0 : Int) ≤ (valT (s.data.toList.take k) : Int) := by omega
                have HV := Lib.hid (show (valT (s.data.toList.take (k + 1)) : Int) = 10 * (valT (s.data.toList.take k) : Int) + (s[k].toNat : Int) - 48 by have := hv2.out; omega)
                clear hv2
                generalize (valT (s.data.toList.take k) : Int) = x at hv' hx0 HV ⊢
                go_wp2_with fail
                go_roundg (s.size - (k + 1))
                case measure => omega
                case rel => exact ⟨k + 1, by omega, by omega, by rw [Int.natCast_add]; rfl, by rw [HV.out], hd', rfl⟩
            · obtain rfl : k = s.size := by omega
              rw [← Hl.out, List.take_length] at hd hv'
              have e1 := Lib.hid (show s.data.toList.take s.size = s.data.toList by rw [← Hl.out, List.take_length])
              have hfin := Lib.hid (numT_end (l := s.data.toList) (by intro e; rw [e] at Hl; exact h0 Hl.out.symm) (by rw [Hl.out]; omega) HZ.out hd.out)
              rw [e1.out]
              obtain ⟨n, en⟩ : ∃ n, n = valT s.data.toList := ⟨_, rfl⟩
              rw [← en] at hfin hv' ⊢
              clear hd en
              have t3 : (s.size : Int) ≤ (s.size : Int) := Int.le_refl _
              go_wp2_with fail
              go_ret2
              exact numbered_end hfin.out (Below.refl _ _)
end Go.Proofs.YtlcfejgjeljjdaaGreatDoor
namespace Go.Proofs.YtlcfejgjeljjdaaGreatDoor
open Go.RowKit

theorem runN_app {l r : List UInt8} (h : l.all digB = true) (hr : ∀ c, r.head? = some c → digB c = false) : runN (l ++ r) = l.length := by
  unfold runN
  induction l with
  | nil =>
    cases r with
    | nil => rfl
    | cons c r => simp [hr c rfl]
  | cons c l ih =>
    rw [List.all_cons, Bool.and_eq_true] at h
    simp [h.1, ih h.2]

end Go.Proofs.YtlcfejgjeljjdaaGreatDoor
