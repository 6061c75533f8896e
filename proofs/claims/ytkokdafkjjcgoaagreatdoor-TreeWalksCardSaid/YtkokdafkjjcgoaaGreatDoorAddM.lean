/- Maps from texts to numbers, by what is looked up in them; one more name that is known. · One more struct: the plain laws behind it. · Structs that are known, while one more is put behind them: each part by itself. · One more struct: the program. · Structs are looked at one by one: the program. · Sizes, cut at a bound: the reference's reckoning against the plain one. Plain: nothing of the program. · Lists of structs: what is known of them, part by part. Plain. -/
import Derived.Test.YtkokdafkjjcgoaaGreatDoorKnM
import Derived.Deep.AppendLies
import Derived.OrdersHeld
import Derived.StillTail
import Derived.RegionTactic
import Derived.Deep.RegionLaw
import Derived.StillTailTactics
import Derived.Deep.DeepCutAuto
import Derived.Laws.OwnMore
import Derived.Test.YtkokdafkjjcgoaaGreatDoorLowM
namespace Go.Proofs.YtkokdafkjjcgoaaGreatDoor
open Go.RowKit Go.Maps

/-- block b is a map of at most n names that gives f -/
def MapF (w : World) (b n : Nat) (f : List UInt8 → Int × Bool) : Prop := ∃ D : DataW Unit, w.ownsMap Tryz.prog 9 (plainElem Tryz.prog 3) b n D ∧
  ∀ s : List UInt8, has D (.string s) = (f s).2 ∧ D.atKey (.string s) (.lit (.int .i64 0)) = .lit (.int .i64 (f s).1)
theorem NamesAt.def {w : World} {b : Nat} {K : List Kn} : NamesAt w b K ↔ MapF w b K.length (lookV K) := Iff.rfl
theorem MapF.look {w : World} {b n : Nat} {f : List UInt8 → Int × Bool} (h : MapF w b n f) {s : ByteArray} (hs : s.size ≤ maxLen) :
    (Instr.lookup 212 (.map (some b)) (.string s) false).run Tryz.prog w = .ok (.int .i64 (f s.data.toList).1) w := by
  obtain ⟨D, hD, hv⟩ := h
  have hkey := Go.WideMaps.keyOf_string_mk (P := Tryz.prog) Tryz.underlying9 hs
  obtain ⟨c, hrun, hat, _⟩ := hD.lookup_int keyedS Tryz.underlying212 Tryz.underlying3 (zeroI w) hkey
  obtain ⟨_, h2⟩ := hv s.data.toList
  rw [h2] at hat
  simp only [DataW.lit.injEq, Lit.int.injEq, true_and] at hat
  rw [hat]; exact hrun
theorem MapF.other {w : World} {b n : Nat} {f : List UInt8 → Int × Bool} (h : MapF w b n f) (a : Addr) (ha : b ≠ a.block) (v : Value) : MapF (w.setCell a v) b n f := by
  obtain ⟨D, hD, hv⟩ := h
  exact ⟨D, hD.setCell ha v, hv⟩
theorem MapF.below {w w' : World} {b n : Nat} {f : List UInt8 → Int × Bool} (h : MapF w b n f) (hb : Below w.heap.size w w') : MapF w' b n f := by
  obtain ⟨D, hD, hv⟩ := h
  exact ⟨D, hD.kept (row := none) ⟨hb.os, hb.tape, hb.output, hb.size, fun k hk _ => hb.block k hk⟩ (by simp), hv⟩
theorem MapF.store {w : World} {b n : Nat} {f : List UInt8 → Int × Bool} (h : MapF w b n f) (hn : n < maxLen) {s : ByteArray} (hs : s.size ≤ maxLen) {v : Int} (hv : (Lit.int .i64 v).wf = true) :
    ∃ w', (Instr.mapUpdate 212 (.map (some b)) (.string s) (.int .i64 v)).run Tryz.prog w = .ok () w' ∧
      MapF w' b (n + 1) (fun t => if t = s.data.toList then (v, true) else f t) ∧ w.mapTurned w' b := by
  obtain ⟨D, hD, hf⟩ := h
  have hkey := Go.WideMaps.keyOf_string_mk (P := Tryz.prog) Tryz.underlying9 hs
  obtain ⟨w', hrun, h1, h2⟩ := hD.store keyedS Tryz.underlying212 hn hkey (plainElem_int (H := Unit) Tryz.underlying3 hv)
  refine ⟨w', hrun, ⟨_, h1, fun t => ?_⟩, h2⟩
  by_cases e : t = s.data.toList
  · subst e
    simp only [if_true]
    exact ⟨has_put_same hD.isMap (by simp [WideAt.IsKeyLit]) _, atKey_put_same hD.isMap (by simp [WideAt.IsKeyLit]) _ _⟩
  · simp only [if_neg e]
    have e' : Lit.string t ≠ Lit.string s.data.toList := fun h => e (Lit.string.inj h)
    rw [has_put_other e', atKey_put_other e']
    exact hf t
end Go.Proofs.YtkokdafkjjcgoaaGreatDoor
namespace Go.Proofs.YtkokdafkjjcgoaaGreatDoor
open Go.RowKit Go.Maps

theorem findK_snoc (K : List Kn) (k : Kn) (s : List UInt8) : findK (K ++ [k]) s = (findK K s).or (if s = k.name.data.toList then some K.length else none) := by
  unfold findK
  rw [List.findIdx?_append]
  congr 1
  by_cases h : s = k.name.data.toList
  · simp [List.findIdx?_cons, h]
  · have h' : ¬ k.name.data.toList = s := fun e => h e.symm
    simp [List.findIdx?_cons, h, h']
theorem meas_al {K : List Kn} (hF : FitK K) : ∀ t : Ty, 1 ≤ (measT K t).2 ∧ (measT K t).2 ≤ 4
  | .base c => by
    rw [measT]
    split
    · exact ⟨Nat.le_refl _, by decide⟩
    · split
      · exact ⟨by decide, by decide⟩
      · split <;> exact ⟨by decide, by decide⟩
  | .ptr _ => by rw [measT]; exact ⟨by decide, by decide⟩
  | .fn _ _ => by rw [measT]; exact ⟨by decide, by decide⟩
  | .arr n t => by rw [measT]; exact meas_al hF t
  | .str s => by
    rw [measT]
    split
    · rename_i k hk
      obtain ⟨i, _, hi⟩ := Option.bind_eq_some_iff.1 hk
      exact (hF.2 k (List.mem_of_getElem? hi)).2
    · exact ⟨by decide, by decide⟩
/-- the first place from n on that fits, as the program reckons it -/
theorem fit_bd (n a : Nat) (h1 : 1 ≤ a) (h4 : a ≤ 4) : n ≤ fitN n a ∧ fitN n a ≤ n + 3 := by
  unfold fitN
  have : a = 1 ∨ a = 2 ∨ a = 3 ∨ a = 4 := by omega
  rcases this with rfl | rfl | rfl | rfl <;> omega
theorem addK_bd {K : List Kn} {x : Sr} {k : Kn} (h : addK K x = .inr k) : k.toSr = x ∧ (findK K x.name.data.toList).isSome = false ∧ k.size ≤ 65536 := by
  unfold addK at h
  split at h
  · cases h
  · split at h
    · cases h
    · rename_i h2
      split at h
      · cases h
      · split at h
        · cases h
        · split at h
          · cases h
          · split at h
            · cases h
            · obtain rfl := Sum.inr.inj h
              exact ⟨rfl, by simpa using h2, by simp only; omega⟩

end Go.Proofs.YtkokdafkjjcgoaaGreatDoor
namespace Go.Proofs.YtkokdafkjjcgoaaGreatDoor
open Go.RowKit Go.Maps

section
variable {B b mb : Nat} {w w' : World} {c0 c2 c3 lv sv av : Value} {n : Nat} {f : List UInt8 → Int × Bool} {nl ns na : Nat} {ll ls la : List Value}

theorem MapF.lt (h : MapF w mb n f) : mb < w.heap.size := by
  obtain ⟨D, ⟨es, clock, hb, _⟩, _⟩ := h
  exact lt_of_heap hb
theorem MapF.kept {row : Option Nat} (h : MapF w mb n f) (hg : w.grownBy w' row) (hne : some mb ≠ row) : MapF w' mb n f := by
  obtain ⟨D, hD, hv⟩ := h
  exact ⟨D, hD.kept hg hne, hv⟩
end
end Go.Proofs.YtkokdafkjjcgoaaGreatDoor
namespace Go.Proofs.YtkokdafkjjcgoaaGreatDoor
open Go.RowKit Go.Maps

/-- members, in block b from off on -/
def MemRow (w : World) (b off : Nat) (L : List (ByteArray × ByteArray)) : Prop := ∀ i m, L[i]? = some m → w.cell? ⟨b, off + i * 2, none⟩ = some (.string m.1) ∧ w.cell? ⟨b, off + i * 2 + 1, none⟩ = some (.string m.2)
/-- a slice of members, below B -/
def IsMems (B : Nat) (w : World) (v : Value) (L : List (ByteArray × ByteArray)) : Prop := ∃ a cap, v = .slice a L.length cap ∧ (L ≠ [] → ∃ b off, a = some ⟨b, off, none⟩ ∧ b < B ∧ MemRow w b off L)
theorem MemRow.below {B b off : Nat} {w w' : World} {L : List (ByteArray × ByteArray)} (h : MemRow w b off L) (hb : Below B w w') (hB : b < B) : MemRow w' b off L := fun i m hi => by
  rw [hb.cell hB, hb.cell hB]
  exact h i m hi
theorem IsMems.below {B B' : Nat} {w w' : World} {v : Value} {L : List (ByteArray × ByteArray)} (h : IsMems B w v L) (hb : Below B' w w') (hB : B ≤ B') : IsMems B w' v L := by
  obtain ⟨a, cap, rfl, hr⟩ := h
  refine ⟨a, cap, rfl, fun hn => ?_⟩
  obtain ⟨b, off, rfl, hlt, hm⟩ := hr hn
  exact ⟨b, off, rfl, hlt, hm.below hb (by omega)⟩

section
variable {B b mb : Nat} {lv sv av : Value} {mv : List Value} {K : List Kn}
theorem addK_form {x : Sr} (h : isNameB x.name = false) : addK K x = .inl 2 := by unfold addK; rw [if_pos h]
theorem addK_twice {x : Sr} (h : isNameB x.name = true) (h2 : (findK K x.name.data.toList).isSome = true) : addK K x = .inl 6 := by unfold addK; rw [if_neg (by simp [h]), if_pos h2]
theorem addK_long {x : Sr} (h : isNameB x.name = true) (h2 : (findK K x.name.data.toList).isSome = false) (h3 : 64 < x.mems.length) : addK K x = .inl 3 := by unfold addK; rw [if_neg (by simp [h]), if_neg (by simp [h2]), if_pos h3]
theorem addK_none {x : Sr} (h : isNameB x.name = true) (h2 : (findK K x.name.data.toList).isSome = false) (h3 : x.mems = []) : addK K x = .inl 5 := by unfold addK; rw [if_neg (by simp [h]), if_neg (by simp [h2]), if_neg (by simp [h3]), if_pos h3]
theorem addK_mems {x : Sr} (h : isNameB x.name = true) (h2 : (findK K x.name.data.toList).isSome = false) (h3 : ¬ 64 < x.mems.length) (h4 : ¬ x.mems = []) {r : Int ⊕ (Nat × Nat)} (hr : memsK K x.mems [] 0 1 = r) :
    (∀ e, r = .inl e → addK K x = .inl e) ∧ ∀ n m, r = .inr (n, m) → addK K x = if 65536 < fitN n m then .inl 3 else .inr { x with size := fitN n m, align := m } := by
  unfold addK
  rw [if_neg (by simp [h]), if_neg (by simp [h2]), if_neg h3, if_neg h4, hr]
  constructor
  · rintro e rfl; rfl
  · rintro n m rfl; rfl

theorem mem_form {m : ByteArray × ByteArray} {l : List (ByteArray × ByteArray)} {seen : List ByteArray} {n a : Nat} (h : isNameB m.1 = false) : memsK K (m :: l) seen n a = .inl 2 := by rw [memsK, if_pos h]
theorem mem_twice {m : ByteArray × ByteArray} {l : List (ByteArray × ByteArray)} {seen : List ByteArray} {n a : Nat} (h : isNameB m.1 = true) (h2 : Lib.containsS seen m.1 = true) : memsK K (m :: l) seen n a = .inl 6 := by
  rw [memsK, if_neg (by simp [h]), if_pos h2]
theorem mem_check {m : ByteArray × ByteArray} {l : List (ByteArray × ByteArray)} {seen : List ByteArray} {n a : Nat} (h : isNameB m.1 = true) (h2 : Lib.containsS seen m.1 = false) (h3 : checkS K m.2 ≠ 0) : memsK K (m :: l) seen n a = .inl (checkS K m.2) := by
  rw [memsK, if_neg (by simp [h]), if_neg (by simp [h2])]
  cases ht : tyS m.2 with
  | none => rw [checkS_none ht]
  | some t => rw [checkS_some ht] at h3 ⊢; simp only; rw [if_pos h3]
theorem mem_object {m : ByteArray × ByteArray} {l : List (ByteArray × ByteArray)} {seen : List ByteArray} {n a : Nat} {t : Ty} (h : isNameB m.1 = true) (h2 : Lib.containsS seen m.1 = false) (ht : tyS m.2 = some t) (h3 : checkS K m.2 = 0) (h4 : objectT t = false) : memsK K (m :: l) seen n a = .inl 5 := by
  rw [memsK, if_neg (by simp [h]), if_neg (by simp [h2]), ht]
  rw [checkS_some ht] at h3
  simp only
  rw [if_neg (by simp [h3]), if_pos h4]
theorem mem_next {m : ByteArray × ByteArray} {l : List (ByteArray × ByteArray)} {seen : List ByteArray} {n a : Nat} {t : Ty} (h : isNameB m.1 = true) (h2 : Lib.containsS seen m.1 = false) (ht : tyS m.2 = some t) (h3 : checkS K m.2 = 0) (h4 : objectT t = true) :
    memsK K (m :: l) seen n a = memsK K l (seen ++ [m.1]) (fitN n (measT K t).2 + (measT K t).1) (max a (measT K t).2) := by
  rw [memsK, if_neg (by simp [h]), if_neg (by simp [h2]), ht]
  rw [checkS_some ht] at h3
  simp only
  rw [if_neg (by simp [h3]), if_neg (by simp [h4])]
theorem drop_at {α : Type} (L : List α) (j : Nat) (h : j < L.length) : L.drop j = L[j] :: L.drop (j + 1) := List.drop_eq_getElem_cons h
theorem take_at {α : Type} (L : List α) (j : Nat) (h : j < L.length) : L.take (j + 1) = L.take j ++ [L[j]] := by rw [List.take_add_one, List.getElem?_eq_getElem h]; rfl

theorem name_short {s : ByteArray} (h : isNameB s = true) : s.size ≤ maxLen := by
  unfold isNameB at h
  simp only [Bool.and_eq_true, decide_eq_true_iff] at h
  have := h.2.1
  unfold maxLen; omega
end
end Go.Proofs.YtkokdafkjjcgoaaGreatDoor
namespace Go.Proofs.YtkokdafkjjcgoaaGreatDoor
open Go.RowKit Go.Maps

/-- structs, in block b from off on; mv: their slices of members -/
def SrRow (B : Nat) (w : World) (b off : Nat) (L : List Sr) (mv : List Value) : Prop := ∀ i x v, L[i]? = some x → mv[i]? = some v → w.cell? ⟨b, off + i * 2, none⟩ = some (.string x.name) ∧ w.cell? ⟨b, off + i * 2 + 1, none⟩ = some v ∧ IsMems B w v x.mems
/-- a slice of structs, below B -/
structure IsSrs (B : Nat) (w : World) (a : Option Addr) (L : List Sr) (mv : List Value) : Prop where
  len : mv.length = L.length
  at_ : L ≠ [] → ∃ b off, a = some ⟨b, off, none⟩ ∧ b < B ∧ SrRow B w b off L mv
  names : ∀ x ∈ L, x.name.size ≤ maxLen
theorem SrRow.below {B b off : Nat} {w w' : World} {L : List Sr} {mv : List Value} (h : SrRow B w b off L mv) (hb : Below B w w') (hB : b < B) : SrRow B w' b off L mv := fun i x v hi hv => by
  rw [hb.cell hB, hb.cell hB]
  obtain ⟨h1, h2, h3⟩ := h i x v hi hv
  exact ⟨h1, h2, h3.below hb (Nat.le_refl _)⟩
theorem IsSrs.below {B : Nat} {w w' : World} {a : Option Addr} {L : List Sr} {mv : List Value} (h : IsSrs B w a L mv) (hb : Below B w w') : IsSrs B w' a L mv :=
  ⟨h.len, fun hn => (by obtain ⟨b, off, e, hlt, hr⟩ := h.at_ hn; exact ⟨b, off, e, hlt, hr.below hb hlt⟩), h.names⟩
theorem memsK_ne {K : List Kn} : ∀ (l : List (ByteArray × ByteArray)) (seen : List ByteArray) (n a : Nat) {c : Int}, memsK K l seen n a = .inl c → c ≠ 0
  | [], _, _, _, _, h => by rw [memsK] at h; cases h
  | m :: l, seen, n, a, c, h => by
    rw [memsK] at h
    split at h
    · obtain rfl := Sum.inl.inj h; decide
    · split at h
      · obtain rfl := Sum.inl.inj h; decide
      · split at h
        · obtain rfl := Sum.inl.inj h; decide
        · split at h
          · obtain rfl := Sum.inl.inj h; assumption
          · split at h
            · obtain rfl := Sum.inl.inj h; decide
            · exact memsK_ne l _ _ _ h
theorem addK_ne {K : List Kn} {x : Sr} {c : Int} (h : addK K x = .inl c) : c ≠ 0 := by
  unfold addK at h
  split at h
  · obtain rfl := Sum.inl.inj h; decide
  · split at h
    · obtain rfl := Sum.inl.inj h; decide
    · split at h
      · obtain rfl := Sum.inl.inj h; decide
      · split at h
        · obtain rfl := Sum.inl.inj h; decide
        · split at h
          · obtain rfl := Sum.inl.inj h
            rename_i h1
            exact memsK_ne _ _ _ _ h1
          · split at h
            · obtain rfl := Sum.inl.inj h; decide
            · cases h
theorem memsK_al {K : List Kn} (hF : FitK K) : ∀ (l : List (ByteArray × ByteArray)) (seen : List ByteArray) (n a : Nat) {n' a' : Nat}, 1 ≤ a ∧ a ≤ 4 → memsK K l seen n a = .inr (n', a') → 1 ≤ a' ∧ a' ≤ 4
  | [], _, _, _, _, _, ha, h => by rw [memsK] at h; obtain ⟨rfl, rfl⟩ := Prod.mk.inj (Sum.inr.inj h); exact ha
  | m :: l, seen, n, a, n', a', ha, h => by
    rw [memsK] at h
    split at h
    · cases h
    · split at h
      · cases h
      · split at h
        · cases h
        · split at h
          · cases h
          · split at h
            · cases h
            · rename_i t _ _ _
              have := meas_al hF t
              exact memsK_al hF l _ _ _ (by omega) h
theorem addK_fit {K : List Kn} (hF : FitK K) (h64 : K.length < 64) {x : Sr} {k : Kn} (h : addK K x = .inr k) : FitK (K ++ [k]) := by
  refine ⟨by simp; omega, fun k' hk' => ?_⟩
  rcases List.mem_append.1 hk' with h1 | h1
  · exact hF.2 k' h1
  · obtain rfl := List.mem_singleton.1 h1
    refine ⟨(addK_bd h).2.2, ?_⟩
    unfold addK at h
    split at h
    · cases h
    · split at h
      · cases h
      · split at h
        · cases h
        · split at h
          · cases h
          · split at h
            · cases h
            · split at h
              · cases h
              · rename_i n a hm _
                obtain rfl := Sum.inr.inj h
                exact memsK_al hF _ _ _ _ ⟨Nat.le_refl _, by decide⟩ hm

theorem IsMems.mono {B B' : Nat} {w : World} {v : Value} {L : List (ByteArray × ByteArray)} (h : IsMems B w v L) (hB : B ≤ B') : IsMems B' w v L := by
  obtain ⟨a, cap, rfl, hr⟩ := h
  refine ⟨a, cap, rfl, fun hn => ?_⟩
  obtain ⟨b, off, rfl, hlt, hm⟩ := hr hn
  exact ⟨b, off, rfl, Nat.lt_of_lt_of_le hlt hB, hm⟩
end Go.Proofs.YtkokdafkjjcgoaaGreatDoor
namespace Go.Proofs.YtkokdafkjjcgoaaGreatDoor

theorem fit_ge (x a : Nat) (h : 0 < a) : x ≤ fitN x a := by
  unfold fitN
  have h1 := Nat.div_add_mod (x + a - 1) a
  have h2 := Nat.mod_lt (x + a - 1) h
  rw [Nat.mul_comm] at h1
  omega
theorem fit_mono {x y a : Nat} (h : x ≤ y) : fitN x a ≤ fitN y a := by
  unfold fitN
  exact Nat.mul_le_mul_right a (Nat.div_le_div_right (by omega))
/-- a sum that is cut at a bound, step by step, is the sum, cut -/
theorem cut_fit {c x b a M : Nat} (h : c = min x M) (ha : 0 < a) : min (fitN c a + min b M) M = min (fitN x a + b) M := by
  subst h
  rcases Nat.le_total x M with hx | hx
  · rw [Nat.min_eq_left hx]
    omega
  · rw [Nat.min_eq_right hx]
    have h1 := fit_ge M a ha
    have h2 := fit_mono (a := a) hx
    omega
theorem cut_fit0 {c x a M : Nat} (h : c = min x M) (ha : 0 < a) : min (fitN c a) M = min (fitN x a) M := by
  have := cut_fit (b := 0) h ha
  simpa using this
theorem cut_mul {n b M : Nat} (_h : 0 < M) : min (n * min b M) M = min (n * b) M := by
  rcases Nat.le_total b M with hx | hx
  · rw [Nat.min_eq_left hx]
  · rw [Nat.min_eq_right hx]
    rcases Nat.eq_zero_or_pos n with rfl | hn
    · simp
    · have h1 : M ≤ n * M := Nat.le_mul_of_pos_left M hn
      have h2 : n * M ≤ n * b := Nat.mul_le_mul_left n hx
      omega

end Go.Proofs.YtkokdafkjjcgoaaGreatDoor
namespace Go.Proofs.YtkokdafkjjcgoaaGreatDoor
open Go.RowKit

/-- a struct's place in a list -/
def findS (L : List Sr) (s : List UInt8) : Option Nat := L.findIdx? fun k => decide (k.name.data.toList = s)
def placeS (L : List Sr) (s : List UInt8) : Int := match findS L s with
  | some i => (i : Nat)
  | none => -1
theorem findS_map (K : List Kn) (s : List UInt8) : findS (K.map Kn.toSr) s = findK K s := by
  unfold findS findK
  rw [List.findIdx?_map]; rfl
theorem placeS_map (K : List Kn) (s : List UInt8) : placeS (K.map Kn.toSr) s = placeK K s := by
  unfold placeS placeK
  rw [findS_map]
  cases findK K s <;> rfl
theorem findK_take {K : List Kn} {m i : Nat} {s : List UInt8} (h : findK (K.take m) s = some i) : findK K s = some i ∧ i < m := by
  unfold findK at *
  rw [List.findIdx?_eq_some_iff_getElem] at *
  obtain ⟨h1, h2, h3⟩ := h
  rw [List.length_take] at h1
  refine ⟨⟨by omega, by rw [List.getElem_take] at h2; exact h2, fun j hj => ?_⟩, by omega⟩
  have := h3 j hj
  rw [List.getElem_take] at this
  exact this
theorem meas_take {K : List Kn} {m : Nat} : ∀ {t : Ty}, thereT (K.take m) t = true → measT (K.take m) t = measT K t
  | .arr n t, h => by rw [thereT] at h; rw [measT, measT, meas_take h]
  | .str s, h => by
    rw [thereT, Option.isSome_iff_exists] at h
    obtain ⟨i, hi⟩ := h
    obtain ⟨h1, h2⟩ := findK_take hi
    rw [measT, measT, hi, h1]
    simp only [Option.bind_some]
    rw [List.getElem?_take_of_lt h2]
  | .base _, _ => by simp [measT]
  | .ptr _, _ => by simp [measT]
  | .fn _ _, _ => by simp [measT]
/-- members' bytes and alignment, so far; their types being right -/
def memR (K : List Kn) : List (ByteArray × ByteArray) → Nat → Nat → Nat × Nat
  | [], n, a => (n, a)
  | m :: l, n, a => match tyS m.2 with
    | none => (n, a)
    | some t => memR K l (fitN n (measT K t).2 + (measT K t).1) (max a (measT K t).2)
/-- a member that is right -/
def MemOk (K : List Kn) (m : ByteArray × ByteArray) : Prop := ∃ t, tyS m.2 = some t ∧ checkT K t = 0 ∧ objectT t = true
theorem mems_right {K : List Kn} : ∀ {l : List (ByteArray × ByteArray)} {seen : List ByteArray} {n a n' a' : Nat}, memsK K l seen n a = .inr (n', a') → memR K l n a = (n', a') ∧ ∀ m ∈ l, MemOk K m
  | [], _, _, _, _, _, h => by rw [memsK] at h; exact ⟨Sum.inr.inj h, fun m hm => by cases hm⟩
  | m :: l, seen, n, a, n', a', h => by
    rw [memsK] at h
    split at h
    · cases h
    · split at h
      · cases h
      · split at h
        · cases h
        · rename_i t ht
          split at h
          · cases h
          · rename_i hc
            split at h
            · cases h
            · rename_i ho
              obtain ⟨h1, h2⟩ := mems_right h
              refine ⟨by rw [memR, ht]; exact h1, fun m' hm' => ?_⟩
              rcases List.mem_cons.1 hm' with rfl | hm'
              · exact ⟨t, ht, by simpa using hc, by simpa using ho⟩
              · exact h2 m' hm'
theorem check_there {K : List Kn} {t : Ty} (h : checkT K t = 0) : thereT K t = true ∧ shapeT t = true ∧ sizedT K t = true := by
  unfold checkT at h
  split at h
  · cases h
  · split at h
    · cases h
    · rename_i h1
      split at h
      · cases h
      · rename_i h2
        split at h
        · cases h
        · rename_i h3
          exact ⟨by simpa using h2, by simpa using h1, by simpa using h3⟩
/-- all structs of a list are right, each with those ahead of it -/
structure GoodK (K : List Kn) : Prop where
  mems : ∀ i (h : i < K.length), (∀ m ∈ K[i].mems, MemOk (K.take i) m) ∧ ∃ n, memR (K.take i) K[i].mems 0 1 = (n, K[i].align) ∧ K[i].size = fitN n K[i].align
  al : ∀ k ∈ K, 1 ≤ k.align ∧ k.align ≤ 4
  len : K.length ≤ 65
  mlen : ∀ k ∈ K, k.mems.length ≤ 64
theorem goodK_nil : GoodK [] := ⟨(fun i h => absurd h (Nat.not_lt_zero _)), (fun k h => by cases h), by decide, (fun k h => by cases h)⟩
theorem meas_align {K : List Kn} (h : ∀ k ∈ K, 1 ≤ k.align ∧ k.align ≤ 4) : ∀ t : Ty, 1 ≤ (measT K t).2 ∧ (measT K t).2 ≤ 4
  | .base c => by rw [measT]; repeat' split
                  all_goals decide
  | .ptr _ => by rw [measT]; decide
  | .fn _ _ => by rw [measT]; decide
  | .arr n t => by rw [measT]; exact meas_align h t
  | .str s => by
    rw [measT]
    split
    · rename_i k hk
      obtain ⟨i, _, hi⟩ := Option.bind_eq_some_iff.1 hk
      exact h k (List.mem_of_getElem? hi)
    · decide
theorem memR_align {K : List Kn} (h : ∀ k ∈ K, 1 ≤ k.align ∧ k.align ≤ 4) : ∀ (l : List (ByteArray × ByteArray)) (n a : Nat), 1 ≤ a ∧ a ≤ 4 → 1 ≤ (memR K l n a).2 ∧ (memR K l n a).2 ≤ 4
  | [], _, _, ha => by rw [memR]; exact ha
  | m :: l, n, a, ha => by
    rw [memR]
    split
    · exact ha
    · rename_i t _
      have := meas_align h t
      exact memR_align h l _ _ (by omega)
/-- one more, behind those that are right -/
theorem goodK_snoc {K : List Kn} (hG : GoodK K) (hl : K.length ≤ 64) {x : Sr} (hm64 : x.mems.length ≤ 64) {n a : Nat} (h : memsK K x.mems [] 0 1 = .inr (n, a)) : GoodK (K ++ [({ x with size := fitN n a, align := a } : Kn)]) := by
  obtain ⟨h1, h2⟩ := mems_right h
  refine ⟨fun i hi => ?_, fun k hk => ?_, by simp; omega, fun k hk => ?_⟩
  · rcases Nat.lt_or_ge i K.length with hlt | hge
    · have e : (K ++ [({ x with size := fitN n a, align := a } : Kn)]).take i = K.take i := by rw [List.take_append_of_le_length (by omega)]
      rw [e, List.getElem_append_left hlt]
      exact hG.mems i hlt
    · obtain rfl : i = K.length := by simp at hi; omega
      have e : (K ++ [({ x with size := fitN n a, align := a } : Kn)]).take K.length = K := by simp
      rw [e, List.getElem_append_right (Nat.le_refl _)]
      simp only [Nat.sub_self, List.getElem_cons_zero]
      exact ⟨h2, n, h1, rfl⟩
  · rcases List.mem_append.1 hk with hk | hk
    · exact hG.al k hk
    · obtain rfl := List.mem_singleton.1 hk
      have := memR_align hG.al x.mems 0 1 ⟨Nat.le_refl _, by decide⟩
      rw [h1] at this
      exact this
  · rcases List.mem_append.1 hk with hk | hk
    · exact hG.mlen k hk
    · obtain rfl := List.mem_singleton.1 hk
      exact hm64
theorem addK_right {K : List Kn} {x : Sr} {k : Kn} (h : addK K x = .inr k) : isNameB x.name = true ∧ (findK K x.name.data.toList).isSome = false ∧ x.mems.length ≤ 64 ∧ x.mems ≠ [] ∧ ∃ n a, memsK K x.mems [] 0 1 = .inr (n, a) ∧ k = { x with size := fitN n a, align := a } ∧ fitN n a ≤ 65536 := by
  unfold addK at h
  split at h
  · cases h
  · rename_i h1
    split at h
    · cases h
    · rename_i h2
      split at h
      · cases h
      · rename_i h3
        split at h
        · cases h
        · rename_i h4
          split at h
          · cases h
          · rename_i n a hm
            split at h
            · cases h
            · rename_i h5
              exact ⟨by simpa using h1, by simpa using h2, by omega, h4, n, a, hm, (Sum.inr.inj h).symm, by omega⟩
/-- what is known of a list: its parts are right -/
structure KnowsK (K : List Kn) (L : List Sr) : Prop where
  good : GoodK K
  fit : FitK K
  list : K.map Kn.toSr = L
theorem knows_nil : KnowsK [] [] := ⟨goodK_nil, fitK_nil, rfl⟩
theorem knows_snoc {K : List Kn} {L : List Sr} {x : Sr} {k : Kn} (h : KnowsK K L) (hl : K.length < 64) (hk : addK K x = .inr k) : KnowsK (K ++ [k]) (L ++ [x]) := by
  obtain ⟨_, _, h3, _, n, a, hm, rfl, _⟩ := addK_right hk
  exact ⟨goodK_snoc h.good (by omega) h3 hm, addK_fit h.fit hl hk, by rw [List.map_append, h.list]; rfl⟩
/-- learn, from whatever place on -/
theorem learnF_knows : ∀ {l L : List Sr} {K K' : List Kn}, KnowsK K L → L.length + l.length ≤ 64 → learnF K l = .inr K' → KnowsK K' (L ++ l)
  | [], L, K, K', h, _, hl => by
    rw [learnF] at hl
    obtain rfl := Sum.inr.inj hl
    rw [List.append_nil]; exact h
  | x :: l, L, K, K', h, hn, hl => by
    rw [learnF] at hl
    have hkl : K.length = L.length := by rw [← h.list, List.length_map]
    simp only [List.length_cons] at hn
    split at hl
    · cases hl
    · rename_i k hk
      have := learnF_knows (knows_snoc h (by omega) hk) (by simp; omega) hl
      rwa [List.append_assoc] at this
theorem learnK_knows {L : List Sr} {K : List Kn} (h : learnK L = .inr K) : KnowsK K L := by
  unfold learnK at h
  split at h
  · cases h
  · have := learnF_knows knows_nil (by simp; omega) h
    exact this

/-- a size, cut: as the reference reckons -/
def cutN (n : Nat) : Nat := min n 65537
theorem memR_cut {n m b a : Nat} (h : m = cutN n) (ha : 0 < a) : cutN (fitN m a + cutN b) = cutN (fitN n a + b) := cut_fit h ha
theorem memR_snoc {K : List Kn} : ∀ {l : List (ByteArray × ByteArray)} {m : ByteArray × ByteArray} {t : Ty} {n a : Nat}, (∀ m ∈ l, MemOk K m) → tyS m.2 = some t → memR K (l ++ [m]) n a = (fitN (memR K l n a).1 (measT K t).2 + (measT K t).1, max (memR K l n a).2 (measT K t).2)
  | [], m, t, n, a, _, ht => by simp [memR, ht]
  | m' :: l, m, t, n, a, hok, ht => by
    obtain ⟨t', ht', _⟩ := hok m' (by simp)
    rw [List.cons_append, memR, memR, ht']
    simp only
    exact memR_snoc (fun m hm => hok m (by simp [hm])) ht
end Go.Proofs.YtkokdafkjjcgoaaGreatDoor
