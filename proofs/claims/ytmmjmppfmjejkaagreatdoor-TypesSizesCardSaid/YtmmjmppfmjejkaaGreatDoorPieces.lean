/- The scalars of an object, and where they stand; structs being right. Plain: nothing of the program. -/
import Derived.Test.YtmmjmppfmjejkaaGreatDoorStrP
import Derived.Test.YtmmjmppfmjejkaaGreatDoorMember
namespace Go.Proofs.YtmmjmppfmjejkaaGreatDoor
open Go.RowKit

/-- one, two or four -/
def Pow2 (a : Nat) : Prop := a = 1 ∨ a = 2 ∨ a = 4
theorem Pow2.max {a b : Nat} (ha : Pow2 a) (hb : Pow2 b) : Pow2 (max a b) := by unfold Pow2 at *; omega
theorem Pow2.dvd {a b : Nat} (ha : Pow2 a) (hb : Pow2 b) (h : a ≤ b) : a ∣ b := by
  unfold Pow2 at *
  rcases ha with rfl | rfl | rfl <;> rcases hb with rfl | rfl | rfl <;> first | exact absurd h (by decide) | exact ⟨_, rfl⟩ | exact ⟨1, rfl⟩ | exact ⟨2, rfl⟩ | exact ⟨4, rfl⟩
theorem memR_ge {K : List Kn} (h : ∀ k ∈ K, 1 ≤ k.align ∧ k.align ≤ 4) : ∀ (l : List (ByteArray × ByteArray)) (n a : Nat), n ≤ (memR K l n a).1 ∧ a ≤ (memR K l n a).2
  | [], n, a => by rw [memR]; exact ⟨Nat.le_refl _, Nat.le_refl _⟩
  | m :: l, n, a => by
    rw [memR]
    split
    · exact ⟨Nat.le_refl _, Nat.le_refl _⟩
    · rename_i t _
      have h1 := memR_ge h l (fitN n (measT K t).2 + (measT K t).1) (max a (measT K t).2)
      have h2 := fit_ge n (measT K t).2 (meas_align h t).1
      exact ⟨by omega, by omega⟩
theorem memR_pow {K : List Kn} : ∀ (l : List (ByteArray × ByteArray)) (n a : Nat), Pow2 a → (∀ m ∈ l, ∀ t, tyS m.2 = some t → Pow2 (measT K t).2) → Pow2 (memR K l n a).2
  | [], n, a, ha, _ => by rw [memR]; exact ha
  | m :: l, n, a, ha, hm => by
    rw [memR]
    split
    · exact ha
    · rename_i t ht
      exact memR_pow l _ _ (ha.max (hm m (by simp) t ht)) (fun m' hm' => hm m' (by simp [hm']))
/-- an alignment is one, two or four -/
theorem meas_pow {K : List Kn} (hG : GoodK K) : ∀ (m : Nat) (t : Ty), thereT (K.take m) t = true → Pow2 (measT K t).2 := by
  intro m
  induction m using Nat.strongRecOn with
  | _ m ih =>
    intro t
    induction t using Ty.rec (motive_2 := fun _ => True) with
    | base c => intro _; rw [measT]; repeat' split
                all_goals (unfold Pow2; simp)
    | ptr u _ => intro _; rw [measT]; exact .inr (.inr rfl)
    | arr n u ihu => intro h; rw [thereT] at h; rw [measT]; exact ihu h
    | fn ps r _ _ => intro _; rw [measT]; exact .inr (.inr rfl)
    | str s =>
      intro h
      rw [thereT, Option.isSome_iff_exists] at h
      obtain ⟨j, hj⟩ := h
      obtain ⟨h1, h2⟩ := findK_take hj
      obtain ⟨hmo, n, hn, _⟩ := hG.mems j (find_lt h1)
      rw [meas_str h1]
      show Pow2 (K[j]'(find_lt h1)).align
      have := memR_pow (K := K.take j) (K[j]'(find_lt h1)).mems 0 1 (.inl rfl) (fun q hq t' ht' => by
        obtain ⟨t2, ht2, hc, _⟩ := hmo q hq
        obtain rfl := Option.some.inj (ht'.symm.trans ht2)
        have hth := (check_there hc).1
        rw [meas_take hth]
        exact ih j h2 t' hth)
      rw [hn] at this
      exact this
    | nil => trivial
    | cons _ _ _ _ => trivial
/-- a size is a multiple of the alignment -/
theorem meas_dvd {K : List Kn} (hG : GoodK K) : ∀ t : Ty, (measT K t).2 ∣ (measT K t).1
  | .base c => by
    rw [measT]; repeat' split
    · exact ⟨1, rfl⟩
    · exact ⟨1, rfl⟩
    · exact ⟨16, rfl⟩
    · exact ⟨1, rfl⟩
  | .ptr _ => by rw [measT]; exact ⟨1, rfl⟩
  | .fn _ _ => by rw [measT]; exact ⟨1, rfl⟩
  | .arr n t => by rw [measT]; exact Nat.dvd_mul_left_of_dvd (meas_dvd hG t) n
  | .str s => by
    rcases h : findK K s with _ | j
    · rw [measT, h]; exact ⟨1, rfl⟩
    · rw [meas_str h]
      obtain ⟨_, n, _, hs⟩ := hG.mems j (find_lt h)
      simp only
      rw [hs]
      exact ⟨_, Nat.mul_comm _ _⟩
/-- places that are a multiple already do not hinder -/
theorem fit_add {x n a : Nat} (h : 0 < a) (hx : a ∣ x) : fitN (x + n) a = x + fitN n a := by
  obtain ⟨k, rfl⟩ := hx
  unfold fitN
  rw [show a * k + n + a - 1 = n + a - 1 + a * k by omega, Nat.add_mul_div_left _ _ h, Nat.add_mul, Nat.mul_comm k a]
  omega
theorem fit_dvd (n a : Nat) : a ∣ fitN n a := ⟨_, Nat.mul_comm _ _⟩

/-- a scalar that stands at a place -/
abbrev Pc := Nat × Ty
/-- the scalars of members, by those of a type; x: where the struct stands; n: how far it is filled -/
def piecesM (K : List Kn) (f : Ty → Nat → List Pc) (x : Nat) : List (ByteArray × ByteArray) → Nat → List Pc
  | [], _ => []
  | m :: l, n => match tyS m.2 with
    | none => []
    | some t => f t (x + fitN n (measT K t).2) ++ piecesM K f x l (fitN n (measT K t).2 + (measT K t).1)
/-- the scalars of a type, by those of a struct -/
def piecesT (K : List Kn) (f : Kn → Nat → List Pc) : Ty → Nat → List Pc
  | .arr n u, x => (List.range n).flatMap fun i => piecesT K f u (x + i * (measT K u).1)
  | .str s, x => match (findK K s).bind (K[·]?) with
    | some k => f k x
    | none => []
  | .base c, x => if c = 106 then [] else [(x, .base c)]
  | t, x => [(x, t)]
/-- structs in structs: m deep -/
def piecesK (K : List Kn) : Nat → Ty → Nat → List Pc
  | 0 => piecesT K fun _ _ => []
  | m + 1 => piecesT K fun k x => piecesM K (piecesK K m) x k.mems 0
theorem pieces_arr (K : List Kn) (m n : Nat) (u : Ty) (x : Nat) : piecesK K m (.arr n u) x = (List.range n).flatMap fun i => piecesK K m u (x + i * (measT K u).1) := by
  cases m <;> rw [piecesK, piecesT]
theorem pieces_str {K : List Kn} {m j : Nat} {s : List UInt8} (h : findK K s = some j) (x : Nat) : piecesK K (m + 1) (.str s) x = piecesM K (piecesK K m) x (K[j]'(find_lt h)).mems 0 := by
  rw [piecesK, piecesT, h]
  simp [List.getElem?_eq_getElem (find_lt h)]
theorem pieces_jmp (K : List Kn) (m x : Nat) : piecesK K m (.base 106) x = [] := by
  cases m <;> simp [piecesK, piecesT]
theorem pieces_scal {K : List Kn} {t : Ty} (h : isScalarT t = true) (m x : Nat) : piecesK K m t x = [(x, t)] := by
  cases t with
  | base c =>
    have : c ≠ 106 := by rintro rfl; revert h; decide
    cases m <;> simp [piecesK, piecesT, this]
  | ptr u => cases m <;> simp [piecesK, piecesT]
  | arr n u => cases h
  | str s => cases h
  | fn ps r => cases h
/-- how many there are does not hang on the place -/
theorem piecesM_len {K : List Kn} {f : Ty → Nat → List Pc} (hf : ∀ t x y, (f t x).length = (f t y).length) : ∀ (l : List (ByteArray × ByteArray)) (x y n : Nat), (piecesM K f x l n).length = (piecesM K f y l n).length
  | [], _, _, _ => rfl
  | m :: l, x, y, n => by
    rw [piecesM, piecesM]
    split
    · rfl
    · rename_i t _
      rw [List.length_append, List.length_append, hf t _ (y + fitN n (measT K t).2), piecesM_len hf l x y]
theorem piecesT_len {K : List Kn} {f : Kn → Nat → List Pc} (hf : ∀ k x y, (f k x).length = (f k y).length) : ∀ (t : Ty) (x y : Nat), (piecesT K f t x).length = (piecesT K f t y).length
  | .arr n u, x, y => by
    rw [piecesT, piecesT, List.length_flatMap, List.length_flatMap]
    congr 1
    exact List.map_congr_left fun i _ => piecesT_len hf u _ _
  | .str s, x, y => by
    rw [piecesT, piecesT]
    split
    · exact hf _ _ _
    · rfl
  | .base c, x, y => by rw [piecesT, piecesT]; split <;> rfl
  | .ptr u, x, y => by simp [piecesT]
  | .fn ps r, x, y => by simp [piecesT]
theorem pieces_len (K : List Kn) : ∀ (m : Nat) (t : Ty) (x y : Nat), (piecesK K m t x).length = (piecesK K m t y).length
  | 0, t, x, y => piecesT_len (fun _ _ _ => rfl) t x y
  | m + 1, t, x, y => piecesT_len (fun k x y => piecesM_len (pieces_len K m) k.mems x y 0) t x y

/-- what is known of the members of a struct that is right -/
theorem fit_take {K : List Kn} (hF : FitK K) (j : Nat) : FitK (K.take j) := ⟨by rw [List.length_take]; have := hF.1; omega, fun k hk => hF.2 k (List.mem_of_mem_take hk)⟩
theorem mem_good {K : List Kn} (hF : FitK K) {j : Nat} {m : ByteArray × ByteArray} (h : MemOk (K.take j) m) :
    ∃ t, tyS m.2 = some t ∧ shapeT t = true ∧ thereT (K.take j) t = true ∧ objectT t = true ∧ (measT K t).1 ≤ 65536 := by
  obtain ⟨t, ht, hc, ho⟩ := h
  obtain ⟨h1, h2, _⟩ := check_there hc
  exact ⟨t, ht, h2, h1, ho, by rw [← meas_take h1]; exact meas_bd (fit_take hF j) t hc⟩
theorem mems_okK {K : List Kn} (hG : GoodK K) (hF : FitK K) {j : Nat} (h : j < K.length) : MemsOk K K[j].mems := ⟨hG.mlen _ (List.getElem_mem h), fun m hm => by
  obtain ⟨t, h1, h2, h3, _, h5⟩ := mem_good hF ((hG.mems j h).1 m hm)
  exact ⟨t, h1, h2, there_take h3, h5⟩⟩
theorem memR_take {K : List Kn} {j : Nat} : ∀ {l : List (ByteArray × ByteArray)} (n a : Nat), (∀ m ∈ l, MemOk (K.take j) m) → memR (K.take j) l n a = memR K l n a
  | [], n, a, _ => by rw [memR, memR]
  | m :: l, n, a, hm => by
    obtain ⟨t, ht, hc, _⟩ := hm m (by simp)
    rw [memR, memR, ht]
    simp only
    rw [meas_take (check_there hc).1, memR_take _ _ (fun q hq => hm q (by simp [hq]))]
/-- where a member stands in a struct: within it -/
theorem mem_in {K : List Kn} (hK : ∀ k ∈ K, 1 ≤ k.align ∧ k.align ≤ 4) {l : List (ByteArray × ByteArray)} {m : ByteArray × ByteArray} {n a n' a' : Nat} {t : Ty} (ht : tyS m.2 = some t) (h : memR K (m :: l) n a = (n', a')) :
    fitN n (measT K t).2 + (measT K t).1 ≤ n' ∧ (measT K t).2 ≤ a' := by
  rw [memR, ht] at h
  simp only at h
  have := memR_ge hK l (fitN n (measT K t).2 + (measT K t).1) (max a (measT K t).2)
  rw [h] at this
  simp only at this
  omega
end Go.Proofs.YtmmjmppfmjejkaaGreatDoor
