/- A function's type: the program. · A function's type, put together: the program. · Whether two lists of types are alike: the statements' own helper. -/
import Derived.Test.YtmmjmppfmjejkaaDoorParts3
import Derived.Test.YtmmjmppfmjejkaaDoorShape
import Derived.Deep.AppendLies
import Derived.Laws.OwnMore
namespace Go.Proofs.YtmmjmppfmjejkaaDoor
open Go.RowKit

/-- a slice of texts, below B -/
structure IsTys (B : Nat) (w : World) (a : Option Addr) (xs : List ByteArray) : Prop where
  at_ : xs ≠ [] → ∃ b off, a = some ⟨b, off, none⟩ ∧ b < B ∧ ∀ (i : Nat) x, xs[i]? = some x → w.cell? ⟨b, off + i, none⟩ = some (.string x)
theorem IsTys.below {B B' : Nat} {w w' : World} {a : Option Addr} {xs : List ByteArray} (h : IsTys B w a xs) (hb : Below B' w w') (hB : B ≤ B') : IsTys B w' a xs :=
  ⟨fun hn => (by
    obtain ⟨b, off, rfl, hlt, hr⟩ := h.at_ hn
    exact ⟨b, off, rfl, hlt, fun i x hx => (by rw [hb.cell (by simp only; omega)]; exact hr i x hx)⟩)⟩
theorem IsTys.mono {B B' : Nat} {w : World} {a : Option Addr} {xs : List ByteArray} (h : IsTys B w a xs) (hB : B ≤ B') : IsTys B' w a xs :=
  ⟨fun hn => (by obtain ⟨b, off, rfl, hlt, hr⟩ := h.at_ hn; exact ⟨b, off, rfl, by omega, hr⟩)⟩

theorem func_clo (r : Bool) (s : ByteArray) (w : World) (hE : TE w) (hr : (tyS s).isSome = r) : Calls Tryd.prog 33 #[.string s] w fun e w' => e = .returned (.bool (!r)) ∧ Below w.heap.size w w' := by
  have HF := Lib.hid (form_is r s w hE hr)
  clear hr hE
  cases r with
  | false =>
    go_enter Tryd.func33, Tryd.ntmps33
    go_wp2_with (go_at_call 20; (with_reducible refine HF.out.mono ?_); rintro e w1 ⟨rfl, hb1⟩)
    go_ret
    exact ⟨rfl, hb1⟩
  | true =>
    go_enter Tryd.func33, Tryd.ntmps33
    go_wp2_with (go_at_call 20; (with_reducible refine HF.out.mono ?_); rintro e w1 ⟨rfl, hb1⟩)
    go_ret
    exact ⟨rfl, hb1⟩

/-- one of them is no type -/
def badL (xs : List ByteArray) : Bool := xs.any fun x => !(tyS x).isSome
set_option maxHeartbeats 2000000 in
theorem func_idx (xs : List ByteArray) (a : Option Addr) (cap : Nat) (w : World) (hE : TE w) (h : IsTys w.heap.size w a xs) (hl : (xs.length : Int) ≤ 9223372036854775807) :
    Calls Tryd.prog 55 #[.slice a xs.length cap, .func (.func 33) #[] #[]] w fun e w' => ∃ o : Int, e = .returned (.int .i64 o) ∧ decide (0 ≤ o) = badL xs ∧ Below w.heap.size w w' := by
  have HE := Lib.hid hE
  have HR := Lib.hid h.at_
  clear hE h
  go_enter Tryd.func55, Tryd.ntmps55
  go_wp2_with fail
  go_loopg [8] xs.length (fun g v8 wy => ∃ k : Nat, k ≤ xs.length ∧ k + g = xs.length ∧ v8 = .int .i64 (k : Int) ∧ Hid (∀ j (hj : j < xs.length), j < k → (tyS xs[j]).isSome = true) ∧ Hid (Below w.heap.size w wy))
  case atStart => exact ⟨0, by omega, by omega, rfl, fun j _ h => by omega, Below.refl _ _⟩
  case round =>
    obtain ⟨k, hk, hkg, rfl, hno, HB⟩ := hrel
    by_cases hlk : k < xs.length
    · obtain ⟨bb, off, ha, hbl, hrow⟩ := HR.out (fun e => by rw [e] at hlk; simp at hlk)
      subst ha
      have e1 := hrow k _ (List.getElem?_eq_getElem hlk)
      rw [← HB.out.cell hbl] at e1
      rcases h : (tyS xs[k]).isSome with _ | _
      · have HC := Lib.hid (func_clo false xs[k] wr (HE.out.below HB.out) h)
        have hfin := Lib.hid (show badL xs = true by
          unfold badL
          rw [List.any_eq_true]
          exact ⟨xs[k], List.getElem_mem hlk, by rw [h]; rfl⟩)
        clear h hrow hno
        generalize xs[k]'hlk = mt at *
        go_wp2_with (go_at_call 33; (with_reducible refine HC.out.mono ?_); rintro e w2 ⟨rfl, hb2⟩; have HB2 := Lib.hid hb2; clear hb2)
        go_ret
        exact ⟨_, rfl, by rw [hfin.out]; simp, HB.out.trans (HB2.out.mono HB.out.size)⟩
      · have HC := Lib.hid (func_clo true xs[k] wr (HE.out.below HB.out) h)
        have HN := Lib.hid (show ∀ j (hj : j < xs.length), j < k + 1 → (tyS xs[j]).isSome = true from fun j hj hjk => by
          rcases Nat.lt_or_ge j k with h' | h'
          · exact hno.out j hj h'
          · obtain rfl : j = k := by omega
            exact h)
        clear h hrow hno
        generalize xs[k]'hlk = mt at *
        go_wp2_with (go_at_call 33; (with_reducible refine HC.out.mono ?_); rintro e w2 ⟨rfl, hb2⟩; have HB2 := Lib.hid (HB.out.trans (hb2.mono HB.out.size)); clear hb2)
        go_roundg (xs.length - (k + 1))
        case measure => omega
        case rel => exact ⟨k + 1, by omega, by omega, by rw [Int.natCast_add]; rfl, HN.out, HB2.out⟩
    · obtain rfl : k = xs.length := by omega
      have hfin := Lib.hid (show badL xs = false by
        unfold badL
        rw [List.any_eq_false]
        intro m hm
        obtain ⟨j, hj, rfl⟩ := List.getElem_of_mem hm
        simp [hno.out j hj hj])
      have t3 : (xs.length : Int) ≤ (xs.length : Int) := Int.le_refl _
      go_wp2_with fail
      go_ret
      exact ⟨_, rfl, by rw [hfin.out]; rfl, HB.out⟩
set_option maxHeartbeats 2000000 in
theorem func_has (xs : List ByteArray) (a : Option Addr) (cap : Nat) (w : World) (hE : TE w) (h : IsTys w.heap.size w a xs) (hl : (xs.length : Int) ≤ 9223372036854775807) :
    Calls Tryd.prog 32 #[.slice a xs.length cap, .func (.func 33) #[] #[]] w fun e w' => e = .returned (.bool (badL xs)) ∧ Below w.heap.size w w' := by
  have H := Lib.hid (func_idx xs a cap w hE h hl)
  clear hE h
  go_enter Tryd.func32, Tryd.ntmps32
  go_wp2_with (go_at_call 55; (with_reducible refine H.out.mono ?_); rintro e w1 ⟨o, rfl, ho, hb1⟩; have HO := Lib.hid ho; clear ho)
  go_ret
  exact ⟨by rw [← HO.out]; rfl, hb1⟩

end Go.Proofs.YtmmjmppfmjejkaaDoor
namespace Go.Proofs.YtmmjmppfmjejkaaDoor
open Go.RowKit

def funcO (r : ByteArray) (xs : List ByteArray) : ByteArray := ⟨#[102, 40]⟩ ++ ⟨(Lib.join (xs.map (·.data.toList)) (⟨#[44]⟩ : ByteArray).data.toList).toArray⟩ ++ ⟨#[41]⟩ ++ r
/-- what Func tells -/
def funcR (r : ByteArray) (xs : List ByteArray) : ByteArray × Int :=
  if (tyS r).isSome = false ∨ badL xs = true then (⟨#[]⟩, 2) else if 8 < xs.length then (⟨#[]⟩, 3) else if 65536 < (funcO r xs).size then (⟨#[]⟩, 3) else (funcO r xs, 0)
theorem info_str : (Tryd.prog.info? 9).map (fun i => (i.zero, i.size, i.bytes)) = some (some (.string ⟨#[]⟩), 1, 16) := by kernel_rfl
theorem str_one1 (x : ByteArray) : ∀ u ∈ [Value.string x], u.oneCell' = true := by intro u hu; simp at hu; subst hu; rfl
theorem lens_le {xs : List ByteArray} {m : Nat} (h : ∀ x ∈ xs, x.size ≤ m) : Lib.lens (xs.map (·.data.toList)) ≤ xs.length * m := by
  unfold Lib.lens
  induction xs with
  | nil => simp
  | cons x l ih =>
    have h1 := h x (by simp)
    have h2 := ih fun y hy => h y (by simp [hy])
    have h3 : x.data.toList.length = x.size := by rw [Array.length_toList]; rfl
    simp only [List.map_cons, List.sum_cons, List.length_cons, h3, Nat.add_mul, Nat.one_mul] at *
    omega
theorem join_le {xs : List ByteArray} (h : ∀ x ∈ xs, x.size ≤ 65536) (h8 : xs.length ≤ 8) : (Lib.join (xs.map (·.data.toList)) (⟨#[44]⟩ : ByteArray).data.toList).length ≤ 600000 := by
  have hl := lens_le h
  cases xs with
  | nil => simp [Lib.join_nil]
  | cons x l =>
    rw [List.map_cons, Lib.join_cons, List.length_append, Lib.joinTail_length]
    have h3 : Lib.lens ((x :: l).map (·.data.toList)) = x.data.toList.length + Lib.lens (l.map (·.data.toList)) := by simp [Lib.lens]
    rw [h3] at hl
    simp only [List.length_map, List.length_cons, List.length_nil] at *
    omega
theorem bad_sizes {xs : List ByteArray} (h : badL xs = false) : ∀ x ∈ xs, x.size ≤ 65536 := by
  intro x hx
  unfold badL at h
  rw [List.any_eq_false] at h
  have := h x hx
  simp only [Bool.not_eq_true', Bool.not_eq_false, Option.isSome_iff_exists] at this
  obtain ⟨t, ht⟩ := this
  obtain ⟨rfl, _, hl⟩ := tyS_some.1 ht
  rw [tyB_size]; exact hl

theorem take_at' {α : Type} (L : List α) (j : Nat) (h : j < L.length) : L.take (j + 1) = L.take j ++ [L[j]] := by rw [List.take_add_one, List.getElem?_eq_getElem h]; rfl
/-- what holds ahead of a round -/
structure FuncInv (w : World) (xs : List ByteArray) (wy : World) (v : Value) (j : Nat) : Prop where
  own : wy.ownsRow w.heap.size 9 1 v j ((xs.take j).map .string)
  below : Below w.heap.size w wy
theorem FuncInv.next {w wr w6 : World} {xs : List ByteArray} {v v' : Value} {j : Nat} {x : ByteArray} {o : Obj} (h : FuncInv w xs wr v j) (hx : xs.take (j + 1) = xs.take j ++ [x]) (hg : (wr.alloc o).grownBy w6 v.ownBlock)
    (ho : w6.ownsRow w.heap.size 9 1 v' (j + 1) ((xs.take j).map Value.string ++ [.string x])) : FuncInv w xs w6 v' (j + 1) := by
  refine ⟨by rw [hx, List.map_append]; exact ho, ?_⟩
  exact (h.below.alloc h.below.size o).grown hg (by have := h.below.size; simp; omega) (fun k hk => (h.own.lt k hk).1)

theorem strs_own {w : World} {B n : Nat} {T : TypeId} {v : Value} {xs : List ByteArray} (h : w.ownsRow B T 1 v n (xs.map .string)) (hn : n = xs.length) :
    ∃ a cap, v = .slice a n cap ∧ (xs ≠ [] → ∃ g, a = some ⟨g, 0, none⟩ ∧ g < w.heap.size ∧ n ≤ cap ∧ ∀ (j : Nat) x, xs[j]? = some x → w.cell? ⟨g, 0 + j, none⟩ = some (.string x)) := by
  rcases h.2 with ⟨rfl, h0⟩ | ⟨g, cap, cur, rfl, _, hg, hc, _⟩
  · exact ⟨none, 0, by rw [h0], fun hne => absurd (List.eq_nil_of_length_eq_zero (by omega)) hne⟩
  · refine ⟨_, cap, rfl, fun _ => ⟨g, rfl, lt_of_heap hg, hc, fun j x hx => ?_⟩⟩
    have h1 := h.cells (g := g) rfl j (.string x) (by rw [List.getElem?_map, hx]; rfl)
    have hadd : (⟨g, 0, none⟩ : Addr).add j = ⟨g, j, none⟩ := by unfold Addr.add; split <;> simp_all
    rw [hadd] at h1
    rw [Nat.zero_add]; exact h1
theorem join_ok {w : World} {B n : Nat} {T : TypeId} {v : Value} {xs : List ByteArray} (h : w.ownsRow B T 1 v n (xs.map .string)) (hn : n = xs.length) (h8 : xs.length ≤ 8) (hj : (Lib.join (xs.map (·.data.toList)) (⟨#[44]⟩ : ByteArray).data.toList).length ≤ 600000) :
    Calls Tryd.prog 34 #[v, .string ⟨#[44]⟩] w fun e w' => e = .returned (.string ⟨(Lib.join (xs.map (·.data.toList)) (⟨#[44]⟩ : ByteArray).data.toList).toArray⟩) ∧ Below w.heap.size w w' := by
  obtain ⟨a, cap, rfl, hc⟩ := strs_own h hn
  subst hn
  by_cases hne : xs = []
  · subst hne
    exact (Tryd.strings_Join_none a cap ⟨#[44]⟩ w).mono fun e w' ⟨he, hw⟩ => ⟨he, by rw [hw]; exact Below.refl _ _⟩
  · obtain ⟨g, rfl, hg, hcap, hcells⟩ := hc hne
    exact Tryd.strings_Join g 0 cap xs ⟨#[44]⟩ w hcells hg (by omega) hcap (by omega)
set_option maxRecDepth 100000 in
set_option maxHeartbeats 4000000 in
theorem func_ok (r : ByteArray) (xs : List ByteArray) (a : Option Addr) (cap : Nat) (w : World) (hE : TE w) (h : IsTys w.heap.size w a xs) (hl : (xs.length : Int) ≤ 9223372036854775807) :
    Calls Tryd.prog 18 #[.string r, .slice a xs.length cap] w fun e w' => e = .returned (.tuple #[.string (funcR r xs).1, .int .i64 (funcR r xs).2]) ∧ Below w.heap.size w w' := by
  have HE := Lib.hid hE
  have HI := Lib.hid h
  rcases hr : (tyS r).isSome with _ | _
  · have HF := Lib.hid (form_is false r w hE hr)
    have hfin := Lib.hid (show funcR r xs = (⟨#[]⟩, 2) by unfold funcR; rw [if_pos (.inl hr)])
    clear hr hE h
    go_enter Tryd.func18, Tryd.ntmps18
    go_wp2_with (go_at_call 20; (with_reducible refine HF.out.mono ?_); rintro e w1 ⟨rfl, hb1⟩; have HB1 := Lib.hid hb1; clear hb1)
    go_ret2
    exact ⟨by rw [hfin.out]; rfl, HB1.out⟩
  have HF := Lib.hid (form_is true r w hE hr)
  have HC := Lib.hid fun w1 (hb : Below w.heap.size w w1) => func_has xs a cap w1 (hE.below hb) ((h.below hb (Nat.le_refl _)).mono hb.size) hl
  rcases hbd : badL xs with _ | _
  case' true =>
    have hfin := Lib.hid (show funcR r xs = (⟨#[]⟩, 2) by unfold funcR; rw [if_pos (.inr hbd)])
    rw [hbd] at HC
    clear hr hE h hbd
    go_enter Tryd.func18, Tryd.ntmps18
    go_wp2_with (first | (go_at_call 20; (with_reducible refine HF.out.mono ?_); rintro e w1 ⟨rfl, hb1⟩; have HB1 := Lib.hid hb1; have HC1 := Lib.hid (HC.out _ hb1); clear hb1) | (go_at_call 32; (with_reducible refine HC1.out.mono ?_); rintro e w2 ⟨rfl, hb2⟩; have HB2 := Lib.hid (HB1.out.trans (hb2.mono HB1.out.size)); clear hb2))
    go_ret2
    exact ⟨by rw [hfin.out]; rfl, HB2.out⟩
  rw [hbd] at HC
  have hR := Lib.hid (show funcR r xs = if 8 < xs.length then (⟨#[]⟩, 3) else if 65536 < (funcO r xs).size then (⟨#[]⟩, 3) else (funcO r xs, 0) by
    unfold funcR
    rw [if_neg (by rw [hr, hbd]; simp)])
  by_cases h8 : 8 < xs.length
  · have hfin := Lib.hid (hR.out.trans (if_pos h8))
    have t1 : (8 : Int) < xs.length := by omega
    clear hr hE h hbd h8
    go_enter Tryd.func18, Tryd.ntmps18
    go_wp2_with (first | (go_at_call 20; (with_reducible refine HF.out.mono ?_); rintro e w1 ⟨rfl, hb1⟩; have HB1 := Lib.hid hb1; have HC1 := Lib.hid (HC.out _ hb1); clear hb1) | (go_at_call 32; (with_reducible refine HC1.out.mono ?_); rintro e w2 ⟨rfl, hb2⟩; have HB2 := Lib.hid (HB1.out.trans (hb2.mono HB1.out.size)); clear hb2))
    go_ret2
    exact ⟨by rw [hfin.out]; rfl, HB2.out⟩
  have t1 : (xs.length : Int) ≤ 8 := by omega
  have HR := Lib.hid (hR.out.trans (if_neg h8))
  have hsz := Lib.hid (bad_sizes hbd)
  have HJ := Lib.hid (join_le hsz.out (by omega))
  have hr6 : (r.size : Int) ≤ 65536 := by
    obtain ⟨t, ht⟩ := Option.isSome_iff_exists.1 hr
    obtain ⟨rfl, _, hl⟩ := tyS_some.1 ht
    rw [tyB_size]; omega
  obtain ⟨i1, hi, hz0, hz1', hz2'⟩ := info_parts info_str
  have HIi := Lib.hid (And.intro hi (And.intro hz0 (And.intro hz1' hz2')))
  clear hr hE h hbd hi hz0 hz1' hz2'
  go_enter Tryd.func18, Tryd.ntmps18
  go_wp2_with (first | (go_at_call 20; (with_reducible refine HF.out.mono ?_); rintro e w1 ⟨rfl, hb1⟩; have HB1 := Lib.hid hb1; have HC1 := Lib.hid (HC.out _ hb1); clear hb1) | (go_at_call 32; (with_reducible refine HC1.out.mono ?_); rintro e w2 ⟨rfl, hb2⟩; have HB2 := Lib.hid (HB1.out.trans (hb2.mono HB1.out.size)); clear hb2))
  go_loopg [6, 22] xs.length (fun g v6 v22 wy => ∃ j : Nat, j ≤ xs.length ∧ j + g = xs.length ∧ v22 = .int .i64 (j : Int) ∧ Hid (FuncInv w xs wy v6 j))
  case atStart => exact ⟨0, by omega, by omega, rfl, World.ownsRow_nil _ _ _ _, HB2.out⟩
  case round =>
    obtain ⟨j, hj, hjg, rfl, HN⟩ := hrel
    by_cases hlt : j < xs.length
    · obtain ⟨bb, off, ha, hbl, hrow⟩ := HI.out.at_ (fun e => by rw [e] at hlt; simp at hlt)
      subst ha
      have e1 := hrow j _ (List.getElem?_eq_getElem hlt)
      rw [← HN.out.below.cell hbl] at e1
      have hx := take_at' xs j hlt
      generalize xs[j]'hlt = x at *
      have HX := Lib.hid hx
      have HZ := Lib.hid HN.out.below.size
      clear hrow hx
      go_wp2_with (at_builtin; refine wpList_append_own _ rfl _ _ 66 rfl w.heap.size 9 i1 (.string ⟨#[]⟩) 1 16 Tryd.underlying66 HIi.out.1 HIi.out.2.1 HIi.out.2.2.1 HIi.out.2.2.2 rfl (by decide) _ _ _ rfl (HN.out.own.alloc _) ⟨wr.heap.size, 0, none⟩ 1 1 [.string x] rfl rfl (fun j u h => cell_one _ _ _ j u h) (str_one1 _) (by unfold maxLen; omega) (by omega) (by have := HZ.out; simp; omega) ?_)
      intro v' w6 hown hgrow _
      have HN6 := Lib.hid (HN.out.next HX.out hgrow (by rw [List.map_take]; exact hown))
      clear hown hgrow
      go_wp2_with fail
      go_roundg (xs.length - (j + 1))
      case measure => omega
      case rel => exact ⟨j + 1, by omega, by omega, by rw [Int.natCast_add]; rfl, HN6.out⟩
    · obtain rfl : j = xs.length := by omega
      have t3 : (xs.length : Int) ≤ (xs.length : Int) := Int.le_refl _
      have hown := HN.out.own
      rw [List.take_length] at hown
      have hjoin := join_ok hown rfl (by omega) HJ.out
      have hO := show funcO r xs = ⟨#[102, 40]⟩ ++ ⟨(Lib.join (xs.map (·.data.toList)) (⟨#[44]⟩ : ByteArray).data.toList).toArray⟩ ++ ⟨#[41]⟩ ++ r from rfl
      have hJs : (((⟨(Lib.join (xs.map (·.data.toList)) (⟨#[44]⟩ : ByteArray).data.toList).toArray⟩ : ByteArray).size : Nat) : Int) ≤ 600000 := by
        have := HJ.out
        simp only [ByteArray.size, List.size_toArray]
        omega
      generalize (⟨(Lib.join (xs.map (·.data.toList)) (⟨#[44]⟩ : ByteArray).data.toList).toArray⟩ : ByteArray) = J at *
      have HJoin := Lib.hid hjoin
      have HB3 := Lib.hid HN.out.below
      have hR2 := HR.out
      rw [hO] at hR2
      have hos : (⟨#[102, 40]⟩ ++ J ++ ⟨#[41]⟩ ++ r).size = 2 + J.size + 1 + r.size := by simp [ByteArray.size_append]; rfl
      clear hown hjoin hO
      by_cases hbig : 65536 < (⟨#[102, 40]⟩ ++ J ++ ⟨#[41]⟩ ++ r).size
      · have hfin := Lib.hid (hR2.trans (if_pos hbig))
        rw [hos] at hbig
        have t4 : (65536 : Int) < 2 + (J.size : Int) + 1 + (r.size : Int) := by omega
        clear hR2 hos hbig
        go_wp2_with (go_at_call 34; (with_reducible refine HJoin.out.mono ?_); rintro e w4 ⟨rfl, hb4⟩; have HB4 := Lib.hid (HB3.out.trans (hb4.mono HB3.out.size)); clear hb4)
        go_ret2
        exact ⟨by rw [hfin.out]; rfl, HB4.out⟩
      · have hfin := Lib.hid (hR2.trans (if_neg hbig))
        rw [hos] at hbig
        have t4 : 2 + (J.size : Int) + 1 + (r.size : Int) ≤ 65536 := by omega
        clear hR2 hos hbig
        go_wp2_with (go_at_call 34; (with_reducible refine HJoin.out.mono ?_); rintro e w4 ⟨rfl, hb4⟩; have HB4 := Lib.hid (HB3.out.trans (hb4.mono HB3.out.size)); clear hb4)
        go_ret2
        exact ⟨by rw [hfin.out]; rfl, HB4.out⟩
end Go.Proofs.YtmmjmppfmjejkaaDoor
namespace Go.Proofs.YtmmjmppfmjejkaaDoor
open Go.RowKit

set_option maxHeartbeats 2000000 in
theorem same_ok (xs ys : List ByteArray) (a b : Option Addr) (ca cb : Nat) (w : World) (hA : IsTys w.heap.size w a xs) (hB : IsTys w.heap.size w b ys) (hx : (xs.length : Int) ≤ 9223372036854775807) :
    Calls Tryd.prog 17 #[.slice a xs.length ca, .slice b ys.length cb] w fun e w' => e = .returned (.bool (decide (xs = ys))) ∧ Below w.heap.size w w' := by
  by_cases hl : xs.length = ys.length
  · have HA := Lib.hid hA.at_
    have HB := Lib.hid hB.at_
    have HL := Lib.hid hl
    rw [← hl]
    clear hA hB hl
    go_enter Tryd.func17, Tryd.ntmps17
    go_wp2_with fail
    go_loopg [13] xs.length (fun g v13 wy => ∃ k : Nat, k ≤ xs.length ∧ k + g = xs.length ∧ v13 = .int .i64 (k : Int) ∧ Hid (∀ j (hj : j < xs.length) (hj' : j < ys.length), j < k → xs[j] = ys[j]) ∧ Hid (Below w.heap.size w wy))
    case atStart => exact ⟨0, by omega, by omega, rfl, fun j _ _ h => by omega, Below.refl _ _⟩
    case round =>
      obtain ⟨k, hk, hkg, rfl, hno, HW⟩ := hrel
      by_cases hlk : k < xs.length
      · have hly : k < ys.length := by have := HL.out; omega
        obtain ⟨b1, o1, ha, hb1, hr1⟩ := HA.out (fun e => by rw [e] at hlk; simp at hlk)
        obtain ⟨b2, o2, hb, hb2, hr2⟩ := HB.out (fun e => by rw [e] at hly; simp at hly)
        subst ha
        subst hb
        have e1 : wr.cell? ⟨b1, o1 + k, none⟩ = some (.string xs[k]) := by rw [HW.out.cell hb1]; exact hr1 k _ (List.getElem?_eq_getElem hlk)
        have e2 : wr.cell? ⟨b2, o2 + k, none⟩ = some (.string ys[k]) := by rw [HW.out.cell hb2]; exact hr2 k _ (List.getElem?_eq_getElem hly)
        clear hr1 hr2
        by_cases h : xs[k] = ys[k]
        · have HN := Lib.hid (show ∀ j (hj : j < xs.length) (hj' : j < ys.length), j < k + 1 → xs[j] = ys[j] from fun j hj hj' hjk => by
            rcases Nat.lt_or_ge j k with h' | h'
            · exact hno.out j hj hj' h'
            · obtain rfl : j = k := by omega
              exact h)
          rw [← h] at e2
          clear h hno
          generalize xs[k]'hlk = m at *
          go_wp2_with fail
          go_quiet (fail)
          go_wp2_with fail
          go_roundg (xs.length - (k + 1))
          case measure => omega
          case rel => exact ⟨k + 1, by omega, by omega, by rw [Int.natCast_add]; rfl, HN.out, blw_drewN HW.out _⟩
        · have hfin := Lib.hid (show decide (xs = ys) = false by
            rw [decide_eq_false_iff_not]
            rintro rfl
            exact h rfl)
          have h1 : (xs[k].toList == ys[k].toList) = false := by rw [str_eqb, decide_eq_false h]
          have h2 : (xs[k].toList != ys[k].toList) = true := by rw [bne, h1]; rfl
          clear h hno
          generalize xs[k]'hlk = m at *
          generalize ys[k]'hly = m2 at *
          go_wp2_with fail
          go_quiet (fail)
          go_wp2_with fail
          go_ret
          exact ⟨by rw [hfin.out]; rfl, blw_drewN HW.out _⟩
      · obtain rfl : k = xs.length := by omega
        have hfin := Lib.hid (show decide (xs = ys) = true by
          rw [decide_eq_true_iff]
          exact List.ext_getElem HL.out fun j h1 h2 => hno.out j h1 h2 h1)
        have t3 : (xs.length : Int) ≤ (xs.length : Int) := Int.le_refl _
        go_wp2_with fail
        go_ret
        exact ⟨by rw [hfin.out]; rfl, HW.out⟩
  · have hfin := Lib.hid (show decide (xs = ys) = false by rw [decide_eq_false_iff_not]; rintro rfl; exact hl rfl)
    have t1 : ((xs.length : Int) != (ys.length : Int)) = true := by rw [bne_iff_ne]; omega
    have t2 : ((xs.length : Int) == (ys.length : Int)) = false := by rw [beq_eq_false_iff_ne]; omega
    clear hA hB hl
    go_enter Tryd.func17, Tryd.ntmps17
    go_wp2_with fail
    go_ret
    exact ⟨by rw [hfin.out]; rfl, Below.refl _ _⟩
end Go.Proofs.YtmmjmppfmjejkaaDoor
