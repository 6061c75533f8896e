/- Where a struct's members stand; a member's number: the program. -/
import Derived.Test.YtmmjmppfmjejkaaGreatDoorSize
namespace Go.Proofs.YtmmjmppfmjejkaaGreatDoor
open Go.RowKit Go.Maps

/-- bytes and alignment of a member -/
def measM (K : List Kn) (s : ByteArray) : Nat × Nat := match tyS s with
  | some t => measT K t
  | none => (4, 4)
def placesK (K : List Kn) : List (ByteArray × ByteArray) → Nat → List Nat
  | [], _ => []
  | m :: l, n => fitN n (measM K m.2).2 :: placesK K l (fitN n (measM K m.2).2 + (measM K m.2).1)
/-- members that may be measured -/
def MemsOk (K : List Kn) (l : List (ByteArray × ByteArray)) : Prop := l.length ≤ 64 ∧ ∀ m ∈ l, ∃ t, tyS m.2 = some t ∧ shapeT t = true ∧ thereT K t = true ∧ (measT K t).1 ≤ 65536
structure PlacesInv (w1 : World) (K : List Kn) (L : List (ByteArray × ByteArray)) (wy : World) (v : Value) (j n : Nat) (done : List Nat) : Prop where
  rest : placesK K L 0 = done ++ placesK K (L.drop j) n
  len : done.length = j
  nb : n ≤ j * 65540
  own : wy.ownsRow w1.heap.size 3 1 v j (done.map fun k : Nat => .int .i64 (k : Int))
  below : Below w1.heap.size w1 wy
theorem placesK_length {K : List Kn} : ∀ (l : List (ByteArray × ByteArray)) (n : Nat), (placesK K l n).length = l.length
  | [], _ => rfl
  | m :: l, n => by rw [placesK, List.length_cons, placesK_length l, List.length_cons]

theorem row_mono {w : World} {B B' m size : Nat} {e : TypeId} {v : Value} {xs : List Value} (h : w.ownsRow B e size v m xs) (hB : B' ≤ B) : w.ownsRow B' e size v m xs := by
  obtain ⟨h1, h2⟩ := h
  refine ⟨h1, h2.imp id ?_⟩
  rintro ⟨g, cap, cur, hv, hb, r⟩
  exact ⟨g, cap, cur, hv, Nat.le_trans hB hb, r⟩
theorem PlacesInv.next {w1 wr w3 w6 : World} {K : List Kn} {L : List (ByteArray × ByteArray)} {v v' : Value} {j n q p : Nat} {done : List Nat} {o : Obj} (h : PlacesInv w1 K L wr v j n done) (h3 : Below wr.heap.size wr w3) (hg : (w3.alloc o).grownBy w6 v.ownBlock)
    (ho : w6.ownsRow w1.heap.size 3 1 v' (j + 1) (done.map (fun k : Nat => Value.int .i64 (k : Int)) ++ [.int .i64 (q : Int)])) (hr : placesK K L 0 = done ++ (q :: placesK K (L.drop (j + 1)) (q + p))) (hq : q + p ≤ n + 65540) : PlacesInv w1 K L w6 v' (j + 1) (q + p) (done ++ [q]) := by
  refine ⟨by rw [hr]; simp, by simp [h.len], by have := h.nb; omega, by rw [List.map_append]; exact ho, ?_⟩
  have h1 : Below w1.heap.size w1 w3 := h.below.trans (h3.mono h.below.size)
  exact (h1.alloc h1.size o).grown hg (by have := h1.size; simp; omega) (fun k hk => (h.own.lt k hk).1)
theorem one_int (z : Int) : ∀ u ∈ [Value.int .i64 z], u.oneCell' = true := by intro u hu; simp at hu; subst hu; rfl
section
variable {B b mb : Nat} {lv sv av : Value} {mv : List Value} {K : List Kn}
set_option maxRecDepth 100000 in
set_option maxHeartbeats 4000000 in
theorem places_ok (nm : ByteArray) (L : List (ByteArray × ByteArray)) (ms : Value) (w : World) (hE : TE w) (hK : KnAt B w b mb lv sv av mv K) (hF : FitK K) (hm : IsMems w.heap.size w ms L) (hok : MemsOk K L) :
    Calls Tryz.prog 54 #[.pointer (some ⟨b, 0, none⟩), .agg #[.string nm, ms]] w fun e w' => ∃ v, e = .returned v ∧ w'.ownsRow w.heap.size 3 1 v L.length ((placesK K L 0).map fun k : Nat => .int .i64 (k : Int)) ∧ Below w.heap.size w w' := by
  obtain ⟨a, cap, rfl, hrow⟩ := hm
  have HE := Lib.hid hE
  have HK := Lib.hid hK
  have HF := Lib.hid hF
  have HR := Lib.hid hrow
  have HOk := Lib.hid hok
  have hl64 := hok.1
  have hx0 : (w.alloc (.cells #[.string nm, .slice a L.length cap] 52)).heap[w.heap.size]? = some (.cells #[.string nm, .slice a L.length cap] 52 (0, 0)) := heap_alloc_new _ _
  have hb0 : Below w.heap.size w (w.alloc (.cells #[.string nm, .slice a L.length cap] 52)) := (Below.refl _ _).alloc (Nat.le_refl _) _
  obtain ⟨⟨x0, x1⟩, _⟩ := two_block hx0
  obtain ⟨i1, hi, hz0, hz1', hz2'⟩ := info_parts info_int
  have HIi := Lib.hid (And.intro hi (And.intro hz0 (And.intro hz1' hz2')))
  clear hE hK hF hrow hok hx0 hi hz0 hz1' hz2'
  go_enter Tryz.func54, Tryz.ntmps54
  go_wp2_with fail
  generalize w.alloc (.cells #[.string nm, .slice a L.length cap] 52) = w1 at *
  have HB0 := Lib.hid hb0
  have hz1 := hb0.size
  clear hb0 x0 x1
  go_loopg [5, 6, 14] L.length (fun g v5 v6 v14 wy => ∃ (j n : Nat) (done : List Nat), j ≤ L.length ∧ j + g = L.length ∧ v6 = .int .i64 (n : Int) ∧ v14 = .int .i64 (j : Int) ∧ Hid (PlacesInv w1 K L wy v5 j n done))
  case atStart => exact ⟨0, 0, [], by omega, by omega, rfl, rfl, rfl, rfl, by decide, World.ownsRow_nil _ _ _ _, Below.refl _ _⟩
  case round =>
    obtain ⟨j, n, done, hj, hjg, rfl, rfl, HI⟩ := hrel
    have hbr : Below w.heap.size w wr := HB0.out.trans (HI.out.below.mono hz1)
    have HBr := Lib.hid hbr
    by_cases hlt : j < L.length
    · obtain ⟨bb, off, ha, hbl, hrow⟩ := HR.out (fun e => by rw [e] at hlt; simp at hlt)
      subst ha
      obtain ⟨e1, e2⟩ := hrow j _ (List.getElem?_eq_getElem hlt)
      rw [← hbr.cell hbl] at e1 e2
      have hx := drop_at L j hlt
      obtain ⟨t, ht, hsh, hth, hms⟩ := HOk.out.2 _ (List.getElem_mem hlt)
      generalize L[j]'hlt = mj at *
      obtain ⟨mn, mt⟩ := mj
      simp only at e1 e2 ht
      have hal := meas_al HF.out t
      have hrest := HI.out.rest
      rw [hx, placesK] at hrest
      have hmm : measM K mt = measT K t := by unfold measM; rw [ht]
      simp only [hmm] at hrest
      obtain ⟨hmt, hrt, hlt'⟩ := tyS_some.1 ht
      have hmc := fun w2 (h : Below w.heap.size w w2) => measure_ok t w2 hrt hlt' hsh hth (HE.out.below h) (HK.out.below h) HF.out
      rw [capM_id hms, ← hmt] at hmc
      have hnb := HI.out.nb
      generalize measT K t = p at *
      obtain ⟨ps, pa⟩ := p
      simp only at hms hal hrest
      unfold measV at hmc
      simp only at hmc
      have HMc := Lib.hid hmc
      have hnn : n ≤ 8388608 := by omega
      have HFt := Lib.hid fun w5 => fit_ok n pa hnn hal.1 hal.2 w5
      have hfb := fit_bd n pa hal.1 hal.2
      generalize fitN n pa = q at *
      have HRest := Lib.hid hrest
      clear hrow hx ht hsh hth hmm hmt hrt hlt' hmc hrest hbr
      go_upto_region 6 with fail
      have hm2 : (wr.alloc (.cells #[.string mn, .string mt] 62)).heap[wr.heap.size]? = some (.cells #[.string mn, .string mt] 62 (0, 0)) := heap_alloc_new _ _
      have hb2 : Below wr.heap.size wr (wr.alloc (.cells #[.string mn, .string mt] 62)) := (Below.refl _ _).alloc (Nat.le_refl _) _
      generalize wr.alloc (.cells #[.string mn, .string mt] 62) = w2 at *
      obtain ⟨⟨m0, m1⟩, _⟩ := two_block hm2
      have HB2 := Lib.hid hb2
      have HM2 := Lib.hid (HMc.out _ (HBr.out.trans (hb2.mono HBr.out.size)))
      clear hm2 hb2 e1 e2
      go_wp2_with (go_at_call 47; (with_reducible refine HM2.out.mono ?_); rintro e w3 ⟨rfl, hb3⟩; have HB3 := Lib.hid hb3; clear hb3)
      have HO3 := Lib.hid (HI.out.own.belowed (HB2.out.trans (HB3.out.mono HB2.out.size)))
      have hz3 : w1.heap.size ≤ w3.heap.size := Nat.le_trans HI.out.below.size (Nat.le_trans HB2.out.size HB3.out.size)
      have HZ3 := Lib.hid hz3
      clear hz3
      go_wp2_with (first | (go_at_call 84; (with_reducible refine (HFt.out _).mono ?_); rintro e w7 ⟨rfl, hw7⟩; subst w7) | (at_builtin; refine wpList_append_own _ rfl _ _ 80 rfl w1.heap.size 3 i1 (.int .i64 0) 1 8 Tryz.underlying80 HIi.out.1 HIi.out.2.1 HIi.out.2.2.1 HIi.out.2.2.2 rfl (by decide) _ _ _ rfl (HO3.out.alloc _) ⟨w3.heap.size, 0, none⟩ 1 1 [.int .i64 (q : Int)] rfl rfl (fun j u h => cell_one _ _ _ j u h) (one_int _) (by unfold maxLen; omega) (by omega) (by have := HZ3.out; simp; omega) ?_))
      intro v' w6 hown hgrow _
      have HN := Lib.hid (HI.out.next (HB2.out.trans (HB3.out.mono HB2.out.size)) hgrow hown HRest.out (by omega))
      clear hown hgrow
      go_wp2_with fail
      go_roundg (L.length - (j + 1))
      case measure => omega
      case rel => exact ⟨j + 1, q + ps, done ++ [q], by omega, by omega, by rw [Int.natCast_add], by rw [Int.natCast_add]; rfl, HN.out⟩
    · obtain rfl : j = L.length := by omega
      have t3 : (L.length : Int) ≤ (L.length : Int) := Int.le_refl _
      go_wp2_with fail
      go_ret
      have hr := HI.out.rest
      rw [List.drop_length, placesK, List.append_nil] at hr
      exact ⟨_, rfl, by rw [hr]; exact row_mono HI.out.own hz1, HBr.out⟩
end
end Go.Proofs.YtmmjmppfmjejkaaGreatDoor
