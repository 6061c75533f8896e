/- types.Scalars. -/
import Derived.Test.YtmmjmppfmjejkaaGreatDoorScal
import Derived.Test.YtmmjmppfmjejkaaGreatDoorOwnM
import Derived.Test.YtmmjmppfmjejkaaGreatDoorRefOneS
namespace Go.Proofs.YtmmjmppfmjejkaaGreatDoor
open Go.RowKit

theorem there_mono {K : List Kn} {j m : Nat} (h : j ≤ m) {t : Ty} (ht : thereT (K.take j) t = true) : thereT (K.take m) t = true := by
  have : K.take j = (K.take m).take j := by rw [List.take_take, Nat.min_eq_left h]
  rw [this] at ht
  exact there_take ht
theorem obj_fn {ps : List Ty} {r : Ty} (h : objectT (.fn ps r) = true) : False := by
  unfold objectT isFnT at h; simp at h
theorem shape_arr2 {n : Nat} {u : Ty} (h : shapeT (.arr n u) = true) : objectT u = true ∧ shapeT u = true := by
  rw [shapeT] at h
  simp only [Bool.and_eq_true] at h
  exact h.2
theorem base_cases {c : UInt8} (hr : Right (.base c)) (ho : objectT (.base c) = true) : c = 106 ∨ isScalarT (.base c) = true := by
  rcases base_six hr with rfl | rfl | rfl | rfl | rfl | rfl
  · revert ho; decide
  · exact .inr (by decide)
  · exact .inr (by decide)
  · exact .inr (by decide)
  · exact .inr (by decide)
  · exact .inl rfl
theorem scal_ok {B b mb : Nat} {lv sv av : Value} {mv : List Value} (K : List Kn) (w0 : World) (hE : TE w0) (hK : KnAt B w0 b mb lv sv av mv K) (hF : FitK K) (hG : GoodK K) (hMv : ∀ (i : Nat) (k : Kn) v, K[i]? = some k → mv[i]? = some v → IsMems w0.heap.size w0 v k.mems) :
    ∀ (m n : Nat) (t : Ty), (code t).length ≤ n → Right t → (code t).length ≤ 65536 → shapeT t = true → objectT t = true → thereT (K.take m) t = true → ScalP K w0 b (m + 1) t
  | _, 0, t, hn, hr, _, _, _, _ => by have := code_pos hr; omega
  | m, n + 1, t, hn, hr, hl, hsh, ho, hth => by
    cases t with
    | base c =>
      rcases base_cases hr ho with rfl | h
      · exact scal_jmp K w0 b _ hE
      · exact scal_one K w0 b _ _ hE hr hl h
    | ptr u => exact scal_one K w0 b _ _ hE hr hl rfl
    | fn ps r => exact (obj_fn ho).elim
    | arr k u =>
      obtain ⟨h1, h2⟩ := shape_arr2 hsh
      rw [thereT] at hth
      exact scal_arr K w0 _ k u hE hK hF hr hl hsh (there_take hth) (scal_ok K w0 hE hK hF hG hMv m n u (by rw [code] at hn; simp at hn; omega) hr.2 (by rw [code] at hl; simp at hl; omega) h2 h1 hth)
    | str s =>
      rw [thereT, Option.isSome_iff_exists] at hth
      obtain ⟨j, hj⟩ := hth
      obtain ⟨h1, h2⟩ := findK_take hj
      obtain ⟨m', rfl⟩ : ∃ m', m = m' + 1 := ⟨m - 1, by omega⟩
      exact scal_struct K w0 (m' + 1) j s hE hK hF hG hMv hr hl h1 fun t hr' hl' hsh' ho' hth' => scal_ok K w0 hE hK hF hG hMv m' 65536 t hl' hr' hl' hsh' ho' (there_mono (by omega) hth')
termination_by m n => (m, n)

/-- what Scalars tells -/
def scalarsN (L : List Sr) (s : ByteArray) : List Pc × Int := if (sizeR L s).2.2 ≠ 0 then ([], (sizeR L s).2.2) else match learnK L, tyS s with
  | .inr K, some t => if (piecesK K (K.length + 1) t 0).length ≤ 4096 then (piecesK K (K.length + 1) t 0, 0) else ([], 3)
  | _, _ => ([], 0)
theorem scalN_bad {L : List Sr} {s : ByteArray} {c : Int} (h : sizeR L s = (0, 0, c)) (hc : c ≠ 0) : scalarsN L s = ([], c) := by unfold scalarsN; rw [h]; exact if_pos hc
theorem scalN_yes {L : List Sr} {s : ByteArray} {K : List Kn} {t : Ty} (hl : learnK L = .inr K) (ht : tyS s = some t) (hc : checkT K t = 0) (ho : objectT t = true) :
    scalarsN L s = if (piecesK K (K.length + 1) t 0).length ≤ 4096 then (piecesK K (K.length + 1) t 0, 0) else ([], 3) := by
  unfold scalarsN
  rw [sizeR_yes hl ht hc ho, hl, ht]; rfl
def pcOne (q : Pc) : List Value := [.int .i64 (q.1 : Int), .string (tyB q.2)]
theorem pcRow_sl {w : World} {base : Nat} {a : Option Addr} {n cap : Nat} {out : List Pc} (h : PcRow w base (.slice a n cap) out) : n = out.length ∧ IsSl 2 pcOne w.heap.size w a out := by
  rcases h.2 with ⟨e, h0⟩ | ⟨g, c, cur, e, _, hg, _⟩
  · simp only [Value.slice.injEq] at e
    have : out = [] := List.eq_nil_of_length_eq_zero h0
    subst this
    exact ⟨e.2.1, isSl_nil⟩
  · simp only [Value.slice.injEq] at e
    obtain ⟨rfl, rfl, rfl⟩ := e
    refine ⟨rfl, fun _ => ⟨g, 0, rfl, lt_of_heap hg, fun i q hq j u hu => ?_⟩⟩
    have hp : (out.map pcPair)[i]? = some (pcPair q) := by rw [List.getElem?_map, hq]; rfl
    obtain ⟨h1, h2⟩ := flat2_at hp
    have c1 := h.cells (g := g) rfl _ _ h1
    have c2 := h.cells (g := g) rfl _ _ h2
    rw [add2, Nat.zero_add] at c1 c2
    match j, hu with
    | 0, hu => obtain rfl := Option.some.inj hu; rw [Nat.zero_add]; exact c1
    | 1, hu => obtain rfl := Option.some.inj hu; rw [Nat.zero_add]; exact c2
def ScalEnd (L : List Sr) (s : ByteArray) (w : World) (e : Ending) (w' : World) : Prop := (∃ a cap, e = .returned (.tuple #[.slice a (scalarsN L s).1.length cap, .int .i64 (scalarsN L s).2]) ∧ IsSl 2 pcOne w'.heap.size w' a (scalarsN L s).1) ∧ Below w.heap.size w w'
theorem scalEnd_no {L : List Sr} {s : ByteArray} {c : Int} {w w' : World} (h : scalarsN L s = ([], c)) (hb : Below w.heap.size w w') : ScalEnd L s w (.returned (.tuple #[.slice none 0 0, .int .i64 c])) w' := ⟨⟨none, 0, by rw [h]; rfl, by rw [h]; exact isSl_nil⟩, hb⟩
theorem scalEnd_yes {L : List Sr} {s : ByteArray} {p : List Pc} {base : Nat} {a : Option Addr} {n cap : Nat} {w w' : World} (h : scalarsN L s = (p, 0)) (hr : PcRow w' base (.slice a n cap) p) (hb : Below w.heap.size w w') : ScalEnd L s w (.returned (.tuple #[.slice a n cap, .int .i64 0])) w' := by
  obtain ⟨rfl, hs⟩ := pcRow_sl hr
  exact ⟨⟨a, cap, by rw [h], by rw [h]; exact hs⟩, hb⟩

set_option maxRecDepth 100000 in
set_option maxHeartbeats 4000000 in
theorem scalars_ok (s : ByteArray) (a : Option Addr) (cap : Nat) (L : List Sr) (mv : List Value) (w : World) (hE : TE w) (hS : IsSrs w.heap.size w a L mv) :
    Calls Tryz.prog 29 #[.string s, .slice a L.length cap] w (ScalEnd L s w) := by
  have HE := Lib.hid hE
  have HS := Lib.hid hS
  have HM := Lib.hid (measured_ok s a cap L mv w hE hS)
  clear hE hS
  go_enter Tryz.func29, Tryz.ntmps29
  go_wp2_with (go_at_call 46; (with_reducible refine HM.out.mono ?_))
  intro e w1 hend
  obtain ⟨hb1, ⟨c, hr, hc, rfl⟩ | ⟨K, t, b, mb, lv, sv, av, hl, ht, hct, hob, hF, hkn, rfl⟩⟩ := hend
  · have hfin := Lib.hid (scalN_bad hr hc)
    have t1 : (c != 0) = true := by simp [hc]
    have HB1 := Lib.hid hb1
    clear hr hc hb1
    go_wp2_with fail
    go_ret2
    exact scalEnd_no hfin.out HB1.out
  · have hfin := scalN_yes hl ht hct hob
    obtain ⟨hst, hrt, hlt⟩ := tyS_some.1 ht
    obtain ⟨hsh, hth, _⟩ := checkT_zero hct
    have hk := learnK_knows hl
    have hms := meas_bd hF t hct
    have hP := scal_ok K w1 (HE.out.below hb1) hkn hF hk.good (fun i k v hi hv => ((srs_mems HS.out i k.toSr v (by rw [← hk.list, List.getElem?_map, hi]; rfl) hv).below hb1 (Nat.le_refl _)).mono hb1.size) K.length _ t (Nat.le_refl _) hrt hlt hsh hob (by rw [List.take_length]; exact hth)
    have hC := hP 0 [] (.slice none 0 0) w1 (Below.refl _ _) (pcRow_nil _ _) (by simp) (by omega)
    rw [← hst] at hC
    have HC := Lib.hid (show Calls Tryz.prog 50 #[.pointer (some ⟨b, 0, none⟩), .string s, .int .i64 0, .slice none 0 0] w1 (ScalQ w1.heap.size [] (piecesK K (K.length + 1) t 0) (.slice none 0 0) w1) from hC)
    have HB1 := Lib.hid hb1
    have HFin := Lib.hid hfin
    clear hl ht hct hob hF hkn hst hrt hlt hsh hth hb1 hk hms hP hC hfin
    generalize piecesK K (K.length + 1) t 0 = p at *
    go_wp2_with (go_at_call 50; (with_reducible refine HC.out.mono ?_))
    intro e w2 hq
    obtain ⟨v', ok, rfl, hg, ⟨a4, n4, c4, rfl⟩, ⟨hl4, rfl, hr4⟩ | ⟨hl4, rfl⟩⟩ := hq
    · have HB2 := Lib.hid (HB1.out.trans ((hg.under (Below.refl _ _) (pcRow_nil _ _)).mono HB1.out.size))
      have HR4 := Lib.hid hr4
      have HF := Lib.hid (HFin.out.trans (if_pos (by simpa using hl4)))
      clear hg hr4 hl4
      go_wp2_with fail
      go_ret2
      exact scalEnd_yes HF.out HR4.out HB2.out
    · have HB2 := Lib.hid (HB1.out.trans ((hg.under (Below.refl _ _) (pcRow_nil _ _)).mono HB1.out.size))
      have HF := Lib.hid (HFin.out.trans (if_neg (by simp at hl4; omega)))
      clear hg hl4
      go_wp2_with fail
      go_ret2
      exact scalEnd_no HF.out HB2.out
end Go.Proofs.YtmmjmppfmjejkaaGreatDoor
