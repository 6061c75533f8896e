/- The parts of a node: the program, the reference. -/
import Derived.Test.YtbbaooeioogijaaDoorMg12
namespace Go.Proofs.YtbbaooeioogijaaDoor
open Go.RowKit

def natCells (n : Nat) : List Value := [natV n]
theorem natCells_len (n : Nat) : (natCells n).length = 1 := rfl
theorem flat_nats (L : List Nat) : L.flatMap natCells = L.map natV := by
  induction L with
  | nil => rfl
  | cons x L ih => rw [List.flatMap_cons, ih]; rfl
/-- numbers in the world -/
abbrev IsNats (B : Nat) (w : World) (a : Option Addr) (L : List Nat) : Prop := IsSl 1 natCells B w a L
theorem NatRow.is {w : World} {base : Nat} {v : Value} {L : List Nat} (h : NatRow w base v L) : ∃ a cap, v = .slice a L.length cap ∧ IsNats w.heap.size w a L ∧ (a = none → L = [] ∧ cap = 0) := by
  unfold NatRow at h
  rw [← flat_nats] at h
  exact own_sl natCells_len h rfl
theorem nats_at {B : Nat} {w : World} {a : Option Addr} {L : List Nat} (h : IsNats B w a L) {i : Nat} (hi : i < L.length) : ∃ b off, a = some ⟨b, off, none⟩ ∧ b < B ∧ w.cell? ⟨b, off + i, none⟩ = some (.int .i64 (L[i] : Int)) := by
  obtain ⟨b, off, e, hlt, hc⟩ := h (fun e => by rw [e] at hi; simp at hi)
  have := hc i _ (List.getElem?_eq_getElem hi) 0 _ rfl
  rw [Nat.mul_one, Nat.add_zero] at this
  exact ⟨b, off, e, hlt, this⟩
theorem Back.le {fr : List Nat} : ∀ {n e : Nat}, Back fr n e → n ≤ e
  | 0, _, _ => Nat.zero_le _
  | n + 1, e, ⟨h1, h2, h3⟩ => by have := h3.le; omega
/-- what holds ahead of a round -/
structure PartInv (w : World) (fr : List Nat) (n k : Nat) (wy : World) (r e : Nat) (tail : List Nat) : Prop where
  rest : partsE fr n k = partsE fr r e ++ tail
  len : r + tail.length = n
  back : Back fr r e
  le : e ≤ k
  row : ∃ ys, wy.ownsRow w.heap.size 3 1 (.slice (some ⟨w.heap.size, 0, none⟩) n n) n ys ∧ ∀ (i : Nat) x, tail[i]? = some x → ys[r + i]? = some (natV x)
  below : Below w.heap.size w wy
theorem PartInv.cell {w wy : World} {fr : List Nat} {n k r e : Nat} {tail : List Nat} (h : PartInv w fr n k wy (r + 1) e tail) : (∃ u, wy.cell? ⟨w.heap.size, r, none⟩ = some u) ∧ wy.frozen? ⟨w.heap.size, r, none⟩ = false := by
  obtain ⟨ys, ho, _⟩ := h.row
  have hl := ho.1
  have := h.len
  refine ⟨?_, ho.frozenAt r⟩
  rw [ho.cellAt r (by omega)]
  exact ⟨_, List.getElem?_eq_getElem (by omega)⟩
theorem PartInv.next {w wy : World} {fr : List Nat} {n k r d : Nat} {tail : List Nat} (h : PartInv w fr n k wy (r + 1) (d + 1) tail) : PartInv w fr n k (wy.setCell ⟨w.heap.size, r, none⟩ (.int .i64 (d : Int))) r (fr.getD d 0) (d :: tail) := by
  obtain ⟨ys, ho, hp⟩ := h.row
  obtain ⟨hb1, hb2, hb3⟩ := h.back
  rw [Nat.add_sub_cancel] at hb2 hb3
  have hl := ho.1
  have hlen := h.len
  refine ⟨by rw [h.rest, partsE, List.append_assoc, Nat.add_sub_cancel]; rfl, by rw [List.length_cons]; omega, hb3, by have := h.le; omega, ⟨_, (ho.stored r (natV d)).1, fun i x hx => ?_⟩, h.below.setCell (Nat.le_refl _) _⟩
  cases i with
  | zero =>
    obtain rfl := Option.some.inj hx
    rw [Nat.add_zero, List.getElem?_set_self (by omega)]
  | succ i =>
    rw [List.getElem?_set_ne (by omega), show r + (i + 1) = r + 1 + i by omega]
    exact hp i x (by simpa using hx)
theorem PartInv.done {w wy : World} {fr : List Nat} {n k e : Nat} {tail : List Nat} (h : PartInv w fr n k wy 0 e tail) : NatRow wy w.heap.size (.slice (some ⟨w.heap.size, 0, none⟩) n n) (partsE fr n k) := by
  obtain ⟨ys, ho, hp⟩ := h.row
  have hl := ho.1
  have hlen := h.len
  have hr := h.rest
  rw [partsE, List.nil_append] at hr
  have : ys = tail.map natV := by
    apply List.ext_getElem?
    intro j
    rw [List.getElem?_map]
    rcases hx : tail[j]? with _ | x
    · rw [List.getElem?_eq_none_iff] at hx
      rw [List.getElem?_eq_none (by omega)]; rfl
    · have := hp j x hx
      rw [Nat.zero_add] at this
      rw [this]; rfl
  subst this
  unfold NatRow
  rw [hr, show tail.length = n by omega]
  exact ho
theorem own_le9 {w : World} {base base' : Nat} {e : TypeId} {size : Nat} {v : Value} {n : Nat} {xs : List Value} (h : w.ownsRow base e size v n xs) (hb : base' ≤ base) : w.ownsRow base' e size v n xs :=
  ⟨h.1, h.2.imp id fun ⟨g, cap, cur, h1, h2, h3⟩ => ⟨g, cap, cur, h1, Nat.le_trans hb h2, h3⟩⟩
/-- how parts ends -/
def PartEnd (L : List Nat) (w : World) (e : Ending) (w' : World) : Prop := (∃ v, e = .returned v ∧ NatRow w' w.heap.size v L) ∧ Below w.heap.size w w'
theorem partEnd {L : List Nat} {w w1 w' : World} {v : Value} (h : NatRow w' w1.heap.size v L) (h1 : Below w.heap.size w w1) (hb : Below w1.heap.size w1 w') : PartEnd L w (.returned v) w' :=
  ⟨⟨v, rfl, own_le9 h h1.size⟩, h1.trans (hb.mono h1.size)⟩

set_option maxRecDepth 100000 in
set_option maxHeartbeats 8000000 in
theorem tparts_ok (a : Option Addr) (cap : Nat) (t : List Nd) (b : Option Addr) (capb : Nat) (fr : List Nat) (w : World) (hI : IsNds w.heap.size w a t) (hF : IsNats w.heap.size w b fr) (hl : t.length ≤ 4096) (hf : Formed t fr) (k : Nat) (hk : k < t.length) :
    Calls Tryd.prog 50 #[.agg #[.slice a t.length cap, .slice b fr.length capb], .int .i64 (k : Int)] w (PartEnd (partsAt t fr k) w) := by
  obtain ⟨hn0, hbk, _⟩ := hf.node k _ (List.getElem?_eq_getElem hk)
  rw [partsAt_is (List.getElem?_eq_getElem hk)]
  obtain ⟨ba, off, ha, hbl, x0, x1, x2, x3, x4, x5⟩ := nds_at hI hk
  subst ha
  clear x0 x2 x3 x4 x5
  have HFL := Lib.hid hf.len
  have HF := Lib.hid hF
  clear hF hf hI
  generalize t[k].n = xn at *
  obtain ⟨n, rfl⟩ : ∃ n : Nat, xn = (n : Int) := ⟨xn.toNat, by omega⟩
  rw [Int.toNat_natCast] at *
  have hnk := hbk.le
  have HBk := Lib.hid hbk
  obtain ⟨i0, hi, hz0, hz1, hz2⟩ := info_parts infoInt
  have HI0 := Lib.hid (And.intro hi (And.intro hz0 (And.intro hz1 hz2)))
  have HNum := Lib.hid (show i0.bytes * n ≤ 281474976710656 ∧ n ≤ maxLen from ⟨by rw [hz2]; omega, by unfold maxLen; omega⟩)
  clear hi hz0 hz1 hz2 hbk hn0
  go_enter Tryd.func50, Tryd.ntmps50
  go_upto_region 1 with fail
  have hxw : (w.alloc (.cells #[.slice (some ⟨ba, off, none⟩) t.length cap, .slice b fr.length capb] 105)).heap[w.heap.size]? = some (.cells #[.slice (some ⟨ba, off, none⟩) t.length cap, .slice b fr.length capb] 105 (0, 0)) := heap_alloc_new _ _
  have hbw : Below w.heap.size w (w.alloc (.cells #[.slice (some ⟨ba, off, none⟩) t.length cap, .slice b fr.length capb] 105)) := ba1 _ _
  generalize w.alloc (.cells #[.slice (some ⟨ba, off, none⟩) t.length cap, .slice b fr.length capb] 105) = w0 at *
  have hzw := lt_of_heap hxw
  obtain ⟨⟨z0, z1⟩, _⟩ := two_block hxw
  rw [← hbw.cell hbl] at x1
  have hbl := Nat.lt_of_lt_of_le hbl hbw.size
  have HBW := Lib.hid hbw
  clear hxw hbw
  go_wp2_with (at_make; go_loud (refine wpList_make_full _ rfl _ _ _ rfl w0.heap.size 3 i0 (.int .i64 0) 1 Tryd.underlying103 HI0.out.1 HI0.out.2.1 HI0.out.2.2.1 .i64 .i64 (n : Int) (n : Int) n rfl rfl rfl rfl HNum.out.1 HNum.out.2 (Nat.le_refl _) ?_))
  intro w1 hown1 hgrow1
  have hb1 : Below w0.heap.size w0 w1 := (Below.refl _ _).grown hgrow1 (Nat.le_refl _) (fun k hk => by simp at hk)
  have HP0 := Lib.hid (show PartInv w0 fr n k w1 n k [] from ⟨by simp, by simp, HBk.out, Nat.le_refl _, ⟨_, hown1, fun i x h => by simp at h⟩, hb1⟩)
  have y0 := z0
  have y1 := z1
  rw [← hb1.cell hzw] at y0 y1
  rw [← hb1.cell hbl] at x1
  clear hown1 hgrow1 hb1
  go_wp2_with fail
  go_loopg [6, 7] n (fun m v6 v7 wy => ∃ (r e : Nat) (x y : Int) (tail : List Nat), m = r ∧ r ≤ n ∧ v7 = .int .i64 x ∧ v6 = .int .i64 y ∧ x = (r : Int) - 1 ∧ y = (e : Int) - 1 ∧ Hid (PartInv w0 fr n k wy r e tail))
  case atStart => exact ⟨n, k, _, _, [], rfl, Nat.le_refl _, rfl, rfl, rfl, rfl, HP0⟩
  case round =>
    obtain ⟨r, e, x, y, tail, hm, hrn, rfl, rfl, hx, hy, HP⟩ := hrel
    have hek := HP.out.le
    cases r with
    | zero =>
      have t1 : decide (0 ≤ x) = false := by simp; omega
      go_wp2_with fail
      go_ret
      exact partEnd HP.out.done HBW.out HP.out.below
    | succ r =>
      obtain ⟨d, rfl⟩ : ∃ d, e = d + 1 := ⟨e - 1, by have := HP.out.back.1; omega⟩
      obtain rfl : x = (r : Int) := by omega
      obtain rfl : y = (d : Int) := by omega
      clear hx hy
      have t1 : decide (0 ≤ (r : Int)) = true := by simp
      obtain ⟨⟨u, c1⟩, c2⟩ := HP.out.cell
      have HN := Lib.hid HP.out.next
      have hdl : d < fr.length := by have := HFL.out; omega
      obtain ⟨bf, of, hbf, hbl2, c3⟩ := nats_at HF.out hdl
      subst hbf
      rw [← HBW.out.cell hbl2, ← HN.out.below.cell (Nat.lt_of_lt_of_le hbl2 HBW.out.size)] at c3
      have y2 := z1
      rw [← HN.out.below.cell hzw] at y2
      rw [List.getD_eq_getElem?_getD, List.getElem?_eq_getElem hdl, Option.getD_some] at HN
      have hfd : fr[d] ≤ d := by have := HP.out.back.2.1; rw [Nat.add_sub_cancel, List.getD_eq_getElem?_getD, List.getElem?_eq_getElem hdl, Option.getD_some] at this; omega
      generalize fr[d] = q at *
      go_wp2_with fail
      go_roundg r
      case measure => omega
      case rel => exact ⟨r, q, _, _, d :: tail, rfl, by omega, rfl, rfl, by omega, by omega, HN⟩
end Go.Proofs.YtbbaooeioogijaaDoor

