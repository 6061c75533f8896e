/- Where parts begin: the reference. · The parts of a node: the program, the reference. · Kinds of nodes; what may be whose part: the program; kinds: the reference. -/
import Derived.Test.YtkokdafkjjcgoaaGreatDoorBegins
import Derived.Test.YtkokdafkjjcgoaaGreatDoorMg10
import Derived.Test.YtkokdafkjjcgoaaGreatDoorMg11
namespace Go.Proofs.YtkokdafkjjcgoaaGreatDoor
open Go.RowKit

theorem ba1 (w : World) (o : Obj) : Below w.heap.size w (w.alloc o) := (Below.refl _ _).alloc (Nat.le_refl _) _
theorem own_at {w : World} {B n g cap size : Nat} {T : TypeId} {xs : List Value} (h : w.ownsRow B T size (.slice (some ⟨g, 0, none⟩) n cap) n xs) : n ≤ cap ∧ cap ≤ maxLen ∧ B ≤ g ∧ g < w.heap.size := by
  rcases h.2 with ⟨h, _⟩ | ⟨q, _, _, h', hb, hq, h1, h2, _⟩
  · simp at h
  · simp only [Value.slice.injEq, Option.some.injEq, Addr.mk.injEq, and_true, true_and] at h'
    exact ⟨by rw [h'.2]; exact h1, by rw [h'.2]; exact h2, by rw [h'.1]; exact hb, by rw [h'.1]; exact lt_of_heap hq⟩
end Go.Proofs.YtkokdafkjjcgoaaGreatDoor
namespace Go.Proofs.YtkokdafkjjcgoaaGreatDoor
open Go.RowKit

def natCells (n : Nat) : List Value := [natV n]
theorem natCells_len (n : Nat) : (natCells n).length = 1 := rfl
theorem flat_nats (L : List Nat) : L.flatMap natCells = L.map natV := by
  induction L with
  | nil => rfl
  | cons x L ih => rw [List.flatMap_cons, ih]; rfl
/-- numbers in the world -/
abbrev IsNats (B : Nat) (w : World) (a : Option Addr) (L : List Nat) : Prop := IsSl 1 natCells B w a L
theorem NatRow.is {w : World} {base : Nat} {v : Value} {L : List Nat} (h : NatRow w base v L) : ∃ a cap, v = .slice a L.length cap ∧ IsNats w.heap.size w a L ∧ (a = none → L = [] ∧ cap = 0) := by
  unfold NatRow at h
  rw [← flat_nats] at h
  exact own_sl natCells_len h rfl
theorem nats_at {B : Nat} {w : World} {a : Option Addr} {L : List Nat} (h : IsNats B w a L) {i : Nat} (hi : i < L.length) : ∃ b off, a = some ⟨b, off, none⟩ ∧ b < B ∧ w.cell? ⟨b, off + i, none⟩ = some (.int .i64 (L[i] : Int)) := by
  obtain ⟨b, off, e, hlt, hc⟩ := h (fun e => by rw [e] at hi; simp at hi)
  have := hc i _ (List.getElem?_eq_getElem hi) 0 _ rfl
  rw [Nat.mul_one, Nat.add_zero] at this
  exact ⟨b, off, e, hlt, this⟩
theorem Back.le {fr : List Nat} : ∀ {n e : Nat}, Back fr n e → n ≤ e
  | 0, _, _ => Nat.zero_le _
  | n + 1, e, ⟨h1, h2, h3⟩ => by have := h3.le; omega
/-- what holds ahead of a round -/
structure PartInv (w : World) (fr : List Nat) (n k : Nat) (wy : World) (r e : Nat) (tail : List Nat) : Prop where
  rest : partsE fr n k = partsE fr r e ++ tail
  len : r + tail.length = n
  back : Back fr r e
  le : e ≤ k
  row : ∃ ys, wy.ownsRow w.heap.size 3 1 (.slice (some ⟨w.heap.size, 0, none⟩) n n) n ys ∧ ∀ (i : Nat) x, tail[i]? = some x → ys[r + i]? = some (natV x)
  below : Below w.heap.size w wy
theorem PartInv.cell {w wy : World} {fr : List Nat} {n k r e : Nat} {tail : List Nat} (h : PartInv w fr n k wy (r + 1) e tail) : (∃ u, wy.cell? ⟨w.heap.size, r, none⟩ = some u) ∧ wy.frozen? ⟨w.heap.size, r, none⟩ = false := by
  obtain ⟨ys, ho, _⟩ := h.row
  have hl := ho.1
  have := h.len
  refine ⟨?_, ho.frozenAt r⟩
  rw [ho.cellAt r (by omega)]
  exact ⟨_, List.getElem?_eq_getElem (by omega)⟩
theorem PartInv.next {w wy : World} {fr : List Nat} {n k r d : Nat} {tail : List Nat} (h : PartInv w fr n k wy (r + 1) (d + 1) tail) : PartInv w fr n k (wy.setCell ⟨w.heap.size, r, none⟩ (.int .i64 (d : Int))) r (fr.getD d 0) (d :: tail) := by
  obtain ⟨ys, ho, hp⟩ := h.row
  obtain ⟨hb1, hb2, hb3⟩ := h.back
  rw [Nat.add_sub_cancel] at hb2 hb3
  have hl := ho.1
  have hlen := h.len
  refine ⟨by rw [h.rest, partsE, List.append_assoc, Nat.add_sub_cancel]; rfl, by rw [List.length_cons]; omega, hb3, by have := h.le; omega, ⟨_, (ho.stored r (natV d)).1, fun i x hx => ?_⟩, h.below.setCell (Nat.le_refl _) _⟩
  cases i with
  | zero =>
    obtain rfl := Option.some.inj hx
    rw [Nat.add_zero, List.getElem?_set_self (by omega)]
  | succ i =>
    rw [List.getElem?_set_ne (by omega), show r + (i + 1) = r + 1 + i by omega]
    exact hp i x (by simpa using hx)
theorem PartInv.done {w wy : World} {fr : List Nat} {n k e : Nat} {tail : List Nat} (h : PartInv w fr n k wy 0 e tail) : NatRow wy w.heap.size (.slice (some ⟨w.heap.size, 0, none⟩) n n) (partsE fr n k) := by
  obtain ⟨ys, ho, hp⟩ := h.row
  have hl := ho.1
  have hlen := h.len
  have hr := h.rest
  rw [partsE, List.nil_append] at hr
  have : ys = tail.map natV := by
    apply List.ext_getElem?
    intro j
    rw [List.getElem?_map]
    rcases hx : tail[j]? with _ | x
    · rw [List.getElem?_eq_none_iff] at hx
      rw [List.getElem?_eq_none (by omega)]; rfl
    · have := hp j x hx
      rw [Nat.zero_add] at this
      rw [this]; rfl
  subst this
  unfold NatRow
  rw [hr, show tail.length = n by omega]
  exact ho
theorem own_le9 {w : World} {base base' : Nat} {e : TypeId} {size : Nat} {v : Value} {n : Nat} {xs : List Value} (h : w.ownsRow base e size v n xs) (hb : base' ≤ base) : w.ownsRow base' e size v n xs :=
  ⟨h.1, h.2.imp id fun ⟨g, cap, cur, h1, h2, h3⟩ => ⟨g, cap, cur, h1, Nat.le_trans hb h2, h3⟩⟩
/-- how parts ends -/
def PartEnd (L : List Nat) (w : World) (e : Ending) (w' : World) : Prop := (∃ v, e = .returned v ∧ NatRow w' w.heap.size v L) ∧ Below w.heap.size w w'
theorem partEnd {L : List Nat} {w w1 w' : World} {v : Value} (h : NatRow w' w1.heap.size v L) (h1 : Below w.heap.size w w1) (hb : Below w1.heap.size w1 w') : PartEnd L w (.returned v) w' :=
  ⟨⟨v, rfl, own_le9 h h1.size⟩, h1.trans (hb.mono h1.size)⟩

set_option maxRecDepth 100000 in
set_option maxHeartbeats 8000000 in
theorem tparts_ok (a : Option Addr) (cap : Nat) (t : List Nd) (b : Option Addr) (capb : Nat) (fr : List Nat) (w : World) (hI : IsNds w.heap.size w a t) (hF : IsNats w.heap.size w b fr) (hl : t.length ≤ 4096) (hf : Formed t fr) (k : Nat) (hk : k < t.length) :
    Calls Tryz.prog 42 #[.agg #[.slice a t.length cap, .slice b fr.length capb], .int .i64 (k : Int)] w (PartEnd (partsAt t fr k) w) := by
  obtain ⟨hn0, hbk, _⟩ := hf.node k _ (List.getElem?_eq_getElem hk)
  rw [partsAt_is (List.getElem?_eq_getElem hk)]
  obtain ⟨ba, off, ha, hbl, x0, x1, x2, x3, x4, x5⟩ := nds_at hI hk
  subst ha
  clear x0 x2 x3 x4 x5
  have HFL := Lib.hid hf.len
  have HF := Lib.hid hF
  clear hF hf hI
  generalize t[k].n = xn at *
  obtain ⟨n, rfl⟩ : ∃ n : Nat, xn = (n : Int) := ⟨xn.toNat, by omega⟩
  rw [Int.toNat_natCast] at *
  have hnk := hbk.le
  have HBk := Lib.hid hbk
  obtain ⟨i0, hi, hz0, hz1, hz2⟩ := info_parts infoInt
  have HI0 := Lib.hid (And.intro hi (And.intro hz0 (And.intro hz1 hz2)))
  have HNum := Lib.hid (show i0.bytes * n ≤ 281474976710656 ∧ n ≤ maxLen from ⟨by rw [hz2]; omega, by unfold maxLen; omega⟩)
  clear hi hz0 hz1 hz2 hbk hn0
  go_enter Tryz.func42, Tryz.ntmps42
  go_upto_region 1 with fail
  have hxw : (w.alloc (.cells #[.slice (some ⟨ba, off, none⟩) t.length cap, .slice b fr.length capb] 81)).heap[w.heap.size]? = some (.cells #[.slice (some ⟨ba, off, none⟩) t.length cap, .slice b fr.length capb] 81 (0, 0)) := heap_alloc_new _ _
  have hbw : Below w.heap.size w (w.alloc (.cells #[.slice (some ⟨ba, off, none⟩) t.length cap, .slice b fr.length capb] 81)) := ba1 _ _
  generalize w.alloc (.cells #[.slice (some ⟨ba, off, none⟩) t.length cap, .slice b fr.length capb] 81) = w0 at *
  have hzw := lt_of_heap hxw
  obtain ⟨⟨z0, z1⟩, _⟩ := two_block hxw
  rw [← hbw.cell hbl] at x1
  have hbl := Nat.lt_of_lt_of_le hbl hbw.size
  have HBW := Lib.hid hbw
  clear hxw hbw
  go_wp2_with (at_make; go_loud (refine wpList_make_full _ rfl _ _ _ rfl w0.heap.size 3 i0 (.int .i64 0) 1 Tryz.underlying27 HI0.out.1 HI0.out.2.1 HI0.out.2.2.1 .i64 .i64 (n : Int) (n : Int) n rfl rfl rfl rfl HNum.out.1 HNum.out.2 (Nat.le_refl _) ?_))
  intro w1 hown1 hgrow1
  have hb1 : Below w0.heap.size w0 w1 := (Below.refl _ _).grown hgrow1 (Nat.le_refl _) (fun k hk => by simp at hk)
  have HP0 := Lib.hid (show PartInv w0 fr n k w1 n k [] from ⟨by simp, by simp, HBk.out, Nat.le_refl _, ⟨_, hown1, fun i x h => by simp at h⟩, hb1⟩)
  have y0 := z0
  have y1 := z1
  rw [← hb1.cell hzw] at y0 y1
  rw [← hb1.cell hbl] at x1
  clear hown1 hgrow1 hb1
  go_wp2_with fail
  go_loopg [6, 7] n (fun m v6 v7 wy => ∃ (r e : Nat) (x y : Int) (tail : List Nat), m = r ∧ r ≤ n ∧ v7 = .int .i64 x ∧ v6 = .int .i64 y ∧ x = (r : Int) - 1 ∧ y = (e : Int) - 1 ∧ Hid (PartInv w0 fr n k wy r e tail))
  case atStart => exact ⟨n, k, _, _, [], rfl, Nat.le_refl _, rfl, rfl, rfl, rfl, HP0⟩
  case round =>
    obtain ⟨r, e, x, y, tail, hm, hrn, rfl, rfl, hx, hy, HP⟩ := hrel
    have hek := HP.out.le
    cases r with
    | zero =>
      have t1 : decide (0 ≤ x) = false := by simp; omega
      go_wp2_with fail
      go_ret
      exact partEnd HP.out.done HBW.out HP.out.below
    | succ r =>
      obtain ⟨d, rfl⟩ : ∃ d, e = d + 1 := ⟨e - 1, by have := HP.out.back.1; omega⟩
      obtain rfl : x = (r : Int) := by omega
      obtain rfl : y = (d : Int) := by omega
      clear hx hy
      have t1 : decide (0 ≤ (r : Int)) = true := by simp
      obtain ⟨⟨u, c1⟩, c2⟩ := HP.out.cell
      have HN := Lib.hid HP.out.next
      have hdl : d < fr.length := by have := HFL.out; omega
      obtain ⟨bf, of, hbf, hbl2, c3⟩ := nats_at HF.out hdl
      subst hbf
      rw [← HBW.out.cell hbl2, ← HN.out.below.cell (Nat.lt_of_lt_of_le hbl2 HBW.out.size)] at c3
      have y2 := z1
      rw [← HN.out.below.cell hzw] at y2
      rw [List.getD_eq_getElem?_getD, List.getElem?_eq_getElem hdl, Option.getD_some] at HN
      have hfd : fr[d] ≤ d := by have := HP.out.back.2.1; rw [Nat.add_sub_cancel, List.getD_eq_getElem?_getD, List.getElem?_eq_getElem hdl, Option.getD_some] at this; omega
      generalize fr[d] = q at *
      go_wp2_with fail
      go_roundg r
      case measure => omega
      case rel => exact ⟨r, q, _, _, d :: tail, rfl, by omega, rfl, rfl, by omega, by omega, HN⟩
end Go.Proofs.YtkokdafkjjcgoaaGreatDoor
namespace Go.Proofs.YtkokdafkjjcgoaaGreatDoor
open Go.RowKit

theorem expr_ok (k : Int) (w : World) : Calls Tryz.prog 51 #[.int .i64 k] w fun e w' => e = .returned (.bool (exprK k)) ∧ w' = w := by
  refine Or.elim (Classical.em (1 ≤ k)) (fun h1 => ?a1) (fun h1 => ?b1)
  · have t1 : decide (1 ≤ k) = true := by simpa using h1
    refine Or.elim (Classical.em (k ≤ 17)) (fun h2 => ?a2) (fun h2 => ?b2)
    · have t2 : decide (k ≤ 17) = true := by simpa using h2
      have hr : exprK k = true := by unfold exprK; simp; omega
      rw [hr]
      go_enter Tryz.func51, Tryz.ntmps51
      go_wp2_with fail
      go_ret
      exact ⟨rfl, rfl⟩
    · have t2 : decide (k ≤ 17) = false := by simpa using h2
      have hr : exprK k = false := by unfold exprK; simp; omega
      rw [hr]
      go_enter Tryz.func51, Tryz.ntmps51
      go_wp2_with fail
      go_ret
      exact ⟨rfl, rfl⟩
  · have t1 : decide (1 ≤ k) = false := by simpa using h1
    have hr : exprK k = false := by unfold exprK; simp; omega
    rw [hr]
    go_enter Tryz.func51, Tryz.ntmps51
    go_wp2_with fail
    go_ret
    exact ⟨rfl, rfl⟩

theorem stmt_ok (k : Int) (w : World) : Calls Tryz.prog 175 #[.int .i64 k] w fun e w' => e = .returned (.bool (stmtK k)) ∧ w' = w := by
  refine Or.elim (Classical.em (20 ≤ k)) (fun h1 => ?a5) (fun h1 => ?b5)
  · have t1 : decide (20 ≤ k) = true := by simpa using h1
    refine Or.elim (Classical.em (k ≤ 32)) (fun h2 => ?a6) (fun h2 => ?b6)
    · have t2 : decide (k ≤ 32) = true := by simpa using h2
      refine Or.elim (Classical.em (k = 22)) (fun h3 => ?a7) (fun h3 => ?b7)
      · have t3 : (k != 22) = false := by simpa using h3
        have hr : stmtK k = false := by unfold stmtK; simp; omega
        rw [hr]
        go_enter Tryz.func175, Tryz.ntmps175
        go_wp2_with fail
        go_ret
        exact ⟨rfl, rfl⟩
      · have t3 : (k != 22) = true := by simpa using h3
        have hr : stmtK k = true := by unfold stmtK; simp; omega
        rw [hr]
        go_enter Tryz.func175, Tryz.ntmps175
        go_wp2_with fail
        go_ret
        exact ⟨rfl, rfl⟩
    · have t2 : decide (k ≤ 32) = false := by simpa using h2
      have hr : stmtK k = false := by unfold stmtK; simp; omega
      rw [hr]
      go_enter Tryz.func175, Tryz.ntmps175
      go_wp2_with fail
      go_ret
      exact ⟨rfl, rfl⟩
  · have t1 : decide (20 ≤ k) = false := by simpa using h1
    have hr : stmtK k = false := by unfold stmtK; simp; omega
    rw [hr]
    go_enter Tryz.func175, Tryz.ntmps175
    go_wp2_with fail
    go_ret
    exact ⟨rfl, rfl⟩

set_option maxHeartbeats 8000000 in
theorem may_ok (k q : Int) (i : Nat) (w : World) (h : k = 25 → i < 2) : Calls Tryz.prog 134 #[.int .i64 k, .int .i64 (i : Int), .int .i64 q] w fun e w' => e = .returned (.bool (mayN k i q)) ∧ w' = w := by
  have HEk := Lib.hid (fun w => expr_ok k w)
  have HEq := Lib.hid (fun w => expr_ok q w)
  have HSq := Lib.hid (fun w => stmt_ok q w)
  unfold mayN
  rcases hx : exprK k with _ | _ <;> rw [hx] at HEk
  case' true =>
    rw [if_pos (Or.inl rfl)]
    clear hx h
    generalize exprK q = E at *
  case' false =>
    refine Or.elim (Classical.em (k = 20 ∨ k = 32 ∨ k = 22)) (fun h20 => ?a11) (fun h20 => ?b11)
    case' a11 =>
      rw [if_pos (Or.inr h20)]
      rcases h20 with rfl | rfl | rfl
      all_goals
        clear hx h
        generalize exprK q = E at *
    case' b11 =>
      rw [if_neg (by simp; omega)]
      refine Or.elim (Classical.em (k = 26)) (fun h26 => ?a12) (fun h26 => ?b12)
      case' a12 =>
        rw [if_pos h26]
        subst h26
        clear hx h20 h
        refine Or.elim (Classical.em (i = 0)) (fun i0 => ?a13) (fun i0 => ?b13)
        case' a13 =>
          rw [if_pos i0]
          subst i0
          generalize exprK q = E at *
          refine Or.elim (Classical.em (q = 20)) (fun q20 => ?a14) (fun q20 => ?b14)
          case' a14 => subst q20
          case' b14 =>
            refine Or.elim (Classical.em (q = 22)) (fun q22 => ?a15) (fun q22 => ?b15)
            case' a15 => subst q22
            case' b15 =>
              refine Or.elim (Classical.em (q = 33)) (fun q33 => ?a16) (fun q33 => ?b16)
              case' a16 => subst q33
              case' b16 =>
                rw [decide_eq_false (by omega)]
                have f1 : (q == 20) = false := by simpa using q20
                have f2 : (q == 22) = false := by simpa using q22
                have f3 : (q == 33) = false := by simpa using q33
                clear q20 q22 q33
        case' b13 =>
          rw [if_neg i0]
          have e0 : ((i : Int) == 0) = false := by simp; omega
          refine Or.elim (Classical.em (i = 3)) (fun i3 => ?a17) (fun i3 => ?b17)
          case' a17 =>
            rw [if_pos i3]
            clear i0 e0
            subst i3
            generalize stmtK q = S at *
          case' b17 =>
            rw [if_neg i3]
            have e3 : ((i : Int) == 3) = false := by simp; omega
            clear i0 i3
            refine Or.elim (Classical.em (q = 33)) (fun qc => ?a18) (fun qc => ?b18)
            case' a18 => subst qc
            case' b18 =>
              rw [decide_eq_false qc]
              have f1 : (q == 33) = false := by simpa using qc
              clear qc
            all_goals
              generalize exprK _ = E at *
              rcases E with _ | _
      case' b12 =>
        rw [if_neg h26]
        refine Or.elim (Classical.em (k = 21)) (fun h21 => ?a19) (fun h21 => ?b19)
        case' a19 =>
          rw [if_pos h21]
          subst h21
          clear hx h20 h26 h
          refine Or.elim (Classical.em (q = 22)) (fun qc => ?a20) (fun qc => ?b20)
          case' a20 => subst qc
          case' b20 =>
            rw [decide_eq_false qc]
            have f1 : (q == 22) = false := by simpa using qc
            clear qc
          all_goals
            generalize stmtK _ = S at *
            rcases S with _ | _
        case' b19 =>
          rw [if_neg h21]
          refine Or.elim (Classical.em (k = 25)) (fun h25 => ?a21) (fun h25 => ?b21)
          case' a21 =>
            rw [if_pos h25]
            have hi := h h25
            subst h25
            clear hx h20 h26 h21 h
            refine Or.elim (Classical.em (i = 0)) (fun i0 => ?a22) (fun i0 => ?b22)
            case' a22 =>
              rw [if_pos i0]
              subst i0
              clear hi
            case' b22 =>
              rw [if_neg i0]
              obtain rfl : i = 1 := by omega
              clear hi i0
            all_goals
              generalize stmtK q = S at *
              generalize exprK q = E at *
              rcases S with _ | _
          case' b21 =>
            rw [if_neg h25]
            refine Or.elim (Classical.em (k = 23 ∨ k = 24 ∨ k = 27 ∨ k = 28)) (fun h23 => ?a23) (fun h23 => ?b23)
            case' a23 =>
              rw [if_pos h23]
              clear hx h20 h26 h21 h25 h
              refine Or.elim (Classical.em (i = 0)) (fun i0 => ?a24) (fun i0 => ?b24)
              case' a24 =>
                rw [if_pos i0]
                subst i0
              case' b24 =>
                rw [if_neg i0]
                have e0 : ((i : Int) == 0) = false := by simp; omega
                have e1 : decide (0 < (i : Int)) = true := by simp; omega
                have e2 : decide (0 < i) = true := by simp; omega
                clear i0
              all_goals
                generalize stmtK q = S at *
                generalize exprK q = E at *
                rcases E with _ | _
                all_goals rcases h23 with rfl | rfl | rfl | rfl
            case' b23 =>
              rw [if_neg h23]
              have g20 : (k == 20) = false := by simp; omega
              have g21 : (k == 21) = false := by simp; omega
              have g22 : (k == 22) = false := by simp; omega
              have g23 : (k == 23) = false := by simp; omega
              have g24 : (k == 24) = false := by simp; omega
              have g25 : (k == 25) = false := by simp; omega
              have g26 : (k == 26) = false := by simp; omega
              have g27 : (k == 27) = false := by simp; omega
              have g28 : (k == 28) = false := by simp; omega
              have g32 : (k == 32) = false := by simp; omega
              clear hx h20 h26 h21 h25 h23 h
              generalize stmtK q = S at *
  all_goals
    go_enter Tryz.func134, Tryz.ntmps134
    go_wp2_with (first | (go_at_call 51; (with_reducible refine (HEk.out _).mono ?_); rintro e w2 ⟨rfl, hw2⟩; subst w2) | (go_at_call 51; (with_reducible refine (HEq.out _).mono ?_); rintro e w2 ⟨rfl, hw2⟩; subst w2) | (go_at_call 175; (with_reducible refine (HSq.out _).mono ?_); rintro e w2 ⟨rfl, hw2⟩; subst w2))
    go_ret
    exact ⟨rfl, rfl⟩
end Go.Proofs.YtkokdafkjjcgoaaGreatDoor
