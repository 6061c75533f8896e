/- The reference: what is wrong with structs; with a type, and structs. -/
import Derived.Test.YtkokdafkjjcgoaaGreatDoorRefOneS
namespace Go.Proofs.YtkokdafkjjcgoaaGreatDoor
open Go.RowKit

/-- what Structs tells -/
def faultN (L : List Sr) : Int × Int := match learnK L with
  | .inl (i, c) => (((i : Nat) : Int), c)
  | .inr _ => (0, 0)
theorem faultN_bad {L : List Sr} {i : Nat} {c : Int} (h : learnK L = .inl (i, c)) : faultN L = (((i : Nat) : Int), c) := by unfold faultN; rw [h]
theorem faultN_ok {L : List Sr} {K : List Kn} (h : learnK L = .inr K) : faultN L = (0, 0) := by unfold faultN; rw [h]
def StructsEnd (L : List Sr) (w : World) (e : Ending) (w' : World) : Prop := e = .returned (.agg #[.int .i64 (faultN L).1, .int .i64 (faultN L).2]) ∧ Below w.heap.size w w'
theorem structsEnd {L : List Sr} {x y : Int} {w w' : World} (h : faultN L = (x, y)) (hb : Below w.heap.size w w') : StructsEnd L w (.returned (.agg #[.int .i64 x, .int .i64 y])) w' := ⟨by rw [h], hb⟩
/-- what holds ahead of a round -/
structure StInv (w1 : World) (L : List Sr) (wy : World) (k : Nat) (K : List Kn) : Prop where
  rest : learnF [] L = learnF K (L.drop k)
  knows : KnowsK K (L.take k)
  below : Below w1.heap.size w1 wy
theorem StInv.len {w1 wy : World} {L : List Sr} {k : Nat} {K : List Kn} (h : StInv w1 L wy k K) (hk : k ≤ L.length) : K.length = k := by
  have := congrArg List.length h.knows.list
  rw [List.length_map, List.length_take] at this; omega
theorem IsSrs.take {B : Nat} {w : World} {a : Option Addr} {L : List Sr} {mv : List Value} (h : IsSrs B w a L mv) (k : Nat) : IsSrs B w a (L.take k) (mv.take k) := by
  refine ⟨by rw [List.length_take, List.length_take, h.len], fun hn => ?_, fun x hx => h.names x (List.mem_of_mem_take hx)⟩
  obtain ⟨b, off, e, hlt, hr⟩ := h.at_ (fun e => hn (by rw [e]; simp))
  refine ⟨b, off, e, hlt, fun i x v hx hv => hr i x v ?_ ?_⟩
  · rw [List.getElem?_take] at hx; split at hx; exact hx; cases hx
  · rw [List.getElem?_take] at hv; split at hv; exact hv; cases hv

set_option maxRecDepth 100000 in
set_option maxHeartbeats 4000000 in
theorem refStructs_ok (a : Option Addr) (cap : Nat) (L : List Sr) (mv : List Value) (w : World) (hS : IsSrs w.heap.size w a L mv) (hcap : L.length ≤ cap) (hcm : cap ≤ maxLen) :
    Calls Tryz.prog 76 #[.slice a L.length cap] w (StructsEnd L w) := by
  have HS := Lib.hid hS
  have hci : (cap : Int) ≤ 9223372036854775807 := by unfold maxLen at hcm; omega
  have hLl : (L.length : Int) ≤ (cap : Int) := by omega
  clear hS
  have hat : (w.alloc (.cells #[.int .i64 0, .int .i64 0] 68)).heap[w.heap.size]? = some (.cells #[.int .i64 0, .int .i64 0] 68 (0, 0)) := heap_alloc_new _ _
  have hb1 : Below w.heap.size w (w.alloc (.cells #[.int .i64 0, .int .i64 0] 68)) := (Below.refl _ _).alloc (Nat.le_refl _) _
  go_enter Tryz.func76, Tryz.ntmps76
  go_upto_region 1 with fail
  generalize w.alloc (.cells #[.int .i64 0, .int .i64 0] 68) = w1 at *
  have HAt := Lib.hid hat
  have HB1 := Lib.hid hb1
  have hz1 := lt_of_heap hat
  by_cases h64 : 64 < L.length
  · have hfin := Lib.hid (faultN_bad (show learnK L = .inl (0, 3) by unfold learnK; rw [if_pos h64]))
    have t1 : (64 : Int) < L.length := by omega
    obtain ⟨⟨d0, d1⟩, fd⟩ := two_block hat
    have fd0 := fd 0
    have fd1 := fd 1
    clear fd hat hb1 h64
    go_wp2_with fail
    exact bodyPost_ret (v := .agg #[.int .i64 ((0 : Nat) : Int), .int .i64 3]) (by simp [results, Tryz.results76, go_sem, d0, d1]) rfl (structsEnd hfin.out (set_fault HB1.out _ _))
  have t1 : (L.length : Int) ≤ 64 := by omega
  have hL := Lib.hid (show learnK L = learnF [] L by unfold learnK; rw [if_neg h64])
  clear hat hb1
  go_wp2_with fail
  go_loopg [3] L.length (fun g v3 wy => ∃ (k : Nat) (K : List Kn), k ≤ L.length ∧ k + g = L.length ∧ v3 = .int .i64 (k : Int) ∧ Hid (StInv w1 L wy k K))
  case atStart => exact ⟨0, [], by omega, by omega, rfl, ⟨rfl, knows_nil, Below.refl _ _⟩⟩
  case round =>
    obtain ⟨k, K, hk, hkg, rfl, HI⟩ := hrel
    have HBw := Lib.hid (HB1.out.trans (HI.out.below.mono HB1.out.size))
    have hat : wr.heap[w.heap.size]? = some (.cells #[.int .i64 0, .int .i64 0] 68 (0, 0)) := (HI.out.below.block _ hz1).trans HAt.out
    have HAr := Lib.hid hat
    by_cases hlt : k < L.length
    · obtain ⟨bb, off, ha, hbl, hrow⟩ := HS.out.at_ (fun e => by rw [e] at hlt; simp at hlt)
      have hlm : k < mv.length := by rw [HS.out.len]; exact hlt
      obtain ⟨e1, e2, hms⟩ := hrow k _ _ (List.getElem?_eq_getElem hlt) (List.getElem?_eq_getElem hlm)
      rw [← HBw.out.cell hbl] at e1 e2
      have hx := drop_at L k hlt
      have htk := take_at L k hlt
      generalize L[k]'hlt = x at *
      generalize mv[k]'hlm = v at *
      have HX := Lib.hid hx
      have HTk := Lib.hid htk
      have HC := Lib.hid (show ∀ w', Below wr.heap.size wr w' → Calls Tryz.prog 127 #[.agg #[.string x.name, v], .slice a k cap] w' (OneEnd K x w') from fun w' hb => by
        have hb0 := HBw.out.trans (hb.mono HBw.out.size)
        have := refOneS_ok K (L.take k) a cap (mv.take k) HI.out.knows.good HI.out.knows.fit HI.out.knows.list (by have := HI.out.len hk; omega) (by rw [ha]; simp) x v w' (((HS.out.below hb0).take k).mono hb0.size) ((hms.below hb0 (Nat.le_refl _)).mono hb0.size)
        rw [List.length_take, Nat.min_eq_left hk] at this
        exact this)
      have hkc : (k : Int) ≤ (cap : Int) := by omega
      have hkl : (k : Int) < (L.length : Int) := by omega
      subst ha
      clear hx htk hrow hlm hms hat
      have HEnd := Lib.hid (show ∀ w3, Below wr.heap.size wr w3 → Below w.heap.size w w3 from fun w3 hb => HBw.out.trans (hb.mono HBw.out.size))
      rcases had : addK K x with c | k'
      · have hfin := Lib.hid (faultN_bad (show learnK L = .inl (k, c) by rw [hL.out, HI.out.rest, HX.out, learnF, had]; simp only; rw [HI.out.len hk]))
        have hov := one_no had
        have hc0 := addK_ne had
        have HCw := Lib.hid (show ∀ w', Below wr.heap.size wr w' → Calls Tryz.prog 127 #[.agg #[.string x.name, v], .slice (some ⟨bb, off, none⟩) k cap] w' (fun e w'' => e = .returned (.int .i64 c) ∧ Below w'.heap.size w' w'') from fun w' hb => (HC.out w' hb).mono fun e w'' h => by rw [← hov]; exact h)
        have t4 : (c != 0) = true := by simp [hc0]
        clear hov hc0 had
        go_wp2_with fail
        go_region_held3 (fun w' => w'.cell? ⟨bb, off + k * 2, none⟩ = some (.string x.name) ∧ w'.cell? ⟨bb, off + k * 2 + 1, none⟩ = some v) (first | (constructor <;> assumption) | go_keep)
          ((go_at_call 127; (with_reducible refine (HCw.out _ ((Below.refl _ _).drew)).mono ?_); rintro e w3 ⟨rfl, hb3⟩; have hb4 := ((Below.refl wr.heap.size wr).drew).trans hb3; have HB3 := Lib.hid hb4; have k0 := (hb4.cell (p := ⟨bb, off + k * 2, none⟩) (Nat.lt_of_lt_of_le hbl HBw.out.size)).trans e1; have k1 := (hb4.cell (p := ⟨bb, off + k * 2 + 1, none⟩) (Nat.lt_of_lt_of_le hbl HBw.out.size)).trans e2; clear hb3 hb4))
        have h31 := (HB3.out.block _ (lt_of_heap HAr.out)).trans HAr.out
        obtain ⟨⟨d0, d1⟩, fd⟩ := two_block h31
        have fd0 := fd 0
        have fd1 := fd 1
        clear fd h31
        go_wp2_with fail
        exact bodyPost_ret (v := .agg #[.int .i64 (k : Int), .int .i64 c]) (by simp [results, Tryz.results76, go_sem, d0, d1]) rfl (structsEnd hfin.out (set_fault (HEnd.out _ HB3.out) _ _))
      · have hov : oneV K x = 0 := by rw [oneV, had]
        have HN := Lib.hid (show ∀ w3, Below wr.heap.size wr w3 → StInv w1 L w3 (k + 1) (K ++ [k']) from fun w3 hb => ⟨by rw [HI.out.rest, HX.out, learnF, had], by rw [HTk.out]; exact knows_snoc HI.out.knows (by have := HI.out.len hk; omega) had, HI.out.below.trans (hb.mono HI.out.below.size)⟩)
        have HCw := Lib.hid (show ∀ w', Below wr.heap.size wr w' → Calls Tryz.prog 127 #[.agg #[.string x.name, v], .slice (some ⟨bb, off, none⟩) k cap] w' (fun e w'' => e = .returned (.int .i64 0) ∧ Below w'.heap.size w' w'') from fun w' hb => (HC.out w' hb).mono fun e w'' h => by rw [← hov]; exact h)
        clear hov had
        go_wp2_with fail
        go_region_held3 (fun w' => w'.cell? ⟨bb, off + k * 2, none⟩ = some (.string x.name) ∧ w'.cell? ⟨bb, off + k * 2 + 1, none⟩ = some v) (first | (constructor <;> assumption) | go_keep)
          ((go_at_call 127; (with_reducible refine (HCw.out _ ((Below.refl _ _).drew)).mono ?_); rintro e w3 ⟨rfl, hb3⟩; have hb4 := ((Below.refl wr.heap.size wr).drew).trans hb3; have HB3 := Lib.hid hb4; have k0 := (hb4.cell (p := ⟨bb, off + k * 2, none⟩) (Nat.lt_of_lt_of_le hbl HBw.out.size)).trans e1; have k1 := (hb4.cell (p := ⟨bb, off + k * 2 + 1, none⟩) (Nat.lt_of_lt_of_le hbl HBw.out.size)).trans e2; clear hb3 hb4))
        go_wp2_with fail
        go_roundg (L.length - (k + 1))
        case measure => omega
        case rel => exact ⟨k + 1, K ++ [k'], by omega, by omega, by rw [Int.natCast_add]; rfl, HN.out _ HB3.out⟩
    · obtain rfl : k = L.length := by omega
      have t3 : (L.length : Int) ≤ (L.length : Int) := Int.le_refl _
      have hfin := Lib.hid (faultN_ok (show learnK L = .inr K by rw [hL.out, HI.out.rest, List.drop_length, learnF]))
      obtain ⟨⟨d0, d1⟩, fd⟩ := two_block hat
      have fd0 := fd 0
      have fd1 := fd 1
      clear fd hat
      go_wp2_with fail
      exact bodyPost_ret (v := .agg #[.int .i64 0, .int .i64 0]) (by simp [results, Tryz.results76, go_sem, d0, d1]) rfl (structsEnd hfin.out (set_fault HBw.out _ _))
end Go.Proofs.YtkokdafkjjcgoaaGreatDoor


