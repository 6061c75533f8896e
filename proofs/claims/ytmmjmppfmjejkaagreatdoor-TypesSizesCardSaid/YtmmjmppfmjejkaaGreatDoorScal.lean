/- Scalars of an object: the program. -/
import Derived.Test.YtmmjmppfmjejkaaGreatDoorScalG
import Derived.Test.YtmmjmppfmjejkaaGreatDoorPlaces
import Derived.Deep.RegionHeld3
namespace Go.Proofs.YtmmjmppfmjejkaaGreatDoor
open Go.RowKit

theorem scal_str {t : Ty} (hr : Right t) (hl : (code t).length ≤ 65536) : isScalS (tyB t) = isScalarT t := by
  unfold isScalS
  rw [tyS_some.2 ⟨rfl, hr, hl⟩]; rfl
/-- the scalars of a type are gathered -/
def ScalP (K : List Kn) (w0 : World) (b m : Nat) (t : Ty) : Prop := ∀ (x : Nat) (out : List Pc) (v : Value) (w : World), Below w0.heap.size w0 w → PcRow w w0.heap.size v out → out.length ≤ 4096 → x + (measT K t).1 ≤ 65536 →
  Calls Tryz.prog 50 #[.pointer (some ⟨b, 0, none⟩), .string (tyB t), .int .i64 (x : Int), v] w (ScalQ w0.heap.size out (piecesK K m t x) v w)

set_option maxRecDepth 100000 in
set_option maxHeartbeats 4000000 in
theorem scal_one (K : List Kn) (w0 : World) (b m : Nat) (t : Ty) (hE : TE w0) (hr : Right t) (hl : (code t).length ≤ 65536) (hs : isScalarT t = true) : ScalP K w0 b m t := by
  intro x out v w hb ho hlen hx
  have hx1 : (x : Int) ≤ 65536 := by omega
  rw [pieces_scal hs]
  have HI := Lib.hid (show Calls Tryz.prog 25 #[.string (tyB t)] w fun e w' => e = .returned (.bool true) ∧ Below w.heap.size w w' by
    have := isScalar_ok (tyB t) w (hE.below hb)
    rw [scal_str hr hl, hs] at this
    exact this)
  obtain ⟨i0, hi, hz0, hz1, hz2⟩ := info_parts infoPc
  have HI0 := Lib.hid (And.intro hi (And.intro hz0 (And.intro hz1 hz2)))
  have HO := Lib.hid ho
  have HB := Lib.hid hb
  have HSn := Lib.hid (pcCells_snoc out (x, t))
  clear hi hz0 hz1 hz2 ho hb hE hs hx
  have hlc : (out.length : Int) ≤ 4096 := by omega
  go_enter Tryz.func50, Tryz.ntmps50
  go_wp2_with (first | (go_at_call 25; (with_reducible refine HI.out.mono ?_); rintro e w1 ⟨rfl, hb1⟩; have HB1 := Lib.hid hb1; clear hb1) | (at_builtin; refine wpList_append_lies _ rfl _ _ _ rfl w0.heap.size 46 i0 (.agg #[.int .i64 0, .string ⟨#[]⟩]) 2 24 Tryz.underlying42 HI0.out.1 HI0.out.2.1 HI0.out.2.2.1 HI0.out.2.2.2 rfl (by decide) v out.length (pcCells out) rfl ((HO.out.belowed HB1.out).alloc _) ⟨w1.heap.size, 0, none⟩ 1 1 [.int .i64 (x : Int), .string (tyB t)] rfl rfl (news2 (T := 46) (heap_alloc_new _ _)) (by simp [Value.oneCell']) (by decide) (by unfold maxLen; omega) (by omega) (by have := HB.out.size; have := HB1.out.size; simp; omega) (w1.heap.size + 1) (by simp) ?_))
  intro g cp w2 hown hgrow hat hlt
  have hg1 : Grew w v (w1.alloc (.cells #[.int .i64 (x : Int), .string (tyB t)] 46)) v := Grew.below (HB1.out.alloc HB1.out.size _)
  have hg2 : Grew (w1.alloc (.cells #[.int .i64 (x : Int), .string (tyB t)] 46)) v w2 (.slice (some ⟨g, 0, none⟩) (out.length + 1) cp) :=
    ⟨hgrow, hat.elim (fun h => .inr (.inl (by rw [h]; rfl))) (fun h => .inr (.inr ⟨g, rfl, by rw [h]; simp⟩))⟩
  have HG := Lib.hid (hg1.trans hg2)
  have HR := Lib.hid (show PcRow w2 w0.heap.size (.slice (some ⟨g, 0, none⟩) (out.length + 1) cp) (out ++ [(x, t)]) by
    unfold PcRow
    rw [List.length_append, HSn.out]
    exact hown)
  clear hown hgrow hat hlt hg1 hg2
  by_cases h4 : out.length + 1 ≤ 4096
  · have t1 : (out.length : Int) + 1 ≤ 4096 := by omega
    go_wp2_with fail
    go_ret2
    exact scalQ_yes h4 HG.out HR.out
  · have t1 : ¬ ((out.length : Int) + 1 ≤ 4096) := by omega
    have t2 : decide ((out.length : Int) + 1 ≤ 4096) = false := decide_eq_false t1
    go_wp2_with fail
    go_ret2
    exact scalQ_no (by simp; omega) HG.out

theorem scal_false (t : Ty) {w0 : World} (hE : TE w0) (hr : Right t) (hl : (code t).length ≤ 65536) (hs : isScalarT t = false) (w : World) (hb : Below w0.heap.size w0 w) : Calls Tryz.prog 25 #[.string (tyB t)] w fun e w' => e = .returned (.bool false) ∧ Below w.heap.size w w' := by
  have := isScalar_ok (tyB t) w (hE.below hb)
  rw [scal_str hr hl, hs] at this
  exact this
theorem tyB_j (t : Ty) (h : headT t ≠ 106) : ((tyB t).toList == [106]) = false := by
  rw [Lib.toList_data, tyB_list]
  cases t with
  | base c => simp only [code, headT] at *; simpa using h
  | _ => simp [code]
set_option maxHeartbeats 1000000 in
theorem scal_jmp (K : List Kn) (w0 : World) (b m : Nat) (hE : TE w0) : ScalP K w0 b m (.base 106) := by
  intro x out v w hb ho hlen hx
  rw [pieces_jmp]
  have HI := Lib.hid (scal_false (.base 106) hE (by unfold Right; decide) (by decide) (by decide) w hb)
  have HO := Lib.hid ho
  have t1 : ((tyB (.base 106)).toList == [106]) = true := by rw [Lib.toList_data, tyB_list]; rfl
  generalize tyB (.base 106) = s at *
  clear hb ho hE
  go_enter Tryz.func50, Tryz.ntmps50
  go_wp2_with (go_at_call 25; (with_reducible refine HI.out.mono ?_); rintro e w1 ⟨rfl, hb1⟩; have HB1 := Lib.hid hb1; clear hb1)
  go_ret2
  exact scalQ_yes (by simpa using hlen) (Grew.below HB1.out) (by rw [List.append_nil]; exact HO.out.belowed HB1.out)

/-- what holds ahead of a round over an array -/
structure ArrInv (w0 w1 : World) (v0 : Value) (out : List Pc) (f : Nat → List Pc) (wy : World) (v : Value) (j : Nat) : Prop where
  row : PcRow wy w0.heap.size v (out ++ (List.range j).flatMap f)
  grew : Grew w1 v0 wy v
  len : (out ++ (List.range j).flatMap f).length ≤ 4096
theorem mul_bd {x j n b : Nat} (h : j < n) (hb : x + n * b ≤ 65536) : x + j * b + b ≤ 65536 := by
  have : (j + 1) * b ≤ n * b := Nat.mul_le_mul_right b h
  rw [Nat.add_mul] at this
  omega
set_option maxRecDepth 100000 in
set_option maxHeartbeats 8000000 in
theorem scal_arr {B b mb : Nat} {lv sv av : Value} {mv : List Value} (K : List Kn) (w0 : World) (m n : Nat) (u : Ty) (hE : TE w0) (hK : KnAt B w0 b mb lv sv av mv K) (hF : FitK K) (hr : Right (.arr n u)) (hl : (code (.arr n u)).length ≤ 65536) (hsh : shapeT (.arr n u) = true) (hth : thereT K u = true) (ih : ScalP K w0 b m u) : ScalP K w0 b m (.arr n u) := by
  intro x out v w hb ho hlen hx
  have hsu : shapeT u = true := by
    rw [shapeT] at hsh
    simp only [Bool.and_eq_true] at hsh
    exact hsh.2.2
  have hlu : (code u).length ≤ 65536 := by rw [code] at hl; simp at hl; omega
  have HI := Lib.hid (scal_false (.arr n u) hE hr hl (by rfl) w hb)
  have HS := Lib.hid (fun w hM => split_arr n u w hr hM hl)
  have HM := Lib.hid (fun w1 (hb : Below w0.heap.size w0 w1) => measure_ok u w1 hr.2 hlu hsu hth (hE.below hb) (hK.below hb) hF)
  obtain ⟨h0, hc⟩ := tyB_head (.arr n u)
  have t4 : (((tyB (.arr n u))[0].toNat : Int) == 97) = true := by rw [hc]; rfl
  have t1 := tyB_j (.arr n u) (by simp [headT])
  rw [measT] at hx
  simp only at hx
  have HP := Lib.hid (pieces_arr K m n u x)
  have HL := Lib.hid (fun j => pieces_len K m u (x + j * (measT K u).1) x)
  have hal := (meas_al hF u)
  have IH := Lib.hid ih
  unfold ScalP at IH
  have hn : n ≤ 65536 := by
    rw [shapeT] at hsh
    simp only [Bool.and_eq_true, decide_eq_true_eq] at hsh
    exact hsh.1.2
  have hms : (measT K u).1 ≤ 65536 ∨ n = 0 := by
    rcases Nat.eq_zero_or_pos n with h | h
    · exact .inr h
    · left
      have := Nat.le_mul_of_pos_left (measT K u).1 h
      omega
  have hn1 : 1 ≤ n := by
    rw [shapeT] at hsh
    simp only [Bool.and_eq_true, decide_eq_true_eq] at hsh
    exact hsh.1.1
  have hms : (measT K u).1 ≤ 65536 := by rcases hms with h | h; exact h; omega
  rw [capM_id hms] at HM
  unfold measV at HM
  have HO := Lib.hid ho
  have HB := Lib.hid hb
  have HE := Lib.hid hE
  have HLn := Lib.hid hlen
  generalize tyB (.arr n u) = s at *
  generalize measT K u = p at *
  obtain ⟨sz, al⟩ := p
  simp only at HM HP HL hx hms IH
  clear hb ho hE hr hl hsh hth ih hsu hlu hc hK hF hal
  go_enter Tryz.func50, Tryz.ntmps50
  go_wp2_with (go_at_call 25; (with_reducible refine HI.out.mono ?_); rintro e w1 ⟨rfl, hb1⟩; have HW1 := Lib.hid hb1; have HS1 := Lib.hid (HS.out w1 ((HE.out.below (HB.out.trans (hb1.mono HB.out.size))).maxl)); clear hb1)
  go_wp2_with (go_at_call 39; (with_reducible refine HS1.out.mono ?_); rintro e w2 ⟨rfl, hb2⟩; have HW2 := Lib.hid (HW1.out.trans (hb2.mono HW1.out.size)); have HM2 := Lib.hid (HM.out w2 (HB.out.trans ((HW1.out.trans (hb2.mono HW1.out.size)).mono HB.out.size))); clear hb2)
  go_wp2_with (go_at_call 47; (with_reducible refine HM2.out.mono ?_); rintro e w3 ⟨rfl, hb3⟩; have HW3 := Lib.hid (HW2.out.trans (hb3.mono HW2.out.size)); clear hb3)
  have HB3 := Lib.hid (HB.out.trans (HW3.out.mono HB.out.size))
  have hszi : (sz : Int) ≤ 65536 := by omega
  have hni : (n : Int) ≤ 65536 := by omega
  have hxi : (x : Int) ≤ 65536 := by omega
  go_loopg [3, 56] n (fun g v3 v56 wy => ∃ j : Nat, j ≤ n ∧ j + g = n ∧ v56 = .int .i64 (j : Int) ∧ Hid (ArrInv w0 w3 v out (fun j => piecesK K m u (x + j * sz)) wy v3 j))
  case atStart => exact ⟨0, by omega, by omega, rfl, ⟨by rw [show (List.range 0).flatMap (fun j => piecesK K m u (x + j * sz)) = [] from rfl, List.append_nil]; exact HO.out.belowed HW3.out, Grew.refl _ _, by rw [show (List.range 0).flatMap (fun j => piecesK K m u (x + j * sz)) = [] from rfl, List.append_nil]; exact HLn.out⟩⟩
  case round =>
    obtain ⟨j, hj, hjg, rfl, HI⟩ := hrel
    obtain ⟨a3, c3, hv⟩ := HI.out.row.form
    by_cases hlt : j < n
    · have hbr := HI.out.grew.under HB3.out (HO.out.belowed HW3.out)
      have hbd := mul_bd hlt hx
      have hC := IH.out (x + j * sz) _ _ wr hbr HI.out.row HI.out.len hbd
      have e1 : ((x + j * sz : Nat) : Int) = (x : Int) + (j : Int) * (sz : Int) := by rw [Int.natCast_add, Int.natCast_mul]
      rw [e1, hv] at hC
      have HC := Lib.hid hC
      have hm0 : (0 : Int) ≤ (j : Int) * (sz : Int) := by rw [← Int.natCast_mul]; omega
      have hm1 : (j : Int) * (sz : Int) ≤ 65536 := by rw [← Int.natCast_mul]; omega
      have hNl : (((out ++ (List.range j).flatMap fun j => piecesK K m u (x + j * sz)).length : Nat) : Int) ≤ 4096 := by have := HI.out.len; omega
      have HI2 := HI.out
      rw [hv] at HI2
      have HI3 := Lib.hid HI2
      subst hv
      clear hC e1 HI HI2 hbd
      generalize hN : (out ++ (List.range j).flatMap fun j => piecesK K m u (x + j * sz)).length = N at *
      have HN := Lib.hid hN
      clear hN
      go_wp2_with (go_at_call 50; (with_reducible refine HC.out.mono ?_))
      intro e w4 hq
      obtain ⟨v', ok, rfl, hg, ⟨a4, n4, c4, rfl⟩, ⟨hl4, rfl, hr4⟩ | ⟨hl4, rfl⟩⟩ := hq
      · obtain ⟨_, _, e4⟩ := hr4.form
        have hn4 : n4 = N + (piecesK K m u (x + j * sz)).length := by
          simp only [Value.slice.injEq] at e4
          rw [e4.2.1, List.length_append, HN.out]
        by_cases hp : (piecesK K m u (x + j * sz)).length = 0
        · have t5 : ((n4 : Int) == (N : Int)) = true := by rw [hn4, hp]; simp
          have hall : ∀ j', piecesK K m u (x + j' * sz) = [] := fun j' => List.eq_nil_of_length_eq_zero (by rw [HL.out j', ← HL.out j]; exact hp)
          have HG4 := Lib.hid ((Grew.below HW3.out).trans (HI3.out.grew.trans hg))
          have HR4 := Lib.hid (show PcRow w4 w0.heap.size (.slice a4 n4 c4) (out ++ (List.range n).flatMap fun j => piecesK K m u (x + j * sz)) by
            rw [range_nil hall n]
            rw [range_nil hall j, hall j] at hr4
            simpa using hr4)
          have HF4 := Lib.hid (show out.length + ((List.range n).flatMap fun j => piecesK K m u (x + j * sz)).length ≤ 4096 by rw [range_nil hall n]; simpa using HLn.out)
          clear hn4 hp hall hg hl4 hr4 e4
          go_wp2_with fail
          go_ret2
          exact scalQ_yes (by rw [HP.out]; exact HF4.out) HG4.out (by rw [HP.out]; exact HR4.out)
        · have t5 : ((n4 : Int) == (N : Int)) = false := by rw [hn4, beq_eq_false_iff_ne]; omega
          have HI4 := Lib.hid (show ArrInv w0 w3 v out (fun j => piecesK K m u (x + j * sz)) w4 (.slice a4 n4 c4) (j + 1) from ⟨by rw [range_snoc, ← List.append_assoc]; exact hr4, HI3.out.grew.trans hg, by rw [range_snoc, ← List.append_assoc, List.length_append]; exact hl4⟩)
          clear hn4 hp hg hl4 hr4 e4
          go_wp2_with fail
          go_roundg (n - (j + 1))
          case measure => omega
          case rel => exact ⟨j + 1, by omega, by omega, by rw [Int.natCast_add]; rfl, HI4.out⟩
      · have HG4 := Lib.hid (show Grew w v w4 (.slice none 0 0) from ⟨((Grew.below HW3.out).trans (HI3.out.grew.trans hg)).grown, .inl rfl⟩)
        have HF4 := Lib.hid (show 4096 < out.length + ((List.range n).flatMap fun j => piecesK K m u (x + j * sz)).length by
          have h1 := range_le (fun j => piecesK K m u (x + j * sz)) (show j + 1 ≤ n by omega)
          rw [range_snoc, List.length_append] at h1
          rw [List.length_append] at hl4
          omega)
        clear hg hl4
        go_wp2_with fail
        go_ret2
        exact scalQ_no (by rw [HP.out]; exact HF4.out) HG4.out
    · obtain rfl : j = n := by omega
      have t3 : (j : Int) ≤ (j : Int) := Int.le_refl _
      have HG4 := Lib.hid ((Grew.below HW3.out).trans HI.out.grew)
      have HR4 := Lib.hid HI.out.row
      have HF4 := Lib.hid HI.out.len
      subst hv
      clear HI
      go_wp2_with fail
      go_ret2
      exact scalQ_yes (by rw [HP.out, ← List.length_append]; exact HF4.out) HG4.out (by rw [HP.out]; exact HR4.out)

theorem flat2_map {α : Type} (f : α → Value × Value) : ∀ l : List α, flat2 (l.map f) = l.flatMap fun q => [(f q).1, (f q).2]
  | [] => rfl
  | q :: l => by rw [List.map_cons, flat2, List.flatMap_cons, flat2_map f l]; rfl
/-- a struct that is known, as it lies -/
theorem kn_cells {B b mb : Nat} {w : World} {lv sv av : Value} {mv : List Value} {K : List Kn} (h : KnAt B w b mb lv sv av mv K) {j : Nat} (hj : j < K.length) :
    ∃ (g cap : Nat) (v : Value), lv = .slice (some ⟨g, 0, none⟩) K.length cap ∧ g < w.heap.size ∧ mv[j]? = some v ∧ w.cell? ⟨g, j * 2, none⟩ = some (.string K[j].name) ∧ w.cell? ⟨g, j * 2 + 1, none⟩ = some v := by
  have hl := h.list
  have hmj : j < mv.length := by rw [h.mems]; exact hj
  rcases hl.2 with ⟨_, h0⟩ | ⟨g, cap, cur, rfl, _, hg, _⟩
  · omega
  · rw [← flat2_map (fun q : Kn × Value => (Value.string q.1.name, q.2))] at hl
    have hz : ((K.zip mv).map fun q : Kn × Value => (Value.string q.1.name, q.2))[j]? = some (.string K[j].name, mv[j]) := by
      rw [List.getElem?_map, show (K.zip mv)[j]? = some (K[j], mv[j]) from List.getElem?_zip_eq_some.2 ⟨List.getElem?_eq_getElem hj, List.getElem?_eq_getElem hmj⟩]; rfl
    obtain ⟨h1, h2⟩ := flat2_at hz
    have c1 := hl.cells (g := g) rfl _ _ h1
    have c2 := hl.cells (g := g) rfl _ _ h2
    rw [add2, Nat.zero_add] at c1 c2
    exact ⟨g, cap, mv[j], rfl, lt_of_heap hg, List.getElem?_eq_getElem hmj, c1, c2⟩

theorem set_blk {w : World} {b i : Nat} {c : Array Value} {T : TypeId} (h : w.heap[b]? = some (.cells c T (0, 0))) (v : Value) : (w.setCell ⟨b, i, none⟩ v).heap[b]? = some (.cells (c.setIfInBounds i v) T (0, 0)) := by
  simp [World.setCell, Array.getElem?_modify, h]
theorem two_set {w : World} {b : Nat} {a0 a1 : Value} {T : TypeId} (h : w.heap[b]? = some (.cells #[a0, a1] T (0, 0))) (v0 v1 : Value) : ((w.setCell ⟨b, 0, none⟩ v0).setCell ⟨b, 1, none⟩ v1).heap[b]? = some (.cells #[v0, v1] T (0, 0)) := by
  have := set_blk (i := 1) (set_blk (i := 0) h v0) v1
  simpa using this
theorem row_form {w : World} {base n size : Nat} {e : TypeId} {v : Value} {xs : List Value} (h : w.ownsRow base e size v n xs) : ∃ a cap, v = .slice a n cap := by
  rcases h.2 with ⟨rfl, h0⟩ | ⟨g, cap, _, rfl, _⟩
  · exact ⟨none, 0, by rw [h0]⟩
  · exact ⟨_, cap, rfl⟩
/-- what holds ahead of a round over a struct -/
structure StrInv (w0 w1 : World) (v0 : Value) (out : List Pc) (K : List Kn) (f : Ty → Nat → List Pc) (x : Nat) (ms : List (ByteArray × ByteArray)) (N A : Nat) (wy : World) (v : Value) (i : Nat) (done : List Pc) (n : Nat) : Prop where
  rest : piecesM K f x ms 0 = done ++ piecesM K f x (ms.drop i) n
  pl : ∃ dp : List Nat, placesK K ms 0 = dp ++ placesK K (ms.drop i) n ∧ dp.length = i
  row : PcRow wy w0.heap.size v (out ++ done)
  len : (out ++ done).length ≤ 4096
  grew : Grew w1 v0 wy v
  mem : ∃ a0, memR K (ms.drop i) n a0 = (N, A)

set_option maxRecDepth 100000 in
set_option maxHeartbeats 8000000 in
theorem scal_struct {B b mb : Nat} {lv sv av : Value} {mv : List Value} (K : List Kn) (w0 : World) (m j : Nat) (s : List UInt8) (hE : TE w0) (hK : KnAt B w0 b mb lv sv av mv K) (hF : FitK K) (hG : GoodK K) (hMv : ∀ (i : Nat) (k : Kn) v, K[i]? = some k → mv[i]? = some v → IsMems w0.heap.size w0 v k.mems)
    (hr : Right (.str s)) (hl : (code (.str s)).length ≤ 65536) (hj : findK K s = some j) (ih : ∀ t, Right t → (code t).length ≤ 65536 → shapeT t = true → objectT t = true → thereT (K.take j) t = true → ScalP K w0 b m t) : ScalP K w0 b (m + 1) (.str s) := by
  intro x out v w hb ho hlen hx
  have hjl := find_lt hj
  have hsz := meas_str hj
  rw [hsz] at hx
  simp only at hx
  have HP := Lib.hid (pieces_str (m := m) hj x)
  have HI := Lib.hid (scal_false (.str s) hE hr hl (by rfl) w hb)
  have HSo := Lib.hid (show ∀ w1, Below w0.heap.size w0 w1 → Calls Tryz.prog 82 #[.pointer (some ⟨b, 0, none⟩), .string (tyB (.str s))] w1 fun e w' => e = .returned (.int .i64 (j : Int)) ∧ ∃ n, w' = w1.drewN n from fun w1 hb => by
    have := structOf_ok s (hK.below hb) hl
    rw [show placeK K s = (j : Int) by unfold placeK; rw [hj]] at this
    exact this)
  obtain ⟨h0, hc⟩ := tyB_head (.str s)
  have t4 : (((tyB (.str s))[0].toNat : Int) == 97) = false := eq_false' (d := 97) hc (by simp [headT])
  have t1 := tyB_j (.str s) (by simp [headT])
  obtain ⟨g, cap, mj, rfl, hgl, hmj, e1, e2⟩ := kn_cells hK hjl
  have hms := hMv j _ mj (List.getElem?_eq_getElem hjl) hmj
  have hmo := mems_okK hG hF hjl
  obtain ⟨hmok, N, hN, hS⟩ := hG.mems j hjl
  rw [memR_take _ _ hmok] at hN
  have hMm := fun q hq => mem_good hF (hmok q hq)
  have hal := hG.al _ (List.getElem_mem hjl)
  have hNs : N ≤ K[j].size := by rw [hS]; exact fit_ge N _ hal.1
  have hk64 : (K.length : Int) ≤ 64 := by have := hF.1; omega
  have hji : (j : Int) < (K.length : Int) := by omega
  have hPl := fun w1 (hb : Below w0.heap.size w0 w1) => places_ok (B := B) (b := b) (mb := mb) K[j].name K[j].mems mj w1 (hE.below hb) (hK.below hb) hF ((hms.below hb (Nat.le_refl _)).mono hb.size) hmo
  have hal4 := fun t => meas_al hF t
  have hKal : ∀ k ∈ K, 1 ≤ k.align ∧ k.align ≤ 4 := fun k hk => (hF.2 k hk).2
  have hb0 := hK.cells.1
  have hbl := lt_of_heap hK.blk
  generalize K[j].size = sz at *
  generalize K[j].align = al at *
  generalize K[j].name = nm at *
  generalize K[j].mems = ms at *
  generalize tyB (.str s) = st at *
  obtain ⟨am, cm, rfl, hmr⟩ := hms
  have HMr := Lib.hid hmr
  have HMo := Lib.hid hmo
  have HPl := Lib.hid hPl
  have HMm := Lib.hid hMm
  have HAl := Lib.hid hal4
  have HKal := Lib.hid hKal
  have HN := Lib.hid hN
  have HIH := Lib.hid ih
  have HO := Lib.hid ho
  have HB := Lib.hid hb
  have HLn := Lib.hid hlen
  have HC0 := Lib.hid (show ∀ w1, Below w0.heap.size w0 w1 → w1.cell? ⟨b, 0, none⟩ = some (.slice (some ⟨g, 0, none⟩) K.length cap) ∧ w1.cell? ⟨g, j * 2, none⟩ = some (.string nm) ∧ w1.cell? ⟨g, j * 2 + 1, none⟩ = some (.slice am ms.length cm) from fun w1 hb => ⟨by rw [hb.cell hbl]; exact hb0, by rw [hb.cell hgl]; exact e1, by rw [hb.cell hgl]; exact e2⟩)
  have hml : (ms.length : Int) ≤ 64 := by have := hmo.1; omega
  clear hb ho hE hK hF hG hMv hr hl hj ih hlen hsz hc hmj hmr hmo hmok hS hMm hal hPl hal4 hKal hb0 hbl hgl e1 e2
  go_enter Tryz.func50, Tryz.ntmps50
  go_wp2_with (go_at_call 25; (with_reducible refine HI.out.mono ?_); rintro e w1 ⟨rfl, hb1⟩; have HW1 := Lib.hid hb1; clear hb1)
  have HB1 := Lib.hid (HB.out.trans (HW1.out.mono HB.out.size))
  obtain ⟨k0, k1, k2⟩ := HC0.out _ HB1.out
  have HSo2 := Lib.hid (show ∀ w1, Below w0.heap.size w0 w1 → Calls Tryz.prog 82 #[.pointer (some ⟨b, 0, none⟩), .string st] w1 fun e w' => e = .returned (.int .i64 (j : Int)) ∧ Below w1.heap.size w1 w' from fun w1 hb => (HSo.out w1 hb).mono fun e w' ⟨h1, n, h2⟩ => ⟨h1, by rw [h2]; exact Below.drewN' _ _⟩)
  have hle := HB1.out.size
  go_region_held3 (fun w' => w'.cell? ⟨b, 0, none⟩ = some (.slice (some ⟨g, 0, none⟩) K.length cap) ∧ w'.cell? ⟨g, j * 2, none⟩ = some (.string nm) ∧ w'.cell? ⟨g, j * 2 + 1, none⟩ = some (.slice am ms.length cm)) (first | exact HC0.out _ HB1.out.drew | exact HC0.out _ (HB1.out.alloc HB1.out.size _).drew | exact HC0.out _ HB5.out | exact HC0.out _ (HB5.out.alloc HB5.out.size _) | exact HC0.out _ ((HB5.out.setCell hle _).setCell hle _))
    (first
      | (go_at_call 82; (with_reducible refine (HSo2.out _ HB1.out.drew).mono ?_); rintro e w5 ⟨rfl, hb5⟩; have HB5 := Lib.hid (HB1.out.drew.trans (hb5.mono HB1.out.size)); have HW5 := Lib.hid (((Below.refl w1.heap.size w1).drew).trans hb5); clear hb5)
      | (go_at_call 82; (with_reducible refine (HSo2.out _ (HB1.out.alloc HB1.out.size _).drew).mono ?_); rintro e w5 ⟨rfl, hb5⟩; have HB5 := Lib.hid ((HB1.out.alloc HB1.out.size (.cells #[.string ⟨#[]⟩, .slice none 0 0] 52)).drew.trans (hb5.mono (Nat.le_trans HB1.out.size (blw1 _ _).size))); have HW5 := Lib.hid ((blw1 w1 _).trans (hb5.mono (blw1 _ _).size)); have hz5 := (hb5.block w1.heap.size (by simp)).trans (show (w1.alloc (.cells #[.string ⟨#[]⟩, .slice none 0 0] 52)).drew.heap[w1.heap.size]? = _ from heap_alloc_new _ _); obtain ⟨⟨z0, z1⟩, zf⟩ := two_block hz5; have zf0 := zf 0; have zf1 := zf 1; clear hb5 zf))
  all_goals
    first
    | (have h6 := two_set hz5 (.string nm) (.slice am ms.length cm)
       have HB6 := Lib.hid ((HB5.out.setCell (p := ⟨w1.heap.size, 0, none⟩) hle (.string nm)).setCell (p := ⟨w1.heap.size, 1, none⟩) hle (.slice am ms.length cm))
       have HW6 := Lib.hid (((HW1.out.trans (HW5.out.mono HW1.out.size)).setCell (p := ⟨w1.heap.size, 0, none⟩) HW1.out.size (.string nm)).setCell (p := ⟨w1.heap.size, 1, none⟩) HW1.out.size (.slice am ms.length cm))
       have hA : w.heap.size ≤ w1.heap.size := HW1.out.size
       clear z0 z1 zf0 zf1
       generalize (w5.setCell ⟨w1.heap.size, 0, none⟩ (.string nm)).setCell ⟨w1.heap.size, 1, none⟩ (.slice am ms.length cm) = w6 at *
       clear k0 k1 k2 hle hz5
       generalize w1.heap.size = A at *)
    | (have h6 : (w5.alloc (.cells #[.string nm, .slice am ms.length cm] 52)).heap[w5.heap.size]? = some (.cells #[.string nm, .slice am ms.length cm] 52 (0, 0)) := heap_alloc_new _ _
       have HB6 := Lib.hid (HB5.out.alloc HB5.out.size (.cells #[.string nm, .slice am ms.length cm] 52))
       have HW6 := Lib.hid ((HW1.out.trans (HW5.out.mono HW1.out.size)).alloc (Nat.le_trans HW1.out.size HW5.out.size) (.cells #[.string nm, .slice am ms.length cm] 52))
       have hA : w.heap.size ≤ w5.heap.size := Nat.le_trans HW1.out.size HW5.out.size
       generalize w5.alloc (.cells #[.string nm, .slice am ms.length cm] 52) = w6 at *
       generalize w5.heap.size = A at *)
  all_goals
    have HX6 := Lib.hid h6
    have hz6 := lt_of_heap h6
    obtain ⟨⟨y0, y1⟩, _⟩ := two_block h6
    have HP6 := Lib.hid (HPl.out w6 HB6.out)
    clear h6
    go_wp2_with (go_at_call 54; (with_reducible refine HP6.out.mono ?_); rintro e w7 ⟨v7, rfl, ho7, hb7⟩; have HO7 := Lib.hid ho7; have HB7 := Lib.hid (HB6.out.trans (hb7.mono HB6.out.size)); have HW7 := Lib.hid (HW6.out.trans (hb7.mono HW6.out.size)); have HX7 := Lib.hid ((hb7.block _ (lt_of_heap HX6.out)).trans HX6.out); obtain ⟨a7, c7, rfl⟩ := row_form ho7; clear hb7 ho7)
    have hz7 := lt_of_heap HX7.out
    have HR7 := Lib.hid (HO.out.belowed HW7.out)
    have hvl := fun k hk => (HO.out.lt k hk).2
    have HVl := Lib.hid hvl
    clear hvl y0 y1
    go_loopg [3, 94] ms.length (fun g v3 v94 wy => ∃ (i n : Nat) (done : List Pc), i ≤ ms.length ∧ i + g = ms.length ∧ v94 = .int .i64 (i : Int) ∧ Hid (StrInv w0 w7 v out K (piecesK K m) x ms N al wy v3 i done n))
    case atStart => exact ⟨0, 0, [], by omega, by omega, rfl, ⟨rfl, ⟨[], rfl, rfl⟩, by rw [List.append_nil]; exact HR7.out, by rw [List.append_nil]; exact HLn.out, Grew.refl _ _, ⟨1, HN.out⟩⟩⟩
    case round =>
      obtain ⟨i, n, done, hi, hig, rfl, HI⟩ := hrel
      obtain ⟨a3, c3, hv⟩ := HI.out.row.form
      by_cases hlt : i < ms.length
      · obtain ⟨mb, moff, ha, hmb, hmrow⟩ := HMr.out (fun e => by rw [e] at hlt; simp at hlt)
        have hbr := HI.out.grew.under HB7.out HR7.out
        subst ha
        obtain ⟨_, l2⟩ := hmrow i _ (List.getElem?_eq_getElem hlt)
        rw [← hbr.cell hmb] at l2
        obtain ⟨u, hu, hsh, hth, hob, hus⟩ := HMm.out _ (List.getElem_mem hlt)
        have hd := drop_at ms i hlt
        generalize ms[i]'hlt = q at *
        obtain ⟨qn, qt⟩ := q
        simp only at l2 hu
        obtain ⟨hqt, hru, hlu⟩ := tyS_some.1 hu
        obtain ⟨dp, hp1, hp2⟩ := HI.out.pl
        have hR : placesK K (ms.drop i) n = fitN n (measT K u).2 :: placesK K (ms.drop (i + 1)) (fitN n (measT K u).2 + (measT K u).1) := by rw [hd, placesK, measM, hu]
        have hpi : (placesK K ms 0)[i]? = some (fitN n (measT K u).2) := by rw [hp1, List.getElem?_append_right (by omega), hp2, Nat.sub_self, hR]; rfl
        obtain ⟨g7, cp7, hv7, hc7⟩ := row_at HO7.out (j := i) (u := .int .i64 ((fitN n (measT K u).2 : Nat) : Int)) (by rw [List.getElem?_map, hpi]; rfl)
        obtain ⟨rfl, rfl⟩ : a7 = some ⟨g7, 0, none⟩ ∧ c7 = cp7 := by simpa using hv7
        have hg7 := HO7.out.lt g7 rfl
        have hw6 := HW6.out.size
        have hne7 : v.ownBlock ≠ some g7 := fun e => by have := HVl.out _ e; omega
        have hc7' : wr.cell? ⟨g7, i, none⟩ = some (.int .i64 ((fitN n (measT K u).2 : Nat) : Int)) := by rw [← hc7]; exact World.cell?_of_block (HI.out.grew.far hg7.2 hne7)
        have hneA : v.ownBlock ≠ some A := fun e => by have := HVl.out _ e; omega
        obtain ⟨⟨_, y1⟩, _⟩ := two_block ((HI.out.grew.far hz7 hneA).trans HX7.out)
        obtain ⟨a0, hme⟩ := HI.out.mem
        rw [hd] at hme
        obtain ⟨hin, _⟩ := mem_in HKal.out hu hme
        have hre := HI.out.rest
        rw [hd, piecesM, hu] at hre
        simp only at hre
        rw [memR, hu] at hme
        simp only at hme
        have hC := HIH.out u hru hlu hsh hob hth (x + fitN n (measT K u).2) _ _ wr hbr HI.out.row HI.out.len (by omega)
        have e1 : ((x + fitN n (measT K u).2 : Nat) : Int) = (x : Int) + ((fitN n (measT K u).2 : Nat) : Int) := by rw [Int.natCast_add]
        rw [e1, hv, ← hqt] at hC
        have HC := Lib.hid hC
        have HD := Lib.hid (show ∃ dp : List Nat, placesK K ms 0 = dp ++ placesK K (ms.drop (i + 1)) (fitN n (measT K u).2 + (measT K u).1) ∧ dp.length = i + 1 from ⟨dp ++ [fitN n (measT K u).2], by rw [hp1, hR]; simp, by simp [hp2]⟩)
        have HMe := Lib.hid (show ∃ a0, memR K (ms.drop (i + 1)) (fitN n (measT K u).2 + (measT K u).1) a0 = (N, al) from ⟨_, hme⟩)
        have HRe := Lib.hid hre
        have HI2 := Lib.hid HI.out
        rw [hv] at HI2
        have hp65 : ((fitN n (measT K u).2 : Nat) : Int) ≤ 65536 := by omega
        have hx65 : (x : Int) ≤ 65536 := by omega
        have hdl : (((out ++ done).length : Nat) : Int) ≤ 4096 := by have := HI.out.len; omega
        have hii : (i : Int) < (ms.length : Int) := by omega
        generalize fitN n (measT K u).2 = pp at *
        generalize (measT K u).1 = us at *
        subst hv
        generalize hM : (out ++ done).length = M at *
        have HMl := Lib.hid hM
        clear hM
        clear HI hmrow hu hsh hth hob hus hd hqt hru hlu hp1 hp2 hR hpi hv7 hc7 hg7 hw6 hne7 hneA hme hin hre hC e1 hbr
        go_wp2_with (go_at_call 50; (with_reducible refine HC.out.mono ?_))
        intro e w8 hq
        obtain ⟨v', ok, rfl, hg, ⟨a4, n4, c4, rfl⟩, ⟨hl4, rfl, hr4⟩ | ⟨hl4, rfl⟩⟩ := hq
        · have HI4 := Lib.hid (show StrInv w0 w7 v out K (piecesK K m) x ms N al w8 (.slice a4 n4 c4) (i + 1) (done ++ piecesK K m u (x + pp)) (pp + us) from
            ⟨by rw [HRe.out, List.append_assoc], HD.out, by rw [← List.append_assoc]; exact hr4, by rw [← List.append_assoc, List.length_append]; exact hl4, HI2.out.grew.trans hg, HMe.out⟩)
          clear hg hl4 hr4
          go_wp2_with fail
          go_roundg (ms.length - (i + 1))
          case measure => omega
          case rel => exact ⟨i + 1, pp + us, done ++ piecesK K m u (x + pp), by omega, by omega, by rw [Int.natCast_add]; rfl, HI4.out⟩
        · have HG4 := Lib.hid (show Grew w v w8 (.slice none 0 0) from ⟨((Grew.below HW7.out).trans (HI2.out.grew.trans hg)).grown, .inl rfl⟩)
          have HF4 := Lib.hid (show 4096 < out.length + (piecesM K (piecesK K m) x ms 0).length by
            rw [HRe.out, List.length_append, List.length_append]
            rw [List.length_append] at hl4
            omega)
          clear hg hl4
          go_wp2_with fail
          go_ret2
          exact scalQ_no (by rw [HP.out]; exact HF4.out) HG4.out
      · obtain rfl : i = ms.length := by omega
        have t3 : (ms.length : Int) ≤ (ms.length : Int) := Int.le_refl _
        have HG4 := Lib.hid ((Grew.below HW7.out).trans HI.out.grew)
        have HR4 := Lib.hid HI.out.row
        have HF4 := Lib.hid HI.out.len
        have hre := HI.out.rest
        rw [List.drop_length, piecesM, List.append_nil] at hre
        have HRe := Lib.hid hre
        subst hv
        clear HI hre
        go_wp2_with fail
        go_ret2
        exact scalQ_yes (by rw [HP.out, HRe.out, ← List.length_append]; exact HF4.out) HG4.out (by rw [HP.out, HRe.out]; exact HR4.out)
end Go.Proofs.YtmmjmppfmjejkaaGreatDoor
