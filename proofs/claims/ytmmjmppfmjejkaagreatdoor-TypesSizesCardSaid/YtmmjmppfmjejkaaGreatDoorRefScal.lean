/- Scalars of an object: the reference. -/
import Derived.Test.YtmmjmppfmjejkaaGreatDoorScal2
import Derived.Test.YtmmjmppfmjejkaaGreatDoorRefSizeAll
namespace Go.Proofs.YtmmjmppfmjejkaaGreatDoor
open Go.RowKit

/-- the scalars of a type are gathered: the reference -/
def RScal (K : List Kn) (L : List Sr) (a : Option Addr) (cap : Nat) (w0 : World) (m : Nat) (t : Ty) : Prop := ∀ (x : Nat) (out : List Pc) (v : Value) (w : World), Below w0.heap.size w0 w → PcRow w w0.heap.size v out → out.length ≤ 4096 → x + (measT K t).1 ≤ 65536 → (measT K t).2 ∣ x →
  Calls Tryz.prog 51 #[.string (tyB t), .slice a L.length cap, .int .i64 (x : Int), v] w (ScalQ w0.heap.size out (piecesK K m t x) v w)

set_option maxRecDepth 100000 in
set_option maxHeartbeats 4000000 in
theorem rscal_one (K : List Kn) (L : List Sr) (a : Option Addr) (cap : Nat) (w0 : World) (m : Nat) (t : Ty) (hs : isScalarT t = true) : RScal K L a cap w0 m t := by
  intro x out v w hb ho hlen hx _
  have hx1 : (x : Int) ≤ 65536 := by omega
  rw [pieces_scal hs]
  have HK := Lib.hid (fun w => refKind_ok t w)
  have hne : headT t ≠ 106 ∧ headT t ≠ 97 ∧ headT t ≠ 83 := by
    cases t with
    | base c =>
      refine ⟨?_, ?_, ?_⟩ <;> (rintro h; simp only [headT] at h; subst h; revert hs; decide)
    | ptr u => simp [headT]
    | arr n u => cases hs
    | str s => cases hs
    | fn ps r => cases hs
  have t1 : (((headT t).toNat : Int) == 106) = false := (byte_ne hne.1 rfl).1
  have t2 : (((headT t).toNat : Int) == 97) = false := (byte_ne hne.2.1 rfl).1
  have t3 : (((headT t).toNat : Int) == 83) = false := (byte_ne hne.2.2 rfl).1
  obtain ⟨i0, hi, hz0, hz1, hz2⟩ := info_parts infoPc
  have HI0 := Lib.hid (And.intro hi (And.intro hz0 (And.intro hz1 hz2)))
  obtain ⟨a3, c3, rfl⟩ := ho.form
  have HO := Lib.hid ho
  have HB := Lib.hid hb
  have HSn := Lib.hid (pcCells_snoc out (x, t))
  clear hi hz0 hz1 hz2 ho hb hs hx hne
  have hlc : (out.length : Int) ≤ 4096 := by omega
  generalize headT t = c at *
  go_enter Tryz.func51, Tryz.ntmps51
  go_wp2_with (first | (go_at_call 40; (with_reducible refine (HK.out _).mono ?_); rintro e w1 ⟨rfl, hw1⟩; subst w1) | (at_builtin; refine wpList_append_lies _ rfl _ _ _ rfl w0.heap.size 46 i0 (.agg #[.int .i64 0, .string ⟨#[]⟩]) 2 24 Tryz.underlying42 HI0.out.1 HI0.out.2.1 HI0.out.2.2.1 HI0.out.2.2.2 rfl (by decide) (.slice a3 out.length c3) out.length (pcCells out) rfl (HO.out.alloc _) ⟨w.heap.size, 0, none⟩ 1 1 [.int .i64 (x : Int), .string (tyB t)] rfl rfl (news2 (T := 46) (heap_alloc_new _ _)) (by simp [Value.oneCell']) (by decide) (by unfold maxLen; omega) (by omega) (by have := HB.out.size; simp; omega) (w.heap.size + 1) (by simp) ?_))
  intro g cp w2 hown hgrow hat hlt
  have hg1 : Grew w (.slice a3 out.length c3) (w.alloc (.cells #[.int .i64 (x : Int), .string (tyB t)] 46)) (.slice a3 out.length c3) := Grew.below ((Below.refl _ _).alloc (Nat.le_refl _) _)
  have hg2 : Grew (w.alloc (.cells #[.int .i64 (x : Int), .string (tyB t)] 46)) (.slice a3 out.length c3) w2 (.slice (some ⟨g, 0, none⟩) (out.length + 1) cp) :=
    ⟨hgrow, hat.elim (fun h => .inr (.inl (by rw [h]; rfl))) (fun h => .inr (.inr ⟨g, rfl, by rw [h]; simp⟩))⟩
  have HG := Lib.hid (hg1.trans hg2)
  have HR := Lib.hid (show PcRow w2 w0.heap.size (.slice (some ⟨g, 0, none⟩) (out.length + 1) cp) (out ++ [(x, t)]) by
    unfold PcRow
    rw [List.length_append, HSn.out]
    exact hown)
  clear hown hgrow hat hlt hg1 hg2
  by_cases h4 : out.length + 1 ≤ 4096
  · have t4 : decide ((out.length : Int) < 4096) = true := by simp; omega
    go_wp2_with fail
    go_ret2
    exact scalQ_yes h4 HG.out HR.out
  · have t4 : decide ((out.length : Int) < 4096) = false := by simp; omega
    go_wp2_with fail
    go_ret2
    exact scalQ_no (by simp; omega) HG.out

set_option maxHeartbeats 1000000 in
theorem rscal_jmp (K : List Kn) (L : List Sr) (a : Option Addr) (cap : Nat) (w0 : World) (m : Nat) : RScal K L a cap w0 m (.base 106) := by
  intro x out v w hb ho hlen hx _
  rw [pieces_jmp]
  have HK := Lib.hid (fun w => kind_is 106 (.base 106) w rfl)
  have HO := Lib.hid ho
  generalize tyB (.base 106) = s at *
  clear hb ho
  go_enter Tryz.func51, Tryz.ntmps51
  go_wp2_with (go_at_call 40; (with_reducible refine (HK.out _).mono ?_); rintro e w1 ⟨rfl, hw1⟩; subst w1)
  go_ret2
  exact scalQ_yes (by simpa using hlen) (Grew.refl _ _) (by rw [List.append_nil]; exact HO.out)

/-- what holds ahead of a round, or behind the one that was too many -/
def ArrR (w0 w1 : World) (v0 : Value) (out : List Pc) (f : Nat → List Pc) (n : Nat) (wy : World) (v : Value) (j : Nat) : Bool → Prop
  | true => ArrInv w0 w1 v0 out f wy v j
  | false => (∃ a n c, v = .slice a n c) ∧ Grew w1 v0 wy v ∧ 4096 < out.length + ((List.range n).flatMap f).length
set_option maxRecDepth 100000 in
set_option maxHeartbeats 8000000 in
theorem rscal_arr (K : List Kn) (L : List Sr) (a : Option Addr) (cap : Nat) (mv : List Value) (w0 : World) (m n : Nat) (u : Ty) (hS : IsSrs w0.heap.size w0 a L mv) (hG : GoodK K) (hKL : K.map Kn.toSr = L) (hr : Right (.arr n u)) (hl : (code (.arr n u)).length ≤ 65536) (hsh : shapeT (.arr n u) = true) (hth : thereT K u = true) (ih : RScal K L a cap w0 m u) : RScal K L a cap w0 m (.arr n u) := by
  intro x out v w hb ho hlen hx hdv
  have hlu : (code u).length ≤ 65536 := by rw [code] at hl; simp at hl; omega
  have HK := Lib.hid (fun w => kind_is 97 (.arr n u) w rfl)
  have HIn := Lib.hid (fun w => refInner_arr n u hr hl w)
  rw [measT] at hx hdv
  simp only at hx hdv
  have hn : n ≤ 65536 ∧ 1 ≤ n := by
    rw [shapeT] at hsh
    simp only [Bool.and_eq_true, decide_eq_true_eq] at hsh
    exact ⟨hsh.1.2, hsh.1.1⟩
  have hms : (measT K u).1 ≤ 65536 := by
    have := Nat.le_mul_of_pos_left (measT K u).1 hn.2
    omega
  have HSz := Lib.hid (fun w1 (hb : Below w0.heap.size w0 w1) => refSize_ok K L a cap mv hG hKL K.length _ u (Nat.le_refl _) hr.2 hlu (by rw [List.take_length]; exact hth) w1 ((hS.below hb).mono hb.size))
  rw [cut_id hms] at HSz
  have HP := Lib.hid (pieces_arr K m n u x)
  have HL := Lib.hid (fun j => pieces_len K m u (x + j * (measT K u).1) x)
  have HDv := Lib.hid (fun j => show (measT K u).2 ∣ x + j * (measT K u).1 from Nat.dvd_add hdv (Nat.dvd_mul_left_of_dvd (meas_dvd hG u) j))
  have IH := Lib.hid ih
  unfold RScal at IH
  have HO := Lib.hid ho
  have HB := Lib.hid hb
  have HLn := Lib.hid hlen
  generalize tyB (.arr n u) = s at *
  generalize measT K u = p at *
  obtain ⟨sz, al⟩ := p
  simp only at HP HL hx hms IH HDv HSz
  clear hb ho hr hl hsh hth ih hlu hG hKL hS hdv
  go_enter Tryz.func51, Tryz.ntmps51
  go_wp2_with (go_at_call 40; (with_reducible refine (HK.out _).mono ?_); rintro e w1 ⟨rfl, hw1⟩; subst w1)
  go_wp2_with (go_at_call 41; (with_reducible refine (HIn.out _).mono ?_); rintro e w2 ⟨rfl, hb2⟩; have HW2 := Lib.hid hb2; have HM2 := Lib.hid (HSz.out w2 (HB.out.trans (hb2.mono HB.out.size))); clear hb2)
  go_wp2_with (go_at_call 49; (with_reducible refine HM2.out.mono ?_); rintro e w3 ⟨rfl, hb3⟩; have HW3 := Lib.hid (HW2.out.trans (hb3.mono HW2.out.size)); clear hb3)
  have HB3 := Lib.hid (HB.out.trans (HW3.out.mono HB.out.size))
  have hszi : (sz : Int) ≤ 65536 := by omega
  have hni : (n : Int) ≤ 65536 := by omega
  have hxi : (x : Int) ≤ 65536 := by omega
  go_loopg [3, 10, 15] n (fun g v3 v10 v15 wy => ∃ (j : Nat) (ok : Bool), j ≤ n ∧ j + g = n ∧ v15 = .int .i64 (j : Int) ∧ v10 = .bool ok ∧ Hid (ArrR w0 w3 v out (fun j => piecesK K m u (x + j * sz)) n wy v3 j ok))
  case atStart => exact ⟨0, true, by omega, by omega, rfl, rfl, ⟨by rw [show (List.range 0).flatMap (fun j => piecesK K m u (x + j * sz)) = [] from rfl, List.append_nil]; exact HO.out.belowed HW3.out, Grew.refl _ _, by rw [show (List.range 0).flatMap (fun j => piecesK K m u (x + j * sz)) = [] from rfl, List.append_nil]; exact HLn.out⟩⟩
  case round =>
    obtain ⟨j, ok, hj, hjg, rfl, rfl, HI⟩ := hrel
    cases ok with
    | false =>
      obtain ⟨⟨a3, n3, c3, hv⟩, hg3, hl3⟩ := HI.out
      rw [hv] at hg3
      have HG4 := Lib.hid ((Grew.below HW3.out).trans hg3)
      have HF4 := Lib.hid hl3
      subst hv
      clear HI hg3 hl3
      by_cases hlt : j < n
      all_goals
        go_wp2_with fail
        go_ret2
        exact scalQ_no (by rw [HP.out]; exact HF4.out) HG4.out
    | true =>
    replace HI := Lib.hid (show ArrInv w0 w3 v out (fun j => piecesK K m u (x + j * sz)) wr _ j from HI.out)
    obtain ⟨a3, c3, hv⟩ := HI.out.row.form
    by_cases hlt : j < n
    · have hbr := HI.out.grew.under HB3.out (HO.out.belowed HW3.out)
      have hbd := mul_bd hlt hx
      have hC := IH.out (x + j * sz) _ _ wr hbr HI.out.row HI.out.len hbd (HDv.out j)
      have e1 : ((x + j * sz : Nat) : Int) = (x : Int) + (j : Int) * (sz : Int) := by rw [Int.natCast_add, Int.natCast_mul]
      rw [e1, hv] at hC
      have HC := Lib.hid hC
      have hm0 : (0 : Int) ≤ (j : Int) * (sz : Int) := by rw [← Int.natCast_mul]; omega
      have hm1 : (j : Int) * (sz : Int) ≤ 65536 := by rw [← Int.natCast_mul]; omega
      have hNl : (((out ++ (List.range j).flatMap fun j => piecesK K m u (x + j * sz)).length : Nat) : Int) ≤ 4096 := by have := HI.out.len; omega
      have HI2 := HI.out
      rw [hv] at HI2
      have HI3 := Lib.hid HI2
      subst hv
      clear hC e1 HI HI2 hbd
      generalize hN : (out ++ (List.range j).flatMap fun j => piecesK K m u (x + j * sz)).length = N at *
      have HN := Lib.hid hN
      clear hN
      go_wp2_with (go_at_call 51; (with_reducible refine HC.out.mono ?_))
      intro e w4 hq
      obtain ⟨v', ok, rfl, hg, ⟨a4, n4, c4, rfl⟩, ⟨hl4, rfl, hr4⟩ | ⟨hl4, rfl⟩⟩ := hq
      · obtain ⟨_, _, e4⟩ := hr4.form
        have hn4 : n4 = N + (piecesK K m u (x + j * sz)).length := by
          simp only [Value.slice.injEq] at e4
          rw [e4.2.1, List.length_append, HN.out]
        by_cases hp : (piecesK K m u (x + j * sz)).length = 0
        · have t5 : ((n4 : Int) == (N : Int)) = true := by rw [hn4, hp]; simp
          have hall : ∀ j', piecesK K m u (x + j' * sz) = [] := fun j' => List.eq_nil_of_length_eq_zero (by rw [HL.out j', ← HL.out j]; exact hp)
          have HG4 := Lib.hid ((Grew.below HW3.out).trans (HI3.out.grew.trans hg))
          have HR4 := Lib.hid (show PcRow w4 w0.heap.size (.slice a4 n4 c4) (out ++ (List.range n).flatMap fun j => piecesK K m u (x + j * sz)) by
            rw [range_nil hall n]
            rw [range_nil hall j, hall j] at hr4
            simpa using hr4)
          have HF4 := Lib.hid (show out.length + ((List.range n).flatMap fun j => piecesK K m u (x + j * sz)).length ≤ 4096 by rw [range_nil hall n]; simpa using HLn.out)
          clear hn4 hp hall hg hl4 hr4 e4
          go_wp2_with fail
          go_ret2
          exact scalQ_yes (by rw [HP.out]; exact HF4.out) HG4.out (by rw [HP.out]; exact HR4.out)
        · have t5 : ((n4 : Int) == (N : Int)) = false := by rw [hn4, beq_eq_false_iff_ne]; omega
          have HI4 := Lib.hid (show ArrR w0 w3 v out (fun j => piecesK K m u (x + j * sz)) n w4 (.slice a4 n4 c4) (j + 1) true from ⟨by rw [range_snoc, ← List.append_assoc]; exact hr4, HI3.out.grew.trans hg, by rw [range_snoc, ← List.append_assoc, List.length_append]; exact hl4⟩)
          clear hn4 hp hg hl4 hr4 e4
          go_wp2_with fail
          go_roundg (n - (j + 1))
          case measure => omega
          case rel => exact ⟨j + 1, true, by omega, by omega, by rw [Int.natCast_add]; rfl, rfl, HI4.out⟩
      · have hF4 : 4096 < out.length + ((List.range n).flatMap fun j => piecesK K m u (x + j * sz)).length := by
          have h1 := range_le (fun j => piecesK K m u (x + j * sz)) (show j + 1 ≤ n by omega)
          rw [range_snoc, List.length_append] at h1
          rw [List.length_append] at hl4
          omega
        have HG4 := Lib.hid ((Grew.below HW3.out).trans (HI3.out.grew.trans hg))
        have HI4 := Lib.hid (show ArrR w0 w3 v out (fun j => piecesK K m u (x + j * sz)) n w4 (.slice a4 n4 c4) (j + 1) false from ⟨⟨a4, n4, c4, rfl⟩, HI3.out.grew.trans hg, hF4⟩)
        have HF4 := Lib.hid hF4
        clear hg hl4 hF4
        by_cases hp : n4 = N
        · have t5 : ((n4 : Int) == (N : Int)) = true := by rw [hp]; simp
          clear hp
          go_wp2_with fail
          go_ret2
          exact scalQ_no (by rw [HP.out]; exact HF4.out) HG4.out
        · have t5 : ((n4 : Int) == (N : Int)) = false := by rw [beq_eq_false_iff_ne]; omega
          clear hp
          go_wp2_with fail
          go_roundg (n - (j + 1))
          case measure => omega
          case rel => exact ⟨j + 1, false, by omega, by omega, by rw [Int.natCast_add]; rfl, rfl, HI4.out⟩
    · obtain rfl : j = n := by omega
      have t3 : (j : Int) ≤ (j : Int) := Int.le_refl _
      have HG4 := Lib.hid ((Grew.below HW3.out).trans HI.out.grew)
      have HR4 := Lib.hid HI.out.row
      have HF4 := Lib.hid HI.out.len
      subst hv
      clear HI
      go_wp2_with fail
      go_ret2
      exact scalQ_yes (by rw [HP.out, ← List.length_append]; exact HF4.out) HG4.out (by rw [HP.out]; exact HR4.out)

/-- what holds ahead of a round over a struct, or behind the one that was too many -/
def StrR (w0 w1 : World) (v0 : Value) (out : List Pc) (K : List Kn) (f : Ty → Nat → List Pc) (x : Nat) (ms : List (ByteArray × ByteArray)) (N A : Nat) (wy : World) (v at_ : Value) (i : Nat) : Bool → Prop
  | true => ∃ done n, StrInv w0 w1 v0 out K f x ms N A wy v i done n ∧ at_ = .int .i64 ((x + n : Nat) : Int)
  | false => (∃ a n c, v = .slice a n c) ∧ Grew w1 v0 wy v ∧ 4096 < out.length + (piecesM K f x ms 0).length
set_option maxRecDepth 100000 in
set_option maxHeartbeats 8000000 in
theorem rscal_struct (K : List Kn) (L : List Sr) (a : Option Addr) (cap : Nat) (mv : List Value) (w0 : World) (m j : Nat) (s : List UInt8) (hS : IsSrs w0.heap.size w0 a L mv) (hG : GoodK K) (hF : FitK K) (hKL : K.map Kn.toSr = L)
    (hl : (code (.str s)).length ≤ 65536) (hj : findK K s = some j) (ih : ∀ t, Right t → (code t).length ≤ 65536 → shapeT t = true → objectT t = true → thereT (K.take j) t = true → RScal K L a cap w0 m t) : RScal K L a cap w0 (m + 1) (.str s) := by
  intro x out v w hb ho hlen hx hdv
  have hjl := find_lt hj
  have hsz := meas_str hj
  rw [hsz] at hx hdv
  simp only at hx hdv
  have hLl : L.length = K.length := by rw [← hKL, List.length_map]
  have hjL : j < L.length := by omega
  have hjm : j < mv.length := by rw [hS.len]; omega
  have hLj : L[j] = K[j].toSr := by simp [← hKL]
  have HP := Lib.hid (pieces_str (m := m) hj x)
  have hk64 : (L.length : Int) ≤ 64 := by have := hF.1; omega
  have hji : (j : Int) < (L.length : Int) := by omega
  have HN := Lib.hid (show ∀ w1, Below w0.heap.size w0 w1 → Calls Tryz.prog 83 #[.string (tyB (.str s)), .slice a L.length cap] w1 fun e w' => e = .returned (.int .i64 (j : Int)) ∧ Below w1.heap.size w1 w' from fun w1 hb => by
    have := refNamed_ok s a cap L mv w1 ((hS.below hb).mono hb.size) hl (by omega)
    rw [← hKL, placeS_map, hKL] at this
    rw [show placeK K s = (j : Int) by unfold placeK; rw [hj]] at this
    exact this)
  have HK := Lib.hid (fun w => kind_is 83 (.str s) w rfl)
  obtain ⟨hmok, N, hN, hSz⟩ := hG.mems j hjl
  rw [memR_take _ _ hmok] at hN
  have hMm := fun q hq => mem_good hF (hmok q hq)
  have hal := hG.al _ (List.getElem_mem hjl)
  have hNs : N ≤ K[j].size := by rw [hSz]; exact fit_ge N _ hal.1
  have hKal : ∀ k ∈ K, 1 ≤ k.align ∧ k.align ≤ 4 := fun k hk => (hF.2 k hk).2
  have hml : (K[j].mems.length : Int) ≤ 64 := by have := hG.mlen _ (List.getElem_mem hjl); omega
  have hpow : Pow2 K[j].align := by
    have := meas_pow hG K.length (.str s) (by rw [List.take_length, thereT, hj]; rfl)
    rw [hsz] at this
    exact this
  have HDv := Lib.hid (show ∀ t, thereT (K.take j) t = true → (measT K t).2 ≤ K[j].align → (measT K t).2 ∣ x from fun t ht hle => Nat.dvd_trans ((meas_pow hG j t ht).dvd hpow hle) hdv)
  have HAl := Lib.hid (fun t => meas_al hF t)
  have HSz := Lib.hid (fun t (hr : Right t) (hl : (code t).length ≤ 65536) (hth : thereT (K.take j) t = true) (hms : (measT K t).1 ≤ 65536) w1 (hb : Below w0.heap.size w0 w1) => show Calls Tryz.prog 49 #[.string (tyB t), .slice a L.length cap] w1 fun e w' => e = .returned (.tuple #[.int .i64 ((measT K t).1 : Nat), .int .i64 ((measT K t).2 : Nat)]) ∧ Below w1.heap.size w1 w' by
    have := refSize_ok K L a cap mv hG hKL K.length _ t (Nat.le_refl _) hr hl (by rw [List.take_length]; exact there_take hth) w1 ((hS.below hb).mono hb.size)
    rw [cut_id hms] at this
    exact this)
  obtain ⟨bb, off, ha, hbl, hrow⟩ := hS.at_ (fun e => by rw [e] at hjL; simp at hjL)
  obtain ⟨_, e2, hms⟩ := hrow j _ _ (List.getElem?_eq_getElem hjL) (List.getElem?_eq_getElem hjm)
  rw [hLj] at hms
  generalize K[j].size = sz at *
  generalize K[j].align = al at *
  generalize K[j].mems = ms at *
  generalize tyB (.str s) = st at *
  generalize mv[j]'hjm = u at *
  obtain ⟨am, cm, rfl, hmr⟩ := hms
  have HMr := Lib.hid hmr
  have HMm := Lib.hid hMm
  have HKal := Lib.hid hKal
  have HN2 := Lib.hid hN
  have HIH := Lib.hid ih
  have HO := Lib.hid ho
  have HB := Lib.hid hb
  have HLn := Lib.hid hlen
  have HC0 := Lib.hid (show ∀ w1, Below w0.heap.size w0 w1 → w1.cell? ⟨bb, off + j * 2 + 1, none⟩ = some (.slice am ms.length cm) from fun w1 hb => by rw [hb.cell hbl]; exact e2)
  subst ha
  clear hb ho hS hG hF hKL hl hj ih hlen hsz hdv hmr hmok hSz hMm hal hKal hpow hbl e2 hrow hN hLj hLl hjm
  go_enter Tryz.func51, Tryz.ntmps51
  go_wp2_with (go_at_call 40; (with_reducible refine (HK.out _).mono ?_); rintro e w1 ⟨rfl, hw1⟩; subst w1)
  have HN1 := Lib.hid (HN.out w HB.out)
  go_wp2_with (go_at_call 83; (with_reducible refine HN1.out.mono ?_); rintro e w7 ⟨rfl, hb7⟩; have HW7 := Lib.hid hb7; have k1 := HC0.out w7 (HB.out.trans (hb7.mono HB.out.size)); clear hb7)
  have HB7 := Lib.hid (HB.out.trans (HW7.out.mono HB.out.size))
  have HR7 := Lib.hid (HO.out.belowed HW7.out)
  clear k1
  go_loopg [2, 3, 10, 18] ms.length (fun g v2 v3 v10 v18 wy => ∃ (i : Nat) (ok : Bool), i ≤ ms.length ∧ i + g = ms.length ∧ v18 = .int .i64 (i : Int) ∧ v10 = .bool ok ∧ Hid (StrR w0 w7 v out K (piecesK K m) x ms N al wy v3 v2 i ok))
  case atStart => exact ⟨0, true, by omega, by omega, rfl, rfl, [], 0, ⟨rfl, ⟨[], rfl, rfl⟩, by rw [List.append_nil]; exact HR7.out, by rw [List.append_nil]; exact HLn.out, Grew.refl _ _, ⟨1, HN2.out⟩⟩, rfl⟩
  case round =>
    obtain ⟨i, ok, hi, hig, rfl, rfl, HI⟩ := hrel
    cases ok with
    | false =>
      obtain ⟨⟨a3, n3, c3, hv⟩, hg3, hl3⟩ := HI.out
      rw [hv] at hg3
      have HG4 := Lib.hid ((Grew.below HW7.out).trans hg3)
      have HF4 := Lib.hid hl3
      subst hv
      clear HI hg3 hl3
      by_cases hlt : i < ms.length
      all_goals
        go_wp2_with fail
        go_ret2
        exact scalQ_no (by rw [HP.out]; exact HF4.out) HG4.out
    | true =>
    obtain ⟨done, n, hinv, hat⟩ := HI.out
    replace HI := Lib.hid hinv
    clear hinv
    obtain ⟨a3, c3, hv⟩ := HI.out.row.form
    by_cases hlt : i < ms.length
    · obtain ⟨mb, moff, ha, hmb, hmrow⟩ := HMr.out (fun e => by rw [e] at hlt; simp at hlt)
      have hbr := HI.out.grew.under HB7.out HR7.out
      subst ha
      obtain ⟨_, l2⟩ := hmrow i _ (List.getElem?_eq_getElem hlt)
      have HL2 := Lib.hid (show ∀ w1, Below w0.heap.size w0 w1 → w1.cell? ⟨mb, moff + i * 2 + 1, none⟩ = some (.string ms[i].2) from fun w1 hb => by rw [hb.cell hmb]; exact l2)
      rw [← hbr.cell hmb] at l2
      obtain ⟨u, hu, hsh, hth, hob, hus⟩ := HMm.out _ (List.getElem_mem hlt)
      have hd := drop_at ms i hlt
      generalize ms[i]'hlt = q at *
      obtain ⟨qn, qt⟩ := q
      simp only at l2 hu HL2
      obtain ⟨hqt, hru, hlu⟩ := tyS_some.1 hu
      obtain ⟨dp, hp1, hp2⟩ := HI.out.pl
      have hR : placesK K (ms.drop i) n = fitN n (measT K u).2 :: placesK K (ms.drop (i + 1)) (fitN n (measT K u).2 + (measT K u).1) := by rw [hd, placesK, measM, hu]
      obtain ⟨a0, hme⟩ := HI.out.mem
      rw [hd] at hme
      obtain ⟨hin, hal2⟩ := mem_in HKal.out hu hme
      have hre := HI.out.rest
      rw [hd, piecesM, hu] at hre
      simp only at hre
      rw [memR, hu] at hme
      simp only at hme
      have hau := HAl.out u
      have hdx := HDv.out u hth hal2
      have hfit : fitN (x + n) (measT K u).2 = x + fitN n (measT K u).2 := fit_add hau.1 hdx
      have hfg := fit_ge n (measT K u).2 hau.1
      have hUp := fun w => refUp_ok (x + n) (measT K u).2 (by omega) hau.1 hau.2 w
      rw [hfit] at hUp
      have HUp := Lib.hid hUp
      have hS1 := fun w1 (hb : Below w0.heap.size w0 w1) => HSz.out u hru hlu hth hus w1 hb
      rw [← hqt] at hS1
      have HS1 := Lib.hid (hS1 wr hbr)
      have HC := Lib.hid (show ∀ w1, Below wr.heap.size wr w1 → Calls Tryz.prog 51 #[.string qt, .slice (some ⟨bb, off, none⟩) L.length cap, .int .i64 ((x + fitN n (measT K u).2 : Nat) : Int), .slice a3 (out ++ done).length c3] w1 (ScalQ w0.heap.size (out ++ done) (piecesK K m u (x + fitN n (measT K u).2)) (.slice a3 (out ++ done).length c3) w1) from fun w1 hb1 => by
        have hrw := HI.out.row
        rw [hv] at hrw
        have := HIH.out u hru hlu hsh hob hth (x + fitN n (measT K u).2) _ _ w1 (hbr.trans (hb1.mono hbr.size)) (hrw.belowed hb1) HI.out.len (by omega) (Nat.dvd_add hdx (fit_dvd _ _))
        rw [← hqt] at this
        exact this)
      have HD := Lib.hid (show ∃ dp : List Nat, placesK K ms 0 = dp ++ placesK K (ms.drop (i + 1)) (fitN n (measT K u).2 + (measT K u).1) ∧ dp.length = i + 1 from ⟨dp ++ [fitN n (measT K u).2], by rw [hp1, hR]; simp, by simp [hp2]⟩)
      have HMe := Lib.hid (show ∃ a0, memR K (ms.drop (i + 1)) (fitN n (measT K u).2 + (measT K u).1) a0 = (N, al) from ⟨_, hme⟩)
      have HRe := Lib.hid hre
      have HI2 := Lib.hid HI.out
      rw [hv] at HI2
      have hp65 : ((x + fitN n (measT K u).2 : Nat) : Int) ≤ 65536 := by omega
      have hp66 : ((x + n : Nat) : Int) ≤ 65536 := by omega
      have hus65 : ((measT K u).1 : Int) ≤ 65536 := by omega
      have hdl : (((out ++ done).length : Nat) : Int) ≤ 4096 := by have := HI.out.len; omega
      have hii : (i : Int) < (ms.length : Int) := by omega
      have HBr := Lib.hid hbr
      have HAdd := Lib.hid (show ∀ us : Nat, (((x + fitN n (measT K u).2 : Nat) : Int) + (us : Int)) = ((x + (fitN n (measT K u).2 + us) : Nat) : Int) from fun us => by omega)
      generalize hxp : x + fitN n (measT K u).2 = xp at *
      generalize fitN n (measT K u).2 = pp at *
      generalize (measT K u).1 = us at *
      generalize (measT K u).2 = ua at *
      generalize x + n = xn at *
      have HXp := Lib.hid hxp
      subst hv hat
      generalize hM : (out ++ done).length = M at *
      have HMl := Lib.hid hM
      clear hM hxp
      clear HI hmrow hu hsh hth hob hus hd hqt hru hlu hp1 hp2 hR hme hin hre hbr hau hdx hfit hfg hUp hS1 hal2
      go_wp2_with (go_at_call 49; (with_reducible refine HS1.out.mono ?_); rintro e w8 ⟨rfl, hb8⟩; have HB8 := Lib.hid hb8; have l3 := HL2.out w8 (HBr.out.trans (hb8.mono HBr.out.size)); clear hb8)
      go_wp2_with (go_at_call 55; (with_reducible refine (HUp.out _).mono ?_); rintro e w9 ⟨rfl, hw9⟩; subst w9)
      have HC8 := Lib.hid (HC.out w8 HB8.out)
      go_wp2_with (go_at_call 51; (with_reducible refine HC8.out.mono ?_))
      intro e w9 hq
      obtain ⟨v', ok, rfl, hg, ⟨a4, n4, c4, rfl⟩, ⟨hl4, rfl, hr4⟩ | ⟨hl4, rfl⟩⟩ := hq
      · have HI4 := Lib.hid (show StrR w0 w7 v out K (piecesK K m) x ms N al w9 (.slice a4 n4 c4) (.int .i64 ((xp : Int) + (us : Int))) (i + 1) true from
          ⟨done ++ piecesK K m u xp, pp + us, ⟨by rw [HRe.out, List.append_assoc], HD.out, by rw [← List.append_assoc]; exact hr4, by rw [← List.append_assoc, List.length_append]; exact hl4, HI2.out.grew.trans ((Grew.below HB8.out).trans hg), HMe.out⟩, by rw [HAdd.out]⟩)
        clear hg hl4 hr4
        go_wp2_with fail
        go_roundg (ms.length - (i + 1))
        case measure => omega
        case rel => exact ⟨i + 1, true, by omega, by omega, by rw [Int.natCast_add]; rfl, rfl, HI4.out⟩
      · have HI4 := Lib.hid (show StrR w0 w7 v out K (piecesK K m) x ms N al w9 (.slice a4 n4 c4) (.int .i64 ((xp : Int) + (us : Int))) (i + 1) false from
          ⟨⟨a4, n4, c4, rfl⟩, HI2.out.grew.trans ((Grew.below HB8.out).trans hg), by
            rw [HRe.out, List.length_append, List.length_append]
            rw [List.length_append] at hl4
            omega⟩)
        clear hg hl4
        go_wp2_with fail
        go_roundg (ms.length - (i + 1))
        case measure => omega
        case rel => exact ⟨i + 1, false, by omega, by omega, by rw [Int.natCast_add]; rfl, rfl, HI4.out⟩
    · obtain rfl : i = ms.length := by omega
      have t3 : (ms.length : Int) ≤ (ms.length : Int) := Int.le_refl _
      have HG4 := Lib.hid ((Grew.below HW7.out).trans HI.out.grew)
      have HR4 := Lib.hid HI.out.row
      have HF4 := Lib.hid HI.out.len
      have hre := HI.out.rest
      rw [List.drop_length, piecesM, List.append_nil] at hre
      have HRe := Lib.hid hre
      subst hv hat
      clear HI hre
      go_wp2_with fail
      go_ret2
      exact scalQ_yes (by rw [HP.out, HRe.out, ← List.length_append]; exact HF4.out) HG4.out (by rw [HP.out, HRe.out]; exact HR4.out)
end Go.Proofs.YtmmjmppfmjejkaaGreatDoor
