/- The reference: Member. -/
import Derived.Test.YtmmjmppfmjejkaaGreatDoorRefSizeAll
namespace Go.Proofs.YtmmjmppfmjejkaaGreatDoor
open Go.RowKit

theorem uniqF : ∀ (l : List Sr) (K : List Kn) {K' : List Kn}, (K.map fun k => k.name).Nodup → learnF K l = .inr K' → (K'.map fun k => k.name).Nodup
  | [], K, K', hN, h => by rw [learnF] at h; obtain rfl := Sum.inr.inj h; exact hN
  | x :: l, K, K', hN, h => by
    rw [learnF] at h
    split at h
    · cases h
    · rename_i k hk
      obtain ⟨h1, h2, _⟩ := addK_bd hk
      refine uniqF l _ ?_ h
      rw [List.map_append, List.nodup_append]
      refine ⟨hN, by simp, fun a ha b hb hab => ?_⟩
      subst hab
      obtain ⟨k', hk', rfl⟩ := List.mem_map.1 ha
      have hb' : k'.name = k.name := by simpa using hb
      have : (findK K x.name.data.toList).isSome = true := by
        unfold findK
        rw [List.findIdx?_isSome, List.any_eq_true]
        exact ⟨k', hk', by rw [hb', ← h1]; simp⟩
      rw [this] at h2; cases h2
theorem uniqK {L : List Sr} {K : List Kn} (h : learnK L = .inr K) : (K.map fun k => k.name).Nodup := by
  unfold learnK at h
  split at h
  · cases h
  · exact uniqF L [] (by simp) h
theorem find_uniq {K : List Kn} (hN : (K.map fun k => k.name).Nodup) {i : Nat} (hi : i < K.length) {n : ByteArray} (h : K[i].name = n) : findK K n.data.toList = some i := by
  subst h
  unfold findK
  rw [List.findIdx?_eq_some_iff_getElem]
  refine ⟨hi, by simp, fun j hj => ?_⟩
  have hjl : j < K.length := by omega
  simp only [decide_eq_true_eq]
  intro e
  have e2 : K[j].name = K[i].name := toList_eq e
  exact (List.pairwise_iff_getElem.1 hN) j i (by simpa using hjl) (by simpa using hi) hj (by simpa using e2)
theorem memIdx_none {l : List (ByteArray × ByteArray)} {m : ByteArray} (h : ∀ j (hj : j < l.length), l[j].1 ≠ m) : l.findIdx? (fun q => decide (q.1 = m)) = none := by
  rw [List.findIdx?_eq_none_iff]
  intro q hq
  obtain ⟨j, hj, rfl⟩ := List.getElem_of_mem hq
  simpa using h j hj
theorem memIdx_at {l : List (ByteArray × ByteArray)} {m : ByteArray} {k : Nat} (hk : k < l.length) (h : l[k].1 = m) (hno : ∀ j (hj : j < l.length), j < k → l[j].1 ≠ m) : l.findIdx? (fun q => decide (q.1 = m)) = some k := by
  rw [List.findIdx?_eq_some_iff_getElem]
  exact ⟨hk, by simpa using h, fun j hj => by simpa using hno j (by omega) hj⟩
/-- what holds ahead of a round over the members -/
structure MbInv (w2 : World) (K : List Kn) (ms : List (ByteArray × ByteArray)) (m : ByteArray) (wy : World) (k n : Nat) : Prop where
  rest : ∃ done : List Nat, placesK K ms 0 = done ++ placesK K (ms.drop k) n ∧ done.length = k
  nb : n ≤ k * 65540
  no : ∀ j (hj : j < ms.length), j < k → ms[j].1 ≠ m
  below : Below w2.heap.size w2 wy
def MemberEnd (L : List Sr) (n m : ByteArray) (w : World) (e : Ending) (w' : World) : Prop := e = .returned (.tuple #[.int .i64 (memberR L n m).1, .string (memberR L n m).2.1, .int .i64 (memberR L n m).2.2]) ∧ Below w.heap.size w w'
theorem memberEnd {L : List Sr} {n m : ByteArray} {w w' : World} {x c : Int} {y : ByteArray} (h : memberR L n m = (x, y, c)) (hb : Below w.heap.size w w') : MemberEnd L n m w (.returned (.tuple #[.int .i64 x, .string y, .int .i64 c])) w' := ⟨by rw [h], hb⟩

set_option maxRecDepth 100000 in
set_option maxHeartbeats 8000000 in
theorem refMember_ok (n m : ByteArray) (a : Option Addr) (cap : Nat) (L : List Sr) (mv : List Value) (w : World) (hS : IsSrs w.heap.size w a L mv) (hcap : L.length ≤ cap) (hcm : cap ≤ maxLen) :
    Calls Tryz.prog 32 #[.slice a L.length cap, .string n, .string m] w (MemberEnd L n m w) := by
  have HS := Lib.hid hS
  have hSt := refStructs_ok a cap L mv w hS hcap hcm
  unfold StructsEnd at hSt
  clear hS
  rcases hl : learnK L with ⟨i, c⟩ | K
  · have hf := faultN_bad hl
    have hc0 := learnK_ne hl
    have hfin := Lib.hid (member_struct (n := n) (m := m) hl)
    rw [hf] at hSt
    have HSt2 := Lib.hid hSt
    have t1 : (c != 0) = true := by simp [hc0]
    clear hf hc0 hl hSt
    go_enter Tryz.func32, Tryz.ntmps32
    go_wp2_with (go_at_call 11; (with_reducible refine HSt2.out.mono ?_); rintro e w1 ⟨rfl, hb1⟩; obtain ⟨⟨d0, d1⟩, _⟩ := two_block (fault_blk w1 (.int .i64 (i : Int)) (.int .i64 c)); have HB1 := Lib.hid (hb1.alloc hb1.size (.cells #[.int .i64 (i : Int), .int .i64 c] 27)); clear hb1)
    go_quiet (fail)
    go_wp2
    exact bodyPost_ret (v := .tuple #[.int .i64 0, .string ⟨#[]⟩, .int .i64 c]) (by simp [results, Tryz.results32, go_sem]) rfl (memberEnd hfin.out (blw_drewN HB1.out _))
  have hk := learnK_knows hl
  have HN := Lib.hid (uniqK hl)
  have HLk := Lib.hid hl
  have HG := Lib.hid hk.good
  have HF := Lib.hid hk.fit
  have HKL := Lib.hid hk.list
  have hKl : K.length = L.length := by rw [← hk.list, List.length_map]
  have hLl : (L.length : Int) ≤ 64 := by have := hk.fit.1; omega
  rw [faultN_ok hl] at hSt
  have HSt2 := Lib.hid hSt
  have HKl := Lib.hid hKl
  clear hSt hl hk hKl
  go_enter Tryz.func32, Tryz.ntmps32
  go_upto_region 2 with (go_at_call 11; (with_reducible refine HSt2.out.mono ?_); rintro e w1 ⟨rfl, hb1⟩; have HB1 := Lib.hid hb1; clear hb1)
  have hb2 : Below w1.heap.size w1 (w1.alloc (.cells #[.int .i64 0, .int .i64 0] 27)) := (Below.refl _ _).alloc (Nat.le_refl _) _
  have hfb := fault_blk w1 (.int .i64 0) (.int .i64 0)
  generalize w1.alloc (.cells #[.int .i64 0, .int .i64 0] 27) = w2 at *
  obtain ⟨⟨d0, d1⟩, _⟩ := two_block hfb
  have HB2 := Lib.hid (HB1.out.trans (hb2.mono HB1.out.size))
  clear hb2 hfb
  go_wp2_with fail
  clear d0 d1
  go_loopg [10] L.length (fun g v10 wy => ∃ i : Nat, i ≤ L.length ∧ i + g = L.length ∧ v10 = .int .i64 (i : Int) ∧ Hid (∀ j (hj : j < L.length), j < i → L[j].name = n → ∀ k (hk : k < L[j].mems.length), L[j].mems[k].1 ≠ m) ∧ Hid (Below w.heap.size w wy))
  case atStart => exact ⟨0, by omega, by omega, rfl, fun j _ h => by omega, HB2.out⟩
  case round =>
    obtain ⟨i, hi, hig, rfl, hno, HBw⟩ := hrel
    by_cases hlt : i < L.length
    · obtain ⟨bb, off, ha, hbl, hrow⟩ := HS.out.at_ (fun e => by rw [e] at hlt; simp at hlt)
      have hlm : i < mv.length := by rw [HS.out.len]; exact hlt
      obtain ⟨c1, c2, hms⟩ := hrow i _ _ (List.getElem?_eq_getElem hlt) (List.getElem?_eq_getElem hlm)
      rw [← HBw.out.cell hbl] at c1 c2
      have HKi := Lib.hid (show i < K.length by rw [HKl.out]; exact hlt)
      have hKi : K[i]'HKi.out = K[i]'HKi.out := rfl
      have hLi : L[i] = (K[i]'HKi.out).toSr := by simp [← HKL.out]
      have HX := Lib.hid (List.getElem?_eq_getElem hlt)
      have HLi := Lib.hid hLi
      have HNo := Lib.hid (show (L[i].name = n → ∀ k (hk : k < L[i].mems.length), L[i].mems[k].1 ≠ m) → ∀ j (hj : j < L.length), j < i + 1 → L[j].name = n → ∀ k (hk : k < L[j].mems.length), L[j].mems[k].1 ≠ m from fun h j hj hji => by
        rcases Nat.lt_or_ge j i with h' | h'
        · exact hno.out j hj h'
        · obtain rfl : j = i := by omega
          exact h)
      generalize L[i]'hlt = x at *
      generalize mv[i]'hlm = v at *
      clear hrow hlm hno hKi hLi
      by_cases hn : x.name = n
      · have hcmp : (n.toList != n.toList) = false := by simp
        have HFi := Lib.hid (find_uniq HN.out HKi.out (n := n) (by have := hn; rw [HLi.out] at this; exact this))
        have HMk := Lib.hid (show MemsOk K x.mems by rw [HLi.out]; exact mems_okK HG.out HF.out HKi.out)
        rw [hn] at c1
        have HXn := Lib.hid hn
        obtain ⟨am, cm, rfl, hmr⟩ := hms
        have HMr := Lib.hid hmr
        have hml : (x.mems.length : Int) ≤ 64 := by have := HMk.out.1; omega
        have HLen := Lib.hid HMk.out.1
        have HC2 := Lib.hid (show ∀ w', Below w.heap.size w w' → w'.cell? ⟨bb, off + i * 2 + 1, none⟩ = some (.slice am x.mems.length cm) from fun w' hb => by
          have := c2
          rw [HBw.out.cell hbl] at this
          rw [hb.cell hbl]; exact this)
        clear hn hmr
        subst ha
        go_wp2_with fail
        clear c1 c2 hcmp
        have hil2 : (i : Int) < (L.length : Int) := by omega
        go_loopg [11, 12] x.mems.length (fun g v11 v12 wy => ∃ k n : Nat, k ≤ x.mems.length ∧ k + g = x.mems.length ∧ v12 = .int .i64 (k : Int) ∧ v11 = .int .i64 (n : Int) ∧ Hid (MbInv wr K x.mems m wy k n))
        case atStart => exact ⟨0, 0, by omega, by omega, rfl, rfl, ⟨[], rfl, rfl⟩, by omega, fun j _ h => by omega, Below.refl _ _⟩
        case round =>
          obtain ⟨k, nk, hk, hkg, rfl, rfl, HI⟩ := hrel
          have HBy := Lib.hid (HBw.out.trans (HI.out.below.mono HBw.out.size))
          have c2 := HC2.out _ HBy.out
          by_cases hkl : k < x.mems.length
          · obtain ⟨mb, moff, ha, hmb, hmrow⟩ := HMr.out (fun e => by rw [e] at hkl; simp at hkl)
            subst ha
            obtain ⟨k1, k2⟩ := hmrow k _ (List.getElem?_eq_getElem hkl)
            rw [← HBy.out.cell hmb] at k1 k2
            obtain ⟨t, ht, _, hth, hms⟩ := HMk.out.2 _ (List.getElem_mem hkl)
            have hd := drop_at x.mems k hkl
            have HQ := Lib.hid (List.getElem?_eq_getElem hkl)
            have HNk := Lib.hid (show x.mems[k].1 ≠ m → ∀ j (hj : j < x.mems.length), j < k + 1 → x.mems[j].1 ≠ m from fun h j hj hjk => by
              rcases Nat.lt_or_ge j k with h' | h'
              · exact HI.out.no j hj h'
              · obtain rfl : j = k := by omega
                exact h)
            have HAt := Lib.hid (show x.mems[k].1 = m → x.mems.findIdx? (fun q => decide (q.1 = m)) = some k from fun h => memIdx_at hkl h HI.out.no)
            generalize x.mems[k]'hkl = q at *
            obtain ⟨qn, qt⟩ := q
            simp only at k1 k2 ht
            obtain ⟨hqt, hrt, hlt2⟩ := tyS_some.1 ht
            have HSz := Lib.hid (fun w1 (hb : Below w.heap.size w w1) => refSize_ok K L (some ⟨bb, off, none⟩) cap mv HG.out HKL.out K.length _ t (Nat.le_refl _) hrt hlt2 (by rw [List.take_length]; exact hth) w1 ((HS.out.below hb).mono hb.size))
            rw [cut_id hms, ← hqt] at HSz
            have hal := meas_al HF.out t
            have hnb := HI.out.nb
            have HUp := Lib.hid (fun w => refUp_ok nk (measT K t).2 (by omega) hal.1 hal.2 w)
            have hfb := fit_bd nk (measT K t).2 hal.1 hal.2
            have HR := Lib.hid (show placesK K (x.mems.drop k) nk = fitN nk (measT K t).2 :: placesK K (x.mems.drop (k + 1)) (fitN nk (measT K t).2 + (measT K t).1) by
              rw [hd, placesK, measM, ht])
            generalize (measT K t).2 = al at *
            generalize (measT K t).1 = sz at *
            have hx1 : fitN nk al ≤ 8388608 := by omega
            have hx2 : fitN nk al + sz ≤ (k + 1) * 65540 := by omega
            generalize fitN nk al = fa at *
            clear hmrow ht hd hqt hrt hlt2 hth hnb hfb
            have hk2 : (k : Int) < (x.mems.length : Int) := by omega
            go_upto_region 13 with fail
            have hm2 : (wr.alloc (.cells #[.string qn, .string qt] 62)).heap[wr.heap.size]? = some (.cells #[.string qn, .string qt] 62 (0, 0)) := heap_alloc_new _ _
            have hb2 : Below wr.heap.size wr (wr.alloc (.cells #[.string qn, .string qt] 62)) := (Below.refl _ _).alloc (Nat.le_refl _) _
            generalize wr.alloc (.cells #[.string qn, .string qt] 62) = w4 at *
            have HB4 := Lib.hid (HI.out.below.trans (hb2.mono HI.out.below.size))
            have HSz4 := Lib.hid (HSz.out w4 (HBy.out.trans (hb2.mono HBy.out.size)))
            have HM4 := Lib.hid hm2
            obtain ⟨⟨m0, m1⟩, _⟩ := two_block hm2
            clear hm2 hb2 k1 k2 c2
            by_cases hqm : qn = m
            · subst hqm
              have hfin := Lib.hid (show memberR L n qn = ((fa : Int), qt, 0) from by
                obtain ⟨done, h1, h2⟩ := HI.out.rest
                have := member_yes (n := n) (m := qn) (r := fa) (q := (qn, qt)) HLk.out HFi.out HX.out (HAt.out rfl) (by rw [h1, HR.out, List.getElem?_append_right (by omega), h2, Nat.sub_self]; rfl) HQ.out
                exact this)
              go_wp2_with (first | (go_at_call 49; (with_reducible refine HSz4.out.mono ?_); rintro e w5 ⟨rfl, hb5⟩; have HB5 := Lib.hid (HBw.out.trans ((HB4.out.trans (hb5.mono HB4.out.size)).mono HBw.out.size)); have hm5 := (hb5.block _ (lt_of_heap HM4.out)).trans HM4.out; obtain ⟨⟨p0, p1⟩, _⟩ := two_block hm5; clear hb5 hm5) | (go_at_call 55; (with_reducible refine (HUp.out _).mono ?_); rintro e w6 ⟨rfl, hw6⟩; subst w6))
              go_quiet (fail)
              go_wp2
              exact bodyPost_ret (v := .tuple #[.int .i64 (fa : Int), .string qt, .int .i64 0]) (by simp [results, Tryz.results32, go_sem]) rfl (memberEnd hfin.out (blw_drewN HB5.out _))
            · have hcmp : (qn.toList == m.toList) = false := by rw [str_eqb, decide_eq_false hqm]
              have HN2 := Lib.hid (HNk.out hqm)
              clear hqm
              go_wp2_with (first | (go_at_call 49; (with_reducible refine HSz4.out.mono ?_); rintro e w5 ⟨rfl, hb5⟩; have HB5 := Lib.hid (HB4.out.trans (hb5.mono HB4.out.size)); have hm5 := (hb5.block _ (lt_of_heap HM4.out)).trans HM4.out; obtain ⟨⟨p0, p1⟩, _⟩ := two_block hm5; clear hb5 hm5) | (go_at_call 55; (with_reducible refine (HUp.out _).mono ?_); rintro e w6 ⟨rfl, hw6⟩; subst w6))
              go_roundg (x.mems.length - (k + 1))
              case measure => omega
              case rel => exact ⟨k + 1, fa + sz, by omega, by omega, by rw [Int.natCast_add]; rfl, by rw [Int.natCast_add], (by obtain ⟨done, h1, h2⟩ := HI.out.rest; exact ⟨done ++ [fa], by rw [h1, HR.out]; simp, by simp [h2]⟩), hx2, HN2.out, HB5.out⟩
          · obtain rfl : k = x.mems.length := by omega
            have t3 : (x.mems.length : Int) ≤ (x.mems.length : Int) := Int.le_refl _
            have HN1 := Lib.hid (HNo.out (fun _ k hk => HI.out.no k hk hk))
            go_wp2_with fail
            go_roundg (L.length - (i + 1))
            case measure => omega
            case rel => exact ⟨i + 1, by omega, by omega, by rw [Int.natCast_add]; rfl, HN1.out, HBy.out⟩
      · have hcmp : (x.name.toList == n.toList) = false := by rw [str_eqb, decide_eq_false hn]
        have HN1 := Lib.hid (HNo.out (fun h => absurd h hn))
        subst ha
        clear hn
        go_wp2_with fail
        go_roundg (L.length - (i + 1))
        case measure => omega
        case rel => exact ⟨i + 1, by omega, by omega, by rw [Int.natCast_add]; rfl, HN1.out, HBw.out⟩
    · obtain rfl : i = L.length := by omega
      have t3 : (L.length : Int) ≤ (L.length : Int) := Int.le_refl _
      have hfin := Lib.hid (show memberR L n m = (0, ⟨#[]⟩, 4) by
        rcases hf : findK K n.data.toList with _ | j
        · exact member_no HLk.out (by rw [lookV_two, hf]; rfl)
        · have hj := find_lt hf
          have hjL : j < L.length := by rw [← HKl.out]; exact hj
          have hnm : L[j].name = n := by
            have h1 := (List.findIdx?_eq_some_iff_getElem.1 hf).2.1
            have h2 : L[j] = K[j].toSr := by simp [← HKL.out]
            rw [h2]
            exact toList_eq (by simpa using h1)
          exact member_none HLk.out hf (List.getElem?_eq_getElem hjL) (memIdx_none (hno.out j hjL hjL hnm)))
      go_wp2_with fail
      exact bodyPost_ret (v := .tuple #[.int .i64 0, .string ⟨#[]⟩, .int .i64 4]) (by simp [results, Tryz.results32, go_sem]) rfl (memberEnd hfin.out HBw.out)
end Go.Proofs.YtmmjmppfmjejkaaGreatDoor
