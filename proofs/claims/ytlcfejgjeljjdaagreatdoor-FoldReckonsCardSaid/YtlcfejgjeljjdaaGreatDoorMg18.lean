/- The reference's reading of a type: functions; all together. · The reference's Form, and a function's type taken apart. -/
import Derived.Test.YtlcfejgjeljjdaaGreatDoorMg17
namespace Go.Proofs.YtlcfejgjeljjdaaGreatDoor
open Go.RowKit

/-- how a reading ends, by what is left -/
def NextQ (s : ByteArray) (r : Option (List UInt8)) (w : World) (e : Ending) (w' : World) : Prop :=
  (match r with
    | some q => e = .returned (.tuple #[.int .i64 ((s.size - q.length : Nat) : Int), .bool true])
    | none => ∃ z : Int, e = .returned (.tuple #[.int .i64 z, .bool false])) ∧ Below w.heap.size w w'
theorem nextQ_of {s : ByteArray} {r : Option (Ty × List UInt8)} {w w' : World} {e : Ending} (h : NextP s r w e w') : NextQ s (r.map (·.2)) w e w' := by cases r <;> exact h
theorem nextQ_no {s : ByteArray} {r : Option (List UInt8)} {w w' : World} {z : Int} (hr : r = none) (hb : Below w.heap.size w w') : NextQ s r w (.returned (.tuple #[.int .i64 z, .bool false])) w' := by subst hr; exact ⟨⟨z, rfl⟩, hb⟩
theorem nextQ_yes {s : ByteArray} {r : Option (List UInt8)} {q : List UInt8} {w w' : World} {z : Int} (hr : r = some q) (hz : z = ((s.size - q.length : Nat) : Int)) (hb : Below w.heap.size w w') : NextQ s r w (.returned (.tuple #[.int .i64 z, .bool true])) w' := by
  subst hr; subst hz; exact ⟨rfl, hb⟩
theorem byte_ne {c d : UInt8} (h : c ≠ d) {m : Int} (hm : (d.toNat : Int) = m) : ((c.toNat : Int) == m) = false ∧ ((c.toNat : Int) != m) = true := by
  have h1 := let_no h hm
  exact ⟨h1, by rw [bne, h1]; rfl⟩
theorem byte_eq {c d : UInt8} (h : c = d) {m : Int} (hm : (d.toNat : Int) = m) : ((c.toNat : Int) == m) = true ∧ ((c.toNat : Int) != m) = false := by
  subst h
  have h1 : ((c.toNat : Int) == m) = true := by rw [beq_iff_eq]; exact hm
  exact ⟨h1, by rw [bne, h1]; rfl⟩

set_option maxHeartbeats 4000000 in
set_option maxRecDepth 100000 in
theorem signed_ok (k : Nat) (s : ByteArray) (w : World) (hk : k < s.size) (hs : s.size ≤ 65536)
    (ih : ∀ j w', k < j → j ≤ s.size → Calls Tryz.prog 92 #[.string s, .int .i64 (j : Int)] w' (NextQ s (nE (sfx s j)) w')) :
    Calls Tryz.prog 121 #[.string s, .int .i64 (k : Int)] w (NextQ s (sE (sfx s (k + 1))) w) := by
  have hs' : (s.size : Int) ≤ 65536 := by omega
  have IH := Lib.hid ih
  clear ih
  by_cases h1 : k + 1 < s.size
  · by_cases h40 : s[k + 1] = 40
    · have hR : sE (sfx s (k + 1)) = (pE (sfx s (k + 2))).bind nE := by
        rw [sE, sfx_cons s (k + 1) h1, h40]; rfl
      obtain ⟨_, t2⟩ := byte_eq h40 (m := 40) rfl
      have t0 : ¬ ((s.size : Int) ≤ (k : Int) + 1) := by omega
      clear h40
      by_cases h41 : ∃ h : k + 2 < s.size, s[k + 2] = 41
      · obtain ⟨h2, h41⟩ := h41
        have hfin := Lib.hid (show sE (sfx s (k + 1)) = nE (sfx s (k + 3)) by rw [hR, sfx_cons s (k + 2) h2, h41]; rfl)
        obtain ⟨t3, _⟩ := byte_eq h41 (m := 41) rfl
        have HC := Lib.hid (IH.out (k + 3) w (by omega) (by omega))
        have hi : (((k + 3 : Nat) : Int)) = (k : Int) + 2 + 1 := by omega
        rw [hi] at HC
        have t4 : (k : Int) + 2 < s.size := by omega
        clear h41 hR hi
        rcases hn : nE (sfx s (k + 3)) with _ | q
        all_goals
          have hfin := Lib.hid (hfin.out.trans hn)
          rw [hn] at HC
          clear hn
          go_enter Tryz.func121, Tryz.ntmps121
        · go_wp2_with (go_at_call 92; (with_reducible refine HC.out.mono ?_); rintro e w1 ⟨⟨z, rfl⟩, hb⟩; have HB := Lib.hid hb; clear hb)
          go_ret2
          exact nextQ_no hfin.out HB.out
        · go_wp2_with (go_at_call 92; (with_reducible refine HC.out.mono ?_); rintro e w1 ⟨rfl, hb⟩; have HB := Lib.hid hb; clear hb)
          go_ret2
          exact nextQ_yes hfin.out rfl HB.out
      · have hM := Lib.hid (show sE (sfx s (k + 1)) = (mE (sfx s (k + 2))).bind nE by
          rw [hR]
          congr 1
          rcases Nat.lt_or_ge (k + 2) s.size with h2 | h2
          · rw [sfx_cons s (k + 2) h2, pE, if_neg (fun e => h41 ⟨h2, e⟩)]
          · rw [sfx_nil s (k + 2) h2]; rfl)
        have hT : (s.size : Int) ≤ (k : Int) + 2 ∨ ∃ h : k + 2 < s.size, (k : Int) + 2 < s.size ∧ ((s[k + 2].toNat : Int) == 41) = false := by
          rcases Nat.lt_or_ge (k + 2) s.size with h2 | h2
          · exact .inr ⟨h2, by omega, (byte_ne (fun e => h41 ⟨h2, e⟩) rfl).1⟩
          · exact .inl (by omega)
        clear h41 hR
        generalize sE (sfx s (k + 1)) = R at *
        rcases hT with t3 | ⟨h2, t4, t3⟩
        all_goals
          go_enter Tryz.func121, Tryz.ntmps121
          go_wp2_with fail
          go_loopg [6] (s.size - (k + 2)) (fun g v wy => ∃ j : Nat, k + 2 ≤ j ∧ j ≤ s.size ∧ j + g = s.size ∧ v = .int .i64 (j : Int) ∧ Hid (R = (mE (sfx s j)).bind nE) ∧ Hid (Below w.heap.size w wy))
          case atStart => exact ⟨k + 2, by omega, by omega, by omega, by rw [Int.natCast_add]; rfl, hM.out, Below.refl _ _⟩
          case round =>
            obtain ⟨j, hj1, hj2, hjg, rfl, hr, HBw⟩ := hrel
            have hN := IH.out j wr (by omega) hj2
            rcases hn : nE (sfx s j) with _ | q
            · have hfin := Lib.hid (show R = none by rw [hr.out, mE_none hn]; rfl)
              rw [hn] at hN
              have HN := Lib.hid hN
              clear hn hN
              go_wp2_with (go_at_call 92; (with_reducible refine HN.out.mono ?_); rintro e w1 ⟨⟨z, rfl⟩, hb⟩; have HB := Lib.hid (HBw.out.trans (hb.mono HBw.out.size)); clear hb)
              go_ret2
              exact nextQ_no hfin.out HB.out
            · rw [hn] at hN
              have hq1 := Lib.hid (show R = (mG q).bind nE by rw [hr.out, mE_some hn])
              obtain ⟨t, _, hcode, hlt⟩ := nE_some hn
              obtain ⟨hsq, hpos, hle, hql⟩ := rest_sfx hcode hj2
              obtain ⟨e, ee⟩ : ∃ e, e = s.size - q.length := ⟨_, rfl⟩
              rw [← ee] at hsq
              rw [sfx_length] at hlt
              have hN' : Calls Tryz.prog 92 #[.string s, .int .i64 (j : Int)] wr (fun x w' => x = .returned (.tuple #[.int .i64 (e : Int), .bool true]) ∧ Below wr.heap.size wr w') := by rw [ee]; exact hN
              have he1 : j < e := by omega
              have he2 : e ≤ s.size := by omega
              have HN := Lib.hid hN'
              clear hn hN hN' hcode hpos hle hql hlt ee
              by_cases hes : e < s.size
              · have hq2 : q = s[e] :: sfx s (e + 1) := by rw [← hsq, sfx_cons s e hes]
                by_cases hc41 : s[e] = 41
                · obtain ⟨t5, t6⟩ := byte_eq hc41 (m := 41) rfl
                  have t7 : ((s[e].toNat : Int) != 44) = true := (byte_ne (d := 44) (by rw [hc41]; decide) rfl).2
                  have hR3 : R = nE (sfx s (e + 1)) := by rw [hq1.out, hq2, hc41]; rfl
                  have HC := Lib.hid (fun w' => IH.out (e + 1) w' (by omega) (by omega))
                  have hi : (((e + 1 : Nat) : Int)) = (e : Int) + 1 := by omega
                  rw [hi] at HC
                  clear hc41 hq2 hsq hi
                  rcases hn : nE (sfx s (e + 1)) with _ | q2
                  · have hfin := Lib.hid (hR3.trans hn)
                    rw [hn] at HC
                    clear hn hR3
                    go_wp2_with (first | (go_at_call 92; (with_reducible refine HN.out.mono ?_); rintro e w1 ⟨rfl, hb⟩; have HB := Lib.hid (HBw.out.trans (hb.mono HBw.out.size)); clear hb) | (go_at_call 92; (with_reducible refine (HC.out _).mono ?_); rintro e w2 ⟨⟨z, rfl⟩, hb⟩; have HB2 := Lib.hid (HB.out.trans (hb.mono HB.out.size)); clear hb))
                    all_goals (go_ret2; exact nextQ_no hfin.out HB2.out)
                  · have hfin := Lib.hid (hR3.trans hn)
                    rw [hn] at HC
                    clear hn hR3
                    go_wp2_with (first | (go_at_call 92; (with_reducible refine HN.out.mono ?_); rintro e w1 ⟨rfl, hb⟩; have HB := Lib.hid (HBw.out.trans (hb.mono HBw.out.size)); clear hb) | (go_at_call 92; (with_reducible refine (HC.out _).mono ?_); rintro e w2 ⟨rfl, hb⟩; have HB2 := Lib.hid (HB.out.trans (hb.mono HB.out.size)); clear hb))
                    all_goals (go_ret2; exact nextQ_yes hfin.out rfl HB2.out)
                · by_cases hc44 : s[e] = 44
                  · obtain ⟨_, t6⟩ := byte_eq hc44 (m := 44) rfl
                    have t7 : ((s[e].toNat : Int) == 41) = false := (byte_ne hc41 rfl).1
                    have hR3 := Lib.hid (show R = (mE (sfx s (e + 1))).bind nE by rw [hq1.out, hq2, hc44]; rfl)
                    clear hc41 hc44 hq2 hsq
                    go_wp2_with (go_at_call 92; (with_reducible refine HN.out.mono ?_); rintro e w1 ⟨rfl, hb⟩; have HB := Lib.hid (HBw.out.trans (hb.mono HBw.out.size)); clear hb)
                    all_goals
                      go_roundg (s.size - (e + 1))
                      case measure => omega
                      case rel => exact ⟨e + 1, by omega, by omega, by omega, by rw [Int.natCast_add]; rfl, hR3, HB⟩
                  · have t6 := (byte_ne hc41 (m := 41) rfl).2
                    have t7 := (byte_ne hc44 (m := 44) rfl).2
                    have hfin := Lib.hid (show R = none by
                      rw [hq1.out, mG_no (fun ⟨l, h⟩ => by rw [hq2] at h; exact hc41 (List.cons.inj h).1) (fun ⟨l, h⟩ => by rw [hq2] at h; exact hc44 (List.cons.inj h).1)]; rfl)
                    clear hc41 hc44 hq2 hsq
                    go_wp2_with (go_at_call 92; (with_reducible refine HN.out.mono ?_); rintro e w1 ⟨rfl, hb⟩; have HB := Lib.hid (HBw.out.trans (hb.mono HBw.out.size)); clear hb)
                    all_goals (go_ret2; exact nextQ_no hfin.out HB.out)
              · have hq2 : q = [] := by rw [← hsq, sfx_nil s e (by omega)]
                have hfin := Lib.hid (show R = none by rw [hq1.out, hq2]; rfl)
                have t6 : (s.size : Int) ≤ (e : Int) := by omega
                clear hq2 hsq
                go_wp2_with (go_at_call 92; (with_reducible refine HN.out.mono ?_); rintro e w1 ⟨rfl, hb⟩; have HB := Lib.hid (HBw.out.trans (hb.mono HBw.out.size)); clear hb)
                all_goals (go_ret2; exact nextQ_no hfin.out HB.out)
    · have hfin := Lib.hid (show sE (sfx s (k + 1)) = none by
        rw [sE, sfx_cons s (k + 1) h1, behind, if_neg h40]; rfl)
      obtain ⟨_, t2⟩ := byte_ne h40 (m := 40) rfl
      clear h40
      go_enter Tryz.func121, Tryz.ntmps121
      go_wp2_with fail
      go_ret2
      exact nextQ_no hfin.out (Below.refl _ _)
  · have hfin := Lib.hid (show sE (sfx s (k + 1)) = none by rw [sfx_nil s (k + 1) (by omega)]; rfl)
    have t1 : (s.size : Int) ≤ (k : Int) + 1 := by omega
    go_enter Tryz.func121, Tryz.ntmps121
    go_wp2_with fail
    go_ret2
    exact nextQ_no hfin.out (Below.refl _ _)

set_option maxHeartbeats 4000000 in
theorem next_fn (n k : Nat) (s : ByteArray) (w : World) (hk : k < s.size) (hs : s.size ≤ 65536) (hc : s[k] = 102) (hn : (sfx s (k + 1)).length < n)
    (ih : ∀ j w', k < j → j ≤ s.size → Calls Tryz.prog 92 #[.string s, .int .i64 (j : Int)] w' (NextQ s (nE (sfx s j)) w')) :
    Calls Tryz.prog 92 #[.string s, .int .i64 (k : Int)] w (NextP s (tyF (n + 1) (sfx s k)) w) := by
  have hR : (tyF (n + 1) (sfx s k)).map (·.2) = sE (sfx s (k + 1)) := by rw [sfx_cons s k hk, hc]; exact sE_is hn
  have hS := signed_ok k s w hk hs ih
  rw [← hR] at hS
  have hs' : (s.size : Int) ≤ 65536 := by omega
  obtain ⟨v1, v2, v3, v4, v5, v6⟩ := six_no (c := s[k]) (by rw [hc]; decide)
  have v7 : ((s[k].toNat : Int) == 112) = false := by rw [hc]; rfl
  have v8 : ((s[k].toNat : Int) == 97) = false := by rw [hc]; rfl
  have v9 : ((s[k].toNat : Int) == 83) = false := by rw [hc]; rfl
  have v10 : ((s[k].toNat : Int) == 102) = true := by rw [hc]; rfl
  clear hc ih hn hR
  rcases hr : tyF (n + 1) (sfx s k) with _ | ⟨t, q⟩
  · rw [hr] at hS
    have HS := Lib.hid hS
    clear hr hS
    go_enter Tryz.func92, Tryz.ntmps92
    go_wp2_with (go_at_call 121; (with_reducible refine HS.out.mono ?_); rintro e w1 ⟨⟨z, rfl⟩, hb⟩; have HB := Lib.hid hb; clear hb)
    go_ret2
    exact next_no rfl HB.out
  · rw [hr] at hS
    have HS := Lib.hid hS
    clear hr hS
    go_enter Tryz.func92, Tryz.ntmps92
    go_wp2_with (go_at_call 121; (with_reducible refine HS.out.mono ?_); rintro e w1 ⟨rfl, hb⟩; have HB := Lib.hid hb; clear hb)
    go_ret2
    exact next_yes rfl rfl HB.out

/-- the reference's next -/
theorem refNext_ok (s : ByteArray) (hs : s.size ≤ 65536) : ∀ (m k n : Nat) (w : World), s.size - k < m → (sfx s k).length < n → Calls Tryz.prog 92 #[.string s, .int .i64 (k : Int)] w (NextP s (tyF n (sfx s k)) w)
  | 0, _, _, _, h, _ => absurd h (Nat.not_lt_zero _)
  | m + 1, k, n, w, hm, hn => by
    by_cases hk : k < s.size
    · have hl : (sfx s k).length = s.size - k := sfx_length s k
      have hl1 : ∀ j, (sfx s j).length = s.size - j := fun j => sfx_length s j
      obtain ⟨n, rfl⟩ : ∃ n', n = n' + 1 := ⟨n - 1, by omega⟩
      have ih : ∀ j w', k < j → j ≤ s.size → Calls Tryz.prog 92 #[.string s, .int .i64 (j : Int)] w' (NextP s (tyF n (sfx s j)) w') := fun j w' h1 h2 => refNext_ok s hs m j n w' (by omega) (by rw [hl1]; omega)
      by_cases h0 : isBase s[k] = true
      · exact next_base n k s w hk hs h0
      · by_cases h1 : s[k] = 112
        · exact next_ptr n k s w hk hs h1 (ih (k + 1) w (by omega) (by omega))
        · by_cases h2 : s[k] = 97
          · exact next_arr n k s w hk hs h2 ih
          · by_cases h3 : s[k] = 83
            · exact next_str n k s w hk hs h3
            · by_cases h4 : s[k] = 102
              · refine next_fn n k s w hk hs h4 (by rw [hl1]; omega) fun j w' hj1 hj2 => ?_
                have := (ih j w' hj1 hj2).mono fun e w' h' => nextQ_of h'
                rw [nE_fuel (by rw [hl1]; omega)] at this
                exact this
              · exact next_other n k s w hk hs (by simpa using h0) h1 h2 h3 h4
    · exact next_end n k s w (by omega)
theorem nextE_ok (s : ByteArray) (k : Nat) (w : World) (hs : s.size ≤ 65536) (_hk : k ≤ s.size) : Calls Tryz.prog 92 #[.string s, .int .i64 (k : Int)] w (NextQ s (nE (sfx s k)) w) := by
  have h := refNext_ok s hs (s.size - k + 1) k ((sfx s k).length + 1) w (by omega) (by omega)
  exact h.mono fun e w' h' => nextQ_of h'
end Go.Proofs.YtlcfejgjeljjdaaGreatDoor
namespace Go.Proofs.YtlcfejgjeljjdaaGreatDoor
open Go.RowKit

theorem tyS_isSome (s : ByteArray) : (tyS s).isSome = (decide (s.size ≤ 65536) && decide (nE s.data.toList = some [])) := by
  unfold tyS
  by_cases hs : s.size ≤ 65536
  · rw [if_pos hs, decide_eq_true hs, Bool.true_and]
    unfold tyE
    rw [← nE_fuel (n := 2 * s.data.toList.length + 1) (by omega)]
    rcases tyF (2 * s.data.toList.length + 1) s.data.toList with _ | ⟨t, q⟩
    · rfl
    · simp only [Option.bind_some, Option.map_some, Option.some.injEq]
      by_cases hq : q = []
      · rw [if_pos hq, decide_eq_true hq]; rfl
      · rw [if_neg hq, decide_eq_false hq]; rfl
  · rw [if_neg hs, decide_eq_false hs]; rfl
set_option maxHeartbeats 2000000 in
theorem refForm_ok (s : ByteArray) (w : World) : Calls Tryz.prog 67 #[.string s] w fun e w' => e = .returned (.bool (tyS s).isSome) ∧ Below w.heap.size w w' := by
  have hT := Lib.hid (tyS_isSome s)
  by_cases hs : s.size ≤ 65536
  · have hs' : (s.size : Int) ≤ 65536 := by omega
    have hN := nextE_ok s 0 w hs (Nat.zero_le _)
    rw [sfx_zero, Int.ofNat_zero] at hN
    rcases hq : nE s.data.toList with _ | q
    · rw [hq] at hN
      have HN := Lib.hid hN
      have hfin := Lib.hid (show (tyS s).isSome = false by rw [hT.out, hq]; simp)
      clear hq hN
      go_enter Tryz.func67, Tryz.ntmps67
      go_wp2_with (go_at_call 92; (with_reducible refine HN.out.mono ?_); rintro e w1 ⟨⟨z, rfl⟩, hb⟩; have HB := Lib.hid hb; clear hb)
      go_ret
      exact ⟨by rw [hfin.out]; rfl, HB.out⟩
    · rw [hq] at hN
      have hN : Calls Tryz.prog 92 #[.string s, .int .i64 0] w (fun x w' => x = .returned (.tuple #[.int .i64 ((s.size - q.length : Nat) : Int), .bool true]) ∧ Below w.heap.size w w') := hN
      have HN := Lib.hid hN
      obtain ⟨_, _, _, hlt⟩ := nE_some hq
      have hl : s.data.toList.length = s.size := by rw [Array.length_toList]; rfl
      rw [hl] at hlt
      by_cases hq0 : q = []
      · have hfin := Lib.hid (show (tyS s).isSome = true by rw [hT.out, hq, hq0]; simp [hs])
        have HZ := Lib.hid (show s.size - q.length = s.size by rw [hq0]; rfl)
        rw [HZ.out] at HN
        clear hq hN hl hlt hq0
        go_enter Tryz.func67, Tryz.ntmps67
        go_wp2_with (go_at_call 92; (with_reducible refine HN.out.mono ?_); rintro e w1 ⟨rfl, hb⟩; have HB := Lib.hid hb; clear hb)
        go_ret
        exact ⟨by rw [hfin.out]; simp, HB.out⟩
      · have hfin := Lib.hid (show (tyS s).isSome = false by rw [hT.out, hq]; simp [hq0])
        have hqp := List.length_pos_iff.2 hq0
        obtain ⟨z, hz⟩ : ∃ z, z = s.size - q.length := ⟨_, rfl⟩
        rw [← hz] at HN
        have t1 : ((z : Int) == (s.size : Int)) = false := by rw [beq_eq_false_iff_ne]; omega
        clear hq hN hl hlt hq0 hqp hz
        go_enter Tryz.func67, Tryz.ntmps67
        go_wp2_with (go_at_call 92; (with_reducible refine HN.out.mono ?_); rintro e w1 ⟨rfl, hb⟩; have HB := Lib.hid hb; clear hb)
        go_ret
        exact ⟨by rw [hfin.out]; rfl, HB.out⟩
  · have hs' : (65536 : Int) < s.size := by omega
    have hfin := Lib.hid (show (tyS s).isSome = false by rw [hT.out, decide_eq_false hs]; rfl)
    clear hs
    go_enter Tryz.func67, Tryz.ntmps67
    go_wp2_with fail
    go_ret
    exact ⟨by rw [hfin.out]; rfl, Below.refl _ _⟩
theorem refForm_is (r : Bool) (s : ByteArray) (w : World) (hr : (tyS s).isSome = r) : Calls Tryz.prog 67 #[.string s] w fun e w' => e = .returned (.bool r) ∧ Below w.heap.size w w' := by subst hr; exact refForm_ok s w

end Go.Proofs.YtlcfejgjeljjdaaGreatDoor
