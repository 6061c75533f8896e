/- What a function uses of its file is there, each once, as many as there are meanings: the law's walk. -/
import Derived.Test.YtbbaooeioogijaaDoorNamesCt
import Derived.Test.YtbbaooeioogijaaDoorMg30
import Derived.Test.YtbbaooeioogijaaDoorResU
namespace Go.Proofs.YtbbaooeioogijaaDoor
open Go.RowKit Go.Maps

theorem str_cells {w : World} {B : Nat} {v : Value} {L : List ByteArray} {n : Nat} (h : w.ownsRow B 9 1 v n (L.map .string)) (hn : n = L.length) (h0 : 0 < n) : ∃ g cap, v = .slice (some ⟨g, 0, none⟩) n cap ∧ g < w.heap.size ∧ n ≤ cap ∧ cap ≤ maxLen ∧ ∀ j, j < L.length → w.cell? ⟨g, j, none⟩ = some (.string (L.getD j ByteArray.empty)) := by
  subst hn
  have hL : L.map Value.string = L.flatMap fun s => [Value.string s] := List.map_eq_flatMap
  rw [hL] at h
  obtain ⟨g, cap, e, _, h1, h2, h3, _, _⟩ := own_rowAt (k := 1) (cells := fun s => [Value.string s]) (fun _ => rfl) h rfl (i := 0) h0
  refine ⟨g, cap, e, h1, h2, h3, fun j hj => ?_⟩
  subst e
  have := own_cell (k := 1) (cells := fun s => [Value.string s]) (fun _ => rfl) h (List.getElem?_eq_getElem hj) (j := 0) rfl
  rw [Nat.mul_one, Nat.add_zero] at this
  rw [this, List.getD_eq_getElem?_getD, List.getElem?_eq_getElem hj]
  rfl
theorem take_mem_next {S : List Bnd} {k : Nat} (hk : k < S.length) (y : Bnd) : decide (y ∈ S.take (k + 1)) = (decide (y ∈ S.take k) || decide (S[k] = y)) := by
  rw [List.take_succ_eq_append_getElem hk, Bool.eq_iff_iff]
  simp only [List.mem_append, List.mem_singleton, decide_eq_true_eq, Bool.or_eq_true]
  exact ⟨fun h => h.imp id Eq.symm, fun h => h.imp id Eq.symm⟩
set_option maxRecDepth 100000 in
set_option maxHeartbeats 16000000 in
theorem namesKnown_ok (u : UnU) (vs vg vf : Value) (n : ByteArray) (w : World) (hE : TE w) (hU : IsUn w.heap.size w u vs vg vf) (hn : n.size ≤ maxLen) :
    Calls Tryd.prog 5 #[.agg #[vs, vg, vf], .string n] w fun e w' => e = .returned (.bool true) ∧ Below w.heap.size w w' := by
  obtain ⟨sa, sc, mv, rfl, _⟩ := hU.structs
  obtain ⟨ag, cg, rfl, _⟩ := glsU_len hU.globals
  obtain ⟨af, cf, rfl, _⟩ := fnsU_len hU.funcs
  have hb1 := ba1 w (.cells #[.slice sa u.structs.length sc, .slice ag u.globals.length cg, .slice af u.funcs.length cf] 26)
  have hxq := heap_alloc_new w (.cells #[.slice sa u.structs.length sc, .slice ag u.globals.length cg, .slice af u.funcs.length cf] 26)
  go_enter Tryd.func5, Tryd.ntmps5
  go_upto_region 1 with fail
  generalize w.alloc (.cells #[.slice sa u.structs.length sc, .slice ag u.globals.length cg, .slice af u.funcs.length cf] 26) = w1 at *
  have HQ := Lib.hid (fun w' (h : Below w1.heap.size w1 w') => (three_block ((h.block _ (lt_of_heap hxq)).trans hxq)).1)
  have HB1 := Lib.hid hb1
  have HWk := Lib.hid (works11_ok w1 (hE.below hb1))
  have HEw := Lib.hid (fun w' (h : Below w1.heap.size w1 w') => hE.below (hb1.trans (h.mono hb1.size)))
  have HUw := Lib.hid (fun w' (h : Below w1.heap.size w1 w') => hU.go (hb1.trans (h.mono hb1.size)))
  clear hxq hb1 hE hU
  rcases hr : resolveN u n with p | q
  · have hp := resolveN_l hr
    have t1 : (p.2 != 0) = true := by simpa using hp
    have HUs := Lib.hid (fun w' (h : Below w1.heap.size w1 w') => show Calls Tryd.prog 13 #[.agg #[.slice sa u.structs.length sc, .slice ag u.globals.length cg, .slice af u.funcs.length cf], .string n] w' (fun e w'' => Below w'.heap.size w' w'' ∧ e = .returned (.tuple #[.slice none 0 0, .agg #[.int .i64 p.1, .int .i64 p.2]])) from (uses11_ok u _ _ _ n w' (HEw.out w' h) (HUw.out w' h) hn).mono fun e w'' ⟨h1, h2⟩ => ⟨h1, by rw [hr] at h2; exact h2⟩)
    clear hr hp
    go_upto_region 4 with (first
      | (go_at_call 6; (with_reducible refine HWk.out.mono ?_); rintro e w2 ⟨rfl, hb2⟩; have HB2 := Lib.hid hb2; obtain ⟨q0, q1, q2⟩ := HQ.out w2 hb2; clear hb2)
      | (go_at_call 13; (with_reducible refine (HUs.out _ HB2.out).mono ?_); rintro e w3 ⟨hb3, rfl⟩; have HB3 := Lib.hid (HB2.out.trans ((hb3.alloc hb3.size (.cells #[.int .i64 p.1, .int .i64 p.2] 32)).mono HB2.out.size)); obtain ⟨⟨y0, y1⟩, _⟩ := two_block (heap_alloc_new w3 (.cells #[.int .i64 p.1, .int .i64 p.2] 32)); clear hb3))
    go_wp2_with fail
    go_ret
    exact ⟨rfl, HB1.out.trans (HB3.out.mono HB1.out.size)⟩
  · obtain ⟨fs, f, hfile, hbody, h0, rfl⟩ := resolveN_r hr
    obtain ⟨hl4, hin, hnd, hct⟩ := known_all hfile hbody h0
    have hfl := file_lenK hfile
    have hol := gone_lenK fs f
    have HUs := Lib.hid (fun w' (h : Below w1.heap.size w1 w') => show Calls Tryd.prog 13 #[.agg #[.slice sa u.structs.length sc, .slice ag u.globals.length cg, .slice af u.funcs.length cf], .string n] w' (fun e w'' => Below w'.heap.size w' w'' ∧ ∃ v, e = .returned (.tuple #[v, .agg #[.int .i64 (goneR fs f).fault.1, .int .i64 0]]) ∧ w''.ownsRow w'.heap.size 9 1 v (usesN f.body ((beginsN f.body).getD []) (goneR fs f).out).length ((usesN f.body ((beginsN f.body).getD []) (goneR fs f).out).map .string)) from (uses11_ok u _ _ _ n w' (HEw.out w' h) (HUw.out w' h) hn).mono fun e w'' ⟨h1, h2⟩ => ⟨h1, by rw [hr] at h2; simp only [h0] at h2; exact h2⟩)
    have HRs := Lib.hid (fun w' (h : Below w1.heap.size w1 w') => show Calls Tryd.prog 7 #[.agg #[.slice sa u.structs.length sc, .slice ag u.globals.length cg, .slice af u.funcs.length cf], .string n] w' (fun e w'' => Below w'.heap.size w' w'' ∧ ∃ sv ov, e = .returned (.tuple #[sv, ov, .agg #[.int .i64 (goneR fs f).fault.1, .int .i64 0]]) ∧ w''.ownsRow w'.heap.size 53 4 sv (goneR fs f).slots.length ((goneR fs f).slots.flatMap slUCells) ∧ w''.ownsRow w'.heap.size 50 3 ov (goneR fs f).out.length ((goneR fs f).out.flatMap bndCells)) from (resolve11_ok u _ _ _ n w' (HEw.out w' h) (HUw.out w' h) hn).mono fun e w'' ⟨h1, h2⟩ => ⟨h1, by rw [hr] at h2; simp only [h0] at h2; exact h2⟩)
    have HFl := Lib.hid (fun w' (h : Below w1.heap.size w1 w') => show Calls Tryd.prog 12 #[.agg #[.slice sa u.structs.length sc, .slice ag u.globals.length cg, .slice af u.funcs.length cf]] w' (fun e w'' => Below w'.heap.size w' w'' ∧ ∃ sv av, e = .returned (.tuple #[sv, av, .agg #[.int .i64 0, .int .i64 0]]) ∧ w''.ownsRow w'.heap.size 50 3 sv fs.ents.length (fs.ents.flatMap fun e => bndCells e.2) ∧ w''.ownsRow w'.heap.size 9 1 av fs.ents.length (fs.ents.map fun e => .string e.1)) from (file11_ok u _ _ _ w' (HEw.out w' h) (HUw.out w' h)).mono fun e w'' ⟨h1, h2⟩ => ⟨h1, by rw [hfile] at h2; exact h2⟩)
    rw [← hol] at hl4
    clear hr hbody hfile h0 hol
    generalize usesN f.body ((beginsN f.body).getD []) (goneR fs f).out = U at *
    generalize goneR fs f = R0 at *
    obtain ⟨E, hE⟩ : ∃ E, E = fs.ents.map Prod.fst := ⟨_, rfl⟩
    have hEl : fs.ents.length = E.length := by rw [hE, List.length_map]
    have hEm : (fs.ents.map fun e => Value.string e.1) = E.map .string := by rw [hE, List.map_map]; rfl
    rw [← hE] at hin
    have HIn := Lib.hid hin
    have HNd := Lib.hid hnd
    have HEm := Lib.hid (And.intro hEl hEm)
    have HSn := Lib.hid (show (seenK R0.out R0.out.length).length = U.length by rw [seenK_all, hct])
    have hUl : U.length ≤ 4096 := by rw [hct]; have := seenK_le R0.out R0.out.length; rw [seenK_all] at this; omega
    clear hin hnd hct hE hEl hEm
    go_upto_region 4 with (first
      | (go_at_call 6; (with_reducible refine HWk.out.mono ?_); rintro e w2 ⟨rfl, hb2⟩; have HB2 := Lib.hid hb2; obtain ⟨q0, q1, q2⟩ := HQ.out w2 hb2; clear hb2)
      | (go_at_call 13; (with_reducible refine (HUs.out _ HB2.out).mono ?_); rintro e w3 ⟨hb3, uv, rfl, huv⟩; obtain ⟨uva, uvc, rfl⟩ := own_slice huv; have HUv := Lib.hid huv; have HB3 := Lib.hid (HB2.out.trans (hb3.mono HB2.out.size)); clear hb3 huv))
    have hb4 := ba1 w3 (.cells #[.int .i64 R0.fault.1, .int .i64 0] 32)
    obtain ⟨⟨y0, y1⟩, _⟩ := two_block (heap_alloc_new w3 (.cells #[.int .i64 R0.fault.1, .int .i64 0] 32))
    generalize w3.alloc (.cells #[.int .i64 R0.fault.1, .int .i64 0] 32) = w4 at *
    have HUv4 := Lib.hid (HUv.out.belowed hb4)
    have HB4 := Lib.hid (HB3.out.trans (hb4.mono HB3.out.size))
    obtain ⟨q0, q1, q2⟩ := HQ.out _ HB4.out
    clear hb4 HUv
    go_upto_region 7 with (go_at_call 12; (with_reducible refine (HFl.out _ HB4.out).mono ?_); rintro e w5 ⟨hb5, gv, av, rfl, hgv, hav⟩; obtain ⟨gva, gvc, rfl⟩ := own_slice hgv; obtain ⟨ava, avc, rfl⟩ := own_slice hav; rw [HEm.out.1, HEm.out.2] at hav; have HAv := Lib.hid hav; have HB5 := Lib.hid hb5; clear hb5 hgv hav)
    have hb6 := ba1 w5 (.cells #[.int .i64 0, .int .i64 0] 32)
    have hx6 := heap_alloc_new w5 (.cells #[.int .i64 0, .int .i64 0] 32)
    generalize w5.alloc (.cells #[.int .i64 0, .int .i64 0] 32) = w6 at *
    have HAv6 := Lib.hid (HAv.out.belowed hb6)
    have HB6 := Lib.hid (HB5.out.trans (hb6.mono HB5.out.size))
    have HX6 := Lib.hid hx6
    obtain ⟨q0, q1, q2⟩ := HQ.out _ (HB4.out.trans (HB6.out.mono HB4.out.size))
    clear hb6 HAv HB5 y0 y1 hx6
    go_upto_region 8 with (go_at_call 7; (with_reducible refine (HRs.out _ (HB4.out.trans (HB6.out.mono HB4.out.size))).mono ?_); rintro e w7 ⟨hb7, sv, ov, rfl, hsv, hov⟩; obtain ⟨sva, svc, rfl⟩ := own_slice hsv; obtain ⟨ova, ovc, rfl⟩ := own_slice hov; have HB7 := Lib.hid hb7; have HOv := Lib.hid hov; clear hb7 hsv hov)
    have hb8 := ba1 w7 (.cells #[.int .i64 R0.fault.1, .int .i64 0] 32)
    obtain ⟨⟨y0, y1⟩, _⟩ := two_block (heap_alloc_new w7 (.cells #[.int .i64 R0.fault.1, .int .i64 0] 32))
    generalize w7.alloc (.cells #[.int .i64 R0.fault.1, .int .i64 0] 32) = w8 at *
    have HB8 := Lib.hid (HB7.out.trans (hb8.mono HB7.out.size))
    have HOv8 := Lib.hid (HOv.out.belowed hb8)
    obtain ⟨⟨z0, z1⟩, _⟩ := two_block ((HB8.out.block _ (lt_of_heap HX6.out)).trans HX6.out)
    have HAv8 := Lib.hid (HAv6.out.belowed HB8.out)
    have HUv8 := Lib.hid (HUv4.out.belowed (HB6.out.trans (HB8.out.mono HB6.out.size)))
    clear hb8 HOv HAv6 HUv4 q0 q1 q2 HB7
    have hel : E.length ≤ 512 := by rw [← HEm.out.1]; exact hfl
    have HI1 := Lib.hid (fun (s : ByteArray) (hs : s ∈ E) => show ∃ ge, ava = some ⟨ge, 0, none⟩ ∧ ∀ w', Below w8.heap.size w8 w' → Calls Tryd.prog 14 #[.slice (some ⟨ge, 0, none⟩) fs.ents.length avc, .string s] w' (fun e w'' => e = .returned (.bool true) ∧ w'' = w') from by
      rw [HEm.out.1]
      obtain ⟨ge, cap, e, hge, _, _, hc⟩ := str_cells HAv8.out rfl (List.length_pos_of_mem hs)
      obtain ⟨rfl, rfl⟩ : ava = some ⟨ge, 0, none⟩ ∧ avc = cap := by simpa using e
      refine ⟨ge, rfl, fun w' h => ?_⟩
      have := baseIn_ok ge avc E s w' (by omega) (fun j hj => by rw [h.cell hge]; exact hc j hj)
      rw [show Lib.containsS E s = true from (Lib.containsS_iff _ _).2 hs] at this
      exact this.mono fun _ _ ⟨h1, h2⟩ => ⟨h1, h2.symm⟩)
    have HI2 := Lib.hid (fun (i : Nat) (hi : i < U.length) => show ∃ gu, uva = some ⟨gu, 0, none⟩ ∧ U.length ≤ uvc ∧ uvc ≤ maxLen ∧ ∀ w', Below w8.heap.size w8 w' → w'.cell? ⟨gu, i, none⟩ = some (.string U[i]) ∧ Calls Tryd.prog 14 #[.slice (some ⟨gu, 0, none⟩) i uvc, .string U[i]] w' (fun e w'' => e = .returned (.bool false) ∧ w'' = w') from by
      obtain ⟨gu, cap, e, hge, hle, hcm, hc⟩ := str_cells HUv8.out rfl (Nat.lt_of_le_of_lt (Nat.zero_le _) hi)
      obtain ⟨rfl, rfl⟩ : uva = some ⟨gu, 0, none⟩ ∧ uvc = cap := by simpa using e
      refine ⟨gu, rfl, hle, hcm, fun w' h => ⟨?_, ?_⟩⟩
      · rw [h.cell hge, hc i hi, List.getD_eq_getElem?_getD, List.getElem?_eq_getElem hi]
        rfl
      · have hlt : (U.take i).length = i := List.length_take_of_le (by omega)
        have := baseIn_ok gu uvc (U.take i) U[i] w' (by omega) (fun j hj => by
          rw [hlt] at hj
          rw [h.cell hge, hc j (by omega), List.getD_eq_getElem?_getD, List.getD_eq_getElem?_getD, List.getElem?_take_of_lt hj])
        rw [hlt, show Lib.containsS (U.take i) U[i] = false by
          rw [Bool.eq_false_iff]
          intro hc
          rw [Lib.containsS_iff] at hc
          obtain ⟨j, hj, e⟩ := List.getElem_of_mem hc
          rw [hlt] at hj
          rw [List.getElem_take] at e
          exact absurd e (List.pairwise_iff_getElem.1 HNd.out j i _ hi hj)] at this
        exact this.mono fun _ _ ⟨h1, h2⟩ => ⟨h1, h2.symm⟩)
    have HInU := Lib.hid (fun (i : Nat) (hi : i < U.length) => HIn.out U[i] (List.getElem_mem hi))
    have hui : (U.length : Int) ≤ 4096 := by omega
    go_upto_region 11 with fail
    go_loopg [13] U.length (fun m v13 wy => ∃ i : Nat, i ≤ U.length ∧ i + m = U.length ∧ v13 = .int .i64 (i : Int) ∧ Hid (Below w8.heap.size w8 wy))
    case atStart => exact ⟨0, by omega, by omega, rfl, Lib.hid (Below.refl _ _)⟩
    case round =>
      obtain ⟨i, hi, him, rfl, HB⟩ := hrel
      by_cases hlt : i < U.length
      · obtain ⟨gu, rfl, huc, hum, hI2⟩ := HI2.out i hlt
        obtain ⟨ge, rfl, hI1⟩ := HI1.out U[i] (HInU.out i hlt)
        have HJ1 := Lib.hid hI1
        have HJ2 := Lib.hid (fun w' (h : Below w8.heap.size w8 w') => (hI2 w' h).2)
        have m0 := (hI2 wr HB.out).1
        generalize U[i] = s at *
        clear hI1 hI2
        have hi0 : (0 : Int) ≤ (i : Int) := by omega
        have hi1 : (i : Int) < (U.length : Int) := by omega
        have hi2 : (i : Int) ≤ (uvc : Int) := by omega
        go_wp2_with fail
        go_quiet ((go_at_call 14; first | (with_reducible exact Calls.quiet_of_same (HJ1.out _ (blw_drewN HB.out _))) | (with_reducible exact Calls.quiet_of_same (HJ2.out _ (blw_drewN HB.out _)))))
        go_wp2_with fail
        go_roundg (U.length - (i + 1))
        case measure => omega
        case rel => exact ⟨i + 1, by omega, by omega, by rw [Int.natCast_add]; rfl, Lib.hid (blw_drewN HB.out _)⟩
      · obtain rfl : i = U.length := by omega
        have hown0 : (wr.alloc (.cells #[] 50)).ownsRow w8.heap.size 50 3 (.slice (some ⟨wr.heap.size, 0, none⟩) 0 0) 0 (([] : List Bnd).flatMap bndCells) := World.ownsRow_lit wr #[] 0 HB.out.size (by decide) rfl
        have HO0 := Lib.hid hown0
        have HB0 := Lib.hid (HB.out.alloc HB.out.size (.cells #[] 50))
        obtain ⟨i0, hi1, hz0, hz1', hz2'⟩ := info_parts infoBnd
        have HInf := Lib.hid (And.intro hi1 (And.intro hz0 (And.intro hz1' hz2')))
        have hol : (R0.out.length : Int) ≤ 4096 := by omega
        clear hown0 hi1 hz0 hz1' hz2' hlt
        go_upto_region 18 with fail
        go_loopg [14, 15, 16] R0.out.length (fun m v14 v15 v16 wy => ∃ (i : Nat) (a : Option Addr) (c : Nat), i ≤ R0.out.length ∧ i + m = R0.out.length ∧ v14 = .int .i64 ((seenK R0.out i).length : Int) ∧ v15 = .slice a (seenK R0.out i).length c ∧ v16 = .int .i64 (i : Int) ∧ Hid (wy.ownsRow w8.heap.size 50 3 (.slice a (seenK R0.out i).length c) (seenK R0.out i).length ((seenK R0.out i).flatMap bndCells)) ∧ Hid (Below w8.heap.size w8 wy))
        case atStart => exact ⟨0, _, _, by omega, by omega, rfl, rfl, rfl, HO0, HB0⟩
        case round =>
          obtain ⟨i, a, c, hi, him, rfl, rfl, rfl, HO, HB2⟩ := hrel
          obtain ⟨wq, hwq⟩ : ∃ y, y = wr := ⟨_, rfl⟩
          subst hwq
          by_cases hlt : i < R0.out.length
          · obtain ⟨go, oc, hos, _, hgol, _, _, hoc, _⟩ := own_rowAt bnd_len HOv8.out rfl hlt
            obtain ⟨rfl, rfl⟩ : ova = some ⟨go, 0, none⟩ ∧ ovc = oc := by simpa using hos
            have hB2 := HB2.out
            have hB2s := HB2.out.size
            have hc := hoc
            have HOc := Lib.hid (fun w' (h : Below wq.heap.size wq w') => show w'.cell? ⟨go, i * 3, none⟩ = some (.int .i64 R0.out[i].kind) ∧ w'.cell? ⟨go, i * 3 + 1, none⟩ = some (.int .i64 R0.out[i].idx) ∧ w'.cell? ⟨go, i * 3 + 2, none⟩ = some (.string R0.out[i].type) from by
              have hb := hB2.trans (h.mono hB2s)
              rw [hb.cell hgol, hb.cell hgol, hb.cell hgol]
              exact ⟨by simpa using hc 0 _ rfl, hc 1 _ rfl, hc 2 _ rfl⟩)
            have HNx := Lib.hid (seenK_next hlt)
            have hsl := seenK_le R0.out i
            generalize seenK R0.out i = S at *
            generalize R0.out[i] = y at *
            obtain ⟨b0, b1, b2⟩ := HOc.out wq (Below.refl _ _)
            clear hB2 hB2s hc hoc hos
            by_cases hf : ofFile y = true
            · have HNx2 := Lib.hid (show seenK R0.out (i + 1) = addL S y by rw [HNx.out, if_pos hf])
              obtain ⟨yk, yi, yt⟩ := y
              have hk : yk = 1 ∨ yk = 2 := by
                unfold ofFile at hf
                simpa using hf
              simp only at b0 b1 b2 HOc
              obtain ⟨y0, hy0⟩ : ∃ y0 : Bnd, y0 = ⟨yk, yi, yt⟩ := ⟨_, rfl⟩
              rw [← hy0] at HNx2
              have HY0 := Lib.hid hy0
              clear hf HNx hy0
              have hsi : (S.length : Int) ≤ 4096 := by omega
              have ht : (yk != 1) = false ∨ ((yk != 1) = true ∧ (yk != 2) = false) := by
                rcases hk with rfl | rfl
                · exact .inl rfl
                · exact .inr ⟨rfl, rfl⟩
              clear hk
              rcases ht with t1 | ⟨t1, t2⟩
              all_goals
                go_upto_region 23 with fail
                clear b0 b1 b2
                go_loopg [17, 18] S.length (fun m v17 v18 wy => ∃ (k : Nat) (th : Bool), k ≤ S.length ∧ k + m = S.length ∧ v17 = .bool th ∧ v18 = .int .i64 (k : Int) ∧ Hid (th = decide (y0 ∈ S.take k)) ∧ Hid (Below wq.heap.size wq wy))
                case atStart => exact ⟨0, false, by omega, by omega, rfl, rfl, Lib.hid (by simp), Lib.hid (Below.refl _ _)⟩
                case round =>
                  obtain ⟨k, th, hk, hkm, rfl, rfl, HT, HB3⟩ := hrel
                  by_cases hlk : k < S.length
                  · have HTn := Lib.hid (take_mem_next hlk)
                    cases th with
                    | true =>
                      go_wp2_with fail
                      go_quiet (fail)
                      go_wp2_with fail
                      go_roundg (S.length - (k + 1))
                      case measure => omega
                      case rel => exact ⟨k + 1, true, by omega, by omega, rfl, by rw [Int.natCast_add]; rfl, Lib.hid (by rw [HTn.out, ← HT.out]; rfl), Lib.hid (blw_drewN HB3.out _)⟩
                    | false =>
                      obtain ⟨gs, sc', hss, _, hgsl, _, _, hsc, _⟩ := own_rowAt bnd_len HO.out rfl hlk
                      obtain ⟨rfl, rfl⟩ : a = some ⟨gs, 0, none⟩ ∧ c = sc' := by simpa using hss
                      have s0 := hsc 0 _ rfl
                      have s1 := hsc 1 _ rfl
                      have s2 := hsc 2 _ rfl
                      rw [Nat.add_zero] at s0
                      rw [← HB3.out.cell hgsl] at s0 s1 s2
                      obtain ⟨b0, b1, b2⟩ := HOc.out wr HB3.out
                      have hy0 := HY0.out
                      generalize S[k] = z at *
                      obtain ⟨zk, zi, zt⟩ := z
                      simp only at s0 s1 s2
                      have hk0 : (0 : Int) ≤ (k : Int) := by omega
                      have hk1 : (k : Int) < (S.length : Int) := by omega
                      have hj0 : (0 : Int) ≤ (i : Int) := by omega
                      have hj1 : (i : Int) < (R0.out.length : Int) := by omega
                      clear hsc hss hy0
                      by_cases heq : (⟨zk, zi, zt⟩ : Bnd) = y0
                      · have HEQ := Lib.hid (decide_eq_true heq)
                        rw [HY0.out] at heq
                        obtain ⟨rfl, rfl, rfl⟩ := Bnd.mk.inj heq
                        clear heq
                        have t3 : ∀ z : Int, (z == z) = true := by simp
                        have t4 : ∀ z : List UInt8, (z == z) = true := by simp
                        go_wp2_with fail
                        go_quiet (fail)
                        go_wp2_with fail
                        go_roundg (S.length - (k + 1))
                        case measure => omega
                        case rel => exact ⟨k + 1, true, by omega, by omega, rfl, by rw [Int.natCast_add]; rfl, Lib.hid (by rw [HTn.out, ← HT.out, HEQ.out]; rfl), Lib.hid (blw_drewN HB3.out _)⟩
                      · have HEQ := Lib.hid (decide_eq_false heq)
                        have hy0 := HY0.out
                        have hne : zk ≠ y0.kind ∨ (zk = y0.kind ∧ (zi ≠ yi ∨ (zi = yi ∧ zt ≠ yt))) := by
                          by_cases a1 : zk = y0.kind
                          · by_cases a2 : zi = yi
                            · exact .inr ⟨a1, .inr ⟨a2, fun a3 => heq (by rw [a1, a2, a3, hy0])⟩⟩
                            · exact .inr ⟨a1, .inl a2⟩
                          · exact .inl a1
                        rw [hy0] at hne
                        simp only at hne
                        clear heq hy0
                        have t3 : ∀ z : Int, (z == z) = true := by simp
                        rcases hne with hne | ⟨rfl, hne | ⟨rfl, hne⟩⟩
                        · have t5 := beq_eq_false_iff_ne.2 hne
                          clear hne t3
                          go_wp2_with fail
                          go_quiet (fail)
                          go_wp2_with fail
                          go_roundg (S.length - (k + 1))
                          case measure => omega
                          case rel => exact ⟨k + 1, false, by omega, by omega, rfl, by rw [Int.natCast_add]; rfl, Lib.hid (by rw [HTn.out, ← HT.out, HEQ.out]; rfl), Lib.hid (blw_drewN HB3.out _)⟩
                        · have t5 := beq_eq_false_iff_ne.2 hne
                          clear hne
                          go_wp2_with fail
                          go_quiet (fail)
                          go_wp2_with fail
                          go_roundg (S.length - (k + 1))
                          case measure => omega
                          case rel => exact ⟨k + 1, false, by omega, by omega, rfl, by rw [Int.natCast_add]; rfl, Lib.hid (by rw [HTn.out, ← HT.out, HEQ.out]; rfl), Lib.hid (blw_drewN HB3.out _)⟩
                        · have t5 : (zt.toList == yt.toList) = false := by rw [str_eqb, decide_eq_false hne]
                          clear hne
                          go_wp2_with fail
                          go_quiet (fail)
                          go_wp2_with fail
                          go_roundg (S.length - (k + 1))
                          case measure => omega
                          case rel => exact ⟨k + 1, false, by omega, by omega, rfl, by rw [Int.natCast_add]; rfl, Lib.hid (by rw [HTn.out, ← HT.out, HEQ.out]; rfl), Lib.hid (blw_drewN HB3.out _)⟩
                  · obtain rfl : k = S.length := by omega
                    have hT := HT.out
                    rw [List.take_length] at hT
                    obtain ⟨b0, b1, b2⟩ := HOc.out wr HB3.out
                    have HOr := Lib.hid (HO.out.belowed HB3.out)
                    have HBr := Lib.hid (HB2.out.trans (HB3.out.mono HB2.out.size))
                    have hj0 : (0 : Int) ≤ (i : Int) := by omega
                    have hj1 : (i : Int) < (R0.out.length : Int) := by omega
                    cases th with
                    | true =>
                      have HN3 := Lib.hid (show seenK R0.out (i + 1) = S by rw [HNx2.out]; unfold addL; rw [if_pos (of_decide_eq_true hT.symm)])
                      clear hT b0 b1 b2
                      go_wp2_with fail
                      go_roundg (R0.out.length - (i + 1))
                      case measure => omega
                      case rel => exact ⟨i + 1, a, c, by omega, by omega, by rw [HN3.out], by rw [HN3.out], by rw [Int.natCast_add]; rfl, Lib.hid (by rw [HN3.out]; exact HOr.out), HBr⟩
                    | false =>
                      have HN3 := Lib.hid (show seenK R0.out (i + 1) = S ++ [⟨yk, yi, yt⟩] by rw [HNx2.out, HY0.out]; unfold addL; rw [if_neg (by rw [← HY0.out]; exact of_decide_eq_false hT.symm)])
                      clear hT
                      have hn1 : S.length + 1 ≤ maxLen := by unfold maxLen; omega
                      have hn2 : (S.length + 1) * 32 ≤ 140737488355328 := by omega
                      have HNum := Lib.hid (And.intro hn1 hn2)
                      clear hn1 hn2
                      go_wp2_with (at_builtin; go_loud (refine wpList_append_lies _ rfl _ _ _ rfl w8.heap.size 50 i0 _ 3 32 Tryd.underlying29 HInf.out.1 HInf.out.2.1 HInf.out.2.2.1 HInf.out.2.2.2 rfl (by decide) (.slice a S.length c) S.length (S.flatMap bndCells) rfl (HOr.out.belowed (ba1 _ _)) ⟨_, 0, none⟩ 1 1 [.int .i64 yk, .int .i64 yi, .string yt] rfl rfl (World.news_of_block (cs := #[.int .i64 yk, .int .i64 yi, .string yt]) (heap_alloc_new _ _)) (by simp [Value.oneCell']) (by decide) HNum.out.1 HNum.out.2 (Nat.le_trans HBr.out.size (ba1 _ _).size) _ rfl ?_))
                      intro gg cap' w11 hown hgrow hat _
                      have HE1 := Lib.hid (show w11.ownsRow w8.heap.size 50 3 (.slice (some ⟨gg, 0, none⟩) (S.length + 1) cap') (S ++ [(⟨yk, yi, yt⟩ : Bnd)]).length ((S ++ [(⟨yk, yi, yt⟩ : Bnd)]).flatMap bndCells) by rw [List.length_append, List.flatMap_append]; simpa [bndCells] using hown)
                      have HE2 := Lib.hid (show Below w8.heap.size w8 w11 from (HBr.out.trans ((ba1 wr (.cells #[.int .i64 yk, .int .i64 yi, .string yt] 50)).mono HBr.out.size)).grown hgrow (Nat.le_trans HBr.out.size (ba1 _ _).size) (fun k hk => (HOr.out.lt k hk).1))
                      clear hown hgrow hat b0 b1 b2
                      go_wp2_with fail
                      go_roundg (R0.out.length - (i + 1))
                      case measure => omega
                      case rel => exact ⟨i + 1, _, cap', by omega, by omega, by rw [HN3.out]; simp, by rw [HN3.out, List.length_append]; rfl, by rw [Int.natCast_add]; rfl, Lib.hid (by rw [HN3.out]; simpa using HE1.out), HE2⟩
            · have HN3 := Lib.hid (show seenK R0.out (i + 1) = S by rw [HNx.out, if_neg hf])
              obtain ⟨yk, yi, yt⟩ := y
              have hk : yk ≠ 1 ∧ yk ≠ 2 := by
                unfold ofFile at hf
                simpa using hf
              have t1 : (yk != 1) = true := by simpa using hk.1
              have t2 : (yk != 2) = true := by simpa using hk.2
              simp only at b0
              clear hf HNx hk b1 b2 HOc
              go_wp2_with fail
              go_roundg (R0.out.length - (i + 1))
              case measure => omega
              case rel => exact ⟨i + 1, a, c, by omega, by omega, by rw [HN3.out], by rw [HN3.out], by rw [Int.natCast_add]; rfl, Lib.hid (by rw [HN3.out]; exact HO.out), HB2⟩
          · obtain rfl : i = R0.out.length := by omega
            have hfin := HSn.out
            rw [hfin]
            clear hfin
            go_wp2_with fail
            go_ret
            exact ⟨by simp, HB1.out.trans ((HB4.out.trans ((HB6.out.trans ((HB8.out.trans (HB2.out.mono HB8.out.size)).mono HB6.out.size)).mono HB4.out.size)).mono HB1.out.size)⟩
end Go.Proofs.YtbbaooeioogijaaDoor

