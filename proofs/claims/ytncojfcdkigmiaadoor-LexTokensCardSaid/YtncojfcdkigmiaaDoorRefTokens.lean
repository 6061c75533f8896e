/- All tokens of a text: the reference. -/
import Derived.Test.YtncojfcdkigmiaaDoorRefOneAll
import Derived.Test.YtncojfcdkigmiaaDoorTokens
import Derived.Test.YtncojfcdkigmiaaDoorBackP2
namespace Go.Proofs.YtncojfcdkigmiaaDoor
open Go.RowKit

/-- the reference's list of tokens, and its fault in the call's first block -/
structure Rr (w0 w : World) (lv : Value) (out : List Tok) : Prop where
  own : w.ownsRow (w0.heap.size + 1) 34 4 lv out.length (flatL out)
  below : Below w0.heap.size w0 w
  fault : w.heap[w0.heap.size]? = some (.cells #[.int .i64 0, .int .i64 0] 30 (0, 0))
theorem Rr.belowed {w0 w w' : World} {lv : Value} {out : List Tok} (h : Rr w0 w lv out) (hb : Below w.heap.size w w') : Rr w0 w' lv out :=
  ⟨h.own.belowed hb, h.below.trans (hb.mono h.below.size), by rw [hb.block _ (lt_of_heap h.fault)]; exact h.fault⟩
theorem Rr.drewN {w0 w : World} {lv : Value} {out : List Tok} (h : Rr w0 w lv out) (n : Nat) : Rr w0 (w.drewN n) lv out :=
  ⟨own_drewN h.own n, blw_drewN h.below n, h.fault⟩
theorem Rr.store {w0 w : World} {x : ByteArray} {g cap : Nat} {o : List Tok} {t : Tok} (h : Rr w0 w (.slice (some ⟨g, 0, none⟩) (o ++ [t]).length cap) (o ++ [t])) :
    Rr w0 (w.setCell ⟨g, o.length * 4 + 3, none⟩ (.string x)) (.slice (some ⟨g, 0, none⟩) (o ++ [t]).length cap) (o ++ [{ t with text := x }]) := by
  have hg := (h.own.lt g rfl).1
  refine ⟨?_, h.below.setCell (by simp; omega) _, by rw [Below.heap_setCell _ _ _ _ (by simp; omega)]; exact h.fault⟩
  have := (h.own.stored (o.length * 4 + 3) (.string x)).1
  rw [flatL_set] at this
  have hl : ∀ t' : Tok, (o ++ [t']).length = o.length + 1 := fun t' => by simp
  rw [hl] at this ⊢
  rw [hl]
  exact this
theorem Rr.pushed {w0 w w6 : World} {n : Nat} {lv v : Value} {out : List Tok} {t : Tok} (h : Rr w0 w lv out) (hg : w.grownBy w6 lv.ownBlock) (hn : n = (out ++ [t]).length)
    (ho : w6.ownsRow (w0.heap.size + 1) 34 4 v n (flatL out ++ t.cells)) : Rr w0 w6 v (out ++ [t]) := by
  have hl := fun q e => (h.own.lt q e).1
  refine ⟨?_, h.below.grown hg h.below.size (fun q e => by have := hl q e; omega), ?_⟩
  · rw [flatL_snoc, ← hn]; exact ho
  · rw [hg.block _ (lt_of_heap h.fault) (fun e => by have := hl _ e.symm; omega)]; exact h.fault

/-- a token that is no string's is short -/
theorem ref_small {s : ByteArray} {p m : Nat} {out o : List Tok} {t x : Tok} (ho : oneL (sfx s p) = .good t m) (hp : putTok (sfx s p) p out t = o ++ [x]) (h4 : t.kind ≠ 4) : ¬ 4096 < x.text.size := by
  rcases one_good ho with ⟨h, _⟩ | ⟨hg, _, hq⟩
  · exact absurd h h4
  · have hj : joins (sfx s p) out = false := by rw [joins, hq]; rfl
    rw [put_new hj] at hp
    obtain ⟨_, h2⟩ := List.append_inj' hp rfl
    simp only [List.cons.injEq, and_true] at h2
    subst h2
    have := good_size hg
    show ¬ 4096 < t.text.size
    omega

set_option maxHeartbeats 1000000 in
theorem refTokens_long (s : ByteArray) (w : World) (hs : 65536 < s.size) : Calls Tryd.prog 14 #[.string s] w (Toked w (.bad 0 3)) := by
  have t1 : decide ((65536 : Int) < s.size) = true := by simp; omega
  clear hs
  go_enter Tryd.func14, Tryd.ntmps14
  go_wp2
  exact bodyPost_ret (v := .tuple #[.slice none 0 0, .agg #[.int .i64 0, .int .i64 3]]) (by simp [results, Tryd.results14, go_sem]) rfl ⟨rfl, (Below.refl _ _).alloc (Nat.le_refl _) _⟩

set_option maxHeartbeats 8000000 in
set_option maxRecDepth 100000 in
theorem refTokens_in (s : ByteArray) (w : World) (hs : s.size ≤ 65536) : Calls Tryd.prog 14 #[.string s] w (Toked w (tokE s)) := by
  obtain ⟨r, er⟩ : ∃ r, r = tokE s := ⟨_, rfl⟩
  rw [← er]
  have ER := Lib.hid (er.trans (tokE_L hs))
  have t0 : decide ((65536 : Int) < s.size) = false := by simp; omega
  clear er
  go_enter Tryd.func14, Tryd.ntmps14
  go_wp2_with fail
  clear t0
  go_loopg [4, 5] s.size (fun g lv av wr => ∃ (k : Nat) (out : List Tok), k ≤ s.size ∧ k + g = s.size ∧ av = .int .i64 k ∧ Rr w wr lv out ∧ Hid (OutOk out) ∧ Hid (r = tokL k (sfx s k) out))
  case atStart =>
    refine ⟨0, [], Nat.zero_le _, by omega, rfl, ⟨?_, two_blw _ _ _, ?_⟩, ⟨by simp, fun t ht => by cases ht⟩, ER.out⟩
    · have := World.ownsRow_made (base := w.heap.size + 1) (e := 34) (size := 4) (w.alloc (.cells #[.int .i64 0, .int .i64 0] 30)) #[] 0 (by simp) (by decide) (by simp)
      rw [show (w.alloc (.cells #[.int .i64 0, .int .i64 0] 30)).heap.size = w.heap.size + 1 by simp] at this
      exact this
    · rw [((Below.refl (w.alloc _).heap.size (w.alloc _)).alloc (Nat.le_refl _) _).block _ (by simp)]; exact heap_alloc_new w _
  case round =>
    obtain ⟨k, out, hk, hkg, rfl, hrd, hok, hr⟩ := hrel
    have HR := Lib.hid hrd
    have hsz := hrd.below.size
    obtain ⟨⟨d0, d1⟩, fd⟩ := two_block hrd.fault
    have fd0 := fd 0
    have fd1 := fd 1
    have hlf := lt_of_heap hrd.fault
    clear hrd fd
    rcases hbl : blankAt s k with ⟨p, t⟩
    have hple := blankAt_le hk
    rw [hbl] at hple
    have HBl : Hid (Calls Tryd.prog 27 #[.string s, .int .i64 k] wr (BlankedRef (p, t) wr)) := by
      rw [← hbl]
      exact refBlank_ok k s wr hk (by omega)
    cases t with
    | false =>
      have hfin := Lib.hid (hr.out.trans (tl_bad hbl))
      clear hbl
      go_wp2_with (go_at_call 27; refine HBl.out.mono ?_; rintro e w1 ⟨rfl, rfl⟩)
      exact bodyPost_ret (v := .tuple #[.slice none 0 0, .agg #[.int .i64 p, .int .i64 71]]) (by simp [results, Tryd.results14, go_sem, d0, d1]) rfl (toked_no hfin.out rfl (set_fault HR.out.below _ _))
    | true =>
      by_cases hps : p < s.size
      · have HJ := Lib.hid (joins_quote hps out)
        have hM : (p : Int) < s.size := by omega
        have HBlk := Lib.hid hbl
        clear hbl
        obtain ⟨a, cap, rfl, hform⟩ := own_form HR.out.own
        have HF := Lib.hid hform
        clear hform
        have hol : (out.length : Int) ≤ 16384 := by have := hok.out.1; omega
        go_upto_region 10 with (go_at_call 27; refine HBl.out.mono ?_; rintro e w1 ⟨rfl, rfl⟩)
        go_cut [8] (fun v wx => ∃ j : Bool, v = .bool j ∧ Hid (j = joins (sfx s p) out) ∧ wx = wr)
        case first =>
          by_cases h34 : s[p].toNat = 34
          · have t1 : ((s[p].toNat : Int) == 34) = true := by simp [h34]
            rcases nil_or_snoc out with h0 | ⟨o, t, h0⟩
            · have hj := Lib.hid (show false = joins (sfx s p) out by rw [HJ.out, h0]; simp)
              have t2 : decide (0 < out.length) = false := by rw [h0]; rfl
              have t3 : decide ((0 : Int) < (out.length : Int)) = false := by rw [h0]; rfl
              clear h34 h0
              go_wp2_with fail
              go_meet
              exact ⟨false, rfl, hj, rfl⟩
            · have hj := Lib.hid (show decide (t.kind = 4) = joins (sfx s p) out by rw [HJ.out, h0]; simp [isStr, h34])
              have hlen : out.length = o.length + 1 := by rw [h0]; simp
              obtain ⟨g, rfl, hg1, hg2⟩ := HF.out (by omega)
              have hown := HR.out.own
              rw [h0] at hown
              obtain ⟨q0, _, _, _⟩ := last_cells hown
              have t2 : decide (0 < out.length) = true := by rw [decide_eq_true_iff]; omega
              have t3 : decide ((0 : Int) < (out.length : Int)) = true := by rw [decide_eq_true_iff]; omega
              have e8 : ((out.length : Int) - 1).toNat = o.length := by omega
              have p8 : (0 : Int) ≤ (out.length : Int) - 1 := by omega
              have l8 : (out.length : Int) - 1 < out.length := by omega
              clear hown hlen h34 h0
              by_cases h4 : t.kind = 4
              · have t4 : (t.kind == 4) = true := by simpa using h4
                have hj1 := Lib.hid (show true = joins (sfx s p) out by rw [← hj.out]; simpa using h4)
                clear h4 hj
                go_wp2_with fail
                go_meet
                exact ⟨true, rfl, hj1, rfl⟩
              · have t4 : (t.kind == 4) = false := by simpa using h4
                have hj1 := Lib.hid (show false = joins (sfx s p) out by rw [← hj.out]; simpa using h4)
                clear h4 hj
                go_wp2_with fail
                go_meet
                exact ⟨false, rfl, hj1, rfl⟩
          · have t1 : ((s[p].toNat : Int) == 34) = false := by simp; omega
            have hj := Lib.hid (show false = joins (sfx s p) out by rw [HJ.out]; simp [h34])
            clear h34
            go_wp2_with fail
            go_meet
            exact ⟨false, rfl, hj, rfl⟩
        case rest =>
          obtain ⟨j, rfl, hj, hwx⟩ := hcut
          have hwx := hwx.symm; subst hwx
          clear HJ
          by_cases hmany : j = false ∧ 16384 ≤ out.length
          · obtain ⟨rfl, hm⟩ := hmany
            have hfin := Lib.hid (hr.out.trans (tl_many HBlk.out hps hj.out.symm hm))
            have hmi : (16384 : Int) ≤ (out.length : Int) := by omega
            clear hm
            go_wp2
            exact bodyPost_ret (v := .tuple #[.slice none 0 0, .agg #[.int .i64 p, .int .i64 3]]) (by simp [results, Tryd.results14, go_sem, d0, d1]) rfl (toked_no hfin.out rfl (set_fault HR.out.below _ _))
          · have t1 : j = true ∨ (j = false ∧ (out.length : Int) < 16384) := by
              rcases Bool.eq_false_or_eq_true j with h | h
              · exact .inl h
              · exact .inr ⟨h, by
                  rcases Nat.lt_or_ge out.length 16384 with h' | h'
                  · omega
                  · exact absurd ⟨h, h'⟩ hmany⟩
            have hnm := Lib.hid (show ¬ (joins (sfx s p) out = false ∧ 16384 ≤ out.length) by rw [← hj.out]; exact hmany)
            clear hmany
            go_upto_region 11 with fail
            go_cut [58] (fun v wx => v = .bool false ∧ wx = wr)
            case first =>
              rcases t1 with rfl | ⟨rfl, t1⟩
              all_goals
                go_wp2_with fail
                go_meet
                exact ⟨by first | rfl | (congr 1; simp; omega), rfl⟩
            case rest =>
              obtain ⟨rfl, hwx⟩ := hcut
              have hwx := hwx.symm; subst hwx
              go_wp2_with (go_at_call 28; refine (refOne_ok p s _ hps (by omega)).mono ?_)
              rintro e w4 hone
              rcases ho : oneL (sfx s p) with ⟨t, m⟩ | x
              · rw [ho] at hone
                obtain ⟨rfl, hb4⟩ := hone
                have hrd4 := HR.out.belowed hb4
                have HR4 := Lib.hid hrd4
                have HO := Lib.hid ho
                have hz4 := hrd4.below.size
                have hlf4 := lt_of_heap hrd4.fault
                clear d0 d1 fd0 fd1 hrd4 hb4 ho
                go_upto_if 74 with fail
                generalize hw5 : World.alloc _ _ = w5
                have hb45 : Below w4.heap.size w4 w5 := by rw [← hw5]; exact (Below.refl _ _).alloc (Nat.le_refl _) _
                have hblk : w5.heap[w4.heap.size]? = some (.cells #[.int .i64 t.kind, .int .i64 p, .int .i64 t.num, .string t.text] 34 (0, 0)) := by rw [← hw5]; exact heap_alloc_new w4 _
                have hrd5 := HR4.out.belowed hb45
                have HR5 := Lib.hid hrd5
                have hlf5 := lt_of_heap hrd5.fault
                have HB5 := Lib.hid hblk
                have hz5 : w4.heap.size < w5.heap.size := lt_of_heap hblk
                clear hb45 hw5 hrd5 hblk
                go_cut [4] (fun v wx => ∃ (o : List Tok) (x : Tok), Hid (putTok (sfx s p) p out t = o ++ [x]) ∧ Rr w wx v (o ++ [x]) ∧ wx.heap[w4.heap.size]? = some (.cells #[.int .i64 t.kind, .int .i64 p, .int .i64 t.num, .string t.text] 34 (0, 0)))
                case first =>
                  obtain ⟨⟨b0, b1, b2, b3⟩, _⟩ := tok_block HB5.out
                  rcases j with _ | _
                  · have hne : (Value.slice a out.length cap).ownBlock ≠ some w4.heap.size := fun e => by have := (HR4.out.own.lt _ e).2; omega
                    have Hne := Lib.hid hne
                    obtain ⟨i0, hi, hz0, hz1, hz2⟩ := info_parts info_tok
                    have HI := Lib.hid (And.intro hi (And.intro hz0 (And.intro hz1 hz2)))
                    have ht1 : (out.length : Int) < 16384 := by rcases t1 with h | h; cases h; exact h.2
                    clear hi hz0 hz1 hz2 hne t1
                    go_wp2_with (at_builtin; refine wpList_append_own _ rfl _ _ 22 rfl (w.heap.size + 1) 34 i0 _ 4 40 Tryd.underlying22 HI.out.1 HI.out.2.1 HI.out.2.2.1 HI.out.2.2.2 rfl (by decide) _ _ _ rfl (HR5.out.own.alloc _) ⟨w5.heap.size, 0, none⟩ 1 1 [.int .i64 t.kind, .int .i64 p, .int .i64 t.num, .string t.text] rfl rfl ?c1 ?c2 ?c3 ?c4 ?c5 ?_)
                    case c1 => exact World.news_of_block (cs := #[.int .i64 t.kind, .int .i64 p, .int .i64 t.num, .string t.text]) (t := 34) (fr := (0, 0)) (heap_alloc_new w5 _)
                    case c2 => simp [Value.oneCell']
                    case c3 => unfold maxLen; omega
                    case c4 => omega
                    case c5 => simp; omega
                    intro v' w6 hown hgrow _
                    have HG := Lib.hid hgrow
                    have HW := Lib.hid hown
                    clear hown hgrow
                    go_wp2_with fail
                    go_meet
                    refine ⟨out, { t with place := (p : Int) }, Lib.hid (put_new hj.out.symm), (HR5.out.belowed ((Below.refl _ _).alloc (Nat.le_refl _) _)).pushed (t := { t with place := (p : Int) }) HG.out (by simp) HW.out, ?_⟩
                    rw [HG.out.block _ (by simp; omega) (Ne.symm Hne.out), ((Below.refl w5.heap.size w5).alloc (Nat.le_refl _) _).block _ hz5]
                    exact HB5.out
                  · obtain ⟨o0, t0, h0⟩ := snoc_of (joins_ne hj.out.symm)
                    have H0 := Lib.hid h0
                    have hlen0 : out.length = o0.length + 1 := by rw [h0]; simp
                    obtain ⟨g, rfl, hg1, hg2⟩ := HF.out (by omega)
                    have hrd5 := HR5.out
                    rw [h0] at hrd5
                    obtain ⟨_, _, q3, qf⟩ := last_cells hrd5.own
                    have HR6 := Lib.hid (hrd5.store (x := t0.text ++ t.text))
                    have e8 : ((out.length : Int) - 1).toNat = o0.length := by omega
                    have p8 : (0 : Int) ≤ (out.length : Int) - 1 := by omega
                    have l8 : (out.length : Int) - 1 < out.length := by omega
                    have HL := Lib.hid (show out.length = (o0 ++ [{ t0 with text := t0.text ++ t.text }]).length by rw [h0]; simp)
                    have hs1 : (t0.text.size : Int) ≤ 8388608 := by
                      have := (hok.out.2 t0 (by rw [H0.out]; simp)).2
                      omega
                    have hs2 : (t.text.size : Int) ≤ 8388608 := by
                      have := oneL_text HO.out
                      rw [sfx_length] at this
                      omega
                    have hgz : g < w4.heap.size := by
                      have := (HR4.out.own.lt g rfl).2
                      omega
                    clear hrd5 h0 hlen0 t1
                    go_wp2_with fail
                    go_region
                    all_goals
                      go_wp2_with fail
                      go_meet
                      refine ⟨o0, { t0 with text := t0.text ++ t.text }, Lib.hid (by rw [put_joins hj.out.symm, H0.out, glue_snoc]), ?_, ?_⟩
                      · have := HR6.out.drewN 1
                        rw [show (o0 ++ [t0]).length = out.length by rw [H0.out]] at this
                        exact this
                      · show (World.setCell _ _ _).heap[w4.heap.size]? = _
                        rw [Below.heap_setCell _ _ _ _ (by simp; omega)]
                        exact HB5.out
                case rest =>
                  obtain ⟨o, x, hput, hrd6, hblk6⟩ := hcut
                  obtain ⟨a6, cap6, rfl, hform6⟩ := own_form hrd6.own
                  obtain ⟨g6, rfl, hg61, hg62⟩ := hform6 (by simp)
                  obtain ⟨q0, q1, q3, qf⟩ := last_cells hrd6.own
                  obtain ⟨⟨b0, b1, b2, b3⟩, _⟩ := tok_block hblk6
                  obtain ⟨⟨d0, d1⟩, fd⟩ := two_block hrd6.fault
                  have fd0 := fd 0
                  have fd1 := fd 1
                  have hlen : (o.length : Int) < ((o ++ [x]).length : Int) := by
                    have : (o ++ [x]).length = o.length + 1 := by simp
                    omega
                  have e8 : (((o ++ [x]).length : Int) - 1).toNat = o.length := by rw [List.length_append]; simp
                  have p8 : (0 : Int) ≤ ((o ++ [x]).length : Int) - 1 := by omega
                  have l8 : ((o ++ [x]).length : Int) - 1 < (o ++ [x]).length := by omega
                  have hol6 : ((o ++ [x]).length : Int) ≤ 16384 := by have := put_len hput.out hnm.out hok.out.1; omega
                  have HR6 := Lib.hid hrd6
                  have hlf6 := lt_of_heap hrd6.fault
                  clear fd hform6 hrd6 t1
                  have hml := oneL_le HO.out
                  rw [sfx_length] at hml
                  generalize (o ++ [x]).length = len6 at *
                  by_cases h4 : t.kind = 4
                  · have t4 : (t.kind == 4) = true := by simpa using h4
                    clear h4
                    by_cases hbig : 4096 < x.text.size
                    · have hfin := Lib.hid (hr.out.trans (tl_long HBlk.out hps hnm.out HO.out hput.out hbig))
                      have hpl := Lib.hid (put_place (fun t ht => (hok.out.2 t ht).1) hput.out).2.1
                      have t5 : (4096 : Int) < x.text.size := by omega
                      clear hbig
                      go_wp2_with fail
                      go_region
                      all_goals
                        go_wp2_with fail
                        exact bodyPost_ret (v := .tuple #[.slice none 0 0, .agg #[.int .i64 x.place, .int .i64 3]]) (by simp [results, Tryd.results14, go_sem, d0, d1]) rfl (toked_no hfin.out (by have := hpl.out; omega) (set_fault HR6.out.below _ _).drew)
                    · have hfin := Lib.hid (hr.out.trans (tl_next HBlk.out hps hnm.out HO.out hput.out hbig))
                      have hok' := Lib.hid (put_ok hok.out hput.out hnm.out (by omega))
                      have t5 : (x.text.size : Int) ≤ 4096 := by omega
                      clear hbig
                      go_wp2_with fail
                      go_roundg (s.size - (p + m))
                      case measure => omega
                      case rel => exact ⟨p + m, o ++ [x], by omega, by omega, rfl, HR6.out, hok', hfin⟩
                  · have t4 : (t.kind == 4) = false := by simpa using h4
                    have hbig : ¬ 4096 < x.text.size := ref_small HO.out hput.out h4
                    have hfin := Lib.hid (hr.out.trans (tl_next HBlk.out hps hnm.out HO.out hput.out hbig))
                    have hok' := Lib.hid (put_ok hok.out hput.out hnm.out (by omega))
                    clear hbig h4
                    go_wp2_with fail
                    go_roundg (s.size - (p + m))
                    case measure => omega
                    case rel => exact ⟨p + m, o ++ [x], by omega, by omega, rfl, HR6.out, hok', hfin⟩
              · rw [ho] at hone
                obtain ⟨⟨t, j', rfl⟩, hb4⟩ := hone
                have hfin := Lib.hid (hr.out.trans (tl_one HBlk.out hps hnm.out ho))
                have hx := oneL_bad ho
                have t4 : (x != 0) = true := by simp; omega
                have hrd4 := HR.out.belowed hb4
                have HR4 := Lib.hid hrd4
                obtain ⟨⟨e0, e1⟩, fe⟩ := two_block hrd4.fault
                have fe0 := fe 0
                have fe1 := fe 1
                have hz4 := lt_of_heap hrd4.fault
                clear fe d0 d1 fd0 fd1 hrd4 hb4 ho hx
                go_wp2
                exact bodyPost_ret (v := .tuple #[.slice none 0 0, .agg #[.int .i64 p, .int .i64 x]]) (by simp [results, Tryd.results14, go_sem, e0, e1, hz4]) rfl (toked_no hfin.out rfl ((set_fault HR4.out.below _ _).alloc (by simp; omega) _))
      · have hfin := Lib.hid (hr.out.trans (tl_end hbl (by omega)))
        have hM : (s.size : Int) ≤ p := by omega
        clear hbl
        go_wp2_with (go_at_call 27; refine HBl.out.mono ?_; rintro e w1 ⟨rfl, rfl⟩)
        exact bodyPost_ret (v := .tuple #[u4, .agg #[.int .i64 0, .int .i64 0]]) (by simp [results, Tryd.results14, go_sem, d0, d1]) rfl (toked_yes hfin.out (by
          have := ownsRow_setCell_below (ownsRow_setCell_below HR.out.own (a := ⟨w.heap.size, 0, none⟩) (by simp) (.int .i64 0)) (a := ⟨w.heap.size, 1, none⟩) (by simp) (.int .i64 0)
          exact own_le this (by omega)) (set_fault HR.out.below _ _))

end Go.Proofs.YtncojfcdkigmiaaDoor
