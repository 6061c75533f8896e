/- Whether no object in a type takes too much: the program. · Whether no object in a type takes too much: functions, all types; what is wrong with a type: the program. · What is wrong with a type, structs being known: the program. -/
import Derived.Test.YtlcfejgjeljjdaaDoorMg8
import Derived.Laws.AppendOwnNone
namespace Go.Proofs.YtlcfejgjeljjdaaDoor
open Go.RowKit

def SizedC (B b mb : Nat) (lv sv av : Value) (mv : List Value) (K : List Kn) (t : Ty) : Prop := ∀ w, TE w → KnAt B w b mb lv sv av mv K →
  Calls Tryd.prog 91 #[.pointer (some ⟨b, 0, none⟩), .string (tyB t)] w fun e w' => e = .returned (.bool (sizedT K t)) ∧ Below w.heap.size w w'
section
variable {B b mb : Nat} {lv sv av : Value} {mv : List Value} {K : List Kn}
theorem sized_root (t : Ty) (h1 : headT t ≠ 112) (h2 : headT t ≠ 97) (h3 : headT t ≠ 102) (hs : sizedT K t = true) : SizedC B b mb lv sv av mv K t := by
  intro w hE hK
  rw [hs]
  obtain ⟨h0, hc⟩ := tyB_head t
  have t1 : (((tyB t)[0].toNat : Int) == 112) = false := eq_false' (d := 112) hc h1
  have t2 : (((tyB t)[0].toNat : Int) == 97) = false := eq_false' (d := 97) hc h2
  have t3 : (((tyB t)[0].toNat : Int) == 102) = false := eq_false' (d := 102) hc h3
  generalize tyB t = s at *
  clear hc hE h1 h2 h3 hs hK
  go_enter Tryd.func91, Tryd.ntmps91
  go_wp2_with fail
  go_ret
  exact ⟨rfl, Below.refl _ _⟩
theorem sized_ptr (u : Ty) (ih : SizedC B b mb lv sv av mv K u) : SizedC B b mb lv sv av mv K (.ptr u) := by
  intro w hE hK
  unfold SizedC at ih
  have HI := Lib.hid (ih w hE hK)
  rw [show sizedT K (.ptr u) = sizedT K u by rw [sizedT]]
  obtain ⟨h0, hc⟩ := tyB_head (.ptr u)
  have HX := Lib.hid (tyB_ext (t := .ptr u) (u := u) (k := 1) rfl)
  have t1 : (((tyB (.ptr u))[0].toNat : Int) == 112) = true := eq_true' hc
  generalize tyB (.ptr u) = s at *
  have h1 : (1 : Int) ≤ s.size := by omega
  generalize sizedT K u = r at *
  clear hc hE ih hK
  go_enter Tryd.func91, Tryd.ntmps91
  go_wp2_with fail
  rw [HX.out]
  refine HI.out.mono ?_
  rintro e w1 ⟨rfl, hb1⟩
  go_wp2_with fail
  go_ret
  exact ⟨rfl, hb1⟩
theorem cap_le (p : Nat × Nat) : decide (((capM p).1 : Int) ≤ 65536) = decide (p.1 ≤ 65536) := by
  rw [Bool.eq_iff_iff, decide_eq_true_iff, decide_eq_true_iff]
  unfold capM
  simp only
  omega
set_option maxHeartbeats 1000000 in
theorem sized_arr (n : Nat) (u : Ty) (hr : Right (.arr n u)) (hl : (code (.arr n u)).length ≤ 65536) (hsh : shapeT (.arr n u) = true) (hF : FitK K) (ih : SizedC B b mb lv sv av mv K u) : SizedC B b mb lv sv av mv K (.arr n u) := by
  intro w hE hK
  unfold SizedC at ih
  have HE := Lib.hid hE
  have HK := Lib.hid hK
  have HI := Lib.hid ih
  have HS := Lib.hid (fun w hM => split_arr n u w hr hM hl)
  have HT := Lib.hid (fun w hE hK => there_ok (B := B) (b := b) (mb := mb) (lv := lv) (sv := sv) (av := av) (mv := mv) (K := K) (.arr n u) w hr hl hE hK)
  have HM := Lib.hid (fun w hE hK ht => measure_ok (B := B) (b := b) (mb := mb) (lv := lv) (sv := sv) (av := av) (mv := mv) (K := K) (.arr n u) w hr hl hsh ht hE hK hF)
  obtain ⟨h0, hc⟩ := tyB_head (.arr n u)
  have t1 : (((tyB (.arr n u))[0].toNat : Int) == 112) = false := eq_false' (d := 112) hc (by simp [headT])
  have t2 : (((tyB (.arr n u))[0].toNat : Int) == 97) = true := eq_true' hc
  have hd : sizedT K (.arr n u) = (sizedT K u && (!thereT K (.arr n u) || decide ((measT K (.arr n u)).1 ≤ 65536))) := by
    rw [sizedT, show thereT K (.arr n u) = thereT K u by rw [thereT], show (measT K (.arr n u)).1 = n * (measT K u).1 by rw [measT]]
  have hcl := cap_le (measT K (.arr n u))
  generalize tyB (.arr n u) = s at *
  clear hc hE ih hr hl hsh hF hK
  rcases h1 : sizedT K u with _ | _
  · have H1 := Lib.hid h1
    have hfin := Lib.hid (show sizedT K (.arr n u) = false by rw [hd, h1]; rfl)
    clear hd h1 hcl
    go_enter Tryd.func91, Tryd.ntmps91
    go_wp2_with (go_at_call 81; (with_reducible refine (HS.out _ HE.out.maxl).mono ?_))
    rintro e w1 ⟨rfl, hb1⟩
    have HI1 := Lib.hid (HI.out _ (HE.out.below hb1) (HK.out.below hb1))
    rw [H1.out] at HI1
    go_wp2_with (go_at_call 91; (with_reducible refine HI1.out.mono ?_))
    rintro e w2 ⟨rfl, hb2⟩
    go_wp2_with fail
    go_ret
    exact ⟨by rw [hfin.out]; rfl, hb1.trans (hb2.mono hb1.size)⟩
  · have H1 := Lib.hid h1
    rcases h2 : thereT K (.arr n u) with _ | _
    · have H2 := Lib.hid h2
      have hfin := Lib.hid (show sizedT K (.arr n u) = true by rw [hd, h1, h2]; rfl)
      clear hd h1 h2 hcl
      go_enter Tryd.func91, Tryd.ntmps91
      go_wp2_with (go_at_call 81; (with_reducible refine (HS.out _ HE.out.maxl).mono ?_))
      rintro e w1 ⟨rfl, hb1⟩
      have HI1 := Lib.hid (HI.out _ (HE.out.below hb1) (HK.out.below hb1))
      rw [H1.out] at HI1
      go_wp2_with (go_at_call 91; (with_reducible refine HI1.out.mono ?_))
      rintro e w2 ⟨rfl, hb2⟩
      have HB2 := Lib.hid (hb1.trans (hb2.mono hb1.size))
      have HT2 := Lib.hid (HT.out _ (HE.out.below HB2.out) (HK.out.below HB2.out))
      rw [H2.out] at HT2
      go_wp2_with (go_at_call 90; (with_reducible refine HT2.out.mono ?_))
      rintro e w3 ⟨rfl, hb3⟩
      go_wp2_with fail
      go_ret
      exact ⟨by rw [hfin.out]; rfl, HB2.out.trans (hb3.mono HB2.out.size)⟩
    · have H2 := Lib.hid h2
      have hfin := Lib.hid (show sizedT K (.arr n u) = decide (((capM (measT K (.arr n u))).1 : Int) ≤ 65536) by rw [hd, h1, h2, hcl]; simp)
      unfold measV at HM
      generalize capM (measT K (.arr n u)) = p at *
      clear hd h1 h2 hcl
      go_enter Tryd.func91, Tryd.ntmps91
      go_wp2_with (go_at_call 81; (with_reducible refine (HS.out _ HE.out.maxl).mono ?_))
      rintro e w1 ⟨rfl, hb1⟩
      have HI1 := Lib.hid (HI.out _ (HE.out.below hb1) (HK.out.below hb1))
      rw [H1.out] at HI1
      go_wp2_with (go_at_call 91; (with_reducible refine HI1.out.mono ?_))
      rintro e w2 ⟨rfl, hb2⟩
      have HB2 := Lib.hid (hb1.trans (hb2.mono hb1.size))
      have HT2 := Lib.hid (HT.out _ (HE.out.below HB2.out) (HK.out.below HB2.out))
      rw [H2.out] at HT2
      go_wp2_with (go_at_call 90; (with_reducible refine HT2.out.mono ?_))
      rintro e w3 ⟨rfl, hb3⟩
      have HB3 := Lib.hid (HB2.out.trans (hb3.mono HB2.out.size))
      have HM3 := Lib.hid (HM.out _ (HE.out.below HB3.out) (HK.out.below HB3.out) H2.out)
      go_wp2_with (go_at_call 73; (with_reducible refine HM3.out.mono ?_))
      rintro e w4 ⟨rfl, hb4⟩
      go_wp2_with fail
      go_ret
      exact ⟨by rw [hfin.out]; rfl, HB3.out.trans (hb4.mono HB3.out.size)⟩
end

end Go.Proofs.YtlcfejgjeljjdaaDoor
namespace Go.Proofs.YtlcfejgjeljjdaaDoor
open Go.RowKit

theorem own_two {w : World} {base : Nat} {e : TypeId} {size : Nat} {v : Value} {n : Nat} {xs : List Value} (h : w.ownsRow base e size v n xs) : (v = .slice none 0 0 ∧ n = 0) ∨ ∃ g cap, v = .slice (some ⟨g, 0, none⟩) n cap ∧ base ≤ g ∧ g < w.heap.size ∧ ∀ j u, xs[j]? = some u → w.cell? ⟨g, j, none⟩ = some u := by
  rcases h.2 with ⟨rfl, rfl⟩ | ⟨g, cap, cur, rfl, hb, hg, _⟩
  · exact .inl ⟨rfl, rfl⟩
  · refine .inr ⟨g, cap, rfl, hb, lt_of_heap hg, fun j u hj => ?_⟩
    have := h.cells (g := g) rfl j u hj
    rwa [addr_add] at this
theorem sizeds_all (K : List Kn) (l : List Ty) : sizedsT K l = l.all (sizedT K) := by
  induction l with
  | nil => rfl
  | cons t l ih => rw [sizedsT, ih]; rfl
theorem c2_all (l : List Ty) : ∀ u ∈ l.map (fun p => Value.string (tyB p)), u.oneCell' = true := by
  intro u hu
  obtain ⟨p, _, rfl⟩ := List.mem_map.1 hu
  rfl

section
variable {B b mb : Nat} {lv sv av : Value} {mv : List Value} {K : List Kn}
set_option maxHeartbeats 4000000 in
theorem sized_fn (ps : List Ty) (r : Ty) (hr : Right (.fn ps r)) (hl : (code (.fn ps r)).length ≤ 65536) (ih : ∀ p ∈ r :: ps, SizedC B b mb lv sv av mv K p) : SizedC B b mb lv sv av mv K (.fn ps r) := by
  intro w hE hK
  have HE := Lib.hid hE
  have HK := Lib.hid hK
  have HI := Lib.hid ih
  have HS := Lib.hid (fun w hK hb => split_fn ps r w hr hl hK hb)
  have hps : ps.length ≤ 65536 := by
    have := rights_len hr.1
    rw [code] at hl; simp at hl; omega
  obtain ⟨h0, hc⟩ := tyB_head (.fn ps r)
  have t1 : (((tyB (.fn ps r))[0].toNat : Int) == 112) = false := eq_false' (d := 112) hc (by simp [headT])
  have t2 : (((tyB (.fn ps r))[0].toNat : Int) == 97) = false := eq_false' (d := 97) hc (by simp [headT])
  have t3 : (((tyB (.fn ps r))[0].toNat : Int) == 102) = true := eq_true' hc
  have hd : sizedT K (.fn ps r) = (r :: ps).all (sizedT K) := by rw [sizedT, sizeds_all]; rfl
  rw [hd]
  generalize tyB (.fn ps r) = s at *
  obtain ⟨i0, hi, hz0, hz1, hz2⟩ := info_parts infoT
  have HIn := Lib.hid (And.intro hi (And.intro hz0 (And.intro hz1 hz2)))
  clear hc hE ih hr hl hK hd hi hz0 hz1 hz2
  go_enter Tryd.func91, Tryd.ntmps91
  go_wp2_with (go_at_call 81; (with_reducible refine (HS.out _ HE.out.keys HE.out.lt).mono ?_))
  rintro e w1 ⟨⟨v, rfl, ho⟩, hb1⟩
  have HB1 := Lib.hid hb1
  have HO := Lib.hid ho
  have hn1 := own_new1 w1 22 (.string (tyB r))
  have HN := Lib.hid hn1
  clear hb1 ho hn1
  go_upto_region 14 with fail
  go_cut [58, 59, 60] (fun v6 l6 z6 w6 => l6 = .int .i64 ((r :: ps).length : Nat) ∧ z6 = .int .i64 0 ∧ (∃ g cap, v6 = .slice (some ⟨g, 0, none⟩) (r :: ps).length cap ∧ g < w6.heap.size ∧ ∀ j (hj : j < (r :: ps).length), w6.cell? ⟨g, j, none⟩ = some (.string (tyB (r :: ps)[j]))) ∧ Below w.heap.size w w6)
  case first =>
    rcases own_two HO.out with ⟨rfl, hz⟩ | ⟨g, cap, rfl, _, hg2, hcs⟩
    · have hnil : ps = [] := List.eq_nil_of_length_eq_zero hz
      subst hnil
      go_wp2_with (at_builtin; refine wpList_append_own_none _ rfl _ _ 137 rfl w1.heap.size 22 i0 1 Tryd.underlying137 HIn.out.1 _ 1 [.string (tyB r)] rfl HN.out rfl ?_)
      go_meet
      refine ⟨rfl, rfl, ⟨w1.heap.size, 1, rfl, by simp, fun j hj => ?_⟩, HB1.out.alloc HB1.out.size _⟩
      obtain rfl : j = 0 := by simp at hj; omega
      simp
    · have hA := Lib.hid (show Below w1.heap.size w1 (w1.alloc (.cells #[.string (tyB r)] 22)) from (Below.refl _ _).alloc (Nat.le_refl _) _)
      have hnews : ∀ j u, (ps.map fun p => Value.string (tyB p))[j]? = some u → (w1.alloc (.cells #[.string (tyB r)] 22)).cell? ((⟨g, 0, none⟩ : Addr).add j) = some u := fun j u hj => by
        rw [addr_add, hA.out.cell (p := ⟨g, j, none⟩) hg2]; exact hcs j u hj
      have HNw := Lib.hid hnews
      have hlen : (ps.map fun p => Value.string (tyB p)).length = ps.length * 1 := by simp
      have HLn := Lib.hid hlen
      clear hcs hnews hlen
      go_wp2_with (at_builtin; refine wpList_append_own _ rfl _ _ 137 rfl w1.heap.size 22 i0 (.string ⟨#[]⟩) 1 16 Tryd.underlying137 HIn.out.1 HIn.out.2.1 HIn.out.2.2.1 HIn.out.2.2.2 rfl (by decide) _ 1 [.string (tyB r)] rfl HN.out ⟨g, 0, none⟩ ps.length cap (ps.map fun p => Value.string (tyB p)) rfl HLn.out HNw.out (c2_all ps) ?c3 ?c4 ?c5 ?_)
      case c3 => unfold maxLen; omega
      case c4 => omega
      case c5 => simp
      intro v6 w6 hown hgrow hne
      rcases own_two hown with ⟨rfl, hz⟩ | ⟨g6, cap6, rfl, hg61, hg62, hcs⟩
      · omega
      · have HC := Lib.hid hcs
        have HB6 := Lib.hid ((HB1.out.alloc HB1.out.size _).grown hgrow (Nat.le_trans HB1.out.size hA.out.size) (fun q e => by have := (HN.out.lt _ e).1; have := HB1.out.size; omega))
        clear hown hgrow hne hcs
        go_wp2_with fail
        go_meet
        refine ⟨by congr 1; simp; omega, rfl, ⟨g6, cap6, by congr 1; simp; omega, hg62, fun j hj => HC.out j _ ?_⟩, HB6.out⟩
        cases j with
        | zero => simp
        | succ j =>
          have hj' : j < ps.length := by simpa using hj
          simp [hj']
  case rest =>
    obtain ⟨rfl, rfl, ⟨g, cap, rfl, hg, hcs⟩, hb6⟩ := hcut
    have HC := Lib.hid hcs
    have HB6 := Lib.hid hb6
    have hQ : (r :: ps).length ≤ 65537 := by simp; omega
    generalize hq : r :: ps = Q at *
    have HQ := Lib.hid hq
    clear hcs hb6 HO HB1 HN hq
    go_wp2_with fail
    go_loopw [60] (fun i wr => ∃ k : Nat, k ≤ Q.length ∧ i = .int .i64 k ∧ Hid (∀ j (hj : j < Q.length), j < k → sizedT K Q[j] = true) ∧ Below wc.heap.size wc wr) (fun i _ => Q.length - (intOf i).toNat)
    case atStart => exact ⟨0, Nat.zero_le _, rfl, fun j _ h => by omega, Below.refl _ _⟩
    case round =>
      obtain ⟨k, hk, rfl, hno, hb⟩ := hrel
      have HBr := Lib.hid hb
      have HBw := Lib.hid (HB6.out.trans (hb.mono HB6.out.size))
      have hsz := hb.size
      by_cases hlt : k < Q.length
      · have hck : wr.cell? ⟨g, k, none⟩ = some (.string (tyB Q[k])) := by
          rw [hb.cell (p := ⟨g, k, none⟩) hg]; exact HC.out k hlt
        have hD := HI.out Q[k] (List.getElem_mem hlt)
        unfold SizedC at hD
        have HD := Lib.hid (hD wr (HE.out.below HBw.out) (HK.out.below HBw.out))
        clear hb hD
        rcases hgd : sizedT K Q[k] with _ | _
        · have hfin := Lib.hid (show Q.all (sizedT K) = false by
            rw [Bool.eq_false_iff]; intro e
            have := List.all_eq_true.1 e Q[k] (List.getElem_mem hlt)
            rw [hgd] at this; cases this)
          rw [hgd] at HD
          generalize tyB Q[k] = st at *
          clear hgd
          go_wp2_with (go_at_call 91; (with_reducible refine HD.out.mono ?_))
          rintro e w7 ⟨rfl, hb7⟩
          go_wp2_with fail
          go_ret
          exact ⟨by rw [HQ.out, hfin.out]; rfl, HBw.out.trans (hb7.mono HBw.out.size)⟩
        · have HN := Lib.hid (show ∀ j (hj : j < Q.length), j < k + 1 → sizedT K Q[j] = true from fun j hj h => by
            rcases Nat.lt_or_ge j k with h' | h'
            · exact hno.out j hj h'
            · obtain rfl : j = k := by omega
              exact hgd)
          rw [hgd] at HD
          generalize tyB Q[k] = st at *
          clear hgd
          go_wp2_with (go_at_call 91; (with_reducible refine HD.out.mono ?_))
          rintro e w7 ⟨rfl, hb7⟩
          have HB7 := Lib.hid (HBr.out.trans (hb7.mono hsz))
          clear hb7
          go_wp2_with fail
          go_roundw
          case rel => exact ⟨k + 1, by omega, by go_num, HN, HB7.out⟩
          case measure => simp [intOf]; omega
      · obtain rfl : k = Q.length := by omega
        have hfin := Lib.hid (show Q.all (sizedT K) = true by
          rw [List.all_eq_true]
          intro p hp
          obtain ⟨j, hj, rfl⟩ := List.getElem_of_mem hp
          exact hno.out j hj hj)
        clear hno hb
        go_wp2_with fail
        go_ret
        exact ⟨by rw [HQ.out, hfin.out]; rfl, HBw.out⟩

theorem sized_all (hF : FitK K) : ∀ (n : Nat) (t : Ty), (code t).length ≤ n → Right t → (code t).length ≤ 65536 → shapeT t = true → SizedC B b mb lv sv av mv K t
  | 0, t, hn, hr, _, _ => by have := code_pos hr; omega
  | n + 1, t, hn, hr, hl, hs => by
    cases t with
    | base c => exact sized_root _ (by rcases base_six hr with rfl | rfl | rfl | rfl | rfl | rfl <;> decide) (by rcases base_six hr with rfl | rfl | rfl | rfl | rfl | rfl <;> decide) (by rcases base_six hr with rfl | rfl | rfl | rfl | rfl | rfl <;> decide) (by rw [sizedT])
    | str s => exact sized_root _ (by simp [headT]) (by simp [headT]) (by simp [headT]) (by rw [sizedT])
    | ptr u => exact sized_ptr u (sized_all hF n u (by rw [code] at hn; simp at hn; omega) hr (by rw [code] at hl; simp at hl; omega) (by rwa [shapeT] at hs))
    | arr m u =>
      have hs' := hs
      rw [shapeT, Bool.and_eq_true, Bool.and_eq_true] at hs'
      exact sized_arr m u hr hl hs hF (sized_all hF n u (by rw [code] at hn; simp at hn; omega) hr.2 (by rw [code] at hl; simp at hl; omega) hs'.2.2)
    | fn ps r =>
      rw [shapeT, Bool.and_eq_true, Bool.and_eq_true, Bool.and_eq_true] at hs
      refine sized_fn ps r hr hl fun p hp => ?_
      rw [code] at hn hl
      simp at hn hl
      rcases List.mem_cons.1 hp with rfl | hp
      · exact sized_all hF n p (by omega) hr.2 (by omega) hs.2.2.1
      · have h1 := codes_mem' hp
        have h2 : Right p := by
          obtain ⟨a, b, rfl⟩ := List.append_of_mem hp
          exact rights_at hr.1
        have h3 : shapeT p = true := by
          have := List.all_eq_true.1 (shapes_all ps ▸ hs.2.2.2) p hp
          simp only [Bool.and_eq_true] at this
          exact this.2
        exact sized_all hF n p (by omega) h2 (by omega) h3
end

end Go.Proofs.YtlcfejgjeljjdaaDoor
namespace Go.Proofs.YtlcfejgjeljjdaaDoor
open Go.RowKit

theorem depthS_some {s : ByteArray} {t : Ty} (h : tyS s = some t) : depthS s = deepT t := by unfold depthS; rw [h]
theorem checkS_none {K : List Kn} {s : ByteArray} (h : tyS s = none) : checkS K s = 2 := by unfold checkS; rw [h]
theorem checkS_some {K : List Kn} {s : ByteArray} {t : Ty} (h : tyS s = some t) : checkS K s = checkT K t := by unfold checkS; rw [h]
theorem ret_i64 {a b : Int} (h : a = b) : Ending.returned (.int .i64 a) = .returned (.int .i64 b) := by rw [h]
section
variable {B b mb : Nat} {lv sv av : Value} {mv : List Value} {K : List Kn}
set_option maxHeartbeats 2000000 in
theorem check_ok (s : ByteArray) (w : World) (hE : TE w) (hK : KnAt B w b mb lv sv av mv K) (hF : FitK K) :
    Calls Tryd.prog 75 #[.pointer (some ⟨b, 0, none⟩), .string s] w fun e w' => e = .returned (.int .i64 (checkS K s)) ∧ Below w.heap.size w w' := by
  have HE := Lib.hid hE
  have HK := Lib.hid hK
  have HD := Lib.hid (depth_ok s w hE.keys hE.lt)
  rcases ht : tyS s with _ | t
  · have hfin := Lib.hid (checkS_none (K := K) ht)
    rw [show depthS s = 0 by unfold depthS; rw [ht]] at HD
    clear hE hK ht
    go_enter Tryd.func75, Tryd.ntmps75
    go_wp2_with (go_at_call 62; refine HD.out.mono ?_)
    rintro e w1 ⟨rfl, hb1⟩
    go_wp2_with fail
    go_ret
    exact ⟨by rw [hfin.out]; rfl, hb1⟩
  · obtain ⟨es, hr, hl⟩ := tyS_some.1 ht
    rw [depthS_some ht] at HD
    have hpos := deepT_pos t
    have HCh := Lib.hid (checkS_some (K := K) ht)
    subst es
    have hsh := shape_all _ t (Nat.le_refl _) hr hl
    unfold ShapeC at hsh
    have HSh := Lib.hid hsh
    have HTh := Lib.hid (fun w hE hK => there_ok (B := B) (b := b) (mb := mb) (lv := lv) (sv := sv) (av := av) (mv := mv) (K := K) t w hr hl hE hK)
    have hsz := fun h => sized_all (B := B) (b := b) (mb := mb) (lv := lv) (sv := sv) (av := av) (mv := mv) hF _ t (Nat.le_refl _) hr hl h
    unfold SizedC at hsz
    have HSz := Lib.hid hsz
    have t0 : ((deepT t : Int) == 0) = false := by rw [beq_eq_false_iff_ne]; omega
    generalize tyB t = s at *
    clear hE hK ht hr hl hsh hsz hF hpos
    by_cases hdp : 48 < deepT t
    · have hfin := Lib.hid (show checkS K s = 3 by rw [HCh.out, checkT, if_pos hdp])
      have t1 : (48 : Int) < (deepT t : Int) := by omega
      generalize (deepT t : Int) = d at *
      clear hdp
      go_enter Tryd.func75, Tryd.ntmps75
      go_wp2_with (go_at_call 62; (with_reducible refine HD.out.mono ?_))
      rintro e w1 ⟨rfl, hb1⟩
      go_wp2_with fail
      go_ret
      exact ⟨by rw [hfin.out]; rfl, hb1⟩
    · have t1 : (deepT t : Int) ≤ 48 := by omega
      rcases h1 : shapeT t with _ | _
      · have H1 := Lib.hid h1
        have hfin := Lib.hid (show checkS K s = 5 by rw [HCh.out, checkT, if_neg hdp, if_pos h1])
        clear h1 hdp
        generalize (deepT t : Int) = d at *
        go_enter Tryd.func75, Tryd.ntmps75
        go_wp2_with (go_at_call 62; (with_reducible refine HD.out.mono ?_))
        rintro e w1 ⟨rfl, hb1⟩
        have HB1 := Lib.hid hb1
        clear hb1
        have HS1 := Lib.hid (HSh.out _ (HE.out.below HB1.out))
        rw [H1.out] at HS1
        go_wp2_with (go_at_call 89; (with_reducible refine HS1.out.mono ?_))
        rintro e w2 ⟨rfl, hb2⟩
        have HB2 := Lib.hid (HB1.out.trans (hb2.mono HB1.out.size))
        clear hb2
        go_wp2_with fail
        go_ret
        exact ⟨by rw [hfin.out]; rfl, HB2.out⟩
      · have H1 := Lib.hid h1
        rcases h2 : thereT K t with _ | _
        · have H2 := Lib.hid h2
          have hfin := Lib.hid (show checkS K s = 4 by rw [HCh.out, checkT, if_neg hdp, if_neg (by rw [h1]; simp), if_pos h2])
          clear h1 h2 hdp
          generalize (deepT t : Int) = d at *
          go_enter Tryd.func75, Tryd.ntmps75
          go_wp2_with (go_at_call 62; (with_reducible refine HD.out.mono ?_))
          rintro e w1 ⟨rfl, hb1⟩
          have HB1 := Lib.hid hb1
          clear hb1
          have HS1 := Lib.hid (HSh.out _ (HE.out.below HB1.out))
          rw [H1.out] at HS1
          go_wp2_with (go_at_call 89; (with_reducible refine HS1.out.mono ?_))
          rintro e w2 ⟨rfl, hb2⟩
          have HB2 := Lib.hid (HB1.out.trans (hb2.mono HB1.out.size))
          clear hb2
          have HT2 := Lib.hid (HTh.out _ (HE.out.below HB2.out) (HK.out.below HB2.out))
          rw [H2.out] at HT2
          go_wp2_with (go_at_call 90; (with_reducible refine HT2.out.mono ?_))
          rintro e w3 ⟨rfl, hb3⟩
          have HB3 := Lib.hid (HB2.out.trans (hb3.mono HB2.out.size))
          clear hb3
          go_wp2_with fail
          go_ret
          exact ⟨by rw [hfin.out]; rfl, HB3.out⟩
        · have H2 := Lib.hid h2
          rcases h3 : sizedT K t with _ | _
          · have H3 := Lib.hid h3
            have hfin := Lib.hid (show checkS K s = 3 by rw [HCh.out, checkT, if_neg hdp, if_neg (by rw [h1]; simp), if_neg (by rw [h2]; simp), if_pos h3])
            clear h1 h2 h3 hdp
            generalize (deepT t : Int) = d at *
            go_enter Tryd.func75, Tryd.ntmps75
            go_wp2_with (go_at_call 62; (with_reducible refine HD.out.mono ?_))
            rintro e w1 ⟨rfl, hb1⟩
            have HB1 := Lib.hid hb1
            clear hb1
            have HS1 := Lib.hid (HSh.out _ (HE.out.below HB1.out))
            rw [H1.out] at HS1
            go_wp2_with (go_at_call 89; (with_reducible refine HS1.out.mono ?_))
            rintro e w2 ⟨rfl, hb2⟩
            have HB2 := Lib.hid (HB1.out.trans (hb2.mono HB1.out.size))
            clear hb2
            have HT2 := Lib.hid (HTh.out _ (HE.out.below HB2.out) (HK.out.below HB2.out))
            rw [H2.out] at HT2
            go_wp2_with (go_at_call 90; (with_reducible refine HT2.out.mono ?_))
            rintro e w3 ⟨rfl, hb3⟩
            have HB3 := Lib.hid (HB2.out.trans (hb3.mono HB2.out.size))
            clear hb3
            have HZ3 := Lib.hid (HSz.out H1.out _ (HE.out.below HB3.out) (HK.out.below HB3.out))
            rw [H3.out] at HZ3
            go_wp2_with (go_at_call 91; (with_reducible refine HZ3.out.mono ?_))
            rintro e w4 ⟨rfl, hb4⟩
            have HB4 := Lib.hid (HB3.out.trans (hb4.mono HB3.out.size))
            clear hb4
            go_wp2_with fail
            go_ret
            exact ⟨by rw [hfin.out]; rfl, HB4.out⟩
          · have H3 := Lib.hid h3
            have hfin := Lib.hid (show checkS K s = 0 by rw [HCh.out, checkT, if_neg hdp, if_neg (by rw [h1]; simp), if_neg (by rw [h2]; simp), if_neg (by rw [h3]; simp)])
            clear h1 h2 h3 hdp
            generalize (deepT t : Int) = d at *
            go_enter Tryd.func75, Tryd.ntmps75
            go_wp2_with (go_at_call 62; (with_reducible refine HD.out.mono ?_))
            rintro e w1 ⟨rfl, hb1⟩
            have HB1 := Lib.hid hb1
            clear hb1
            have HS1 := Lib.hid (HSh.out _ (HE.out.below HB1.out))
            rw [H1.out] at HS1
            go_wp2_with (go_at_call 89; (with_reducible refine HS1.out.mono ?_))
            rintro e w2 ⟨rfl, hb2⟩
            have HB2 := Lib.hid (HB1.out.trans (hb2.mono HB1.out.size))
            clear hb2
            have HT2 := Lib.hid (HTh.out _ (HE.out.below HB2.out) (HK.out.below HB2.out))
            rw [H2.out] at HT2
            go_wp2_with (go_at_call 90; (with_reducible refine HT2.out.mono ?_))
            rintro e w3 ⟨rfl, hb3⟩
            have HB3 := Lib.hid (HB2.out.trans (hb3.mono HB2.out.size))
            clear hb3
            have HZ3 := Lib.hid (HSz.out H1.out _ (HE.out.below HB3.out) (HK.out.below HB3.out))
            rw [H3.out] at HZ3
            go_wp2_with (go_at_call 91; (with_reducible refine HZ3.out.mono ?_))
            rintro e w4 ⟨rfl, hb4⟩
            have HB4 := Lib.hid (HB3.out.trans (hb4.mono HB3.out.size))
            clear hb4
            go_wp2_with fail
            go_ret
            exact ⟨by rw [hfin.out]; rfl, HB4.out⟩
end

end Go.Proofs.YtlcfejgjeljjdaaDoor
