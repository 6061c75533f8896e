/- A function gone over: the program, declarations; all. · What is so of a right file's functions; parameters. Plain: nothing of the program. -/
import Derived.Test.YtbbaooeioogijaaDoorMg25
import Derived.Test.YtbbaooeioogijaaDoorMg23
namespace Go.Proofs.YtbbaooeioogijaaDoor
open Go.RowKit Go.Maps

set_option maxRecDepth 100000 in
set_option maxHeartbeats 8000000 in
theorem visit_decl {A B rb : Nat} {fs : FileN} {f : FnU} {vp : Value} {ab : Option Addr} {cb : Nat} {fr : List Nat} (hbg : beginsN f.body = some fr) (hl : f.body.length ≤ 4096) (hT : ∀ x ∈ f.body, x.kind = 3 ∨ x.kind = 22 → x.text.size ≤ maxLen) (hAB : A ≤ B) (k : Nat) (hk : k < f.body.length) (ih : ∀ p, p < k → VisitAt A B rb fs f vp ab cb fr p)
    (w : World) (c mb mt : Nat) (p ov sv : Value) (up : List ScN) (s : ScN) (own : Bool) (r : ResN) (h : VisM B fs f vp (.slice ab f.body.length cb) w rb c mb mt p ov sv up s r) (hI : IsNds A w ab f.body) (hR : RoomV s r) (hout : r.out.length = f.body.length) (hr0 : r.fault.2 = 0) (h22 : (f.body.getD k ndU0).kind = 22) :
    Calls Tryd.prog 25 #[.pointer (some ⟨rb, 0, none⟩), .int .i64 (k : Int), .pointer (some ⟨c, 0, none⟩), .bool own] w (VisEnd B fs f vp (.slice ab f.body.length cb) rb c mb mt p ov sv up w (visitN f.body fr fs k up s own r)) := by
  have hBw : B ≤ w.heap.size := by have := h.res.base; have := h.res.lt; omega
  have hv := visitN_eq (fs := fs) (formed_of hbg) k up s own r
  rw [if_neg (show ¬ r.fault.2 ≠ 0 by simp [hr0]), if_pos h22] at hv
  have hps : ∀ q ∈ partsAt f.body fr k, q < k := fun q hq => (formed_of hbg).parts_lt hq
  have hpl : (partsAt f.body fr k).length ≤ 4096 := by
    rw [partsAt_is (List.getElem?_eq_getElem hk), partsE_length]
    have := ((formed_of hbg).node k _ (List.getElem?_eq_getElem hk)).2.1.le
    omega
  have HPt := Lib.hid (fun (w1 : World) (h1 : rb < w1.heap.size) (h2 : A ≤ w1.heap.size) (h3 : w1.cell? ⟨rb, 4, none⟩ = some (.slice ab f.body.length cb)) (h4 : IsNds A w1 ab f.body) => parts11_ok hbg k hk hl w1 h1 h2 h3 h4)
  have HIh := Lib.hid ih
  obtain ⟨⟨k0, k1, k2, k3, k4, k5, k6, k7, k8⟩, _⟩ := nine_block h.res.blk
  rw [hr0] at k8
  obtain ⟨ba, off, ha, hbl, x0, x1, x2, x3, x4, x5⟩ := nds_at hI hk
  have hx : f.body.getD k ndU0 = f.body[k] := by simp [List.getD, hk]
  have hxo := hT _ (List.getElem_mem hk)
  rw [hx] at hv h22
  clear hx
  generalize f.body[k] = x at *
  obtain ⟨xk, xn, xa, xi, xt, xy⟩ := x
  simp only at *
  subst ha
  subst h22
  have hb1 := ba1 w (.cells #[.int .i64 22, .int .i64 xn, .int .i64 xa, .int .i64 xi, .string xt, .string xy] 48)
  have hq1 := heap_alloc_new w (.cells #[.int .i64 22, .int .i64 xn, .int .i64 xa, .int .i64 xi, .string xt, .string xy] 48)
  have HV := Lib.hid h
  have HI := Lib.hid hI
  have HR := Lib.hid hR
  have HO := Lib.hid hout
  have HVi := Lib.hid hv
  have HPs := Lib.hid hps
  have HXo := Lib.hid (hxo (.inr rfl))
  have hrs := hR.small.1
  have hrt := hR.taken
  clear h hI hR hout hv hps ih hT hbg hxo
  go_enter Tryd.func25, Tryd.ntmps25
  go_upto_block 0 with fail
  generalize w.alloc (.cells #[.int .i64 22, .int .i64 xn, .int .i64 xa, .int .i64 xi, .string xt, .string xy] 48) = w1 at *
  have HV1 := Lib.hid (HV.out.below hb1)
  have HB1 := Lib.hid hb1
  have HQ1 := Lib.hid hq1
  obtain ⟨⟨y0, y1, y2, y3, y4, y5⟩, _⟩ := six_block hq1
  have hsl := slot11_ok (declS ⟨22, xn, xa, xi, xt, xy⟩) xa w1 HV1.out (Nat.le_trans hBw hb1.size) hrs (by omega) HXo.out
  have HSl := Lib.hid (show Calls Tryd.prog 24 #[.pointer (some ⟨rb, 0, none⟩), .pointer (some ⟨c, 0, none⟩), .agg #[.string xt, .string xy, .bool (xi == 1), .bool false], .int .i64 xa] w1 (fun e w' => e = .returned (.agg #[.int .i64 3, .int .i64 (r.slots.length : Int), .string xy]) ∧ ∃ sv', Stg B fs f vp (.slice (some ⟨ba, off, none⟩) f.body.length cb) w1 w1 w' rb c mb mt p ov sv sv' up (s.take xt) (slotR r s (declS ⟨22, xn, xa, xi, xt, xy⟩) xa)) from hsl.mono fun e w' ⟨h1, ⟨sv', h2, h3⟩, h4, h5, h6⟩ => ⟨h1, sv', h2, h4, h5, h6, h3⟩)
  clear hb1 hq1 k0 k1 k2 k3 k4 k5 k6 k7 k8 x0 x1 x2 x3 x4 x5 hsl hrs hrt
  have hmv : w.heap.size < w1.heap.size := lt_of_heap HQ1.out
  obtain ⟨R1, hR1⟩ : ∃ R1, R1 = slotR r s (declS ⟨22, xn, xa, xi, xt, xy⟩) xa := ⟨_, rfl⟩
  rw [← hR1] at HSl HVi
  have hR1o : R1.out.length = f.body.length := by rw [hR1]; exact slotR_len.2.1.trans HO.out
  have hR1r : RoomV (s.take xt) R1 := by
    have h1 := slotR_len (r := r) (s := s) (x := declS ⟨22, xn, xa, xi, xt, xy⟩) (a := xa)
    have h2 := HR.out
    have h3 := h2.ents
    have h4 := h2.taken
    rw [hR1]
    exact ⟨h1.2.2 h2.small hr0, by rw [h1.1]; exact Nat.le_succ_of_le h3, by rw [h1.1]; exact Nat.succ_le_succ h4⟩
  have HRo := Lib.hid hR1o
  have HRr := Lib.hid hR1r
  have HBn := Lib.hid (show slotB r (declS ⟨22, xn, xa, xi, xt, xy⟩) = ⟨3, (r.slots.length : Int), xy⟩ from rfl)
  rw [HBn.out] at HVi
  clear hR1 hR1o hR1r hr0
  generalize (r.slots.length : Int) = si at *
  go_upto_region 15 with (go_at_call 24; (with_reducible refine HSl.out.mono ?_); rintro e w2 ⟨rfl, sv2, hs2⟩; have HS2 := Lib.hid hs2; clear hs2)
  have hz3 := heap_alloc_new w2 (.cells #[.int .i64 3, .int .i64 si, .string xy] 50)
  have HS3 := Lib.hid (HS2.out.next (ba1 w2 (.cells #[.int .i64 3, .int .i64 si, .string xy] 50)))
  have HZs := Lib.hid (show w1.heap.size ≤ w2.heap.size from HS2.out.size)
  generalize w2.alloc (.cells #[.int .i64 3, .int .i64 si, .string xy] 50) = w3 at *
  have HZ3 := Lib.hid hz3
  have hAw : A ≤ w3.heap.size := by have := HS3.out.bLe; omega
  have HP := Lib.hid (HPt.out w3 HS3.out.vis.res.lt hAw (nine_block HS3.out.vis.res.blk).1.2.2.2.2.1 (HI.out.below ((HB1.out.mono hBw).trans HS3.out.below) hAB))
  clear hz3 y0 y1 y2 y3 y5 y4
  generalize partsAt f.body fr k = ps at *
  go_wp2_with (go_at_call 40; (with_reducible refine HP.out.mono ?_); rintro e w6 ⟨⟨v, rfl, hrow⟩, hb6⟩; obtain ⟨pa, pc, rfl, hrw⟩ := rowAt_of hrow; have HRw := Lib.hid hrw; have HB6 := Lib.hid hb6; clear hrow hb6 hrw)
  have HS0 := Lib.hid (show Stg B fs f vp (.slice (some ⟨ba, off, none⟩) f.body.length cb) w3 w6 w6 rb c mb mt p ov sv2 sv2 up (s.take xt) R1 from ⟨HS3.out.vis.below HB6.out, HB6.out.mono HS3.out.bLe, KeepU.refl _ _, Nat.le_refl _, fun _ e => .inl e⟩)
  go_loopg [83] ps.length (fun m v83 wy => ∃ (i : Nat) (sv3 : Value), m = ps.length - i ∧ i ≤ ps.length ∧ v83 = .int .i64 (i : Int) ∧ Hid (Stg B fs f vp (.slice (some ⟨ba, off, none⟩) f.body.length cb) w3 w6 wy rb c mb mt p ov sv2 sv3 up (visitsN f.body fr fs (ps.take i) up (s.take xt) R1).2 (visitsN f.body fr fs (ps.take i) up (s.take xt) R1).1))
  case atStart => exact ⟨0, sv2, by omega, Nat.zero_le _, rfl, HS0⟩
  case round =>
    obtain ⟨i, sv3, hm, hi, rfl, HS⟩ := hrel
    by_cases hlt : i < ps.length
    · obtain ⟨pb, po, rfl, hpb, hpl6, hpc⟩ := HRw.out i hlt
      have hkp := (HS.out.keep pb hpl6 (fun hT => by
        have h1 := HS3.out.vis
        rcases hT with e | e | e | e | e
        · have := h1.res.lt; omega
        · have := h1.sc.ents.lt; omega
        · have := h1.sc.taken.lt; omega
        · have := own_lt h1.res.slots e; omega
        · have := own_lt h1.res.out e; omega))
      have hpc := (World.cell?_of_block (a := ⟨pb, po + i, none⟩) hkp).trans hpc
      have hpk := HPs.out ps[i] (List.getElem_mem hlt)
      have HNx := Lib.hid (visits_take (t := f.body) (fr := fr) (fs := fs) ps i hlt up (s.take xt) R1)
      have hgr := grow_ns (t := f.body) (fr := fr) (fs := fs) (ps.take i) up (s.take xt) R1
      generalize visitsN f.body fr fs (ps.take i) up (s.take xt) R1 = q at *
      have HC := Lib.hid (HIh.out _ hpk wr c mb mt p ov sv3 up q.2 false q.1 HS.out.vis (HI.out.below ((HB1.out.mono hBw).trans (HS3.out.below.trans HS.out.below)) hAB) (HRr.out.grow hgr) (hgr.2.2.2.1.trans HRo.out))
      generalize ps[i] = pi at *
      clear hkp hgr
      go_wp2_with (go_at_call 25; (with_reducible refine HC.out.mono ?_); rintro e w7 ⟨rfl, sv4, hs4⟩; have HS4 := Lib.hid (HS.out.visit hs4); clear hs4)
      go_roundg (ps.length - (i + 1))
      case measure => omega
      case rel => exact ⟨i + 1, sv4, rfl, hlt, by go_num, Lib.hid (by rw [HNx.out]; exact HS4.out)⟩
    · obtain rfl : i = ps.length := by omega
      rw [List.take_length] at HS
      have hgr := grow_ns (t := f.body) (fr := fr) (fs := fs) ps up (s.take xt) R1
      generalize visitsN f.body fr fs ps up (s.take xt) R1 = q at *
      have HQo := Lib.hid (hgr.2.2.2.1.trans HRo.out)
      have HQe := Lib.hid (HRr.out.grow hgr)
      have hSb := HS.out.ahead HB6.out
      have hSa := HS3.out.visit hSb
      have h2 := HS2.out.vis
      have hz := (hSb.keep w2.heap.size (lt_of_heap HZ3.out) (fun hT => by
        rcases hT with e | e | e | e | e
        · have := h2.res.lt; omega
        · have := h2.sc.ents.lt; omega
        · have := h2.sc.taken.lt; omega
        · have := own_lt h2.res.slots e; omega
        · have := own_lt h2.res.out e; omega)).trans HZ3.out
      have hy := (hSa.keep w.heap.size hmv (fun hT => by
        have h1 := HV.out
        rcases hT with e | e | e | e | e
        · have := h1.res.lt; omega
        · have := h1.sc.ents.lt; omega
        · have := h1.sc.taken.lt; omega
        · have := own_lt h1.res.slots e; omega
        · have := own_lt h1.res.out e; omega)).trans HQ1.out
      have hov := hSa.vis.res.out
      rw [HQo.out] at hov
      obtain ⟨g, cap, rfl, hgB, hgl, hcn, hcm, hgc, hgf⟩ := own_rowAt bnd_len hov HQo.out.symm (i := k) (by rw [HQo.out]; exact hk)
      have hg2 : g < w2.heap.size := own_lt h2.res.out rfl
      have hgw : g < w.heap.size := own_lt HV.out.res.out rfl
      have HSa := Lib.hid hSa
      have HZr := Lib.hid hz
      have HYr := Lib.hid hy
      obtain ⟨⟨z0, z1, z2⟩, _⟩ := three_block hz
      obtain ⟨⟨k0, k1, k2, k3, k4, k5, k6, k7, k8⟩, _⟩ := nine_block hSa.vis.res.blk
      have c0 := hgc 0 _ rfl
      have c1 := hgc 1 _ rfl
      have c2 := hgc 2 _ rfl
      have f0 := hgf (k * 3)
      have f1 := hgf (k * 3 + 1)
      have f2 := hgf (k * 3 + 2)
      rw [Nat.add_zero] at c0
      clear k0 k1 k2 k3 k4 k5 k7 k8 hov hSa hSb hz hy h2 hgc hgf HS HS0 HS2 HS3 hgr
      go_upto_region 20 with fail
      go_region_law (fail)
      all_goals
        have HS5 := Lib.hid ((HSa.out.put (b := ⟨3, si, xy⟩) HQo.out hk).next (Below.refl _ _).drew)
        have hz5 : ((((wr.setCell ⟨g, k * 3, none⟩ (.int .i64 3)).setCell ⟨g, k * 3 + 1, none⟩ (.int .i64 si)).setCell ⟨g, k * 3 + 2, none⟩ (.string xy)).drew).heap[w2.heap.size]? = wr.heap[w2.heap.size]? := by
          show (((wr.setCell ⟨g, k * 3, none⟩ (.int .i64 3)).setCell ⟨g, k * 3 + 1, none⟩ (.int .i64 si)).setCell ⟨g, k * 3 + 2, none⟩ (.string xy)).heap[w2.heap.size]? = _
          rw [Below.heap_setCell _ _ _ _ (show w2.heap.size ≠ g by omega), Below.heap_setCell _ _ _ _ (show w2.heap.size ≠ g by omega), Below.heap_setCell _ _ _ _ (show w2.heap.size ≠ g by omega)]
        have hy5 : ((((wr.setCell ⟨g, k * 3, none⟩ (.int .i64 3)).setCell ⟨g, k * 3 + 1, none⟩ (.int .i64 si)).setCell ⟨g, k * 3 + 2, none⟩ (.string xy)).drew).heap[w.heap.size]? = wr.heap[w.heap.size]? := by
          show (((wr.setCell ⟨g, k * 3, none⟩ (.int .i64 3)).setCell ⟨g, k * 3 + 1, none⟩ (.int .i64 si)).setCell ⟨g, k * 3 + 2, none⟩ (.string xy)).heap[w.heap.size]? = _
          rw [Below.heap_setCell _ _ _ _ (show w.heap.size ≠ g by omega), Below.heap_setCell _ _ _ _ (show w.heap.size ≠ g by omega), Below.heap_setCell _ _ _ _ (show w.heap.size ≠ g by omega)]
        have hz6 := hz5.trans HZr.out
        have hy6 := hy5.trans HYr.out
        have hrl : (q.1.put k ⟨3, si, xy⟩).out.length = f.body.length := (List.length_set : (q.1.out.set k ⟨3, si, xy⟩).length = _).trans HQo.out
        generalize (((wr.setCell ⟨g, k * 3, none⟩ (.int .i64 3)).setCell ⟨g, k * 3 + 1, none⟩ (.int .i64 si)).setCell ⟨g, k * 3 + 2, none⟩ (.string xy)).drew = w5 at *
        clear hz5 hy5 z0 z1 z2 k6 c0 c1 c2 f0 f1 f2
        have HS6 := Lib.hid (HS5.out.next (Below.refl _ _).drew)
        obtain ⟨⟨z0, z1, z2⟩, _⟩ := three_block hz6
        obtain ⟨⟨y0, y1, y2, y3, y4, y5⟩, _⟩ := six_block hy6
        obtain ⟨⟨k0, k1, k2⟩, _⟩ := three_block HS5.out.vis.sc.blk
        have he6 := HS6.out.vis.sc.ents
        have hel := HQe.out.ents
        have hem := HQe.out.small.1
        obtain ⟨wz, hup, hmz, htz⟩ := he6.store (by unfold maxLen; omega) HXo.out ⟨3, si, xy⟩
        have HMz := Lib.hid hmz
        have HTz := Lib.hid htz
        simp only [bndV] at hup
        clear hmz htz he6 hz6 hy6 hel hem y0 y1 y2 y3 y5 k1 k2
        go_upto_region 21 with fail
        go_still_tail 8, (by kernel_rfl)
        change wpList _ _ _ _ _ w5.drew
        have HS7 := Lib.hid ((HS6.out.bind HTz.out HMz.out).joins hBw HB1.out)
        go_wp2_with fail
        exact bodyPost_ret (v := .tuple #[]) (results_none rfl _ _ _) rfl ⟨rfl, sv3, by rw [HVi.out]; exact HS7.out⟩
theorem visit11_ok {A B rb : Nat} {fs : FileN} {f : FnU} {vp : Value} {ab : Option Addr} {cb : Nat} {fr : List Nat} (hbg : beginsN f.body = some fr) (hl : f.body.length ≤ 4096) (hT : ∀ x ∈ f.body, x.kind = 3 ∨ x.kind = 22 → x.text.size ≤ maxLen) (hAB : A ≤ B) (k : Nat) : k < f.body.length → VisitAt A B rb fs f vp ab cb fr k := by
  induction k using Nat.strongRecOn with
  | ind k ih =>
    intro hk w c mb mt p ov sv up s own r h hI hR hout
    by_cases hr : r.fault.2 ≠ 0
    · have HV := Lib.hid h
      have HE := Lib.hid (visitN_fault (fs := fs) (formed_of hbg) k up s own hr)
      obtain ⟨⟨k0, k1, k2, k3, k4, k5, k6, k7, k8⟩, _⟩ := nine_block h.res.blk
      have t1 : (r.fault.2 != 0) = true := by simpa using hr
      clear k0 k1 k2 k3 k4 k5 k6 k7 h hI hR hout hr ih
      go_enter Tryd.func25, Tryd.ntmps25
      go_wp2_with fail
      refine bodyPost_end (results_none rfl _ _ _) rfl ⟨rfl, sv, ?_⟩
      rw [HE.out]
      exact Stg.refl HV.out
    · have hr0 : r.fault.2 = 0 := by simpa using hr
      by_cases h22 : (f.body.getD k ndU0).kind = 22
      · exact visit_decl hbg hl hT hAB k hk (fun p hp => ih p hp (by omega)) w c mb mt p ov sv up s own r h hI hR hout hr0 h22
      · exact visit_else hbg hl hT hAB k hk (fun p hp => ih p hp (by omega)) w c mb mt p ov sv up s own r h hI hR hout hr0 h22
end Go.Proofs.YtbbaooeioogijaaDoor
namespace Go.Proofs.YtbbaooeioogijaaDoor

theorem firstE_0 {α : Type} {f : α → Int} : ∀ {L : List α} {n : Nat}, firstE f L n = none → ∀ x ∈ L, f x = 0
  | [], _, _, x, hx => by cases hx
  | y :: L, n, h, x, hx => by
    rw [firstE] at h
    split at h
    · cases h
    · rename_i h1
      rcases List.mem_cons.1 hx with rfl | hx
      · simpa using h1
      · exact firstE_0 h x hx
theorem firstB_ne {α : Type} {f : α → Int} : ∀ {L : List α} {n : Nat} {p : Int × Int}, firstE f L n = some p → p.2 ≠ 0
  | [], _, _, h => by cases h
  | y :: L, n, p, h => by
    rw [firstE] at h
    split at h
    · rename_i h1
      obtain rfl := Option.some.inj h
      exact h1
    · exact firstB_ne h
theorem unitE_0 {u : UnU} (h : (unitE u).2 = 0) : (∀ g ∈ u.globals, globE u.structs g = 0) ∧ ∀ f ∈ u.funcs, funcE u.structs f = 0 := by
  unfold unitE at h
  split at h
  · exact absurd h (by decide)
  · split at h
    · rename_i h1; exact absurd h h1
    · split at h
      · rename_i p hp; exact absurd h (firstB_ne hp)
      · rename_i hg
        split at h
        · rename_i p hp; exact absurd h (firstB_ne hp)
        · rename_i hf
          exact ⟨firstE_0 hg, firstE_0 hf⟩
theorem oneF_sub {s s' : FileN} {x : FnU} (h : oneF s x = .inr s') : ∀ y ∈ s'.funcs, y ∈ s.funcs ∨ y = x := by
  unfold oneF at h
  split at h
  · split at h
    · cases h
    split at h
    · cases h
    split at h
    · cases h
    split at h
    · obtain rfl := Sum.inr.inj h
      intro y hy
      exact List.mem_or_eq_of_mem_set hy
    · obtain rfl := Sum.inr.inj h
      exact fun y hy => .inl hy
  · split at h
    · cases h
    · obtain rfl := Sum.inr.inj h
      intro y hy
      rcases List.mem_append.1 hy with hy | hy
      · exact .inl hy
      · exact .inr (List.mem_singleton.1 hy)
theorem funcsN_sub : ∀ {L : List FnU} {s s' : FileN}, funcsN L s = .inr s' → ∀ y ∈ s'.funcs, y ∈ s.funcs ∨ y ∈ L
  | [], s, s', h => by
    rw [funcsN] at h
    obtain rfl := Sum.inr.inj h
    exact fun y hy => .inl hy
  | x :: r, s, s', h => by
    rw [funcsN] at h
    rcases hx : oneF s x with c | s1
    · rw [hx] at h; cases h
    · rw [hx] at h
      intro y hy
      rcases funcsN_sub h y hy with h1 | h1
      · rcases oneF_sub hx y h1 with h2 | rfl
        · exact .inl h2
        · exact .inr List.mem_cons_self
      · exact .inr (List.mem_cons_of_mem _ h1)
theorem fileN_0 {u : UnU} {fs : FileN} (h : fileN u = .inr fs) : (unitE u).2 = 0 ∧ ∃ s, globsN u.globals 0 ⟨[], []⟩ = .inr s ∧ funcsN u.funcs s = .inr fs ∧ s.funcs = [] ∧ FileOk s := by
  unfold fileN at h
  split at h
  · cases h
  · rename_i h1
    rcases hg : globsN u.globals 0 ⟨[], []⟩ with f | s1
    · rw [hg] at h; cases h
    · rw [hg] at h
      obtain ⟨a, b⟩ := globsN_ok fileOk_nil hg
      exact ⟨by simpa using h1, s1, rfl, h, b, a⟩
theorem file_funcs {u : UnU} {fs : FileN} (h : fileN u = .inr fs) : ∀ x ∈ fs.funcs, x ∈ u.funcs ∧ funcE u.structs x = 0 := fun x hx => by
  obtain ⟨h0, s, _, h2, h3, _⟩ := fileN_0 h
  rcases funcsN_sub h2 x hx with h4 | h4
  · rw [h3] at h4; cases h4
  · exact ⟨h4, (unitE_0 h0).2 x h4⟩
theorem file_ok {u : UnU} {fs : FileN} (h : fileN u = .inr fs) : FileOk fs := by
  obtain ⟨_, s, _, h2, _, h4⟩ := fileN_0 h
  exact (funcsN_ok h4 h2).1
theorem shapeB_fn {K : List Kn} {s : ByteArray} {ps : List Ty} {r : Ty} (ht : tyS s = some (.fn ps r)) (h : checkS K s = 0) : ps.length ≤ 8 := by
  unfold checkS at h
  rw [ht] at h
  simp only at h
  unfold checkT at h
  split at h
  · cases h
  split at h
  · cases h
  · rename_i h1
    have h2 : shapeT (.fn ps r) = true := by simpa using h1
    rw [shapeT, Bool.and_eq_true, decide_eq_true_eq] at h2
    exact h2.1
theorem bodyE_0 {T : List Nd} (h : bodyE T = 0) : T = [] ∨ (checkN9 T = 0 ∧ kindAt T (T.length - 1) = 21) := by
  unfold bodyE at h
  split at h
  · rename_i h1; exact .inl h1
  · split at h
    · rename_i h1; exact absurd h h1
    · rename_i h1
      split at h
      · cases h
      · rename_i h2
        exact .inr ⟨by simpa using h1, by simpa using h2⟩
theorem funcE_0 {L : List Sr} {x : FnU} (h : funcE L x = 0) : x.params.length ≤ 8 ∧ (x.body = [] ∨ (checkN9 x.body = 0 ∧ kindAt x.body (x.body.length - 1) = 21)) := by
  unfold funcE at h
  split at h
  · rename_i ps r ht
    split at h
    · cases h
    · rename_i h1
      split at h
      · cases h
      · have h2 : headF L x = true ∧ ps.length = x.params.length := by
          simp only [not_or] at h1
          exact ⟨by simpa using h1.1, by simpa using h1.2⟩
        refine ⟨?_, bodyE_0 h⟩
        rw [← h2.2]
        have h3 := h2.1
        unfold headF at h3
        rw [Bool.and_eq_true, Bool.and_eq_true, decide_eq_true_eq, decide_eq_true_eq] at h3
        have h4 := h3.2.2
        unfold checkN at h4
        split at h4
        · rename_i h5; exact absurd h4 (learnK_ne h5)
        · exact shapeB_fn ht h4
  · cases h
theorem check9_0 {t : List Nd} (h : checkN9 t = 0) : t.length ≤ 4096 ∧ (∀ x ∈ t, wellN x = true) ∧ ∃ fr, beginsN t = some fr ∧ (∀ k, k < t.length → fitsN t fr k = true) ∧ deepN t ≤ 48 := by
  unfold checkN9 at h
  split at h
  · cases h
  split at h
  · cases h
  rename_i h1 h2
  split at h
  · cases h
  rename_i fr hb
  split at h
  · cases h
  rename_i h3
  split at h
  · cases h
  rename_i h4
  refine ⟨by omega, fun x hx => ?_, fr, hb, fun k hk => ?_, by omega⟩
  · have h2' : t.all wellN = true := by simpa using h2
    exact List.all_eq_true.1 h2' x hx
  · have h3' : (List.range t.length).all (fitsN t fr) = true := by simpa using h3
    exact List.all_eq_true.1 h3' k (List.mem_range.2 hk)
theorem well_text {x : Nd} (h : wellN x = true) (hk : x.kind = 3 ∨ x.kind = 22) : isNameB x.text = true := by
  unfold wellN at h
  rw [Bool.and_eq_true] at h
  have h2 := h.2
  rw [if_neg (by omega), Bool.and_eq_true] at h2
  have h3 := h2.2
  unfold bodyOk at h3
  rw [if_neg (by omega)] at h3
  rcases hk with hk | hk
  · rw [if_pos (.inl hk), Bool.and_eq_true] at h3
    exact h3.1
  · rw [if_neg (by omega), if_pos hk, Bool.and_eq_true] at h3
    exact h3.1
theorem bodyOf_some {fs : FileN} (hok : FileOk fs) {n : ByteArray} {f : FnU} (h : bodyOf fs n = some f) : ∃ b, fs.look n = some b ∧ b.kind = 2 ∧ 0 ≤ b.idx ∧ b.idx.toNat < fs.funcs.length ∧ fs.funcs[b.idx.toNat]? = some f ∧ f.name = n ∧ f.body ≠ [] := by
  unfold bodyOf at h
  rcases hb : fs.look n with _ | b
  · rw [hb] at h; cases h
  · rw [hb] at h
    simp only at h
    split at h
    · cases h
    · rename_i h1
      obtain rfl := Option.some.inj h
      simp only [not_or, ne_eq, Classical.not_not] at h1
      obtain ⟨a1, a2, a3⟩ := hok.func hb h1.1
      refine ⟨b, rfl, h1.1, a1, a2, ?_, a3, h1.2⟩
      rw [List.getD_eq_getElem?_getD, List.getElem?_eq_getElem a2]
      rfl
theorem parms_append : ∀ (ps qs : List VrU) (a : Int) (r : ResN) (s : ScN), parmsR (ps ++ qs) a r s = parmsR qs a (parmsR ps a r s).1 (parmsR ps a r s).2
  | [], _, _, _, _ => rfl
  | p :: ps, qs, a, r, s => by rw [List.cons_append, parmsR, parmsR, parms_append ps qs]
def parmS (p : VrU) : SlU := ⟨p.name, p.type, p.vol, true⟩
theorem parms_take (ps : List VrU) (i : Nat) (hi : i < ps.length) (a : Int) (r : ResN) (s : ScN) : parmsR (ps.take (i + 1)) a r s = (slotR (parmsR (ps.take i) a r s).1 (parmsR (ps.take i) a r s).2 (parmS ps[i]) a, ((parmsR (ps.take i) a r s).2.take ps[i].name).bind ps[i].name (slotB (parmsR (ps.take i) a r s).1 (parmS ps[i]))) := by
  rw [List.take_succ_eq_append_getElem hi, parms_append]
  rfl
theorem parms_len : ∀ (ps : List VrU) (a : Int) (r : ResN) (s : ScN), (parmsR ps a r s).1.slots.length = r.slots.length + ps.length ∧ (parmsR ps a r s).1.out.length = r.out.length ∧ (parmsR ps a r s).2.ents.length = s.ents.length + ps.length ∧ (parmsR ps a r s).2.taken.length = s.taken.length + ps.length
  | [], a, r, s => ⟨rfl, rfl, rfl, rfl⟩
  | p :: ps, a, r, s => by
    obtain ⟨l1, l2, _⟩ := slotR_len (r := r) (s := s) (x := parmS p) (a := a)
    have e := parms_len ps a (slotR r s (parmS p) a) ((s.take p.name).bind p.name (slotB r (parmS p)))
    rw [l1, l2] at e
    obtain ⟨h1, h2, h3, h4⟩ := e
    rw [parmsR, List.length_cons]
    refine ⟨by rw [← Nat.add_assoc, Nat.add_right_comm]; exact h1, h2, ?_, ?_⟩
    · rw [← Nat.add_assoc, Nat.add_right_comm]; exact h3
    · rw [← Nat.add_assoc, Nat.add_right_comm]; exact h4
/-- parameters are the first slots -/
theorem parms_0 : ∀ (ps : List VrU) (a : Int) (r : ResN) (s : ScN), (parmsR ps a r s).1.fault.2 = 0 → r.fault.2 = 0 ∧ (parmsR ps a r s).1 = ⟨r.slots ++ ps.map parmS, r.out, r.fault⟩
  | [], a, r, s, h => ⟨h, by simp [parmsR]⟩
  | p :: ps, a, r, s, h => by
    rw [parmsR] at h ⊢
    obtain ⟨h1, h2⟩ := parms_0 ps a _ _ h
    obtain ⟨a1, _, _, a4⟩ := slotR_0 h1
    refine ⟨a1, ?_⟩
    rw [h2, a4]
    simp [parmS]
theorem parms_sc : ∀ (ps : List VrU) (a : Int) (r : ResN) (s : ScN), ScOk r.slots s → (parmsR ps a r s).1.fault.2 = 0 → ScOk (parmsR ps a r s).1.slots (parmsR ps a r s).2
  | [], a, r, s, hs, h => hs
  | p :: ps, a, r, s, hs, h => by
    rw [parmsR] at h ⊢
    obtain ⟨h1, _⟩ := parms_0 ps a _ _ h
    obtain ⟨a1, _, _, a4⟩ := slotR_0 h1
    refine parms_sc ps a _ _ ?_ h
    rw [a4]
    refine ScOk.bind ((hs.more _).take _) rfl ⟨by unfold slotB; simp, ⟨p.name, p.type, p.vol, true⟩, ?_, rfl, rfl⟩
    unfold slotB
    simp
def resR0 (f : FnU) : ResN := ⟨[], List.replicate f.body.length bnd0, (0, 0)⟩
/-- what is found of a right function -/
theorem gone_ok {fs : FileN} {f : FnU} {fr : List Nat} (hok : FileOk fs) (hb : beginsN f.body = some fr) (hne : f.body ≠ []) (h0 : (goneR fs f).fault.2 = 0) : Cov fs f.body 0 f.body.length (parmsR f.params f.at_ (resR0 f) ScN.new).1 (goneR fs f) ∧ (parmsR f.params f.at_ (resR0 f) ScN.new).1 = ⟨f.params.map parmS, List.replicate f.body.length bnd0, (0, 0)⟩ := by
  have hl : 0 < f.body.length := List.length_pos_iff.2 hne
  unfold goneR at h0 ⊢
  rw [hb] at h0 ⊢
  simp only [Option.getD_some] at h0 ⊢
  have hq : (parmsR f.params f.at_ (resR0 f) ScN.new).1.fault.2 = 0 := by
    by_cases hq : (parmsR f.params f.at_ (resR0 f) ScN.new).1.fault.2 = 0
    · exact hq
    · have := visitN_fault (t := f.body) (fr := fr) (fs := fs) (formed_of hb) (f.body.length - 1) [] (parmsR f.params f.at_ (resR0 f) ScN.new).2 true hq
      unfold resR0 at this hq
      rw [this] at h0
      exact absurd h0 hq
  obtain ⟨_, e⟩ := parms_0 _ _ _ _ hq
  refine ⟨?_, by rw [e]; rfl⟩
  have := (visit_cov hb hok (f.body.length - 1) (by omega) [] (parmsR f.params f.at_ (resR0 f) ScN.new).2 true (parmsR f.params f.at_ (resR0 f) ScN.new).1 (fun s' hs' => by
    rw [List.mem_singleton.1 hs']
    exact parms_sc _ _ _ _ (scOk_new _) hq) h0).2.1
  rw [begins_ends hb, show f.body.length - 1 + 1 = f.body.length by omega] at this
  exact this
end Go.Proofs.YtbbaooeioogijaaDoor
