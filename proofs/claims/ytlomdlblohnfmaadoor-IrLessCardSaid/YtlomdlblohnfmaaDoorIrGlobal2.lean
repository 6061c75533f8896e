/- A global is right: the program. -/
import Derived.Test.YtlomdlblohnfmaaDoorIrGlobal
import Derived.Test.YtlomdlblohnfmaaDoorIrBuilt
namespace Go.Proofs.YtlomdlblohnfmaaDoor
open Go.RowKit

structure GlAt (w : World) (b : Nat) (g : IrG) (vb vw : Value) : Prop where
  c0 : w.cell? ⟨b, 0, none⟩ = some (.string g.name)
  c1 : w.cell? ⟨b, 1, none⟩ = some vb
  c2 : w.cell? ⟨b, 2, none⟩ = some (.int .i64 g.align)
  c3 : w.cell? ⟨b, 3, none⟩ = some vw
theorem GlAt.below {w w' : World} {b : Nat} {g : IrG} {vb vw : Value} (h : GlAt w b g vb vw) (hb : Below w.heap.size w w') : GlAt w' b g vb vw := by
  have hl : b < w.heap.size := World.block_lt_of_cell? w _ h.c0
  exact ⟨by rw [hb.cell hl]; exact h.c0, by rw [hb.cell hl]; exact h.c1, by rw [hb.cell hl]; exact h.c2, by rw [hb.cell hl]; exact h.c3⟩
theorem glAt_new {w : World} {b : Nat} {T : TypeId} {g : IrG} {vb vw : Value} (h : w.heap[b]? = some (.cells #[.string g.name, vb, .int .i64 g.align, vw] T (0, 0))) : GlAt w b g vb vw := by
  constructor <;> simp [World.cell?, h]
theorem wordsOk_cons (fG fF : ByteArray → Int × Bool) (ns : Int) (bytes : List UInt8) (e : Int) (x : IrW) (r : List IrW) : wordsOk fG fF ns bytes e (x :: r) = (decide (e ≤ x.at_) && (decide (x.at_ % 4 = 0) && (decide (x.at_ ≤ (bytes.length : Int) - 4) && (((bytes.drop x.at_.toNat).take 4).all (fun c => c == 0) && (wordOk fG fF ns x && wordsOk fG fF ns bytes (x.at_ + 4) r))))) := by
  simp only [wordsOk, Bool.and_assoc]
set_option maxRecDepth 100000 in
set_option maxHeartbeats 16000000 in
theorem global_okI (L : List IrG) (i : Nat) (hi : i < L.length) (gv : Value) (as1 : Option Addr) (ns cs : Nat) (fs : Value) (hfs : ∃ a n c, fs = .slice a n c) (mg mf ng nf : Nat) (fG fF : ByteArray → Int × Bool) (w : World) (hK : KeysAt w) (hL : IsGls w.heap.size w gv L) (hG : MapI w mg ng fG) (hFm : MapI w mf nf fF) (_hns : (ns : Int) ≤ 140737488351232) :
    Calls Tryd.prog 20 #[progV gv (.slice as1 ns cs) fs mg mf, .int .i64 (i : Int)] w fun e w' => e = .returned (.bool (globalOk fG fF (ns : Nat) (i : Nat) L[i])) ∧ Below w.heap.size w w' := by
  obtain ⟨af, nf', cf, rfl⟩ := hfs
  obtain ⟨ag, cg, Q, rfl, hok, hQ, hq, hqs⟩ := hL
  have hil : (i : Int) < (L.length : Int) := by omega
  have hll : (L.length : Int) ≤ 140737488351232 := by have := hok.1; omega
  have hlq : i < Q.length := by rw [← hQ, List.length_map] at hi; exact hi
  have hqb : Q[i].1 = L[i] := by
    have h1 : (Q.map Prod.fst)[i]? = L[i]? := by rw [hQ]
    rw [List.getElem?_map, List.getElem?_eq_getElem hlq, List.getElem?_eq_getElem hi] at h1
    exact Option.some.inj h1
  obtain ⟨bb, off, ha, hbl, hrow⟩ := hq (fun e => by rw [e] at hlq; simp at hlq)
  subst ha
  have hba : Below w.heap.size w (w.alloc (.cells #[.slice (some ⟨bb, off, none⟩) L.length cg, .slice as1 ns cs, .slice af nf' cf, .map (some mg), .map (some mf)] 70)) := (Below.refl _ _).alloc (Nat.le_refl _) _
  have hp1 := prAt_new (heap_alloc_new w (.cells #[.slice (some ⟨bb, off, none⟩) L.length cg, .slice as1 ns cs, .slice af nf' cf, .map (some mg), .map (some mf)] 70))
  have e0 := hrow i _ (List.getElem?_eq_getElem hlq) 0 _ rfl
  have e1 := hrow i _ (List.getElem?_eq_getElem hlq) 1 _ rfl
  have e2 := hrow i _ (List.getElem?_eq_getElem hlq) 2 _ rfl
  have e3 := hrow i _ (List.getElem?_eq_getElem hlq) 3 _ rfl
  rw [← hba.cell hbl] at e0 e1 e2 e3
  simp only [Nat.add_zero] at e0
  obtain ⟨hnm, hby, hwd⟩ := hqs _ (List.getElem_mem hlq)
  rw [← hqb]
  clear hrow hqb hq hqs hQ hok hi
  generalize Q[i]'hlq = qx at *
  obtain ⟨g, vb, vw⟩ := qx
  simp only at e0 e1 e2 e3 hnm hby hwd ⊢
  have HBy := Lib.hid hby
  have HWd := Lib.hid hwd
  have HNm := Lib.hid hnm
  obtain ⟨ab, cb, rfl, hcb, hob, _⟩ := hby
  obtain ⟨aw, cw, rfl, how, _, _⟩ := hwd
  have hbl2 : (g.bytes.length : Int) ≤ 140737488351232 := by have := hob.1; omega
  have hwl : (g.words.length : Int) ≤ 140737488351232 := by have := how.1; omega
  have hcbi : (g.bytes.length : Int) ≤ (cb : Int) := by omega
  have HG := Lib.hid hG
  have HFm := Lib.hid hFm
  have HK := Lib.hid hK
  clear hlq hcb hob how hG hFm hK hnm
  unfold progV
  go_enter Tryd.func20, Tryd.ntmps20
  go_upto_region 1 with fail
  generalize World.alloc w _ = w1 at *
  obtain ⟨p0, p1, p2, p3, p4⟩ := hp1
  have HP1 := Lib.hid (PrAt.mk p0 p1 p2 p3 p4)
  have HB1 := Lib.hid hba
  have hg2 := glAt_new (heap_alloc_new w1 (.cells #[.string g.name, .slice ab g.bytes.length cb, .int .i64 g.align, .slice aw g.words.length cw] 50))
  have hb2 : Below w1.heap.size w1 (w1.alloc (.cells #[.string g.name, .slice ab g.bytes.length cb, .int .i64 g.align, .slice aw g.words.length cw] 50)) := (Below.refl _ _).alloc (Nat.le_refl _) _
  go_upto_region 2 with fail
  generalize World.alloc w1 _ = w2 at *
  have HB2 := Lib.hid (HB1.out.trans (hb2.mono HB1.out.size))
  have HP2 := Lib.hid (HP1.out.below hb2)
  have HGl := Lib.hid hg2
  have HK2 := Lib.hid (HK.out.below HB2.out)
  have hna := fun w9 (hK9 : KeysAt w9) => lexIsName_any g.name w9 hK9
  obtain ⟨b0, hb0⟩ : ∃ b, isNameB g.name = b := ⟨_, rfl⟩
  rw [hb0] at hna
  have HNa := Lib.hid hna
  obtain ⟨xg, hxg⟩ : ∃ x, (fG g.name).1 = x := ⟨_, rfl⟩
  have HXe := Lib.hid hxg
  have HGo := Lib.hid (show globalOk fG fF (ns : Nat) (i : Nat) g = (b0 && decide (xg = (i : Nat)) && decide (g.align = 1 ∨ g.align = 2 ∨ g.align = 4) && decide (1 ≤ g.bytes.length ∧ g.bytes.length ≤ 65536) && wordsOk fG fF (ns : Nat) g.bytes 0 g.words) by unfold globalOk; rw [hb0, hxg])
  clear hna hb0 hxg hb2 hg2 p0 p1 p2 p3 p4 e0 e1 e2 e3 hba
  obtain ⟨p0, p1, p2, p3, p4⟩ := HP2.out
  obtain ⟨g0, g1, g2, g3⟩ := HGl.out
  obtain ⟨hd, hhd⟩ : ∃ b, b = (b0 && decide (xg = (i : Nat)) && decide (g.align = 1 ∨ g.align = 2 ∨ g.align = 4) && decide (1 ≤ g.bytes.length ∧ g.bytes.length ≤ 65536)) := ⟨_, rfl⟩
  rw [← hhd] at HGo
  have HHd := Lib.hid hhd
  clear hhd
  go_cut [54] (fun s54 wx => ∃ bad : Bool, s54 = .bool bad ∧ Hid (hd = !bad) ∧ Hid (Below w2.heap.size w2 wx))
  case first =>
    cases b0 with
    | false =>
      go_wp2_with (go_at_call 38; (with_reducible refine (HNa.out _ HK2.out).mono ?_); rintro e w3 ⟨rfl, hb3⟩; have HB3 := Lib.hid hb3; obtain ⟨p0, p1, p2, p3, p4⟩ := HP2.out.below hb3; obtain ⟨g0, g1, g2, g3⟩ := HGl.out.below hb3; have hlk := (HG.out.below (HB2.out.trans (hb3.mono HB2.out.size))).look HNm.out; rw [HXe.out] at hlk; clear hb3)
      go_meet
      exact ⟨true, rfl, Lib.hid (by rw [HHd.out]; rfl), HB3⟩
    | true =>
      by_cases hx : xg = (i : Nat)
      · have t1 : (xg != (i : Int)) = false := by rw [hx]; simp
        have Hx := Lib.hid (decide_eq_true hx)
        rcases (show (g.align ≠ 1 ∧ g.align ≠ 2 ∧ g.align ≠ 4) ∨ g.align = 1 ∨ (g.align ≠ 1 ∧ g.align = 2) ∨ (g.align ≠ 1 ∧ g.align ≠ 2 ∧ g.align = 4) by omega) with ⟨a1, a2, a3⟩ | a1 | ⟨a1, a2⟩ | ⟨a1, a2, a3⟩
        · have HAl := Lib.hid (decide_eq_false (show ¬ (g.align = 1 ∨ g.align = 2 ∨ g.align = 4) by omega))
          have s1 : (g.align != 1) = true := by simpa using a1
          have s2 : (g.align != 2) = true := by simpa using a2
          have s4 : (g.align != 4) = true := by simpa using a3
          clear hx a1 a2 a3
          go_wp2_with (go_at_call 38; (with_reducible refine (HNa.out _ HK2.out).mono ?_); rintro e w3 ⟨rfl, hb3⟩; have HB3 := Lib.hid hb3; obtain ⟨p0, p1, p2, p3, p4⟩ := HP2.out.below hb3; obtain ⟨g0, g1, g2, g3⟩ := HGl.out.below hb3; have hlk := (HG.out.below (HB2.out.trans (hb3.mono HB2.out.size))).look HNm.out; rw [HXe.out] at hlk; clear hb3)
          go_meet
          exact ⟨true, rfl, Lib.hid (by rw [HHd.out]; rw [HAl.out]; simp), HB3⟩
        · have HAl := Lib.hid (decide_eq_true (show g.align = 1 ∨ g.align = 2 ∨ g.align = 4 by omega))
          have s1 : (g.align != 1) = false := by rw [a1]; rfl
          rcases (show g.bytes.length < 1 ∨ (1 ≤ g.bytes.length ∧ 65536 < g.bytes.length) ∨ (1 ≤ g.bytes.length ∧ g.bytes.length ≤ 65536) by omega) with l1 | ⟨l1, l2⟩ | l1
          · have HLn := Lib.hid (decide_eq_false (show ¬ (1 ≤ g.bytes.length ∧ g.bytes.length ≤ 65536) by omega))
            have s5 : (g.bytes.length : Int) < 1 := by omega
            clear hx l1 a1
            go_wp2_with (go_at_call 38; (with_reducible refine (HNa.out _ HK2.out).mono ?_); rintro e w3 ⟨rfl, hb3⟩; have HB3 := Lib.hid hb3; obtain ⟨p0, p1, p2, p3, p4⟩ := HP2.out.below hb3; obtain ⟨g0, g1, g2, g3⟩ := HGl.out.below hb3; have hlk := (HG.out.below (HB2.out.trans (hb3.mono HB2.out.size))).look HNm.out; rw [HXe.out] at hlk; clear hb3)
            go_meet
            exact ⟨true, rfl, Lib.hid (by rw [HHd.out]; rw [HLn.out]; simp), HB3⟩
          · have HLn := Lib.hid (decide_eq_false (show ¬ (1 ≤ g.bytes.length ∧ g.bytes.length ≤ 65536) by omega))
            have s5 : 1 ≤ (g.bytes.length : Int) := by omega
            have s6 : (65536 : Int) < (g.bytes.length : Int) := by omega
            clear hx l1 l2 a1
            go_wp2_with (go_at_call 38; (with_reducible refine (HNa.out _ HK2.out).mono ?_); rintro e w3 ⟨rfl, hb3⟩; have HB3 := Lib.hid hb3; obtain ⟨p0, p1, p2, p3, p4⟩ := HP2.out.below hb3; obtain ⟨g0, g1, g2, g3⟩ := HGl.out.below hb3; have hlk := (HG.out.below (HB2.out.trans (hb3.mono HB2.out.size))).look HNm.out; rw [HXe.out] at hlk; clear hb3)
            go_meet
            exact ⟨true, rfl, Lib.hid (by rw [HHd.out]; rw [HLn.out]; simp), HB3⟩
          · have HLn := Lib.hid (decide_eq_true l1)
            have s5 : 1 ≤ (g.bytes.length : Int) := by omega
            have s6 : (g.bytes.length : Int) ≤ 65536 := by omega
            clear hx l1 a1
            go_wp2_with (go_at_call 38; (with_reducible refine (HNa.out _ HK2.out).mono ?_); rintro e w3 ⟨rfl, hb3⟩; have HB3 := Lib.hid hb3; obtain ⟨p0, p1, p2, p3, p4⟩ := HP2.out.below hb3; obtain ⟨g0, g1, g2, g3⟩ := HGl.out.below hb3; have hlk := (HG.out.below (HB2.out.trans (hb3.mono HB2.out.size))).look HNm.out; rw [HXe.out] at hlk; clear hb3)
            go_meet
            exact ⟨false, by rw [show decide ((g.bytes.length : Int) < 1) = false from decide_eq_false (by omega), show decide ((65536 : Int) < (g.bytes.length : Int)) = false from decide_eq_false (by omega)]; rfl, Lib.hid (by rw [HHd.out]; rw [Hx.out, HAl.out, HLn.out]; rfl), HB3⟩
        · have HAl := Lib.hid (decide_eq_true (show g.align = 1 ∨ g.align = 2 ∨ g.align = 4 by omega))
          have s1 : (g.align != 1) = true := by simpa using a1
          have s2 : (g.align != 2) = false := by rw [a2]; rfl
          rcases (show g.bytes.length < 1 ∨ (1 ≤ g.bytes.length ∧ 65536 < g.bytes.length) ∨ (1 ≤ g.bytes.length ∧ g.bytes.length ≤ 65536) by omega) with l1 | ⟨l1, l2⟩ | l1
          · have HLn := Lib.hid (decide_eq_false (show ¬ (1 ≤ g.bytes.length ∧ g.bytes.length ≤ 65536) by omega))
            have s5 : (g.bytes.length : Int) < 1 := by omega
            clear hx l1 a1 a2
            go_wp2_with (go_at_call 38; (with_reducible refine (HNa.out _ HK2.out).mono ?_); rintro e w3 ⟨rfl, hb3⟩; have HB3 := Lib.hid hb3; obtain ⟨p0, p1, p2, p3, p4⟩ := HP2.out.below hb3; obtain ⟨g0, g1, g2, g3⟩ := HGl.out.below hb3; have hlk := (HG.out.below (HB2.out.trans (hb3.mono HB2.out.size))).look HNm.out; rw [HXe.out] at hlk; clear hb3)
            go_meet
            exact ⟨true, rfl, Lib.hid (by rw [HHd.out]; rw [HLn.out]; simp), HB3⟩
          · have HLn := Lib.hid (decide_eq_false (show ¬ (1 ≤ g.bytes.length ∧ g.bytes.length ≤ 65536) by omega))
            have s5 : 1 ≤ (g.bytes.length : Int) := by omega
            have s6 : (65536 : Int) < (g.bytes.length : Int) := by omega
            clear hx l1 l2 a1 a2
            go_wp2_with (go_at_call 38; (with_reducible refine (HNa.out _ HK2.out).mono ?_); rintro e w3 ⟨rfl, hb3⟩; have HB3 := Lib.hid hb3; obtain ⟨p0, p1, p2, p3, p4⟩ := HP2.out.below hb3; obtain ⟨g0, g1, g2, g3⟩ := HGl.out.below hb3; have hlk := (HG.out.below (HB2.out.trans (hb3.mono HB2.out.size))).look HNm.out; rw [HXe.out] at hlk; clear hb3)
            go_meet
            exact ⟨true, rfl, Lib.hid (by rw [HHd.out]; rw [HLn.out]; simp), HB3⟩
          · have HLn := Lib.hid (decide_eq_true l1)
            have s5 : 1 ≤ (g.bytes.length : Int) := by omega
            have s6 : (g.bytes.length : Int) ≤ 65536 := by omega
            clear hx l1 a1 a2
            go_wp2_with (go_at_call 38; (with_reducible refine (HNa.out _ HK2.out).mono ?_); rintro e w3 ⟨rfl, hb3⟩; have HB3 := Lib.hid hb3; obtain ⟨p0, p1, p2, p3, p4⟩ := HP2.out.below hb3; obtain ⟨g0, g1, g2, g3⟩ := HGl.out.below hb3; have hlk := (HG.out.below (HB2.out.trans (hb3.mono HB2.out.size))).look HNm.out; rw [HXe.out] at hlk; clear hb3)
            go_meet
            exact ⟨false, by rw [show decide ((g.bytes.length : Int) < 1) = false from decide_eq_false (by omega), show decide ((65536 : Int) < (g.bytes.length : Int)) = false from decide_eq_false (by omega)]; rfl, Lib.hid (by rw [HHd.out]; rw [Hx.out, HAl.out, HLn.out]; rfl), HB3⟩
        · have HAl := Lib.hid (decide_eq_true (show g.align = 1 ∨ g.align = 2 ∨ g.align = 4 by omega))
          have s1 : (g.align != 1) = true := by simpa using a1
          have s2 : (g.align != 2) = true := by simpa using a2
          have s4 : (g.align != 4) = false := by rw [a3]; rfl
          rcases (show g.bytes.length < 1 ∨ (1 ≤ g.bytes.length ∧ 65536 < g.bytes.length) ∨ (1 ≤ g.bytes.length ∧ g.bytes.length ≤ 65536) by omega) with l1 | ⟨l1, l2⟩ | l1
          · have HLn := Lib.hid (decide_eq_false (show ¬ (1 ≤ g.bytes.length ∧ g.bytes.length ≤ 65536) by omega))
            have s5 : (g.bytes.length : Int) < 1 := by omega
            clear hx l1 a1 a2 a3
            go_wp2_with (go_at_call 38; (with_reducible refine (HNa.out _ HK2.out).mono ?_); rintro e w3 ⟨rfl, hb3⟩; have HB3 := Lib.hid hb3; obtain ⟨p0, p1, p2, p3, p4⟩ := HP2.out.below hb3; obtain ⟨g0, g1, g2, g3⟩ := HGl.out.below hb3; have hlk := (HG.out.below (HB2.out.trans (hb3.mono HB2.out.size))).look HNm.out; rw [HXe.out] at hlk; clear hb3)
            go_meet
            exact ⟨true, rfl, Lib.hid (by rw [HHd.out]; rw [HLn.out]; simp), HB3⟩
          · have HLn := Lib.hid (decide_eq_false (show ¬ (1 ≤ g.bytes.length ∧ g.bytes.length ≤ 65536) by omega))
            have s5 : 1 ≤ (g.bytes.length : Int) := by omega
            have s6 : (65536 : Int) < (g.bytes.length : Int) := by omega
            clear hx l1 l2 a1 a2 a3
            go_wp2_with (go_at_call 38; (with_reducible refine (HNa.out _ HK2.out).mono ?_); rintro e w3 ⟨rfl, hb3⟩; have HB3 := Lib.hid hb3; obtain ⟨p0, p1, p2, p3, p4⟩ := HP2.out.below hb3; obtain ⟨g0, g1, g2, g3⟩ := HGl.out.below hb3; have hlk := (HG.out.below (HB2.out.trans (hb3.mono HB2.out.size))).look HNm.out; rw [HXe.out] at hlk; clear hb3)
            go_meet
            exact ⟨true, rfl, Lib.hid (by rw [HHd.out]; rw [HLn.out]; simp), HB3⟩
          · have HLn := Lib.hid (decide_eq_true l1)
            have s5 : 1 ≤ (g.bytes.length : Int) := by omega
            have s6 : (g.bytes.length : Int) ≤ 65536 := by omega
            clear hx l1 a1 a2 a3
            go_wp2_with (go_at_call 38; (with_reducible refine (HNa.out _ HK2.out).mono ?_); rintro e w3 ⟨rfl, hb3⟩; have HB3 := Lib.hid hb3; obtain ⟨p0, p1, p2, p3, p4⟩ := HP2.out.below hb3; obtain ⟨g0, g1, g2, g3⟩ := HGl.out.below hb3; have hlk := (HG.out.below (HB2.out.trans (hb3.mono HB2.out.size))).look HNm.out; rw [HXe.out] at hlk; clear hb3)
            go_meet
            exact ⟨false, by rw [show decide ((g.bytes.length : Int) < 1) = false from decide_eq_false (by omega), show decide ((65536 : Int) < (g.bytes.length : Int)) = false from decide_eq_false (by omega)]; rfl, Lib.hid (by rw [HHd.out]; rw [Hx.out, HAl.out, HLn.out]; rfl), HB3⟩
      · have Hx := Lib.hid (decide_eq_false hx)
        have t1 : (xg != (i : Int)) = true := by simpa using hx
        clear hx
        go_wp2_with (go_at_call 38; (with_reducible refine (HNa.out _ HK2.out).mono ?_); rintro e w3 ⟨rfl, hb3⟩; have HB3 := Lib.hid hb3; obtain ⟨p0, p1, p2, p3, p4⟩ := HP2.out.below hb3; obtain ⟨g0, g1, g2, g3⟩ := HGl.out.below hb3; have hlk := (HG.out.below (HB2.out.trans (hb3.mono HB2.out.size))).look HNm.out; rw [HXe.out] at hlk; clear hb3)
        go_meet
        exact ⟨true, rfl, Lib.hid (by rw [HHd.out]; rw [Hx.out]; simp), HB3⟩
  case rest =>
    obtain ⟨bad, rfl, HBd, HBw⟩ := hcut
    have HB4 := Lib.hid (HB2.out.trans (HBw.out.mono HB2.out.size))
    clear g0 g1 g2 g3 p0 p1 p2 p3 p4
    cases bad with
    | true =>
      go_wp2_with fail
      go_ret
      exact ⟨by rw [HGo.out, HBd.out]; rfl, HB4.out⟩
    | false =>
      have HGl4 := Lib.hid (HGl.out.below HBw.out)
      have HP4 := Lib.hid (HP2.out.below HBw.out)
      obtain ⟨g0, g1, g2, g3⟩ := HGl4.out
      go_wp2_with fail
      clear g0 g1 g2 g3
      go_loopg [6, 58] g.words.length (fun gg v6 v58 wy => ∃ (j : Nat) (e : Int), j ≤ g.words.length ∧ j + gg = g.words.length ∧ v6 = .int .i64 e ∧ v58 = .int .i64 (j : Int) ∧ 0 ≤ e ∧ e ≤ (g.bytes.length : Int) ∧ Hid (wordsOk fG fF (ns : Nat) g.bytes 0 g.words = wordsOk fG fF (ns : Nat) g.bytes e (g.words.drop j)) ∧ Hid (Below w2.heap.size w2 wy))
      case atStart => exact ⟨0, 0, by omega, by omega, rfl, rfl, Int.le_refl _, by omega, Lib.hid rfl, HBw⟩
      case round =>
        obtain ⟨j, e, hj, hjg, rfl, rfl, he0, he1, HWo, HW⟩ := hrel
        by_cases hlt : j < g.words.length
        · obtain ⟨_, _, e2, _, hs, htx⟩ := HWd.out
          simp only [Value.slice.injEq, true_and] at e2
          obtain ⟨e2, e3⟩ := e2
          subst e2 e3
          obtain ⟨b5, off5, e4, hbl5, hrow⟩ := hs (fun e => by rw [e] at hlt; simp at hlt)
          subst e4
          have HBr := Lib.hid (HB2.out.trans (HW.out.mono HB2.out.size))
          have e0 := hrow j _ (List.getElem?_eq_getElem hlt) 0 _ rfl
          have e1 := hrow j _ (List.getElem?_eq_getElem hlt) 1 _ rfl
          have e2 := hrow j _ (List.getElem?_eq_getElem hlt) 2 _ rfl
          have e3 := hrow j _ (List.getElem?_eq_getElem hlt) 3 _ rfl
          rw [← HBr.out.cell hbl5] at e0 e1 e2 e3
          simp only [Nat.add_zero] at e0
          have hxt := htx _ (List.getElem_mem hlt)
          have HWc := Lib.hid (show wordsOk fG fF (ns : Nat) g.bytes 0 g.words = (decide (e ≤ g.words[j].at_) && (decide (g.words[j].at_ % 4 = 0) && (decide (g.words[j].at_ ≤ (g.bytes.length : Int) - 4) && (((g.bytes.drop g.words[j].at_.toNat).take 4).all (fun c => c == 0) && (wordOk fG fF (ns : Nat) g.words[j] && wordsOk fG fF (ns : Nat) g.bytes (g.words[j].at_ + 4) (g.words.drop (j + 1))))))) by
            rw [HWo.out, List.drop_eq_getElem_cons hlt, wordsOk_cons])
          have hjl : (j : Int) < (g.words.length : Int) := by omega
          clear hrow htx HWo
          generalize g.words[j]'hlt = x at *
          clear hlt
          have HB5 := Lib.hid (show Below wr.heap.size wr (wr.alloc (.cells #[.int .i64 x.at_, .int .i64 x.kind, .int .i64 x.num, .string x.text] 52)) from (Below.refl _ _).alloc (Nat.le_refl _) _)
          have hw5 := wdAt_new (heap_alloc_new wr (.cells #[.int .i64 x.at_, .int .i64 x.kind, .int .i64 x.num, .string x.text] 52))
          go_upto_region 8 with fail
          generalize World.alloc wr _ = w5 at *
          have HW5 := Lib.hid (HW.out.trans (HB5.out.mono HW.out.size))
          have HWd5 := Lib.hid hw5
          have HGl5 := Lib.hid (HGl.out.below HW5.out)
          have HP5 := Lib.hid (HP2.out.below HW5.out)
          obtain ⟨x0, x1, x2, x3⟩ := hw5
          obtain ⟨g0, g1, g2, g3⟩ := HGl5.out
          obtain ⟨p0, p1, p2, p3, p4⟩ := HP5.out
          obtain ⟨r4, hr4⟩ : ∃ r, ((g.bytes.drop x.at_.toNat).take 4).all (fun c => c == 0) = !r := ⟨_, (Bool.not_not _).symm⟩
          obtain ⟨r5, hr5⟩ : ∃ r, wordOk fG fF (ns : Nat) x = r := ⟨_, rfl⟩
          rw [hr4, hr5] at HWc
          clear e0 e1 e2 e3
          go_cut [97] (fun s97 wx => ∃ bad : Bool, s97 = .bool bad ∧ Hid (wordsOk fG fF (ns : Nat) g.bytes 0 g.words = (!bad && wordsOk fG fF (ns : Nat) g.bytes (x.at_ + 4) (g.words.drop (j + 1)))) ∧ Hid (bad = false → 0 ≤ x.at_ ∧ x.at_ + 4 ≤ (g.bytes.length : Int)) ∧ Hid (Below w5.heap.size w5 wx))
          case first =>
            by_cases z1 : e ≤ x.at_
            · have Z1 := Lib.hid (decide_eq_true z1)
              by_cases z2 : x.at_ % 4 = 0
              · have Z2 := Lib.hid (decide_eq_true z2)
                have t2 : (x.at_ % 4 != 0) = false := by rw [z2]; rfl
                by_cases z3 : x.at_ ≤ (g.bytes.length : Int) - 4
                · have Z3 := Lib.hid (decide_eq_true z3)
                  obtain ⟨k, hk⟩ : ∃ k : Nat, x.at_ = (k : Int) := ⟨x.at_.toNat, by omega⟩
                  rw [hk] at x0 t2 hr4 z1 z3 HWc Z1 Z2 Z3
                  rw [Int.toNat_natCast] at hr4
                  have hbn : g.bytes ≠ [] := fun e => by rw [e] at z3; simp at z3; omega
                  obtain ⟨_, _, y2, _, _, hsb⟩ := HBy.out
                  simp only [Value.slice.injEq, true_and] at y2
                  obtain ⟨y2, y3⟩ := y2
                  subst y2 y3
                  obtain ⟨b7, o7, y2, hbl7, hr7⟩ := hsb hbn
                  subst y2
                  have HSb := Lib.hid (show IsSl 1 byteCells1 w5.heap.size w5 (some ⟨b7, o7, none⟩) g.bytes from (hsb.below (HB2.out.trans (HW5.out.mono HB2.out.size)) (Nat.le_refl _)).mono (HB2.out.trans (HW5.out.mono HB2.out.size)).size)
                  have HF4 := Lib.hid (four_any b7 o7 4 (cb - k) g.bytes k (by omega) r4 hr4 w5 HSb.out)
                  have k1 : (k : Int) ≤ (cb : Int) := by omega
                  have k2 : (k : Int) + 4 ≤ (cb : Int) := by omega
                  have k3 : ((k : Int) + 4).toNat = k + 4 := by omega
                  have k4 : ¬ cb = k := by omega
                  have hv5 := fun w9 (h9 : Below w5.heap.size w5 w9) => word_okI (some ⟨bb, off, none⟩) L.length cg as1 ns cs (.slice af nf' cf) ⟨_, _, _, rfl⟩ mg mf ng nf fG fF x w9 ((HG.out.below (HB2.out.trans (HW5.out.mono HB2.out.size))).below h9) ((HFm.out.below (HB2.out.trans (HW5.out.mono HB2.out.size))).below h9) hxt r5 hr5
                  unfold progV wordV at hv5
                  rw [hk] at hv5
                  have HV5 := Lib.hid hv5
                  have HY := Lib.hid (show 0 ≤ x.at_ ∧ x.at_ + 4 ≤ (g.bytes.length : Int) by omega)
                  clear hsb hbn hr7 z2 hv5
                  cases r4 with
                  | true =>
                    go_wp2_with (go_at_call 39; refine HF4.out.mono ?_; rintro e w6 ⟨rfl, hb6⟩; have HB6 := Lib.hid hb6; clear hb6)
                    go_meet
                    exact ⟨true, by simp, Lib.hid (by rw [HWc.out]; simp), Lib.hid (fun h => by cases h), HB6⟩
                  | false =>
                    go_wp2_with (first
                      | (go_at_call 39; refine HF4.out.mono ?_; rintro e w6 ⟨rfl, hb6⟩; have HB6 := Lib.hid hb6; obtain ⟨x0, x1, x2, x3⟩ := HWd5.out.below hb6; rw [hk] at x0; obtain ⟨p0, p1, p2, p3, p4⟩ := HP5.out.below hb6; clear hb6)
                      | (go_at_call 41; (with_reducible refine (HV5.out _ HB6.out).mono ?_); rintro e w7 ⟨rfl, hb7⟩; have HB7 := Lib.hid (HB6.out.trans (hb7.mono HB6.out.size)); clear hb7))
                    go_meet
                    exact ⟨!r5, by (simp; intro h; omega), Lib.hid (by rw [HWc.out, hk, Z1.out, Z2.out, Z3.out]; simp), Lib.hid (fun _ => HY.out), HB7⟩
                · have Z3 := Lib.hid (decide_eq_false z3)
                  have t3 : (g.bytes.length : Int) - 4 < x.at_ := by omega
                  clear z2 z3
                  go_wp2_with fail
                  go_meet
                  exact ⟨true, by simp, Lib.hid (by rw [HWc.out, Z3.out]; simp), Lib.hid (fun h => by cases h), Lib.hid (Below.refl _ _)⟩
              · have Z2 := Lib.hid (decide_eq_false z2)
                have t2 : (x.at_ % 4 != 0) = true := by simpa using z2
                clear z2
                go_wp2_with fail
                go_meet
                exact ⟨true, by simp, Lib.hid (by rw [HWc.out, Z2.out]; simp), Lib.hid (fun h => by cases h), Lib.hid (Below.refl _ _)⟩
            · have Z1 := Lib.hid (decide_eq_false z1)
              have t1 : x.at_ < e := by omega
              clear z1
              go_wp2_with fail
              go_meet
              exact ⟨true, rfl, Lib.hid (by rw [HWc.out, Z1.out]; rfl), Lib.hid (fun h => by cases h), Lib.hid (Below.refl _ _)⟩
          case rest =>
            obtain ⟨bad, rfl, HWn, HAt, HBx⟩ := hcut
            have HW6 := Lib.hid (HW5.out.trans (HBx.out.mono HW5.out.size))
            clear x0 x1 x2 x3 g0 g1 g2 g3 p0 p1 p2 p3 p4
            cases bad with
            | true =>
              have HFin := Lib.hid (show globalOk fG fF (ns : Nat) (i : Nat) g = false by rw [HGo.out, HWn.out]; simp)
              go_wp2_with fail
              go_ret
              exact ⟨by rw [HFin.out]; rfl, HB2.out.trans (HW6.out.mono HB2.out.size)⟩
            | false =>
              obtain ⟨y0, y1⟩ := HAt.out rfl
              obtain ⟨x0, _, _, _⟩ := HWd5.out.below HBx.out
              go_wp2_with fail
              go_roundg (g.words.length - (j + 1))
              case measure => omega
              case rel => exact ⟨j + 1, x.at_ + 4, by omega, by omega, rfl, by rw [Int.natCast_add]; rfl, by omega, by omega, Lib.hid (by rw [HWn.out]; rfl), HW6⟩
        · obtain rfl : j = g.words.length := by omega
          have t3 : (g.words.length : Int) ≤ (g.words.length : Int) := Int.le_refl _
          have HFin := Lib.hid (show globalOk fG fF (ns : Nat) (i : Nat) g = true by rw [HGo.out, HBd.out, HWo.out, List.drop_length]; rfl)
          clear hlt HWo
          go_wp2_with fail
          go_ret
          exact ⟨by rw [HFin.out]; rfl, HB2.out.trans (HW.out.mono HB2.out.size)⟩
end Go.Proofs.YtlomdlblohnfmaaDoor

