/- All that a function names is there. -/
import Derived.Test.YtlomdlblohnfmaaDoorIrMap
import Derived.Test.YtlomdlblohnfmaaDoorIrFunc
import Derived.Test.YtlomdlblohnfmaaDoorIrExits
namespace Go.Proofs.YtlomdlblohnfmaaDoor
open Go.RowKit

def progV (gs ss fs : Value) (mg mf : Nat) : Value := .agg #[gs, ss, fs, .map (some mg), .map (some mf)]
/-- an operation that names what is not there -/
def badName (fG fF : ByteArray → Int × Bool) (o : IrO) : Bool := (decide (o.kind = 22) && !(fG o.text).2) || (decide (o.kind = 24) && !(fF o.text).2)
def namedI (fG fF : ByteArray → Int × Bool) (f : IrF) : Bool := f.blocks.all fun b => b.ops.all fun o => !badName fG fF o
theorem named_bad {fG fF : ByteArray → Int × Bool} {f : IrF} {b : IrB} {o : IrO} (hb : b ∈ f.blocks) (ho : o ∈ b.ops) (h : badName fG fF o = true) : namedI fG fF f = false := by
  unfold namedI
  rw [List.all_eq_false]
  refine ⟨b, hb, ?_⟩
  rw [Bool.not_eq_true, List.all_eq_false]
  exact ⟨o, ho, by rw [h]; simp⟩
/-- a program in a block -/
structure PrAt (w : World) (b : Nat) (gs ss fs : Value) (mg mf : Nat) : Prop where
  c0 : w.cell? ⟨b, 0, none⟩ = some gs
  c1 : w.cell? ⟨b, 1, none⟩ = some ss
  c2 : w.cell? ⟨b, 2, none⟩ = some fs
  c3 : w.cell? ⟨b, 3, none⟩ = some (.map (some mg))
  c4 : w.cell? ⟨b, 4, none⟩ = some (.map (some mf))
theorem PrAt.below {w w' : World} {b : Nat} {gs ss fs : Value} {mg mf : Nat} (h : PrAt w b gs ss fs mg mf) (hb : Below w.heap.size w w') : PrAt w' b gs ss fs mg mf := by
  have hl : b < w.heap.size := World.block_lt_of_cell? w _ h.c0
  exact ⟨by rw [hb.cell hl]; exact h.c0, by rw [hb.cell hl]; exact h.c1, by rw [hb.cell hl]; exact h.c2, by rw [hb.cell hl]; exact h.c3, by rw [hb.cell hl]; exact h.c4⟩
theorem prAt_new {w : World} {b : Nat} {T : TypeId} {gs ss fs : Value} {mg mf : Nat} (h : w.heap[b]? = some (.cells #[gs, ss, fs, .map (some mg), .map (some mf)] T (0, 0))) : PrAt w b gs ss fs mg mf := by
  constructor <;> simp [World.cell?, h]
set_option maxRecDepth 100000 in
set_option maxHeartbeats 8000000 in
theorem named_ok (gs ss fs : Value) (hgs : ∃ a n c, gs = .slice a n c) (hss : ∃ a n c, ss = .slice a n c) (hfs : ∃ a n c, fs = .slice a n c) (mg mf ng nf : Nat) (fG fF : ByteArray → Int × Bool) (f : IrF) (vs vb : Value) (w : World) (hG : MapI w mg ng fG) (hFm : MapI w mf nf fF) (hF : IsFn w.heap.size w f vs vb) :
    Calls Tryd.prog 22 #[progV gs ss fs mg mf, fnV f vs vb] w fun e w' => e = .returned (.bool (namedI fG fF f)) ∧ Below w.heap.size w w' := by
  obtain ⟨ag, ng', cg, rfl⟩ := hgs
  obtain ⟨as1, ns, cs, rfl⟩ := hss
  obtain ⟨af, nf', cf, rfl⟩ := hfs
  obtain ⟨a1, c1, e1, _⟩ := hF.slots
  subst e1
  have hBk := hF.blocks
  obtain ⟨a2, c2, Q, e2, hok, hQ, hq, hops⟩ := hBk
  subst e2
  have hQl : Q.length = f.blocks.length := by rw [← hQ, List.length_map]
  have hbl : (f.blocks.length : Int) ≤ 140737488351232 := by have := hok.1; omega
  have HQ := Lib.hid hQ
  have HB := Lib.hid hq
  have HO := Lib.hid hops
  have HQL := Lib.hid hQl
  obtain ⟨h2n, hba⟩ := two_new w (.cells #[.slice ag ng' cg, .slice as1 ns cs, .slice af nf' cf, .map (some mg), .map (some mf)] 70) (.cells #[.string f.name, .int .i64 f.params, .int .i64 f.regs, .slice a1 f.slots.length c1, .slice a2 f.blocks.length c2] 35)
  have hp1 := prAt_new (ir_new1 w (.cells #[.slice ag ng' cg, .slice as1 ns cs, .slice af nf' cf, .map (some mg), .map (some mf)] 70) (.cells #[.string f.name, .int .i64 f.params, .int .i64 f.regs, .slice a1 f.slots.length c1, .slice a2 f.blocks.length c2] 35))
  have hf1 := fnAt_new h2n
  have HGw := Lib.hid (hG.below hba)
  have HFw := Lib.hid (hFm.below hba)
  clear hF hok hQ hq hops hQl h2n hG hFm
  unfold progV fnV
  go_enter Tryd.func22, Tryd.ntmps22
  go_upto_region 1 with fail
  generalize World.alloc _ (.cells #[.string f.name, _, _, _, _] _) = w3 at *
  have HBa := Lib.hid hba
  have HP := Lib.hid hp1
  have HF1 := Lib.hid hf1
  clear hba hp1 hf1
  obtain ⟨_, _, _, _, d4⟩ := HF1.out
  go_wp2_with fail
  clear d4
  go_loopg [16] f.blocks.length (fun g v16 wy => ∃ j : Nat, j ≤ f.blocks.length ∧ j + g = f.blocks.length ∧ v16 = .int .i64 (j : Int) ∧ Hid (∀ i (hi : i < f.blocks.length), i < j → f.blocks[i].ops.all (fun o => !badName fG fF o) = true) ∧ Hid (Below w3.heap.size w3 wy))
  case atStart => exact ⟨0, by omega, by omega, rfl, Lib.hid (fun i _ h => by omega), Lib.hid (Below.refl _ _)⟩
  case round =>
    obtain ⟨j, hj, hjg, rfl, HSl, HW⟩ := hrel
    by_cases hlt : j < f.blocks.length
    · have hlq : j < Q.length := by rw [HQL.out]; exact hlt
      obtain ⟨bb, off, ha, hbl2, hrow⟩ := HB.out (fun e => by rw [e] at hlq; simp at hlq)
      subst ha
      have hqb := Lib.hid (show Q[j].1 = f.blocks[j] by
        have h1 : (Q.map Prod.fst)[j]? = f.blocks[j]? := by rw [HQ.out]
        rw [List.getElem?_map, List.getElem?_eq_getElem hlq, List.getElem?_eq_getElem hlt] at h1
        exact Option.some.inj h1)
      have HBr := Lib.hid (HBa.out.trans (HW.out.mono HBa.out.size))
      have e0 := hrow j _ (List.getElem?_eq_getElem hlq) 0 _ rfl
      have e1 := hrow j _ (List.getElem?_eq_getElem hlq) 1 _ rfl
      have e2 := hrow j _ (List.getElem?_eq_getElem hlq) 2 _ rfl
      have e3 := hrow j _ (List.getElem?_eq_getElem hlq) 3 _ rfl
      have e4 := hrow j _ (List.getElem?_eq_getElem hlq) 4 _ rfl
      have e5 := hrow j _ (List.getElem?_eq_getElem hlq) 5 _ rfl
      rw [← HBr.out.cell hbl2] at e0 e1 e2 e3 e4 e5
      simp only [Nat.add_zero] at e0
      have hvo := HO.out _ (List.getElem_mem hlq)
      have HBad := Lib.hid (fun (o : IrO) (ho : o ∈ f.blocks[j].ops) (h : badName fG fF o = true) => named_bad (List.getElem_mem hlt) ho h)
      have HGd := Lib.hid (fun (h : f.blocks[j].ops.all (fun o => !badName fG fF o) = true) => show ∀ i (hi : i < f.blocks.length), i < j + 1 → f.blocks[i].ops.all (fun o => !badName fG fF o) = true from fun i hi hij => by
        rcases Nat.lt_or_ge i j with h' | h'
        · exact HSl.out i hi h'
        · obtain rfl : i = j := by omega
          exact h)
      rw [← hqb.out] at HBad HGd
      clear hrow hqb HSl
      generalize Q[j]'hlq = q at *
      obtain ⟨bk, vo⟩ := q
      simp only at e0 e1 e2 e3 e4 e5 hvo HBad HGd
      obtain ⟨ao, co, Qo, rfl, hoks, hQo, hso, hno⟩ := hvo
      have HQo := Lib.hid hQo
      have HSo := Lib.hid hso
      have HNo := Lib.hid hno
      have hln : (bk.ops.length : Int) ≤ 140737488351232 := by have := hoks.1; omega
      have hQol := Lib.hid (show Qo.length = bk.ops.length by rw [← hQo, List.length_map])
      have hjl : (j : Int) < (f.blocks.length : Int) := by omega
      clear hlt hlq hoks hQo hso hno
      have HB4 := Lib.hid (show Below wr.heap.size wr (wr.alloc (.cells #[.slice ao bk.ops.length co, .int .i64 bk.exit.kind, .int .i64 bk.exit.a, .int .i64 bk.exit.d, .int .i64 bk.exit.to, .int .i64 bk.exit.els] 41)) from (Below.refl _ _).alloc (Nat.le_refl _) _)
      go_wp2_with fail
      generalize World.alloc wr _ = w4 at *
      have HW4 := Lib.hid (HW.out.trans (HB4.out.mono HW.out.size))
      clear e0 e1 e2 e3 e4 e5
      go_loopg [23] bk.ops.length (fun g v23 wy => ∃ i : Nat, i ≤ bk.ops.length ∧ i + g = bk.ops.length ∧ v23 = .int .i64 (i : Int) ∧ Hid (∀ k (hk : k < bk.ops.length), k < i → badName fG fF bk.ops[k] = false) ∧ Hid (Below w3.heap.size w3 wy))
      case atStart => exact ⟨0, by omega, by omega, rfl, Lib.hid (fun k _ h => by omega), HW4⟩
      case round =>
        obtain ⟨i, hi, hig, rfl, HNb, HW5⟩ := hrel
        by_cases hil : i < bk.ops.length
        · have hlqo : i < Qo.length := by rw [hQol.out]; exact hil
          obtain ⟨b3, off3, ha, hbl3, hrow⟩ := HSo.out (fun e => by rw [e] at hlqo; simp at hlqo)
          subst ha
          have hqb := Lib.hid (show Qo[i].1 = bk.ops[i] by
            have h1 : (Qo.map Prod.fst)[i]? = bk.ops[i]? := by rw [HQo.out]
            rw [List.getElem?_map, List.getElem?_eq_getElem hlqo, List.getElem?_eq_getElem hil] at h1
            exact Option.some.inj h1)
          have HBr5 := Lib.hid (HBa.out.trans (HW5.out.mono HBa.out.size))
          have e0 := hrow i _ (List.getElem?_eq_getElem hlqo) 0 _ rfl
          have e1 := hrow i _ (List.getElem?_eq_getElem hlqo) 1 _ rfl
          have e2 := hrow i _ (List.getElem?_eq_getElem hlqo) 2 _ rfl
          have e3 := hrow i _ (List.getElem?_eq_getElem hlqo) 3 _ rfl
          have e4 := hrow i _ (List.getElem?_eq_getElem hlqo) 4 _ rfl
          have e5 := hrow i _ (List.getElem?_eq_getElem hlqo) 5 _ rfl
          have e6 := hrow i _ (List.getElem?_eq_getElem hlqo) 6 _ rfl
          rw [← HBr5.out.cell hbl3] at e0 e1 e2 e3 e4 e5 e6
          simp only [Nat.add_zero] at e0
          have hnv := HNo.out _ (List.getElem_mem hlqo)
          have HBadi := Lib.hid (fun (h : badName fG fF bk.ops[i] = true) => HBad.out _ (List.getElem_mem hil) h)
          have HGdi := Lib.hid (fun (h : badName fG fF bk.ops[i] = false) => show ∀ k (hk : k < bk.ops.length), k < i + 1 → badName fG fF bk.ops[k] = false from fun k hk hki => by
            rcases Nat.lt_or_ge k i with h' | h'
            · exact HNb.out k hk h'
            · obtain rfl : k = i := by omega
              exact h)
          rw [← hqb.out] at HBadi HGdi
          clear hrow hqb HNb
          generalize Qo[i]'hlqo = qo at *
          obtain ⟨o, ov⟩ := qo
          simp only at e0 e1 e2 e3 e4 e5 e6 hnv HBadi HGdi
          obtain ⟨htx, av, cv, rfl, _⟩ := hnv
          have hil2 : (i : Int) < (bk.ops.length : Int) := by omega
          clear hil hlqo
          have HB6 := Lib.hid (show Below wr.heap.size wr (wr.alloc (.cells #[.int .i64 o.kind, .int .i64 o.d, .int .i64 o.a, .int .i64 o.b, .int .i64 o.imm, .string o.text, .slice av o.args.length cv] 54)) from (Below.refl _ _).alloc (Nat.le_refl _) _)
          have hl1 := ((HGw.out.below HW5.out).below HB6.out).look2 htx
          have hl2 := ((HFw.out.below HW5.out).below HB6.out).look2 htx
          have hpr := (HP.out.below HW5.out).below HB6.out
          obtain ⟨_, _, _, g3, g4⟩ := hpr
          have HW6 := Lib.hid (HW5.out.trans (HB6.out.mono HW5.out.size))
          have HBN := Lib.hid (show badName fG fF o = ((decide (o.kind = 22) && !(fG o.text).2) || (decide (o.kind = 24) && !(fF o.text).2)) from rfl)
          generalize (fG o.text).1 = xg at *
          generalize (fG o.text).2 = bg at *
          generalize (fF o.text).1 = xf at *
          generalize (fF o.text).2 = bf at *
          by_cases h22 : o.kind = 22
          · have t1 : (o.kind == 22) = true := by rw [h22]; rfl
            have t2 : (o.kind == 24) = false := by rw [h22]; rfl
            cases bg with
            | false =>
              have HFin := Lib.hid (HBadi.out (by rw [HBN.out, decide_eq_true h22]; rfl))
              clear h22
              go_wp2_with fail
              go_ret
              exact ⟨by rw [HFin.out]; rfl, HBa.out.trans (HW6.out.mono HBa.out.size)⟩
            | true =>
              have HOk := Lib.hid (HGdi.out (by rw [HBN.out, decide_eq_true h22, decide_eq_false (by omega)]; rfl))
              clear h22
              go_wp2_with fail
              go_roundg (bk.ops.length - (i + 1))
              case measure => omega
              case rel => exact ⟨i + 1, by omega, by omega, by rw [Int.natCast_add]; rfl, HOk, HW6⟩
          · have t1 : (o.kind == 22) = false := by simpa using h22
            by_cases h24 : o.kind = 24
            · have t2 : (o.kind == 24) = true := by rw [h24]; rfl
              cases bf with
              | false =>
                have HFin := Lib.hid (HBadi.out (by rw [HBN.out, decide_eq_true h24, decide_eq_false h22]; rfl))
                clear h22 h24
                go_wp2_with fail
                go_ret
                exact ⟨by rw [HFin.out]; rfl, HBa.out.trans (HW6.out.mono HBa.out.size)⟩
              | true =>
                have HOk := Lib.hid (HGdi.out (by rw [HBN.out, decide_eq_true h24, decide_eq_false h22]; rfl))
                clear h22 h24
                go_wp2_with fail
                go_roundg (bk.ops.length - (i + 1))
                case measure => omega
                case rel => exact ⟨i + 1, by omega, by omega, by rw [Int.natCast_add]; rfl, HOk, HW6⟩
            · have t2 : (o.kind == 24) = false := by simpa using h24
              have HOk := Lib.hid (HGdi.out (by rw [HBN.out, decide_eq_false h22, decide_eq_false h24]; rfl))
              clear h22 h24
              go_wp2_with fail
              go_roundg (bk.ops.length - (i + 1))
              case measure => omega
              case rel => exact ⟨i + 1, by omega, by omega, by rw [Int.natCast_add]; rfl, HOk, HW6⟩
        · obtain rfl : i = bk.ops.length := by omega
          have t3 : (bk.ops.length : Int) ≤ (bk.ops.length : Int) := Int.le_refl _
          have HAll := Lib.hid (HGd.out (by
            rw [List.all_eq_true]
            intro o ho
            obtain ⟨k, hk, rfl⟩ := List.getElem_of_mem ho
            rw [HNb.out k hk hk]
            rfl))
          clear hil HNb
          go_wp2_with fail
          go_roundg (f.blocks.length - (j + 1))
          case measure => omega
          case rel => exact ⟨j + 1, by omega, by omega, by rw [Int.natCast_add]; rfl, HAll, HW5⟩
    · obtain rfl : j = f.blocks.length := by omega
      have t3 : (f.blocks.length : Int) ≤ (f.blocks.length : Int) := Int.le_refl _
      have HAll := Lib.hid (show namedI fG fF f = true by
        unfold namedI
        rw [List.all_eq_true]
        intro b hb
        obtain ⟨k, hk, rfl⟩ := List.getElem_of_mem hb
        exact HSl.out k hk hk)
      clear hlt HSl
      go_wp2_with fail
      go_ret
      exact ⟨by rw [HAll.out]; rfl, HBa.out.trans (HW.out.mono HBa.out.size)⟩
end Go.Proofs.YtlomdlblohnfmaaDoor

