/- A function is written. -/
import Derived.Test.YtlomdlblohnfmaaDoorIrPut
import Derived.Test.YtlomdlblohnfmaaDoorIrExitLine
import Derived.Test.YtlomdlblohnfmaaDoorIrLine2
import Derived.Test.YtlomdlblohnfmaaDoorIrFunc
import Derived.Deep.RegionHeld3
namespace Go.Proofs.YtlomdlblohnfmaaDoor
open Go.RowKit Go.Sort

/-- the tables, below B -/
structure IEB (B : Nat) (w : World) : Prop where
  ie : IE w
  k : 0 < B
  p : 1 < B
  le : B ≤ w.heap.size
theorem IEB.below {B : Nat} {w w' : World} (h : IEB B w) (hb : Below B w w') : IEB B w' :=
  ⟨⟨fun j hj => by rw [hb.cell h.k]; exact h.ie.keys j hj, var?_below hb powG h.p h.ie.pow, Nat.lt_of_lt_of_le h.ie.lt hb.size⟩, h.k, h.p, Nat.le_trans h.le hb.size⟩
/-- what the walk of a line asks of an operation -/
structure OpFine (o : IrO) : Prop where
  any : anyI o = true
  args : o.args.length ≤ 1048576
  text : o.text.size ≤ 1048576
  imm : I64 o.imm
def opsL (l : List UInt8) (ops : List IrO) : List UInt8 := ops.foldl (fun l o => putL l (wordsL (lineP o))) l
def blockL (l : List UInt8) (b : IrB) : List UInt8 := putL (opsL (putL l (strL [98, 108, 111, 99, 107])) b.ops) (exitL b.exit)
def headW (f : IrF) : ByteArray := wordsL [strL [102, 117, 110, 99], f.name, numZ f.params, numZ f.regs]
def funcL (l : List UInt8) (f : IrF) : List UInt8 := f.blocks.foldl blockL (putL l (headW f))
theorem wordsL_size {L : List ByteArray} {M : Nat} (h : ∀ x ∈ L, x.size ≤ M) : (wordsL L).size ≤ L.length * (M + 1) := by
  have := join_bound M L h
  unfold wordsL strL
  simpa [ByteArray.size] using this
theorem lineP_len (o : IrO) : (lineP o).length ≤ 7 + o.args.length := by
  have op : ∀ (b : Bool) (l : List ByteArray), (optL b l).length ≤ l.length := fun b l => by
    unfold optL
    split <;> simp
  unfold lineP linePre
  have h1 := op (decide (0 ≤ o.d)) [regL o.d, strL [61]]
  have h2 := op (decide (0 ≤ o.a)) [regL o.a]
  have h3 := op (decide (0 ≤ o.b)) [regL o.b]
  have h4 := op (immKind o.kind) [numZ o.imm]
  have h5 := op (textKind o.kind) [o.text]
  simp only [List.length_append, List.length_cons, List.length_nil, List.length_map] at *
  omega
theorem line_small {o : IrO} (h : OpFine o) : (wordsL (lineP o)).size ≤ 140000000000000 := by
  obtain ⟨r, h0, hd, ha, hb, _, _, _, hargs, _⟩ := opI_parts h.any
  have rg : ∀ x : Int, (x = -1 ∨ (0 ≤ x ∧ x < 4096)) → I64 x := fun x hx => by unfold I64; omega
  have h1 := wordsL_size (line_sizes (rg _ (regI_yes hd)) (rg _ (regI_yes ha)) (rg _ (regI_yes hb)) h.imm h.text (fun x hx => rg _ (.inr (regI_true (List.all_eq_true.1 hargs x hx)))))
  have h2 := lineP_len o
  have h3 := h.args
  have h4 : (lineP o).length * (1048576 + 1) ≤ 1048583 * 1048577 := Nat.mul_le_mul (by omega) (Nat.le_refl _)
  omega
theorem exit_small {x : IrX} (h : ExOk x) : (exitL x).size ≤ 140000000000000 := by
  have r := regL_size h.ta
  have rd := regL_size h.td
  have nt := numZ_size h.tt
  have ne := numZ_size h.te
  have key : ∀ L : List ByteArray, L.length ≤ 5 → (∀ y ∈ L, y.size ≤ 22) → (wordsL L).size ≤ 140000000000000 := fun L hL hy => by
    have := wordsL_size hy
    have h2 : L.length * (22 + 1) ≤ 5 * 23 := Nat.mul_le_mul hL (Nat.le_refl _)
    omega
  unfold exitL
  split
  · refine key _ (by simp) (fun y hy => ?_)
    simp only [List.mem_cons, List.not_mem_nil, or_false] at hy
    rcases hy with rfl | rfl
    · decide
    · omega
  split
  · refine key _ (by simp) (fun y hy => ?_)
    simp only [List.mem_cons, List.not_mem_nil, or_false] at hy
    rcases hy with rfl | rfl | rfl | rfl
    · decide
    · omega
    · omega
    · omega
  split
  · refine key _ (by simp) (fun y hy => ?_)
    simp only [List.mem_cons, List.not_mem_nil, or_false] at hy
    rcases hy with rfl | rfl | rfl | rfl | rfl
    · decide
    · omega
    · omega
    · omega
    · omega
  split
  · decide
  · refine key _ (by simp) (fun y hy => ?_)
    simp only [List.mem_cons, List.not_mem_nil, or_false] at hy
    rcases hy with rfl | rfl
    · decide
    · omega

def ExCells (w : World) (b : Nat) (x : IrX) : Prop := w.cell? ⟨b, 1, none⟩ = some (.int .i64 x.kind) ∧ w.cell? ⟨b, 2, none⟩ = some (.int .i64 x.a) ∧ w.cell? ⟨b, 3, none⟩ = some (.int .i64 x.d) ∧ w.cell? ⟨b, 4, none⟩ = some (.int .i64 x.to) ∧ w.cell? ⟨b, 5, none⟩ = some (.int .i64 x.els)
theorem FnAt.kept {w w' : World} {b bw : Nat} {f : IrF} {vs vb : Value} {T : TypeId} (h : w.heap[b]? = some (.cells #[.string f.name, .int .i64 f.params, .int .i64 f.regs, vs, vb] T (0, 0))) (hk : KeepT bw w w') (hn : b ≠ bw) (hT : T ≠ 5) : w'.heap[b]? = some (.cells #[.string f.name, .int .i64 f.params, .int .i64 f.regs, vs, vb] T (0, 0)) :=
  hk b _ hn h (fun c fz e => by cases e; exact hT rfl)
set_option maxRecDepth 100000 in
set_option maxHeartbeats 16000000 in
theorem wfunc_ok (B b : Nat) (l : List UInt8) (f : IrF) (vs vb : Value) (w : World) (hE : IEB B w) (hW : WriterAt B b l w) (hF : IsFn B w f vs vb) (hs : f.slots = []) (hops : ∀ bl ∈ f.blocks, ∀ o ∈ bl.ops, OpFine o) (hex : ∀ bl ∈ f.blocks, ExOk bl.exit)
    (hp : I64 f.params) (hr : I64 f.regs) (hnm : f.name.size ≤ 1048576) (hl : l.length ≤ 140000001048577) :
    Calls Tryd.prog 33 #[.pointer (some ⟨b, 0, none⟩), fnV f vs vb] w fun e w' => e = .returned (.tuple #[]) ∧ WriterAt B b (funcL l f) w' ∧ Below B w w' ∧ KeepT b w w' := by
  obtain ⟨a1, c1, e1, _⟩ := hF.slots
  rw [hs, List.length_nil] at e1
  subst e1
  have hBk := hF.blocks
  obtain ⟨a2, c2, Q, e2, hok, hQ, hq, hops2⟩ := hBk
  subst e2
  have hQl : Q.length = f.blocks.length := by rw [← hQ, List.length_map]
  have hbl : (f.blocks.length : Int) ≤ 140737488351232 := by have := hok.1; omega
  have HE := Lib.hid hE
  have HQ := Lib.hid hQ
  have HB := Lib.hid hq
  have HO := Lib.hid hops2
  have HQL := Lib.hid hQl
  have HOps := Lib.hid hops
  have HEx := Lib.hid hex
  have HL := Lib.hid hl
  have HLE := Lib.hid hE.le
  have hx1 := heap_alloc_new w (.cells #[.string f.name, .int .i64 f.params, .int .i64 f.regs, .slice a1 0 c1, .slice a2 f.blocks.length c2] 35)
  have hba : Below w.heap.size w (w.alloc (.cells #[.string f.name, .int .i64 f.params, .int .i64 f.regs, .slice a1 0 c1, .slice a2 f.blocks.length c2] 35)) := (Below.refl _ _).alloc (Nat.le_refl _) _
  have HW0 := Lib.hid (hW.below hba)
  have HBase := Lib.hid hW.base
  have HI1 := Lib.hid (fun w1 hE1 => itoa_ok f.params w1 hE1 hp)
  have HI2 := Lib.hid (fun w1 hE1 => itoa_ok f.regs w1 hE1 hr)
  have HWd := Lib.hid (fun w1 => words_new [strL [102, 117, 110, 99], f.name, numZ f.params, numZ f.regs] 4 1048576 rfl (by decide) (fun y hy => by
    simp only [List.mem_cons, List.not_mem_nil, or_false] at hy
    rcases hy with rfl | rfl | rfl | rfl
    · decide
    · exact hnm
    · exact Nat.le_trans (numZ_size hp) (by decide)
    · exact Nat.le_trans (numZ_size hr) (by decide)) (by decide) w1)
  have HSz := Lib.hid (show (headW f).size ≤ 140000000000000 by
    have h1 := wordsL_size (L := [strL [102, 117, 110, 99], f.name, numZ f.params, numZ f.regs]) (M := 1048576) (fun y hy => by
      simp only [List.mem_cons, List.not_mem_nil, or_false] at hy
      rcases hy with rfl | rfl | rfl | rfl
      · decide
      · exact hnm
      · exact Nat.le_trans (numZ_size hp) (by decide)
      · exact Nat.le_trans (numZ_size hr) (by decide))
    have h2 : [strL [102, 117, 110, 99], f.name, numZ f.params, numZ f.regs].length = 4 := rfl
    rw [h2] at h1
    unfold headW
    omega)
  clear hF hs hops hex hp hr hnm hl hok hQ hq hops2 hQl hE hW
  unfold fnV
  go_enter Tryd.func33, Tryd.ntmps33
  go_upto_region 1 with fail
  have hka : KeepT b w (w.alloc (.cells #[.string f.name, .int .i64 f.params, .int .i64 f.regs, .slice a1 0 c1, .slice a2 f.blocks.length c2] 35)) := KeepT.of_below hba
  generalize hfb : w.heap.size = fb at *
  generalize World.alloc w _ = wa at *
  have HXa := Lib.hid hx1
  have HBa := Lib.hid hba
  have HKa := Lib.hid hka
  clear hx1 hba hka
  obtain ⟨c0, k1, k2, k3, k4⟩ := fnAt_new HXa.out
  have HEa := Lib.hid (HE.out.below (HBa.out.mono (by have := HLE.out; omega)))
  have HCl := Lib.hid (show ∀ w', KeepT b wa w' → w'.cell? ⟨fb, 0, none⟩ = some (.string f.name) ∧ w'.cell? ⟨fb, 1, none⟩ = some (.int .i64 f.params) ∧ w'.cell? ⟨fb, 2, none⟩ = some (.int .i64 f.regs) ∧ w'.cell? ⟨fb, 3, none⟩ = some (.slice a1 0 c1) ∧ w'.cell? ⟨fb, 4, none⟩ = some (.slice a2 f.blocks.length c2) from fun w' hk => by
    obtain ⟨d0, d1, d2, d3, d4⟩ := fnAt_new (FnAt.kept HXa.out hk (by have := HBase.out.2; omega) (by decide))
    exact ⟨d0, d1, d2, d3, d4⟩)
  have HPut := Lib.hid (fun w1 (h1 : Below wa.heap.size wa w1) => put_ok B b l (headW f) w1 (HW0.out.below h1) HSz.out HL.out (Nat.le_trans HEa.out.le h1.size))
  unfold headW at HPut
  clear hfb k3 k4
  go_cut [11] (fun s11 wx => Hid (WriterAt B b (putL l (headW f)) wx ∧ Below B w wx ∧ KeepT b wa wx))
  case first =>
    go_region_held3 (fun w' => w'.cell? ⟨fb, 0, none⟩ = some (.string f.name) ∧ w'.cell? ⟨fb, 1, none⟩ = some (.int .i64 f.params) ∧ w'.cell? ⟨fb, 2, none⟩ = some (.int .i64 f.regs) ∧ w'.cell? ⟨fb, 3, none⟩ = some (.slice a1 0 c1) ∧ w'.cell? ⟨fb, 4, none⟩ = some (.slice a2 f.blocks.length c2))
      (first | exact HCl.out _ (KeepT.of_below (Below.refl _ _).drew) | exact HCl.out _ HK6.out | exact HCl.out _ (KeepT.of_below HB5.out) | exact HCl.out _ (KeepT.of_below HB4.out) | exact HCl.out _ (KeepT.of_below (HB4.out.alloc HB4.out.size _)) | exact HCl.out _ (KeepT.of_below HB3.out))
      (first
        | (go_at_call 51; (with_reducible refine (HI1.out _ (HEa.out.below (Below.refl _ _).drew).ie).mono ?_); rintro e w3 ⟨rfl, hb3⟩; have HB3 := Lib.hid (show Below wa.heap.size wa w3 from (Below.refl _ _).drew.trans (hb3.mono (Nat.le_refl _))); obtain ⟨c0, k1, k2, k3, k4⟩ := HCl.out _ (KeepT.of_below HB3.out); clear hb3)
        | (go_at_call 51; (with_reducible refine (HI2.out _ (HEa.out.below (HB3.out.mono HEa.out.le)).ie).mono ?_); rintro e w4 ⟨rfl, hb4⟩; have HB4 := Lib.hid (HB3.out.trans (hb4.mono HB3.out.size)); obtain ⟨c0, k1, k2, k3, k4⟩ := HCl.out _ (KeepT.of_below HB4.out); clear hb4)
        | (go_at_call 52; refine (HWd.out _).mono ?_; rintro e w5 ⟨rfl, hb5⟩; have HB5 := Lib.hid (HB4.out.trans (hb5.mono HB4.out.size)); clear hb5)
        | (go_at_call 29; (with_reducible refine (HPut.out _ HB5.out).mono ?_); rintro e w6 ⟨rfl, hw6, hb6, hk6⟩; have HW6 := Lib.hid hw6; have HB6 := Lib.hid ((HB5.out.mono HEa.out.le).trans hb6); have HK6 := Lib.hid ((KeepT.of_below HB5.out).trans hk6); clear hw6 hb6 hk6))
    all_goals go_wp2_with fail
    all_goals go_meet
    all_goals exact Lib.hid ⟨HW6.out, (HBa.out.mono HLE.out).trans HB6.out, HK6.out⟩
  case rest =>
    obtain ⟨d0, d1, d2, d3, d4⟩ := HCl.out _ hcut.out.2.2
    have HC := Lib.hid hcut.out
    have HLe0 := Lib.hid (putL_len l (headW f) HSz.out HL.out)
    clear c0 k1 k2 hcut HPut HI1 HI2 HWd HSz
    generalize hl1 : putL l (headW f) = l1 at *
    have HL1 := Lib.hid hl1
    clear hl1
    go_wp2_with fail
    go_loopg [26] 1 (fun g v26 wy => v26 = .int .i64 0 ∧ g = 1 ∧ wy = wc)
    case atStart => exact ⟨rfl, rfl, rfl⟩
    case round =>
      obtain ⟨rfl, _, rfl⟩ := hrel
      go_wp2_with fail
      clear d0 d1 d2 d3 d4
      go_loopg [49] f.blocks.length (fun g v49 wy => ∃ j : Nat, j ≤ f.blocks.length ∧ j + g = f.blocks.length ∧ v49 = .int .i64 (j : Int) ∧ Hid (WriterAt B b ((f.blocks.take j).foldl blockL l1) wy ∧ Below B w wy ∧ KeepT b wa wy ∧ ((f.blocks.take j).foldl blockL l1).length ≤ 140000001048577))
      case atStart => exact ⟨0, by omega, by omega, rfl, Lib.hid ⟨HC.out.1, HC.out.2.1, HC.out.2.2, HLe0.out⟩⟩
      case round =>
        obtain ⟨j, hj, hjg, rfl, HI⟩ := hrel
        by_cases hlt : j < f.blocks.length
        · have hlq : j < Q.length := by rw [HQL.out]; exact hlt
          obtain ⟨bb, off, ha, hbl2, hrow⟩ := HB.out (fun e => by rw [e] at hlq; simp at hlq)
          subst ha
          have hqb := Lib.hid (show Q[j].1 = f.blocks[j] by
            have h1 : (Q.map Prod.fst)[j]? = f.blocks[j]? := by rw [HQ.out]
            rw [List.getElem?_map, List.getElem?_eq_getElem hlq, List.getElem?_eq_getElem hlt] at h1
            exact Option.some.inj h1)
          have e0 := hrow j _ (List.getElem?_eq_getElem hlq) 0 _ rfl
          have e1 := hrow j _ (List.getElem?_eq_getElem hlq) 1 _ rfl
          have e2 := hrow j _ (List.getElem?_eq_getElem hlq) 2 _ rfl
          have e3 := hrow j _ (List.getElem?_eq_getElem hlq) 3 _ rfl
          have e4 := hrow j _ (List.getElem?_eq_getElem hlq) 4 _ rfl
          have e5 := hrow j _ (List.getElem?_eq_getElem hlq) 5 _ rfl
          rw [← HI.out.2.1.cell hbl2] at e0 e1 e2 e3 e4 e5
          simp only [Nat.add_zero] at e0
          have hvo := HO.out _ (List.getElem_mem hlq)
          have HOf := Lib.hid (HOps.out _ (List.getElem_mem hlt))
          have HXf := Lib.hid (HEx.out _ (List.getElem_mem hlt))
          have HTk := Lib.hid (show (f.blocks.take (j + 1)).foldl blockL l1 = blockL ((f.blocks.take j).foldl blockL l1) f.blocks[j] by
            rw [List.take_succ_eq_append_getElem hlt, List.foldl_append]
            rfl)
          rw [← hqb.out] at HOf HXf HTk
          clear hrow hqb
          generalize Q[j]'hlq = q at *
          obtain ⟨bk, vo⟩ := q
          simp only at e0 e1 e2 e3 e4 e5 hvo HOf HXf HTk
          obtain ⟨ao, co, Qo, rfl, hok, hQo, hso, hno⟩ := hvo
          have HQo := Lib.hid hQo
          have HSo := Lib.hid hso
          have HNo := Lib.hid hno
          have hln : (bk.ops.length : Int) ≤ 140737488351232 := by have := hok.1; omega
          have hQol := Lib.hid (show Qo.length = bk.ops.length by rw [← hQo, List.length_map])
          have hjl : (j : Int) < (f.blocks.length : Int) := by omega
          clear hlt hlq hok hQo hso hno
          generalize hlj : (f.blocks.take j).foldl blockL l1 = lj at *
          clear hlj
          have HX1 := Lib.hid (heap_alloc_new wr (.cells #[.slice ao bk.ops.length co, .int .i64 bk.exit.kind, .int .i64 bk.exit.a, .int .i64 bk.exit.d, .int .i64 bk.exit.to, .int .i64 bk.exit.els] 41))
          have HB1 := Lib.hid (show Below wr.heap.size wr (wr.alloc (.cells #[.slice ao bk.ops.length co, .int .i64 bk.exit.kind, .int .i64 bk.exit.a, .int .i64 bk.exit.d, .int .i64 bk.exit.to, .int .i64 bk.exit.els] 41)) from (Below.refl _ _).alloc (Nat.le_refl _) _)
          have HPb := Lib.hid (put_ok B b lj (strL [98, 108, 111, 99, 107]) _ (HI.out.1.below HB1.out) (by decide) HI.out.2.2.2 (Nat.le_trans (Nat.le_trans HE.out.le HI.out.2.1.size) HB1.out.size))
          have HBw1 := Lib.hid (HI.out.2.1.trans (HB1.out.mono (Nat.le_trans HE.out.le HI.out.2.1.size)))
          have HKw1 := Lib.hid (HI.out.2.2.1.trans (KeepT.of_below (b := b) HB1.out))
          have hbne : wr.heap.size ≠ b := by have := HI.out.1.base.2; omega
          go_upto_region 13 with fail
          generalize hbx : wr.heap.size = bx at *
          generalize hw1 : World.alloc wr _ = w1 at *
          clear hbx hw1 e0 e1 e2 e3 e4 e5
          go_upto_region 14 with (go_at_call 29; refine HPb.out.mono ?_; rintro e w2 ⟨rfl, hw2, hb2, hk2⟩; have HW2 := Lib.hid hw2; have HB2 := Lib.hid (HBw1.out.trans hb2); have HK2 := Lib.hid hk2; clear hw2 hb2 hk2)
          have HXf2 := Lib.hid (show ∀ w', KeepT b w1 w' → w'.cell? ⟨bx, 0, none⟩ = some (.slice ao bk.ops.length co) ∧ ExCells w' bx bk.exit from fun w' hk => by
            have h := hk bx _ hbne HX1.out (fun c fz e => by cases e)
            refine ⟨?_, ?_, ?_, ?_, ?_, ?_⟩ <;> simp [World.cell?, h])
          obtain ⟨x0, _⟩ := HXf2.out _ HK2.out
          have HLp := Lib.hid (putL_len lj (strL [98, 108, 111, 99, 107]) (by decide) HI.out.2.2.2)
          generalize hlb : putL lj (strL [98, 108, 111, 99, 107]) = lb at *
          have HLB := Lib.hid hlb
          clear hlb
          go_wp2_with fail
          clear x0
          go_loopg [58] bk.ops.length (fun g v58 wy => ∃ i : Nat, i ≤ bk.ops.length ∧ i + g = bk.ops.length ∧ v58 = .int .i64 (i : Int) ∧ Hid (WriterAt B b (opsL lb (bk.ops.take i)) wy ∧ Below B w wy ∧ KeepT b w1 wy ∧ (opsL lb (bk.ops.take i)).length ≤ 140000001048577))
          case atStart => exact ⟨0, by omega, by omega, rfl, Lib.hid ⟨HW2.out, HB2.out, HK2.out, HLp.out⟩⟩
          case round =>
            obtain ⟨i, hi, hig, rfl, HJ⟩ := hrel
            by_cases hil : i < bk.ops.length
            · have hlqo : i < Qo.length := by rw [hQol.out]; exact hil
              obtain ⟨b3, off3, ha, hbl3, hrow⟩ := HSo.out (fun e => by rw [e] at hlqo; simp at hlqo)
              subst ha
              have hqb := Lib.hid (show Qo[i].1 = bk.ops[i] by
                have h1 : (Qo.map Prod.fst)[i]? = bk.ops[i]? := by rw [HQo.out]
                rw [List.getElem?_map, List.getElem?_eq_getElem hlqo, List.getElem?_eq_getElem hil] at h1
                exact Option.some.inj h1)
              have e0 := hrow i _ (List.getElem?_eq_getElem hlqo) 0 _ rfl
              have e1 := hrow i _ (List.getElem?_eq_getElem hlqo) 1 _ rfl
              have e2 := hrow i _ (List.getElem?_eq_getElem hlqo) 2 _ rfl
              have e3 := hrow i _ (List.getElem?_eq_getElem hlqo) 3 _ rfl
              have e4 := hrow i _ (List.getElem?_eq_getElem hlqo) 4 _ rfl
              have e5 := hrow i _ (List.getElem?_eq_getElem hlqo) 5 _ rfl
              have e6 := hrow i _ (List.getElem?_eq_getElem hlqo) 6 _ rfl
              rw [← HJ.out.2.1.cell hbl3] at e0 e1 e2 e3 e4 e5 e6
              simp only [Nat.add_zero] at e0
              have hnv := (HNo.out _ (List.getElem_mem hlqo)).2
              have hof := HOf.out _ (List.getElem_mem hil)
              have HTo := Lib.hid (show opsL lb (bk.ops.take (i + 1)) = putL (opsL lb (bk.ops.take i)) (wordsL (lineP bk.ops[i])) by
                unfold opsL
                rw [List.take_succ_eq_append_getElem hil, List.foldl_append]
                rfl)
              rw [← hqb.out] at hof HTo
              clear hrow hqb
              generalize Qo[i]'hlqo = qo at *
              obtain ⟨o, ov⟩ := qo
              simp only at e0 e1 e2 e3 e4 e5 e6 hnv hof HTo
              have HOf1 := Lib.hid hof
              have HNv := Lib.hid hnv
              obtain ⟨av, cv, rfl, _⟩ := hnv
              have hil2 : (i : Int) < (bk.ops.length : Int) := by omega
              have hLi := fun w9 (hb9 : Below B w w9) => line_ok o (.slice av o.args.length cv) w9 (HE.out.below hb9).ie ((HNv.out.below hb9 (Nat.le_refl _)).mono (Nat.le_trans HE.out.le hb9.size)) HOf1.out.any HOf1.out.args HOf1.out.text HOf1.out.imm
              unfold opV at hLi
              have HLi := Lib.hid hLi
              have HBo := Lib.hid (show Below wr.heap.size wr (wr.alloc (.cells #[.int .i64 o.kind, .int .i64 o.d, .int .i64 o.a, .int .i64 o.b, .int .i64 o.imm, .string o.text, .slice av o.args.length cv] 54)) from (Below.refl _ _).alloc (Nat.le_refl _) _)
              have hwb : B ≤ wr.heap.size := Nat.le_trans HE.out.le HJ.out.2.1.size
              have HWb := Lib.hid hwb
              clear hil hlqo hLi hof hwb
              have HPo := Lib.hid (fun w9 (h9 : Below wr.heap.size wr w9) => put_ok B b (opsL lb (bk.ops.take i)) (wordsL (lineP o)) w9 (HJ.out.1.below h9) (line_small HOf1.out) HJ.out.2.2.2 (Nat.le_trans HWb.out h9.size))
              have HLn := Lib.hid (putL_len (opsL lb (bk.ops.take i)) (wordsL (lineP o)) (line_small HOf1.out) HJ.out.2.2.2)
              generalize wordsL (lineP o) = wl at *
              generalize opsL lb (bk.ops.take i) = li at *
              go_wp2_with (first
                | (go_at_call 28; (with_reducible refine (HLi.out _ (HJ.out.2.1.trans (HBo.out.mono HWb.out))).mono ?_); rintro e w5 ⟨rfl, hb5⟩; have HB5 := Lib.hid (show Below wr.heap.size wr w5 from HBo.out.trans (hb5.mono HBo.out.size)); clear hb5)
                | (go_at_call 29; (with_reducible refine (HPo.out _ HB5.out).mono ?_); rintro e w6 ⟨rfl, hw6, hb6, hk6⟩; have HJ6 := Lib.hid (And.intro hw6 (And.intro (HJ.out.2.1.trans ((HB5.out.mono HWb.out).trans hb6)) ((HJ.out.2.2.1.trans (KeepT.of_below HB5.out)).trans hk6))); clear hw6 hb6 hk6))
              go_roundg (bk.ops.length - (i + 1))
              case measure => omega
              case rel => exact ⟨i + 1, by omega, by omega, by rw [Int.natCast_add]; rfl, Lib.hid (by rw [HTo.out]; exact ⟨HJ6.out.1, HJ6.out.2.1, HJ6.out.2.2, HLn.out⟩)⟩
            · obtain rfl : i = bk.ops.length := by omega
              obtain ⟨_, ⟨x1, x2, x3, x4, x5⟩⟩ := HXf2.out _ HJ.out.2.2.1
              have t3 : (bk.ops.length : Int) ≤ (bk.ops.length : Int) := Int.le_refl _
              have hxl := fun w9 (hb9 : Below B w w9) => exitLine_ok bk.exit HXf.out w9 (HE.out.below hb9).ie
              unfold exitV at hxl
              have HXl := Lib.hid hxl
              have HJ2 := Lib.hid (show WriterAt B b (opsL lb bk.ops) wr ∧ (opsL lb bk.ops).length ≤ 140000001048577 by
                have h1 := HJ.out.1
                have h2 := HJ.out.2.2.2
                rw [List.take_length] at h1 h2
                exact ⟨h1, h2⟩)
              have HPx := Lib.hid (fun w9 (h9 : Below wr.heap.size wr w9) => put_ok B b (opsL lb bk.ops) (exitL bk.exit) w9 (HJ2.out.1.below h9) (exit_small HXf.out) HJ2.out.2 (Nat.le_trans (Nat.le_trans HE.out.le HJ.out.2.1.size) h9.size))
              have HLx := Lib.hid (putL_len (opsL lb bk.ops) (exitL bk.exit) (exit_small HXf.out) HJ2.out.2)
              clear hil hxl
              generalize hxe : exitL bk.exit = xe at *
              have HXe := Lib.hid hxe
              clear hxe
              have hq9 : fb = fb := rfl
              go_wp2_with (first
                | (go_at_call 57; (with_reducible refine (HXl.out _ HJ.out.2.1).mono ?_); rintro e w5 ⟨rfl, hb5⟩; have HB5 := Lib.hid hb5; clear hb5)
                | (go_at_call 29; (with_reducible refine (HPx.out _ HB5.out).mono ?_); rintro e w6 ⟨rfl, hw6, hb6, hk6⟩; have HJ6 := Lib.hid (And.intro hw6 (And.intro (HJ.out.2.1.trans ((HB5.out.mono (Nat.le_trans HE.out.le HJ.out.2.1.size)).trans hb6)) ((HJ.out.2.2.1.trans (KeepT.of_below HB5.out)).trans hk6))); clear hw6 hb6 hk6))
              go_roundg (f.blocks.length - (j + 1))
              case measure => omega
              case rel =>
                refine ⟨j + 1, by omega, by omega, by rw [Int.natCast_add]; rfl, Lib.hid ?_⟩
                rw [HTk.out]
                unfold blockL
                rw [HLB.out, HXe.out]
                exact ⟨HJ6.out.1, HJ6.out.2.1, HKw1.out.trans HJ6.out.2.2, HLx.out⟩
        · obtain rfl : j = f.blocks.length := by omega
          have t3 : (f.blocks.length : Int) ≤ (f.blocks.length : Int) := Int.le_refl _
          have HIf := Lib.hid (show WriterAt B b (funcL l f) wr ∧ Below B w wr ∧ KeepT b w wr by
            have h1 := HI.out.1
            rw [List.take_length, ← HL1.out] at h1
            exact ⟨h1, HI.out.2.1, HKa.out.trans HI.out.2.2.1⟩)
          clear hlt
          go_wp2_with fail
          go_end0
          exact ⟨rfl, HIf.out⟩
end Go.Proofs.YtlomdlblohnfmaaDoor
