/- An operation's text. -/
import Derived.Test.YtlomdlblohnfmaaDoorIrLine
import Derived.Deep.AppendLies
namespace Go.Proofs.YtlomdlblohnfmaaDoor
open Go.RowKit

def optL (b : Bool) (l : List ByteArray) : List ByteArray := if b then l else []
def immKind (k : Int) : Bool := decide (k = 1 ∨ k = 20 ∨ k = 21 ∨ k = 23 ∨ k = 25 ∨ k = 26 ∨ k = 27)
def textKind (k : Int) : Bool := decide (k = 22 ∨ k = 24 ∨ k = 29)
/-- the words of an operation -/
def linePre (o : IrO) : List ByteArray := optL (decide (0 ≤ o.d)) [regL o.d, strL [61]] ++ [strL (wordI o.kind)] ++ optL (decide (0 ≤ o.a)) [regL o.a] ++ optL (decide (0 ≤ o.b)) [regL o.b] ++ optL (immKind o.kind) [numZ o.imm] ++ optL (textKind o.kind) [o.text]
def lineP (o : IrO) : List ByteArray := linePre o ++ o.args.map regL
theorem RowS.push {w w' : World} {B n m : Nat} {v v' : Value} {L M : List ByteArray} (_h : RowS w B v L) (hn : n = L.length) (hm : m = M.length) (hown : w'.ownsRow B 9 1 v' (n + m) (strCs L ++ strCs M)) : RowS w' B v' (L ++ M) := by
  subst hn hm
  unfold RowS
  rw [List.length_append, strCs_append]
  exact hown
/-- the words so far, at most N -/
structure LineAt (N : Nat) (w2 wx : World) (v : Value) (L : List ByteArray) : Prop where
  row : RowS wx w2.heap.size v L
  below : Below w2.heap.size w2 wx
  cnt : L.length ≤ N
theorem LineAt.belowed {N : Nat} {w2 wx wy : World} {v : Value} {L : List ByteArray} (h : LineAt N w2 wx v L) (hb : Below wx.heap.size wx wy) : LineAt N w2 wy v L := ⟨h.row.belowed hb, h.below.trans (hb.mono h.below.size), h.cnt⟩
theorem LineAt.more {N N' : Nat} {w2 wx : World} {v : Value} {L : List ByteArray} (h : LineAt N w2 wx v L) (hN : N ≤ N') : LineAt N' w2 wx v (L ++ []) := by
  rw [List.append_nil]
  exact ⟨h.row, h.below, Nat.le_trans h.cnt hN⟩
theorem LineAt.push {N : Nat} {w2 wx wy : World} {v v' : Value} {L M : List ByteArray} {n m : Nat} (h : LineAt N w2 wx v L) (hn : n = L.length) (hm : m = M.length) (hown : wy.ownsRow w2.heap.size 9 1 v' (n + m) (strCs L ++ strCs M)) (hg : wx.grownBy wy v.ownBlock) : LineAt (N + m) w2 wy v' (L ++ M) :=
  ⟨h.row.push hn hm hown, h.below.grown hg h.below.size (fun k hk => (World.ownsRow.lt h.row k hk).1), by have := h.cnt; rw [List.length_append]; omega⟩
theorem LineAt.room {N m : Nat} {w2 wx : World} {v : Value} {L : List ByteArray} (h : LineAt N w2 wx v L) (hN : N + m ≤ 2000000) : L.length + m ≤ maxLen ∧ (L.length + m) * 16 ≤ 140737488355328 := by
  have := h.cnt
  exact ⟨by unfold maxLen; omega, by omega⟩
theorem cellsS_one (L : List ByteArray) : ∀ u ∈ strCs L, u.oneCell' = true := fun u hu => by
  unfold strCs at hu
  rw [List.mem_map] at hu
  obtain ⟨x, _, rfl⟩ := hu
  rfl

/-- all that the walk reads -/
structure LnFacts (w : World) (ob rb : Nat) (o : IrO) (v : Value) : Prop where
  op : OpAt w ob o v
  word : w.cell? ⟨rb, 0, none⟩ = some (.string (strL (wordI o.kind)))
theorem LnFacts.below {w w' : World} {ob rb : Nat} {o : IrO} {v : Value} (h : LnFacts w ob rb o v) (hb : Below w.heap.size w w') : LnFacts w' ob rb o v := ⟨h.op.below hb, by rw [hb.cell (World.block_lt_of_cell? w _ h.word)]; exact h.word⟩
theorem lnFacts_new {w w1 : World} {o : IrO} {v v1 v2 v3 v4 v5 v6 v7 : Value} {T1 T2 : TypeId}
    (hb : Below (w.alloc (.cells #[.int .i64 o.kind, .int .i64 o.d, .int .i64 o.a, .int .i64 o.b, .int .i64 o.imm, .string o.text, v] T1)).heap.size (w.alloc (.cells #[.int .i64 o.kind, .int .i64 o.d, .int .i64 o.a, .int .i64 o.b, .int .i64 o.imm, .string o.text, v] T1)) w1) :
    Below w.heap.size w (w1.alloc (.cells #[.string (strL (wordI o.kind)), v1, v2, v3, v4, v5, v6, v7] T2)) ∧ LnFacts (w1.alloc (.cells #[.string (strL (wordI o.kind)), v1, v2, v3, v4, v5, v6, v7] T2)) w.heap.size w1.heap.size o v := by
  have hs := hb.size
  simp at hs
  refine ⟨(((Below.refl _ _).alloc (Nat.le_refl _) _).trans (hb.mono (by simp))).alloc (by omega) _, ?_, ?_⟩
  · exact ((opAt_new (heap_alloc_new _ _)).below hb).below ((Below.refl _ _).alloc (Nat.le_refl _) _)
  · unfold World.cell?
    simp only [heap_alloc_new]
    rfl

theorem ite_len {c : Prop} [Decidable c] {a b : List UInt8} (ha : a.length ≤ 8) (hb : b.length ≤ 8) : (if c then a else b).length ≤ 8 := by
  split
  · exact ha
  · exact hb
theorem wordI_size (k : Int) : (strL (wordI k)).size ≤ 8 := by
  have : (wordI k).length ≤ 8 := by
    unfold wordI
    repeat (refine ite_len (by decide) ?_)
    decide
  unfold strL
  simpa [ByteArray.size] using this
theorem line_sizes {o : IrO} (hd : I64 o.d) (ha : I64 o.a) (hb : I64 o.b) (hi : I64 o.imm) (ht : o.text.size ≤ 1048576) (hx : ∀ x ∈ o.args, I64 x) : ∀ x ∈ lineP o, x.size ≤ 1048576 := by
  have op : ∀ (b : Bool) (l : List ByteArray), (∀ x ∈ l, x.size ≤ 1048576) → ∀ x ∈ optL b l, x.size ≤ 1048576 := fun b l h x hx => by
    unfold optL at hx
    split at hx
    · exact h x hx
    · cases hx
  have sz : ∀ {n : Int}, I64 n → (regL n).size ≤ 1048576 := fun h => Nat.le_trans (regL_size h) (by decide)
  intro x hm
  unfold lineP linePre at hm
  rcases List.mem_append.1 hm with hm | hm
  · rcases List.mem_append.1 hm with hm | hm
    · rcases List.mem_append.1 hm with hm | hm
      · rcases List.mem_append.1 hm with hm | hm
        · rcases List.mem_append.1 hm with hm | hm
          · rcases List.mem_append.1 hm with hm | hm
            · refine op _ _ (fun y hy => ?_) x hm
              rcases List.mem_cons.1 hy with rfl | hy
              · exact sz hd
              · rw [List.mem_singleton.1 hy]; decide
            · rw [List.mem_singleton.1 hm]; exact Nat.le_trans (wordI_size _) (by decide)
          · exact op _ _ (fun y hy => by rw [List.mem_singleton.1 hy]; exact sz ha) x hm
        · exact op _ _ (fun y hy => by rw [List.mem_singleton.1 hy]; exact sz hb) x hm
      · exact op _ _ (fun y hy => by rw [List.mem_singleton.1 hy]; exact Nat.le_trans (numZ_size hi) (by decide)) x hm
    · exact op _ _ (fun y hy => by rw [List.mem_singleton.1 hy]; exact ht) x hm
  · rw [List.mem_map] at hm
    obtain ⟨y, hy, rfl⟩ := hm
    exact sz (hx y hy)

set_option maxRecDepth 100000 in
set_option maxHeartbeats 16000000 in
theorem line_ok (o : IrO) (v : Value) (w : World) (hE : IE w) (hA : IsNums w.heap.size w v o.args) (hv : anyI o = true) (hl : o.args.length ≤ 1048576) (ht : o.text.size ≤ 1048576) (hi : I64 o.imm) :
    Calls Tryd.prog 28 #[opV o v] w fun e w' => e = .returned (.string (wordsL (lineP o))) ∧ Below w.heap.size w w' := by
  obtain ⟨r, h0, hd, ha, hb, _, _, _, hargs, _⟩ := opI_parts hv
  have HR := Lib.hid (fun w1 => rule_some h0 w1)
  have rg : ∀ x : Int, (x = -1 ∨ (0 ≤ x ∧ x < 4096)) → I64 x := fun x hx => by unfold I64; omega
  have HD := Lib.hid (fun w1 hE1 => reg_text o.d w1 hE1 (rg _ (regI_yes hd)))
  have HA := Lib.hid (fun w1 hE1 => reg_text o.a w1 hE1 (rg _ (regI_yes ha)))
  have HB := Lib.hid (fun w1 hE1 => reg_text o.b w1 hE1 (rg _ (regI_yes hb)))
  have HI := Lib.hid (fun w1 hE1 => itoa_ok o.imm w1 hE1 hi)
  have HX := Lib.hid (fun (x : Int) (hx : x ∈ o.args) w1 hE1 => reg_text x w1 hE1 (rg _ (.inr (regI_true (List.all_eq_true.1 hargs x hx)))))
  have HE := Lib.hid hE
  have HN := Lib.hid hA
  obtain ⟨i0, hi0, hz0, hz1, hz2⟩ := info_parts (show (Tryd.prog.info? 9).map (fun i => (i.zero, i.size, i.bytes)) = some (some (.string ⟨#[]⟩), 1, 16) by kernel_rfl)
  have HI0 := Lib.hid (And.intro hi0 (And.intro hz0 (And.intro hz1 hz2)))
  have HL := Lib.hid hl
  have HT := Lib.hid ht
  have HIm := Lib.hid hi
  have HSz := Lib.hid (line_sizes (rg _ (regI_yes hd)) (rg _ (regI_yes ha)) (rg _ (regI_yes hb)) hi ht (fun x hx => rg _ (.inr (regI_true (List.all_eq_true.1 hargs x hx)))))
  clear hi0 hz0 hz1 hz2 h0 hd ha hb hargs hE hv hl ht hi rg
  obtain ⟨a, cap, rfl, _, _⟩ := hA
  unfold opV
  go_enter Tryd.func28, Tryd.ntmps28
  go_upto_region 3 with (go_at_call 46; refine (HR.out _).mono ?_; rintro e w1 ⟨rfl, hb1⟩; have HB1 := Lib.hid hb1; clear hb1)
  obtain ⟨hb2, hf2⟩ := lnFacts_new (v1 := .bool r.d) (v2 := .bool r.a) (v3 := .bool r.b) (v4 := .func (.func (immF o.kind)) #[] #[]) (v5 := .func (.func (textF o.kind)) #[] #[]) (v6 := .bool r.args) (v7 := .bool r.maybe) (T2 := 113) HB1.out
  unfold strL at hb2 hf2
  generalize w1.heap.size = rb at *
  generalize World.alloc w1 _ = w2 at *
  have HB2 := Lib.hid hb2
  have HF2 := Lib.hid hf2
  have HE2 := Lib.hid (HE.out.below hb2)
  clear hb2 hf2 HB1 HR
  obtain ⟨⟨q0, q1, q2, q3, q4, q5, q6⟩, q7⟩ := HF2.out
  -- WALK
  have HL0 := Lib.hid (show LineAt 0 w2 w2 (.slice none 0 0) [] from ⟨World.ownsRow_nil _ _ _ _, Below.refl _ _, Nat.le_refl _⟩)
  go_upto_if 16 with fail
  go_cut [5] (fun s5 wx => ∃ v, s5 = v ∧ Hid (LineAt 2 w2 wx v (optL (decide (0 ≤ o.d)) [regL o.d, strL [61]])))
  case first =>
    by_cases hc : 0 ≤ o.d
    · have HC := Lib.hid hc
      have HNumA := Lib.hid (HL0.out.room (m := 2) (by decide))
      go_wp2_with (first | (go_at_call 50; (with_reducible refine (HD.out _ (HE2.out.below HL0.out.below)).mono ?_); rintro e wAc ⟨rfl, hbAc⟩; have HLAc := Lib.hid (HL0.out.belowed hbAc); clear hbAc) | (at_builtin; go_loud (refine wpList_append_own _ rfl _ _ _ rfl w2.heap.size 9 i0 (.string ⟨#[]⟩) 1 16 Tryd.underlying23 HI0.out.1 HI0.out.2.1 HI0.out.2.2.1 HI0.out.2.2.2 rfl (by decide) _ ([]).length (strCs ([])) rfl (HLAc.out.belowed ((Below.refl _ _).alloc (Nat.le_refl _) _)).row ⟨_, 0, none⟩ 2 2 (strCs [regL o.d, strL [61]]) rfl rfl (World.news_of_block (cs := #[.string (regL o.d), .string (strL [61])]) (heap_alloc_new _ _)) (cellsS_one _) HNumA.out.1 HNumA.out.2 (HLAc.out.belowed ((Below.refl _ _).alloc (Nat.le_refl _) _)).below.size ?_)))
      intro vA wA hown hgrow _
      have HLA := Lib.hid (show LineAt 2 w2 wA vA ([] ++ [regL o.d, strL [61]]) from (HLAc.out.belowed ((Below.refl _ _).alloc (Nat.le_refl _) (.cells #[.string (regL o.d), .string (strL [61])] 9))).push (M := [regL o.d, strL [61]]) rfl rfl hown hgrow)
      clear hown hgrow
      go_wp2_with fail
      go_meet
      exact ⟨_, rfl, Lib.hid (by rw [show decide (0 ≤ o.d) = true from decide_eq_true (by have := HC.out; omega)]; exact HLA.out)⟩
    · have HC := Lib.hid hc
      go_wp2_with fail
      go_meet
      exact ⟨_, rfl, Lib.hid (by rw [show decide (0 ≤ o.d) = false from decide_eq_false (by have := HC.out; omega)]; exact HL0.out.more (by decide))⟩
  case rest =>
    obtain ⟨vA, hvA, HLAr⟩ := hcut
    subst hvA
    obtain ⟨LA, hLA⟩ : ∃ L, L = optL (decide (0 ≤ o.d)) [regL o.d, strL [61]] := ⟨_, rfl⟩
    rw [← hLA] at HLAr
    have HQA := Lib.hid hLA
    clear hLA
    obtain ⟨⟨q0, q1, q2, q3, q4, q5, q6⟩, q7⟩ := HF2.out.below HLAr.out.below
    have HNumW := Lib.hid (HLAr.out.room (m := 1) (by decide))
    go_wp2_with (first | (at_builtin; go_loud (refine wpList_append_own _ rfl _ _ _ rfl w2.heap.size 9 i0 (.string ⟨#[]⟩) 1 16 Tryd.underlying23 HI0.out.1 HI0.out.2.1 HI0.out.2.2.1 HI0.out.2.2.2 rfl (by decide) _ (LA).length (strCs (LA)) rfl (HLAr.out.belowed ((Below.refl _ _).alloc (Nat.le_refl _) _)).row ⟨_, 0, none⟩ 1 1 (strCs [strL (wordI o.kind)]) rfl rfl (World.news_of_block (cs := #[.string (strL (wordI o.kind))]) (heap_alloc_new _ _)) (cellsS_one _) HNumW.out.1 HNumW.out.2 (HLAr.out.belowed ((Below.refl _ _).alloc (Nat.le_refl _) _)).below.size ?_)))
    intro vW wW hown hgrow _
    have HLW := Lib.hid (show LineAt 3 w2 wW vW (LA ++ [strL (wordI o.kind)]) from (HLAr.out.belowed ((Below.refl _ _).alloc (Nat.le_refl _) (.cells #[.string (strL (wordI o.kind))] 9))).push (M := [strL (wordI o.kind)]) rfl rfl hown hgrow)
    clear hown hgrow
    obtain ⟨LW, hLW⟩ : ∃ L, L = LA ++ [strL (wordI o.kind)] := ⟨_, rfl⟩
    rw [← hLW] at HLW
    have HQW := Lib.hid hLW
    clear hLW
    obtain ⟨⟨q0, q1, q2, q3, q4, q5, q6⟩, q7⟩ := HF2.out.below HLW.out.below
    go_upto_if 30 with fail
    go_cut [5] (fun s5 wx => ∃ v, s5 = v ∧ Hid (LineAt 4 w2 wx v (LW ++ optL (decide (0 ≤ o.a)) [regL o.a])))
    case first =>
      by_cases hc : 0 ≤ o.a
      · have HC := Lib.hid hc
        have HNumB := Lib.hid (HLW.out.room (m := 1) (by decide))
        go_wp2_with (first | (go_at_call 50; (with_reducible refine (HA.out _ (HE2.out.below HLW.out.below)).mono ?_); rintro e wBc ⟨rfl, hbBc⟩; have HLBc := Lib.hid (HLW.out.belowed hbBc); clear hbBc) | (at_builtin; go_loud (refine wpList_append_own _ rfl _ _ _ rfl w2.heap.size 9 i0 (.string ⟨#[]⟩) 1 16 Tryd.underlying23 HI0.out.1 HI0.out.2.1 HI0.out.2.2.1 HI0.out.2.2.2 rfl (by decide) _ (LW).length (strCs (LW)) rfl (HLBc.out.belowed ((Below.refl _ _).alloc (Nat.le_refl _) _)).row ⟨_, 0, none⟩ 1 1 (strCs [regL o.a]) rfl rfl (World.news_of_block (cs := #[.string (regL o.a)]) (heap_alloc_new _ _)) (cellsS_one _) HNumB.out.1 HNumB.out.2 (HLBc.out.belowed ((Below.refl _ _).alloc (Nat.le_refl _) _)).below.size ?_)))
        intro vB wB hown hgrow _
        have HLB := Lib.hid (show LineAt 4 w2 wB vB (LW ++ [regL o.a]) from (HLBc.out.belowed ((Below.refl _ _).alloc (Nat.le_refl _) (.cells #[.string (regL o.a)] 9))).push (M := [regL o.a]) rfl rfl hown hgrow)
        clear hown hgrow
        go_wp2_with fail
        go_meet
        exact ⟨_, rfl, Lib.hid (by rw [show decide (0 ≤ o.a) = true from decide_eq_true (by have := HC.out; omega)]; exact HLB.out)⟩
      · have HC := Lib.hid hc
        go_wp2_with fail
        go_meet
        exact ⟨_, rfl, Lib.hid (by rw [show decide (0 ≤ o.a) = false from decide_eq_false (by have := HC.out; omega)]; exact HLW.out.more (by decide))⟩
    case rest =>
      obtain ⟨vB, hvB, HLBr⟩ := hcut
      subst hvB
      obtain ⟨LB, hLB⟩ : ∃ L, L = LW ++ optL (decide (0 ≤ o.a)) [regL o.a] := ⟨_, rfl⟩
      rw [← hLB] at HLBr
      have HQB := Lib.hid hLB
      clear hLB
      obtain ⟨⟨q0, q1, q2, q3, q4, q5, q6⟩, q7⟩ := HF2.out.below HLBr.out.below
      go_upto_if 39 with fail
      go_cut [5] (fun s5 wx => ∃ v, s5 = v ∧ Hid (LineAt 5 w2 wx v (LB ++ optL (decide (0 ≤ o.b)) [regL o.b])))
      case first =>
        by_cases hc : 0 ≤ o.b
        · have HC := Lib.hid hc
          have HNumC := Lib.hid (HLBr.out.room (m := 1) (by decide))
          go_wp2_with (first | (go_at_call 50; (with_reducible refine (HB.out _ (HE2.out.below HLBr.out.below)).mono ?_); rintro e wCc ⟨rfl, hbCc⟩; have HLCc := Lib.hid (HLBr.out.belowed hbCc); clear hbCc) | (at_builtin; go_loud (refine wpList_append_own _ rfl _ _ _ rfl w2.heap.size 9 i0 (.string ⟨#[]⟩) 1 16 Tryd.underlying23 HI0.out.1 HI0.out.2.1 HI0.out.2.2.1 HI0.out.2.2.2 rfl (by decide) _ (LB).length (strCs (LB)) rfl (HLCc.out.belowed ((Below.refl _ _).alloc (Nat.le_refl _) _)).row ⟨_, 0, none⟩ 1 1 (strCs [regL o.b]) rfl rfl (World.news_of_block (cs := #[.string (regL o.b)]) (heap_alloc_new _ _)) (cellsS_one _) HNumC.out.1 HNumC.out.2 (HLCc.out.belowed ((Below.refl _ _).alloc (Nat.le_refl _) _)).below.size ?_)))
          intro vC wC hown hgrow _
          have HLC := Lib.hid (show LineAt 5 w2 wC vC (LB ++ [regL o.b]) from (HLCc.out.belowed ((Below.refl _ _).alloc (Nat.le_refl _) (.cells #[.string (regL o.b)] 9))).push (M := [regL o.b]) rfl rfl hown hgrow)
          clear hown hgrow
          go_wp2_with fail
          go_meet
          exact ⟨_, rfl, Lib.hid (by rw [show decide (0 ≤ o.b) = true from decide_eq_true (by have := HC.out; omega)]; exact HLC.out)⟩
        · have HC := Lib.hid hc
          go_wp2_with fail
          go_meet
          exact ⟨_, rfl, Lib.hid (by rw [show decide (0 ≤ o.b) = false from decide_eq_false (by have := HC.out; omega)]; exact HLBr.out.more (by decide))⟩
      case rest =>
        obtain ⟨vC, hvC, HLCr⟩ := hcut
        subst hvC
        obtain ⟨LC, hLC⟩ : ∃ L, L = LB ++ optL (decide (0 ≤ o.b)) [regL o.b] := ⟨_, rfl⟩
        rw [← hLC] at HLCr
        have HQC := Lib.hid hLC
        clear hLC
        obtain ⟨⟨q0, q1, q2, q3, q4, q5, q6⟩, q7⟩ := HF2.out.below HLCr.out.below
        have HQ5 := Lib.hid (show linePre o = LC ++ optL (immKind o.kind) [numZ o.imm] ++ optL (textKind o.kind) [o.text] by unfold linePre; rw [HQC.out, HQB.out, HQW.out, HQA.out])
        go_upto_block 0 with fail
        go_cut [5] (fun s5 wx => ∃ v, s5 = v ∧ Hid (LineAt 6 w2 wx v (linePre o)))
        case first =>
          by_cases k1 : o.kind = 1
          · have HKi := Lib.hid (show immKind o.kind = true ∧ textKind o.kind = false by rw [k1]; exact ⟨rfl, rfl⟩)
            have t1 : (o.kind == 1) = true := by rw [k1]; rfl
            have t20 : (o.kind == 20) = false := by rw [k1]; rfl
            have t21 : (o.kind == 21) = false := by rw [k1]; rfl
            have t23 : (o.kind == 23) = false := by rw [k1]; rfl
            have t25 : (o.kind == 25) = false := by rw [k1]; rfl
            have t26 : (o.kind == 26) = false := by rw [k1]; rfl
            have t27 : (o.kind == 27) = false := by rw [k1]; rfl
            have t22 : (o.kind == 22) = false := by rw [k1]; rfl
            have t24 : (o.kind == 24) = false := by rw [k1]; rfl
            have t29 : (o.kind == 29) = false := by rw [k1]; rfl
            clear k1
            have HNumD := Lib.hid (HLCr.out.room (m := 1) (by decide))
            go_wp2_with (first | (go_at_call 51; (with_reducible refine (HI.out _ (HE2.out.below HLCr.out.below)).mono ?_); rintro e wDc ⟨rfl, hbDc⟩; have HLDc := Lib.hid (HLCr.out.belowed hbDc); clear hbDc) | (at_builtin; go_loud (refine wpList_append_own _ rfl _ _ _ rfl w2.heap.size 9 i0 (.string ⟨#[]⟩) 1 16 Tryd.underlying23 HI0.out.1 HI0.out.2.1 HI0.out.2.2.1 HI0.out.2.2.2 rfl (by decide) _ (LC).length (strCs (LC)) rfl (HLDc.out.belowed ((Below.refl _ _).alloc (Nat.le_refl _) _)).row ⟨_, 0, none⟩ 1 1 (strCs [numZ o.imm]) rfl rfl (World.news_of_block (cs := #[.string (numZ o.imm)]) (heap_alloc_new _ _)) (cellsS_one _) HNumD.out.1 HNumD.out.2 (HLDc.out.belowed ((Below.refl _ _).alloc (Nat.le_refl _) _)).below.size ?_)))
            intro vD wD hown hgrow _
            have HLD := Lib.hid (show LineAt 6 w2 wD vD (LC ++ [numZ o.imm]) from (HLDc.out.belowed ((Below.refl _ _).alloc (Nat.le_refl _) (.cells #[.string (numZ o.imm)] 9))).push (M := [numZ o.imm]) rfl rfl hown hgrow)
            clear hown hgrow
            go_wp2_with fail
            go_meet
            exact ⟨_, rfl, Lib.hid (by rw [HQ5.out, HKi.out.1, HKi.out.2]; simpa [optL] using HLD.out)⟩
          by_cases k20 : o.kind = 20
          · have HKi := Lib.hid (show immKind o.kind = true ∧ textKind o.kind = false by rw [k20]; exact ⟨rfl, rfl⟩)
            have t1 : (o.kind == 1) = false := by rw [k20]; rfl
            have t20 : (o.kind == 20) = true := by rw [k20]; rfl
            have t21 : (o.kind == 21) = false := by rw [k20]; rfl
            have t23 : (o.kind == 23) = false := by rw [k20]; rfl
            have t25 : (o.kind == 25) = false := by rw [k20]; rfl
            have t26 : (o.kind == 26) = false := by rw [k20]; rfl
            have t27 : (o.kind == 27) = false := by rw [k20]; rfl
            have t22 : (o.kind == 22) = false := by rw [k20]; rfl
            have t24 : (o.kind == 24) = false := by rw [k20]; rfl
            have t29 : (o.kind == 29) = false := by rw [k20]; rfl
            clear k1 k20
            have HNumD := Lib.hid (HLCr.out.room (m := 1) (by decide))
            go_wp2_with (first | (go_at_call 51; (with_reducible refine (HI.out _ (HE2.out.below HLCr.out.below)).mono ?_); rintro e wDc ⟨rfl, hbDc⟩; have HLDc := Lib.hid (HLCr.out.belowed hbDc); clear hbDc) | (at_builtin; go_loud (refine wpList_append_own _ rfl _ _ _ rfl w2.heap.size 9 i0 (.string ⟨#[]⟩) 1 16 Tryd.underlying23 HI0.out.1 HI0.out.2.1 HI0.out.2.2.1 HI0.out.2.2.2 rfl (by decide) _ (LC).length (strCs (LC)) rfl (HLDc.out.belowed ((Below.refl _ _).alloc (Nat.le_refl _) _)).row ⟨_, 0, none⟩ 1 1 (strCs [numZ o.imm]) rfl rfl (World.news_of_block (cs := #[.string (numZ o.imm)]) (heap_alloc_new _ _)) (cellsS_one _) HNumD.out.1 HNumD.out.2 (HLDc.out.belowed ((Below.refl _ _).alloc (Nat.le_refl _) _)).below.size ?_)))
            intro vD wD hown hgrow _
            have HLD := Lib.hid (show LineAt 6 w2 wD vD (LC ++ [numZ o.imm]) from (HLDc.out.belowed ((Below.refl _ _).alloc (Nat.le_refl _) (.cells #[.string (numZ o.imm)] 9))).push (M := [numZ o.imm]) rfl rfl hown hgrow)
            clear hown hgrow
            go_wp2_with fail
            go_meet
            exact ⟨_, rfl, Lib.hid (by rw [HQ5.out, HKi.out.1, HKi.out.2]; simpa [optL] using HLD.out)⟩
          by_cases k21 : o.kind = 21
          · have HKi := Lib.hid (show immKind o.kind = true ∧ textKind o.kind = false by rw [k21]; exact ⟨rfl, rfl⟩)
            have t1 : (o.kind == 1) = false := by rw [k21]; rfl
            have t20 : (o.kind == 20) = false := by rw [k21]; rfl
            have t21 : (o.kind == 21) = true := by rw [k21]; rfl
            have t23 : (o.kind == 23) = false := by rw [k21]; rfl
            have t25 : (o.kind == 25) = false := by rw [k21]; rfl
            have t26 : (o.kind == 26) = false := by rw [k21]; rfl
            have t27 : (o.kind == 27) = false := by rw [k21]; rfl
            have t22 : (o.kind == 22) = false := by rw [k21]; rfl
            have t24 : (o.kind == 24) = false := by rw [k21]; rfl
            have t29 : (o.kind == 29) = false := by rw [k21]; rfl
            clear k1 k20 k21
            have HNumD := Lib.hid (HLCr.out.room (m := 1) (by decide))
            go_wp2_with (first | (go_at_call 51; (with_reducible refine (HI.out _ (HE2.out.below HLCr.out.below)).mono ?_); rintro e wDc ⟨rfl, hbDc⟩; have HLDc := Lib.hid (HLCr.out.belowed hbDc); clear hbDc) | (at_builtin; go_loud (refine wpList_append_own _ rfl _ _ _ rfl w2.heap.size 9 i0 (.string ⟨#[]⟩) 1 16 Tryd.underlying23 HI0.out.1 HI0.out.2.1 HI0.out.2.2.1 HI0.out.2.2.2 rfl (by decide) _ (LC).length (strCs (LC)) rfl (HLDc.out.belowed ((Below.refl _ _).alloc (Nat.le_refl _) _)).row ⟨_, 0, none⟩ 1 1 (strCs [numZ o.imm]) rfl rfl (World.news_of_block (cs := #[.string (numZ o.imm)]) (heap_alloc_new _ _)) (cellsS_one _) HNumD.out.1 HNumD.out.2 (HLDc.out.belowed ((Below.refl _ _).alloc (Nat.le_refl _) _)).below.size ?_)))
            intro vD wD hown hgrow _
            have HLD := Lib.hid (show LineAt 6 w2 wD vD (LC ++ [numZ o.imm]) from (HLDc.out.belowed ((Below.refl _ _).alloc (Nat.le_refl _) (.cells #[.string (numZ o.imm)] 9))).push (M := [numZ o.imm]) rfl rfl hown hgrow)
            clear hown hgrow
            go_wp2_with fail
            go_meet
            exact ⟨_, rfl, Lib.hid (by rw [HQ5.out, HKi.out.1, HKi.out.2]; simpa [optL] using HLD.out)⟩
          by_cases k23 : o.kind = 23
          · have HKi := Lib.hid (show immKind o.kind = true ∧ textKind o.kind = false by rw [k23]; exact ⟨rfl, rfl⟩)
            have t1 : (o.kind == 1) = false := by rw [k23]; rfl
            have t20 : (o.kind == 20) = false := by rw [k23]; rfl
            have t21 : (o.kind == 21) = false := by rw [k23]; rfl
            have t23 : (o.kind == 23) = true := by rw [k23]; rfl
            have t25 : (o.kind == 25) = false := by rw [k23]; rfl
            have t26 : (o.kind == 26) = false := by rw [k23]; rfl
            have t27 : (o.kind == 27) = false := by rw [k23]; rfl
            have t22 : (o.kind == 22) = false := by rw [k23]; rfl
            have t24 : (o.kind == 24) = false := by rw [k23]; rfl
            have t29 : (o.kind == 29) = false := by rw [k23]; rfl
            clear k1 k20 k21 k23
            have HNumD := Lib.hid (HLCr.out.room (m := 1) (by decide))
            go_wp2_with (first | (go_at_call 51; (with_reducible refine (HI.out _ (HE2.out.below HLCr.out.below)).mono ?_); rintro e wDc ⟨rfl, hbDc⟩; have HLDc := Lib.hid (HLCr.out.belowed hbDc); clear hbDc) | (at_builtin; go_loud (refine wpList_append_own _ rfl _ _ _ rfl w2.heap.size 9 i0 (.string ⟨#[]⟩) 1 16 Tryd.underlying23 HI0.out.1 HI0.out.2.1 HI0.out.2.2.1 HI0.out.2.2.2 rfl (by decide) _ (LC).length (strCs (LC)) rfl (HLDc.out.belowed ((Below.refl _ _).alloc (Nat.le_refl _) _)).row ⟨_, 0, none⟩ 1 1 (strCs [numZ o.imm]) rfl rfl (World.news_of_block (cs := #[.string (numZ o.imm)]) (heap_alloc_new _ _)) (cellsS_one _) HNumD.out.1 HNumD.out.2 (HLDc.out.belowed ((Below.refl _ _).alloc (Nat.le_refl _) _)).below.size ?_)))
            intro vD wD hown hgrow _
            have HLD := Lib.hid (show LineAt 6 w2 wD vD (LC ++ [numZ o.imm]) from (HLDc.out.belowed ((Below.refl _ _).alloc (Nat.le_refl _) (.cells #[.string (numZ o.imm)] 9))).push (M := [numZ o.imm]) rfl rfl hown hgrow)
            clear hown hgrow
            go_wp2_with fail
            go_meet
            exact ⟨_, rfl, Lib.hid (by rw [HQ5.out, HKi.out.1, HKi.out.2]; simpa [optL] using HLD.out)⟩
          by_cases k25 : o.kind = 25
          · have HKi := Lib.hid (show immKind o.kind = true ∧ textKind o.kind = false by rw [k25]; exact ⟨rfl, rfl⟩)
            have t1 : (o.kind == 1) = false := by rw [k25]; rfl
            have t20 : (o.kind == 20) = false := by rw [k25]; rfl
            have t21 : (o.kind == 21) = false := by rw [k25]; rfl
            have t23 : (o.kind == 23) = false := by rw [k25]; rfl
            have t25 : (o.kind == 25) = true := by rw [k25]; rfl
            have t26 : (o.kind == 26) = false := by rw [k25]; rfl
            have t27 : (o.kind == 27) = false := by rw [k25]; rfl
            have t22 : (o.kind == 22) = false := by rw [k25]; rfl
            have t24 : (o.kind == 24) = false := by rw [k25]; rfl
            have t29 : (o.kind == 29) = false := by rw [k25]; rfl
            clear k1 k20 k21 k23 k25
            have HNumD := Lib.hid (HLCr.out.room (m := 1) (by decide))
            go_wp2_with (first | (go_at_call 51; (with_reducible refine (HI.out _ (HE2.out.below HLCr.out.below)).mono ?_); rintro e wDc ⟨rfl, hbDc⟩; have HLDc := Lib.hid (HLCr.out.belowed hbDc); clear hbDc) | (at_builtin; go_loud (refine wpList_append_own _ rfl _ _ _ rfl w2.heap.size 9 i0 (.string ⟨#[]⟩) 1 16 Tryd.underlying23 HI0.out.1 HI0.out.2.1 HI0.out.2.2.1 HI0.out.2.2.2 rfl (by decide) _ (LC).length (strCs (LC)) rfl (HLDc.out.belowed ((Below.refl _ _).alloc (Nat.le_refl _) _)).row ⟨_, 0, none⟩ 1 1 (strCs [numZ o.imm]) rfl rfl (World.news_of_block (cs := #[.string (numZ o.imm)]) (heap_alloc_new _ _)) (cellsS_one _) HNumD.out.1 HNumD.out.2 (HLDc.out.belowed ((Below.refl _ _).alloc (Nat.le_refl _) _)).below.size ?_)))
            intro vD wD hown hgrow _
            have HLD := Lib.hid (show LineAt 6 w2 wD vD (LC ++ [numZ o.imm]) from (HLDc.out.belowed ((Below.refl _ _).alloc (Nat.le_refl _) (.cells #[.string (numZ o.imm)] 9))).push (M := [numZ o.imm]) rfl rfl hown hgrow)
            clear hown hgrow
            go_wp2_with fail
            go_meet
            exact ⟨_, rfl, Lib.hid (by rw [HQ5.out, HKi.out.1, HKi.out.2]; simpa [optL] using HLD.out)⟩
          by_cases k26 : o.kind = 26
          · have HKi := Lib.hid (show immKind o.kind = true ∧ textKind o.kind = false by rw [k26]; exact ⟨rfl, rfl⟩)
            have t1 : (o.kind == 1) = false := by rw [k26]; rfl
            have t20 : (o.kind == 20) = false := by rw [k26]; rfl
            have t21 : (o.kind == 21) = false := by rw [k26]; rfl
            have t23 : (o.kind == 23) = false := by rw [k26]; rfl
            have t25 : (o.kind == 25) = false := by rw [k26]; rfl
            have t26 : (o.kind == 26) = true := by rw [k26]; rfl
            have t27 : (o.kind == 27) = false := by rw [k26]; rfl
            have t22 : (o.kind == 22) = false := by rw [k26]; rfl
            have t24 : (o.kind == 24) = false := by rw [k26]; rfl
            have t29 : (o.kind == 29) = false := by rw [k26]; rfl
            clear k1 k20 k21 k23 k25 k26
            have HNumD := Lib.hid (HLCr.out.room (m := 1) (by decide))
            go_wp2_with (first | (go_at_call 51; (with_reducible refine (HI.out _ (HE2.out.below HLCr.out.below)).mono ?_); rintro e wDc ⟨rfl, hbDc⟩; have HLDc := Lib.hid (HLCr.out.belowed hbDc); clear hbDc) | (at_builtin; go_loud (refine wpList_append_own _ rfl _ _ _ rfl w2.heap.size 9 i0 (.string ⟨#[]⟩) 1 16 Tryd.underlying23 HI0.out.1 HI0.out.2.1 HI0.out.2.2.1 HI0.out.2.2.2 rfl (by decide) _ (LC).length (strCs (LC)) rfl (HLDc.out.belowed ((Below.refl _ _).alloc (Nat.le_refl _) _)).row ⟨_, 0, none⟩ 1 1 (strCs [numZ o.imm]) rfl rfl (World.news_of_block (cs := #[.string (numZ o.imm)]) (heap_alloc_new _ _)) (cellsS_one _) HNumD.out.1 HNumD.out.2 (HLDc.out.belowed ((Below.refl _ _).alloc (Nat.le_refl _) _)).below.size ?_)))
            intro vD wD hown hgrow _
            have HLD := Lib.hid (show LineAt 6 w2 wD vD (LC ++ [numZ o.imm]) from (HLDc.out.belowed ((Below.refl _ _).alloc (Nat.le_refl _) (.cells #[.string (numZ o.imm)] 9))).push (M := [numZ o.imm]) rfl rfl hown hgrow)
            clear hown hgrow
            go_wp2_with fail
            go_meet
            exact ⟨_, rfl, Lib.hid (by rw [HQ5.out, HKi.out.1, HKi.out.2]; simpa [optL] using HLD.out)⟩
          by_cases k27 : o.kind = 27
          · have HKi := Lib.hid (show immKind o.kind = true ∧ textKind o.kind = false by rw [k27]; exact ⟨rfl, rfl⟩)
            have t1 : (o.kind == 1) = false := by rw [k27]; rfl
            have t20 : (o.kind == 20) = false := by rw [k27]; rfl
            have t21 : (o.kind == 21) = false := by rw [k27]; rfl
            have t23 : (o.kind == 23) = false := by rw [k27]; rfl
            have t25 : (o.kind == 25) = false := by rw [k27]; rfl
            have t26 : (o.kind == 26) = false := by rw [k27]; rfl
            have t27 : (o.kind == 27) = true := by rw [k27]; rfl
            have t22 : (o.kind == 22) = false := by rw [k27]; rfl
            have t24 : (o.kind == 24) = false := by rw [k27]; rfl
            have t29 : (o.kind == 29) = false := by rw [k27]; rfl
            clear k1 k20 k21 k23 k25 k26 k27
            have HNumD := Lib.hid (HLCr.out.room (m := 1) (by decide))
            go_wp2_with (first | (go_at_call 51; (with_reducible refine (HI.out _ (HE2.out.below HLCr.out.below)).mono ?_); rintro e wDc ⟨rfl, hbDc⟩; have HLDc := Lib.hid (HLCr.out.belowed hbDc); clear hbDc) | (at_builtin; go_loud (refine wpList_append_own _ rfl _ _ _ rfl w2.heap.size 9 i0 (.string ⟨#[]⟩) 1 16 Tryd.underlying23 HI0.out.1 HI0.out.2.1 HI0.out.2.2.1 HI0.out.2.2.2 rfl (by decide) _ (LC).length (strCs (LC)) rfl (HLDc.out.belowed ((Below.refl _ _).alloc (Nat.le_refl _) _)).row ⟨_, 0, none⟩ 1 1 (strCs [numZ o.imm]) rfl rfl (World.news_of_block (cs := #[.string (numZ o.imm)]) (heap_alloc_new _ _)) (cellsS_one _) HNumD.out.1 HNumD.out.2 (HLDc.out.belowed ((Below.refl _ _).alloc (Nat.le_refl _) _)).below.size ?_)))
            intro vD wD hown hgrow _
            have HLD := Lib.hid (show LineAt 6 w2 wD vD (LC ++ [numZ o.imm]) from (HLDc.out.belowed ((Below.refl _ _).alloc (Nat.le_refl _) (.cells #[.string (numZ o.imm)] 9))).push (M := [numZ o.imm]) rfl rfl hown hgrow)
            clear hown hgrow
            go_wp2_with fail
            go_meet
            exact ⟨_, rfl, Lib.hid (by rw [HQ5.out, HKi.out.1, HKi.out.2]; simpa [optL] using HLD.out)⟩
          by_cases k22 : o.kind = 22
          · have HKi := Lib.hid (show immKind o.kind = false ∧ textKind o.kind = true by rw [k22]; exact ⟨rfl, rfl⟩)
            have t1 : (o.kind == 1) = false := by rw [k22]; rfl
            have t20 : (o.kind == 20) = false := by rw [k22]; rfl
            have t21 : (o.kind == 21) = false := by rw [k22]; rfl
            have t23 : (o.kind == 23) = false := by rw [k22]; rfl
            have t25 : (o.kind == 25) = false := by rw [k22]; rfl
            have t26 : (o.kind == 26) = false := by rw [k22]; rfl
            have t27 : (o.kind == 27) = false := by rw [k22]; rfl
            have t22 : (o.kind == 22) = true := by rw [k22]; rfl
            have t24 : (o.kind == 24) = false := by rw [k22]; rfl
            have t29 : (o.kind == 29) = false := by rw [k22]; rfl
            clear k1 k20 k21 k23 k25 k26 k27 k22
            have HNumD := Lib.hid (HLCr.out.room (m := 1) (by decide))
            go_wp2_with (first | (at_builtin; go_loud (refine wpList_append_own _ rfl _ _ _ rfl w2.heap.size 9 i0 (.string ⟨#[]⟩) 1 16 Tryd.underlying23 HI0.out.1 HI0.out.2.1 HI0.out.2.2.1 HI0.out.2.2.2 rfl (by decide) _ (LC).length (strCs (LC)) rfl (HLCr.out.belowed ((Below.refl _ _).alloc (Nat.le_refl _) _)).row ⟨_, 0, none⟩ 1 1 (strCs [o.text]) rfl rfl (World.news_of_block (cs := #[.string (o.text)]) (heap_alloc_new _ _)) (cellsS_one _) HNumD.out.1 HNumD.out.2 (HLCr.out.belowed ((Below.refl _ _).alloc (Nat.le_refl _) _)).below.size ?_)))
            intro vD wD hown hgrow _
            have HLD := Lib.hid (show LineAt 6 w2 wD vD (LC ++ [o.text]) from (HLCr.out.belowed ((Below.refl _ _).alloc (Nat.le_refl _) (.cells #[.string (o.text)] 9))).push (M := [o.text]) rfl rfl hown hgrow)
            clear hown hgrow
            go_wp2_with fail
            go_meet
            exact ⟨_, rfl, Lib.hid (by rw [HQ5.out, HKi.out.1, HKi.out.2]; simpa [optL] using HLD.out)⟩
          by_cases k24 : o.kind = 24
          · have HKi := Lib.hid (show immKind o.kind = false ∧ textKind o.kind = true by rw [k24]; exact ⟨rfl, rfl⟩)
            have t1 : (o.kind == 1) = false := by rw [k24]; rfl
            have t20 : (o.kind == 20) = false := by rw [k24]; rfl
            have t21 : (o.kind == 21) = false := by rw [k24]; rfl
            have t23 : (o.kind == 23) = false := by rw [k24]; rfl
            have t25 : (o.kind == 25) = false := by rw [k24]; rfl
            have t26 : (o.kind == 26) = false := by rw [k24]; rfl
            have t27 : (o.kind == 27) = false := by rw [k24]; rfl
            have t22 : (o.kind == 22) = false := by rw [k24]; rfl
            have t24 : (o.kind == 24) = true := by rw [k24]; rfl
            have t29 : (o.kind == 29) = false := by rw [k24]; rfl
            clear k1 k20 k21 k23 k25 k26 k27 k22 k24
            have HNumD := Lib.hid (HLCr.out.room (m := 1) (by decide))
            go_wp2_with (first | (at_builtin; go_loud (refine wpList_append_own _ rfl _ _ _ rfl w2.heap.size 9 i0 (.string ⟨#[]⟩) 1 16 Tryd.underlying23 HI0.out.1 HI0.out.2.1 HI0.out.2.2.1 HI0.out.2.2.2 rfl (by decide) _ (LC).length (strCs (LC)) rfl (HLCr.out.belowed ((Below.refl _ _).alloc (Nat.le_refl _) _)).row ⟨_, 0, none⟩ 1 1 (strCs [o.text]) rfl rfl (World.news_of_block (cs := #[.string (o.text)]) (heap_alloc_new _ _)) (cellsS_one _) HNumD.out.1 HNumD.out.2 (HLCr.out.belowed ((Below.refl _ _).alloc (Nat.le_refl _) _)).below.size ?_)))
            intro vD wD hown hgrow _
            have HLD := Lib.hid (show LineAt 6 w2 wD vD (LC ++ [o.text]) from (HLCr.out.belowed ((Below.refl _ _).alloc (Nat.le_refl _) (.cells #[.string (o.text)] 9))).push (M := [o.text]) rfl rfl hown hgrow)
            clear hown hgrow
            go_wp2_with fail
            go_meet
            exact ⟨_, rfl, Lib.hid (by rw [HQ5.out, HKi.out.1, HKi.out.2]; simpa [optL] using HLD.out)⟩
          by_cases k29 : o.kind = 29
          · have HKi := Lib.hid (show immKind o.kind = false ∧ textKind o.kind = true by rw [k29]; exact ⟨rfl, rfl⟩)
            have t1 : (o.kind == 1) = false := by rw [k29]; rfl
            have t20 : (o.kind == 20) = false := by rw [k29]; rfl
            have t21 : (o.kind == 21) = false := by rw [k29]; rfl
            have t23 : (o.kind == 23) = false := by rw [k29]; rfl
            have t25 : (o.kind == 25) = false := by rw [k29]; rfl
            have t26 : (o.kind == 26) = false := by rw [k29]; rfl
            have t27 : (o.kind == 27) = false := by rw [k29]; rfl
            have t22 : (o.kind == 22) = false := by rw [k29]; rfl
            have t24 : (o.kind == 24) = false := by rw [k29]; rfl
            have t29 : (o.kind == 29) = true := by rw [k29]; rfl
            clear k1 k20 k21 k23 k25 k26 k27 k22 k24 k29
            have HNumD := Lib.hid (HLCr.out.room (m := 1) (by decide))
            go_wp2_with (first | (at_builtin; go_loud (refine wpList_append_own _ rfl _ _ _ rfl w2.heap.size 9 i0 (.string ⟨#[]⟩) 1 16 Tryd.underlying23 HI0.out.1 HI0.out.2.1 HI0.out.2.2.1 HI0.out.2.2.2 rfl (by decide) _ (LC).length (strCs (LC)) rfl (HLCr.out.belowed ((Below.refl _ _).alloc (Nat.le_refl _) _)).row ⟨_, 0, none⟩ 1 1 (strCs [o.text]) rfl rfl (World.news_of_block (cs := #[.string (o.text)]) (heap_alloc_new _ _)) (cellsS_one _) HNumD.out.1 HNumD.out.2 (HLCr.out.belowed ((Below.refl _ _).alloc (Nat.le_refl _) _)).below.size ?_)))
            intro vD wD hown hgrow _
            have HLD := Lib.hid (show LineAt 6 w2 wD vD (LC ++ [o.text]) from (HLCr.out.belowed ((Below.refl _ _).alloc (Nat.le_refl _) (.cells #[.string (o.text)] 9))).push (M := [o.text]) rfl rfl hown hgrow)
            clear hown hgrow
            go_wp2_with fail
            go_meet
            exact ⟨_, rfl, Lib.hid (by rw [HQ5.out, HKi.out.1, HKi.out.2]; simpa [optL] using HLD.out)⟩
          have HKi := Lib.hid (show immKind o.kind = false ∧ textKind o.kind = false by unfold immKind textKind; exact ⟨decide_eq_false (by omega), decide_eq_false (by omega)⟩)
          have t1 : (o.kind == 1) = false := by simpa using k1
          have t20 : (o.kind == 20) = false := by simpa using k20
          have t21 : (o.kind == 21) = false := by simpa using k21
          have t23 : (o.kind == 23) = false := by simpa using k23
          have t25 : (o.kind == 25) = false := by simpa using k25
          have t26 : (o.kind == 26) = false := by simpa using k26
          have t27 : (o.kind == 27) = false := by simpa using k27
          have t22 : (o.kind == 22) = false := by simpa using k22
          have t24 : (o.kind == 24) = false := by simpa using k24
          have t29 : (o.kind == 29) = false := by simpa using k29
          clear k1 k20 k21 k23 k25 k26 k27 k22 k24 k29
          go_wp2_with fail
          go_meet
          exact ⟨_, rfl, Lib.hid (by rw [HQ5.out, HKi.out.1, HKi.out.2]; have := HLCr.out.more (N' := 6) (by decide); simpa [optL] using this)⟩
        case rest =>
          obtain ⟨vD, hvD, HLDr⟩ := hcut
          subst hvD
          obtain ⟨⟨q0, q1, q2, q3, q4, q5, q6⟩, q7⟩ := HF2.out.below HLDr.out.below
          -- LOOP
          have hll : (o.args.length : Int) ≤ 1048576 := by have := HL.out; omega
          clear q0 q1 q2 q3 q4 q5 q7
          go_wp2_with fail
          clear q6
          go_loopg [5, 74] o.args.length (fun g v5 v74 wy => ∃ j : Nat, j ≤ o.args.length ∧ j + g = o.args.length ∧ v74 = .int .i64 (j : Int) ∧ Hid (LineAt (6 + j) w2 wy v5 (linePre o ++ (o.args.take j).map regL)))
          case atStart => exact ⟨0, by omega, by omega, rfl, Lib.hid (by simpa using HLDr.out)⟩
          case round =>
            obtain ⟨j, hj, hjg, rfl, HLR⟩ := hrel
            by_cases hlt : j < o.args.length
            · obtain ⟨_, _, e, _, hs⟩ := HN.out
              simp only [Value.slice.injEq, true_and] at e
              obtain ⟨e, e2⟩ := e
              subst e e2
              obtain ⟨bb, off, e, hbl, hrow⟩ := hs (fun e => by rw [e] at hlt; simp at hlt)
              subst e
              have e0 := hrow j _ (List.getElem?_eq_getElem hlt) 0 _ rfl
              rw [← (HB2.out.trans (HLR.out.below.mono HB2.out.size)).cell hbl] at e0
              simp only [Nat.mul_one, Nat.add_zero] at e0
              have hXj := HX.out _ (List.getElem_mem hlt)
              have HTk := Lib.hid (List.take_succ_eq_append_getElem hlt)
              clear hrow hs
              generalize o.args[j]'hlt = x at *
              have HXj := Lib.hid hXj
              have hjl : (j : Int) < (o.args.length : Int) := by omega
              obtain ⟨M, hM⟩ : ∃ M, M = linePre o ++ (o.args.take j).map regL := ⟨_, rfl⟩
              rw [← hM] at HLR
              have HM := Lib.hid hM
              have HNumE := Lib.hid (HLR.out.room (m := 1) (by omega))
              clear hXj hM hlt
              go_wp2_with (first | (go_at_call 50; (with_reducible refine (HXj.out _ (HE2.out.below HLR.out.below)).mono ?_); rintro e wEc ⟨rfl, hbEc⟩; have HLEc := Lib.hid (HLR.out.belowed hbEc); clear hbEc) | (at_builtin; go_loud (refine wpList_append_own _ rfl _ _ _ rfl w2.heap.size 9 i0 (.string ⟨#[]⟩) 1 16 Tryd.underlying23 HI0.out.1 HI0.out.2.1 HI0.out.2.2.1 HI0.out.2.2.2 rfl (by decide) _ (M).length (strCs (M)) rfl (HLEc.out.belowed ((Below.refl _ _).alloc (Nat.le_refl _) _)).row ⟨_, 0, none⟩ 1 1 (strCs [regL x]) rfl rfl (World.news_of_block (cs := #[.string (regL x)]) (heap_alloc_new _ _)) (cellsS_one _) HNumE.out.1 HNumE.out.2 (HLEc.out.belowed ((Below.refl _ _).alloc (Nat.le_refl _) _)).below.size ?_)))
              intro vE wE hown hgrow _
              have HLE := Lib.hid (show LineAt (6 + j + 1) w2 wE vE (M ++ [regL x]) from (HLEc.out.belowed ((Below.refl _ _).alloc (Nat.le_refl _) (.cells #[.string (regL x)] 9))).push (M := [regL x]) rfl rfl hown hgrow)
              clear hown hgrow
              go_wp2_with fail
              go_roundg (o.args.length - (j + 1))
              case measure => omega
              case rel =>
                refine ⟨j + 1, by omega, by omega, by rw [Int.natCast_add]; rfl, Lib.hid ?_⟩
                have := HLE.out
                rw [HM.out, List.append_assoc] at this
                rw [HTk.out, List.map_append]
                exact this
            · obtain rfl : j = o.args.length := by omega
              have t3 : (o.args.length : Int) ≤ (o.args.length : Int) := Int.le_refl _
              have HW := Lib.hid (words_ok (lineP o) _ w2.heap.size wr (by have := HLR.out.row; rw [List.take_length] at this; exact this) 1048576 HSz.out (by have := HLR.out.cnt; rw [List.take_length] at this; have h2 := HL.out; have h3 : (lineP o).length ≤ 6 + o.args.length := this; omega))
              have HBf := Lib.hid (HB2.out.trans (HLR.out.below.mono HB2.out.size))
              clear hlt HLR
              go_wp2_with (go_at_call 52; (with_reducible refine HW.out.mono ?_); rintro e w9 ⟨rfl, hb9⟩; have HB9 := Lib.hid (HBf.out.trans (hb9.mono HBf.out.size)); clear hb9)
              go_ret
              exact ⟨rfl, HB9.out⟩
end Go.Proofs.YtlomdlblohnfmaaDoor

