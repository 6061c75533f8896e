/- The Else of each set is led to by that set alone: the program. -/
import Derived.Test.YtlomdlblohnfmaaDoorIrApart
import Derived.Test.YtlomdlblohnfmaaDoorName
namespace Go.Proofs.YtlomdlblohnfmaaDoor
open Go.RowKit

theorem exits_two (x : IrX) : (exitsI x).2.length ≤ 2 := by
  unfold exitsI
  split
  · simp
  split
  · simp
  split <;> simp
/-- where the exits of the first blocks, and some more, lead to -/
def ledList (bs : List IrB) (j : Nat) : List Int := (bs.take j).flatMap fun b => (exitsI b.exit).2
theorem ledList_len (bs : List IrB) (j : Nat) : (ledList bs j).length ≤ 2 * j := by
  induction j with
  | zero => simp [ledList]
  | succ j ih =>
    unfold ledList at ih ⊢
    rcases Nat.lt_or_ge j bs.length with h | h
    · rw [List.take_succ_eq_append_getElem h, List.flatMap_append, List.length_append]
      have := exits_two bs[j].exit
      simp only [List.flatMap_cons, List.flatMap_nil, List.append_nil]
      omega
    · rw [List.take_of_length_le (by omega)] at ih ⊢
      omega
theorem ledList_next {bs : List IrB} {j : Nat} (h : j < bs.length) : ledList bs (j + 1) = ledList bs j ++ (exitsI bs[j].exit).2 := by
  unfold ledList
  rw [List.take_succ_eq_append_getElem h, List.flatMap_append]
  simp
theorem ledList_all (bs : List IrB) : ledAll bs.length bs = bumpAll (List.replicate bs.length 0) (ledList bs bs.length) := by
  unfold ledAll ledList
  rw [List.take_length]
theorem bumpAll_bound {n : Nat} {M : List Int} (h : ∀ y ∈ M, 1 ≤ y ∧ y < (n : Int)) (k : Nat) (hk : k < n) : ∃ c : Int, (bumpAll (List.replicate n 0) M)[k]? = some c ∧ 0 ≤ c ∧ c ≤ M.length := by
  have hl : (bumpAll (List.replicate n 0) M).length = n := by rw [bumpAll_len]; simp
  refine ⟨_, List.getElem?_eq_getElem (by omega), ?_⟩
  have h1 := bumpAll_at M (C := List.replicate n 0) (fun m hm => by have := h m hm; simp; omega) k
  have h2 : (List.replicate n (0 : Int)).getD k 0 = 0 := by
    rw [List.getD_eq_getElem?_getD, List.getElem?_replicate]
    split <;> rfl
  rw [h2, List.getD_eq_getElem?_getD, List.getElem?_eq_getElem (by omega)] at h1
  simp only [Option.getD_some] at h1
  rw [h1]
  have := List.countP_le_length (p := fun y => decide (y = (k : Int))) (l := M)
  omega
/-- what the closure of apart reads: the row behind a block -/
theorem apartClo_ok (bx g n : Nat) (T : TypeId) (B : Nat) (bs : List IrB) (q : IrB × Value) (hq : q.1.exit.kind = 4 → 1 ≤ q.1.exit.els ∧ q.1.exit.els < (n : Int)) (w : World) (hx : w.cell? ⟨bx, 0, none⟩ = some (.slice (some ⟨g, 0, none⟩) n n)) (hR : RowI w B g T (ledAll n bs)) :
    Calls Tryd.prog 65 #[blkVal q, .pointer (some ⟨bx, 0, none⟩)] w fun e w' => e = .returned (.bool (ledBad n bs q.1)) ∧ Below w.heap.size w w' := by
  obtain ⟨b, v⟩ := q
  unfold blkVal
  simp only at hq ⊢
  by_cases hk : b.exit.kind = 4
  · obtain ⟨h1, h2⟩ := hq hk
    obtain ⟨k, hk0⟩ : ∃ k : Nat, b.exit.els = (k : Int) := ⟨b.exit.els.toNat, by omega⟩
    have hkn : k < n := by omega
    obtain ⟨c, hc⟩ : ∃ c, (ledAll n bs)[k]? = some c := ⟨_, List.getElem?_eq_getElem (by rw [ledAll_len]; exact hkn)⟩
    have c0 := hR.cell hc
    have he := Lib.hid (show ledBad n bs b = decide (1 < c) by
      unfold ledBad
      rw [hk0, Int.toNat_natCast, List.getD_eq_getElem?_getD, hc]
      simp [hk])
    have t1 : (b.exit.kind == 4) = true := by rw [hk]; rfl
    rw [hk0]
    have hk1 : (k : Int) < (n : Int) := by omega
    clear hq hk h1 h2 hk0 hR hc
    have hnl := World.block_lt_of_cell? w _ hx
    have hgl := World.block_lt_of_cell? w _ c0
    go_enter Tryd.func65, Tryd.ntmps65
    go_wp2_with fail
    go_ret
    exact ⟨by rw [he.out]; rfl, (Below.refl _ _).alloc (Nat.le_refl _) _⟩
  · have he := Lib.hid (show ledBad n bs b = false by unfold ledBad; simp [hk])
    have t1 : (b.exit.kind == 4) = false := by simpa using hk
    clear hq hk hR
    go_enter Tryd.func65, Tryd.ntmps65
    go_wp2_with fail
    go_ret
    exact ⟨by rw [he.out]; rfl, (Below.refl _ _).alloc (Nat.le_refl _) _⟩

theorem grown_keeps {w w' : World} {g : Nat} (h : w.grownBy w' (some g)) {b off : Nat} (hb : b < w.heap.size) (hg : b ≠ g) {v : Value} (hc : w.cell? ⟨b, off, none⟩ = some v) : w'.cell? ⟨b, off, none⟩ = some v := by
  have hk := h.block b hb (fun e => hg (by simpa using e))
  unfold World.cell? at hc ⊢
  simp only at hc ⊢
  rw [hk]
  exact hc
/-- the start of apart: a box of the function, the row, a box of the row -/
theorem apart_start (w : World) (o : Obj) (n : Nat) (hn : n ≤ 4096) (T T2 : TypeId) :
    RowI (((w.alloc o).alloc (.cells (cellsI (List.replicate n 0)).toArray T)).alloc (.cells #[.slice (some ⟨w.heap.size + 1, 0, none⟩) n n] T2)) w.heap.size (w.heap.size + 1) T (bumpAll (List.replicate n 0) []) ∧
    Below w.heap.size w (((w.alloc o).alloc (.cells (cellsI (List.replicate n 0)).toArray T)).alloc (.cells #[.slice (some ⟨w.heap.size + 1, 0, none⟩) n n] T2)) ∧
    (((w.alloc o).alloc (.cells (cellsI (List.replicate n 0)).toArray T)).alloc (.cells #[.slice (some ⟨w.heap.size + 1, 0, none⟩) n n] T2)).cell? ⟨w.heap.size + 1 + 1, 0, none⟩ = some (.slice (some ⟨w.heap.size + 1, 0, none⟩) n n) ∧
    (((w.alloc o).alloc (.cells (cellsI (List.replicate n 0)).toArray T)).alloc (.cells #[.slice (some ⟨w.heap.size + 1, 0, none⟩) n n] T2)).heap[w.heap.size]? = some o := by
  obtain ⟨h1, h2, hb⟩ := three_new w o (.cells (cellsI (List.replicate n 0)).toArray T) (.cells #[.slice (some ⟨w.heap.size + 1, 0, none⟩) n n] T2)
  refine ⟨?_, hb, ?_, ?_⟩
  · have h0 := World.ownsRow_lit (base := w.heap.size) (e := T) (size := 1) (w.alloc o) (cellsI (List.replicate n 0)).toArray n (by simp) (by unfold maxLen; omega) (by simp [cellsI])
    have h3 := World.ownsRow.alloc h0 (.cells #[.slice (some ⟨w.heap.size + 1, 0, none⟩) n n] T2)
    unfold RowI
    have e1 : bumpAll (List.replicate n 0) [] = List.replicate n 0 := rfl
    rw [e1, List.length_replicate]
    simpa using h3
  · unfold World.cell?
    simp only [h2]
    rfl
  · rw [((Below.refl ((w.alloc o).alloc _).heap.size ((w.alloc o).alloc (.cells (cellsI (List.replicate n 0)).toArray T))).alloc (Nat.le_refl _) _).block _ (by simp; omega)]
    exact ir_new1 w o _
theorem f_cell4 {w : World} {g : Nat} {T : TypeId} {v0 v1 v2 v3 v4 : Value} (h : w.heap[g]? = some (.cells #[v0, v1, v2, v3, v4] T (0, 0))) : w.cell? ⟨g, 4, none⟩ = some v4 := by
  simp [World.cell?, h]
set_option maxRecDepth 100000 in
set_option maxHeartbeats 4000000 in
theorem apart_ok (f : IrF) (vs vb : Value) (w : World) (hB : IsBlks w.heap.size w vb f.blocks) (hn : f.blocks.length ≤ 4096) (hx : ∀ b ∈ f.blocks, ∀ y ∈ (exitsI b.exit).2, 1 ≤ y ∧ y < (f.blocks.length : Int)) :
    Calls Tryd.prog 45 #[fnV f vs vb] w fun e w' => e = .returned (.bool (apartI f.blocks)) ∧ Below w.heap.size w w' := by
  obtain ⟨a, cap, Q, rfl, ho, hQ, hs, hops⟩ := hB
  have HOps := Lib.hid (show ∀ q ∈ Q, ∃ a n c, q.2 = .slice a n c from fun q hq => by
    obtain ⟨a, c, _, e, _⟩ := hops q hq
    exact ⟨a, _, c, e⟩)
  clear hops
  have hmk := make_ints f.blocks.length hn
  have hlen : (f.blocks.length : Int) ≤ 4096 := by omega
  have hQl : Q.length = f.blocks.length := by rw [← hQ, List.length_map]
  have HS := Lib.hid hs
  have HQ := Lib.hid hQ
  have HX := Lib.hid hx
  have HN := Lib.hid hn
  have HQL := Lib.hid hQl
  clear hs hQ hx ho hn hQl
  unfold fnV
  go_enter Tryd.func45, Tryd.ntmps45
  go_upto_region 2 with fail
  obtain ⟨hR0, hb0, hx0, hf0⟩ := apart_start w (.cells #[.string f.name, .int .i64 f.params, .int .i64 f.regs, vs, .slice a f.blocks.length cap] 35) f.blocks.length HN.out 3 43
  generalize World.alloc _ (.cells #[.slice (some ⟨w.heap.size + 1, 0, none⟩) _ _] _) = w3 at *
  have f4 := f_cell4 hf0
  have HF4 := Lib.hid f4
  have HR0 := Lib.hid hR0
  have HB0 := Lib.hid hb0
  have HX0 := Lib.hid hx0
  have hsz := hR0.lt.2
  have hsx := World.block_lt_of_cell? w3 _ hx0
  have HSZ := Lib.hid (And.intro hsz hsx)
  clear hR0 hb0 hx0 hf0 hsz hsx hmk
  go_wp2_with fail
  go_loopg [17] f.blocks.length (fun g v17 wy => ∃ j : Nat, j ≤ f.blocks.length ∧ j + g = f.blocks.length ∧ v17 = .int .i64 (j : Int) ∧ Hid (RowI wy w.heap.size (w.heap.size + 1) 3 (bumpAll (List.replicate f.blocks.length 0) (ledList f.blocks j))) ∧ Hid (w3.grownBy wy (some (w.heap.size + 1))))
  case atStart => exact ⟨0, by omega, by omega, rfl, HR0.out, grown_refl _ _⟩
  case round =>
    obtain ⟨j, hj, hjg, rfl, HR, HG⟩ := hrel
    have HBr := Lib.hid (HB0.out.trans (below_grown (B := w.heap.size) HG.out (by omega) HB0.out.size))
    by_cases hlt : j < f.blocks.length
    · have hlq : j < Q.length := by rw [HQL.out]; exact hlt
      obtain ⟨bb, off, ha, hbl, hrow⟩ := HS.out (fun e => by rw [e] at hlq; simp at hlq)
      subst ha
      have hqb := Lib.hid (show Q[j].1 = f.blocks[j] by
        have h1 : (Q.map Prod.fst)[j]? = f.blocks[j]? := by rw [HQ.out]
        rw [List.getElem?_map, List.getElem?_eq_getElem hlq, List.getElem?_eq_getElem hlt] at h1
        exact Option.some.inj h1)
      have e0 := hrow j _ (List.getElem?_eq_getElem hlq) 0 _ rfl
      have e1 := hrow j _ (List.getElem?_eq_getElem hlq) 1 _ rfl
      have e2 := hrow j _ (List.getElem?_eq_getElem hlq) 2 _ rfl
      have e3 := hrow j _ (List.getElem?_eq_getElem hlq) 3 _ rfl
      have e4 := hrow j _ (List.getElem?_eq_getElem hlq) 4 _ rfl
      have e5 := hrow j _ (List.getElem?_eq_getElem hlq) 5 _ rfl
      rw [← HBr.out.cell hbl] at e0 e1 e2 e3 e4 e5
      simp only [Nat.add_zero] at e0
      have HL := Lib.hid (show ∀ y ∈ (exitsI Q[j].1.exit).2, 1 ≤ y ∧ y < (f.blocks.length : Int) by
        rw [hqb.out]; exact HX.out _ (List.getElem_mem hlt))
      have HNx := Lib.hid (show ledList f.blocks (j + 1) = ledList f.blocks j ++ (exitsI Q[j].1.exit).2 by
        rw [hqb.out]; exact ledList_next hlt)
      have HLd := Lib.hid (show ∀ y ∈ ledList f.blocks j, 1 ≤ y ∧ y < (f.blocks.length : Int) from fun y hy => by
        unfold ledList at hy
        rw [List.mem_flatMap] at hy
        obtain ⟨b', hb', hy⟩ := hy
        exact HX.out b' (List.mem_of_mem_take hb') y hy)
      have HL0 := Lib.hid (ledList_len f.blocks j)
      have HLt := Lib.hid (exits_two Q[j].1.exit)
      have hvo := HOps.out _ (List.getElem_mem hlq)
      clear hrow hqb
      generalize Q[j]'hlq = q at *
      obtain ⟨b, vo⟩ := q
      obtain ⟨ao, no, co, rfl⟩ := hvo
      simp only at e0 e1 e2 e3 e4 e5 HL HNx HLt
      have HE := Lib.hid (fun w1 => exits_ok b.exit w1)
      unfold exitV at HE
      have hjl : (j : Int) < (f.blocks.length : Int) := by omega
      clear hlq hlt
      go_wp2_with (go_at_call 14; (with_reducible refine (HE.out _).mono ?_); rintro e w5 ⟨⟨v1, v2, rfl, hk2, _, hn2⟩, hb5⟩; obtain ⟨a2, cap2, rfl, _, hs2⟩ := hn2; have HG5 := Lib.hid (grown_below (grown_below HG.out ((Below.refl _ _).alloc (Nat.le_refl _) _)) hb5); have HR5 := Lib.hid ((HR.out.below ((Below.refl _ _).alloc (Nat.le_refl _) _)).below hb5); have HK2 := Lib.hid hk2; have HS2 := Lib.hid hs2; clear hk2 hs2 hb5)
      generalize (exitsI b.exit).2 = l at *
      have hl2 : (l.length : Int) ≤ 2 := by have := HLt.out; omega
      go_loopg [29] l.length (fun g v29 wy => ∃ i : Nat, i ≤ l.length ∧ i + g = l.length ∧ v29 = .int .i64 (i : Int) ∧ Hid (RowI wy w.heap.size (w.heap.size + 1) 3 (bumpAll (List.replicate f.blocks.length 0) (ledList f.blocks j ++ l.take i))) ∧ Hid (w5.grownBy wy (some (w.heap.size + 1))))
      case atStart => exact ⟨0, by omega, by omega, rfl, by rw [List.take_zero, List.append_nil]; exact HR5.out, grown_refl _ _⟩
      case round =>
        obtain ⟨i, hi, hig, rfl, HR6, HG6⟩ := hrel
        by_cases hil : i < l.length
        · obtain ⟨b2, off2, e, hlt2, hc2⟩ := HS2.out (fun e => by rw [e] at hil; simp at hil)
          subst e
          have hne : b2 ≠ w.heap.size + 1 := by
            have h1 := HK2.out b2 rfl
            have h2 := HSZ.out.1
            have h3 := HG.out.size
            simp at h1
            omega
          have d0 := grown_keeps HG6.out hlt2 hne (hc2 i _ (List.getElem?_eq_getElem hil) 0 _ rfl)
          simp only [Nat.mul_one, Nat.add_zero] at d0
          have hin := HL.out _ (List.getElem_mem hil)
          have htake := Lib.hid (List.take_succ_eq_append_getElem hil)
          generalize l[i]'hil = x at *
          obtain ⟨k, rfl⟩ : ∃ k : Nat, x = (k : Int) := ⟨x.toNat, by omega⟩
          have hkn : k < f.blocks.length := by omega
          obtain ⟨c, hc, hc0, hc1⟩ := bumpAll_bound (n := f.blocks.length) (M := ledList f.blocks j ++ l.take i) (fun y hy => by
            rcases List.mem_append.1 hy with h | h
            · exact HLd.out y h
            · exact HL.out y (List.mem_of_mem_take h)) k hkn
          have hc2 : c ≤ 9000 := by
            have h1 := HL0.out
            have h2 := HN.out
            rw [List.length_append, List.length_take] at hc1
            have h3 := HLt.out
            omega
          have d1 := HR6.out.cell hc
          have d2 := HR6.out.free k
          have d3 := grown_keeps (grown_trans HG5.out HG6.out) HSZ.out.2 (by omega) HX0.out
          have HB := Lib.hid (show bumpI (bumpAll (List.replicate f.blocks.length 0) (ledList f.blocks j ++ l.take i)) (k : Int) = (bumpAll (List.replicate f.blocks.length 0) (ledList f.blocks j ++ l.take i)).set k (c + 1) by
            unfold bumpI
            rw [Int.toNat_natCast, List.getD_eq_getElem?_getD, hc]
            rfl)
          have hkn2 : (k : Int) < (f.blocks.length : Int) := by omega
          clear hc hc1 hin hne hlt2 hkn
          have hil2 : (i : Int) < (l.length : Int) := by omega
          go_wp2_with fail
          go_roundg (l.length - (i + 1))
          case measure => omega
          case rel =>
            refine ⟨i + 1, by omega, by omega, by rw [Int.natCast_add]; rfl, ?_, grown_set HG6.out _ rfl _⟩
            have := HR6.out.set k (c + 1)
            rw [← HB.out] at this
            rw [htake.out, ← List.append_assoc, bumpAll_append]
            exact this
        · obtain rfl : i = l.length := by omega
          have t3 : (l.length : Int) ≤ (l.length : Int) := Int.le_refl _
          go_wp2_with fail
          go_roundg (f.blocks.length - (j + 1))
          case measure => omega
          case rel =>
            refine ⟨j + 1, by omega, by omega, by rw [Int.natCast_add]; rfl, ?_, ?_⟩
            · have := HR6.out
              rw [List.take_length] at this
              rw [HNx.out]
              exact this
            · exact grown_trans HG5.out HG6.out
    · obtain rfl : j = f.blocks.length := by omega
      have f4 := grown_keeps HG.out (by have := HSZ.out.1; omega) (by omega) HF4.out
      have x0 := grown_keeps HG.out HSZ.out.2 (by omega) HX0.out
      have HRf := Lib.hid (show RowI wr w.heap.size (w.heap.size + 1) 3 (ledAll f.blocks.length f.blocks) by rw [ledList_all]; exact HR.out)
      have HC := Lib.hid (any_blk 65 #[.pointer (some ⟨w.heap.size + 1 + 1, 0, none⟩)] (enters_of Tryd.func65 (by kernel_rfl) rfl) (fun q => ledBad f.blocks.length f.blocks q.1) (f.blocks.any (ledBad f.blocks.length f.blocks)) a cap Q wr ((HS.out.below HBr.out (Nat.le_refl _)).mono HBr.out.size) (fun W q hq hW => by
          have hqm : q.1 ∈ f.blocks := by rw [← HQ.out]; exact List.mem_map_of_mem hq
          refine apartClo_ok (w.heap.size + 1 + 1) (w.heap.size + 1) f.blocks.length 3 w.heap.size f.blocks q (fun hk => ?_) W ?_ (HRf.out.below hW)
          · refine HX.out _ hqm _ ?_
            unfold exitsI
            rw [if_neg (by omega), if_pos (.inr hk)]
            simp
          · rw [hW.cell (World.block_lt_of_cell? wr _ x0)]; exact x0) (by rw [HQL.out]; omega) (by rw [← HQ.out, List.any_map]; rfl))
      rw [HQL.out] at HC
      have HF := Lib.hid (apartI_led (n := f.blocks.length) (bs := f.blocks) HX.out)
      have t3 : (f.blocks.length : Int) ≤ (f.blocks.length : Int) := Int.le_refl _
      clear hlt x0
      go_wp2_with (go_at_call 64; (with_reducible refine HC.out.mono ?_); rintro e w6 ⟨rfl, hb6⟩; have HB6 := Lib.hid (HBr.out.trans (hb6.mono HBr.out.size)); clear hb6)
      go_ret
      exact ⟨by rw [← HF.out]; rfl, HB6.out⟩
end Go.Proofs.YtlomdlblohnfmaaDoor
