/- The reader of types: the byte that comes, a byte taken, what stands ahead of a byte. · The reader of types: what stands ahead of a byte; a number. -/
import Derived.Test.YtlcfejgjeljjdaaDoorMg1
import Derived.Test.YtlcfejgjeljjdaaDoorMg2
import Derived.Deep.RegionWith
import Derived.Lib.ConvBytes
import Derived.Deep.DeepCutAuto
namespace Go.Proofs.YtlcfejgjeljjdaaDoor
open Go.RowKit

/-- a reader in block b: its text, where it stands, the depth so far -/
structure RdAt (w : World) (b : Nat) (s : ByteArray) (k d : Nat) : Prop where
  blk : w.heap[b]? = some (.cells #[.string s, .int .i64 (k : Int), .int .i64 (d : Int)] 129 (0, 0))
theorem RdAt.cells {w b s k d} (h : RdAt w b s k d) : (w.cell? ⟨b, 0, none⟩ = some (.string s) ∧ w.cell? ⟨b, 1, none⟩ = some (.int .i64 (k : Int)) ∧ w.cell? ⟨b, 2, none⟩ = some (.int .i64 (d : Int))) ∧ ∀ j, w.frozen? ⟨b, j, none⟩ = false := by
  refine ⟨⟨?_, ?_, ?_⟩, fun j => ?_⟩
  · simp [World.cell?, h.blk]
  · simp [World.cell?, h.blk]
  · simp [World.cell?, h.blk]
  · simp [World.frozen?, h.blk]
theorem RdAt.drewN {w b s k d} (h : RdAt w b s k d) (n : Nat) : RdAt (w.drewN n) b s k d := ⟨h.blk⟩
theorem RdAt.set1 {w b s k d} (h : RdAt w b s k d) (m : Nat) : RdAt (w.setCell ⟨b, 1, none⟩ (.int .i64 (m : Int))) b s m d := by
  refine ⟨?_⟩
  simp [World.setCell, Array.getElem?_modify, h.blk]
theorem RdAt.set2 {w b s k d} (h : RdAt w b s k d) (m : Nat) : RdAt (w.setCell ⟨b, 2, none⟩ (.int .i64 (m : Int))) b s k m := by
  refine ⟨?_⟩
  simp [World.setCell, Array.getElem?_modify, h.blk]
theorem RdAt.at1 {w b s k d} (h : RdAt w b s k d) {m : Nat} {x : Int} (hx : x = m) : RdAt (w.setCell ⟨b, 1, none⟩ (.int .i64 x)) b s m d := by subst hx; exact h.set1 m
theorem RdAt.at2 {w b s k d} (h : RdAt w b s k d) {m : Nat} {x : Int} (hx : x = m) : RdAt (w.setCell ⟨b, 2, none⟩ (.int .i64 x)) b s k m := by subst hx; exact h.set2 m
theorem RdAt.below {w w' b s k d} (h : RdAt w b s k d) (hb : Below w.heap.size w w') : RdAt w' b s k d := ⟨by rw [hb.block b (lt_of_heap h.blk)]; exact h.blk⟩
theorem RdAt.lt {w b s k d} (h : RdAt w b s k d) : b < w.heap.size := lt_of_heap h.blk

/-- the byte at a place; 0 behind the end -/
def byteAt (s : ByteArray) (k : Nat) : Nat := if h : k < s.size then s[k].toNat else 0
theorem byteAt_in {s : ByteArray} {k : Nat} (h : k < s.size) : byteAt s k = s[k].toNat := by rw [byteAt, dif_pos h]
theorem byteAt_out {s : ByteArray} {k : Nat} (h : s.size ≤ k) : byteAt s k = 0 := by rw [byteAt, dif_neg (by omega)]

set_option maxHeartbeats 1000000 in
theorem next_ok (b k d : Nat) (s : ByteArray) (w : World) (h : RdAt w b s k d) :
    Calls Tryd.prog 83 #[.pointer (some ⟨b, 0, none⟩)] w fun e w' => e = .returned (.int .u8 (byteAt s k : Int)) ∧ ∃ n, w' = w.drewN n := by
  obtain ⟨⟨c0, c1, c2⟩, hf⟩ := h.cells
  clear h hf
  by_cases hk : k < s.size
  · have hE := Lib.hid (byteAt_in hk)
    have t1 : decide (k < s.size) = true := by simpa using hk
    go_enter Tryd.func83, Tryd.ntmps83
    go_wp2_with fail
    go_quiet (fail)
    go_wp2_with fail
    go_quiet (fail)
    go_wp2
    go_ret
    exact ⟨by rw [hE.out]; rfl, _, World.drewN_drewN _ _ _⟩
  · have hE := Lib.hid (byteAt_out (s := s) (k := k) (by omega))
    have t1 : decide (k < s.size) = false := by simpa using hk
    go_enter Tryd.func83, Tryd.ntmps83
    go_wp2_with fail
    go_quiet (fail)
    go_wp2
    go_ret
    exact ⟨by rw [hE.out]; rfl, _, rfl⟩
theorem next_is (r : Int) (b k d : Nat) (s : ByteArray) (w : World) (h : RdAt w b s k d) (hr : (byteAt s k : Int) = r) :
    Calls Tryd.prog 83 #[.pointer (some ⟨b, 0, none⟩)] w fun e w' => e = .returned (.int .u8 r) ∧ ∃ n, w' = w.drewN n := by
  subst hr; exact next_ok b k d s w h

set_option maxHeartbeats 2000000 in
/-- a byte that comes is taken -/
theorem take_yes (c : UInt8) (b k d : Nat) (s : ByteArray) (w : World) (h : RdAt w b s k d) (hk : k < s.size) (hc : s[k] = c) (hs : s.size ≤ 1048576) :
    Calls Tryd.prog 85 #[.pointer (some ⟨b, 0, none⟩), .int .u8 (c.toNat : Int)] w fun e w' => e = .returned (.bool true) ∧ RdAt w' b s (k + 1) d ∧ w.grownBy w' (some b) := by
  have H := Lib.hid h
  have HN := Lib.hid (show (byteAt s k : Int) = (c.toNat : Int) by rw [byteAt_in hk, hc])
  obtain ⟨⟨c0, c1, c2⟩, hf⟩ := h.cells
  have f1 := hf 1
  have t1 : decide (s.size ≤ k) = false := by simp; omega
  have t2 : decide ((s.size : Int) ≤ k) = false := by simp; omega
  clear h hc hf
  go_enter Tryd.func85, Tryd.ntmps85
  go_wp2_with fail
  go_quiet ((go_at_call 83; exact Calls.quiet_of (next_is _ _ _ _ _ _ (H.out.drewN _) HN.out)))
  go_wp2
  go_ret
  exact ⟨rfl, by have := (H.out.drewN nq).set1 (k + 1); exact this, grown_set (grown_drewN (grown_refl _ _) _) _ rfl _⟩

set_option maxHeartbeats 2000000 in
/-- a byte that does not come is not taken -/
theorem take_no (c : UInt8) (b k d : Nat) (s : ByteArray) (w : World) (h : RdAt w b s k d) (hc0 : c.toNat ≠ 0) (hc : ∀ h : k < s.size, s[k] ≠ c) :
    Calls Tryd.prog 85 #[.pointer (some ⟨b, 0, none⟩), .int .u8 (c.toNat : Int)] w fun e w' => e = .returned (.bool false) ∧ ∃ n, w' = w.drewN n := by
  have H := Lib.hid h
  have t1 : ((byteAt s k : Int) != (c.toNat : Int)) = true := by
    rw [bne_iff_ne]
    by_cases hk : k < s.size
    · rw [byteAt_in hk]
      intro e
      exact hc hk (UInt8.toNat_inj.1 (by omega))
    · rw [byteAt_out (by omega)]
      intro e
      omega
  generalize hg : (byteAt s k : Int) = x at t1
  have HN := Lib.hid hg
  clear h hc hg hc0
  go_enter Tryd.func85, Tryd.ntmps85
  go_wp2_with fail
  go_quiet ((go_at_call 83; exact Calls.quiet_of (next_is _ _ _ _ _ _ (H.out.drewN _) HN.out)))
  go_wp2
  go_ret
  exact ⟨rfl, _, rfl⟩

theorem takeY (x : Int) (c : UInt8) (b k d : Nat) (s : ByteArray) (w : World) (hx : x = (c.toNat : Int)) (h : RdAt w b s k d) (hk : k < s.size) (hc : s[k] = c) (hs : s.size ≤ 1048576) :
    Calls Tryd.prog 85 #[.pointer (some ⟨b, 0, none⟩), .int .u8 x] w fun e w' => e = .returned (.bool true) ∧ RdAt w' b s (k + 1) d ∧ w.grownBy w' (some b) := by
  subst hx; exact take_yes c b k d s w h hk hc hs
theorem takeN (x : Int) (c : UInt8) (b k d : Nat) (s : ByteArray) (w : World) (hx : x = (c.toNat : Int)) (h : RdAt w b s k d) (hc0 : c.toNat ≠ 0) (hc : ∀ h : k < s.size, s[k] ≠ c) :
    Calls Tryd.prog 85 #[.pointer (some ⟨b, 0, none⟩), .int .u8 x] w fun e w' => e = .returned (.bool false) ∧ ∃ n, w' = w.drewN n := by
  subst hx; exact take_no c b k d s w h hc0 hc

end Go.Proofs.YtlcfejgjeljjdaaDoor
namespace Go.Proofs.YtlcfejgjeljjdaaDoor
open Go.RowKit

theorem cut_index {c : UInt8} {l u r : List UInt8} (h : cutAt c l = some (u, r)) : Lib.indexByte l c = (u.length : Nat) := by
  obtain ⟨rfl, h2⟩ := cutAt_some h
  refine indexByte_at (by simp) fun k hk => ?_
  rw [List.getElem?_append_left hk]
  intro e
  exact h2 (List.mem_of_getElem? e)
theorem cut_index_no {c : UInt8} {l : List UInt8} (h : cutAt c l = none) : Lib.indexByte l c = -1 := by
  rw [cutAt_none] at h
  exact indexByte_no fun k e => h (List.mem_of_getElem? e)
theorem idxc_is (c : UInt8) (o : Int) (s : ByteArray) (k : Nat) (w : World) (ho : Lib.indexByte (sfx s k) c = o) :
    Calls Tryd.prog 84 #[.string (s.extract k s.size), .int .u8 (c.toNat : Int)] w fun e w' => e = .returned (.int .i64 o) ∧ w' = w :=
  (Tryd.strings_IndexByte _ (c.toNat : Int) w).mono fun _ _ ⟨he, hw⟩ => ⟨by rw [he, sfx_extract, ← ho]; simp, hw⟩

set_option maxHeartbeats 2000000 in
/-- what stands ahead of a byte is taken, and the byte -/
theorem till_yes (c : UInt8) (b k d : Nat) (s : ByteArray) (u r : List UInt8) (w : World) (h : RdAt w b s k d) (hk : k ≤ s.size) (hc : cutAt c (sfx s k) = some (u, r)) (hs : s.size ≤ 1048576) :
    Calls Tryd.prog 86 #[.pointer (some ⟨b, 0, none⟩), .int .u8 (c.toNat : Int)] w fun e w' => e = .returned (.tuple #[.string (s.extract k (k + u.length)), .bool true]) ∧ RdAt w' b s (k + u.length + 1) d ∧ w.grownBy w' (some b) := by
  have H := Lib.hid h
  have HI := Lib.hid (cut_index hc)
  have hl : k + u.length + 1 ≤ s.size := by
    have := congrArg List.length (cutAt_some hc).1
    rw [sfx_length] at this
    simp at this; omega
  obtain ⟨⟨c0, c1, c2⟩, hf⟩ := h.cells
  have f1 := hf 1
  generalize u.length = m at *
  clear h hc hf
  go_enter Tryd.func86, Tryd.ntmps86
  go_wp2_with fail
  go_quiet ((go_at_call 84; exact Calls.quiet_of_same (idxc_is c _ _ _ _ HI.out)))
  go_wp2_with fail
  go_quiet (fail)
  go_wp2_with fail
  go_ret2
  exact ⟨rfl, (H.out.drewN _).at1 (by omega), grown_set (grown_drewN (grown_refl _ _) _) _ rfl _⟩

set_option maxHeartbeats 2000000 in
/-- a byte that does not come at all -/
theorem till_no (c : UInt8) (b k d : Nat) (s : ByteArray) (w : World) (h : RdAt w b s k d) (hk : k ≤ s.size) (hc : cutAt c (sfx s k) = none) :
    Calls Tryd.prog 86 #[.pointer (some ⟨b, 0, none⟩), .int .u8 (c.toNat : Int)] w fun e w' => e = .returned (.tuple #[.string ⟨#[]⟩, .bool false]) ∧ ∃ n, w' = w.drewN n := by
  have HI := Lib.hid (cut_index_no hc)
  obtain ⟨⟨c0, c1, c2⟩, hf⟩ := h.cells
  clear h hc hf
  go_enter Tryd.func86, Tryd.ntmps86
  go_wp2_with fail
  go_quiet ((go_at_call 84; exact Calls.quiet_of_same (idxc_is c _ _ _ _ HI.out)))
  go_wp2
  go_ret2
  exact ⟨rfl, _, rfl⟩

/-- what is told of a number -/
def Numbered (r : Option Nat) (w : World) (e : Ending) (w' : World) : Prop :=
  (match r with
    | some n => e = .returned (.tuple #[.int .i64 n, .bool true])
    | none => ∃ x : Int, e = .returned (.tuple #[.int .i64 x, .bool false])) ∧ Below w.heap.size w w'
theorem numbered_no {w w' : World} {r : Option Nat} {x : Int} (hr : r = none) (hb : Below w.heap.size w w') : Numbered r w (.returned (.tuple #[.int .i64 x, .bool false])) w' := by subst hr; exact ⟨⟨x, rfl⟩, hb⟩
theorem numbered_yes {w w' : World} {r : Option Nat} {n : Nat} (hr : r = some n) (hb : Below w.heap.size w w') : Numbered r w (.returned (.tuple #[.int .i64 n, .bool true])) w' := by subst hr; exact ⟨rfl, hb⟩
theorem numbered_end {w w' : World} {r : Option Nat} {n : Nat} (hr : r = if n ≤ 1099511627776 then some n else none) (hb : Below w.heap.size w w') : Numbered r w (.returned (.tuple #[.int .i64 n, .bool (decide ((n : Int) ≤ 1099511627776))])) w' := by
  by_cases h : n ≤ 1099511627776
  · rw [if_pos h] at hr
    rw [decide_eq_true (show (n : Int) ≤ 1099511627776 by omega)]
    exact numbered_yes hr hb
  · rw [if_neg h] at hr
    rw [decide_eq_false (show ¬ (n : Int) ≤ 1099511627776 by omega)]
    exact numbered_no hr hb
theorem valT_bd : ∀ (n : Nat) (l : List UInt8), l.length = n → l.all digB = true → valT l < 10 ^ n
  | 0, l, hn, _ => by simp at hn; subst hn; simp [valT]
  | n + 1, l, hn, h => by
    rcases List.eq_nil_or_concat l with rfl | ⟨m, c, rfl⟩
    · simp at hn
    · rw [List.concat_eq_append] at *
      rw [List.all_append, Bool.and_eq_true] at h
      have h1 := valT_bd n m (by simpa using hn) h.1
      have h2 : digB c = true := by simpa using h.2
      unfold digB at h2
      rw [decide_eq_true_iff] at h2
      rw [valT_snoc, Nat.pow_succ]
      omega
theorem bytes_below (w : World) (e : TypeId) (s : ByteArray) : Below w.heap.size w (Lib.bytesWorld w e s) :=
  ⟨rfl, rfl, rfl, by rw [Lib.bytesWorld_size]; omega, fun k hk => Lib.bytesWorld_at_old w e s k hk⟩

theorem numT_long {l : List UInt8} (h : 15 < l.length) : numT l = none := by unfold numT; rw [if_pos (.inr (.inl h))]
theorem numT_zero {l : List UInt8} (h : 1 < l.length) (h0 : l.head? = some 48) : numT l = none := by unfold numT; rw [if_pos (.inr (.inr ⟨h, h0⟩))]
theorem numT_bad {l : List UInt8} (h : l.all digB = false) : numT l = none := by
  unfold numT
  split
  · rfl
  · rw [if_neg (by rw [h]; simp)]
theorem numT_end {l : List UInt8} (h0 : l ≠ []) (h1 : l.length ≤ 15) (h2 : 1 < l.length → l.head? ≠ some 48) (h3 : l.all digB = true) : numT l = if valT l ≤ 1099511627776 then some (valT l) else none := by
  unfold numT
  rw [if_neg (by rintro (h | h | h); exact h0 h; omega; exact h2 h.1 h.2)]
  by_cases h : valT l ≤ 1099511627776
  · rw [if_pos ⟨h3, h⟩, if_pos h]
  · rw [if_neg (fun e => h e.2), if_neg h]

set_option maxHeartbeats 4000000 in
set_option maxRecDepth 100000 in
theorem number_ok (s : ByteArray) (w : World) : Calls Tryd.prog 87 #[.string s] w (Numbered (numT s.data.toList) w) := by
  have hl : s.data.toList.length = s.size := by rw [Array.length_toList]; rfl
  have Hl := Lib.hid hl
  clear hl
  by_cases h0 : s.size = 0
  · have hfin := Lib.hid (show numT s.data.toList = none by unfold numT; rw [if_pos (.inl (List.eq_nil_of_length_eq_zero (by rw [Hl.out]; exact h0)))])
    have t1 : s.toList.isEmpty = true := by
      rw [Lib.toList_data, List.isEmpty_iff]
      exact List.eq_nil_of_length_eq_zero (by rw [Hl.out]; exact h0)
    go_enter Tryd.func87, Tryd.ntmps87
    go_wp2_with fail
    go_ret2
    exact numbered_no hfin.out (Below.refl _ _)
  · have t1 : s.toList.isEmpty = false := by
      rw [Lib.toList_data, List.isEmpty_eq_false_iff]
      intro e
      have := Hl.out
      rw [e] at this
      exact h0 this.symm
    by_cases h15 : 15 < s.size
    · have hfin := Lib.hid (numT_long (l := s.data.toList) (by rw [Hl.out]; exact h15))
      have t2 : (15 : Int) < s.size := by omega
      go_enter Tryd.func87, Tryd.ntmps87
      go_wp2_with fail
      go_ret2
      exact numbered_no hfin.out (Below.refl _ _)
    · have t2 : (s.size : Int) ≤ 15 := by omega
      by_cases hz : 1 < s.size ∧ s.data.toList.head? = some 48
      · have hfin := Lib.hid (numT_zero (l := s.data.toList) (by rw [Hl.out]; exact hz.1) hz.2)
        have h1 : 0 < s.size := by omega
        have t3 : (1 : Int) < s.size := by omega
        have t4 : ((s[0].toNat : Int) == 48) = true := by
          have := hz.2
          rw [head_at s h1] at this
          simp [Option.some.inj this]
        clear hz
        go_enter Tryd.func87, Tryd.ntmps87
        go_wp2_with fail
        go_ret2
        exact numbered_no hfin.out (Below.refl _ _)
      · have h1 : 0 < s.size := by omega
        have HZ := Lib.hid (show 1 < s.data.toList.length → s.data.toList.head? ≠ some 48 from fun a b => hz ⟨by rw [Hl.out] at a; exact a, b⟩)
        have hcv := fun w : World => Lib.run_convert_string_bytes (P := Tryd.prog) w 9 148 5 s Tryd.underlying9 Tryd.underlying148 Tryd.underlying5
        have hz' : ((s.size : Int) ≤ 1) ∨ ((1 : Int) < s.size ∧ ((s[0].toNat : Int) == 48) = false) := by
          by_cases h : 1 < s.size
          · refine .inr ⟨by omega, ?_⟩
            have h3 : s.data.toList.head? ≠ some 48 := fun e => hz ⟨h, e⟩
            rw [head_at s h1] at h3
            rw [beq_eq_false_iff_ne]
            intro e
            have e' : s[0].toNat = 48 := by omega
            exact h3 (by rw [Option.some.injEq]; exact UInt8.toNat_inj.1 e')
          · exact .inl (by omega)
        clear hz
        go_enter Tryd.func87, Tryd.ntmps87
        go_upto_region 1 with fail
        go_cut [23] (fun v wx => v = .bool false ∧ w = wx)
        case first =>
          rcases hz' with h | ⟨h, h'⟩
          all_goals
            go_wp2_with fail
            go_meet
            exact ⟨by congr 1; simp_all; try omega, rfl⟩
        case rest =>
          obtain ⟨rfl, rfl⟩ := hcut
          clear hz'
          go_wp2_with fail
          have hcell : ∀ j (hj : j < s.size), (Lib.bytesWorld w 5 s).cell? ⟨w.heap.size, j, none⟩ = some (.int .u8 (s[j].toNat : Int)) := fun j hj => by
            rw [Lib.bytesWorld_cell _ _ _ _ hj, getD_lt _ _ (by rw [Hl.out]; exact hj)]
            rfl
          have HC := Lib.hid hcell
          have HB := Lib.hid (bytes_below w 5 s)
          clear hcell hcv
          generalize Lib.bytesWorld w 5 s = w1 at HC HB ⊢
          go_loop [4, 27] (fun nv i => ∃ k : Nat, k ≤ s.size ∧ i = .int .i64 k ∧ nv = .int .i64 (valT (s.data.toList.take k) : Nat) ∧ Hid ((s.data.toList.take k).all digB = true)) (fun _ i => s.size - (intOf i).toNat)
          case atStart => exact ⟨0, Nat.zero_le _, rfl, rfl, rfl⟩
          case round =>
            obtain ⟨k, hk, rfl, rfl, hd⟩ := hrel
            have hv : valT (s.data.toList.take k) < 10 ^ 15 := Nat.lt_of_lt_of_le (valT_bd _ _ rfl hd.out) (Nat.pow_le_pow_right (by decide) (by rw [List.length_take]; omega))
            have hv' : (valT (s.data.toList.take k) : Int) < 1000000000000000 := by omega
            clear hv
            by_cases hlt : k < s.size
            · have hc := HC.out k hlt
              have HT := Lib.hid (take_snoc s k hlt)
              rcases hdk : digB s[k] with _ | _
              · have hfin := Lib.hid (show numT s.data.toList = none from numT_bad (by
                  rw [Bool.eq_false_iff]; intro e
                  have := List.all_eq_true.1 e _ (List.getElem_mem (l := s.data.toList) (n := k) (by rw [Hl.out]; exact hlt))
                  rw [show s.data.toList[k]'(by rw [Hl.out]; exact hlt) = s[k] from rfl, hdk] at this; cases this))
                have hw : (s[k].toNat : Int) < 48 ∨ (48 ≤ (s[k].toNat : Int) ∧ 57 < (s[k].toNat : Int)) := by
                  unfold digB at hdk
                  rw [decide_eq_false_iff_not] at hdk
                  omega
                clear hdk
                rcases hw with h | ⟨h, h'⟩
                all_goals
                  go_wp2_with fail
                  go_ret2
                  exact numbered_no hfin.out HB.out
              · have h1 : 48 ≤ (s[k].toNat : Int) ∧ (s[k].toNat : Int) ≤ 57 := by
                  unfold digB at hdk
                  rw [decide_eq_true_iff] at hdk
                  omega
                obtain ⟨h1, h2⟩ := h1
                have hd' := Lib.hid (show (s.data.toList.take (k + 1)).all digB = true by rw [HT.out, List.all_append, hd.out]; simp [hdk])
                have hv2 := Lib.hid (show valT (s.data.toList.take (k + 1)) = 10 * valT (s.data.toList.take k) + (s[k].toNat - 48) by rw [HT.out, valT_snoc])
                clear hdk
                have hx0 : (0 : Int) ≤ (valT (s.data.toList.take k) : Int) := by omega
                have HV := Lib.hid (show (valT (s.data.toList.take (k + 1)) : Int) = 10 * (valT (s.data.toList.take k) : Int) + ((s[k].toNat : Int) - 48) by have := hv2.out; omega)
                clear hv2
                generalize (valT (s.data.toList.take k) : Int) = x at hv' hx0 HV ⊢
                generalize (s[k].toNat : Int) = c at hc h1 h2 HV
                go_wp2_with fail
                go_round
                case rel => exact ⟨k + 1, by omega, by go_num, by rw [HV.out], hd'⟩
                case measure => simp [intOf]; omega
            · obtain rfl : k = s.size := by omega
              rw [← Hl.out, List.take_length] at hd hv' ⊢
              have hfin := Lib.hid (numT_end (l := s.data.toList) (by intro e; rw [e] at Hl; exact h0 Hl.out.symm) (by rw [Hl.out]; omega) HZ.out hd.out)
              obtain ⟨n, en⟩ : ∃ n, n = valT s.data.toList := ⟨_, rfl⟩
              rw [← en] at hfin hv' ⊢
              clear hd en
              go_wp2_with fail
              go_ret2
              exact numbered_end hfin.out HB.out

end Go.Proofs.YtlcfejgjeljjdaaDoor
