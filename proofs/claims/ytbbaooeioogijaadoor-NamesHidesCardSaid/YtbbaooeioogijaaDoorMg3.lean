/- The reader of types: what stands ahead of a byte; a number. · The reader of types: a type, a function's parameters. -/
import Derived.Test.YtbbaooeioogijaaDoorMg2
import Derived.Lib.ConvBytes
import Derived.Deep.DeepCutAuto
import Derived.Deep.LoopGhost
namespace Go.Proofs.YtbbaooeioogijaaDoor
open Go.RowKit

theorem cut_index {c : UInt8} {l u r : List UInt8} (h : cutAt c l = some (u, r)) : Lib.indexByte l c = (u.length : Nat) := by
  obtain ⟨rfl, h2⟩ := cutAt_some h
  refine indexByte_at (by simp) fun k hk => ?_
  rw [List.getElem?_append_left hk]
  intro e
  exact h2 (List.mem_of_getElem? e)
theorem cut_index_no {c : UInt8} {l : List UInt8} (h : cutAt c l = none) : Lib.indexByte l c = -1 := by
  rw [cutAt_none] at h
  exact indexByte_no fun k e => h (List.mem_of_getElem? e)
theorem idxc_is (c : UInt8) (o : Int) (s : ByteArray) (k : Nat) (w : World) (ho : Lib.indexByte (sfx s k) c = o) :
    Calls Tryd.prog 94 #[.string (s.extract k s.size), .int .u8 (c.toNat : Int)] w fun e w' => e = .returned (.int .i64 o) ∧ w' = w :=
  (Tryd.strings_IndexByte _ (c.toNat : Int) w).mono fun _ _ ⟨he, hw⟩ => ⟨by rw [he, sfx_extract, ← ho]; simp, hw⟩

set_option maxHeartbeats 2000000 in
/-- what stands ahead of a byte is taken, and the byte -/
theorem till_yes (c : UInt8) (b k d : Nat) (s : ByteArray) (u r : List UInt8) (w : World) (h : RdAt w b s k d) (hk : k ≤ s.size) (hc : cutAt c (sfx s k) = some (u, r)) (hs : s.size ≤ 1048576) :
    Calls Tryd.prog 95 #[.pointer (some ⟨b, 0, none⟩), .int .u8 (c.toNat : Int)] w fun e w' => e = .returned (.tuple #[.string (s.extract k (k + u.length)), .bool true]) ∧ RdAt w' b s (k + u.length + 1) d ∧ w.grownBy w' (some b) := by
  have H := Lib.hid h
  have HI := Lib.hid (cut_index hc)
  have hl : k + u.length + 1 ≤ s.size := by
    have := congrArg List.length (cutAt_some hc).1
    rw [sfx_length] at this
    simp at this; omega
  obtain ⟨⟨c0, c1, c2⟩, hf⟩ := h.cells
  have f1 := hf 1
  generalize u.length = m at *
  clear h hc hf
  go_enter Tryd.func95, Tryd.ntmps95
  go_wp2_with fail
  go_quiet ((go_at_call 94; exact Calls.quiet_of_same (idxc_is c _ _ _ _ HI.out)))
  go_wp2_with fail
  go_quiet (fail)
  go_wp2_with fail
  go_ret2
  exact ⟨rfl, (H.out.drewN _).at1 (by omega), grown_set (grown_drewN (grown_refl _ _) _) _ rfl _⟩

set_option maxHeartbeats 2000000 in
/-- a byte that does not come at all -/
theorem till_no (c : UInt8) (b k d : Nat) (s : ByteArray) (w : World) (h : RdAt w b s k d) (hk : k ≤ s.size) (hc : cutAt c (sfx s k) = none) :
    Calls Tryd.prog 95 #[.pointer (some ⟨b, 0, none⟩), .int .u8 (c.toNat : Int)] w fun e w' => e = .returned (.tuple #[.string ⟨#[]⟩, .bool false]) ∧ ∃ n, w' = w.drewN n := by
  have HI := Lib.hid (cut_index_no hc)
  obtain ⟨⟨c0, c1, c2⟩, hf⟩ := h.cells
  clear h hc hf
  go_enter Tryd.func95, Tryd.ntmps95
  go_wp2_with fail
  go_quiet ((go_at_call 94; exact Calls.quiet_of_same (idxc_is c _ _ _ _ HI.out)))
  go_wp2
  go_ret2
  exact ⟨rfl, _, rfl⟩

/-- what is told of a number -/
def Numbered (r : Option Nat) (w : World) (e : Ending) (w' : World) : Prop :=
  (match r with
    | some n => e = .returned (.tuple #[.int .i64 n, .bool true])
    | none => ∃ x : Int, e = .returned (.tuple #[.int .i64 x, .bool false])) ∧ Below w.heap.size w w'
theorem numbered_no {w w' : World} {r : Option Nat} {x : Int} (hr : r = none) (hb : Below w.heap.size w w') : Numbered r w (.returned (.tuple #[.int .i64 x, .bool false])) w' := by subst hr; exact ⟨⟨x, rfl⟩, hb⟩
theorem numbered_yes {w w' : World} {r : Option Nat} {n : Nat} (hr : r = some n) (hb : Below w.heap.size w w') : Numbered r w (.returned (.tuple #[.int .i64 n, .bool true])) w' := by subst hr; exact ⟨rfl, hb⟩
theorem numbered_end {w w' : World} {r : Option Nat} {n : Nat} (hr : r = if n ≤ 1099511627776 then some n else none) (hb : Below w.heap.size w w') : Numbered r w (.returned (.tuple #[.int .i64 n, .bool (decide ((n : Int) ≤ 1099511627776))])) w' := by
  by_cases h : n ≤ 1099511627776
  · rw [if_pos h] at hr
    rw [decide_eq_true (show (n : Int) ≤ 1099511627776 by omega)]
    exact numbered_yes hr hb
  · rw [if_neg h] at hr
    rw [decide_eq_false (show ¬ (n : Int) ≤ 1099511627776 by omega)]
    exact numbered_no hr hb
theorem valT_bd : ∀ (n : Nat) (l : List UInt8), l.length = n → l.all digB = true → valT l < 10 ^ n
  | 0, l, hn, _ => by simp at hn; subst hn; simp [valT]
  | n + 1, l, hn, h => by
    rcases List.eq_nil_or_concat l with rfl | ⟨m, c, rfl⟩
    · simp at hn
    · rw [List.concat_eq_append] at *
      rw [List.all_append, Bool.and_eq_true] at h
      have h1 := valT_bd n m (by simpa using hn) h.1
      have h2 : digB c = true := by simpa using h.2
      unfold digB at h2
      rw [decide_eq_true_iff] at h2
      rw [valT_snoc, Nat.pow_succ]
      omega
theorem bytes_below (w : World) (e : TypeId) (s : ByteArray) : Below w.heap.size w (Lib.bytesWorld w e s) :=
  ⟨rfl, rfl, rfl, by rw [Lib.bytesWorld_size]; omega, fun k hk => Lib.bytesWorld_at_old w e s k hk⟩

theorem numT_long {l : List UInt8} (h : 15 < l.length) : numT l = none := by unfold numT; rw [if_pos (.inr (.inl h))]
theorem numT_zero {l : List UInt8} (h : 1 < l.length) (h0 : l.head? = some 48) : numT l = none := by unfold numT; rw [if_pos (.inr (.inr ⟨h, h0⟩))]
theorem numT_bad {l : List UInt8} (h : l.all digB = false) : numT l = none := by
  unfold numT
  split
  · rfl
  · rw [if_neg (by rw [h]; simp)]
theorem numT_end {l : List UInt8} (h0 : l ≠ []) (h1 : l.length ≤ 15) (h2 : 1 < l.length → l.head? ≠ some 48) (h3 : l.all digB = true) : numT l = if valT l ≤ 1099511627776 then some (valT l) else none := by
  unfold numT
  rw [if_neg (by rintro (h | h | h); exact h0 h; omega; exact h2 h.1 h.2)]
  by_cases h : valT l ≤ 1099511627776
  · rw [if_pos ⟨h3, h⟩, if_pos h]
  · rw [if_neg (fun e => h e.2), if_neg h]

set_option maxHeartbeats 4000000 in
set_option maxRecDepth 100000 in
theorem number_ok (s : ByteArray) (w : World) : Calls Tryd.prog 85 #[.string s] w (Numbered (numT s.data.toList) w) := by
  have hl : s.data.toList.length = s.size := by rw [Array.length_toList]; rfl
  have Hl := Lib.hid hl
  clear hl
  by_cases h0 : s.size = 0
  · have hfin := Lib.hid (show numT s.data.toList = none by unfold numT; rw [if_pos (.inl (List.eq_nil_of_length_eq_zero (by rw [Hl.out]; exact h0)))])
    have t1 : s.toList.isEmpty = true := by
      rw [Lib.toList_data, List.isEmpty_iff]
      exact List.eq_nil_of_length_eq_zero (by rw [Hl.out]; exact h0)
    go_enter Tryd.func85, Tryd.ntmps85
    go_wp2_with fail
    go_ret2
    exact numbered_no hfin.out (Below.refl _ _)
  · have t1 : s.toList.isEmpty = false := by
      rw [Lib.toList_data, List.isEmpty_eq_false_iff]
      intro e
      have := Hl.out
      rw [e] at this
      exact h0 this.symm
    by_cases h15 : 15 < s.size
    · have hfin := Lib.hid (numT_long (l := s.data.toList) (by rw [Hl.out]; exact h15))
      have t2 : (15 : Int) < s.size := by omega
      go_enter Tryd.func85, Tryd.ntmps85
      go_wp2_with fail
      go_ret2
      exact numbered_no hfin.out (Below.refl _ _)
    · have t2 : (s.size : Int) ≤ 15 := by omega
      by_cases hz : 1 < s.size ∧ s.data.toList.head? = some 48
      · have hfin := Lib.hid (numT_zero (l := s.data.toList) (by rw [Hl.out]; exact hz.1) hz.2)
        have h1 : 0 < s.size := by omega
        have t3 : (1 : Int) < s.size := by omega
        have t4 : ((s[0].toNat : Int) == 48) = true := by
          have := hz.2
          rw [head_at s h1] at this
          simp [Option.some.inj this]
        clear hz
        go_enter Tryd.func85, Tryd.ntmps85
        go_wp2_with fail
        go_ret2
        exact numbered_no hfin.out (Below.refl _ _)
      · have h1 : 0 < s.size := by omega
        have HZ := Lib.hid (show 1 < s.data.toList.length → s.data.toList.head? ≠ some 48 from fun a b => hz ⟨by rw [Hl.out] at a; exact a, b⟩)
        have hcv := fun w : World => Lib.run_convert_string_bytes (P := Tryd.prog) w 9 165 5 s Tryd.underlying9 Tryd.underlying165 Tryd.underlying5
        have hz' : ((s.size : Int) ≤ 1) ∨ ((1 : Int) < s.size ∧ ((s[0].toNat : Int) == 48) = false) := by
          by_cases h : 1 < s.size
          · refine .inr ⟨by omega, ?_⟩
            have h3 : s.data.toList.head? ≠ some 48 := fun e => hz ⟨h, e⟩
            rw [head_at s h1] at h3
            rw [beq_eq_false_iff_ne]
            intro e
            have e' : s[0].toNat = 48 := by omega
            exact h3 (by rw [Option.some.injEq]; exact UInt8.toNat_inj.1 e')
          · exact .inl (by omega)
        clear hz
        go_enter Tryd.func85, Tryd.ntmps85
        go_upto_region 1 with fail
        go_cut [23] (fun v wx => v = .bool false ∧ w = wx)
        case first =>
          rcases hz' with h | ⟨h, h'⟩
          all_goals
            go_wp2_with fail
            go_meet
            exact ⟨by congr 1; simp_all; try omega, rfl⟩
        case rest =>
          obtain ⟨rfl, rfl⟩ := hcut
          clear hz'
          go_wp2_with fail
          have hcell : ∀ j (hj : j < s.size), (Lib.bytesWorld w 5 s).cell? ⟨w.heap.size, j, none⟩ = some (.int .u8 (s[j].toNat : Int)) := fun j hj => by
            rw [Lib.bytesWorld_cell _ _ _ _ hj, getD_lt _ _ (by rw [Hl.out]; exact hj)]
            rfl
          have HC := Lib.hid hcell
          have HB := Lib.hid (bytes_below w 5 s)
          clear hcell hcv
          generalize Lib.bytesWorld w 5 s = w1 at HC HB ⊢
          go_loop [4, 27] (fun nv i => ∃ k : Nat, k ≤ s.size ∧ i = .int .i64 k ∧ nv = .int .i64 (valT (s.data.toList.take k) : Nat) ∧ Hid ((s.data.toList.take k).all digB = true)) (fun _ i => s.size - (intOf i).toNat)
          case atStart => exact ⟨0, Nat.zero_le _, rfl, rfl, rfl⟩
          case round =>
            obtain ⟨k, hk, rfl, rfl, hd⟩ := hrel
            have hv : valT (s.data.toList.take k) < 10 ^ 15 := Nat.lt_of_lt_of_le (valT_bd _ _ rfl hd.out) (Nat.pow_le_pow_right (by decide) (by rw [List.length_take]; omega))
            have hv' : (valT (s.data.toList.take k) : Int) < 1000000000000000 := by omega
            clear hv
            by_cases hlt : k < s.size
            · have hc := HC.out k hlt
              have HT := Lib.hid (take_snoc s k hlt)
              rcases hdk : digB s[k] with _ | _
              · have hfin := Lib.hid (show numT s.data.toList = none from numT_bad (by
                  rw [Bool.eq_false_iff]; intro e
                  have := List.all_eq_true.1 e _ (List.getElem_mem (l := s.data.toList) (n := k) (by rw [Hl.out]; exact hlt))
                  rw [show s.data.toList[k]'(by rw [Hl.out]; exact hlt) = s[k] from rfl, hdk] at this; cases this))
                have hw : (s[k].toNat : Int) < 48 ∨ (48 ≤ (s[k].toNat : Int) ∧ 57 < (s[k].toNat : Int)) := by
                  unfold digB at hdk
                  rw [decide_eq_false_iff_not] at hdk
                  omega
                clear hdk
                rcases hw with h | ⟨h, h'⟩
                all_goals
                  go_wp2_with fail
                  go_ret2
                  exact numbered_no hfin.out HB.out
              · have h1 : 48 ≤ (s[k].toNat : Int) ∧ (s[k].toNat : Int) ≤ 57 := by
                  unfold digB at hdk
                  rw [decide_eq_true_iff] at hdk
                  omega
                obtain ⟨h1, h2⟩ := h1
                have hd' := Lib.hid (show (s.data.toList.take (k + 1)).all digB = true by rw [HT.out, List.all_append, hd.out]; simp [hdk])
                have hv2 := Lib.hid (show valT (s.data.toList.take (k + 1)) = 10 * valT (s.data.toList.take k) + (s[k].toNat - 48) by rw [HT.out, valT_snoc])
                clear hdk
                have hx0 : (0 : Int) ≤ (valT (s.data.toList.take k) : Int) := by omega
                have HV := Lib.hid (show (valT (s.data.toList.take (k + 1)) : Int) = 10 * (valT (s.data.toList.take k) : Int) + ((s[k].toNat : Int) - 48) by have := hv2.out; omega)
                clear hv2
                generalize (valT (s.data.toList.take k) : Int) = x at hv' hx0 HV ⊢
                generalize (s[k].toNat : Int) = c at hc h1 h2 HV
                go_wp2_with fail
                go_round
                case rel => exact ⟨k + 1, by omega, by go_num, by rw [HV.out], hd'⟩
                case measure => simp [intOf]; omega
            · obtain rfl : k = s.size := by omega
              rw [← Hl.out, List.take_length] at hd hv' ⊢
              have hfin := Lib.hid (numT_end (l := s.data.toList) (by intro e; rw [e] at Hl; exact h0 Hl.out.symm) (by rw [Hl.out]; omega) HZ.out hd.out)
              obtain ⟨n, en⟩ : ∃ n, n = valT s.data.toList := ⟨_, rfl⟩
              rw [← en] at hfin hv' ⊢
              clear hd en
              go_wp2_with fail
              go_ret2
              exact numbered_end hfin.out HB.out

end Go.Proofs.YtbbaooeioogijaaDoor
namespace Go.Proofs.YtbbaooeioogijaaDoor
open Go.RowKit

theorem KeysAt.grown {w w' : World} {b : Nat} (h : KeysAt w) (hg : w.grownBy w' (some b)) (hb : 0 < b) : KeysAt w' := fun j hj => by
  have h1 := h j hj
  have hlt := World.block_lt_of_cell? w _ h1
  unfold World.cell? at h1 ⊢
  rw [hg.block _ hlt (by simp; omega)]; exact h1
/-- what the reader tells of a type -/
def ReadP (w : World) (b : Nat) (s : ByteArray) (d dd : Nat) (r : Option (Ty × List UInt8)) (e : Ending) (w' : World) : Prop :=
  (match r with
    | some (t, q) => e = .returned (.bool true) ∧ RdAt w' b s (s.size - q.length) (max dd (d + deepT t - 1))
    | none => e = .returned (.bool false) ∧ ∃ k d', RdAt w' b s k d') ∧ w.grownBy w' (some b)
/-- what it tells of parameters -/
def ParsP (w : World) (b : Nat) (s : ByteArray) (d dd : Nat) (r : Option (List Ty × List UInt8)) (e : Ending) (w' : World) : Prop :=
  (match r with
    | some (ps, q) => e = .returned (.bool true) ∧ RdAt w' b s (s.size - q.length) (max dd (d + deepL ps))
    | none => e = .returned (.bool false) ∧ ∃ k d', RdAt w' b s k d') ∧ w.grownBy w' (some b)
def ReadC (n : Nat) : Prop := ∀ (b k d dd : Nat) (s : ByteArray) (w : World), RdAt w b s k dd → k ≤ s.size → 2 * (s.size - k) < n → s.size ≤ 65536 → d + (s.size - k) ≤ 70000 → KeysAt w → 0 < b →
  Calls Tryd.prog 87 #[.pointer (some ⟨b, 0, none⟩), .int .i64 d] w (ReadP w b s d dd (tyF n (sfx s k)))
theorem readP_no {w w' : World} {b : Nat} {s : ByteArray} {d dd k d' : Nat} {r : Option (Ty × List UInt8)} (hr : r = none) (h : RdAt w' b s k d') (hg : w.grownBy w' (some b)) : ReadP w b s d dd r (.returned (.bool false)) w' := by subst hr; exact ⟨⟨rfl, _, _, h⟩, hg⟩
theorem readP_yes {w w' : World} {b : Nat} {s : ByteArray} {d dd k d' : Nat} {r : Option (Ty × List UInt8)} {t : Ty} {q : List UInt8} (hr : r = some (t, q)) (h : RdAt w' b s k d') (hk : k = s.size - q.length) (hd : d' = max dd (d + deepT t - 1)) (hg : w.grownBy w' (some b)) : ReadP w b s d dd r (.returned (.bool true)) w' := by subst hr hk hd; exact ⟨⟨rfl, h⟩, hg⟩
theorem parsP_no {w w' : World} {b : Nat} {s : ByteArray} {d dd k d' : Nat} {r : Option (List Ty × List UInt8)} (hr : r = none) (h : RdAt w' b s k d') (hg : w.grownBy w' (some b)) : ParsP w b s d dd r (.returned (.bool false)) w' := by subst hr; exact ⟨⟨rfl, _, _, h⟩, hg⟩
theorem parsP_yes {w w' : World} {b : Nat} {s : ByteArray} {d dd k d' : Nat} {r : Option (List Ty × List UInt8)} {ps : List Ty} {q : List UInt8} (hr : r = some (ps, q)) (h : RdAt w' b s k d') (hk : k = s.size - q.length) (hd : d' = max dd (d + deepL ps)) (hg : w.grownBy w' (some b)) : ParsP w b s d dd r (.returned (.bool true)) w' := by subst hr hk hd; exact ⟨⟨rfl, h⟩, hg⟩

/-- what is left is what stands from its place on -/
theorem rest_sfx {s : ByteArray} {k : Nat} {u q : List UInt8} (h : sfx s k = u ++ q) (hk : k ≤ s.size) : sfx s (s.size - q.length) = q ∧ s.size - q.length = k + u.length ∧ k + u.length ≤ s.size ∧ q.length ≤ s.size - k := by
  have hl := congrArg List.length h
  rw [sfx_length, List.length_append] at hl
  have e : s.size - q.length = k + u.length := by omega
  refine ⟨?_, e, by omega, by omega⟩
  rw [e, ← sfx_drop, h, List.drop_left]
theorem sfx_head {s : ByteArray} {k : Nat} {c : UInt8} {l : List UInt8} (h : sfx s k = c :: l) : ∃ hk : k < s.size, s[k] = c ∧ sfx s (k + 1) = l := by
  rcases Nat.lt_or_ge k s.size with hk | hk
  · rw [sfx_cons s k hk] at h
    obtain ⟨h1, h2⟩ := List.cons.inj h
    exact ⟨hk, h1, h2⟩
  · rw [sfx_nil s k hk] at h; cases h
theorem sfx_not {s : ByteArray} {k : Nat} {c : UInt8} (h : ∀ l, sfx s k ≠ c :: l) : ∀ hk : k < s.size, s[k] ≠ c := fun hk e => h (sfx s (k + 1)) (by rw [sfx_cons s k hk, e])
def moreG (m : Nat) (t : Ty) (q : List UInt8) : Option (List Ty × List UInt8) := match q with
  | 41 :: r => some ([t], r)
  | 44 :: r => (moreF m r).map fun x => (t :: x.1, x.2)
  | _ => none
theorem more_some {m : Nat} {L q : List UInt8} {t : Ty} (h : tyF m L = some (t, q)) : moreF (m + 1) L = moreG m t q := by rw [moreF, h]; rfl
theorem more_none {m : Nat} {L : List UInt8} (h : tyF m L = none) : moreF (m + 1) L = none := by rw [moreF, h]; rfl
theorem moreG_no {m : Nat} {t : Ty} {q : List UInt8} (h1 : ¬ ∃ l, q = 41 :: l) (h2 : ¬ ∃ l, q = 44 :: l) : moreG m t q = none := by
  unfold moreG
  split
  · exact absurd ⟨_, rfl⟩ h1
  · exact absurd ⟨_, rfl⟩ h2
  · rfl
def putL (done : List Ty) (x : List Ty × List UInt8) : List Ty × List UInt8 := (done ++ x.1, x.2)
theorem put_nil (x : Option (List Ty × List UInt8)) : x = x.map (putL []) := by cases x <;> rfl
theorem put_more (done : List Ty) (t : Ty) (x : Option (List Ty × List UInt8)) : (x.map fun y => (t :: y.1, y.2)).map (putL done) = x.map (putL (done ++ [t])) := by cases x <;> simp [putL]
theorem deepT_pos (t : Ty) : 1 ≤ deepT t := by cases t <;> simp [deepT]
theorem deepL_snoc (l : List Ty) (t : Ty) : deepL (l ++ [t]) = max (deepL l) (deepT t) := by
  induction l with
  | nil => simp [deepL]
  | cons u l ih => simp only [List.cons_append, deepL, ih]; omega
theorem code_pos {t : Ty} (h : Right t) : 1 ≤ (code t).length := by
  obtain ⟨c, l, e, _⟩ := code_head t h
  rw [e]; simp

set_option maxHeartbeats 8000000 in
set_option maxRecDepth 100000 in
theorem params_ok (n : Nat) (ih : ∀ m, m < n → ReadC m) (b k d dd : Nat) (s : ByteArray) (w : World) (h : RdAt w b s k dd) (hk : k ≤ s.size) (hn : 2 * (s.size - k) + 2 < n) (hs : s.size ≤ 65536) (hd : d + 1 + (s.size - k) ≤ 70000) (hdd : d ≤ dd) (hK : KeysAt w) (hb : 0 < b) :
    Calls Tryd.prog 96 #[.pointer (some ⟨b, 0, none⟩), .int .i64 d] w (ParsP w b s d dd (parsF n (sfx s k))) := by
  obtain ⟨r, er⟩ : ∃ r, r = parsF n (sfx s k) := ⟨_, rfl⟩
  rw [← er]
  have ER := Lib.hid er
  have H := Lib.hid h
  have HK := Lib.hid hK
  have IH := Lib.hid ih
  have hs' : s.size ≤ 1048576 := by omega
  clear er h hK ih
  obtain ⟨n, rfl⟩ : ∃ m, n = m + 1 := ⟨n - 1, by omega⟩
  by_cases hc : ∃ l, sfx s k = 41 :: l
  · obtain ⟨l, hl⟩ := hc
    obtain ⟨hlt, hb1, hr1⟩ := sfx_head hl
    have HT := Lib.hid (takeY 41 41 b k dd s w rfl H.out hlt hb1 hs')
    have hfin := Lib.hid (show r = some ([], l) by rw [ER.out, hl, parsF, if_pos rfl])
    have hlen := Lib.hid (show k + 1 = s.size - l.length by
      have := congrArg List.length hl
      rw [sfx_length] at this
      simp only [List.length_cons] at this
      omega)
    clear hl hb1 hr1
    go_enter Tryd.func96, Tryd.ntmps96
    go_wp2_with (go_at_call 86; refine HT.out.mono ?_; rintro e w1 ⟨rfl, hT, hg⟩; have HT1 := Lib.hid hT; have HG1 := Lib.hid hg; clear hT hg)
    go_ret
    exact parsP_yes hfin.out HT1.out hlen.out (by simp [deepL]; omega) HG1.out
  · have HT := Lib.hid (takeN 41 41 b k dd s w rfl H.out (by decide) (sfx_not (fun l e => hc ⟨l, e⟩)))
    have hM := Lib.hid (show r = moreF n (sfx s k) by
      rw [ER.out]
      rcases hx : sfx s k with _ | ⟨c, l⟩
      · cases n with
        | zero => rw [parsF, moreF]
        | succ n =>
          rw [parsF, moreF]
          cases n with
          | zero => rw [tyF]; rfl
          | succ n => rw [tyF]; rfl
      · rw [parsF, if_neg (fun e => hc ⟨l, by rw [hx, e]⟩)])
    clear hc
    go_enter Tryd.func96, Tryd.ntmps96
    go_wp2_with (go_at_call 86; (with_reducible refine HT.out.mono ?_); rintro e w1 ⟨rfl, nq, rfl⟩)
    go_loopg [9] (s.size - k) (fun g _ wr => ∃ (k' m : Nat) (done : List Ty), k' ≤ s.size ∧ k ≤ k' ∧ k' + g = s.size ∧ 2 * (s.size - k') + 1 < m ∧ m ≤ n ∧ RdAt wr b s k' (max dd (d + deepL done)) ∧ w.grownBy wr (some b) ∧ Hid (r = (moreF m (sfx s k')).map (putL done)))
    case atStart => exact ⟨k, n, [], hk, Nat.le_refl _, by omega, by omega, Nat.le_refl _, by have := H.out.drewN nq; rwa [show dd = max dd (d + deepL []) by simp [deepL]; omega] at this, grown_drewN (grown_refl _ _) _, hM.out.trans (put_nil _)⟩
    case round =>
      obtain ⟨k', m, done, hk1, hk2, hkg, hm1, hm2, hR, hg, hr⟩ := hrel
      obtain ⟨m, rfl⟩ : ∃ m', m = m' + 1 := ⟨m - 1, by omega⟩
      have HRd := Lib.hid (IH.out m (by omega) b k' (d + 1) _ s wr hR hk1 (by omega) hs (by omega) (HK.out.grown hg hb) hb)
      have HG := Lib.hid hg
      clear hR hg
      rcases hty : tyF m (sfx s k') with _ | ⟨t, q⟩
      · rw [hty] at HRd
        have hfin := Lib.hid (show r = none by rw [hr.out, more_none hty]; rfl)
        clear hty
        go_wp2_with (go_at_call 87; refine HRd.out.mono ?_; rintro e w2 ⟨⟨rfl, k2, d2, hT⟩, hg2⟩; have HT2 := Lib.hid hT; have HG2 := Lib.hid hg2; clear hT hg2)
        go_ret
        exact parsP_no hfin.out HT2.out (grown_trans HG.out HG2.out)
      · rw [hty] at HRd
        obtain ⟨hcode, hrt⟩ := (tyF_code m).1 _ _ _ hty
        obtain ⟨hq, hpos, hle, hql⟩ := rest_sfx hcode hk1
        have hcp := code_pos hrt
        have HQ := Lib.hid (show r = (moreG m t q).map (putL done) by rw [hr.out, more_some hty])
        clear hty hcode hrt hr
        go_wp2_with (go_at_call 87; refine HRd.out.mono ?_)
        rintro e w2 ⟨⟨rfl, hT⟩, hg2⟩
        rw [show max (max dd (d + deepL done)) (d + 1 + deepT t - 1) = max dd (d + deepL (done ++ [t])) by rw [deepL_snoc]; omega] at hT
        obtain ⟨k2, ek⟩ : ∃ k2, k2 = s.size - q.length := ⟨_, rfl⟩
        rw [← ek] at hT hq hpos
        have HT2 := Lib.hid hT
        have HG2 := Lib.hid (grown_trans HG.out hg2)
        have hk2 : k' + 1 ≤ k2 := by omega
        have hk3 : k2 ≤ s.size := by omega
        clear hT hg2 hpos
        by_cases h41 : ∃ l, q = 41 :: l
        · obtain ⟨l, rfl⟩ := h41
          obtain ⟨hlt, hb1, hr1⟩ := sfx_head hq
          have HT3 := Lib.hid (takeY 41 41 b k2 _ s w2 rfl HT2.out hlt hb1 hs')
          have hfin := Lib.hid (show r = some (done ++ [t], l) from HQ.out)
          have hle2 := Lib.hid (show k2 + 1 = s.size - l.length by simp only [List.length_cons] at hql ek; omega)
          clear hq hb1 hr1 ek hql
          go_wp2_with (go_at_call 86; refine HT3.out.mono ?_; rintro e w3 ⟨rfl, hT, hg⟩; have HT4 := Lib.hid hT; have HG4 := Lib.hid hg; clear hT hg)
          go_ret
          exact parsP_yes hfin.out HT4.out hle2.out rfl (grown_trans HG2.out HG4.out)
        · have HN := Lib.hid (takeN 41 41 b k2 _ s w2 rfl HT2.out (by decide) (sfx_not (fun l e => h41 ⟨l, by rw [← hq, e]⟩)))
          by_cases h44 : ∃ l, q = 44 :: l
          · obtain ⟨l, rfl⟩ := h44
            obtain ⟨hlt, hb1, hr1⟩ := sfx_head hq
            have hfin := Lib.hid (show r = (moreF m (sfx s (k2 + 1))).map (putL (done ++ [t])) by rw [HQ.out, hr1]; exact put_more done t _)
            have hlt2 := Lib.hid hlt
            have hb2 := Lib.hid hb1
            clear hq hb1 hr1 h41 ek hql
            go_wp2_with (go_at_call 86; (with_reducible refine HN.out.mono ?_); rintro e w3 ⟨rfl, nq, rfl⟩)
            refine (takeY 44 44 b k2 _ s _ rfl (HT2.out.drewN nq) hlt2.out hb2.out hs').mono ?_
            rintro e w4 ⟨rfl, hT, hg⟩
            have HT4 := Lib.hid hT
            have HG4 := Lib.hid (grown_trans (grown_drewN HG2.out nq) hg)
            clear hT hg
            go_wp2_with fail
            go_roundg (s.size - (k2 + 1))
            case measure => omega
            case rel => exact ⟨k2 + 1, m, done ++ [t], by omega, by omega, by omega, by omega, by omega, HT4.out, HG4.out, hfin⟩
          · have hfin := Lib.hid (show r = none by rw [HQ.out, moreG_no h41 h44]; rfl)
            have HN2 := Lib.hid (fun nq => takeN 44 44 b k2 _ s (w2.drewN nq) rfl (HT2.out.drewN nq) (by decide) (sfx_not (fun l e => h44 ⟨l, by rw [← hq, e]⟩)))
            clear hq h41 h44 ek hql
            go_wp2_with (go_at_call 86; (with_reducible refine HN.out.mono ?_); rintro e w3 ⟨rfl, nq, rfl⟩)
            refine (HN2.out nq).mono ?_
            rintro e w4 ⟨rfl, nq2, rfl⟩
            go_wp2_with fail
            go_ret
            exact parsP_no hfin.out (by first | exact (HT2.out.drewN _).drewN _ | exact HT2.out.drewN _) (by first | exact grown_drewN (grown_drewN HG2.out _) _ | exact grown_drewN HG2.out _)

end Go.Proofs.YtbbaooeioogijaaDoor
