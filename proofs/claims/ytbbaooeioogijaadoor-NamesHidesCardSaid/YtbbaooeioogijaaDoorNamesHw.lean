/- A slot named anew changes no meaning but its name: the law's walk. -/
import Derived.Test.YtbbaooeioogijaaDoorNamesCt
import Derived.Test.YtbbaooeioogijaaDoorMg28
import Derived.Test.YtbbaooeioogijaaDoorMg30
import Derived.Test.YtbbaooeioogijaaDoorCopyU
import Derived.Test.YtbbaooeioogijaaDoorNamesLb
import Derived.Test.YtbbaooeioogijaaDoorMg4
namespace Go.Proofs.YtbbaooeioogijaaDoor
open Go.RowKit Go.Maps

/-- a list, changed up to a place -/
def midF {α : Type} (g : α → α) (L : List α) (k : Nat) : List α := (L.take k).map g ++ L.drop k
theorem midF_at {α : Type} (g : α → α) (L : List α) (k j : Nat) : (midF g L k)[j]? = (L[j]?).map fun x => if j < k then g x else x := by
  unfold midF
  rcases Nat.lt_or_ge j k with h | h
  · rcases Nat.lt_or_ge j L.length with h2 | h2
    · rw [List.getElem?_append_left (by simp; omega), List.getElem?_map, List.getElem?_take_of_lt h]
      simp [h]
    · rw [List.getElem?_eq_none (by simp; omega), List.getElem?_eq_none h2]
      rfl
  · have hf : (fun x => if j < k then g x else x) = id := by funext x; rw [if_neg (by omega)]; rfl
    rw [hf, Option.map_id]
    rcases Nat.lt_or_ge k L.length with h2 | h2
    · rw [List.getElem?_append_right (by simp; omega), List.getElem?_drop]
      simp only [List.length_map, List.length_take]
      rw [show k + (j - min k L.length) = j by omega]
      rfl
    · rw [List.getElem?_eq_none (by simp; omega), List.getElem?_eq_none (by omega)]
      rfl
theorem midF_0 {α : Type} (g : α → α) (L : List α) : midF g L 0 = L := by simp [midF]
theorem midF_end {α : Type} (g : α → α) (L : List α) : midF g L L.length = L.map g := by simp [midF]
theorem midF_len {α : Type} (g : α → α) (L : List α) (k : Nat) : (midF g L k).length = L.length := by
  unfold midF
  simp
  omega
theorem midF_next {α : Type} (g : α → α) {L : List α} {k : Nat} {x : α} (h : L[k]? = some x) : (midF g L k).set k (g x) = midF g L (k + 1) := by
  have hk := (List.getElem?_eq_some_iff.1 h).1
  refine List.ext_getElem? fun j => ?_
  by_cases e : k = j
  · subst e
    rw [List.getElem?_set_self (by rw [midF_len]; exact hk), midF_at, h]
    simp
  · rw [List.getElem?_set_ne e, midF_at, midF_at]
    rcases L[j]? with _ | y
    · rfl
    · simp only [Option.map_some, Option.some.injEq]
      rcases Nat.lt_or_ge j k with h1 | h1
      · rw [if_pos h1, if_pos (by omega)]
      · rw [if_neg (by omega), if_neg (by omega)]
theorem midF_same {α : Type} (g : α → α) {L : List α} {k : Nat} {x : α} (h : L[k]? = some x) (hg : g x = x) : midF g L (k + 1) = midF g L k := by
  rw [← midF_next g h, hg]
  have hk := (List.getElem?_eq_some_iff.1 h).1
  refine List.ext_getElem? fun j => ?_
  by_cases e : k = j
  · subst e
    rw [List.getElem?_set_self (by rw [midF_len]; exact hk), midF_at, h]
    simp
  · rw [List.getElem?_set_ne e]
/-- a tree, changed up to a place -/
def midT (T' T : List Nd) (k : Nat) : List Nd := T'.take k ++ T.drop k
theorem midT_at {T' T : List Nd} (hl : T'.length = T.length) (k j : Nat) : (midT T' T k)[j]? = if j < k then T'[j]? else T[j]? := by
  unfold midT
  rcases Nat.lt_or_ge j k with h | h
  · rw [if_pos h]
    rcases Nat.lt_or_ge j T.length with h2 | h2
    · rw [List.getElem?_append_left (by simp; omega), List.getElem?_take_of_lt h]
    · rw [List.getElem?_eq_none (by simp; omega), List.getElem?_eq_none (by omega)]
  · rw [if_neg (by omega)]
    rcases Nat.lt_or_ge k T.length with h2 | h2
    · rw [List.getElem?_append_right (by simp; omega), List.getElem?_drop]
      simp only [List.length_take]
      rw [show k + (j - min k T'.length) = j by omega]
    · rw [List.getElem?_eq_none (by simp; omega), List.getElem?_eq_none (by omega)]
theorem midT_len {T' T : List Nd} (hl : T'.length = T.length) (k : Nat) : (midT T' T k).length = T.length := by
  unfold midT
  simp
  omega
theorem midT_next {T' T : List Nd} (hl : T'.length = T.length) {k : Nat} {x : Nd} (h : T'[k]? = some x) : (midT T' T k).set k x = midT T' T (k + 1) := by
  have hk := (List.getElem?_eq_some_iff.1 h).1
  refine List.ext_getElem? fun j => ?_
  by_cases e : k = j
  · subst e
    rw [List.getElem?_set_self (by rw [midT_len hl]; omega), midT_at hl, if_pos (by omega), h]
  · rw [List.getElem?_set_ne e, midT_at hl, midT_at hl]
    rcases Nat.lt_or_ge j k with h1 | h1
    · rw [if_pos h1, if_pos (by omega)]
    · rw [if_neg (by omega), if_neg (by omega)]
theorem midT_same {T' T : List Nd} (hl : T'.length = T.length) {k : Nat} (h : T'[k]? = T[k]?) (hk : k < T.length) : midT T' T (k + 1) = midT T' T k := by
  refine List.ext_getElem? fun j => ?_
  rw [midT_at hl, midT_at hl]
  rcases Nat.lt_trichotomy j k with h1 | h1 | h1
  · rw [if_pos h1, if_pos (by omega)]
  · subst h1
    rw [if_pos (by omega), if_neg (by omega), h]
  · rw [if_neg (by omega), if_neg (by omega)]
theorem midT_end {T' T : List Nd} (hl : T'.length = T.length) : midT T' T T.length = T' := by
  unfold midT
  rw [List.take_of_length_le (by omega), List.drop_length, List.append_nil]
theorem renPs_set {i : Nat} {nu : ByteArray} {ps : List VrU} {p : VrU} (h : ps[i]? = some p) : renPs i nu 0 ps = ps.set i (renVr nu p) := by
  have hi := (List.getElem?_eq_some_iff.1 h).1
  refine List.ext_getElem? fun j => ?_
  rw [renPs_at, Nat.zero_add]
  by_cases e : j = i
  · subst e
    rw [List.getElem?_set_self hi, h]
    simp
  · rw [List.getElem?_set_ne (fun h => e h.symm)]
    rcases ps[j]? with _ | q
    · rfl
    · simp [e]
theorem renPs_none {i : Nat} {nu : ByteArray} {ps : List VrU} (h : ps.length ≤ i) : renPs i nu 0 ps = ps := by
  refine List.ext_getElem? fun j => ?_
  rw [renPs_at, Nat.zero_add]
  rcases hj : ps[j]? with _ | q
  · rfl
  · have := (List.getElem?_eq_some_iff.1 hj).1
    simp only [Option.map_some, Option.some.injEq]
    rw [if_neg (by omega)]
theorem at_is (at_ : Int) {m : Nat} (h : 0 < m) (hm : m ≤ 4200) : ∃ i : Nat, i < m ∧ wrap64 ((IntKind.u64.wrap at_).tmod (m : Int)) = (i : Int) := by
  have e : IntKind.u64.wrap at_ = at_ % 18446744073709551616 := by simp [IntKind.wrap, IntKind.bits, IntKind.signed]
  have h0 : 0 ≤ IntKind.u64.wrap at_ := by rw [e]; omega
  refine ⟨((IntKind.u64.wrap at_) % (m : Int)).toNat, ?_, ?_⟩
  · have h1 := Int.emod_lt_of_pos (IntKind.u64.wrap at_) (show (0 : Int) < (m : Int) by omega)
    have h2 := Int.emod_nonneg (IntKind.u64.wrap at_) (show (m : Int) ≠ 0 by omega)
    omega
  · have h1 := Int.emod_lt_of_pos (IntKind.u64.wrap at_) (show (0 : Int) < (m : Int) by omega)
    have h2 := Int.emod_nonneg (IntKind.u64.wrap at_) (show (m : Int) ≠ 0 by omega)
    rw [Int.tmod_eq_emod_of_nonneg h0]
    unfold wrap64
    omega
theorem four_blockH {w : World} {b : Nat} {a0 a1 a2 a3 : Value} {T : TypeId} (h : w.heap[b]? = some (.cells #[a0, a1, a2, a3] T (0, 0))) :
    (w.cell? ⟨b, 0, none⟩ = some a0 ∧ w.cell? ⟨b, 1, none⟩ = some a1 ∧ w.cell? ⟨b, 2, none⟩ = some a2 ∧ w.cell? ⟨b, 3, none⟩ = some a3) ∧ ∀ j, w.frozen? ⟨b, j, none⟩ = false := by
  refine ⟨⟨?_, ?_, ?_, ?_⟩, fun j => ?_⟩ <;> simp [World.cell?, World.frozen?, h]
theorem four_setH {w : World} {b : Nat} {a0 a1 a2 a3 : Value} {T : TypeId} (h : w.heap[b]? = some (.cells #[a0, a1, a2, a3] T (0, 0))) (v : Value) : (w.setCell ⟨b, 0, none⟩ v).heap[b]? = some (.cells #[v, a1, a2, a3] T (0, 0)) := by
  simpa using set_blkU (i := 0) h v
/-- nobody else has the new name -/
def Clear (nu : ByteArray) (f : FnU) : Prop := (∀ p ∈ f.params, p.name ≠ nu) ∧ ∀ k, k < f.body.length → (f.body.getD k ndU0).kind = 3 ∨ (f.body.getD k ndU0).kind = 22 → (f.body.getD k ndU0).text ≠ nu
set_option maxRecDepth 100000 in
set_option maxHeartbeats 16000000 in
theorem namesHides_ok (u : UnU) (vs vg vf : Value) (n : ByteArray) (at_ : Int) (nu : ByteArray) (w : World) (hE : TE w) (hU : IsUn w.heap.size w u vs vg vf) (hn : n.size ≤ maxLen) (_hat : i64In at_) (hnu : nu.size ≤ maxLen) :
    Calls Tryd.prog 3 #[.agg #[vs, vg, vf], .string n, .int .i64 at_, .string nu] w fun e w' => e = .returned (.bool true) ∧ Below w.heap.size w w' := by
  obtain ⟨sa, sc, mv, rfl, _⟩ := hU.structs
  obtain ⟨ag, cg, rfl, _⟩ := glsU_len hU.globals
  obtain ⟨af, cf, rfl, _⟩ := fnsU_len hU.funcs
  have hb1 := ba1 w (.cells #[.slice sa u.structs.length sc, .slice ag u.globals.length cg, .slice af u.funcs.length cf] 26)
  have hxq := heap_alloc_new w (.cells #[.slice sa u.structs.length sc, .slice ag u.globals.length cg, .slice af u.funcs.length cf] 26)
  go_enter Tryd.func3, Tryd.ntmps3
  go_upto_region 1 with fail
  generalize w.alloc (.cells #[.slice sa u.structs.length sc, .slice ag u.globals.length cg, .slice af u.funcs.length cf] 26) = w1 at *
  have HQ := Lib.hid (fun w' (h : Below w1.heap.size w1 w') => (three_block ((h.block _ (lt_of_heap hxq)).trans hxq)).1)
  have HB1 := Lib.hid hb1
  have HWk := Lib.hid (works11_ok w1 (hE.below hb1))
  have HEw := Lib.hid (fun w' (h : Below w1.heap.size w1 w') => hE.below (hb1.trans (h.mono hb1.size)))
  have HUw := Lib.hid (fun w' (h : Below w1.heap.size w1 w') => hU.go (hb1.trans (h.mono hb1.size)))
  have HNm := Lib.hid (fun w => baseName_any nu w)
  clear hxq hb1 hE hU
  rcases hr : resolveN u n with p | q
  · have hp := resolveN_l hr
    have t1 : (p.2 != 0) = true := by simpa using hp
    have HRs := Lib.hid (fun w' (h : Below w1.heap.size w1 w') => show Calls Tryd.prog 7 #[.agg #[.slice sa u.structs.length sc, .slice ag u.globals.length cg, .slice af u.funcs.length cf], .string n] w' (fun e w'' => Below w'.heap.size w' w'' ∧ e = .returned (.tuple #[.slice none 0 0, .slice none 0 0, .agg #[.int .i64 p.1, .int .i64 p.2]])) from (resolve11_ok u _ _ _ n w' (HEw.out w' h) (HUw.out w' h) hn).mono fun e w'' ⟨h1, h2⟩ => ⟨h1, by rw [hr] at h2; exact h2⟩)
    clear hr hp
    go_upto_region 4 with (first
      | (go_at_call 6; (with_reducible refine HWk.out.mono ?_); rintro e w2 ⟨rfl, hb2⟩; have HB2 := Lib.hid hb2; obtain ⟨q0, q1, q2⟩ := HQ.out w2 hb2; clear hb2)
      | (go_at_call 7; (with_reducible refine (HRs.out _ HB2.out).mono ?_); rintro e w3 ⟨hb3, rfl⟩; have HB3 := Lib.hid (HB2.out.trans ((hb3.alloc hb3.size (.cells #[.int .i64 p.1, .int .i64 p.2] 32)).mono HB2.out.size)); obtain ⟨⟨y0, y1⟩, _⟩ := two_block (heap_alloc_new w3 (.cells #[.int .i64 p.1, .int .i64 p.2] 32)); clear hb3))
    go_wp2_with fail
    go_ret
    exact ⟨rfl, HB1.out.trans (HB3.out.mono HB1.out.size)⟩
  · obtain ⟨fs, f, hfile, hbody, h0, rfl⟩ := resolveN_r hr
    have hct := count_at hfile hbody h0
    have HRs := Lib.hid (fun w' (h : Below w1.heap.size w1 w') => show Calls Tryd.prog 7 #[.agg #[.slice sa u.structs.length sc, .slice ag u.globals.length cg, .slice af u.funcs.length cf], .string n] w' (fun e w'' => Below w'.heap.size w' w'' ∧ ∃ sv ov, e = .returned (.tuple #[sv, ov, .agg #[.int .i64 (goneR fs f).fault.1, .int .i64 0]]) ∧ w''.ownsRow w'.heap.size 53 4 sv (goneR fs f).slots.length ((goneR fs f).slots.flatMap slUCells) ∧ w''.ownsRow w'.heap.size 50 3 ov (goneR fs f).out.length ((goneR fs f).out.flatMap bndCells)) from (resolve11_ok u _ _ _ n w' (HEw.out w' h) (HUw.out w' h) hn).mono fun e w'' ⟨h1, h2⟩ => ⟨h1, by rw [hr] at h2; simp only [h0] at h2; exact h2⟩)
    have hsl : (goneR fs f).slots.length ≤ 4200 := by
      have h1 := hct.slots
      have h2 := hct.few
      have h3 := declsN_le f.body f.body.length
      omega
    have HFb := Lib.hid (show ∀ x ∈ u.funcs, x.name = n → x.body ≠ [] → x = f from body_one hfile hbody)
    have HMe := Lib.hid (show f ∈ u.funcs ∧ f.name = n ∧ f.body ≠ [] by
      obtain ⟨_, _, _, _, _, hget, hnm, hne⟩ := bodyOf_some (file_ok hfile) hbody
      exact ⟨(file_funcs hfile f (List.mem_of_getElem? hget)).1, hnm, hne⟩)
    have HRn := Lib.hid (show ∀ i, isNameB nu = true → Clear nu f → ∃ R, resolveN (renU n i nu (goneR fs f).out u) n = .inr (R, renF i nu (goneR fs f).out f, renFile n i nu (goneR fs f).out fs) ∧ ResR i nu (goneR fs f) R from fun i hn hc => resolve_ren hfile hbody h0 hn hc.1 hc.2 rfl (fun k hk hb => by
      by_cases hkd : (f.body.getD k ndU0).kind = 3 ∨ (f.body.getD k ndU0).kind = 22
      · exact hkd
      · have hx : f.body.getD k ndU0 = f.body[k] := by simp [List.getD, hk]
        rw [hx] at hkd
        have ho : k < (goneR fs f).out.length := by rw [hct.out]; exact hk
        have := hct.no k hk ho hkd
        rw [List.getD_eq_getElem?_getD, List.getElem?_eq_getElem ho, Option.getD_some, this] at hb
        exact absurd hb (by unfold renB bnd0; simp)))
    clear hr hbody
    generalize goneR fs f = R0 at *
    have HCt := Lib.hid hct
    have HF0 := Lib.hid h0
    clear h0
    clear hct
    go_upto_region 4 with (first
      | (go_at_call 6; (with_reducible refine HWk.out.mono ?_); rintro e w2 ⟨rfl, hb2⟩; have HB2 := Lib.hid hb2; obtain ⟨q0, q1, q2⟩ := HQ.out w2 hb2; clear hb2)
      | (go_at_call 7; (with_reducible refine (HRs.out _ HB2.out).mono ?_); rintro e w3 ⟨hb3, sv, ov, rfl, hsv, hov⟩; obtain ⟨sva, svc, rfl⟩ := own_slice hsv; obtain ⟨ova, ovc, rfl⟩ := own_slice hov; have HB3 := Lib.hid (HB2.out.trans (hb3.mono HB2.out.size)); have HSv := Lib.hid hsv; have HOv := Lib.hid hov; clear hb3 hsv hov))
    have hy := heap_alloc_new w3 (.cells #[.int .i64 R0.fault.1, .int .i64 0] 32)
    have hz := ba1 w3 (.cells #[.int .i64 R0.fault.1, .int .i64 0] 32)
    generalize w3.alloc (.cells #[.int .i64 R0.fault.1, .int .i64 0] 32) = w4 at *
    obtain ⟨⟨y0, y1⟩, _⟩ := two_block hy
    have HSv4 := Lib.hid (HSv.out.belowed hz)
    have HOv4 := Lib.hid (HOv.out.belowed hz)
    have HB4 := Lib.hid (HB3.out.trans (hz.mono HB3.out.size))
    have HY4 := Lib.hid hy
    obtain ⟨q0, q1, q2⟩ := HQ.out _ HB4.out
    have HZ4 := Lib.hid hz
    clear hy hz HRs HWk
    by_cases hs0 : R0.slots.length = 0
    · have hs0' : (R0.slots.length : Int) = 0 := by omega
      go_wp2_with fail
      go_ret
      exact ⟨rfl, HB1.out.trans (HB4.out.mono HB1.out.size)⟩
    · have hs1 : ((R0.slots.length : Int) == 0) = false := beq_eq_false_iff_ne.2 (by omega)
      obtain ⟨i, hi, hie⟩ := at_is at_ (show 0 < R0.slots.length by omega) hsl
      have HIe := Lib.hid hie
      clear hie
      go_upto_region 7 with fail
      clear y0 y1 hs1
      rw [HIe.out]
      rcases hnm : isNameB nu with _ | _
      · have HNm' := Lib.hid (fun w => (by have := HNm.out w; rw [hnm] at this; exact this : Calls Tryd.prog 8 #[.string nu] w fun e w' => e = .returned (.bool false) ∧ Below w.heap.size w w'))
        clear HNm hnm
        go_wp2_with (go_at_call 8; (with_reducible refine (HNm'.out _).mono ?_); rintro e w5 ⟨rfl, hb5⟩; have HB5 := Lib.hid hb5; clear hb5)
        go_ret
        exact ⟨rfl, HB1.out.trans ((HB4.out.trans (HB5.out.mono HB4.out.size)).mono HB1.out.size)⟩
      · have HNm' := Lib.hid (fun w => (by have := HNm.out w; rw [hnm] at this; exact this : Calls Tryd.prog 8 #[.string nu] w fun e w' => e = .returned (.bool true) ∧ Below w.heap.size w w'))
        have HRm := Lib.hid (HRn.out i hnm)
        clear HNm hnm HRn
        go_upto_region 9 with (go_at_call 8; (with_reducible refine (HNm'.out _).mono ?_); rintro e w5 ⟨rfl, hb5⟩; have HB5 := Lib.hid (HB4.out.trans (hb5.mono HB4.out.size)); have HZ5 := Lib.hid (HZ4.out.trans (hb5.mono HZ4.out.size)); have HSv5 := Lib.hid (HSv4.out.belowed hb5); have HOv5 := Lib.hid (HOv4.out.belowed hb5); have HY5 := Lib.hid ((hb5.block _ (lt_of_heap HY4.out)).trans HY4.out); clear hb5)
        obtain ⟨q0, q1, q2⟩ := HQ.out _ HB5.out
        have HCo := Lib.hid (copyUnit_ok u _ _ _ w5 (HUw.out _ HB5.out))
        unfold CopyUEnd at HCo
        clear HSv4 HOv4 HY4
        go_upto_region 10 with (go_at_call 9; (with_reducible refine HCo.out.mono ?_); rintro e w6 ⟨⟨vs', vg', vf', M, Q, rfl, hun⟩, hb6⟩; obtain ⟨sa', sc', _, rfl, _⟩ := hun.is.structs; obtain ⟨ag', cg', rfl, _⟩ := glsU_len hun.is.globals; obtain ⟨af', cf', rfl, hl8⟩ := fnsU_len hun.is.funcs; have HUn := Lib.hid hun; have HB6 := Lib.hid hb6; clear hun hb6)
        clear q0 q1 q2
        have hx7 := heap_alloc_new w6 (.cells #[.slice sa' u.structs.length sc', .slice ag' u.globals.length cg', .slice af' u.funcs.length cf'] 26)
        have hb7 := ba1 w6 (.cells #[.slice sa' u.structs.length sc', .slice ag' u.globals.length cg', .slice af' u.funcs.length cf'] 26)
        generalize w6.alloc (.cells #[.slice sa' u.structs.length sc', .slice ag' u.globals.length cg', .slice af' u.funcs.length cf'] 26) = w7 at *
        have HX7 := Lib.hid hx7
        have HUn7 := Lib.hid (HUn.out.below hb7)
        have HB7 := Lib.hid (HB6.out.trans (hb7.mono HB6.out.size))
        have HLt := Lib.hid (show ∀ q ∈ Q, ∀ c, BlkU q c → c < w6.heap.size from fun q hq c hc => ((HUn.out.funcs.2.1 q hq).1.lt hc).2)
        have hw56 : w5.heap.size ≤ w6.heap.size := HB6.out.size
        clear hx7 hb7
        obtain ⟨g, hg⟩ : ∃ g, g = renG n i nu R0.out := ⟨_, rfl⟩
        have HG := Lib.hid hg
        clear hg
        go_upto_region 11 with fail
        go_loopg [13] u.funcs.length (fun m v13 wy => ∃ (k : Nat) (Q : List (FnU × Value × Value)), k ≤ u.funcs.length ∧ k + m = u.funcs.length ∧ v13 = .int .i64 (k : Int) ∧ Hid (UnC w5.heap.size wy ⟨u.structs, u.globals, midF g u.funcs k⟩ (.slice sa' u.structs.length sc') (.slice ag' u.globals.length cg') (.slice af' u.funcs.length cf') M Q) ∧ Hid (Below w5.heap.size w5 wy) ∧
          Hid (wy.heap[w6.heap.size]? = some (.cells #[.slice sa' u.structs.length sc', .slice ag' u.globals.length cg', .slice af' u.funcs.length cf'] 26 (0, 0))) ∧ Hid (∀ q ∈ Q, ∀ c, BlkU q c → c < w6.heap.size) ∧ Hid ((∃ x ∈ u.funcs.take k, x.name = n ∧ x.body ≠ []) → Clear nu f))
        case atStart => exact ⟨0, Q, by omega, by omega, rfl, Lib.hid (by rw [midF_0]; exact HUn7.out), HB7, HX7, HLt, Lib.hid (fun ⟨x, hx, _⟩ => by simp at hx)⟩
        case round =>
          obtain ⟨k, Q, hk, hkm, rfl, HUk, HBk, HXk, HLk, HCk⟩ := hrel
          obtain ⟨wo, hwo⟩ : ∃ y, y = wr := ⟨_, rfl⟩
          subst hwo
          obtain ⟨⟨x0, x1, x2⟩, _⟩ := three_block HXk.out
          by_cases hlt : k < u.funcs.length
          · have hQl : Q.length = u.funcs.length := by have := congrArg List.length HUk.out.fns; rw [List.length_map, midF_len] at this; exact this
            have hQk : k < Q.length := by omega
            obtain ⟨gf, cpf, hgs, _, hgl, _, _, hcs, _⟩ := own_rowAt fnU_len HUk.out.funcs.1 rfl hQk
            obtain ⟨rfl, hqq, rfl⟩ : af' = some ⟨gf, 0, none⟩ ∧ u.funcs.length = Q.length ∧ cf' = cpf := by simpa using hgs
            clear hqq
            have hLk := List.getElem?_eq_getElem hlt
            have hq1 : Q[k].1 = u.funcs[k] := by
              have h1 := congrArg (fun l => l[k]?) HUk.out.fns
              simp only [List.getElem?_map, List.getElem?_eq_getElem hQk, Option.map_some] at h1
              rw [midF_at, hLk, Option.map_some, if_neg (Nat.lt_irrefl k)] at h1
              exact Option.some.inj h1
            have hQe := List.getElem?_eq_getElem hQk
            have hfc := (HUk.out.funcs.2.1 Q[k] (List.getElem_mem hQk)).1
            have hmx : u.funcs[k] ∈ u.funcs := List.getElem_mem hlt
            rcases hqe : Q[k] with ⟨x, vp, vb⟩
            rw [hqe] at hq1 hQe hfc hcs
            simp only at hq1
            rw [← hq1] at hLk hmx
            obtain ⟨apx, cpx, hvp⟩ := own_slice hfc.params
            obtain ⟨abx, cbx, hvb⟩ := own_slice hfc.body
            simp only at hvp hvb
            subst hvp hvb
            have m1 := hcs 1 _ rfl
            have m3 := hcs 3 _ rfl
            have m4 := hcs 4 _ rfl
            have HLx := Lib.hid hLk
            have HMx := Lib.hid hmx
            have HFc := Lib.hid hfc
            have HQe := Lib.hid hQe
            have hpl := hfc.plen
            have hbl := hfc.blen
            simp only at hpl hbl
            have hNl : (u.funcs.length : Int) ≤ 140737488351232 := by omega
            clear hgs hcs hQl hQk hq1 hqe hLk hmx hfc hQe
            by_cases hnm : x.name = n
            · by_cases hbn : x.body = []
              · have hcmp : (x.name.toList == n.toList) = true := by rw [hnm]; simp
                have hb0 : (x.body.length : Int) = 0 := by rw [hbn]; rfl
                have HSm := Lib.hid (midF_same g HLx.out (by rw [HG.out]; unfold renG; rw [if_neg (fun h => h.2 hbn)]))
                have HCm := Lib.hid (show (∃ y ∈ u.funcs.take (k + 1), y.name = n ∧ y.body ≠ []) → Clear nu f from fun ⟨y, hy, h1, h2⟩ => by
                  rw [List.take_add_one, HLx.out] at hy
                  rcases List.mem_append.1 hy with hy | hy
                  · exact HCk.out ⟨y, hy, h1, h2⟩
                  · rw [show y = x by simpa using hy] at h2
                    exact absurd hbn h2)
                clear hnm hbn
                go_wp2_with fail
                go_roundg (u.funcs.length - (k + 1))
                case measure => omega
                case rel => exact ⟨k + 1, Q, by omega, by omega, by rw [Int.natCast_add]; rfl, Lib.hid (by rw [HSm.out]; exact HUk.out), HBk, HXk, HLk, HCm⟩
              · have hcmp : (x.name.toList == n.toList) = true := by rw [hnm]; simp
                have hb0 : ((x.body.length : Int) == 0) = false := beq_eq_false_iff_ne.2 (by have := List.length_pos_iff.2 hbn; omega)
                have hxf := HFb.out x HMx.out hnm hbn
                subst hxf
                have HNb := Lib.hid (And.intro hnm hbn)
                have hp8 := HCt.out.few.2
                have hb4 := HCt.out.few.1
                have hol := HCt.out.out
                have hpl8 : (x.params.length : Int) ≤ 8 := by omega
                have hbl4 : (x.body.length : Int) ≤ 4096 := by omega
                have HOl := Lib.hid hol
                clear hnm hbn hol
                go_upto_region 16 with fail
                clear hcmp hb0
                go_loopg [15] x.params.length (fun m v15 wy => ∃ j : Nat, j ≤ x.params.length ∧ j + m = x.params.length ∧ v15 = .int .i64 (j : Int) ∧ Hid (∀ p ∈ x.params.take j, p.name ≠ nu) ∧ wo = wy)
                case atStart => exact ⟨0, by omega, by omega, rfl, Lib.hid (fun p hp => by simp at hp), rfl⟩
                case round =>
                  obtain ⟨j, hj, hjm, rfl, HP, hw⟩ := hrel
                  subst hw
                  by_cases hjl : j < x.params.length
                  · obtain ⟨gp, cpp, hps, _, hpg, _, _, hpc, _⟩ := own_rowAt vr_len HFc.out.params rfl hjl
                    obtain ⟨rfl, rfl⟩ : apx = some ⟨gp, 0, none⟩ ∧ cpx = cpp := by simpa using hps
                    have p0 := hpc 0 _ rfl
                    rw [Nat.add_zero] at p0
                    have HTj := Lib.hid (List.take_succ_eq_append_getElem hjl)
                    simp only at p0 HTj
                    generalize x.params[j] = p at *
                    clear hps hpc
                    by_cases hpn : p.name = nu
                    · have hpc : (p.name.toList == nu.toList) = true := by rw [hpn]; simp
                      clear hpn
                      go_wp2_with fail
                      go_ret
                      exact ⟨rfl, HB1.out.trans ((HB5.out.trans (HBk.out.mono HB5.out.size)).mono HB1.out.size)⟩
                    · have hpc : (p.name.toList == nu.toList) = false := by rw [str_eqb, decide_eq_false hpn]
                      have HPn := Lib.hid (show ∀ q ∈ x.params.take (j + 1), q.name ≠ nu from fun q hq => by
                        rw [HTj.out] at hq
                        rcases List.mem_append.1 hq with hq | hq
                        · exact HP.out q hq
                        · rw [List.mem_singleton.1 hq]; exact hpn)
                      clear hpn
                      go_wp2_with fail
                      go_roundg (x.params.length - (j + 1))
                      case measure => omega
                      case rel => exact ⟨j + 1, by omega, by omega, by rw [Int.natCast_add]; rfl, HPn, rfl⟩
                  · obtain rfl : j = x.params.length := by omega
                    have hP := HP.out
                    rw [List.take_length] at hP
                    have HPa := Lib.hid hP
                    clear hP hjl
                    go_upto_region 21 with fail
                    go_loopg [16] x.body.length (fun m v16 wy => ∃ j : Nat, j ≤ x.body.length ∧ j + m = x.body.length ∧ v16 = .int .i64 (j : Int) ∧ Hid (∀ y ∈ x.body.take j, y.kind = 3 ∨ y.kind = 22 → y.text ≠ nu) ∧ wo = wy)
                    case atStart => exact ⟨0, by omega, by omega, rfl, Lib.hid (fun p hp => by simp at hp), rfl⟩
                    case round =>
                      obtain ⟨j, hj, hjm, rfl, HD, hw⟩ := hrel
                      subst hw
                      by_cases hjl : j < x.body.length
                      · obtain ⟨gb, cbb, hps, _, hpg, _, _, hpc, _⟩ := own_rowAt nd_len HFc.out.body rfl hjl
                        obtain ⟨rfl, rfl⟩ : abx = some ⟨gb, 0, none⟩ ∧ cbx = cbb := by simpa using hps
                        have p0 := hpc 0 _ rfl
                        have p4 := hpc 4 _ rfl
                        rw [Nat.add_zero] at p0
                        have HTj := Lib.hid (List.take_succ_eq_append_getElem hjl)
                        simp only at p0 p4 HTj
                        generalize x.body[j] = y at *
                        obtain ⟨yk, yn, ya, yi, ys, yt⟩ := y
                        simp only at p0 p4
                        clear hps hpc
                        have hcs3 : ys = nu ∧ (yk = 3 ∨ (yk ≠ 3 ∧ yk = 22)) ∨ (ys ≠ nu) ∨ (ys = nu ∧ yk ≠ 3 ∧ yk ≠ 22) := by
                          by_cases c1 : ys = nu
                          · by_cases c2 : yk = 3
                            · exact .inl ⟨c1, .inl c2⟩
                            · by_cases c3 : yk = 22
                              · exact .inl ⟨c1, .inr ⟨c2, c3⟩⟩
                              · exact .inr (.inr ⟨c1, c2, c3⟩)
                          · exact .inr (.inl c1)
                        have HDn := Lib.hid (show (ys ≠ nu ∨ (yk ≠ 3 ∧ yk ≠ 22)) → ∀ y ∈ x.body.take (j + 1), y.kind = 3 ∨ y.kind = 22 → y.text ≠ nu from fun hc q hq hk => by
                          rw [HTj.out] at hq
                          rcases List.mem_append.1 hq with hq | hq
                          · exact HD.out q hq hk
                          · rw [List.mem_singleton.1 hq] at hk ⊢
                            simp only at hk ⊢
                            rcases hc with hc | hc
                            · exact hc
                            · omega)
                        rcases hcs3 with ⟨c1, c2⟩ | c1 | ⟨c1, c2, c3⟩
                        · have hpc : (ys.toList == nu.toList) = true := by rw [c1]; simp
                          clear c1
                          rcases c2 with rfl | ⟨c2, rfl⟩
                          · go_wp2_with fail
                            go_ret
                            exact ⟨rfl, HB1.out.trans ((HB5.out.trans (HBk.out.mono HB5.out.size)).mono HB1.out.size)⟩
                          · clear c2
                            go_wp2_with fail
                            go_ret
                            exact ⟨rfl, HB1.out.trans ((HB5.out.trans (HBk.out.mono HB5.out.size)).mono HB1.out.size)⟩
                        · have hpc : (ys.toList == nu.toList) = false := by rw [str_eqb, decide_eq_false c1]
                          have HDm := Lib.hid (HDn.out (.inl c1))
                          clear c1
                          go_wp2_with fail
                          go_roundg (x.body.length - (j + 1))
                          case measure => omega
                          case rel => exact ⟨j + 1, by omega, by omega, by rw [Int.natCast_add]; rfl, HDm, rfl⟩
                        · have hpc : (ys.toList == nu.toList) = true := by rw [c1]; simp
                          have HDm := Lib.hid (HDn.out (.inr ⟨c2, c3⟩))
                          have t5 : (yk == 3) = false := beq_eq_false_iff_ne.2 c2
                          have t6 : (yk == 22) = false := beq_eq_false_iff_ne.2 c3
                          clear c1 c2 c3
                          go_wp2_with fail
                          go_roundg (x.body.length - (j + 1))
                          case measure => omega
                          case rel => exact ⟨j + 1, by omega, by omega, by rw [Int.natCast_add]; rfl, HDm, rfl⟩
                      · obtain rfl : j = x.body.length := by omega
                        have hD := HD.out
                        rw [List.take_length] at hD
                        have HCl := Lib.hid (show Clear nu x from ⟨HPa.out, fun k hk hkd => by
                          have e : x.body.getD k ndU0 = x.body[k] := by simp [List.getD, hk]
                          rw [e] at hkd ⊢
                          exact hD _ (List.getElem_mem hk) hkd⟩)
                        clear hD hjl
                        have HGx := Lib.hid (show g x = renF i nu R0.out x by
                          rw [HG.out]
                          unfold renG
                          rw [if_pos HNb.out])
                        have HEnd := Lib.hid (show (midF g u.funcs k).set k (renF i nu R0.out x) = midF g u.funcs (k + 1) by rw [← midF_next g HLx.out, HGx.out])
                        have HRl := Lib.hid (renT_len i nu R0.out x.body)
                        -- behind the parameters
                        have hstart : ∀ W Qx, UnC w5.heap.size W ⟨u.structs, u.globals, (midF g u.funcs k).set k ⟨x.at_, x.name, x.type, renPs i nu 0 x.params, x.body⟩⟩ (.slice sa' u.structs.length sc') (.slice ag' u.globals.length cg') (.slice (some ⟨gf, 0, none⟩) u.funcs.length cf') M Qx → UnC w5.heap.size W ⟨u.structs, u.globals, (midF g u.funcs k).set k ⟨x.at_, x.name, x.type, renPs i nu 0 x.params, midT (renT i nu R0.out x.body) x.body 0⟩⟩ (.slice sa' u.structs.length sc') (.slice ag' u.globals.length cg') (.slice (some ⟨gf, 0, none⟩) u.funcs.length cf') M Qx := fun W Qx h => by
                          have e : midT (renT i nu R0.out x.body) x.body 0 = x.body := by simp [midT]
                          rw [e]
                          exact h
                        have HSt := Lib.hid hstart
                        clear hstart
                        have HBo := Lib.hid (fun c (hc : BlkU (x, .slice apx x.params.length cpx, .slice abx x.body.length cbx) c) => HLk.out _ (List.mem_of_getElem? HQe.out) c hc)
                        by_cases hip : i < x.params.length
                        · obtain ⟨gp, cpp, hps, _, hpg, _, _, hpc, hpf⟩ := own_rowAt vr_len HFc.out.params rfl hip
                          obtain ⟨rfl, rfl⟩ : apx = some ⟨gp, 0, none⟩ ∧ cpx = cpp := by simpa using hps
                          have p0 := hpc 0 _ rfl
                          rw [Nat.add_zero] at p0
                          have z0 := hpf (i * 3)
                          have hpi := List.getElem?_eq_getElem hip
                          simp only at p0 hpi
                          have hvk := HFc.out.pok _ (List.getElem_mem hip)
                          have hfp := HFc.out.par (p' := renVr nu x.params[i]) (u := .string nu) 0 hpi (by decide) rfl ⟨hnu, hvk.2⟩
                          rw [← renPs_set hpi, Nat.add_zero] at hfp
                          have hup := HUk.out.putA (f' := ⟨x.at_, x.name, x.type, renPs i nu 0 x.params, x.body⟩) HQe.out rfl rfl rfl (grn_setU wo gp (i * 3) (.string nu)) (.inl rfl) hfp
                          have hgpl := HBo.out gp (.inl rfl)
                          have hw5g := (HUk.out.low.1)
                          have hMg := (HFc.out.params.lt gp rfl).1
                          have HU8 := Lib.hid (HSt.out _ _ hup)
                          have HB8 := Lib.hid (HBk.out.setCell (p := ⟨gp, i * 3, none⟩) (Nat.le_trans hw5g hMg) (.string nu))
                          have HX8 := Lib.hid (show (wo.setCell ⟨gp, i * 3, none⟩ (.string nu)).heap[w6.heap.size]? = _ from (Below.heap_setCell _ _ _ _ (show w6.heap.size ≠ gp by omega)).trans HXk.out)
                          have HQ8 := Lib.hid (show (Q.set k (⟨x.at_, x.name, x.type, renPs i nu 0 x.params, x.body⟩, .slice (some ⟨gp, 0, none⟩) x.params.length cpx, .slice abx x.body.length cbx))[k]? = some (⟨x.at_, x.name, x.type, renPs i nu 0 x.params, midT (renT i nu R0.out x.body) x.body 0⟩, .slice (some ⟨gp, 0, none⟩) x.params.length cpx, .slice abx x.body.length cbx) by
                            rw [List.getElem?_set_self (List.getElem?_eq_some_iff.1 HQe.out).1]
                            simp [midT])
                          have HL8 := Lib.hid (show ∀ q ∈ Q.set k (⟨x.at_, x.name, x.type, renPs i nu 0 x.params, x.body⟩, .slice (some ⟨gp, 0, none⟩) x.params.length cpx, .slice abx x.body.length cbx), ∀ c, BlkU q c → c < w6.heap.size from fun q hq c hc => by
                            rcases List.mem_or_eq_of_mem_set hq with hq | rfl
                            · exact HLk.out q hq c hc
                            · exact HBo.out c hc)
                          have hip' : (i : Int) < (x.params.length : Int) := by omega
                          clear hps hpc hpf hpi hvk hfp hup hgpl hw5g hMg
                          go_upto_region 28 with fail
                          clear p0 z0 hip'
                          generalize wo.setCell ⟨gp, i * 3, none⟩ (.string nu) = W8 at *
                          -- LOOPA
                          go_loopg [17] x.body.length (fun m v17 wy => ∃ (j : Nat) (Qx : List (FnU × Value × Value)), j ≤ x.body.length ∧ j + m = x.body.length ∧ v17 = .int .i64 (j : Int) ∧ Hid (UnC w5.heap.size wy ⟨u.structs, u.globals, (midF g u.funcs k).set k ⟨x.at_, x.name, x.type, renPs i nu 0 x.params, midT (renT i nu R0.out x.body) x.body j⟩⟩ (.slice sa' u.structs.length sc') (.slice ag' u.globals.length cg') (.slice (some ⟨gf, 0, none⟩) u.funcs.length cf') M Qx) ∧ Hid (Below w5.heap.size w5 wy) ∧
                            Hid (wy.heap[w6.heap.size]? = some (.cells #[.slice sa' u.structs.length sc', .slice ag' u.globals.length cg', .slice (some ⟨gf, 0, none⟩) u.funcs.length cf'] 26 (0, 0))) ∧ Hid (∀ q ∈ Qx, ∀ c, BlkU q c → c < w6.heap.size) ∧ Hid (Qx[k]? = some (⟨x.at_, x.name, x.type, renPs i nu 0 x.params, midT (renT i nu R0.out x.body) x.body j⟩, .slice (some ⟨gp, 0, none⟩) x.params.length cpx, .slice abx x.body.length cbx)))
                          case atStart => exact ⟨0, _, by omega, by omega, rfl, HU8, HB8, HX8, HL8, HQ8⟩
                          case round =>
                            obtain ⟨j, Qx, hj, hjm, rfl, HUx, HBx, HXx, HLx2, HQx⟩ := hrel
                            obtain ⟨hkx, hqx⟩ := List.getElem?_eq_some_iff.1 HQx.out
                            obtain ⟨g9, c9, hgs, _, _, _, _, hcs, _⟩ := own_rowAt fnU_len HUx.out.funcs.1 rfl hkx
                            obtain ⟨rfl, hqq, rfl⟩ : gf = g9 ∧ u.funcs.length = Qx.length ∧ cf' = c9 := by simpa using hgs
                            rw [hqx] at hcs
                            have m4 := hcs 4 _ rfl
                            clear hgs hcs hqq
                            by_cases hjl : j < x.body.length
                            · have hjo : j < R0.out.length := by rw [HOl.out]; exact hjl
                              obtain ⟨go, oc, hos, _, hgol, _, _, hoc, _⟩ := own_rowAt bnd_len HOv5.out rfl hjo
                              obtain ⟨rfl, rfl⟩ : ova = some ⟨go, 0, none⟩ ∧ ovc = oc := by simpa using hos
                              have b0 := hoc 0 _ rfl
                              have b1 := hoc 1 _ rfl
                              rw [← HBx.out.cell hgol] at b0 b1
                              rw [Nat.add_zero] at b0
                              have hTj : (renT i nu R0.out x.body)[j]? = some (renNd i nu x.body[j] R0.out[j]) := by
                                rw [renT_at, List.getElem?_eq_getElem hjl, Option.map_some, List.getD_eq_getElem?_getD, List.getElem?_eq_getElem hjo]
                                rfl
                              have hTo := List.getElem?_eq_getElem hjl
                              have hj1 : (j : Int) < (R0.out.length : Int) := by omega
                              have hj0 : (0 : Int) ≤ (j : Int) := by omega
                              have hj2 : (j : Int) < (x.body.length : Int) := by omega
                              generalize x.body[j] = y at *
                              generalize R0.out[j] = yb at *
                              obtain ⟨yk, yi, yt⟩ := yb
                              simp only at b0 b1
                              clear hos hoc hqx
                              by_cases hren : renB i ⟨yk, yi, yt⟩ = true
                              · have hr2 := hren
                                unfold renB at hr2
                                simp only [Bool.and_eq_true, decide_eq_true_eq] at hr2
                                obtain ⟨rfl, rfl⟩ := hr2
                                have hfx := (HUx.out.funcs.2.1 _ (List.mem_of_getElem? HQx.out)).1
                                have hml := midT_len HRl.out j
                                have hjl' : j < (midT (renT i nu R0.out x.body) x.body j).length := by rw [hml]; exact hjl
                                obtain ⟨gb, cbb, hps, _, hpg, _, _, hpc, hpf⟩ := own_rowAt nd_len hfx.body rfl hjl'
                                simp only [hml] at hps
                                obtain ⟨rfl, rfl⟩ : abx = some ⟨gb, 0, none⟩ ∧ cbx = cbb := by simpa using hps
                                have hmj : (midT (renT i nu R0.out x.body) x.body j)[j]? = some y := by rw [midT_at HRl.out, if_neg (Nat.lt_irrefl j)]; exact hTo
                                have hmj2 : (midT (renT i nu R0.out x.body) x.body j)[j] = y := by rw [List.getElem?_eq_getElem hjl'] at hmj; exact Option.some.inj hmj
                                have p4 := hpc 4 (.string y.text) (by simp only [hmj2]; rfl)
                                have z4 := hpf (j * 6 + 4)
                                have hyk := hfx.bok y (List.mem_of_getElem? hmj)
                                have hrn : renNd i nu y ⟨3, (i : Int), yt⟩ = ⟨y.kind, y.n, y.at_, y.int, nu, y.type⟩ := by unfold renNd; rw [if_pos hren]
                                have hfp := hfx.nd (x' := renNd i nu y ⟨3, (i : Int), yt⟩) (u := .string nu) 4 hmj (by decide) (by rw [hrn]; rfl) (by rw [hrn]; exact hyk)
                                have hset : (midT (renT i nu R0.out x.body) x.body j).set j (renNd i nu y ⟨3, (i : Int), yt⟩) = midT (renT i nu R0.out x.body) x.body (j + 1) := midT_next HRl.out hTj
                                simp only [hset] at hfp
                                have hup := HUx.out.putB (f' := ⟨x.at_, x.name, x.type, renPs i nu 0 x.params, midT (renT i nu R0.out x.body) x.body (j + 1)⟩) HQx.out rfl rfl rfl (grn_setU wr gb (j * 6 + 4) (.string nu)) (.inr rfl) hfp
                                have hgbl := HLx2.out _ (List.mem_of_getElem? HQx.out) gb (.inr rfl)
                                have hMg := (hfx.body.lt gb rfl).1
                                have hlow := HUx.out.low.1
                                have HUn9 := Lib.hid hup
                                have HBn9 := Lib.hid (HBx.out.setCell (p := ⟨gb, j * 6 + 4, none⟩) (Nat.le_trans hlow hMg) (.string nu))
                                have HXn9 := Lib.hid ((Below.heap_setCell wr ⟨gb, j * 6 + 4, none⟩ (.string nu) w6.heap.size (show w6.heap.size ≠ gb by omega)).trans HXx.out)
                                have HLn9 := Lib.hid (show ∀ q ∈ Qx.set k (⟨x.at_, x.name, x.type, renPs i nu 0 x.params, midT (renT i nu R0.out x.body) x.body (j + 1)⟩, .slice (some ⟨gp, 0, none⟩) x.params.length cpx, .slice (some ⟨gb, 0, none⟩) x.body.length cbx), ∀ c, BlkU q c → c < w6.heap.size from fun q hq c hc => by
                                  rcases List.mem_or_eq_of_mem_set hq with hq | rfl
                                  · exact HLx2.out q hq c hc
                                  · exact HLx2.out _ (List.mem_of_getElem? HQx.out) c hc)
                                have HQn9 := Lib.hid (show (Qx.set k (⟨x.at_, x.name, x.type, renPs i nu 0 x.params, midT (renT i nu R0.out x.body) x.body (j + 1)⟩, .slice (some ⟨gp, 0, none⟩) x.params.length cpx, .slice (some ⟨gb, 0, none⟩) x.body.length cbx))[k]? = some (⟨x.at_, x.name, x.type, renPs i nu 0 x.params, midT (renT i nu R0.out x.body) x.body (j + 1)⟩, .slice (some ⟨gp, 0, none⟩) x.params.length cpx, .slice (some ⟨gb, 0, none⟩) x.body.length cbx) from List.getElem?_set_self hkx)
                                clear hfx hml hjl' hpc hpf hps hmj hmj2 hyk hrn hfp hset hup hgbl hMg hlow hren hTj hTo
                                go_wp2_with fail
                                go_roundg (x.body.length - (j + 1))
                                case measure => omega
                                case rel => exact ⟨j + 1, _, by omega, by omega, by rw [Int.natCast_add]; rfl, HUn9, HBn9, HXn9, HLn9, HQn9⟩
                              · have hsm : midT (renT i nu R0.out x.body) x.body (j + 1) = midT (renT i nu R0.out x.body) x.body j := midT_same HRl.out (by
                                  rw [hTj, hTo]
                                  unfold renNd
                                  rw [if_neg hren]) hjl
                                have HSm := Lib.hid hsm
                                have hcs : (yk == 3) = false ∨ (yk = 3 ∧ (yi == (i : Int)) = false) := by
                                  by_cases c1 : yk = 3
                                  · refine .inr ⟨c1, beq_eq_false_iff_ne.2 fun c2 => hren ?_⟩
                                    unfold renB
                                    simp [c1, c2]
                                  · exact .inl (beq_eq_false_iff_ne.2 c1)
                                clear hsm hren hTj hTo
                                rcases hcs with t5 | ⟨rfl, t5⟩
                                · go_wp2_with fail
                                  go_roundg (x.body.length - (j + 1))
                                  case measure => omega
                                  case rel => exact ⟨j + 1, Qx, by omega, by omega, by rw [Int.natCast_add]; rfl, Lib.hid (by rw [HSm.out]; exact HUx.out), HBx, HXx, HLx2, Lib.hid (by rw [HSm.out]; exact HQx.out)⟩
                                · go_wp2_with fail
                                  go_roundg (x.body.length - (j + 1))
                                  case measure => omega
                                  case rel => exact ⟨j + 1, Qx, by omega, by omega, by rw [Int.natCast_add]; rfl, Lib.hid (by rw [HSm.out]; exact HUx.out), HBx, HXx, HLx2, Lib.hid (by rw [HSm.out]; exact HQx.out)⟩
                            · obtain rfl : j = x.body.length := by omega
                              have hfe : (⟨x.at_, x.name, x.type, renPs i nu 0 x.params, midT (renT i nu R0.out x.body) x.body x.body.length⟩ : FnU) = renF i nu R0.out x := by rw [midT_end HRl.out]; rfl
                              have hue := HUx.out
                              rw [hfe, HEnd.out] at hue
                              have HUe := Lib.hid hue
                              clear hfe hue
                              clear hjl hqx
                              go_wp2_with fail
                              go_roundg (u.funcs.length - (k + 1))
                              case measure => omega
                              case rel => exact ⟨k + 1, Qx, by omega, by omega, by rw [Int.natCast_add]; rfl, HUe, HBx, HXx, HLx2, Lib.hid (fun _ => HCl.out)⟩
                          -- ENDLOOPA
                        · have hip' : ¬ ((i : Int) < (x.params.length : Int)) := by omega
                          have hx0 : (⟨x.at_, x.name, x.type, renPs i nu 0 x.params, x.body⟩ : FnU) = x := by rw [renPs_none (by omega)]
                          have hset : (midF g u.funcs k).set k x = midF g u.funcs k := by
                            refine List.ext_getElem? fun j => ?_
                            by_cases e : k = j
                            · subst e
                              rw [List.getElem?_set_self (by rw [midF_len]; exact hlt), midF_at, HLx.out]
                              simp
                            · rw [List.getElem?_set_ne e]
                          have HU8 := Lib.hid (HSt.out _ _ (by rw [hx0, hset]; exact HUk.out))
                          have HB8 := HBk
                          have HX8 := HXk
                          have HQ8 := Lib.hid (show Q[k]? = some (⟨x.at_, x.name, x.type, renPs i nu 0 x.params, midT (renT i nu R0.out x.body) x.body 0⟩, .slice apx x.params.length cpx, .slice abx x.body.length cbx) by
                            have e : midT (renT i nu R0.out x.body) x.body 0 = x.body := by simp [midT]
                            rw [e, hx0]
                            exact HQe.out)
                          have HL8 := HLk
                          clear hx0 hset hip
                          go_upto_region 28 with fail
                          clear hip'
                          -- LOOPB
                          go_loopg [17] x.body.length (fun m v17 wy => ∃ (j : Nat) (Qx : List (FnU × Value × Value)), j ≤ x.body.length ∧ j + m = x.body.length ∧ v17 = .int .i64 (j : Int) ∧ Hid (UnC w5.heap.size wy ⟨u.structs, u.globals, (midF g u.funcs k).set k ⟨x.at_, x.name, x.type, renPs i nu 0 x.params, midT (renT i nu R0.out x.body) x.body j⟩⟩ (.slice sa' u.structs.length sc') (.slice ag' u.globals.length cg') (.slice (some ⟨gf, 0, none⟩) u.funcs.length cf') M Qx) ∧ Hid (Below w5.heap.size w5 wy) ∧
                            Hid (wy.heap[w6.heap.size]? = some (.cells #[.slice sa' u.structs.length sc', .slice ag' u.globals.length cg', .slice (some ⟨gf, 0, none⟩) u.funcs.length cf'] 26 (0, 0))) ∧ Hid (∀ q ∈ Qx, ∀ c, BlkU q c → c < w6.heap.size) ∧ Hid (Qx[k]? = some (⟨x.at_, x.name, x.type, renPs i nu 0 x.params, midT (renT i nu R0.out x.body) x.body j⟩, .slice apx x.params.length cpx, .slice abx x.body.length cbx)))
                          case atStart => exact ⟨0, _, by omega, by omega, rfl, HU8, HB8, HX8, HL8, HQ8⟩
                          case round =>
                            obtain ⟨j, Qx, hj, hjm, rfl, HUx, HBx, HXx, HLx2, HQx⟩ := hrel
                            obtain ⟨hkx, hqx⟩ := List.getElem?_eq_some_iff.1 HQx.out
                            obtain ⟨g9, c9, hgs, _, _, _, _, hcs, _⟩ := own_rowAt fnU_len HUx.out.funcs.1 rfl hkx
                            obtain ⟨rfl, hqq, rfl⟩ : gf = g9 ∧ u.funcs.length = Qx.length ∧ cf' = c9 := by simpa using hgs
                            rw [hqx] at hcs
                            have m4 := hcs 4 _ rfl
                            clear hgs hcs hqq
                            by_cases hjl : j < x.body.length
                            · have hjo : j < R0.out.length := by rw [HOl.out]; exact hjl
                              obtain ⟨go, oc, hos, _, hgol, _, _, hoc, _⟩ := own_rowAt bnd_len HOv5.out rfl hjo
                              obtain ⟨rfl, rfl⟩ : ova = some ⟨go, 0, none⟩ ∧ ovc = oc := by simpa using hos
                              have b0 := hoc 0 _ rfl
                              have b1 := hoc 1 _ rfl
                              rw [← HBx.out.cell hgol] at b0 b1
                              rw [Nat.add_zero] at b0
                              have hTj : (renT i nu R0.out x.body)[j]? = some (renNd i nu x.body[j] R0.out[j]) := by
                                rw [renT_at, List.getElem?_eq_getElem hjl, Option.map_some, List.getD_eq_getElem?_getD, List.getElem?_eq_getElem hjo]
                                rfl
                              have hTo := List.getElem?_eq_getElem hjl
                              have hj1 : (j : Int) < (R0.out.length : Int) := by omega
                              have hj0 : (0 : Int) ≤ (j : Int) := by omega
                              have hj2 : (j : Int) < (x.body.length : Int) := by omega
                              generalize x.body[j] = y at *
                              generalize R0.out[j] = yb at *
                              obtain ⟨yk, yi, yt⟩ := yb
                              simp only at b0 b1
                              clear hos hoc hqx
                              by_cases hren : renB i ⟨yk, yi, yt⟩ = true
                              · have hr2 := hren
                                unfold renB at hr2
                                simp only [Bool.and_eq_true, decide_eq_true_eq] at hr2
                                obtain ⟨rfl, rfl⟩ := hr2
                                have hfx := (HUx.out.funcs.2.1 _ (List.mem_of_getElem? HQx.out)).1
                                have hml := midT_len HRl.out j
                                have hjl' : j < (midT (renT i nu R0.out x.body) x.body j).length := by rw [hml]; exact hjl
                                obtain ⟨gb, cbb, hps, _, hpg, _, _, hpc, hpf⟩ := own_rowAt nd_len hfx.body rfl hjl'
                                simp only [hml] at hps
                                obtain ⟨rfl, rfl⟩ : abx = some ⟨gb, 0, none⟩ ∧ cbx = cbb := by simpa using hps
                                have hmj : (midT (renT i nu R0.out x.body) x.body j)[j]? = some y := by rw [midT_at HRl.out, if_neg (Nat.lt_irrefl j)]; exact hTo
                                have hmj2 : (midT (renT i nu R0.out x.body) x.body j)[j] = y := by rw [List.getElem?_eq_getElem hjl'] at hmj; exact Option.some.inj hmj
                                have p4 := hpc 4 (.string y.text) (by simp only [hmj2]; rfl)
                                have z4 := hpf (j * 6 + 4)
                                have hyk := hfx.bok y (List.mem_of_getElem? hmj)
                                have hrn : renNd i nu y ⟨3, (i : Int), yt⟩ = ⟨y.kind, y.n, y.at_, y.int, nu, y.type⟩ := by unfold renNd; rw [if_pos hren]
                                have hfp := hfx.nd (x' := renNd i nu y ⟨3, (i : Int), yt⟩) (u := .string nu) 4 hmj (by decide) (by rw [hrn]; rfl) (by rw [hrn]; exact hyk)
                                have hset : (midT (renT i nu R0.out x.body) x.body j).set j (renNd i nu y ⟨3, (i : Int), yt⟩) = midT (renT i nu R0.out x.body) x.body (j + 1) := midT_next HRl.out hTj
                                simp only [hset] at hfp
                                have hup := HUx.out.putB (f' := ⟨x.at_, x.name, x.type, renPs i nu 0 x.params, midT (renT i nu R0.out x.body) x.body (j + 1)⟩) HQx.out rfl rfl rfl (grn_setU wr gb (j * 6 + 4) (.string nu)) (.inr rfl) hfp
                                have hgbl := HLx2.out _ (List.mem_of_getElem? HQx.out) gb (.inr rfl)
                                have hMg := (hfx.body.lt gb rfl).1
                                have hlow := HUx.out.low.1
                                have HUn9 := Lib.hid hup
                                have HBn9 := Lib.hid (HBx.out.setCell (p := ⟨gb, j * 6 + 4, none⟩) (Nat.le_trans hlow hMg) (.string nu))
                                have HXn9 := Lib.hid ((Below.heap_setCell wr ⟨gb, j * 6 + 4, none⟩ (.string nu) w6.heap.size (show w6.heap.size ≠ gb by omega)).trans HXx.out)
                                have HLn9 := Lib.hid (show ∀ q ∈ Qx.set k (⟨x.at_, x.name, x.type, renPs i nu 0 x.params, midT (renT i nu R0.out x.body) x.body (j + 1)⟩, .slice apx x.params.length cpx, .slice (some ⟨gb, 0, none⟩) x.body.length cbx), ∀ c, BlkU q c → c < w6.heap.size from fun q hq c hc => by
                                  rcases List.mem_or_eq_of_mem_set hq with hq | rfl
                                  · exact HLx2.out q hq c hc
                                  · exact HLx2.out _ (List.mem_of_getElem? HQx.out) c hc)
                                have HQn9 := Lib.hid (show (Qx.set k (⟨x.at_, x.name, x.type, renPs i nu 0 x.params, midT (renT i nu R0.out x.body) x.body (j + 1)⟩, .slice apx x.params.length cpx, .slice (some ⟨gb, 0, none⟩) x.body.length cbx))[k]? = some (⟨x.at_, x.name, x.type, renPs i nu 0 x.params, midT (renT i nu R0.out x.body) x.body (j + 1)⟩, .slice apx x.params.length cpx, .slice (some ⟨gb, 0, none⟩) x.body.length cbx) from List.getElem?_set_self hkx)
                                clear hfx hml hjl' hpc hpf hps hmj hmj2 hyk hrn hfp hset hup hgbl hMg hlow hren hTj hTo
                                go_wp2_with fail
                                go_roundg (x.body.length - (j + 1))
                                case measure => omega
                                case rel => exact ⟨j + 1, _, by omega, by omega, by rw [Int.natCast_add]; rfl, HUn9, HBn9, HXn9, HLn9, HQn9⟩
                              · have hsm : midT (renT i nu R0.out x.body) x.body (j + 1) = midT (renT i nu R0.out x.body) x.body j := midT_same HRl.out (by
                                  rw [hTj, hTo]
                                  unfold renNd
                                  rw [if_neg hren]) hjl
                                have HSm := Lib.hid hsm
                                have hcs : (yk == 3) = false ∨ (yk = 3 ∧ (yi == (i : Int)) = false) := by
                                  by_cases c1 : yk = 3
                                  · refine .inr ⟨c1, beq_eq_false_iff_ne.2 fun c2 => hren ?_⟩
                                    unfold renB
                                    simp [c1, c2]
                                  · exact .inl (beq_eq_false_iff_ne.2 c1)
                                clear hsm hren hTj hTo
                                rcases hcs with t5 | ⟨rfl, t5⟩
                                · go_wp2_with fail
                                  go_roundg (x.body.length - (j + 1))
                                  case measure => omega
                                  case rel => exact ⟨j + 1, Qx, by omega, by omega, by rw [Int.natCast_add]; rfl, Lib.hid (by rw [HSm.out]; exact HUx.out), HBx, HXx, HLx2, Lib.hid (by rw [HSm.out]; exact HQx.out)⟩
                                · go_wp2_with fail
                                  go_roundg (x.body.length - (j + 1))
                                  case measure => omega
                                  case rel => exact ⟨j + 1, Qx, by omega, by omega, by rw [Int.natCast_add]; rfl, Lib.hid (by rw [HSm.out]; exact HUx.out), HBx, HXx, HLx2, Lib.hid (by rw [HSm.out]; exact HQx.out)⟩
                            · obtain rfl : j = x.body.length := by omega
                              have hfe : (⟨x.at_, x.name, x.type, renPs i nu 0 x.params, midT (renT i nu R0.out x.body) x.body x.body.length⟩ : FnU) = renF i nu R0.out x := by rw [midT_end HRl.out]; rfl
                              have hue := HUx.out
                              rw [hfe, HEnd.out] at hue
                              have HUe := Lib.hid hue
                              clear hfe hue
                              clear hjl hqx
                              go_wp2_with fail
                              go_roundg (u.funcs.length - (k + 1))
                              case measure => omega
                              case rel => exact ⟨k + 1, Qx, by omega, by omega, by rw [Int.natCast_add]; rfl, HUe, HBx, HXx, HLx2, Lib.hid (fun _ => HCl.out)⟩
                          -- ENDLOOPB
            · have hcmp : (x.name.toList == n.toList) = false := by rw [str_eqb, decide_eq_false hnm]
              have HSm := Lib.hid (midF_same g HLx.out (by rw [HG.out]; unfold renG; rw [if_neg (fun h => hnm h.1)]))
              have HCm := Lib.hid (show (∃ y ∈ u.funcs.take (k + 1), y.name = n ∧ y.body ≠ []) → Clear nu f from fun ⟨y, hy, h1, h2⟩ => by
                rw [List.take_add_one, HLx.out] at hy
                rcases List.mem_append.1 hy with hy | hy
                · exact HCk.out ⟨y, hy, h1, h2⟩
                · rw [show y = x by simpa using hy] at h1
                  exact absurd h1 hnm)
              clear hnm
              go_wp2_with fail
              go_roundg (u.funcs.length - (k + 1))
              case measure => omega
              case rel => exact ⟨k + 1, Q, by omega, by omega, by rw [Int.natCast_add]; rfl, Lib.hid (by rw [HSm.out]; exact HUk.out), HBk, HXk, HLk, HCm⟩
          · obtain rfl : k = u.funcs.length := by omega
            have hUk := HUk.out
            rw [midF_end, HG.out] at hUk
            have HUr := Lib.hid (show IsUn wo.heap.size wo (renU n i nu R0.out u) _ _ _ from hUk.is)
            have hcl : Clear nu f := HCk.out ⟨f, by rw [List.take_length]; exact HMe.out.1, HMe.out.2⟩
            obtain ⟨R, hR, hRR⟩ := HRm.out hcl
            have HRR := Lib.hid hRR
            have hB15 := HB5.out.trans (HBk.out.mono HB5.out.size)
            have HB15 := Lib.hid hB15
            have HRs2 := Lib.hid (show Calls Tryd.prog 7 #[.agg #[.slice sa' u.structs.length sc', .slice ag' u.globals.length cg', .slice af' u.funcs.length cf'], .string n] wo (fun e w'' => Below wo.heap.size wo w'' ∧ ∃ sv ov, e = .returned (.tuple #[sv, ov, .agg #[.int .i64 R0.fault.1, .int .i64 0]]) ∧ w''.ownsRow wo.heap.size 53 4 sv R0.slots.length (R.slots.flatMap slUCells) ∧ w''.ownsRow wo.heap.size 50 3 ov R0.out.length (R0.out.flatMap bndCells)) from (resolve11_ok (renU n i nu R0.out u) _ _ _ n wo (HEw.out wo hB15) HUr.out hn).mono fun e w'' ⟨h1, h2⟩ => ⟨h1, by rw [hR] at h2; simp only [hRR.fault, hRR.out, hRR.len, HF0.out] at h2; exact h2⟩)
            have hyo := (HBk.out.block _ (lt_of_heap HY5.out)).trans HY5.out
            have HYo := Lib.hid hyo
            have hne3 : ((R0.slots.length : Int) != (R0.slots.length : Int)) = false := by simp
            clear hUk hcl hR hRR hB15 hlt hyo
            go_upto_region 33 with (go_at_call 7; (with_reducible refine HRs2.out.mono ?_); rintro e w9 ⟨hb9, sv, ov, rfl, hsv, hov⟩; obtain ⟨sva9, svc9, rfl⟩ := own_slice hsv; obtain ⟨ova9, ovc9, rfl⟩ := own_slice hov; have HSv9 := Lib.hid hsv; have HOv9 := Lib.hid hov; have HB9 := Lib.hid hb9; have HY9 := Lib.hid ((hb9.block _ (lt_of_heap HYo.out)).trans HYo.out); obtain ⟨_, yf⟩ := two_block HY9.out; have yf0 := yf 0; have yf1 := yf 1; clear hb9 hsv hov yf)
            have hbk := two_setK HY9.out (.int .i64 R0.fault.1) (.int .i64 0)
            have hw39 : w3.heap.size < wo.heap.size := lt_of_heap HYo.out
            have hmv : ∀ b, wo.heap.size ≤ b → ((w9.setCell ⟨w3.heap.size, 0, none⟩ (.int .i64 R0.fault.1)).setCell ⟨w3.heap.size, 1, none⟩ (.int .i64 0)).heap[b]? = w9.heap[b]? := fun b hb => by
              have hne : b ≠ w3.heap.size := by omega
              rw [Below.heap_setCell _ _ _ _ hne, Below.heap_setCell _ _ _ _ hne]
            have hs9 := own_move HSv9.out (Nat.le_refl _) hmv
            have ho9 := own_move HOv9.out (Nat.le_refl _) hmv
            have hb39 : Below w3.heap.size w3 ((w9.setCell ⟨w3.heap.size, 0, none⟩ (.int .i64 R0.fault.1)).setCell ⟨w3.heap.size, 1, none⟩ (.int .i64 0)) := (((HZ5.out.trans (HBk.out.mono HZ5.out.size)).trans (HB9.out.mono (HZ5.out.trans (HBk.out.mono HZ5.out.size)).size)).setCell (p := ⟨w3.heap.size, 0, none⟩) (Nat.le_refl _) _).setCell (p := ⟨w3.heap.size, 1, none⟩) (Nat.le_refl _) _
            generalize (w9.setCell ⟨w3.heap.size, 0, none⟩ (.int .i64 R0.fault.1)).setCell ⟨w3.heap.size, 1, none⟩ (.int .i64 0) = W at *
            obtain ⟨⟨v0, v1⟩, _⟩ := two_block hbk
            have HS9 := Lib.hid hs9
            have HO9 := Lib.hid ho9
            have HB39 := Lib.hid hb39
            obtain ⟨oa1, oc1, oe1, _, _, os1, _⟩ := own_slU bnd_len (HOv.out.belowed hb39) rfl
            obtain ⟨oa2, oc2, oe2, _, _, os2, _⟩ := own_slU bnd_len ho9 rfl
            obtain ⟨rfl, rfl⟩ : ova = oa1 ∧ ovc = oc1 := by simpa using oe1
            obtain ⟨rfl, rfl⟩ : ova9 = oa2 ∧ ovc9 = oc2 := by simpa using oe2
            have HBd := Lib.hid (bindings11_ok ova ova9 ovc ovc9 R0.out W (os1.sl (fun b h => h.2.2)) (os2.sl (fun b h => h.2.2)) (by rw [HCt.out.out]; exact HCt.out.few.1))
            clear hbk hmv hs9 ho9 hb39 os1 os2 oe1 oe2 yf0 yf1 x0 x1 x2 hw39
            go_wp2_with fail
            go_upto_region 36 with (go_at_call 10; (with_reducible refine HBd.out.mono ?_); rintro e w10 ⟨rfl, hb10⟩; have HB10 := Lib.hid hb10; clear hb10)
            have HSo := Lib.hid (HSv.out.belowed (HB39.out.trans (HB10.out.mono HB39.out.size)))
            have HSn := Lib.hid (HS9.out.belowed HB10.out)
            have HFin := Lib.hid (show Below w.heap.size w w10 from HB1.out.trans ((HB3.out.trans ((HB39.out.trans (HB10.out.mono HB39.out.size)).mono HB3.out.size)).mono HB1.out.size))
            have hslI : (R0.slots.length : Int) ≤ 4200 := by omega
            have HRl2 := Lib.hid HRR.out.len
            clear v0 v1 hne3
            go_loopg [20] R0.slots.length (fun m v20 wy => ∃ j : Nat, j ≤ R0.slots.length ∧ j + m = R0.slots.length ∧ v20 = .int .i64 (j : Int) ∧ Hid (Below w10.heap.size w10 wy))
            case atStart => exact ⟨0, by omega, by omega, rfl, Lib.hid (Below.refl _ _)⟩
            case round =>
              obtain ⟨j, hj, hjm, rfl, HK⟩ := hrel
              by_cases hjl : j < R0.slots.length
              · have hjl2 : j < R.slots.length := by rw [HRl2.out]; exact hjl
                obtain ⟨gs, c1, hs1, _, hgs1, _, _, hc1, _⟩ := own_rowAt slU_len HSo.out rfl hjl
                obtain ⟨rfl, rfl⟩ : sva = some ⟨gs, 0, none⟩ ∧ svc = c1 := by simpa using hs1
                obtain ⟨gn, c2, hs2, _, hgs2, _, _, hc2, _⟩ := own_rowAt slU_len HSn.out HRl2.out.symm hjl2
                obtain ⟨rfl, rfl⟩ : sva9 = some ⟨gn, 0, none⟩ ∧ svc9 = c2 := by simpa using hs2
                have s0 := hc1 0 _ rfl
                have s1 := hc1 1 _ rfl
                have s2 := hc1 2 _ rfl
                have s3 := hc1 3 _ rfl
                have r0 := hc2 0 _ rfl
                have r1 := hc2 1 _ rfl
                have r2 := hc2 2 _ rfl
                have r3 := hc2 3 _ rfl
                have HKm := Lib.hid (fun w' (h : Below wr.heap.size wr w') => HK.out.trans (h.mono HK.out.size))
                rw [← HK.out.cell hgs1] at s0 s1 s2 s3
                rw [Nat.add_zero] at s0 r0
                have hrs : R.slots[j] = if j = i then renSl nu R0.slots[j] else R0.slots[j] := by
                  have h := HRR.out.slots j
                  rw [List.getElem?_eq_getElem hjl2, List.getElem?_eq_getElem hjl] at h
                  exact Option.some.inj h
                rw [hrs] at r0 r1 r2 r3
                generalize R0.slots[j] = y at *
                obtain ⟨yn, yt, yv, yp⟩ := y
                simp only at s0 s1 s2 s3
                have hx8 := heap_alloc_new wr (.cells #[.string yn, .string yt, .bool yv, .bool yp] 53)
                have hb8 := ba1 wr (.cells #[.string yn, .string yt, .bool yv, .bool yp] 53)
                have hgn2 : gn < wr.heap.size := Nat.lt_of_lt_of_le hgs2 HK.out.size
                rw [← HK.out.cell hgs2, ← hb8.cell hgn2] at r0 r1 r2 r3
                have hj0 : (0 : Int) ≤ (j : Int) := by omega
                have hj1 : (j : Int) < (R0.slots.length : Int) := by omega
                have t2 : ∀ z : List UInt8, (z == z) = true := by simp
                have t3 : ∀ z : Bool, (z == z) = true := by simp
                clear hs1 hs2 hc1 hc2 hrs hgs2
                go_upto_region 39 with fail
                obtain ⟨⟨x0, x1, x2, x3⟩, xf⟩ := four_blockH hx8
                have HB8 := Lib.hid hb8
                have hwl : wr.heap.size < (wr.alloc (.cells #[.string yn, .string yt, .bool yv, .bool yp] 53)).heap.size := lt_of_heap hx8
                clear s0 s1 s2 s3
                generalize wr.alloc (.cells #[.string yn, .string yt, .bool yv, .bool yp] 53) = w8 at *
                by_cases hji : j = i
                · have t1 : ((j : Int) == (i : Int)) = true := by rw [hji]; simp
                  rw [if_pos hji] at r0 r1 r2 r3
                  simp only [renSl] at r0 r1 r2 r3
                  have xf0 := xf 0
                  have hx9 := four_setH hx8 (.string nu)
                  obtain ⟨⟨k0, k1, k2, k3⟩, _⟩ := four_blockH hx9
                  have hne : ∀ o, (w8.setCell ⟨wr.heap.size, 0, none⟩ (.string nu)).cell? ⟨gn, o, none⟩ = w8.cell? ⟨gn, o, none⟩ := fun o => cell_sameU (Below.heap_setCell _ _ _ _ (show gn ≠ wr.heap.size by omega)) o
                  have HW9 := Lib.hid (HKm.out _ (HB8.out.setCell (p := ⟨wr.heap.size, 0, none⟩) (Nat.le_refl _) (.string nu)))
                  rw [← hne] at r0 r1 r2 r3
                  clear hx8 hx9 hb8 hji xf x1 x2 x3 hne
                  go_upto_region 41 with fail
                  clear x0 xf0
                  generalize w8.setCell ⟨wr.heap.size, 0, none⟩ (.string nu) = w9' at *
                  go_quiet (fail)
                  go_wp2_with fail
                  go_roundg (R0.slots.length - (j + 1))
                  case measure => omega
                  case rel => exact ⟨j + 1, by omega, by omega, by rw [Int.natCast_add]; rfl, Lib.hid (blw_drewN HW9.out _)⟩
                · have t1 : ((j : Int) == (i : Int)) = false := beq_eq_false_iff_ne.2 (by omega)
                  rw [if_neg hji] at r0 r1 r2 r3
                  simp only at r0 r1 r2 r3
                  have HW9 := Lib.hid (HKm.out _ HB8.out)
                  clear hx8 hb8 hji xf
                  go_upto_region 41 with fail
                  go_quiet (fail)
                  go_wp2_with fail
                  go_roundg (R0.slots.length - (j + 1))
                  case measure => omega
                  case rel => exact ⟨j + 1, by omega, by omega, by rw [Int.natCast_add]; rfl, Lib.hid (blw_drewN HW9.out _)⟩
              · obtain rfl : j = R0.slots.length := by omega
                go_wp2_with fail
                go_ret
                exact ⟨rfl, HFin.out.trans (HK.out.mono HFin.out.size)⟩
end Go.Proofs.YtbbaooeioogijaaDoor

