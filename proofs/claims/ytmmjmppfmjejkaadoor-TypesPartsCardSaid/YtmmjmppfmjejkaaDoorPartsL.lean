/- A function's type, put together: the reference. · What a type is taken apart into, and put together of: the statement's walk. · An argument that is a list of types, opened, with its reading. -/
import Derived.Test.YtmmjmppfmjejkaaDoorRefM
import Derived.Test.YtmmjmppfmjejkaaDoorApart
import Derived.Test.YtmmjmppfmjejkaaDoorFuncM
import Derived.Test.YtmmjmppfmjejkaaDoorWorks
import Derived.SliceStrings
import Derived.ProofKit
namespace Go.Proofs.YtmmjmppfmjejkaaDoor
open Go.RowKit

/-- parameters so far, with commas between -/
def accB (xs : List ByteArray) : ByteArray := ⟨(Lib.join (xs.map (·.data.toList)) (⟨#[44]⟩ : ByteArray).data.toList).toArray⟩
theorem accB_nil : accB [] = ⟨#[]⟩ := rfl
theorem accB_one (x : ByteArray) : accB [x] = x := toList_eq (by simp [accB, Lib.join_one])
theorem accB_snoc {xs : List ByteArray} (h : xs ≠ []) (x : ByteArray) : accB (xs ++ [x]) = accB xs ++ ⟨#[44]⟩ ++ x := by
  obtain ⟨y, l, rfl⟩ := List.exists_cons_of_ne_nil h
  refine toList_eq ?_
  have h1 : ∀ (m : List (List UInt8)) (z : List UInt8), Lib.joinTail [44] (m ++ [z]) = Lib.joinTail [44] m ++ 44 :: z := fun m z => by
    induction m with
    | nil => simp [Lib.joinTail]
    | cons u m ih => simp [Lib.joinTail] at ih ⊢
  unfold accB
  rw [List.cons_append, List.map_cons, List.map_cons, List.map_append, Lib.join_cons, Lib.join_cons]
  have h2 := h1 (l.map (·.data.toList)) x.data.toList
  simp only [List.map_cons, List.map_nil, h2]
  simp
theorem acc_size {xs : List ByteArray} (h : ∀ x ∈ xs, x.size ≤ 65536) (h8 : xs.length ≤ 8) : (accB xs).size ≤ 600000 := by
  have := join_le h h8
  simpa [accB, ByteArray.size] using this
theorem funcO_acc (r : ByteArray) (xs : List ByteArray) : funcO r xs = ⟨#[102, 40]⟩ ++ accB xs ++ ⟨#[41]⟩ ++ r := rfl
/-- all being types, what is put together is one, unless it is too long -/
theorem funcO_form {r : ByteArray} {xs : List ByteArray} (hr : (tyS r).isSome = true) (hb : badL xs = false) : (tyS (funcO r xs)).isSome = decide ((funcO r xs).size ≤ 65536) := by
  obtain ⟨T, hT⟩ := Option.isSome_iff_exists.1 hr
  obtain ⟨ps, rfl, hps⟩ := all_types hb
  obtain ⟨rfl, hrT, _⟩ := tyS_some.1 hT
  have e : funcO (tyB T) (ps.map tyB) = tyB (.fn ps T) := tyB_eq (by
    have h1 : (ps.map tyB).map (·.data.toList) = ps.map code := by
      rw [List.map_map]
      exact List.map_congr_left fun p _ => tyB_list p
    unfold funcO
    rw [code, codes_join, h1]
    simp [tyB_list])
  rw [e]
  by_cases h : (tyB (.fn ps T)).size ≤ 65536
  · have h3 : tyS (tyB (.fn ps T)) = some (.fn ps T) := tyS_some.2 ⟨rfl, ⟨hps, hrT⟩, by rw [← tyB_size]; exact h⟩
    rw [decide_eq_true h, h3]; rfl
  · rw [decide_eq_false h]; unfold tyS; rw [if_neg h]; rfl

set_option maxRecDepth 100000 in
set_option maxHeartbeats 8000000 in
theorem refFunc_ok (r : ByteArray) (xs : List ByteArray) (a : Option Addr) (cap : Nat) (w : World) (h : IsTys w.heap.size w a xs) (hl : (xs.length : Int) ≤ 9223372036854775807) :
    Calls Tryd.prog 19 #[.string r, .slice a xs.length cap] w fun e w' => e = .returned (.tuple #[.string (funcR r xs).1, .int .i64 (funcR r xs).2]) ∧ Below w.heap.size w w' := by
  have HI := Lib.hid h
  rcases hr : (tyS r).isSome with _ | _
  · have HF := Lib.hid (refForm_is false r w hr)
    have hfin := Lib.hid (show funcR r xs = (⟨#[]⟩, 2) by unfold funcR; rw [if_pos (.inl hr)])
    clear hr h
    go_enter Tryd.func19, Tryd.ntmps19
    go_wp2_with (go_at_call 28; (with_reducible refine HF.out.mono ?_); rintro e w1 ⟨rfl, hb1⟩; have HB1 := Lib.hid hb1; clear hb1)
    go_ret2
    exact ⟨by rw [hfin.out]; rfl, HB1.out⟩
  have HF := Lib.hid (refForm_is true r w hr)
  have HRr := Lib.hid hr
  have hr6 : (r.size : Int) ≤ 65536 := by
    obtain ⟨t, ht⟩ := Option.isSome_iff_exists.1 hr
    obtain ⟨rfl, _, hl⟩ := tyS_some.1 ht
    rw [tyB_size]; omega
  clear hr h
  go_enter Tryd.func19, Tryd.ntmps19
  go_wp2_with (go_at_call 28; (with_reducible refine HF.out.mono ?_); rintro e w1 ⟨rfl, hb1⟩; have HB1 := Lib.hid hb1; clear hb1)
  go_loopg [7] xs.length (fun g v7 wy => ∃ j : Nat, j ≤ xs.length ∧ j + g = xs.length ∧ v7 = .int .i64 (j : Int) ∧ Hid (∀ i (hi : i < xs.length), i < j → (tyS xs[i]).isSome = true) ∧ Hid (Below w.heap.size w wy))
  case atStart => exact ⟨0, by omega, by omega, rfl, fun _ _ h => by omega, HB1.out⟩
  case round =>
    obtain ⟨j, hj, hjg, rfl, hno, HB⟩ := hrel
    by_cases hlt : j < xs.length
    · obtain ⟨bb, off, ha, hbl, hrow⟩ := HI.out.at_ (fun e => by rw [e] at hlt; simp at hlt)
      subst ha
      have e1 := hrow j _ (List.getElem?_eq_getElem hlt)
      rw [← HB.out.cell hbl] at e1
      rcases hx : (tyS xs[j]).isSome with _ | _
      · have HC := Lib.hid fun w2 => refForm_is false xs[j] w2 hx
        have hbd : badL xs = true := by
          unfold badL
          rw [List.any_eq_true]
          exact ⟨xs[j], List.getElem_mem hlt, by rw [hx]; rfl⟩
        have hfin := Lib.hid (show funcR r xs = (⟨#[]⟩, 2) by
          unfold funcR; rw [if_pos (.inr hbd)])
        clear hbd
        clear hx hrow hno
        generalize xs[j]'hlt = mt at *
        go_wp2_with (go_at_call 28; (with_reducible refine (HC.out _).mono ?_); rintro e w2 ⟨rfl, hb2⟩; have HB2 := Lib.hid (HB.out.trans (hb2.mono HB.out.size)); clear hb2)
        go_ret2
        exact ⟨by rw [hfin.out]; rfl, HB2.out⟩
      · have HC := Lib.hid fun w2 => refForm_is true xs[j] w2 hx
        have HN := Lib.hid (show ∀ i (hi : i < xs.length), i < j + 1 → (tyS xs[i]).isSome = true from fun i hi hij => by
          rcases Nat.lt_or_ge i j with h' | h'
          · exact hno.out i hi h'
          · obtain rfl : i = j := by omega
            exact hx)
        clear hx hrow hno
        generalize xs[j]'hlt = mt at *
        go_wp2_with (go_at_call 28; (with_reducible refine (HC.out _).mono ?_); rintro e w2 ⟨rfl, hb2⟩; have HB2 := Lib.hid (HB.out.trans (hb2.mono HB.out.size)); clear hb2)
        go_roundg (xs.length - (j + 1))
        case measure => omega
        case rel => exact ⟨j + 1, by omega, by omega, by rw [Int.natCast_add]; rfl, HN.out, HB2.out⟩
    · obtain rfl : j = xs.length := by omega
      have hbd : badL xs = false := by
        unfold badL
        rw [List.any_eq_false]
        intro x hx
        obtain ⟨i, hi, rfl⟩ := List.getElem_of_mem hx
        simp [hno.out i hi hi]
      have hR := Lib.hid (show funcR r xs = if 8 < xs.length then (⟨#[]⟩, 3) else if 65536 < (funcO r xs).size then (⟨#[]⟩, 3) else (funcO r xs, 0) by
        unfold funcR
        rw [if_neg (by rw [HRr.out, hbd]; simp)])
      have t3 : (xs.length : Int) ≤ (xs.length : Int) := Int.le_refl _
      clear hno
      by_cases h8 : 8 < xs.length
      · have hfin := Lib.hid (hR.out.trans (if_pos h8))
        have t1 : (8 : Int) < xs.length := by omega
        clear hbd h8
        go_wp2_with fail
        go_ret2
        exact ⟨by rw [hfin.out]; rfl, HB.out⟩
      have t1 : (xs.length : Int) ≤ 8 := by omega
      have HR := Lib.hid (hR.out.trans (if_neg h8))
      have HZ := Lib.hid (bad_sizes hbd)
      have HO := Lib.hid (funcO_form HRr.out hbd)
      clear hbd h8
      go_wp2_with fail
      go_loopg [6, 8] xs.length (fun g v6 v8 wy => ∃ (j : Nat) (y : ByteArray), j ≤ xs.length ∧ j + g = xs.length ∧ v8 = .int .i64 (j : Int) ∧ v6 = .string y ∧ Hid (y = ⟨#[102, 40]⟩ ++ accB (xs.take j)) ∧ (y.size : Int) ≤ 600002 ∧ Hid (Below w.heap.size w wy))
      case atStart => exact ⟨0, ⟨#[102, 40]⟩, by omega, by omega, rfl, rfl, rfl, by decide, HB.out⟩
      case round =>
        obtain ⟨j, y, hj, hjg, rfl, rfl, hy, hys, HB2⟩ := hrel
        by_cases hlt : j < xs.length
        · obtain ⟨bb, off, ha, hbl, hrow⟩ := HI.out.at_ (fun e => by rw [e] at hlt; simp at hlt)
          subst ha
          have e1 := hrow j _ (List.getElem?_eq_getElem hlt)
          rw [← HB2.out.cell hbl] at e1
          have hx := take_at' xs j hlt
          have hxs : xs[j].size ≤ 65536 := HZ.out _ (List.getElem_mem hlt)
          have hsz : (accB (xs.take (j + 1))).size ≤ 600000 := acc_size (fun x hx => HZ.out x (List.mem_of_mem_take hx)) (by rw [List.length_take]; omega)
          generalize xs[j]'hlt = x at *
          have hxs' : (x.size : Int) ≤ 65536 := by omega
          by_cases hj0 : j = 0
          · subst hj0
            have t5 : decide (0 < 0) = false := by decide
            have HY := Lib.hid (show y ++ x = ⟨#[102, 40]⟩ ++ accB (xs.take (0 + 1)) by
              rw [hy.out, hx, List.take_zero, List.nil_append, accB_one]
              refine toList_eq ?_
              simp [accB_nil])
            have HS := Lib.hid (show ((y ++ x).size : Int) ≤ 600002 by
              rw [HY.out, ByteArray.size_append]
              have : (⟨#[102, 40]⟩ : ByteArray).size = 2 := rfl
              omega)
            clear hrow hx hsz hxs
            rw [Nat.add_zero] at e1
            go_wp2_with fail
            go_roundg (xs.length - 1)
            case measure => omega
            case rel => exact ⟨1, _, by omega, by omega, rfl, rfl, HY.out, HS.out, HB2.out⟩
          · have t5 : decide (0 < j) = true := by simp; omega
            have hne : xs.take j ≠ [] := fun e => by
              have := congrArg List.length e
              rw [List.length_take, Nat.min_eq_left (by omega)] at this
              exact hj0 this
            have HY := Lib.hid (show y ++ ⟨#[44]⟩ ++ x = ⟨#[102, 40]⟩ ++ accB (xs.take (j + 1)) by
              rw [hy.out, hx, accB_snoc hne]
              refine toList_eq ?_
              simp)
            have HS := Lib.hid (show ((y ++ ⟨#[44]⟩ ++ x).size : Int) ≤ 600002 by
              rw [HY.out, ByteArray.size_append]
              have : (⟨#[102, 40]⟩ : ByteArray).size = 2 := rfl
              omega)
            clear hrow hx hsz hxs hj0 hne
            go_wp2_with fail
            go_roundg (xs.length - (j + 1))
            case measure => omega
            case rel => exact ⟨j + 1, _, by omega, by omega, by rw [Int.natCast_add]; rfl, rfl, HY.out, HS.out, HB2.out⟩
        · obtain rfl : j = xs.length := by omega
          have hyo : y ++ ⟨#[41]⟩ ++ r = funcO r xs := by rw [hy.out, List.take_length, funcO_acc]
          have hO := HO.out
          have hR2 := HR.out
          rw [← hyo] at hO hR2
          have hos : (y ++ ⟨#[41]⟩ ++ r).size = y.size + 1 + r.size := by simp [ByteArray.size_append]; rfl
          by_cases hbig : 65536 < (y ++ ⟨#[41]⟩ ++ r).size
          · have hfin := Lib.hid (hR2.trans (if_pos hbig))
            rw [decide_eq_false (by omega)] at hO
            have HC := Lib.hid fun w2 => refForm_is false _ w2 hO
            clear hyo hO hR2 hos hbig
            go_wp2_with (go_at_call 28; (with_reducible refine (HC.out _).mono ?_); rintro e w2 ⟨rfl, hb2⟩; have HB3 := Lib.hid (HB2.out.trans (hb2.mono HB2.out.size)); clear hb2)
            go_ret2
            exact ⟨by rw [hfin.out]; rfl, HB3.out⟩
          · have hfin := Lib.hid (hR2.trans (if_neg hbig))
            rw [decide_eq_true (by omega)] at hO
            have HC := Lib.hid fun w2 => refForm_is true _ w2 hO
            clear hyo hO hR2 hos hbig
            go_wp2_with (go_at_call 28; (with_reducible refine (HC.out _).mono ?_); rintro e w2 ⟨rfl, hb2⟩; have HB3 := Lib.hid (HB2.out.trans (hb2.mono HB2.out.size)); clear hb2)
            go_ret2
            exact ⟨by rw [hfin.out]; rfl, HB3.out⟩
end Go.Proofs.YtmmjmppfmjejkaaDoor
namespace Go.Proofs.YtmmjmppfmjejkaaDoor
open Go.RowKit

/-- what Elem tells -/
def elemN : Option Ty → ByteArray × Int × Int
  | none => (⟨#[]⟩, 0, 2)
  | some (.ptr u) => (tyB u, 0, 0)
  | some (.arr n u) => (tyB u, n, 0)
  | some _ => (⟨#[]⟩, 0, 5)
theorem elemV_is (r : Option Ty) : elemV r = .tuple #[.string (elemN r).1, .int .i64 (elemN r).2.1, .int .i64 (elemN r).2.2] := by
  rcases r with _ | t
  · rfl
  · cases t <;> rfl
/-- what Sign tells -/
def signN : Option Ty → ByteArray × List ByteArray × Int
  | none => (⟨#[]⟩, [], 2)
  | some (.fn ps r) => (tyB r, ps.map tyB, 0)
  | some _ => (⟨#[]⟩, [], 5)
def SignQ (x : ByteArray) (xs : List ByteArray) (n : Int) (w : World) (e : Ending) (w' : World) : Prop := (∃ a cap, e = .returned (.tuple #[.string x, .slice a xs.length cap, .int .i64 n]) ∧ IsTys w'.heap.size w' a xs) ∧ Below w.heap.size w w'
theorem signQ_of {r : Option Ty} {w w' : World} {e : Ending} (h : SignP r w e w') : SignQ (signN r).1 (signN r).2.1 (signN r).2.2 w e w' := by
  obtain ⟨h1, h2⟩ := h
  rcases r with _ | t
  · exact ⟨⟨none, 0, h1, ⟨fun hne => absurd rfl hne⟩⟩, h2⟩
  · cases t with
    | fn ps r =>
      obtain ⟨v, he, ho⟩ := h1
      have ho' : w'.ownsRow w.heap.size 22 1 v ps.length ((ps.map tyB).map .string) := by rw [List.map_map]; exact ho
      obtain ⟨a, cap, rfl, hI⟩ := own_tys ho' (by rw [List.length_map])
      exact ⟨⟨a, cap, he, hI⟩, h2⟩
    | _ => exact ⟨⟨none, 0, h1, ⟨fun hne => absurd rfl hne⟩⟩, h2⟩
theorem signN_len (s : ByteArray) : ((signN (tyS s)).2.1.length : Int) ≤ 9223372036854775807 := by
  rcases h : tyS s with _ | t
  · decide
  · cases t with
    | fn ps r =>
      obtain ⟨_, hr, hl⟩ := tyS_some.1 h
      have h3 : ps.length ≤ (codes ps).length := rights_len hr.1
      rw [code] at hl
      simp only [List.length_cons, List.length_append] at hl
      show ((ps.map tyB).length : Int) ≤ _
      rw [List.length_map]
      omega
    | _ => exact (by decide : ((0 : Nat) : Int) ≤ 9223372036854775807)
theorem str_ne (x : ByteArray) : (x.toList != x.toList) = false := by simp
theorem tys_own {w : World} {B n : Nat} {v : Value} {xs : List ByteArray} (h : w.ownsRow B 22 1 v n (xs.map .string)) (hn : n = xs.length) : ∃ a cap, v = .slice a xs.length cap ∧ IsTys w.heap.size w a xs := own_tys h hn

theorem strs_one (xs : List ByteArray) : ∀ u ∈ xs.map Value.string, u.oneCell' = true := fun u hu => by obtain ⟨x, _, rfl⟩ := List.mem_map.1 hu; rfl
theorem tys_row {B : Nat} {w : World} {ad : Addr} {xs : List ByteArray} (h : IsTys B w (some ad) xs) : ∀ (j : Nat) u, (xs.map Value.string)[j]? = some u → w.cell? (ad.add j) = some u := by
  intro j u hu
  rw [List.getElem?_map, Option.map_eq_some_iff] at hu
  obtain ⟨x, hx, rfl⟩ := hu
  obtain ⟨b, off, ha, _, hc⟩ := h.at_ (fun e => by rw [e] at hx; simp at hx)
  obtain rfl := Option.some.inj ha
  have hadd : (⟨b, off, none⟩ : Addr).add j = ⟨b, off + j, none⟩ := by unfold Addr.add; split <;> simp_all
  rw [hadd]
  exact hc j x hx

set_option maxRecDepth 100000 in
set_option maxHeartbeats 8000000 in
theorem typesParts_ok (t : ByteArray) (xs : List ByteArray) (a : Option Addr) (cap : Nat) (w : World) (hE : TE w) (h : IsTys w.heap.size w a xs) (hz : xs.length * 16 ≤ 140737488351232) (ha : a = none → xs = [] ∧ cap = 0) :
    Calls Tryd.prog 5 #[.string t, .slice a xs.length cap] w fun e w' => e = .returned (.bool true) ∧ Below w.heap.size w w' := by
  have HE := Lib.hid hE
  have HI := Lib.hid h
  have hl : (xs.length : Int) ≤ 9223372036854775807 := by omega
  have HRow := Lib.hid fun w' (hb : Below w.heap.size w w') ad (e : a = some ad) => tys_row (e ▸ h.below hb (Nat.le_refl _))
  have HEl := Lib.hid fun w1 (h : TE w1) => show Calls Tryd.prog 13 #[.string t] w1 fun e w' => e = .returned (.tuple #[.string (elemN (tyS t)).1, .int .i64 (elemN (tyS t)).2.1, .int .i64 (elemN (tyS t)).2.2]) ∧ Below w1.heap.size w1 w' by
    rw [← elemV_is]; exact elem_ok t w1 h
  have HEr := Lib.hid fun w1 => show Calls Tryd.prog 14 #[.string t] w1 fun e w' => e = .returned (.tuple #[.string (elemN (tyS t)).1, .int .i64 (elemN (tyS t)).2.1, .int .i64 (elemN (tyS t)).2.2]) ∧ Below w1.heap.size w1 w' by
    rw [← elemV_is]; exact refElem_ok t w1
  have HSl := Lib.hid fun w1 (h : TE w1) => (sign_ok t w1 h).mono fun e w' => signQ_of
  have HSr := Lib.hid fun w1 => (refSign_ok t w1).mono fun e w' => signQ_of
  have hsl := signN_len t
  have HFl := Lib.hid fun a cap w1 (h : TE w1) (hI : IsTys w1.heap.size w1 a xs) => func_ok t xs a cap w1 h hI hl
  have HFr := Lib.hid fun a cap w1 (hI : IsTys w1.heap.size w1 a xs) => refFunc_ok t xs a cap w1 hI hl
  generalize elemN (tyS t) = en at *
  obtain ⟨x1, n1, e1⟩ := en
  generalize signN (tyS t) = sn at *
  obtain ⟨x2, ys, e2⟩ := sn
  generalize funcR t xs = fr at *
  obtain ⟨x3, e3⟩ := fr
  simp only at HEl HEr HSl HSr HFl HFr hsl
  have HSm := Lib.hid fun a b ca cb w1 (hA : IsTys w1.heap.size w1 a ys) (hB : IsTys w1.heap.size w1 b ys) => show Calls Tryd.prog 17 #[.slice a ys.length ca, .slice b ys.length cb] w1 fun e w' => e = .returned (.bool true) ∧ Below w1.heap.size w1 w' by
    have h3 := same_ok ys ys a b ca cb w1 hA hB hsl
    rw [decide_eq_true rfl] at h3
    exact h3
  have HSm2 := Lib.hid fun a b ca cb w1 (hA : IsTys w1.heap.size w1 a xs) (hB : IsTys w1.heap.size w1 b xs) => show Calls Tryd.prog 17 #[.slice a xs.length ca, .slice b xs.length cb] w1 fun e w' => e = .returned (.bool true) ∧ Below w1.heap.size w1 w' by
    have h3 := same_ok xs xs a b ca cb w1 hA hB hl
    rw [decide_eq_true rfl] at h3
    exact h3
  have q1 := str_ne x1
  have q2 := str_ne x2
  have q3 : (x3.toList == x3.toList) = true := by simp
  have HA := Lib.hid ha
  obtain ⟨i0, hi, hz0, hz1, hz2⟩ := info_parts infoT
  have HIi := Lib.hid (And.intro hi (And.intro hz0 (And.intro hz1 hz2)))
  clear hE h ha hi hz0 hz1 hz2 hsl
  go_enter Tryd.func5, Tryd.ntmps5
  go_upto_region 1 with fail
  go_cut [5] (fun v wx => ∃ a' cap', v = .slice a' xs.length cap' ∧ Hid (IsTys wx.heap.size wx a' xs) ∧ Hid (Below w.heap.size w wx))
  case first =>
    cases a with
    | none =>
      obtain ⟨rfl, rfl⟩ := HA.out rfl
      go_wp2_with (at_builtin; refine wpList_append_own_none _ rfl _ _ 33 rfl w.heap.size 22 i0 1 Tryd.underlying33 HIi.out.1 _ 0 [] rfl (World.ownsRow_made _ #[] 0 (Nat.le_refl _) (by decide) (by simp)) rfl ?_)
      go_meet
      exact ⟨_, _, rfl, ⟨fun hne => absurd rfl hne⟩, (Below.refl _ _).alloc (Nat.le_refl _) _⟩
    | some ad =>
      go_wp2_with (at_builtin; refine wpList_append_own _ rfl _ _ 33 rfl w.heap.size 22 i0 (.string ⟨#[]⟩) 1 16 Tryd.underlying33 HIi.out.1 HIi.out.2.1 HIi.out.2.2.1 HIi.out.2.2.2 rfl (by decide) _ 0 [] rfl (World.ownsRow_made _ #[] 0 (Nat.le_refl _) (by decide) (by simp)) ad xs.length cap (xs.map .string) rfl ?c0 ?c1 ?c2 ?c3 ?c4 ?c5 ?_)
      case c0 => simp
      case c1 => exact HRow.out _ ((Below.refl _ _).alloc (Nat.le_refl _) _) ad rfl
      case c2 => exact strs_one xs
      case c3 => unfold maxLen; omega
      case c4 => omega
      case c5 => simp
      intro v1 w1 hown1 hgrow1 _
      have hb1 : Below w.heap.size w w1 := ((Below.refl _ _).alloc (Nat.le_refl _) (.cells #[] 22)).grown hgrow1 (by simp) (fun q hq => by simp [Value.ownBlock] at hq; omega)
      obtain ⟨a1, c1, rfl, hI1⟩ := tys_own (xs := xs) (by simpa using hown1) rfl
      have HB1 := Lib.hid hb1
      have HI1 := Lib.hid hI1
      clear hb1 hI1 hown1 hgrow1
      go_wp2_with fail
      go_meet
      exact ⟨_, _, rfl, HI1, HB1⟩
  case rest =>
    obtain ⟨a', cap', rfl, HI1, HB1⟩ := hcut
    have hEl := HEl.out _ (HE.out.below HB1.out)
    have H1 := Lib.hid hEl
    clear hEl
    go_wp2_with (go_at_call 13; (with_reducible refine H1.out.mono ?_); rintro e w2 ⟨rfl, hb⟩; have HB2 := Lib.hid (HB1.out.trans (hb.mono HB1.out.size)); have HI2 := Lib.hid ((HI1.out.below hb (Nat.le_refl _)).mono hb.size); have H2 := Lib.hid (HEr.out w2); clear hb)
    go_wp2_with (go_at_call 14; (with_reducible refine H2.out.mono ?_); rintro e w3 ⟨rfl, hb⟩; have HB3 := Lib.hid (HB2.out.trans (hb.mono HB2.out.size)); have HI3 := Lib.hid ((HI2.out.below hb (Nat.le_refl _)).mono hb.size); have H3 := Lib.hid (HSl.out w3 (HE.out.below HB3.out)); clear hb)
    go_wp2_with (go_at_call 15; (with_reducible refine H3.out.mono ?_); rintro e w4 ⟨⟨sa, sc, rfl, hI⟩, hb⟩; have HY4 := Lib.hid hI; have HB4 := Lib.hid (HB3.out.trans (hb.mono HB3.out.size)); have HI4 := Lib.hid ((HI3.out.below hb (Nat.le_refl _)).mono hb.size); have H4 := Lib.hid (HSr.out w4); clear hb hI)
    go_wp2_with (go_at_call 16; (with_reducible refine H4.out.mono ?_); rintro e w5 ⟨⟨ra, rc, rfl, hI⟩, hb⟩; have HB5 := Lib.hid (HB4.out.trans (hb.mono HB4.out.size)); have HI5 := Lib.hid ((HI4.out.below hb (Nat.le_refl _)).mono hb.size); have H5 := Lib.hid (HSm.out sa ra sc rc w5 ((HY4.out.below hb (Nat.le_refl _)).mono hb.size) hI); clear hb hI)
    go_wp2_with (go_at_call 17; (with_reducible refine H5.out.mono ?_); rintro e w6 ⟨rfl, hb⟩; have HB6 := Lib.hid (HB5.out.trans (hb.mono HB5.out.size)); have HI6 := Lib.hid ((HI5.out.below hb (Nat.le_refl _)).mono hb.size); have H6 := Lib.hid (HFl.out a' cap' w6 (HE.out.below HB6.out) HI6.out); clear hb)
    go_wp2_with (go_at_call 18; (with_reducible refine H6.out.mono ?_); rintro e w7 ⟨rfl, hb⟩; have HB7 := Lib.hid (HB6.out.trans (hb.mono HB6.out.size)); have HI7 := Lib.hid ((HI6.out.below hb (Nat.le_refl _)).mono hb.size); have H7 := Lib.hid (HFr.out a cap w7 ((HI.out.below HB7.out (Nat.le_refl _)).mono HB7.out.size)); clear hb)
    go_wp2_with (go_at_call 19; (with_reducible refine H7.out.mono ?_); rintro e w8 ⟨rfl, hb⟩; have HB8 := Lib.hid (HB7.out.trans (hb.mono HB7.out.size)); have HI8 := Lib.hid ((HI7.out.below hb (Nat.le_refl _)).mono hb.size); have H8 := Lib.hid (HSm2.out a' a cap' cap w8 HI8.out ((HI.out.below HB8.out (Nat.le_refl _)).mono HB8.out.size)); clear hb)
    go_wp2_with (go_at_call 17; (with_reducible refine H8.out.mono ?_); rintro e w9 ⟨rfl, hb⟩; have HB9 := Lib.hid (HB8.out.trans (hb.mono HB8.out.size)); have H9 := Lib.hid (works_ok w9 (HE.out.below HB9.out)); clear hb)
    go_wp2_with (go_at_call 7; (with_reducible refine H9.out.mono ?_); rintro e w10 ⟨rfl, hb⟩; have HB10 := Lib.hid (HB9.out.trans (hb.mono HB9.out.size)); clear hb)
    go_ret
    exact ⟨rfl, HB10.out⟩
end Go.Proofs.YtmmjmppfmjejkaaDoor
namespace Go.Proofs.YtmmjmppfmjejkaaDoor
open Go.ChangeShapes Go.WideShapes Go.ChangeAt Go.RowKit
open Go.ChangeMaps

section
variable {H : Type} {enc : TypeId × Value → H} {w : World} {base : Nat} {spare : Nat → Bool} {held : Bool}
theorem cellsTy : Tryd.prog.cellsOf 22 = 1 := by kernel_rfl
theorem open_tyl {fuel : Nat} {v : Value} {x : DataW H × List MemPlace} (h : DataW.trod enc Tryd.prog w base spare held fuel 33 [v] = some x) :
    (v = .slice none 0 0) ∨ ∃ (ad : Addr) (xs : List ByteArray) (cap : Nat) (els spr : List (DataW H)), v = .slice (some ad) xs.length cap ∧ x.1 = .slice els spr ∧ els.length = xs.length ∧ IsTys w.heap.size w (some ad) xs ∧ (xs.length : Int) ≤ 9223372036854775807 := by
  rcases open_strings Tryd.underlying33 Tryd.underlying22 cellsTy h with ⟨hv, _⟩ | ⟨a, len, cap, ss, hv, _, hl, hm, hs, hx, hc, _⟩
  · exact .inl (by simpa using hv)
  · have hlm : len ≤ ss.length := by rw [hs]; split <;> omega
    have hlen : (ss.take len).length = len := by rw [List.length_take]; omega
    have hmx : len ≤ 9223372036854775807 := by unfold maxLen at hm; omega
    refine .inr ⟨a, ss.take len, cap, _, _, by rw [hlen]; simpa using hv, by rw [hx], by simp [strs], ⟨fun hne => ?_⟩, by rw [hlen]; omega⟩
    have h0 : 0 < len := by
      rcases Nat.eq_zero_or_pos len with rfl | h
      · simp at hne
      · exact h
    obtain ⟨b, off, sp⟩ := a
    have hsp : sp = none := by
      have h := hc 0 (by omega)
      simp only [Addr.add, if_true, World.cell?] at h
      cases sp with
      | none => rfl
      | some z =>
        exfalso
        simp at h
        split at h <;> simp at h
    subst hsp
    have hcell : ∀ (i : Nat) x, (ss.take len)[i]? = some x → w.cell? ⟨b, off + i, none⟩ = some (.string x) := fun i x hx => by
      obtain ⟨hi, rfl⟩ := List.getElem?_eq_some_iff.1 hx
      rw [hlen] at hi
      have h1 := hc i (by omega)
      have hadd : (⟨b, off, none⟩ : Addr).add i = ⟨b, off + i, none⟩ := by unfold Addr.add; split <;> simp_all
      rw [hadd, List.getD_eq_getElem?_getD, List.getElem?_eq_getElem (by omega)] at h1
      rw [List.getElem_take]
      exact h1
    refine ⟨b, off, rfl, ?_, hcell⟩
    exact World.block_lt_of_cell? w _ (hcell 0 _ (List.getElem?_eq_getElem (by rw [hlen]; exact h0)))
end
end Go.Proofs.YtmmjmppfmjejkaaDoor
