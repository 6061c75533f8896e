/- What a pointer, an array, a function is made of is told by Elem and Sign: the plain laws. · What a pointer, an array, a function is made of is told by Elem and Sign: the statement's walk. -/
import Derived.Test.YtmmjmppfmjejkaaDoorFuncM
import Derived.Test.YtmmjmppfmjejkaaDoorWorks
import Derived.Deep.DeepCutAuto
import Derived.WalkKit
import Derived.WalkLawsBesides
import Derived.WalkSpells
namespace Go.Proofs.YtmmjmppfmjejkaaDoor
open Go.RowKit

/-- three digits, as the statement writes them; without the noughts ahead -/
def dig3 (m : Nat) : List UInt8 := [UInt8.ofNat (48 + m / 100), UInt8.ofNat (48 + m / 10 % 10), UInt8.ofNat (48 + m % 10)]
def trimD : List UInt8 → List UInt8
  | [] => []
  | [c] => [c]
  | c :: d :: l => if c = 48 then trimD (d :: l) else c :: d :: l
theorem dec_all : ((List.range 1000).all fun m => decide (trimD (dig3 m) = Lib.decDigits m) && decide ((Lib.decDigits m).length ≤ 3)) = true := by kernel_rfl
theorem dec_trim {m : Nat} (h : m < 1000) : trimD (dig3 m) = Lib.decDigits m := by
  have := List.all_eq_true.1 dec_all m (List.mem_range.2 h)
  rw [Bool.and_eq_true] at this
  exact of_decide_eq_true this.1
theorem dec_three {m : Nat} (h : m < 1000) : (Lib.decDigits m).length ≤ 3 := by
  have := List.all_eq_true.1 dec_all m (List.mem_range.2 h)
  rw [Bool.and_eq_true] at this
  exact of_decide_eq_true this.2
theorem apart_ptr {s : ByteArray} {T : Ty} (h : tyS s = some T) (hs : s.size < 65528) : tyS (⟨#[112]⟩ ++ s) = some (.ptr T) := by
  obtain ⟨rfl, hr, hl⟩ := tyS_some.1 h
  rw [tyB_size] at hs
  rw [tyB_ptr]
  exact tyS_some.2 ⟨rfl, hr, by rw [code]; simp; omega⟩
theorem apart_arr {s : ByteArray} {T : Ty} {m : Nat} (h : tyS s = some T) (hs : s.size < 65528) (hm : m < 1000) : tyS (⟨#[97]⟩ ++ ⟨(Lib.decDigits m).toArray⟩ ++ ⟨#[58]⟩ ++ s) = some (.arr m T) := by
  obtain ⟨rfl, hr, hl⟩ := tyS_some.1 h
  rw [tyB_size] at hs
  have e : (⟨#[97]⟩ ++ ⟨(Lib.decDigits m).toArray⟩ ++ ⟨#[58]⟩ ++ tyB T : ByteArray) = tyB (.arr m T) := tyB_eq (by
    rw [code]
    simp [tyB_list])
  have hd : (Lib.decDigits m).length ≤ 3 := dec_three hm
  rw [e]
  exact tyS_some.2 ⟨rfl, ⟨by omega, hr⟩, by rw [code]; simp; omega⟩

theorem codes_join : ∀ ps : List Ty, codes ps = Lib.join (ps.map code) [44]
  | [] => rfl
  | t :: l => by
    have h : ∀ l : List Ty, codes' l = Lib.joinTail [44] (l.map code) := fun l => by
      induction l with
      | nil => rfl
      | cons u l ih =>
        rw [codes', ih]
        simp [Lib.joinTail]
    rw [codes, List.map_cons, Lib.join_cons, h]
theorem all_types : ∀ {xs : List ByteArray}, badL xs = false → ∃ ps : List Ty, xs = ps.map tyB ∧ Rights ps
  | [], _ => ⟨[], rfl, trivial⟩
  | x :: l, h => by
    unfold badL at h
    rw [List.any_cons, Bool.or_eq_false_iff] at h
    obtain ⟨t, ht⟩ : ∃ t, tyS x = some t := by
      have := h.1
      simp only [Bool.not_eq_false', Option.isSome_iff_exists] at this
      exact this
    obtain ⟨rfl, hr, _⟩ := tyS_some.1 ht
    obtain ⟨ps, rfl, hps⟩ := all_types (xs := l) h.2
    exact ⟨t :: ps, rfl, hr, hps⟩
theorem func_yes {r x : ByteArray} {xs : List ByteArray} (h : funcR r xs = (x, 0)) : ∃ ps T, r = tyB T ∧ xs = ps.map tyB ∧ tyS x = some (.fn ps T) := by
  unfold funcR at h
  split at h
  · simp at h
  · rename_i h1
    split at h
    · simp at h
    · split at h
      · simp at h
      · rename_i h3
        simp only [Prod.mk.injEq, and_true] at h
        have hr : (tyS r).isSome = true := by
          rcases hh : (tyS r).isSome with _ | _
          · exact absurd (.inl hh) h1
          · rfl
        have hb : badL xs = false := by
          rcases hh : badL xs with _ | _
          · rfl
          · exact absurd (.inr hh) h1
        obtain ⟨T, hT⟩ := Option.isSome_iff_exists.1 hr
        obtain ⟨ps, rfl, hps⟩ := all_types hb
        obtain ⟨rfl, hrT, _⟩ := tyS_some.1 hT
        have e : funcO (tyB T) (ps.map tyB) = tyB (.fn ps T) := tyB_eq (by
          have h1 : (ps.map tyB).map (·.data.toList) = ps.map code := by
            rw [List.map_map]
            exact List.map_congr_left fun p _ => tyB_list p
          unfold funcO
          rw [code, codes_join, h1]
          simp [tyB_list])
        rw [e] at h h3
        subst h
        rw [tyB_size] at h3
        exact ⟨ps, T, rfl, rfl, tyS_some.2 ⟨rfl, ⟨hps, hrT⟩, by omega⟩⟩
theorem func_no {r : ByteArray} {xs : List ByteArray} (h : (funcR r xs).2 ≠ 0) : (funcR r xs).1 = ⟨#[]⟩ := by
  unfold funcR at *
  split
  · rfl
  · rename_i h1
    rw [if_neg h1] at h
    split
    · rfl
    · rename_i h2
      rw [if_neg h2] at h
      split
      · rfl
      · rename_i h3
        rw [if_neg h3] at h
        simp at h
theorem own_tys {w : World} {B n : Nat} {T : TypeId} {v : Value} {xs : List ByteArray} (h : w.ownsRow B T 1 v n (xs.map .string)) (hn : n = xs.length) : ∃ a cap, v = .slice a xs.length cap ∧ IsTys w.heap.size w a xs := by
  obtain ⟨a, cap, rfl, hc⟩ := strs_own h hn
  subst hn
  exact ⟨a, cap, rfl, ⟨fun hne => (by obtain ⟨g, rfl, hg, _, hcell⟩ := hc hne; exact ⟨g, 0, rfl, hg, hcell⟩)⟩⟩
end Go.Proofs.YtmmjmppfmjejkaaDoor
namespace Go.Proofs.YtmmjmppfmjejkaaDoor
open Go.RowKit

/-- 'string(b)' where b is a row whose cells are bytes. -/
theorem bytes_str (W : World) (b : Nat) (ns : List Int) (k cap : Nat) (hk : k = ns.length) (hc : ∀ j v, (ns.map (Value.int .u8))[j]? = some v → W.cell? ⟨b, j, none⟩ = some v) :
    (convert 43 9 (.slice (some ⟨b, 0, none⟩) k cap)).run Tryd.prog W = .ok (.string ⟨(ns.map fun n => UInt8.ofNat n.toNat).toArray⟩) W := by
  subst hk
  rw [run_convert_bytes_string _ 43 9 5 _ _ _ Tryd.underlying43 Tryd.underlying5 Tryd.underlying9]
  have hl := run_loadCells_list (P := Tryd.prog) W ⟨b, 0, none⟩ (ns.map (Value.int .u8)) (fun j v hj => by
    rw [addr_add]; exact hc j v hj)
  simp only [List.length_map] at hl
  rw [run_bytesToString _ _ _ _ ns hl]
  have h : ∀ (l : List Int) (r : ByteArray), l.foldl (fun r n => r.push (UInt8.ofNat n.toNat)) r = ⟨r.data ++ (l.map fun n => UInt8.ofNat n.toNat).toArray⟩ := by
    intro l
    induction l with
    | nil => intro r; simp
    | cons b l ih => intro r; rw [List.foldl_cons, ih]; simp [ByteArray.push]
  rw [h]
  have he0 : ByteArray.empty.data = #[] := rfl
  rw [he0]
  simp
theorem bytes_new (w : World) (ns : List Int) (k : Nat) (hk : k = ns.length) : (convert 43 9 (.slice (some ⟨w.heap.size, 0, none⟩) k k)).run Tryd.prog (w.alloc (.cells (ns.map (Value.int .u8)).toArray 5)) =
    .ok (.string ⟨(ns.map fun n => UInt8.ofNat n.toNat).toArray⟩) (w.alloc (.cells (ns.map (Value.int .u8)).toArray 5)) :=
  bytes_str _ _ ns k k hk (fun j v hj => by rw [World.cell?_alloc_at _ _ _ _ rfl]; simpa using hj)
theorem dig_str (m : Nat) (w : World) : (convert 43 9 (.slice (some ⟨w.heap.size, 0, none⟩) 3 3)).run Tryd.prog (w.alloc (.cells #[.int .u8 (48 + (m : Int) / 100), .int .u8 (48 + (m : Int) / 10 % 10), .int .u8 (48 + (m : Int) % 10)] 5)) =
    .ok (.string ⟨(dig3 m).toArray⟩) (w.alloc (.cells #[.int .u8 (48 + (m : Int) / 100), .int .u8 (48 + (m : Int) / 10 % 10), .int .u8 (48 + (m : Int) % 10)] 5)) := by
  have h := bytes_new w [48 + (m : Int) / 100, 48 + (m : Int) / 10 % 10, 48 + (m : Int) % 10] 3 rfl
  have e : ([48 + (m : Int) / 100, 48 + (m : Int) / 10 % 10, 48 + (m : Int) % 10].map fun n => UInt8.ofNat n.toNat) = dig3 m := by
    have e1 : (48 + (m : Int) / 100).toNat = 48 + m / 100 := by omega
    have e2 : (48 + (m : Int) / 10 % 10).toNat = 48 + m / 10 % 10 := by omega
    have e3 : (48 + (m : Int) % 10).toNat = 48 + m % 10 := by omega
    simp only [List.map_cons, List.map_nil, e1, e2, e3]
    rfl
  rw [e] at h
  exact h
theorem trim_next {c d : UInt8} {l : List UInt8} (h : c = 48) : trimD (c :: d :: l) = trimD (d :: l) := by rw [trimD, if_pos h]
theorem trim_stop {c d : UInt8} {l : List UInt8} (h : c ≠ 48) : trimD (c :: d :: l) = c :: d :: l := by rw [trimD, if_neg h]
/-- one digit less -/
theorem trim_ext {D : ByteArray} (h1 : 1 < D.size) (h0 : D[0] = 48) : trimD (D.extract 1 D.size).data.toList = trimD D.data.toList ∧ (D.extract 1 D.size).size = D.size - 1 := by
  have hl : D.data.toList.length = D.size := by rw [Array.length_toList]; rfl
  match hD : D.data.toList with
  | [] => rw [hD] at hl; simp at hl; omega
  | [c] => rw [hD] at hl; simp at hl; omega
  | c :: d :: l =>
    have hc : D[0] = c := by
      have : D.data.toList[0]'(by omega) = c := by simp only [hD, List.getElem_cons_zero]
      exact this
    rw [trim_next (hc.symm.trans h0), sfx_extract, sfx, hD]
    exact ⟨rfl, by simp⟩
theorem trim_end {D : ByteArray} (h : ¬ (1 < D.size) ∨ ∃ h0 : 0 < D.size, D[0] ≠ 48) : trimD D.data.toList = D.data.toList := by
  have hl : D.data.toList.length = D.size := by rw [Array.length_toList]; rfl
  match hD : D.data.toList with
  | [] => rfl
  | [c] => rfl
  | c :: d :: l =>
    rcases h with h | ⟨h0, hne⟩
    · rw [hD] at hl; simp at hl; omega
    · have hc : D[0] = c := by
        have : D.data.toList[0]'(by omega) = c := by simp only [hD, List.getElem_cons_zero]
        exact this
      exact trim_stop (by rw [← hc]; exact hne)
theorem thousand (n : Int) : ∃ m : Nat, m < 1000 ∧ wrap64 ((IntKind.u64.wrap n).tmod 1000) = (m : Int) := by
  have h0 : 0 ≤ IntKind.u64.wrap n := by
    simp [IntKind.wrap, IntKind.signed, IntKind.bits]
    omega
  generalize IntKind.u64.wrap n = k at *
  obtain ⟨j, rfl⟩ : ∃ j : Nat, k = j := ⟨k.toNat, by omega⟩
  refine ⟨j % 1000, Nat.mod_lt _ (by decide), ?_⟩
  have e : ((j : Int).tmod 1000) = ((j % 1000 : Nat) : Int) := by
    rw [Int.tmod_eq_emod_of_nonneg (by omega)]; rfl
  rw [e]
  exact Go.IntWalk.wrap64_in _ (by have := Nat.mod_lt j (show 0 < 1000 by decide); omega)
set_option maxRecDepth 100000 in
set_option maxHeartbeats 8000000 in
theorem typesApart_ok (t : ByteArray) (xs : List ByteArray) (a : Option Addr) (cap : Nat) (n : Int) (w : World) (hE : TE w) (h : IsTys w.heap.size w a xs) (hl : (xs.length : Int) ≤ 9223372036854775807) :
    Calls Tryd.prog 6 #[.string t, .slice a xs.length cap, .int .i64 n] w fun e w' => e = .returned (.bool true) ∧ Below w.heap.size w w' := by
  have HE := Lib.hid hE
  have HW := Lib.hid (works_ok w hE)
  have HI := Lib.hid h
  clear hE h
  go_enter Tryd.func6, Tryd.ntmps6
  go_upto_region 3 with (go_at_call 7; (with_reducible refine HW.out.mono ?_); rintro e w1 ⟨rfl, hb1⟩; have HB1 := Lib.hid hb1; clear hb1)
  go_cut [27] (fun v wx => ∃ b : Bool, v = .bool b ∧ Hid (b = true → ∃ T, tyS t = some T ∧ t.size < 65528) ∧ Hid (Below w.heap.size w wx))
  case first =>
    rcases hf : tyS t with _ | T
    · have HF := Lib.hid (form_is false t w1 (HE.out.below HB1.out) (by rw [hf]; rfl))
      clear hf
      go_wp2_with (go_at_call 20; (with_reducible refine HF.out.mono ?_); rintro e w2 ⟨rfl, hb2⟩; have HB2 := Lib.hid (HB1.out.trans (hb2.mono HB1.out.size)); clear hb2)
      go_meet
      exact ⟨false, rfl, fun e => Bool.noConfusion e, HB2.out⟩
    · have HF := Lib.hid (form_is true t w1 (HE.out.below HB1.out) (by rw [hf]; rfl))
      by_cases hs : t.size < 65528
      · have t1 : (t.size : Int) < 65528 := by omega
        have HT := Lib.hid (show ∃ T, tyS t = some T ∧ t.size < 65528 from ⟨T, hf, hs⟩)
        clear hf hs
        go_wp2_with (go_at_call 20; (with_reducible refine HF.out.mono ?_); rintro e w2 ⟨rfl, hb2⟩; have HB2 := Lib.hid (HB1.out.trans (hb2.mono HB1.out.size)); clear hb2)
        go_meet
        exact ⟨true, rfl, fun _ => HT.out, HB2.out⟩
      · have t1 : decide ((t.size : Int) < 65528) = false := by rw [decide_eq_false_iff_not]; omega
        clear hf hs
        go_wp2_with (go_at_call 20; (with_reducible refine HF.out.mono ?_); rintro e w2 ⟨rfl, hb2⟩; have HB2 := Lib.hid (HB1.out.trans (hb2.mono HB1.out.size)); clear hb2)
        go_meet
        exact ⟨false, rfl, fun e => Bool.noConfusion e, HB2.out⟩
  case rest =>
    obtain ⟨b, rfl, hb, HB⟩ := hcut
    go_upto_if 27 with fail
    go_cut [] (fun wx => Hid (Below w.heap.size w wx))
    case first =>
      cases b with
      | false =>
        go_wp2_with fail
        go_meet
        exact HB
      | true =>
        obtain ⟨T, hT, hs⟩ := hb.out rfl
        go_upto_region 5 with fail
        obtain ⟨m, hm, em⟩ := thousand n
        rw [em]
        generalize IntKind.u64.wrap n = n2 at *
        have hds := dig_str m wc
        have hds0 := dec_trim hm
        have HP := Lib.hid (apart_ptr hT hs)
        have HA := Lib.hid (apart_arr hT hs hm)
        obtain ⟨hst, _, _⟩ := tyS_some.1 hT
        have HS := Lib.hid hst
        have HEa := Lib.hid fun w1 (h : TE w1) => show Calls Tryd.prog 13 #[.string (⟨#[112]⟩ ++ t)] w1 fun e w' => e = .returned (.tuple #[.string t, .int .i64 0, .int .i64 0]) ∧ Below w1.heap.size w1 w' by
          have h1 := elem_ok (⟨#[112]⟩ ++ t) w1 h
          rw [HP.out, elemV, ← hst] at h1
          exact h1
        have HEb := Lib.hid fun (D : ByteArray) (hD : D.data.toList = Lib.decDigits m) w1 (h : TE w1) => show Calls Tryd.prog 13 #[.string (⟨#[97]⟩ ++ D ++ ⟨#[58]⟩ ++ t)] w1 fun e w' => e = .returned (.tuple #[.string t, .int .i64 (m : Int), .int .i64 0]) ∧ Below w1.heap.size w1 w' by
          have eD : D = ⟨(Lib.decDigits m).toArray⟩ := toList_eq (by rw [hD])
          have h1 := elem_ok (⟨#[97]⟩ ++ D ++ ⟨#[58]⟩ ++ t) w1 h
          rw [eD] at h1 ⊢
          rw [HA.out, elemV, ← hst] at h1
          exact h1
        have hts : (t.size : Int) ≤ 65527 := by omega
        have hD3 : (⟨(dig3 m).toArray⟩ : ByteArray).size = 3 := rfl
        have hDt : trimD (⟨(dig3 m).toArray⟩ : ByteArray).data.toList = Lib.decDigits m := hds0
        generalize (⟨(dig3 m).toArray⟩ : ByteArray) = D3 at *
        have HD := Lib.hid hDt
        have HZ := Lib.hid hD3
        have hbA : Below w.heap.size w (wc.alloc (.cells #[.int .u8 (48 + (m : Int) / 100), .int .u8 (48 + (m : Int) / 10 % 10), .int .u8 (48 + (m : Int) % 10)] 5)) := HB.out.alloc HB.out.size _
        have HBA := Lib.hid hbA
        clear hst hT hs hds0 hD3 hDt hbA
        go_wp2_with fail
        clear hds
        go_loopg [7] 3 (fun g v7 wy => ∃ D : ByteArray, v7 = .string D ∧ D.size = g ∧ Hid (trimD D.data.toList = Lib.decDigits m) ∧ Hid (Below w.heap.size w wy))
        case atStart => exact ⟨D3, rfl, HZ.out, HD.out, HBA.out⟩
        case round =>
          obtain ⟨D, rfl, hDg, HDt, HBy⟩ := hrel
          have HG := Lib.hid hDg
          clear hDg
          by_cases h1 : 1 < D.size
          · have h0 : 0 < D.size := by omega
            have h1' : (1 : Int) < D.size := by omega
            have h1'' : (1 : Int) ≤ D.size := by omega
            by_cases h48 : D[0] = 48
            · have t2 : ((D[0].toNat : Int) == 48) = true := by rw [h48]; rfl
              obtain ⟨q1, q2⟩ := trim_ext h1 h48
              have HN := Lib.hid (q1.trans HDt.out)
              have HQ := Lib.hid q2
              clear h48 q1 q2
              go_wp2_with fail
              go_roundg (D.size - 1)
              case measure => have := HG.out; omega
              case rel => exact ⟨_, rfl, HQ.out, HN, HBy⟩
            · have t2 : ((D[0].toNat : Int) == 48) = false := by
                rw [beq_eq_false_iff_ne]
                intro e
                exact h48 (UInt8.toNat_inj.1 (by have h : (48 : UInt8).toNat = 48 := rfl; omega))
              have hDl : D.data.toList = Lib.decDigits m := by rw [← HDt.out, trim_end (.inr ⟨h0, h48⟩)]
              have hd3 := dec_three hm
              have hl3 : D.data.toList.length = D.size := by rw [Array.length_toList]; rfl
              rw [hDl] at hl3
              clear h48
              have HEc := Lib.hid (HEb.out D hDl)
              have hD4 : (D.size : Int) ≤ 1000 := by omega
              have HEy := Lib.hid (HE.out.below HBy.out)
              have HE1 := Lib.hid (HEa.out _ HEy.out)
              clear hDl
              go_wp2_with (go_at_call 13; (with_reducible refine HE1.out.mono ?_); rintro e w2 ⟨rfl, hb2⟩; have HB2 := Lib.hid (HBy.out.trans (hb2.mono HBy.out.size)); have HE2 := Lib.hid (HEc.out _ (HEy.out.below hb2)); clear hb2)
              go_wp2_with (go_at_call 13; (with_reducible refine HE2.out.mono ?_); rintro e w3 ⟨rfl, hb3⟩; have HB3 := Lib.hid (HB2.out.trans (hb3.mono HB2.out.size)); clear hb3)
              go_meet
              exact HB3
          · have t2 : (D.size : Int) ≤ 1 := by omega
            have hDl : D.data.toList = Lib.decDigits m := by rw [← HDt.out, trim_end (.inl h1)]
            have HEc := Lib.hid (HEb.out D hDl)
            have hD4 : (D.size : Int) ≤ 1000 := by omega
            have HEy := Lib.hid (HE.out.below HBy.out)
            have HE1 := Lib.hid (HEa.out _ HEy.out)
            clear hDl
            go_wp2_with (go_at_call 13; (with_reducible refine HE1.out.mono ?_); rintro e w2 ⟨rfl, hb2⟩; have HB2 := Lib.hid (HBy.out.trans (hb2.mono HBy.out.size)); have HE2 := Lib.hid (HEc.out _ (HEy.out.below hb2)); clear hb2)
            go_wp2_with (go_at_call 13; (with_reducible refine HE2.out.mono ?_); rintro e w3 ⟨rfl, hb3⟩; have HB3 := Lib.hid (HB2.out.trans (hb3.mono HB2.out.size)); clear hb3)
            go_meet
            exact HB3
    case rest =>
      have HB2 := hcut
      have hfn := func_ok t xs a cap _ (HE.out.below HB2.out) ((HI.out.below HB2.out (Nat.le_refl _)).mono HB2.out.size) hl
      rcases hp : funcR t xs with ⟨x, e0⟩
      rw [hp] at hfn
      have HFn := Lib.hid hfn
      by_cases he : e0 = 0
      · subst he
        obtain ⟨ps, T, ht, hxs, hx⟩ := func_yes hp
        have HSg := Lib.hid fun w1 (h : TE w1) => show Calls Tryd.prog 15 #[.string x] w1 fun e w' => (∃ a' cap', e = .returned (.tuple #[.string t, .slice a' xs.length cap', .int .i64 0]) ∧ IsTys w'.heap.size w' a' xs) ∧ Below w1.heap.size w1 w' by
          have h1 := sign_ok x w1 h
          rw [hx] at h1
          refine h1.mono ?_
          rintro e w' ⟨⟨v, rfl, ho⟩, hb⟩
          have ho' : w'.ownsRow w1.heap.size 22 1 v ps.length (xs.map .string) := by rw [hxs, List.map_map]; exact ho
          obtain ⟨a', cap', rfl, hI⟩ := own_tys ho' (by rw [hxs, List.length_map])
          exact ⟨⟨a', cap', by rw [← ht], hI⟩, hb⟩
        have HFm := Lib.hid fun w1 (h : TE w1) => form_is true x w1 h (by rw [hx]; rfl)
        have HSm := Lib.hid fun a' cap' w1 (h1 : IsTys w1.heap.size w1 a' xs) (h2 : IsTys w1.heap.size w1 a xs) => show Calls Tryd.prog 17 #[.slice a' xs.length cap', .slice a xs.length cap] w1 fun e w' => e = .returned (.bool true) ∧ Below w1.heap.size w1 w' by
          have h3 := same_ok xs xs a' a cap' cap w1 h1 h2 hl
          rw [decide_eq_true rfl] at h3
          exact h3
        clear hp hfn ht hxs hx
        go_wp2_with (go_at_call 18; (with_reducible refine HFn.out.mono ?_); rintro e w4 ⟨rfl, hb4⟩; have HB4 := Lib.hid (HB2.out.trans (hb4.mono HB2.out.size)); have HS4 := Lib.hid (HSg.out _ (HE.out.below HB4.out)); clear hb4)
        go_wp2_with (go_at_call 15; (with_reducible refine HS4.out.mono ?_); rintro e w5 ⟨⟨a', cap', rfl, hI5⟩, hb5⟩; have HB5 := Lib.hid (HB4.out.trans (hb5.mono HB4.out.size)); have HM5 := Lib.hid (HSm.out a' cap' _ hI5 ((HI.out.below HB5.out (Nat.le_refl _)).mono HB5.out.size)); clear hb5 hI5)
        go_wp2_with (go_at_call 17; (with_reducible refine HM5.out.mono ?_); rintro e w6 ⟨rfl, hb6⟩; have HB6 := Lib.hid (HB5.out.trans (hb6.mono HB5.out.size)); have HF6 := Lib.hid (HFm.out _ (HE.out.below HB6.out)); clear hb6)
        go_wp2_with (go_at_call 20; (with_reducible refine HF6.out.mono ?_); rintro e w7 ⟨rfl, hb7⟩; have HB7 := Lib.hid (HB6.out.trans (hb7.mono HB6.out.size)); clear hb7)
        go_ret
        exact ⟨rfl, HB7.out⟩
      · have hx := func_no (r := t) (xs := xs) (by rw [hp]; exact he)
        rw [hp] at hx
        simp only at hx
        subst hx
        have t1 : (e0 != 0) = true := by simp [he]
        clear hp hfn he
        go_wp2_with (go_at_call 18; (with_reducible refine HFn.out.mono ?_); rintro e w4 ⟨rfl, hb4⟩; have HB4 := Lib.hid (HB2.out.trans (hb4.mono HB2.out.size)); clear hb4)
        go_ret
        exact ⟨rfl, HB4.out⟩
end Go.Proofs.YtmmjmppfmjejkaaDoor
