/- The same numbers. · Check, Parts, Sub: the program, the reference. · Types and numbers of right trees: the program. -/
import Derived.Test.YtlcfejgjeljjdaaDoorMg20
import Derived.Test.YtlcfejgjeljjdaaDoorOpen
import Derived.Test.YtlcfejgjeljjdaaDoorMg25
import Derived.Test.YtlcfejgjeljjdaaDoorFoldY
import Derived.Test.YtlcfejgjeljjdaaDoorFoldK
import Derived.Test.YtlcfejgjeljjdaaDoorMg23
namespace Go.Proofs.YtlcfejgjeljjdaaDoor
open Go.RowKit

set_option maxHeartbeats 4000000 in
theorem sameTree_ok (a b : Option Addr) (ca cb : Nat) (L : List Nd) (w : World) (hA : IsNds w.heap.size w a L) (hB : IsNds w.heap.size w b L) (hl : L.length * 64 ≤ 140737488351232) :
    Calls Tryd.prog 11 #[.slice a L.length ca, .slice b L.length cb] w fun e w' => e = .returned (.bool true) ∧ Below w.heap.size w w' := by
  have HA := Lib.hid hA
  have HB := Lib.hid hB
  have hli : (L.length : Int) ≤ 2199023255488 := by omega
  have hne : ((L.length : Int) != (L.length : Int)) = false := by simp
  clear hA hB
  go_enter Tryd.func11, Tryd.ntmps11
  go_wp2_with fail
  go_loopg [5] L.length (fun m v5 wy => ∃ (i : Nat), i ≤ L.length ∧ i + m = L.length ∧ v5 = .int .i64 (i : Int) ∧ Hid (Below w.heap.size w wy))
  case atStart => exact ⟨0, by omega, by omega, rfl, Lib.hid (Below.refl _ _)⟩
  case round =>
    obtain ⟨i, hi, him, rfl, HW⟩ := hrel
    by_cases hlt : i < L.length
    · obtain ⟨b1, o1, ha, hb1, c0, c1, c2, c3, c4, c5⟩ := nds_at HA.out hlt
      obtain ⟨b2, o2, hb, hb2, e0, e1, e2, e3, e4, e5⟩ := nds_at HB.out hlt
      subst ha hb
      rw [← HW.out.cell hb1] at c0 c1 c2 c3 c4 c5
      rw [← HW.out.cell hb2] at e0 e1 e2 e3 e4 e5
      generalize L[i] = x at *
      obtain ⟨kk, n, p, ii, s, ty⟩ := x
      simp only at c0 c1 c2 c3 c4 c5 e0 e1 e2 e3 e4 e5
      have t1 : ∀ z : Int, (z != z) = false := by simp
      have t2 : ∀ z : List UInt8, (z != z) = false := by simp
      have t3 : ∀ z : Int, (z == z) = true := by simp
      have t4 : ∀ z : List UInt8, (z == z) = true := by simp
      have hi0 : (0 : Int) ≤ (i : Int) := by omega
      have hi1 : (i : Int) < (L.length : Int) := by omega
      go_wp2_with fail
      go_quiet (fail)
      go_wp2_with fail
      go_roundg (L.length - (i + 1))
      case measure => omega
      case rel => exact ⟨i + 1, by omega, by omega, by rw [Int.natCast_add]; rfl, Lib.hid (blw_drewN HW.out _)⟩
    · obtain rfl : i = L.length := by omega
      go_wp2_with fail
      go_ret
      exact ⟨rfl, HW.out⟩
end Go.Proofs.YtlcfejgjeljjdaaDoor
namespace Go.Proofs.YtlcfejgjeljjdaaDoor
open Go.RowKit

section
variable (a : Option Addr) (cap : Nat) (t : List Nd) (w : World) (hE : TE w) (hI : IsNds w.heap.size w a t) (hOk : ∀ x ∈ t, NdOk x) (hz : t.length * 64 ≤ 140737488351232)
include hE hI hOk hz
theorem looked_0 (h : checkN9 t = 0) : Calls Tryd.prog 20 #[.slice a t.length cap] w fun e w' => (∃ (b : Option Addr) (capb : Nat) (fr : List Nat), e = .returned (.tuple #[.agg #[.slice a t.length cap, .slice b fr.length capb], .int .i64 0]) ∧ beginsN t = some fr ∧ Given t fr ∧ WholeAt w' a b t fr ∧ FarB w b) ∧ Below w.heap.size w w' :=
  (looked_ok a cap t w hE hI hOk hz).mono fun e w' ⟨hd, hb⟩ => ⟨by rcases hd with ⟨_, h'⟩ | ⟨h', _⟩; exact h'; exact absurd h h', hb⟩
theorem looked_n (h : checkN9 t ≠ 0) : Calls Tryd.prog 20 #[.slice a t.length cap] w fun e w' => e = .returned (.tuple #[.agg #[.slice none 0 0, .slice none 0 0], .int .i64 (checkN9 t)]) ∧ Below w.heap.size w w' :=
  (looked_ok a cap t w hE hI hOk hz).mono fun e w' ⟨hd, hb⟩ => ⟨by rcases hd with ⟨h', _⟩ | ⟨_, h'⟩; exact absurd h' h; exact h', hb⟩
theorem treeCheck_ok : Calls Tryd.prog 12 #[.slice a t.length cap] w fun e w' => e = .returned (.int .i64 (checkN9 t)) ∧ Below w.heap.size w w' := by
  by_cases h : checkN9 t = 0
  · have HL := Lib.hid (looked_0 a cap t w hE hI hOk hz h)
    rw [h]
    clear hE hI hOk h
    go_enter Tryd.func12, Tryd.ntmps12
    go_wp2_with (go_at_call 20; (with_reducible refine HL.out.mono ?_); rintro e w1 ⟨⟨b, capb, fr, rfl, _⟩, hb1⟩; have HB := Lib.hid hb1; clear hb1)
    go_ret
    exact ⟨rfl, HB.out.trans ((ba1 _ _).mono HB.out.size)⟩
  · have HL := Lib.hid (looked_n a cap t w hE hI hOk hz h)
    generalize checkN9 t = c at *
    clear hE hI hOk h
    go_enter Tryd.func12, Tryd.ntmps12
    go_wp2_with (go_at_call 20; (with_reducible refine HL.out.mono ?_); rintro e w1 ⟨rfl, hb1⟩; have HB := Lib.hid hb1; clear hb1)
    go_ret
    exact ⟨rfl, HB.out.trans ((ba1 _ _).mono HB.out.size)⟩
end
theorem check_formed {t : List Nd} (h : checkN9 t = 0) : ∃ fr, beginsN t = some fr ∧ Given t fr := by
  unfold checkN9 at h
  split at h
  · cases h
  split at h
  · cases h
  rename_i hl hw
  split at h
  · cases h
  rename_i fr hb
  exact ⟨fr, hb, given_of (by omega) (by simpa using hw) hb⟩

end Go.Proofs.YtlcfejgjeljjdaaDoor
namespace Go.Proofs.YtlcfejgjeljjdaaDoor
open Go.RowKit

theorem sizes_ok (L : List Sr) : SizesOk L := by
  intro s
  unfold sizeR
  split
  · simp
  · rename_i K hK
    split
    · simp
    · rename_i t ht
      split
      · simp
      · rename_i hc
        split
        · simp
        · have := meas_bd (learnK_knows hK).fit t (by simpa using hc)
          simp only
          omega
theorem un_marks {x : Nd} {L : List Sr} (hk : x.kind = 4) (hw : wellN x = true) (hs : shN L x = true) : Lib.containsS unMarks x.text = true := by
  unfold wellN at hw
  rw [if_neg (by omega), Bool.and_eq_true, Bool.and_eq_true] at hw
  have h := hw.2.2
  unfold bodyOk at h
  rw [if_neg (by omega), if_neg (by omega), if_neg (by omega), if_pos (by omega), Bool.and_eq_true] at h
  have hm := (Lib.containsS_iff _ _).1 h.1
  unfold shN at hs
  rw [if_neg (by omega), if_pos hk] at hs
  simp only [Bool.not_eq_true', Bool.or_eq_false_iff, decide_eq_false_iff_not] at hs
  rw [Lib.containsS_iff]
  unfold marksN at hm
  rw [if_pos hk] at hm
  simp only [List.mem_cons, List.not_mem_nil, or_false] at hm
  rcases hm with h | h | h | h | h
  · rw [h]; simp [unMarks, mSub]
  · rw [h]; simp [unMarks, mCpl]
  · rw [h]; simp [unMarks, mNot]
  · exact absurd h hs.1
  · exact absurd h hs.2
theorem bin_marks {x : Nd} (hk : x.kind = 7) (hw : wellN x = true) : Lib.containsS binMarks x.text = true := by
  unfold wellN at hw
  rw [if_neg (by omega), Bool.and_eq_true, Bool.and_eq_true] at hw
  have h := hw.2.2
  unfold bodyOk at h
  rw [if_neg (by omega), if_neg (by omega), if_neg (by omega), if_pos (by omega), Bool.and_eq_true] at h
  have hm := h.1
  unfold marksN at hm
  rw [if_neg (by omega), if_neg (by omega), if_pos hk] at hm
  have e : marksB = binMarks := rfl
  rw [e] at hm
  exact hm
/-- what is so of a good tree's node at a place -/
structure NodeOk (t : List Nd) (fr : List Nat) (L : List Sr) (k : Nat) : Prop where
  lt : k < t.length
  good : GoodT (trAt t fr k)
  shap : shapT L (trAt t fr k) = true
theorem nodeOk_part {t : List Nd} {fr : List Nat} {L : List Sr} {k p : Nat} (hf : Formed t fr) (h : NodeOk t fr L k) (hp : p ∈ partsAt t fr k) : NodeOk t fr L p := by
  have hg := h.good
  have hs := h.shap
  rw [trAt_eq hf] at hg hs
  rw [shapT_node, Bool.and_eq_true] at hs
  have hm : trAt t fr p ∈ (partsAt t fr k).map (trAt t fr) := List.mem_map.2 ⟨p, hp, rfl⟩
  exact ⟨by have := hf.parts_lt hp; have := h.lt; omega, (good_node.1 hg).2.2 _ hm, List.all_eq_true.1 hs.1 _ hm⟩
theorem nodeOk_node {t : List Nd} {fr : List Nat} {L : List Sr} {k : Nat} (hf : Formed t fr) (h : NodeOk t fr L k) : ∃ x, t[k]? = some x ∧ wellN x = true ∧ shN L x = true ∧ x.n = ((partsAt t fr k).length : Int) ∧ trAt t fr k = .node x ((partsAt t fr k).map (trAt t fr)) := by
  have hg := h.good
  have hs := h.shap
  have e := trAt_eq hf k
  rw [e] at hg hs
  rw [shapT_node, Bool.and_eq_true] at hs
  have hx := List.getElem?_eq_getElem h.lt
  have hgx : t.getD k nd0 = t[k]'h.lt := by rw [List.getD_eq_getElem?_getD, hx]; rfl
  rw [hgx] at hg hs e
  obtain ⟨h1, h2, _⟩ := good_node.1 hg
  rw [List.length_map] at h1
  exact ⟨_, hx, h2.1, hs.2, h1, e⟩
section
variable {f : Nat} {a : Option Addr} {cap : Nat} {t : List Nd} {l : Option Addr} {lc : Nat} {L : List Sr} {mv : List Value} {b : Option Addr} {cb : Nat} {fr : List Nat} {B : Nat}
theorem kind_ok (hl : t.length ≤ 4096) (hf : Formed t fr) (k : Nat) : NodeOk t fr L k → ∀ w, FoldAt B w f a cap t l lc L mv b cb fr → Calls Tryd.prog 61 #[.pointer (some ⟨f, 0, none⟩), .int .i64 (k : Int)] w (KindEnd (kindT (trAt t fr k)) w) := by
  induction k using Nat.strongRecOn with
  | ind k ih =>
    intro hN w hFo
    obtain ⟨x, hx, hw, hs, hn, e⟩ := nodeOk_node hf hN
    obtain ⟨p0, p1, p2, p3⟩ := good_parts (ps := (partsAt t fr k).map (trAt t fr)) (by rw [List.length_map]; exact hn) hw
    rw [List.length_map] at p0 p1 p2 p3
    rw [e, kindT_node, List.map_map]
    have hI : ∀ p ∈ partsAt t fr k, IntT ((kindT ∘ trAt t fr) p) := fun p hp => (eval_kind (sizes_ok L) _ (nodeOk_part hf hN hp).good (nodeOk_part hf hN hp).shap).1
    exact kind_step (K := kindT ∘ trAt t fr) w hFo hl hf hx rfl (shN_kinds hs) (fun h => p1 (.inl h)) p2 p3 hI fun p hp w' h' => ih p (hf.parts_lt hp) (nodeOk_part hf hN hp) w' h'
theorem eval_ok (hl : t.length ≤ 4096) (hf : Formed t fr) (k : Nat) : NodeOk t fr L k → ∀ w, FoldAt B w f a cap t l lc L mv b cb fr → Calls Tryd.prog 45 #[.pointer (some ⟨f, 0, none⟩), .int .i64 (k : Int)] w (EvalEnd (evalT L (trAt t fr k)) w) := by
  induction k using Nat.strongRecOn with
  | ind k ih =>
    intro hN w hFo
    obtain ⟨x, hx, hw, hs, hn, e⟩ := nodeOk_node hf hN
    obtain ⟨p0, p1, p2, p3⟩ := good_parts (ps := (partsAt t fr k).map (trAt t fr)) (by rw [List.length_map]; exact hn) hw
    rw [List.length_map] at p0 p1 p2 p3
    have hkd : ∀ w', FoldAt B w' f a cap t l lc L mv b cb fr → Calls Tryd.prog 61 #[.pointer (some ⟨f, 0, none⟩), .int .i64 (k : Int)] w' (KindEnd (kindN x ((partsAt t fr k).map (kindT ∘ trAt t fr))) w') := fun w' h' => by
      have := kind_ok hl hf k hN w' h'
      rw [e, kindT_node, List.map_map] at this
      exact this
    rw [e, evalT_node, kindT_node, List.map_map, List.map_map]
    have hI : ∀ p ∈ partsAt t fr k, ∀ v, (evalT L ∘ trAt t fr) p = some v → IntT v.1 := fun p hp v hv => by
      obtain ⟨h1, h2⟩ := eval_kind (sizes_ok L) _ (nodeOk_part hf hN hp).good (nodeOk_part hf hN hp).shap
      rw [(h2 v hv).1]; exact h1
    exact eval_step (K := kindT ∘ trAt t fr) (V := evalT L ∘ trAt t fr) w hFo hl hf hx rfl (shN_kinds hs) (fun h => ⟨p1 (.inl h), un_marks h hw hs⟩) (fun h => p1 (.inr h)) (fun h => ⟨p2 h, bin_marks h hw⟩) p3 hI hkd fun p hp w' h' => ih p (hf.parts_lt hp) (nodeOk_part hf hN hp) w' h'
theorem shapS_is (hb : beginsN t = some fr) {k : Nat} (hk : k < t.length) : (segN t (fr.getD k 0) (k + 1)).all (shN L) = shapT L (trAt t fr k) := by
  unfold shapT
  rw [flatT_at hb k hk]
set_option maxHeartbeats 2000000 in
/-- what a part comes to, if it is a constant -/
theorem constant_ok (hl : t.length ≤ 4096) (hb : beginsN t = some fr) (k : Nat) (hk : k < t.length) (hg : GoodT (trAt t fr k)) (w : World) (hFo : FoldAt B w f a cap t l lc L mv b cb fr) :
    Calls Tryd.prog 21 #[.pointer (some ⟨f, 0, none⟩), .int .i64 (k : Int)] w (EvalEnd (constT L (trAt t fr k)) w) := by
  have hf := formed_of hb
  have hb1 := ba1 w (numO ((⟨#[]⟩, 0) : Num))
  have HR1 := Lib.hid (numAt_new w ((⟨#[]⟩, 0) : Num))
  have HB1 := Lib.hid hb1
  have hF1 := hFo.below hb1
  have HS := Lib.hid (shaped_ok _ hF1 hl hf k hk)
  rw [shapS_is hb hk] at HS
  unfold constT
  rcases hs : shapT L (trAt t fr k) with _ | _
  · rw [hs] at HS
    rw [if_neg (by simp)]
    simp only [numO] at HR1 HB1 HS
    clear hFo hf hb1 hF1 hs hg hb
    go_enter Tryd.func21, Tryd.ntmps21
    go_upto_region 1 with fail
    generalize w.alloc (.cells #[.string ⟨#[]⟩, .int .i64 0] 47) = w1 at *
    go_wp2_with (go_at_call 44; (with_reducible refine HS.out.mono ?_); rintro e w3 ⟨rfl, hb3⟩; have HB3 := Lib.hid hb3; clear hb3; obtain ⟨⟨r0, r1⟩, rf⟩ := (HR1.out.below HB3.out).cells; have f0 := rf 0; have f1 := rf 1; clear rf)
    exact bodyPost_ret (v := .tuple #[.agg #[.string ⟨#[]⟩, .int .i64 0], .bool false]) (by simp [results, Tryd.results21, go_sem, r0, r1]) rfl (evalNone rfl (below_set2 (HB1.out.trans (HB3.out.mono HB1.out.size)) (Nat.le_refl w.heap.size) _ _))
  · have HE := Lib.hid (fun w h => eval_ok (a := a) (cap := cap) (l := l) (lc := lc) (mv := mv) (b := b) (cb := cb) (f := f) (B := B) hl hf k ⟨hk, hg, hs⟩ w h)
    rw [hs] at HS
    rw [if_pos rfl]
    have HF := Lib.hid hF1
    simp only [numO] at HR1 HB1 HS HF
    clear hFo hf hb1 hF1 hs hg hb
    generalize hr : evalT L (trAt t fr k) = r at *
    clear hr
    go_enter Tryd.func21, Tryd.ntmps21
    go_upto_region 1 with fail
    generalize w.alloc (.cells #[.string ⟨#[]⟩, .int .i64 0] 47) = w1 at *
    rcases r with _ | ⟨rt, rn⟩
    · have HE := Lib.hid (fun w h => evalRaw0 (HE.out w h))
      go_wp2_with (first | (go_at_call 44; (with_reducible refine HS.out.mono ?_); rintro e w3 ⟨rfl, hb3⟩; have HB3 := Lib.hid hb3; clear hb3) | (go_at_call 45; (with_reducible refine (HE.out _ (HF.out.below HB3.out)).mono ?_); rintro e w4 ⟨⟨vt, vn, rfl⟩, hb4⟩; have HB4 := Lib.hid (HB3.out.trans (hb4.mono HB3.out.size)); clear hb4; obtain ⟨⟨r0, r1⟩, rf⟩ := (HR1.out.below HB4.out).cells; have f0 := rf 0; have f1 := rf 1; clear rf))
      exact bodyPost_ret (v := .tuple #[.agg #[.string vt, .int .i64 vn], .bool false]) (by simp [results, Tryd.results21, go_sem, r0, r1]) rfl (evalNone rfl (below_set2 (HB1.out.trans (HB4.out.mono HB1.out.size)) (Nat.le_refl w.heap.size) _ _))
    · have HE := Lib.hid (fun w h => evalRaw1 (HE.out w h))
      go_wp2_with (first | (go_at_call 44; (with_reducible refine HS.out.mono ?_); rintro e w3 ⟨rfl, hb3⟩; have HB3 := Lib.hid hb3; clear hb3) | (go_at_call 45; (with_reducible refine (HE.out _ (HF.out.below HB3.out)).mono ?_); rintro e w4 ⟨rfl, hb4⟩; have HB4 := Lib.hid (HB3.out.trans (hb4.mono HB3.out.size)); clear hb4; obtain ⟨⟨r0, r1⟩, rf⟩ := (HR1.out.below HB4.out).cells; have f0 := rf 0; have f1 := rf 1; clear rf))
      exact bodyPost_ret (v := .tuple #[.agg #[.string rt, .int .i64 rn], .bool true]) (by simp [results, Tryd.results21, go_sem, r0, r1]) rfl (evalSome rfl rfl (below_set2 (HB1.out.trans (HB4.out.mono HB1.out.size)) (Nat.le_refl w.heap.size) _ _))
end
end Go.Proofs.YtlcfejgjeljjdaaDoor
