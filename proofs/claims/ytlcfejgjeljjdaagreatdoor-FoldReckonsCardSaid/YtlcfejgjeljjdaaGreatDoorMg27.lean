/- Types and numbers of right trees: the program. · Constant expressions: the program. -/
import Derived.Test.YtlcfejgjeljjdaaGreatDoorFoldY
import Derived.Test.YtlcfejgjeljjdaaGreatDoorMg23
import Derived.Test.YtlcfejgjeljjdaaGreatDoorMg26
import Derived.Test.YtlcfejgjeljjdaaGreatDoorMg24
import Derived.Test.YtlcfejgjeljjdaaGreatDoorFoldQ
namespace Go.Proofs.YtlcfejgjeljjdaaGreatDoor
open Go.RowKit

theorem sizes_ok (L : List Sr) : SizesOk L := by
  intro s
  unfold sizeR
  split
  · simp
  · rename_i K hK
    split
    · simp
    · rename_i t ht
      split
      · simp
      · rename_i hc
        split
        · simp
        · have := meas_bd (learnK_knows hK).fit t (by simpa using hc)
          simp only
          omega
theorem un_marks {x : Nd} {L : List Sr} (hk : x.kind = 4) (hw : wellN x = true) (hs : shN L x = true) : Lib.containsS unMarks x.text = true := by
  unfold wellN at hw
  rw [if_neg (by omega), Bool.and_eq_true, Bool.and_eq_true] at hw
  have h := hw.2.2
  unfold bodyOk at h
  rw [if_neg (by omega), if_neg (by omega), if_neg (by omega), if_pos (by omega), Bool.and_eq_true] at h
  have hm := (Lib.containsS_iff _ _).1 h.1
  unfold shN at hs
  rw [if_neg (by omega), if_pos hk] at hs
  simp only [Bool.not_eq_true', Bool.or_eq_false_iff, decide_eq_false_iff_not] at hs
  rw [Lib.containsS_iff]
  unfold marksN at hm
  rw [if_pos hk] at hm
  simp only [List.mem_cons, List.not_mem_nil, or_false] at hm
  rcases hm with h | h | h | h | h
  · rw [h]; simp [unMarks, mSub]
  · rw [h]; simp [unMarks, mCpl]
  · rw [h]; simp [unMarks, mNot]
  · exact absurd h hs.1
  · exact absurd h hs.2
theorem bin_marks {x : Nd} (hk : x.kind = 7) (hw : wellN x = true) : Lib.containsS binMarks x.text = true := by
  unfold wellN at hw
  rw [if_neg (by omega), Bool.and_eq_true, Bool.and_eq_true] at hw
  have h := hw.2.2
  unfold bodyOk at h
  rw [if_neg (by omega), if_neg (by omega), if_neg (by omega), if_pos (by omega), Bool.and_eq_true] at h
  have hm := h.1
  unfold marksN at hm
  rw [if_neg (by omega), if_neg (by omega), if_pos hk] at hm
  have e : marksB = binMarks := rfl
  rw [e] at hm
  exact hm
/-- what is so of a good tree's node at a place -/
structure NodeOk (t : List Nd) (fr : List Nat) (L : List Sr) (k : Nat) : Prop where
  lt : k < t.length
  good : GoodT (trAt t fr k)
  shap : shapT L (trAt t fr k) = true
theorem nodeOk_part {t : List Nd} {fr : List Nat} {L : List Sr} {k p : Nat} (hf : Formed t fr) (h : NodeOk t fr L k) (hp : p ∈ partsAt t fr k) : NodeOk t fr L p := by
  have hg := h.good
  have hs := h.shap
  rw [trAt_eq hf] at hg hs
  rw [shapT_node, Bool.and_eq_true] at hs
  have hm : trAt t fr p ∈ (partsAt t fr k).map (trAt t fr) := List.mem_map.2 ⟨p, hp, rfl⟩
  exact ⟨by have := hf.parts_lt hp; have := h.lt; omega, (good_node.1 hg).2.2 _ hm, List.all_eq_true.1 hs.1 _ hm⟩
theorem nodeOk_node {t : List Nd} {fr : List Nat} {L : List Sr} {k : Nat} (hf : Formed t fr) (h : NodeOk t fr L k) : ∃ x, t[k]? = some x ∧ wellN x = true ∧ shN L x = true ∧ x.n = ((partsAt t fr k).length : Int) ∧ trAt t fr k = .node x ((partsAt t fr k).map (trAt t fr)) := by
  have hg := h.good
  have hs := h.shap
  have e := trAt_eq hf k
  rw [e] at hg hs
  rw [shapT_node, Bool.and_eq_true] at hs
  have hx := List.getElem?_eq_getElem h.lt
  have hgx : t.getD k nd0 = t[k]'h.lt := by rw [List.getD_eq_getElem?_getD, hx]; rfl
  rw [hgx] at hg hs e
  obtain ⟨h1, h2, _⟩ := good_node.1 hg
  rw [List.length_map] at h1
  exact ⟨_, hx, h2.1, hs.2, h1, e⟩
section
variable {f : Nat} {a : Option Addr} {cap : Nat} {t : List Nd} {l : Option Addr} {lc : Nat} {L : List Sr} {mv : List Value} {b : Option Addr} {cb : Nat} {fr : List Nat} {B : Nat}
theorem kind_ok (hl : t.length ≤ 4096) (hf : Formed t fr) (k : Nat) : NodeOk t fr L k → ∀ w, FoldAt B w f a cap t l lc L mv b cb fr → Calls Tryz.prog 80 #[.pointer (some ⟨f, 0, none⟩), .int .i64 (k : Int)] w (KindEnd (kindT (trAt t fr k)) w) := by
  induction k using Nat.strongRecOn with
  | ind k ih =>
    intro hN w hFo
    obtain ⟨x, hx, hw, hs, hn, e⟩ := nodeOk_node hf hN
    obtain ⟨p0, p1, p2, p3⟩ := good_parts (ps := (partsAt t fr k).map (trAt t fr)) (by rw [List.length_map]; exact hn) hw
    rw [List.length_map] at p0 p1 p2 p3
    rw [e, kindT_node, List.map_map]
    have hI : ∀ p ∈ partsAt t fr k, IntT ((kindT ∘ trAt t fr) p) := fun p hp => (eval_kind (sizes_ok L) _ (nodeOk_part hf hN hp).good (nodeOk_part hf hN hp).shap).1
    exact kind_step (K := kindT ∘ trAt t fr) w hFo hl hf hx rfl (shN_kinds hs) (fun h => p1 (.inl h)) p2 p3 hI fun p hp w' h' => ih p (hf.parts_lt hp) (nodeOk_part hf hN hp) w' h'
theorem eval_ok (hl : t.length ≤ 4096) (hf : Formed t fr) (k : Nat) : NodeOk t fr L k → ∀ w, FoldAt B w f a cap t l lc L mv b cb fr → Calls Tryz.prog 48 #[.pointer (some ⟨f, 0, none⟩), .int .i64 (k : Int)] w (EvalEnd (evalT L (trAt t fr k)) w) := by
  induction k using Nat.strongRecOn with
  | ind k ih =>
    intro hN w hFo
    obtain ⟨x, hx, hw, hs, hn, e⟩ := nodeOk_node hf hN
    obtain ⟨p0, p1, p2, p3⟩ := good_parts (ps := (partsAt t fr k).map (trAt t fr)) (by rw [List.length_map]; exact hn) hw
    rw [List.length_map] at p0 p1 p2 p3
    have hkd : ∀ w', FoldAt B w' f a cap t l lc L mv b cb fr → Calls Tryz.prog 80 #[.pointer (some ⟨f, 0, none⟩), .int .i64 (k : Int)] w' (KindEnd (kindN x ((partsAt t fr k).map (kindT ∘ trAt t fr))) w') := fun w' h' => by
      have := kind_ok hl hf k hN w' h'
      rw [e, kindT_node, List.map_map] at this
      exact this
    rw [e, evalT_node, kindT_node, List.map_map, List.map_map]
    have hI : ∀ p ∈ partsAt t fr k, ∀ v, (evalT L ∘ trAt t fr) p = some v → IntT v.1 := fun p hp v hv => by
      obtain ⟨h1, h2⟩ := eval_kind (sizes_ok L) _ (nodeOk_part hf hN hp).good (nodeOk_part hf hN hp).shap
      rw [(h2 v hv).1]; exact h1
    exact eval_step (K := kindT ∘ trAt t fr) (V := evalT L ∘ trAt t fr) w hFo hl hf hx rfl (shN_kinds hs) (fun h => ⟨p1 (.inl h), un_marks h hw hs⟩) (fun h => p1 (.inr h)) (fun h => ⟨p2 h, bin_marks h hw⟩) p3 hI hkd fun p hp w' h' => ih p (hf.parts_lt hp) (nodeOk_part hf hN hp) w' h'
theorem shapS_is (hb : beginsN t = some fr) {k : Nat} (hk : k < t.length) : (segN t (fr.getD k 0) (k + 1)).all (shN L) = shapT L (trAt t fr k) := by
  unfold shapT
  rw [flatT_at hb k hk]
set_option maxHeartbeats 2000000 in
/-- what a part comes to, if it is a constant -/
theorem constant_ok (hl : t.length ≤ 4096) (hb : beginsN t = some fr) (k : Nat) (hk : k < t.length) (hg : GoodT (trAt t fr k)) (w : World) (hFo : FoldAt B w f a cap t l lc L mv b cb fr) :
    Calls Tryz.prog 22 #[.pointer (some ⟨f, 0, none⟩), .int .i64 (k : Int)] w (EvalEnd (constT L (trAt t fr k)) w) := by
  have hf := formed_of hb
  have hb1 := ba1 w (numO ((⟨#[]⟩, 0) : Num))
  have HR1 := Lib.hid (numAt_new w ((⟨#[]⟩, 0) : Num))
  have HB1 := Lib.hid hb1
  have hF1 := hFo.below hb1
  have HS := Lib.hid (shaped_ok _ hF1 hl hf k hk)
  rw [shapS_is hb hk] at HS
  unfold constT
  rcases hs : shapT L (trAt t fr k) with _ | _
  · rw [hs] at HS
    rw [if_neg (by simp)]
    simp only [numO] at HR1 HB1 HS
    clear hFo hf hb1 hF1 hs hg hb
    go_enter Tryz.func22, Tryz.ntmps22
    go_upto_region 1 with fail
    generalize w.alloc (.cells #[.string ⟨#[]⟩, .int .i64 0] 50) = w1 at *
    go_wp2_with (go_at_call 47; (with_reducible refine HS.out.mono ?_); rintro e w3 ⟨rfl, hb3⟩; have HB3 := Lib.hid hb3; clear hb3; obtain ⟨⟨r0, r1⟩, rf⟩ := (HR1.out.below HB3.out).cells; have f0 := rf 0; have f1 := rf 1; clear rf)
    exact bodyPost_ret (v := .tuple #[.agg #[.string ⟨#[]⟩, .int .i64 0], .bool false]) (by simp [results, Tryz.results22, go_sem, r0, r1]) rfl (evalNone rfl (below_set2 (HB1.out.trans (HB3.out.mono HB1.out.size)) (Nat.le_refl w.heap.size) _ _))
  · have HE := Lib.hid (fun w h => eval_ok (a := a) (cap := cap) (l := l) (lc := lc) (mv := mv) (b := b) (cb := cb) (f := f) (B := B) hl hf k ⟨hk, hg, hs⟩ w h)
    rw [hs] at HS
    rw [if_pos rfl]
    have HF := Lib.hid hF1
    simp only [numO] at HR1 HB1 HS HF
    clear hFo hf hb1 hF1 hs hg hb
    generalize hr : evalT L (trAt t fr k) = r at *
    clear hr
    go_enter Tryz.func22, Tryz.ntmps22
    go_upto_region 1 with fail
    generalize w.alloc (.cells #[.string ⟨#[]⟩, .int .i64 0] 50) = w1 at *
    rcases r with _ | ⟨rt, rn⟩
    · have HE := Lib.hid (fun w h => evalRaw0 (HE.out w h))
      go_wp2_with (first | (go_at_call 47; (with_reducible refine HS.out.mono ?_); rintro e w3 ⟨rfl, hb3⟩; have HB3 := Lib.hid hb3; clear hb3) | (go_at_call 48; (with_reducible refine (HE.out _ (HF.out.below HB3.out)).mono ?_); rintro e w4 ⟨⟨vt, vn, rfl⟩, hb4⟩; have HB4 := Lib.hid (HB3.out.trans (hb4.mono HB3.out.size)); clear hb4; obtain ⟨⟨r0, r1⟩, rf⟩ := (HR1.out.below HB4.out).cells; have f0 := rf 0; have f1 := rf 1; clear rf))
      exact bodyPost_ret (v := .tuple #[.agg #[.string vt, .int .i64 vn], .bool false]) (by simp [results, Tryz.results22, go_sem, r0, r1]) rfl (evalNone rfl (below_set2 (HB1.out.trans (HB4.out.mono HB1.out.size)) (Nat.le_refl w.heap.size) _ _))
    · have HE := Lib.hid (fun w h => evalRaw1 (HE.out w h))
      go_wp2_with (first | (go_at_call 47; (with_reducible refine HS.out.mono ?_); rintro e w3 ⟨rfl, hb3⟩; have HB3 := Lib.hid hb3; clear hb3) | (go_at_call 48; (with_reducible refine (HE.out _ (HF.out.below HB3.out)).mono ?_); rintro e w4 ⟨rfl, hb4⟩; have HB4 := Lib.hid (HB3.out.trans (hb4.mono HB3.out.size)); clear hb4; obtain ⟨⟨r0, r1⟩, rf⟩ := (HR1.out.below HB4.out).cells; have f0 := rf 0; have f1 := rf 1; clear rf))
      exact bodyPost_ret (v := .tuple #[.agg #[.string rt, .int .i64 rn], .bool true]) (by simp [results, Tryz.results22, go_sem, r0, r1]) rfl (evalSome rfl rfl (below_set2 (HB1.out.trans (HB4.out.mono HB1.out.size)) (Nat.le_refl w.heap.size) _ _))
end
end Go.Proofs.YtlcfejgjeljjdaaGreatDoor
namespace Go.Proofs.YtlcfejgjeljjdaaGreatDoor
open Go.RowKit

/-- what is wrong with a tree and structs -/
def startN (t : List Nd) (L : List Sr) : Int := if checkN9 t ≠ 0 then checkN9 t else if exprK (kindAt t (t.length - 1)) = false then 5 else (faultN L).2
/-- the tree that a list of nodes is -/
def trOf (t : List Nd) : Tr := trAt t ((beginsN t).getD []) (t.length - 1)
/-- what a constant expression comes to -/
def evalX (t : List Nd) (L : List Sr) : Int × ByteArray × Int := if startN t L ≠ 0 then (0, ⟨#[]⟩, startN t L) else match constT L (trOf t) with
  | none => (0, ⟨#[]⟩, 120)
  | some v => (v.2, v.1, 0)
theorem startN_0 {t : List Nd} {L : List Sr} (h : startN t L = 0) : checkN9 t = 0 ∧ exprK (kindAt t (t.length - 1)) = true ∧ (faultN L).2 = 0 := by
  unfold startN at h
  split at h
  · rename_i h1; exact absurd h h1
  rename_i h1
  split at h
  · cases h
  rename_i h2
  exact ⟨by simpa using h1, by simpa using h2, h⟩
theorem startN_good {t : List Nd} {L : List Sr} {fr : List Nat} (h : startN t L = 0) (hb : beginsN t = some fr) : GoodT (trAt t fr (t.length - 1)) := by
  obtain ⟨h1, h2, _⟩ := startN_0 h
  have := (formed_of hb).pos
  exact good_of h1 hb (by omega) h2
section
variable (a : Option Addr) (cap : Nat) (t : List Nd) (l : Option Addr) (lc : Nat) (L : List Sr) (mv : List Value) (w : World) (hE : TE w) (hI : IsNds w.heap.size w a t) (hOk : ∀ x ∈ t, NdOk x) (hz : t.length * 64 ≤ 140737488351232) (hS : IsSrs w.heap.size w l L mv)
/-- how start ends -/
def StartEnd (e : Ending) (w' : World) : Prop :=
  (if startN t L ≠ 0 then e = .returned (.tuple #[.pointer none, .int .i64 (startN t L)])
   else ∃ (f : Nat) (b : Option Addr) (cb : Nat) (fr : List Nat), e = .returned (.tuple #[.pointer (some ⟨f, 0, none⟩), .int .i64 0]) ∧ FoldAt w'.heap.size w' f a cap t l lc L mv b cb fr ∧ beginsN t = some fr) ∧ Below w.heap.size w w'
theorem startEnd_no {w' : World} {c : Int} (h : startN t L = c) (hc : c ≠ 0) (hb : Below w.heap.size w w') : StartEnd a cap t l lc L mv w (.returned (.tuple #[.pointer none, .int .i64 c])) w' := by
  unfold StartEnd
  rw [if_pos (by rw [h]; exact hc), h]
  exact ⟨rfl, hb⟩
include hE hI hOk hz hS
set_option maxHeartbeats 4000000 in
theorem start_ok : Calls Tryz.prog 21 #[.slice a t.length cap, .slice l L.length lc] w (StartEnd a cap t l lc L mv w) := by
  have hmx : (t.length : Int) ≤ 2199023255488 := by omega
  have HC := Lib.hid (treeCheck_ok a cap t w hE hI hOk hz)
  by_cases hc : checkN9 t = 0
  · rw [hc] at HC
    obtain ⟨fr, hbe, hG⟩ := check_formed hc
    have hle := hG.le
    obtain ⟨k, hk⟩ : ∃ k, t.length = k + 1 := ⟨t.length - 1, by have := hG.formed.pos; omega⟩
    have hk1 : (t.length : Int) - 1 = (k : Int) := by omega
    have hkl : k < t.length := by omega
    have hkd := kindAt_is (List.getElem?_eq_getElem hkl)
    obtain ⟨ba, off, ha, hbl, x0, _⟩ := nds_at hI hkl
    subst ha
    have HI := Lib.hid hI
    have HE := Lib.hid hE
    have HS := Lib.hid hS
    have HCx := Lib.hid (fun w' (h : Below w.heap.size w w') => show w'.cell? ⟨ba, off + k * 6, none⟩ = some (.int .i64 t[k].kind) from by rw [h.cell hbl]; exact x0)
    have HFl := Lib.hid hbe
    have HSN := Lib.hid (show startN t L = if exprK t[k].kind = false then 5 else (faultN L).2 from by unfold startN; rw [if_neg (show ¬ checkN9 t ≠ 0 by simp [hc]), hk, Nat.add_sub_cancel, hkd])
    have HFr := Lib.hid (fun w' (h : Below w.heap.size w w') => fronts_ok (some ⟨ba, off, none⟩) cap t fr w' ((HI.out.below h (Nat.le_refl _)).mono h.size) hle hbe)
    have HSt := Lib.hid (fun w' (h : Below w.heap.size w w') => structs_ok l lc L mv w' (HE.out.below h) ((HS.out.below h).mono h.size))
    unfold StructsEnd at HSt
    clear hE hI hOk hS hc hbe hG x0 hkd hk
    generalize hkk : t[k].kind = kk at *
    go_enter Tryz.func21, Tryz.ntmps21
    go_upto_region 4 with (go_at_call 44; (with_reducible refine HC.out.mono ?_); rintro e w1 ⟨rfl, hb1⟩; have HB1 := Lib.hid hb1; clear hb1)
    have x0 := HCx.out _ HB1.out
    by_cases hlo : kk < 1
    · have t1 : decide (kk < 1) = true := by simpa using hlo
      have HN := Lib.hid (show startN t L = 5 from by rw [HSN.out, if_pos (by unfold exprK; simp; omega)])
      clear hlo
      go_wp2_with fail
      go_ret2
      exact startEnd_no _ _ _ _ _ _ _ _ HN.out (by decide) HB1.out
    have t1 : decide (kk < 1) = false := by simpa using hlo
    by_cases hhi : 17 < kk
    · have t2 : decide (17 < kk) = true := by simpa using hhi
      have HN := Lib.hid (show startN t L = 5 from by rw [HSN.out, if_pos (by unfold exprK; simp; omega)])
      clear hhi hlo
      go_wp2_with fail
      go_ret2
      exact startEnd_no _ _ _ _ _ _ _ _ HN.out (by decide) HB1.out
    have t2 : decide (17 < kk) = false := by simpa using hhi
    have HN := Lib.hid (show startN t L = (faultN L).2 from by rw [HSN.out, if_neg (by unfold exprK; simp; omega)])
    clear hhi hlo
    generalize faultN L = fl at *
    obtain ⟨fi, fc⟩ := fl
    simp only at HSt HN
    have HS1 := Lib.hid (HSt.out _ HB1.out)
    go_upto_region 8 with (go_at_call 45; (with_reducible refine HS1.out.mono ?_); rintro e w2 ⟨rfl, hb2⟩; have HB2 := Lib.hid (HB1.out.trans (hb2.mono HB1.out.size)); clear hb2)
    obtain ⟨⟨q0, q1⟩, _⟩ := two_block (fault_blk w2 (.int .i64 fi) (.int .i64 fc))
    have HB3 := Lib.hid (HB2.out.alloc HB2.out.size (.cells #[.int .i64 fi, .int .i64 fc] 77))
    generalize w2.alloc (.cells #[.int .i64 fi, .int .i64 fc] 77) = w3 at *
    by_cases hf0 : fc = 0
    · subst hf0
      have HFr3 := Lib.hid (HFr.out _ HB3.out)
      go_upto_region 10 with fail
      go_wp2_with (go_at_call 46; (with_reducible refine HFr3.out.mono ?_); rintro e w4 ⟨⟨v, rfl, hrow⟩, hb4⟩; obtain ⟨pa, pc, rfl, hps, _⟩ := hrow.is; have HPs := Lib.hid hps; have HB4 := Lib.hid (HB3.out.trans (hb4.mono HB3.out.size)); clear hrow hps hb4)
      go_ret2
      have hbx : Below w4.heap.size w4 (w4.alloc (.cells #[.slice (some ⟨ba, off, none⟩) t.length cap, .slice l L.length lc, .slice pa fr.length pc] 82)) := ba1 _ _
      have hby := HB4.out.trans (hbx.mono HB4.out.size)
      unfold StartEnd
      rw [if_neg (show ¬ startN t L ≠ 0 by rw [HN.out]; simp)]
      exact ⟨⟨_, pa, pc, fr, rfl, ⟨heap_alloc_new _ _, by simp, (HI.out.below hby (Nat.le_refl _)).mono hby.size, (HPs.out.below hbx (Nat.le_refl _)).mono hbx.size, (HS.out.below hby).mono hby.size, HE.out.below hby, Nat.le_refl _⟩, HFl.out⟩, hby⟩
    · have t3 : (fc != 0) = true := by simpa using hf0
      have HN0 := Lib.hid hf0
      clear hf0
      go_upto_region 9 with fail
      go_quiet (fail)
      go_wp2_with fail
      go_ret2
      exact startEnd_no _ _ _ _ _ _ _ _ HN.out HN0.out (HB3.out.trans ((Below.drewN' _ _).mono HB3.out.size))
  · have HN := Lib.hid (show startN t L = checkN9 t from by unfold startN; rw [if_pos hc])
    have HN0 := Lib.hid hc
    have t1 : (checkN9 t != 0) = true := by simpa using hc
    clear hE hI hOk hS hc
    generalize checkN9 t = c at *
    go_enter Tryz.func21, Tryz.ntmps21
    go_wp2_with (go_at_call 44; (with_reducible refine HC.out.mono ?_); rintro e w1 ⟨rfl, hb1⟩; have HB1 := Lib.hid hb1; clear hb1)
    go_ret2
    exact startEnd_no _ _ _ _ _ _ _ _ HN.out HN0.out HB1.out
theorem start_0 (hc : startN t L = 0) : Calls Tryz.prog 21 #[.slice a t.length cap, .slice l L.length lc] w fun e w' => (∃ (f : Nat) (b : Option Addr) (cb : Nat) (fr : List Nat), e = .returned (.tuple #[.pointer (some ⟨f, 0, none⟩), .int .i64 0]) ∧ FoldAt w'.heap.size w' f a cap t l lc L mv b cb fr ∧ beginsN t = some fr) ∧ Below w.heap.size w w' :=
  (start_ok a cap t l lc L mv w hE hI hOk hz hS).mono fun e w' h => by unfold StartEnd at h; rw [if_neg (show ¬ startN t L ≠ 0 by simp [hc])] at h; exact h
theorem start_n (hc : startN t L ≠ 0) : Calls Tryz.prog 21 #[.slice a t.length cap, .slice l L.length lc] w fun e w' => e = .returned (.tuple #[.pointer none, .int .i64 (startN t L)]) ∧ Below w.heap.size w w' :=
  (start_ok a cap t l lc L mv w hE hI hOk hz hS).mono fun e w' h => by unfold StartEnd at h; rw [if_pos hc] at h; exact h
set_option maxHeartbeats 4000000 in
theorem evalC_ok : Calls Tryz.prog 8 #[.slice a t.length cap, .slice l L.length lc] w fun e w' => e = .returned (trip (evalX t L)) ∧ Below w.heap.size w w' := by
  have hmx : (t.length : Int) ≤ 2199023255488 := by omega
  by_cases hc : startN t L = 0
  · have HSt := Lib.hid (start_0 a cap t l lc L mv w hE hI hOk hz hS hc)
    obtain ⟨h1, _, _⟩ := startN_0 hc
    obtain ⟨fr, hbe, hG⟩ := check_formed h1
    have hpos := hG.formed.pos
    obtain ⟨k, hk⟩ : ∃ k, t.length = k + 1 := ⟨t.length - 1, by omega⟩
    have hk1 : (t.length : Int) - 1 = (k : Int) := by omega
    have HX := Lib.hid (show evalX t L = match constT L (trAt t fr k) with | none => (0, ⟨#[]⟩, 120) | some v => (v.2, v.1, 0) from by
      unfold evalX trOf; rw [if_neg (show ¬ startN t L ≠ 0 by simp [hc]), hbe, hk, Nat.add_sub_cancel]; rfl)
    have HCo := Lib.hid (fun (w' : World) (f : Nat) (b : Option Addr) (cb : Nat) (h : FoldAt w'.heap.size w' f a cap t l lc L mv b cb fr) => constant_ok hG.le hbe k (by omega) (by have := startN_good hc hbe; rw [hk, Nat.add_sub_cancel] at this; exact this) w' h)
    have HBe := Lib.hid hbe
    clear hE hI hOk hS hc hbe hG h1 hk
    generalize constT L (trAt t fr k) = r at *
    go_enter Tryz.func8, Tryz.ntmps8
    go_upto_region 4 with (go_at_call 21; (with_reducible refine HSt.out.mono ?_); rintro e w1 ⟨⟨f, b, cb, fr', rfl, hfo, hbe'⟩, hb1⟩; have HFo := Lib.hid hfo; have HBe' := Lib.hid hbe'; have HB1 := Lib.hid hb1; clear hfo hbe' hb1)
    obtain rfl : fr' = fr := Option.some.inj (HBe'.out.symm.trans HBe.out)
    have HC1 := Lib.hid (HCo.out w1 f b cb HFo.out)
    rcases r with _ | ⟨rt, rn⟩
    · have HC2 := Lib.hid (evalRaw0 HC1.out)
      go_wp2_with (go_at_call 22; (with_reducible refine HC2.out.mono ?_); rintro e w4 ⟨⟨vt, vn, rfl⟩, hb4⟩; have HB4 := Lib.hid (HB1.out.trans (hb4.mono HB1.out.size)); clear hb4)
      go_ret3
      exact ⟨by rw [HX.out]; rfl, HB4.out.alloc HB4.out.size _⟩
    · have HC2 := Lib.hid (evalRaw1 HC1.out)
      go_upto_region 7 with (go_at_call 22; (with_reducible refine HC2.out.mono ?_); rintro e w4 ⟨rfl, hb4⟩; have HB4 := Lib.hid (HB1.out.trans (hb4.mono HB1.out.size)); clear hb4)
      obtain ⟨⟨q0, q1⟩, _⟩ := (numAt_new w4 (rt, rn)).cells
      go_quiet (fail)
      go_wp2_with fail
      go_ret3
      exact ⟨by rw [HX.out]; rfl, (HB4.out.alloc HB4.out.size _).trans ((Below.drewN' _ _).mono (HB4.out.alloc HB4.out.size _).size)⟩
  · have HSt := Lib.hid (start_n a cap t l lc L mv w hE hI hOk hz hS hc)
    have HX := Lib.hid (show evalX t L = (0, ⟨#[]⟩, startN t L) from by unfold evalX; rw [if_pos hc])
    have t1 : (startN t L != 0) = true := by simpa using hc
    clear hE hI hOk hS hc
    generalize startN t L = c at *
    go_enter Tryz.func8, Tryz.ntmps8
    go_wp2_with (go_at_call 21; (with_reducible refine HSt.out.mono ?_); rintro e w1 ⟨rfl, hb1⟩; have HB1 := Lib.hid hb1; clear hb1)
    go_ret3
    exact ⟨by rw [HX.out]; rfl, HB1.out⟩
end
end Go.Proofs.YtlcfejgjeljjdaaGreatDoor
