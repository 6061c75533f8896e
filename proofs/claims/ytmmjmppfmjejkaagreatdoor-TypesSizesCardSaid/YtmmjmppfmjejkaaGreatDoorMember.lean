/- A member of a struct: the program. -/
import Derived.Test.YtmmjmppfmjejkaaGreatDoorPlaces
namespace Go.Proofs.YtmmjmppfmjejkaaGreatDoor
open Go.RowKit Go.Maps

set_option maxHeartbeats 1000000 in
theorem mem_clo (n ty s : ByteArray) (p : Nat) (w : World) (hp : w.cell? ⟨p, 0, none⟩ = some (.string s)) :
    Calls Tryz.prog 53 #[.agg #[.string n, .string ty], .pointer (some ⟨p, 0, none⟩)] w fun e w' => e = .returned (.bool (decide (n = s))) ∧ Below w.heap.size w w' := by
  have hlt := World.block_lt_of_cell? w _ hp
  simp only at hlt
  by_cases h : n = s
  · subst h
    rw [decide_eq_true rfl]
    go_enter Tryz.func53, Tryz.ntmps53
    go_wp2_with fail
    go_ret
    exact ⟨rfl, (Below.refl _ _).alloc (Nat.le_refl _) _⟩
  · rw [decide_eq_false h]
    have h1 : (n.toList == s.toList) = false := by
      rw [str_eqb, decide_eq_false h]
    clear h
    go_enter Tryz.func53, Tryz.ntmps53
    go_wp2_with fail
    go_ret
    exact ⟨rfl, (Below.refl _ _).alloc (Nat.le_refl _) _⟩

def memIdx (L : List (ByteArray × ByteArray)) (s : ByteArray) : Int := match L.findIdx? (fun m => decide (m.1 = s)) with
  | some i => (i : Nat)
  | none => -1
set_option maxHeartbeats 2000000 in
theorem idx_mem (L : List (ByteArray × ByteArray)) (s : ByteArray) (p cap : Nat) (a : Option Addr) (w : World) (hp : w.cell? ⟨p, 0, none⟩ = some (.string s)) (hr : L ≠ [] → ∃ b off, a = some ⟨b, off, none⟩ ∧ b < w.heap.size ∧ MemRow w b off L) (hl : L.length ≤ 64) :
    Calls Tryz.prog 52 #[.slice a L.length cap, .func (.func 53) #[] #[.pointer (some ⟨p, 0, none⟩)]] w fun e w' => e = .returned (.int .i64 (memIdx L s)) ∧ Below w.heap.size w w' := by
  have hlt := World.block_lt_of_cell? w _ hp
  simp only at hlt
  have HP := Lib.hid hp
  have HR := Lib.hid hr
  clear hp hr
  go_enter Tryz.func52, Tryz.ntmps52
  go_wp2_with fail
  go_loopg [8] L.length (fun g v8 wy => ∃ k : Nat, k ≤ L.length ∧ k + g = L.length ∧ v8 = .int .i64 (k : Int) ∧ Hid (∀ j (hj : j < L.length), j < k → L[j].1 ≠ s) ∧ Hid (Below w.heap.size w wy))
  case atStart => exact ⟨0, by omega, by omega, rfl, fun j _ h => by omega, Below.refl _ _⟩
  case round =>
    obtain ⟨k, hk, hkg, rfl, hno, HB⟩ := hrel
    by_cases hlk : k < L.length
    · obtain ⟨bb, off, ha, hbl, hrow⟩ := HR.out (fun e => by rw [e] at hlk; simp at hlk)
      subst ha
      obtain ⟨e1, e2⟩ := hrow k _ (List.getElem?_eq_getElem hlk)
      rw [← HB.out.cell hbl] at e1 e2
      have HC := Lib.hid (mem_clo L[k].1 L[k].2 s p wr (by rw [HB.out.cell (p := ⟨p, 0, none⟩) hlt]; exact HP.out))
      by_cases h : L[k].1 = s
      · have hfin := Lib.hid (show memIdx L s = (k : Int) by
          have : L.findIdx? (fun m => decide (m.1 = s)) = some k := by
            rw [List.findIdx?_eq_some_iff_getElem]
            exact ⟨hlk, by simpa using h, fun j hj => by simpa using hno.out j (by omega) hj⟩
          unfold memIdx; rw [this])
        rw [decide_eq_true h] at HC
        clear h hrow hno
        generalize L[k]'hlk = mj at *
        obtain ⟨mn, mt⟩ := mj
        simp only at e1 e2
        go_wp2_with (go_at_call 53; (with_reducible refine HC.out.mono ?_); rintro e w2 ⟨rfl, hb2⟩; have HB2 := Lib.hid hb2; clear hb2)
        go_ret
        exact ⟨by rw [hfin.out]; rfl, HB.out.trans (HB2.out.mono HB.out.size)⟩
      · have HN := Lib.hid (show ∀ j (hj : j < L.length), j < k + 1 → L[j].1 ≠ s from fun j hj hjk => by
          rcases Nat.lt_or_ge j k with h' | h'
          · exact hno.out j hj h'
          · obtain rfl : j = k := by omega
            exact h)
        rw [decide_eq_false h] at HC
        clear h hrow hno
        generalize L[k]'hlk = mj at *
        obtain ⟨mn, mt⟩ := mj
        simp only at e1 e2
        go_wp2_with (go_at_call 53; (with_reducible refine HC.out.mono ?_); rintro e w2 ⟨rfl, hb2⟩; have HB2 := Lib.hid (HB.out.trans (hb2.mono HB.out.size)); clear hb2)
        go_roundg (L.length - (k + 1))
        case measure => omega
        case rel => exact ⟨k + 1, by omega, by omega, by rw [Int.natCast_add]; rfl, HN.out, HB2.out⟩
    · obtain rfl : k = L.length := by omega
      have hfin := Lib.hid (show memIdx L s = -1 by
        have : L.findIdx? (fun m => decide (m.1 = s)) = none := by
          rw [List.findIdx?_eq_none_iff]
          intro m hm
          obtain ⟨j, hj, rfl⟩ := List.getElem_of_mem hm
          simpa using hno.out j hj hj
        unfold memIdx; rw [this])
      have t3 : (L.length : Int) ≤ (L.length : Int) := Int.le_refl _
      go_wp2_with fail
      go_ret
      exact ⟨by rw [hfin.out]; rfl, HB.out⟩

/-- a member's place, its type, what is wrong -/
def memberR (L : List Sr) (n m : ByteArray) : Int × ByteArray × Int := match learnK L with
  | .inl p => (0, ⟨#[]⟩, p.2)
  | .inr K => match findK K n.data.toList with
    | none => (0, ⟨#[]⟩, 4)
    | some i => match L[i]? with
      | none => (0, ⟨#[]⟩, 4)
      | some x => match x.mems.findIdx? (fun q => decide (q.1 = m)) with
        | none => (0, ⟨#[]⟩, 4)
        | some j => (((placesK K x.mems 0)[j]?.getD 0 : Nat), (x.mems[j]?.map Prod.snd).getD ⟨#[]⟩, 0)
theorem learnF_map : ∀ (l : List Sr) (K0 : List Kn) {K : List Kn}, learnF K0 l = .inr K → K.map (·.toSr) = K0.map (·.toSr) ++ l
  | [], K0, K, h => by rw [learnF] at h; obtain rfl := Sum.inr.inj h; simp
  | x :: l, K0, K, h => by
    rw [learnF] at h
    split at h
    · cases h
    · rename_i k hk
      rw [learnF_map l _ h, List.map_append]
      simp [(addK_bd hk).1]
theorem learnK_map {L : List Sr} {K : List Kn} (h : learnK L = .inr K) : K.length = L.length := by
  unfold learnK at h
  split at h
  · cases h
  · have := congrArg List.length (learnF_map L [] h)
    simpa using this
theorem member_struct {L : List Sr} {n m : ByteArray} {i : Nat} {c : Int} (h : learnK L = .inl (i, c)) : memberR L n m = (0, ⟨#[]⟩, c) := by unfold memberR; rw [h]
theorem member_no {L : List Sr} {n m : ByteArray} {K : List Kn} (h : learnK L = .inr K) (hf : (lookV K n.data.toList).2 = false) : memberR L n m = (0, ⟨#[]⟩, 4) := by
  rw [lookV_two] at hf
  have hk : findK K n.data.toList = none := by simpa using hf
  unfold memberR; rw [h]
  simp only [hk]
theorem member_none {L : List Sr} {n m : ByteArray} {K : List Kn} {i : Nat} {x : Sr} (h : learnK L = .inr K) (hf : findK K n.data.toList = some i) (hx : L[i]? = some x) (hj : x.mems.findIdx? (fun q => decide (q.1 = m)) = none) : memberR L n m = (0, ⟨#[]⟩, 4) := by
  unfold memberR; rw [h]
  simp only [hf, hx, hj]
theorem member_yes {L : List Sr} {n m : ByteArray} {K : List Kn} {i j : Nat} {x : Sr} {r : Nat} {q : ByteArray × ByteArray} (h : learnK L = .inr K) (hf : findK K n.data.toList = some i) (hx : L[i]? = some x) (hj : x.mems.findIdx? (fun q => decide (q.1 = m)) = some j)
    (hr : (placesK K x.mems 0)[j]? = some r) (hq : x.mems[j]? = some q) : memberR L n m = ((r : Int), q.2, 0) := by
  unfold memberR; rw [h]
  simp only [hf, hx, hj, hr, hq]
  rfl
theorem row_at {w : World} {B n j : Nat} {e : TypeId} {v u : Value} {xs : List Value} (h : w.ownsRow B e 1 v n xs) (hj : xs[j]? = some u) : ∃ g cap, v = .slice (some ⟨g, 0, none⟩) n cap ∧ w.cell? ⟨g, j, none⟩ = some u := by
  rcases h.2 with ⟨_, hn⟩ | ⟨g, cap, cur, rfl, _⟩
  · have h1 := h.1
    have h2 := (List.getElem?_eq_some_iff.1 hj).1
    omega
  · have hc := h.cells (g := g) rfl j u hj
    have hadd : (⟨g, 0, none⟩ : Addr).add j = ⟨g, j, none⟩ := by unfold Addr.add; split <;> simp_all
    rw [hadd] at hc
    exact ⟨g, cap, rfl, hc⟩
theorem look_some {K : List Kn} {s : List UInt8} (hf : (lookV K s).2 = true) : ∃ i, findK K s = some i ∧ i < K.length ∧ (lookV K s).1 = (i : Nat) := by
  rw [lookV_two] at hf
  obtain ⟨i, hi⟩ := Option.isSome_iff_exists.1 hf
  exact ⟨i, hi, find_lt hi, by unfold lookV; rw [hi]⟩
theorem memIdx_no {L : List (ByteArray × ByteArray)} {s : ByteArray} (h : L.findIdx? (fun q => decide (q.1 = s)) = none) : memIdx L s = -1 := by unfold memIdx; rw [h]
theorem memIdx_some {L : List (ByteArray × ByteArray)} {s : ByteArray} {j : Nat} (h : L.findIdx? (fun q => decide (q.1 = s)) = some j) : memIdx L s = (j : Int) := by unfold memIdx; rw [h]

set_option maxRecDepth 100000 in
set_option maxHeartbeats 8000000 in
/-- types.Member -/
theorem member_ok (n m : ByteArray) (a : Option Addr) (cap : Nat) (L : List Sr) (mv : List Value) (w : World) (hE : TE w) (hS : IsSrs w.heap.size w a L mv) (hn : n.size ≤ maxLen)
    (hok : ∀ K, learnK L = .inr K → ∀ x ∈ L, MemsOk K x.mems) :
    Calls Tryz.prog 31 #[.slice a L.length cap, .string n, .string m] w fun e w' => e = .returned (.tuple #[.int .i64 (memberR L n m).1, .string (memberR L n m).2.1, .int .i64 (memberR L n m).2.2]) ∧ Below w.heap.size w w' := by
  have hg0 : Below w.heap.size w (w.alloc (.cells #[.string m] 9)) := (Below.refl _ _).alloc (Nat.le_refl _) _
  have hx0 : (w.alloc (.cells #[.string m] 9)).heap[w.heap.size]? = some (.cells #[.string m] 9 (0, 0)) := heap_alloc_new _ _
  have hS0 := hS.below hg0
  have HE := Lib.hid (hE.below hg0)
  have HS := Lib.hid hS0
  have HG0 := Lib.hid hg0
  have HX0 := Lib.hid hx0
  have HOk := Lib.hid hok
  have hz0 := lt_of_heap hx0
  have HL := Lib.hid (learn_ok a cap L mv (w.alloc (.cells #[.string m] 9)) (hE.below hg0) ⟨hS0.len, (fun h => (by obtain ⟨b, off, e, hlt, hr⟩ := hS0.at_ h; exact ⟨b, off, e, by omega, fun i x v hi hv => (by obtain ⟨h1, h2, h3⟩ := hr i x v hi hv; exact ⟨h1, h2, h3.mono (by omega)⟩)⟩)), hS0.names⟩)
  clear hE hS hg0 hx0 hS0 hok
  go_enter Tryz.func31, Tryz.ntmps31
  go_upto_region 1 with fail
  generalize w.alloc (.cells #[.string m] 9) = w0 at *
  go_wp2_with (go_at_call 33; (with_reducible refine HL.out.mono ?_))
  intro e w1 hend
  obtain ⟨hb1, ⟨i, c, hl, hc, rfl⟩ | ⟨K, b, mb, lv, sv, av, hl, rfl, hF, hkn⟩⟩ := hend
  · have hfin := Lib.hid (member_struct (n := n) (m := m) hl)
    have t1 : (c != 0) = true := by simp [hc]
    have HB1 := Lib.hid hb1
    clear hl hc hb1
    go_wp2_with fail
    go_quiet (fail)
    go_wp2
    exact bodyPost_ret (v := .tuple #[.int .i64 0, .string ⟨#[]⟩, .int .i64 c]) (by simp [results, Tryz.results31, go_sem]) rfl ⟨by rw [hfin.out], HG0.out.trans ((blw_drewN (HB1.out.alloc HB1.out.size _) _).mono HG0.out.size)⟩
  · have hg : Below (w1.heap.size) w1 (w1.alloc (.cells #[.int .i64 0, .int .i64 0] 27)) := (Below.refl _ _).alloc (Nat.le_refl _) _
    have hb2 := hb1.trans (hg.mono hb1.size)
    have hk2 := hkn.below hg
    have hlook := hk2.names.look hn
    obtain ⟨_, c1, _, _⟩ := hk2.cells
    have hx2 := (hb2.block _ hz0).trans HX0.out
    have hmap := learnK_map hl
    generalize hw2 : w1.alloc (.cells #[.int .i64 0, .int .i64 0] 27) = w2 at *
    have HW2 := Lib.hid hw2
    have hz1 : w0.heap.size ≤ w1.heap.size := hb1.size
    have HB2 := Lib.hid hb2
    have HK2 := Lib.hid hk2
    have HLk := Lib.hid hl
    have HFt := Lib.hid hF
    have x2 : w2.cell? ⟨w.heap.size, 0, none⟩ = some (.string m) := by simp [World.cell?, hx2]
    clear hkn hb1 hg hb2 hk2 hl hF hx2
    rcases hlv : lookV K n.data.toList with ⟨li, lf⟩
    rw [hlv] at hlook
    rw [← hw2] at hlook
    cases lf with
    | false =>
      have hfin := Lib.hid (member_no (n := n) (m := m) HLk.out (by rw [hlv]))
      clear hlv
      rw [← hw2] at c1
      clear hw2
      go_wp2_with fail
      rw [HW2.out]
      exact bodyPost_ret (v := .tuple #[.int .i64 0, .string ⟨#[]⟩, .int .i64 4]) (by simp [results, Tryz.results31, go_sem]) rfl ⟨by rw [hfin.out], HG0.out.trans (HB2.out.mono HG0.out.size)⟩
    | true =>
      obtain ⟨i, hfi, hiK, hli⟩ := look_some (K := K) (s := n.data.toList) (by rw [hlv])
      rw [hlv] at hli
      simp only at hli
      subst hli
      have hiL : i < L.length := by omega
      obtain ⟨bb, off, ha, hbl, hrow⟩ := HS.out.at_ (fun e => by rw [e] at hiL; simp at hiL)
      subst ha
      have him : i < mv.length := by rw [HS.out.len]; exact hiL
      obtain ⟨e1, e2, hms⟩ := hrow i _ _ (List.getElem?_eq_getElem hiL) (List.getElem?_eq_getElem him)
      have hMo := HOk.out K HLk.out _ (List.getElem_mem hiL)
      have hxi := List.getElem?_eq_getElem hiL
      generalize L[i]'hiL = x at *
      generalize mv[i]'him = ms at *
      rw [← HB2.out.cell (p := ⟨bb, off + i * 2, none⟩) (by simp only; omega)] at e1
      rw [← HB2.out.cell (p := ⟨bb, off + i * 2 + 1, none⟩) (by simp only; omega)] at e2
      have hms2 := hms.below HB2.out (by omega)
      obtain ⟨am, cm, rfl, hmr⟩ := hms2
      have HMs := Lib.hid (show IsMems w.heap.size w2 (.slice am x.mems.length cm) x.mems from ⟨am, cm, rfl, hmr⟩)
      have HMr := Lib.hid hmr
      have HIx := Lib.hid (idx_mem x.mems m w.heap.size cm am w2 x2 (fun h => (by obtain ⟨b', o', e, hlt, hr⟩ := hmr h; exact ⟨b', o', e, by have := HB2.out.size; omega, hr⟩)) hMo.1)
      have HMo := Lib.hid hMo
      have HE1 := Lib.hid e1
      have HE2 := Lib.hid e2
      have HFi := Lib.hid hfi
      have HXi := Lib.hid hxi
      rw [← hw2] at c1 e1 e2 HIx
      clear hrow hms hmr hlv him hfi hxi hMo hw2
      rcases hj : x.mems.findIdx? (fun q => decide (q.1 = m)) with _ | j
      · have hfin := Lib.hid (member_none (n := n) (m := m) HLk.out HFi.out HXi.out hj)
        rw [memIdx_no hj] at HIx
        clear hj
        go_wp2_with (go_at_call 52; (with_reducible refine HIx.out.mono ?_); rintro e w3 ⟨rfl, hb3⟩; have HB3 := Lib.hid hb3; clear hb3)
        exact bodyPost_ret (v := .tuple #[.int .i64 0, .string ⟨#[]⟩, .int .i64 4]) (by simp [results, Tryz.results31, go_sem]) rfl ⟨by rw [hfin.out], (HG0.out.trans (HB2.out.mono HG0.out.size)).trans (by have h := HB3.out; rw [HW2.out] at h; exact h.mono (Nat.le_trans HG0.out.size HB2.out.size))⟩
      · rw [memIdx_some hj] at HIx
        have hjl : j < x.mems.length := by
          rw [List.findIdx?_eq_some_iff_getElem] at hj
          exact hj.1
        have hpl : j < (placesK K x.mems 0).length := by rw [placesK_length]; exact hjl
        have hfin := Lib.hid (member_yes (n := n) (m := m) HLk.out HFi.out HXi.out hj (List.getElem?_eq_getElem hpl) (List.getElem?_eq_getElem hjl))
        have HPl := Lib.hid (List.getElem?_eq_getElem hpl)
        obtain ⟨bm, om, ham, hbm, hmrow⟩ := HMr.out (fun e => by rw [e] at hjl; simp at hjl)
        subst ham
        have hty := (hmrow j _ (List.getElem?_eq_getElem hjl)).2
        generalize x.mems[j]'hjl = mj at *
        obtain ⟨mx, my⟩ := mj
        have HTy := Lib.hid hty
        clear hj hmrow hty
        go_upto_region 10 with (go_at_call 52; (with_reducible refine HIx.out.mono ?_); rintro e w3 ⟨rfl, hb3⟩; have HB3 := Lib.hid hb3; clear hb3)
        have h3 : Below w2.heap.size w2 w3 := by have h := HB3.out; rw [HW2.out] at h; exact h
        have h4 : Below w2.heap.size w2 w3.drew := h3.drew
        have s0 : w3.drew.cell? ⟨bb, off + i * 2, none⟩ = some (.string x.name) := by rw [h4.cell (by simp only; have := HB2.out.size; omega)]; exact HE1.out
        have s1 : w3.drew.cell? ⟨bb, off + i * 2 + 1, none⟩ = some (.slice (some ⟨bm, om, none⟩) x.mems.length cm) := by rw [h4.cell (by simp only; have := HB2.out.size; omega)]; exact HE2.out
        have s2 : w3.drew.cell? ⟨bm, om + j * 2 + 1, none⟩ = some (.string my) := by rw [h4.cell (by simp only; have := HB2.out.size; omega)]; exact HTy.out
        have HB4 := Lib.hid h4
        have HPc := Lib.hid (places_ok x.name x.mems (.slice (some ⟨bm, om, none⟩) x.mems.length cm) w3.drew (HE.out.below (HB2.out.trans (h4.mono HB2.out.size))) (HK2.out.below h4) HFt.out ((HMs.out.below h4 (Nat.le_trans HG0.out.size HB2.out.size)).mono (Nat.le_trans (Nat.le_trans HG0.out.size HB2.out.size) h4.size)) HMo.out)
        clear h3 h4 c1 e1 e2 x2
        refine wp_region_any (by kernel_rfl) ?_
        change wpAny _ _ _ _ _ _ _ (World.drew _)
        generalize w3.drew = w4 at *
        refine wpAny_take (i := 0) (v := .pointer (some ⟨b, 0, none⟩)) rfl (by kernel_rfl) (by kernel_rfl) (by kernel_rfl) (fun _ _ _ h => h) (Or.inl ⟨by rfl, fun w => by go_simp⟩) ?_
        refine wpAny_take (i := 1) (v := .slice (some ⟨bb, off, none⟩) L.length cap) rfl (by kernel_rfl) (by kernel_rfl) (by kernel_rfl) (fun _ _ _ h => h) (Or.inl ⟨by rfl, fun w => by go_simp⟩) ?_
        refine wpAny_take (i := 2) (v := .int .i64 (i : Int)) rfl (by kernel_rfl) (by kernel_rfl) (by kernel_rfl) (fun _ _ _ h => h) (Or.inl ⟨by rfl, fun w => by go_simp⟩) ?_
        refine wpAny_take (i := 3) (v := .pointer (some ⟨bb, off + i * 2, none⟩)) rfl (by kernel_rfl) (by kernel_rfl) (by kernel_rfl) (fun _ _ _ h => h) (Or.inl ⟨by rfl, fun w => by go_simp⟩) ?_
        refine wpAny_take (i := 6) (v := .int .i64 (j : Int)) rfl (by kernel_rfl) (by kernel_rfl) (by kernel_rfl) (fun _ _ _ h => h) (Or.inl ⟨by rfl, fun w => by go_simp⟩) ?_
        refine wpAny_take (i := 9) (v := .slice (some ⟨bb, off, none⟩) L.length cap) rfl (by kernel_rfl) (by kernel_rfl) (by kernel_rfl) (fun _ _ _ h => h) (Or.inl ⟨by rfl, fun w => by go_simp⟩) ?_
        refine wpAny_take (i := 10) (v := .int .i64 (i : Int)) rfl (by kernel_rfl) (by kernel_rfl) (by kernel_rfl) (fun _ _ _ h => h) (Or.inl ⟨by rfl, fun w => by go_simp⟩) ?_
        refine wpAny_take (i := 11) (v := .pointer (some ⟨bb, off + i * 2, none⟩)) rfl (by kernel_rfl) (by kernel_rfl) (by kernel_rfl) (fun _ _ _ h => h) (Or.inl ⟨by rfl, fun w => by go_simp⟩) ?_
        refine wpAny_take (i := 12) (v := .pointer (some ⟨bb, off + i * 2 + 1, none⟩)) rfl (by kernel_rfl) (by kernel_rfl) (by kernel_rfl) (fun _ _ _ h => h) (Or.inl ⟨by rfl, fun w => by go_simp⟩) ?_
        refine wpAny_take (i := 14) (v := .int .i64 (j : Int)) rfl (by kernel_rfl) (by kernel_rfl) (by kernel_rfl) (fun _ _ _ h => h) (Or.inl ⟨by rfl, fun w => by go_simp⟩) ?_
        refine wpAny_of_T (S := fun w' => w'.cell? ⟨bb, off + i * 2, none⟩ = some (.string x.name) ∧ w'.cell? ⟨bb, off + i * 2 + 1, none⟩ = some (.slice (some ⟨bm, om, none⟩) x.mems.length cm) ∧ w'.cell? ⟨bm, om + j * 2 + 1, none⟩ = some (.string my)) (T := ([] : List Nat).contains) _ _ _ _ ?_
        refine wpAnyT_take (i := 4) (v := .agg #[.string x.name, .slice (some ⟨bm, om, none⟩) x.mems.length cm]) rfl (by kernel_rfl) (by kernel_rfl) (by kernel_rfl) (by kernel_rfl) (by kernel_rfl) (fun _ _ _ h => h) ⟨s0, s1, s2⟩ (Or.inl ⟨by rfl, ?_⟩) ?_
        · intro w5 hS
          have s0 := hS.1
          have s1 := hS.2.1
          have s2 := hS.2.2
          clear hS
          go_simp
          exact ⟨rfl, rfl⟩
        refine wpAnyT_take (i := 13) (v := .slice (some ⟨bm, om, none⟩) x.mems.length cm) rfl (by kernel_rfl) (by kernel_rfl) (by kernel_rfl) (by kernel_rfl) (by kernel_rfl) (fun _ _ _ h => h) ⟨s0, s1, s2⟩ (Or.inl ⟨by rfl, ?_⟩) ?_
        · intro w5 hS
          have s0 := hS.1
          have s1 := hS.2.1
          have s2 := hS.2.2
          clear hS
          go_simp
          exact ⟨rfl, rfl⟩
        refine wpAnyT_take (i := 15) (v := .pointer (some ⟨bm, om + j * 2, none⟩)) rfl (by kernel_rfl) (by kernel_rfl) (by kernel_rfl) (by kernel_rfl) (by kernel_rfl) (fun _ _ _ h => h) ⟨s0, s1, s2⟩ (Or.inl ⟨by rfl, ?_⟩) ?_
        · intro w5 hS
          have s0 := hS.1
          have s1 := hS.2.1
          have s2 := hS.2.2
          clear hS
          go_simp
          exact ⟨rfl, rfl⟩
        refine wpAnyT_take (i := 16) (v := .pointer (some ⟨bm, om + j * 2 + 1, none⟩)) rfl (by kernel_rfl) (by kernel_rfl) (by kernel_rfl) (by kernel_rfl) (by kernel_rfl) (fun _ _ _ h => h) ⟨s0, s1, s2⟩ (Or.inl ⟨by rfl, ?_⟩) ?_
        · intro w5 hS
          have s0 := hS.1
          have s1 := hS.2.1
          have s2 := hS.2.2
          clear hS
          go_simp
          exact ⟨rfl, rfl⟩
        refine wpAnyT_take (i := 17) (v := .string my) rfl (by kernel_rfl) (by kernel_rfl) (by kernel_rfl) (by kernel_rfl) (by kernel_rfl) (fun _ _ _ h => h) ⟨s0, s1, s2⟩ (Or.inl ⟨by rfl, ?_⟩) ?_
        · intro w5 hS
          have s0 := hS.1
          have s1 := hS.2.1
          have s2 := hS.2.2
          clear hS
          go_simp
          exact ⟨rfl, rfl⟩
        refine wpAnyT_one (i := 5) (by kernel_rfl) ?_
        refine wpOp_keep rfl (by rfl) (fun K' hK' => ?_)
        go_simp
        with_reducible refine HPc.out.mono ?_
        rintro e w5 ⟨v, rfl, hrow, hb5⟩
        have hz4 := HB4.out.size
        have t0 : w5.cell? ⟨bb, off + i * 2, none⟩ = some (.string x.name) := by rw [hb5.cell (by simp only; have := HB2.out.size; omega)]; exact s0
        have t1 : w5.cell? ⟨bb, off + i * 2 + 1, none⟩ = some (.slice (some ⟨bm, om, none⟩) x.mems.length cm) := by rw [hb5.cell (by simp only; have := HB2.out.size; omega)]; exact s1
        have t2 : w5.cell? ⟨bm, om + j * 2 + 1, none⟩ = some (.string my) := by rw [hb5.cell (by simp only; have := HB2.out.size; omega)]; exact s2
        obtain ⟨g, cp, rfl, hrc⟩ := row_at hrow (j := j) (by rw [List.getElem?_map, HPl.out]; rfl)
        have HB5 := Lib.hid hb5
        generalize (placesK K x.mems 0)[j]'hpl = r at *
        refine hK' _ _ ⟨t0, t1, t2⟩ ?_
        clear hK' K' hrow hb5 s0 s1 s2
        refine wpAnyT_one (i := 7) (by kernel_rfl) ?_
        refine wpOp_keep rfl (by rfl) (fun K' hK' => ?_)
        go_simp
        refine hK' _ _ ⟨t0, t1, t2⟩ ?_
        clear hK' K'
        refine wpAnyT_one (i := 8) (by kernel_rfl) ?_
        refine wpOp_keep rfl (by rfl) (fun K' hK' => ?_)
        go_simp
        refine hK' _ _ ⟨t0, t1, t2⟩ ?_
        clear hK' K'
        refine wpAnyT_one (i := 18) (by kernel_rfl) ?_
        refine wpOp_keep rfl (by rfl) (fun K' hK' => ?_)
        go_simp
        refine hK' _ _ ⟨t0, t1, t2⟩ ?_
        clear hK' K'
        refine wpAnyT_one (i := 19) (by kernel_rfl) ?_
        refine wpOp_keep rfl (by rfl) (fun K' hK' => ?_)
        go_simp
        refine hK' _ _ ⟨t0, t1, t2⟩ ?_
        clear hK' K'
        refine wpAnyT_one (i := 20) (by kernel_rfl) ?_
        refine wpOp_keep rfl (by rfl) (fun K' hK' => ?_)
        go_simp
        refine hK' _ _ ⟨t0, t1, t2⟩ ?_
        clear hK' K'
        refine ⟨by kernel_rfl, ?_⟩
        go_wp2_with fail
        exact bodyPost_ret (v := .tuple #[.int .i64 (r : Int), .string my, .int .i64 0]) (by simp [results, Tryz.results31, go_sem]) rfl ⟨by rw [hfin.out], (HG0.out.trans (HB2.out.mono HG0.out.size)).trans ((HB4.out.mono (Nat.le_trans HG0.out.size HB2.out.size)).trans (HB5.out.mono (Nat.le_trans (Nat.le_trans HG0.out.size HB2.out.size) HB4.out.size)))⟩
end Go.Proofs.YtmmjmppfmjejkaaGreatDoor
