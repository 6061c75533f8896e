/- An expression laid out: the program. · An expression's layout: PrintExpr, the program. · Some of the chapter's examples: the law's works. · Trees put together; trees the same but for places. Plain: nothing of the program. -/
import Derived.Test.YtkokdafkjjcgoaaGreatDoorPrintEA
import Derived.Test.YtkokdafkjjcgoaaGreatDoorPrintEB
import Derived.Test.YtkokdafkjjcgoaaGreatDoorPrintEC
import Derived.Test.YtkokdafkjjcgoaaGreatDoorPrintED
import Derived.Test.YtkokdafkjjcgoaaGreatDoorMg23
import Derived.Test.YtkokdafkjjcgoaaGreatDoorMg22
import Derived.Test.YtkokdafkjjcgoaaGreatDoorMg10
namespace Go.Proofs.YtkokdafkjjcgoaaGreatDoor

theorem expr9_ok {pb : Nat} {a b : Option Addr} {cap capb : Nat} {t : List Nd} {fr : List Nat} (hR : Right9 t fr) : ∀ (m k : Nat), k < m → k < t.length → exprK (kindAt t k) = true → Puts pb a t b fr 53 #[prV pb a t.length cap b fr.length capb, .int .i64 (k : Int)] (exprN t fr k)
  | 0, k, hm, _, _ => by omega
  | m + 1, k, hm, hk, he => by
    have HA := Lib.hid (fun due p (hp : p ∈ partsAt t fr k) => part9_ok (cap := cap) (capb := capb) (pb := pb) (a := a) (b := b) (by have := (hR.expr hk he p hp).1; omega) (hR.expr hk he p hp).2 (expr9_ok hR m p (by have := (hR.expr hk he p hp).1; omega) (by have := (hR.expr hk he p hp).1; omega) (hR.expr hk he p hp).2) due)
    have hc := exprKinds he
    by_cases ha : kindAt t k = 1 ∨ kindAt t k = 2 ∨ kindAt t k = 3 ∨ kindAt t k = 17
    · exact expr9_a hR k hk ha HA
    by_cases hb : kindAt t k = 4 ∨ kindAt t k = 5 ∨ kindAt t k = 15 ∨ kindAt t k = 16
    · exact expr9_b hR k hk hb HA
    by_cases hc : kindAt t k = 6 ∨ kindAt t k = 10 ∨ kindAt t k = 11 ∨ kindAt t k = 12 ∨ kindAt t k = 13 ∨ kindAt t k = 14
    · exact expr9_c hR k hk hc HA
    by_cases hd : kindAt t k = 7 ∨ kindAt t k = 8 ∨ kindAt t k = 9
    · exact expr9_d hR k hk hd HA
    · exfalso
      omega
end Go.Proofs.YtkokdafkjjcgoaaGreatDoor
namespace Go.Proofs.YtkokdafkjjcgoaaGreatDoor
open Go.RowKit

/-- tokens with one blank between two -/
def laidW (L : List Tok) : ByteArray := ⟨(Lib.join (L.map wordL) [32]).toArray⟩
def printXR (t : List Nd) : ByteArray × Int :=
  if checkN9 t ≠ 0 then (⟨#[]⟩, checkN9 t)
  else if exprK (kindAt t (t.length - 1)) = false then (⟨#[]⟩, 5)
  else if (laidW (exprN t ((beginsN t).getD []) (t.length - 1))).size ≤ 65536 then (laidW (exprN t ((beginsN t).getD []) (t.length - 1)), 0) else (⟨#[]⟩, 3)
theorem printXR_bad {t : List Nd} (h : checkN9 t ≠ 0) : printXR t = (⟨#[]⟩, checkN9 t) := by unfold printXR; rw [if_pos h]
theorem printXR_kind {t : List Nd} (h : checkN9 t = 0) (h2 : exprK (kindAt t (t.length - 1)) = false) : printXR t = (⟨#[]⟩, 5) := by unfold printXR; rw [if_neg (by rw [h]; decide), if_pos h2]
theorem printXR_yes {t : List Nd} {fr : List Nat} (h : checkN9 t = 0) (h2 : exprK (kindAt t (t.length - 1)) = true) (hb : beginsN t = some fr) : printXR t = if (laidW (exprN t fr (t.length - 1))).size ≤ 65536 then (laidW (exprN t fr (t.length - 1)), 0) else (⟨#[]⟩, 3) := by
  unfold printXR
  rw [if_neg (by rw [h]; decide), if_neg (by rw [h2]; decide), hb]
  rfl
/-- strings.Join of the words of right tokens -/
theorem join_paper {B : Nat} {w : World} {v : Value} {L : List Tok} (ho : w.ownsRow B 9 1 v L.length (L.map fun t => Value.string (wordV t))) (hg : AllG L) (hn : L.length * 16391 ≤ 140737488355328) :
    Calls Tryz.prog 103 #[v, .string ⟨#[32]⟩] w fun e w' => e = .returned (.string (laidW L)) ∧ Below w.heap.size w w' := by
  rcases ho.2 with ⟨rfl, h0⟩ | ⟨g, cap, cur, rfl, _, hgb, hcap, _, _, htk⟩
  · obtain rfl : L = [] := List.eq_nil_of_length_eq_zero h0
    exact (Tryz.strings_Join_none none 0 _ w).mono fun _ _ ⟨he, hw⟩ => ⟨he, by rw [hw]; exact Below.refl _ _⟩
  · have hj := Tryz.strings_Join g 0 cap (L.map wordV) ⟨#[32]⟩ w (fun j x hx => by
      have h := ho.cells (g := g) rfl j (.string x) (by
        rw [List.getElem?_map] at hx ⊢
        obtain ⟨t, ht, rfl⟩ := Option.map_eq_some_iff.1 hx
        rw [ht]; rfl)
      rw [addr_add] at h
      rw [Nat.zero_add]; exact h) (lt_of_heap hgb) (by rw [List.length_map]; omega) (by rw [List.length_map]; exact hcap) (by
      have hb := words_len hg
      have e : (L.map wordV).map (fun s => s.data.toList) = L.map wordL := by rw [List.map_map]; rfl
      rw [e]
      show (Lib.join (L.map wordL) [32]).length ≤ _
      omega)
    have e : (L.map wordV).map (fun s => s.data.toList) = L.map wordL := by rw [List.map_map]; rfl
    rw [List.length_map] at hj
    rw [e] at hj
    exact hj
theorem text_ok {pb : Nat} {L : List Tok} {w : World} (hP : PapAt pb (L.map wordV) w) (hg : AllG L) (hn : L.length * 16391 ≤ 140737488355328) :
    Calls Tryz.prog 54 #[.pointer (some ⟨pb, 0, none⟩)] w fun e w' => e = .returned (.string (laidW L)) ∧ Below w.heap.size w w' := by
  obtain ⟨v, hb, ho⟩ := hP.box
  rw [List.length_map, List.map_map] at ho
  have HJ := Lib.hid (join_paper (L := L) ho hg hn)
  obtain ⟨c0, f0⟩ := one_blockP hb
  clear hP ho hb
  go_enter Tryz.func54, Tryz.ntmps54
  go_wp2_with (go_at_call 103; (with_reducible refine HJ.out.mono ?_); rintro e w1 ⟨rfl, hb1⟩)
  go_ret
  exact ⟨rfl, hb1⟩
/-- the tables that printing needs -/
structure EnvP (w : World) : Prop where
  env : Env w
  pow : PowAt w
  lt : 3 < w.heap.size
theorem EnvP.below {w w' : World} (h : EnvP w) (hb : Below w.heap.size w w') : EnvP w' := ⟨h.env.below hb, h.pow.below hb h.lt, Nat.lt_of_lt_of_le h.lt hb.size⟩
theorem EnvP.tp {w : World} (h : EnvP w) : TP w := ⟨⟨h.env.keys, h.env.maxl⟩, h.pow, h.lt⟩
/-- under a new paper -/
theorem EnvP.under {w w' : World} (h : EnvP w) (hb : Below w.heap.size w w') : EnvB w.heap.size w' := by
  have h' := h.below hb
  refine ⟨h'.env, h'.pow, World.block_lt_of_cell? w _ (h.env.keys 0 (by decide)), World.block_lt_of_cell? w _ (h.env.marks 0 (by decide)), ?_, ?_, ?_, h.lt⟩
  · obtain ⟨⟨x, x1, _⟩, y, y1, _⟩ := h.env.errs
    exact World.block_lt_of_cell? w _ x1
  · obtain ⟨⟨x, x1, _⟩, y, y1, _⟩ := h.env.errs
    exact World.block_lt_of_cell? w _ y1
  · obtain ⟨m, hm⟩ := h.env.maxl
    exact World.block_lt_of_cell? w _ hm
theorem pap_new {w w1 : World} (h : w.alloc (.cells #[.slice none 0 0] 99) = w1) : PapAt w.heap.size [] w1 := ⟨_, (alloc_at h).1, rfl, .inl ⟨rfl, rfl⟩⟩
theorem set_threeP {w : World} {b : Nat} {a0 a1 a2 : Value} {T : TypeId} (h : w.heap[b]? = some (.cells #[a0, a1, a2] T (0, 0))) (v0 v1 v2 : Value) : (((w.setCell ⟨b, 0, none⟩ v0).setCell ⟨b, 1, none⟩ v1).setCell ⟨b, 2, none⟩ v2).heap[b]? = some (.cells #[v0, v1, v2] T (0, 0)) := by
  simp [World.setCell, Array.getElem?_modify, h]
set_option maxRecDepth 100000 in
set_option maxHeartbeats 4000000 in
theorem on_ok (pb : Nat) (a : Option Addr) (cap : Nat) (t : List Nd) (fr : List Nat) (w : World) (hbe : beginsN t = some fr) (hI : IsNds w.heap.size w a t) (hl : t.length ≤ 4096) (hOk : ∀ x ∈ t, NdOk x) :
    Calls Tryz.prog 52 #[.pointer (some ⟨pb, 0, none⟩), .slice a t.length cap] w fun e w' => ∃ b capb, e = .returned (prV pb a t.length cap b fr.length capb) ∧ IsNats w'.heap.size w' b fr ∧ (∀ bb off, b = some ⟨bb, off, none⟩ → w.heap.size ≤ bb) ∧ Below w.heap.size w w' := by
  have HB := Lib.hid (fun w1 (hb : Below w.heap.size w w1) => begins_ok a cap t w1 ((hI.below hb (Nat.le_refl _)).mono hb.size) hl hOk)
  have HBe := Lib.hid hbe
  clear hI hOk hbe
  go_enter Tryz.func52, Tryz.ntmps52
  go_upto_region 1 with fail
  generalize hg1 : w.alloc _ = w1 at *
  obtain ⟨hx1, hb1⟩ := alloc_at hg1
  have hs1 : w1.heap.size = w.heap.size + 1 := by rw [← hg1]; simp
  have HB1 := Lib.hid hb1
  have HX1 := Lib.hid hx1
  clear hg1 hx1 hb1
  go_upto_region 2 with (go_at_call 80; (with_reducible refine (HB.out _ HB1.out).mono ?_); rintro e w2 ⟨⟨v, ok, rfl, hok, hrow⟩, hb2⟩; have hok2 : ok = true := (by rw [hok, HBe.out]; rfl); clear hok; subst hok2; obtain ⟨fr2, hfr, hrow⟩ := hrow rfl; obtain rfl := Option.some.inj (HBe.out.symm.trans hfr); obtain ⟨b, capb, rfl, hpc, hN, hf⟩ := natRow_open hrow; have HB2 := Lib.hid hb2; have HN := Lib.hid (And.intro hN hf); clear hb2 hrow hN hf hfr hpc)
  have hx2 := (HB2.out.block _ (lt_of_heap HX1.out)).trans HX1.out
  obtain ⟨⟨q0, q1, q2⟩, qf⟩ := three_blockP hx2
  have qf0 := qf 0
  have qf1 := qf 1
  have qf2 := qf 2
  have hx3 := set_threeP hx2 (.pointer (some ⟨pb, 0, none⟩)) (.slice a t.length cap) (.slice b fr.length capb)
  have hB3 := (((HB1.out.trans (HB2.out.mono HB1.out.size)).setCell (p := ⟨w.heap.size, 0, none⟩) (Nat.le_refl _) (.pointer (some ⟨pb, 0, none⟩))).setCell (p := ⟨w.heap.size, 1, none⟩) (Nat.le_refl _) (.slice a t.length cap)).setCell (p := ⟨w.heap.size, 2, none⟩) (Nat.le_refl _) (.slice b fr.length capb)
  have hfar : ∀ bb off, b = some ⟨bb, off, none⟩ → bb ≠ w.heap.size := fun bb off e => by have := HN.out.2 bb off e; omega
  have hN3 := nats_set (o := 2) (u := .slice b fr.length capb) (nats_set (o := 1) (u := .slice a t.length cap) (nats_set (o := 0) (u := .pointer (some ⟨pb, 0, none⟩)) HN.out.1 hfar) hfar) hfar
  have HX3 := Lib.hid hx3
  have HB3 := Lib.hid hB3
  have HN3 := Lib.hid hN3
  clear hx2 hx3 hB3 hN3 qf
  go_wp2_with fail
  obtain ⟨⟨d0, d1, d2⟩, _⟩ := three_blockP HX3.out
  refine bodyPost_ret (v := prV pb a t.length cap b fr.length capb) (by simp [results, Tryz.results52, go_sem, d0, d1, d2]) rfl ⟨b, capb, rfl, ?_, fun bb off e => ?_, HB3.out⟩
  · simpa using HN3.out
  · have := HN.out.2 bb off e
    omega
def StrEnd (r : ByteArray × Int) (w : World) (e : Ending) (w' : World) : Prop := e = .returned (.tuple #[.string r.1, .int .i64 r.2]) ∧ Below w.heap.size w w'
theorem strEnd {r : ByteArray × Int} {s : ByteArray} {c : Int} {w w' : World} (h : r = (s, c)) (hb : Below w.heap.size w w') : StrEnd r w (.returned (.tuple #[.string s, .int .i64 c])) w' := ⟨by rw [h], hb⟩
set_option maxRecDepth 100000 in
set_option maxHeartbeats 4000000 in
theorem treePrintX_ok (a : Option Addr) (cap : Nat) (t : List Nd) (w : World) (hE : EnvP w) (hI : IsNds w.heap.size w a t) (hOk : ∀ x ∈ t, NdOk x) (hz : t.length * 64 ≤ 140737488351232) :
    Calls Tryz.prog 27 #[.slice a t.length cap] w (StrEnd (printXR t) w) := by
  have HC := Lib.hid (treeCheck_ok a cap t w hE.tp.te hI hOk hz)
  by_cases h : checkN9 t = 0
  · obtain ⟨fr, hR⟩ := check_right h
    rw [h] at HC
    obtain ⟨k, hk⟩ : ∃ k, t.length = k + 1 := ⟨t.length - 1, by have := hR.given.formed.pos; omega⟩
    have hkl : k < t.length := by omega
    have hk1 : (t.length : Int) - 1 = (k : Int) := by omega
    have hk2 : t.length - 1 = k := by omega
    have hle := hR.given.le
    have HNd := Lib.hid (fun w1 (hb : Below w.heap.size w w1) => nds_at ((hI.below hb (Nat.le_refl _)).mono hb.size) hkl)
    have HEx := Lib.hid (fun x w => expr_ok x w)
    have hkd : kindAt t k = t[k].kind := by unfold kindAt; rw [List.getElem?_eq_getElem hkl]; rfl
    cases he : exprK (kindAt t k) with
    | false =>
      have hv := Lib.hid (printXR_kind h (by rw [hk2]; exact he))
      rw [hkd] at he
      have HX := Lib.hid (HEx.out t[k].kind)
      rw [he] at HX
      clear he hkd h hR hE hI hOk HEx hk2 hk
      generalize t[k] = x at *
      go_enter Tryz.func27, Tryz.ntmps27
      go_upto_region 4 with (go_at_call 10; (with_reducible refine HC.out.mono ?_); rintro e w1 ⟨rfl, hb⟩; have HB := Lib.hid hb; clear hb)
      obtain ⟨bb, oo, ha, hbl, x0, _⟩ := HNd.out w1 HB.out
      subst ha
      go_wp2_with (go_at_call 51; (with_reducible refine (HX.out _).mono ?_); rintro e w2 ⟨rfl, hw⟩; subst w2)
      go_ret2
      exact strEnd hv.out HB.out
    | true =>
      have hv := Lib.hid (printXR_yes h (by rw [hk2]; exact he) hR.begins)
      have hgd := exprN_good hR (k + 1) k (Nat.lt_succ_self k) hkl he
      have hsh := exprN_short hR hkl
      have HPr := Lib.hid (fun pb b capb => expr9_ok (pb := pb) (a := a) (b := b) (cap := cap) (capb := capb) hR (k + 1) k (Nat.lt_succ_self k) hkl he)
      have HOn := Lib.hid (fun pb w2 (hb : Below w.heap.size w w2) => on_ok pb a cap t fr w2 hR.begins ((hI.below hb (Nat.le_refl _)).mono hb.size) hle hOk)
      have HIs := Lib.hid (fun w2 (hb : Below w.heap.size w w2) => hI.below hb (Nat.le_refl _))
      rw [hkd] at he
      have HX := Lib.hid (HEx.out t[k].kind)
      rw [he] at HX
      rw [hk2] at hv
      have HE := Lib.hid hE
      clear he hkd h hR hE hI hOk HEx hk2 hk
      generalize t[k] = x at *
      generalize exprN t fr k = L at *
      have HG := Lib.hid hgd
      clear hgd
      go_enter Tryz.func27, Tryz.ntmps27
      go_upto_region 4 with (go_at_call 10; (with_reducible refine HC.out.mono ?_); rintro e w1 ⟨rfl, hb⟩; have HB := Lib.hid hb; clear hb)
      obtain ⟨bb, oo, ha, hbl, x0, _⟩ := HNd.out w1 HB.out
      subst ha
      go_upto_region 7 with (go_at_call 51; (with_reducible refine (HX.out _).mono ?_); rintro e w2 ⟨rfl, hw⟩; subst w2)
      generalize hg2 : w1.alloc _ = w2 at *
      have hP2 := pap_new hg2
      have hb2 := (alloc_at hg2).2
      have HB2 := Lib.hid (HB.out.trans (hb2.mono HB.out.size))
      have HB12 := Lib.hid hb2
      have HP2 := Lib.hid hP2
      clear x0 hbl hg2 hb2 hP2
      have HO2 := Lib.hid (HOn.out w1.heap.size w2 HB2.out)
      go_upto_region 8 with (first
        | (go_at_call 52; (with_reducible refine HO2.out.mono ?_); rintro e w3 ⟨b, capb, rfl, hN, hf, hb3⟩; have HB13 := Lib.hid (HB12.out.trans (hb3.mono HB12.out.size)); have HP3 := Lib.hid (HP2.out.below hb3); have HO := Lib.hid (show PrOk w1.heap.size (some ⟨bb, oo, none⟩) t b fr w3 from ⟨(HE.out.below HB.out).under HB13.out, SlS.low HP3.out.rowOk HP3.out.lt (((HIs.out w1 HB.out).mono HB.out.size).below HB13.out (Nat.le_refl _)), SlS.new HP2.out.rowOk HP2.out.lt hb3 hN (fun _ => hf)⟩); clear hN hf hb3; have HQ := Lib.hid (HPr.out w1.heap.size b capb [] w3 HP3.out HO.out (by simp; omega)))
        | (go_at_call 53; (with_reducible refine HQ.out.mono ?_); rintro e w4 ⟨rfl, hp4, hk4⟩; have HP4 := Lib.hid hp4; have HB4 := Lib.hid (HB13.out.trans hk4.below); clear hp4 hk4))
      have HT := Lib.hid (text_ok (pb := w1.heap.size) (L := L) (w := w4) HP4.out HG.out (by omega))
      generalize laidW L = s at *
      have HB2' := Lib.hid HB2.out.size
      by_cases hs : s.size ≤ 65536
      · have t3 : decide ((s.size : Int) ≤ 65536) = true := decide_eq_true (by omega)
        rw [if_pos hs] at hv
        clear hs
        go_wp2_with (go_at_call 54; (with_reducible refine HT.out.mono ?_); rintro e w5 ⟨rfl, hb5⟩; have HB5 := Lib.hid (HB4.out.trans (hb5.mono HB4.out.size)); clear hb5)
        go_ret2
        exact strEnd hv.out (HB.out.trans (HB5.out.mono HB.out.size))
      · have t3 : decide ((s.size : Int) ≤ 65536) = false := decide_eq_false (by omega)
        rw [if_neg hs] at hv
        clear hs
        go_wp2_with (go_at_call 54; (with_reducible refine HT.out.mono ?_); rintro e w5 ⟨rfl, hb5⟩; have HB5 := Lib.hid (HB4.out.trans (hb5.mono HB4.out.size)); clear hb5)
        go_ret2
        exact strEnd hv.out (HB.out.trans (HB5.out.mono HB.out.size))
  · have hv := Lib.hid (printXR_bad h)
    have t3 : (checkN9 t != 0) = true := by simpa using h
    generalize checkN9 t = c at *
    clear hE hI hOk h
    go_enter Tryz.func27, Tryz.ntmps27
    go_wp2_with (go_at_call 10; (with_reducible refine HC.out.mono ?_); rintro e w1 ⟨rfl, hb⟩)
    go_ret2
    exact strEnd hv.out hb
end Go.Proofs.YtkokdafkjjcgoaaGreatDoor
namespace Go.Proofs.YtkokdafkjjcgoaaGreatDoor
open Go.RowKit

def nameNd (s : ByteArray) : Nd := ⟨3, 0, 0, 0, s, ⟨#[]⟩⟩
def twoNd (s : ByteArray) : Nd := ⟨7, 2, 0, 0, s, ⟨#[]⟩⟩
def tA : List Nd := [nameNd ⟨#[97]⟩]
def tB : List Nd := [nameNd ⟨#[98]⟩]
def tC : List Nd := [nameNd ⟨#[99]⟩]
def twoT (s : ByteArray) (a b : List Nd) : List Nd := a ++ b ++ [twoNd s]
theorem works_1 : printXR (twoT ⟨#[42]⟩ tA (twoT ⟨#[43]⟩ tB tC)) = (⟨#[97, 32, 42, 32, 40, 32, 98, 32, 43, 32, 99, 32, 41]⟩, 0) := by kernel_rfl
theorem works_2 : printXR (twoT ⟨#[43]⟩ (twoT ⟨#[42]⟩ tA tB) tC) = (⟨#[97, 32, 42, 32, 98, 32, 43, 32, 99]⟩, 0) := by kernel_rfl
theorem works_3 : partsR (twoT ⟨#[43]⟩ tA tB) 2 = ([0, 1], 0) := by kernel_rfl
def RowEnd (T : List Nd) (w : World) (e : Ending) (w' : World) : Prop := (∃ a c, e = .returned (.slice a T.length c) ∧ NdRow w' w.heap.size (.slice a T.length c) T ∧ IsNds w'.heap.size w' a T ∧ (a = none → T = [] ∧ c = 0)) ∧ Below w.heap.size w w'
theorem rowEnd {T : List Nd} {w w' : World} {v : Value} (h : NdRow w' w.heap.size v T) (hb : Below w.heap.size w w') : RowEnd T w (.returned v) w' := by
  obtain ⟨a, c, hv, hN, hn⟩ := own_sl nd_len h rfl
  subst hv
  exact ⟨⟨a, c, rfl, h, hN, hn⟩, hb⟩
theorem nd_one1 (x : Nd) : ∀ u ∈ ndCells x, u.oneCell' = true := by
  have h := nd_one [x]
  rwa [List.flatMap_cons, List.flatMap_nil, List.append_nil] at h
/-- a node's cells in a block made for it -/
theorem nd_cells_new (w : World) (x : Nd) : ∀ (q : Nat) u, (ndCells x)[q]? = some u → (w.alloc (ndObj x)).cell? ((⟨w.heap.size, 0, none⟩ : Addr).add q) = some u := fun q u hu => by
  obtain ⟨⟨a0, a1, a2, a3, a4, a5⟩, _⟩ := six_block (heap_alloc_new w (ndObj x))
  rw [addN, Nat.zero_add]
  match q, hu with
  | 0, hu => obtain rfl := Option.some.inj hu; exact a0
  | 1, hu => obtain rfl := Option.some.inj hu; exact a1
  | 2, hu => obtain rfl := Option.some.inj hu; exact a2
  | 3, hu => obtain rfl := Option.some.inj hu; exact a3
  | 4, hu => obtain rfl := Option.some.inj hu; exact a4
  | 5, hu => obtain rfl := Option.some.inj hu; exact a5
set_option maxHeartbeats 4000000 in
theorem name9_ok (s : ByteArray) (w : World) : Calls Tryz.prog 59 #[.string s] w (RowEnd [nameNd s] w) := by
  have hr := World.ownsRow_lit (e := 36) (base := w.heap.size) (size := 6) w #[.int .i64 3, .int .i64 0, .int .i64 0, .int .i64 0, .string s, .string ⟨#[]⟩] 1 (Nat.le_refl _) (by decide) rfl
  have hR := Lib.hid (show NdRow (w.alloc (ndObj (nameNd s))) w.heap.size _ [nameNd s] from hr)
  clear hr
  go_enter Tryz.func59, Tryz.ntmps59
  go_wp2_with fail
  go_ret
  exact rowEnd hR.out (ba1 _ _)
set_option maxHeartbeats 4000000 in
theorem two9_ok (s : ByteArray) (a b : Option Addr) (ca cb : Nat) (A B : List Nd) (w : World) (hA : IsNds w.heap.size w a A) (hB : IsNds w.heap.size w b B) (hn : B ≠ []) (h1 : A.length ≤ 100) (h2 : B.length ≤ 100) (hnil : a = none → A = [] ∧ ca = 0) :
    Calls Tryz.prog 58 #[.string s, .slice a A.length ca, .slice b B.length cb] w (RowEnd (twoT s A B) w) := by
  obtain ⟨i0, hi, hz0, hz1, hz2⟩ := info_parts infoNd
  have HI0 := Lib.hid (And.intro hi (And.intro hz0 (And.intro hz1 hz2)))
  have HC := Lib.hid (copyTree_ok a ca A w hA (by omega) hnil)
  obtain ⟨bb, ob, hb, hbl, _⟩ := hB hn
  subst hb
  have HB := Lib.hid hB
  have HK := Lib.hid (fun w1 => nd_cells_new w1 (twoNd s))
  have hOne := nd_one1 (twoNd s)
  unfold twoT
  simp only [ndObj, ndCells, twoNd] at *
  clear hi hz0 hz1 hz2 hA hB hn hnil hbl
  go_enter Tryz.func58, Tryz.ntmps58
  go_wp2_with (first
    | (go_at_call 9; (with_reducible refine HC.out.mono ?_); rintro e w1 ⟨⟨v1, rfl, hr1⟩, hb1⟩; have HR1 := Lib.hid hr1; have HB1 := Lib.hid hb1; have HN1 := Lib.hid (HB.out.below hb1 (Nat.le_refl _)); clear hr1 hb1)
    | (at_builtin; go_loud (refine wpList_append_own _ rfl _ _ _ rfl w.heap.size 36 i0 _ 6 64 Tryz.underlying23 HI0.out.1 HI0.out.2.1 HI0.out.2.2.1 HI0.out.2.2.2 rfl (by decide) _ A.length (A.flatMap ndCells) rfl HR1.out ⟨bb, ob, none⟩ B.length cb (B.flatMap ndCells) rfl (flat_len nd_len B) (sl_news nd_len HN1.out) (nd_one B) (by unfold maxLen; omega) (by omega) HB1.out.size ?_); intro v2 w2 hown hgrow _; have HR2 := Lib.hid hown; have HB2 := Lib.hid (HB1.out.grown hgrow HB1.out.size (fun k hk => (World.ownsRow.lt HR1.out k hk).1)); clear hown hgrow)
    | (at_builtin; go_loud (refine wpList_append_own _ rfl _ _ _ rfl w.heap.size 36 i0 _ 6 64 Tryz.underlying23 HI0.out.1 HI0.out.2.1 HI0.out.2.2.1 HI0.out.2.2.2 rfl (by decide) _ (A.length + B.length) (A.flatMap ndCells ++ B.flatMap ndCells) rfl (World.ownsRow.belowed HR2.out (ba1 _ _)) ⟨w2.heap.size, 0, none⟩ 1 1 [.int .i64 7, .int .i64 2, .int .i64 0, .int .i64 0, .string s, .string ⟨#[]⟩] rfl rfl (HK.out w2) hOne (by unfold maxLen; omega) (by omega) (Nat.le_trans HB2.out.size (ba1 _ _).size) ?_); intro v3 w3 hown hgrow _; have HR3 := Lib.hid hown; have HB3 := Lib.hid ((HB2.out.trans ((ba1 w2 _).mono HB2.out.size)).grown hgrow (Nat.le_trans HB2.out.size (ba1 _ _).size) (fun k hk => (World.ownsRow.lt HR2.out k hk).1)); clear hown hgrow))
  go_ret
  refine rowEnd ?_ HB3.out
  unfold NdRow
  simpa [List.flatMap_append, Nat.add_assoc, ndCells] using HR3.out
theorem nd9_small (x : Nd) (h : x.kind = 3 ∨ x.kind = 7) (h2 : x.n = 0 ∨ x.n = 2) (h3 : x.at_ = 0) (h4 : x.int = 0) : NdOk x := by
  refine ⟨⟨?_, ?_⟩, ⟨?_, ?_⟩, ⟨?_, ?_⟩, ⟨?_, ?_⟩⟩ <;> omega
theorem nds9_ok {s r : ByteArray} : (∀ x ∈ twoT s tA (twoT r tB tC), NdOk x) ∧ (∀ x ∈ twoT s (twoT r tA tB) tC, NdOk x) ∧ ∀ x ∈ twoT s tA tB, NdOk x := by
  refine ⟨?_, ?_, ?_⟩ <;> intro x hx <;> simp [twoT, tA, tB, tC] at hx
  · rcases hx with rfl | rfl | rfl | rfl | rfl <;> exact nd9_small _ (by simp [nameNd, twoNd]) (by simp [nameNd, twoNd]) rfl rfl
  · rcases hx with rfl | rfl | rfl | rfl | rfl <;> exact nd9_small _ (by simp [nameNd, twoNd]) (by simp [nameNd, twoNd]) rfl rfl
  · rcases hx with rfl | rfl | rfl <;> exact nd9_small _ (by simp [nameNd, twoNd]) (by simp [nameNd, twoNd]) rfl rfl
theorem nats01_new (w : World) (T : TypeId) : IsNats (w.alloc (.cells #[.int .i64 0, .int .i64 1] T)).heap.size (w.alloc (.cells #[.int .i64 0, .int .i64 1] T)) (some ⟨w.heap.size, 0, none⟩) [0, 1] := fun _ => ⟨w.heap.size, 0, rfl, by simp, fun i x hx j u hu => by
  obtain ⟨⟨a0, a1⟩, _⟩ := two_block (heap_alloc_new w (.cells #[.int .i64 0, .int .i64 1] T))
  match i, hx, j, hu with
  | 0, hx, 0, hu => obtain rfl := Option.some.inj hx; obtain rfl := Option.some.inj hu; exact a0
  | 1, hx, 0, hu => obtain rfl := Option.some.inj hx; obtain rfl := Option.some.inj hu; exact a1⟩
set_option maxRecDepth 100000 in
set_option maxHeartbeats 4000000 in
theorem works9_ok (w : World) (hE : EnvP w) : Calls Tryz.prog 29 #[] w fun e w' => e = .returned (.bool true) ∧ Below w.heap.size w w' := by
  have HE := Lib.hid hE
  have KN1 := Lib.hid (fun w => show Calls Tryz.prog 59 #[.string ⟨#[97]⟩] w (RowEnd tA w) from name9_ok ⟨#[97]⟩ w)
  have KN2 := Lib.hid (fun w => show Calls Tryz.prog 59 #[.string ⟨#[98]⟩] w (RowEnd tB w) from name9_ok ⟨#[98]⟩ w)
  have KN3 := Lib.hid (fun w => show Calls Tryz.prog 59 #[.string ⟨#[99]⟩] w (RowEnd tC w) from name9_ok ⟨#[99]⟩ w)
  have KP1 := Lib.hid (fun a b ca cb w hA hB hn => two9_ok ⟨#[43]⟩ a b ca cb tB tC w hA hB (by simp [tC]) (by simp [tB]) (by simp [tC]) hn)
  have KT1 := Lib.hid (fun a b ca cb w hA hB hn => two9_ok ⟨#[42]⟩ a b ca cb tA (twoT ⟨#[43]⟩ tB tC) w hA hB (by simp [twoT]) (by simp [tA]) (by simp [twoT, tB, tC]) hn)
  have KX1 := Lib.hid (fun a c w1 (hb : Below w.heap.size w w1) (hI : IsNds w1.heap.size w1 a (twoT ⟨#[42]⟩ tA (twoT ⟨#[43]⟩ tB tC))) => treePrintX_ok a c _ w1 (hE.below hb) hI nds9_ok.1 (by simp [twoT, tA, tB, tC]))
  have KT2 := Lib.hid (fun a b ca cb w hA hB hn => two9_ok ⟨#[42]⟩ a b ca cb tA tB w hA hB (by simp [tB]) (by simp [tA]) (by simp [tB]) hn)
  have KP2 := Lib.hid (fun a b ca cb w hA hB hn => two9_ok ⟨#[43]⟩ a b ca cb (twoT ⟨#[42]⟩ tA tB) tC w hA hB (by simp [tC]) (by simp [twoT, tA, tB]) (by simp [tC]) hn)
  have KX2 := Lib.hid (fun a c w1 (hb : Below w.heap.size w w1) (hI : IsNds w1.heap.size w1 a (twoT ⟨#[43]⟩ (twoT ⟨#[42]⟩ tA tB) tC)) => treePrintX_ok a c _ w1 (hE.below hb) hI nds9_ok.2.1 (by simp [twoT, tA, tB, tC]))
  have KP3 := Lib.hid (fun a b ca cb w hA hB hn => two9_ok ⟨#[43]⟩ a b ca cb tA tB w hA hB (by simp [tB]) (by simp [tA]) (by simp [tB]) hn)
  have KX3 := Lib.hid (fun a c w1 (hb : Below w.heap.size w w1) (hI : IsNds w1.heap.size w1 a (twoT ⟨#[43]⟩ tA tB)) => treeParts_ok a c _ 2 w1 (hE.below hb).tp.te hI (nds9_ok (s := ⟨#[43]⟩) (r := ⟨#[43]⟩)).2.2 (by simp [twoT, tA, tB]))
  unfold StrEnd at KX1 KX2
  unfold PartsEnd at KX3
  rw [works_1] at KX1
  rw [works_2] at KX2
  rw [works_3] at KX3
  unfold RowEnd at KN1 KN2 KN3 KP1 KT1 KT2 KP2 KP3
  have KS := Lib.hid (fun a ca w1 (hA : IsNats w1.heap.size w1 a [0, 1]) => show Calls Tryz.prog 14 #[.slice a 2 ca, .slice (some ⟨w1.heap.size, 0, none⟩) 2 2] (w1.alloc (.cells #[.int .i64 0, .int .i64 1] 3)) _ from sameInts_ok a _ ca 2 [0, 1] _ ((hA.below (ba1 _ _) (Nat.le_refl _)).mono (ba1 _ _).size) (nats01_new _ _) (by decide))
  have HB0 := Lib.hid (Below.refl w.heap.size w)
  clear hE
  go_enter Tryz.func29, Tryz.ntmps29
  go_upto_region 2 with (first
    | (go_at_call 59; (with_reducible refine (KN1.out _).mono ?_); rintro e w1 ⟨⟨a1, c1, rfl, _, hN, hn⟩, hb⟩; have HB1 := Lib.hid (HB0.out.trans (hb.mono HB0.out.size)); have H1 := Lib.hid hN; have N1 := Lib.hid hn; clear hN hn; clear hb)
    | (go_at_call 59; (with_reducible refine (KN2.out _).mono ?_); rintro e w2 ⟨⟨a2, c2, rfl, _, hN, hn⟩, hb⟩; have HB2 := Lib.hid (HB1.out.trans (hb.mono HB1.out.size)); replace H1 := Lib.hid ((H1.out.below hb (Nat.le_refl _)).mono hb.size); have H2 := Lib.hid hN; have N2 := Lib.hid hn; clear hN hn; clear hb)
    | (go_at_call 59; (with_reducible refine (KN3.out _).mono ?_); rintro e w3 ⟨⟨a3, c3, rfl, _, hN, hn⟩, hb⟩; have HB3 := Lib.hid (HB2.out.trans (hb.mono HB2.out.size)); replace H1 := Lib.hid ((H1.out.below hb (Nat.le_refl _)).mono hb.size); replace H2 := Lib.hid ((H2.out.below hb (Nat.le_refl _)).mono hb.size); have H3 := Lib.hid hN; have N3 := Lib.hid hn; clear hN hn; clear hb)
    | (go_at_call 58; (with_reducible refine (KP1.out a2 a3 c2 c3 _ H2.out H3.out N2.out).mono ?_); rintro e w4 ⟨⟨a4, c4, rfl, _, hN, hn⟩, hb⟩; have HB4 := Lib.hid (HB3.out.trans (hb.mono HB3.out.size)); replace H1 := Lib.hid ((H1.out.below hb (Nat.le_refl _)).mono hb.size); have H4 := Lib.hid hN; have N4 := Lib.hid hn; clear hN hn; clear hb)
    | (go_at_call 58; (with_reducible refine (KT1.out a1 a4 c1 c4 _ H1.out H4.out N1.out).mono ?_); rintro e w5 ⟨⟨a5, c5, rfl, _, hN, hn⟩, hb⟩; have HB5 := Lib.hid (HB4.out.trans (hb.mono HB4.out.size)); have H5 := Lib.hid hN; have N5 := Lib.hid hn; clear hN hn; clear hb)
    | (go_at_call 27; (with_reducible refine (KX1.out a5 c5 _ HB5.out H5.out).mono ?_); rintro e w6 ⟨rfl, hb⟩; have HB6 := Lib.hid (HB5.out.trans (hb.mono HB5.out.size)); clear hb))
  clear H1 N1 H2 N2 H3 N3 H4 N4 H5 N5
  go_upto_region 3 with (first
    | (go_at_call 59; (with_reducible refine (KN1.out _).mono ?_); rintro e w7 ⟨⟨a1, c1, rfl, _, hN, hn⟩, hb⟩; have HB7 := Lib.hid (HB6.out.trans (hb.mono HB6.out.size)); have H1 := Lib.hid hN; have N1 := Lib.hid hn; clear hN hn; clear hb)
    | (go_at_call 59; (with_reducible refine (KN2.out _).mono ?_); rintro e w8 ⟨⟨a2, c2, rfl, _, hN, hn⟩, hb⟩; have HB8 := Lib.hid (HB7.out.trans (hb.mono HB7.out.size)); replace H1 := Lib.hid ((H1.out.below hb (Nat.le_refl _)).mono hb.size); have H2 := Lib.hid hN; have N2 := Lib.hid hn; clear hN hn; clear hb)
    | (go_at_call 58; (with_reducible refine (KT2.out a1 a2 c1 c2 _ H1.out H2.out N1.out).mono ?_); rintro e w9 ⟨⟨a4, c4, rfl, _, hN, hn⟩, hb⟩; have HB9 := Lib.hid (HB8.out.trans (hb.mono HB8.out.size)); have H4 := Lib.hid hN; have N4 := Lib.hid hn; clear hN hn; clear hb)
    | (go_at_call 59; (with_reducible refine (KN3.out _).mono ?_); rintro e w10 ⟨⟨a3, c3, rfl, _, hN, hn⟩, hb⟩; have HB10 := Lib.hid (HB9.out.trans (hb.mono HB9.out.size)); replace H4 := Lib.hid ((H4.out.below hb (Nat.le_refl _)).mono hb.size); have H3 := Lib.hid hN; have N3 := Lib.hid hn; clear hN hn; clear hb)
    | (go_at_call 58; (with_reducible refine (KP2.out a4 a3 c4 c3 _ H4.out H3.out N4.out).mono ?_); rintro e w11 ⟨⟨a5, c5, rfl, _, hN, hn⟩, hb⟩; have HB11 := Lib.hid (HB10.out.trans (hb.mono HB10.out.size)); have H5 := Lib.hid hN; have N5 := Lib.hid hn; clear hN hn; clear hb)
    | (go_at_call 27; (with_reducible refine (KX2.out a5 c5 _ HB11.out H5.out).mono ?_); rintro e w12 ⟨rfl, hb⟩; have HB12 := Lib.hid (HB11.out.trans (hb.mono HB11.out.size)); clear hb))
  clear H1 N1 H2 N2 H3 N3 H4 N4 H5 N5
  go_upto_region 4 with (first
    | (go_at_call 59; (with_reducible refine (KN1.out _).mono ?_); rintro e w13 ⟨⟨a1, c1, rfl, _, hN, hn⟩, hb⟩; have HB13 := Lib.hid (HB12.out.trans (hb.mono HB12.out.size)); have H1 := Lib.hid hN; have N1 := Lib.hid hn; clear hN hn; clear hb)
    | (go_at_call 59; (with_reducible refine (KN2.out _).mono ?_); rintro e w14 ⟨⟨a2, c2, rfl, _, hN, hn⟩, hb⟩; have HB14 := Lib.hid (HB13.out.trans (hb.mono HB13.out.size)); replace H1 := Lib.hid ((H1.out.below hb (Nat.le_refl _)).mono hb.size); have H2 := Lib.hid hN; have N2 := Lib.hid hn; clear hN hn; clear hb)
    | (go_at_call 58; (with_reducible refine (KP3.out a1 a2 c1 c2 _ H1.out H2.out N1.out).mono ?_); rintro e w15 ⟨⟨a4, c4, rfl, _, hN, hn⟩, hb⟩; have HB15 := Lib.hid (HB14.out.trans (hb.mono HB14.out.size)); have H4 := Lib.hid hN; have N4 := Lib.hid hn; clear hN hn; clear hb)
    | (go_at_call 12; (with_reducible refine (KX3.out a4 c4 _ HB15.out H4.out).mono ?_); rintro e w16 ⟨⟨v, rfl, hr⟩, hb⟩; have HB16 := Lib.hid (HB15.out.trans (hb.mono HB15.out.size)); obtain ⟨aq, cq, rfl, hq, _⟩ := hr.is; have HQ := Lib.hid hq; clear hr hq; clear hb))

  go_wp2_with (go_at_call 14; (with_reducible refine (KS.out aq cq w16 HQ.out).mono ?_); rintro e w17 ⟨rfl, hb⟩; have HB17 := Lib.hid (HB16.out.trans (((ba1 _ _).trans (hb.mono (ba1 _ _).size)).mono HB16.out.size)); clear hb)
  go_ret
  exact ⟨rfl, HB17.out⟩
end Go.Proofs.YtkokdafkjjcgoaaGreatDoor
namespace Go.Proofs.YtkokdafkjjcgoaaGreatDoor

/-- parts put one behind the other; an error: the first wrong part's -/
def joinP : List Nd → List (List Nd) → List Nd × Int
  | out, [] => (out, 0)
  | out, p :: l => if checkN9 p ≠ 0 then ([], checkN9 p) else joinP (if out.length ≤ 4096 then out ++ p else out) l
theorem joinP_bad {out p : List Nd} {l : List (List Nd)} (h : checkN9 p ≠ 0) : joinP out (p :: l) = ([], checkN9 p) := by rw [joinP, if_pos h]
theorem joinP_more {out p : List Nd} {l : List (List Nd)} (h : checkN9 p = 0) (hl : out.length ≤ 4096) : joinP out (p :: l) = joinP (out ++ p) l := by rw [joinP, if_neg (by rw [h]; decide), if_pos hl]
theorem joinP_full {out p : List Nd} {l : List (List Nd)} (h : checkN9 p = 0) (hl : ¬ out.length ≤ 4096) : joinP out (p :: l) = joinP out l := by rw [joinP, if_neg (by rw [h]; decide), if_neg hl]
/-- what Build answers -/
def buildR (x : Nd) (l : List (List Nd)) : List Nd × Int :=
  if (joinP [] l).2 ≠ 0 then ([], (joinP [] l).2)
  else
    let t := (joinP [] l).1 ++ [{ x with n := l.length }]
    if checkN9 t ≠ 0 then ([], checkN9 t) else (t, 0)
theorem checkN9_le {t : List Nd} (h : checkN9 t = 0) : t.length ≤ 4096 := by
  unfold checkN9 at h
  split at h
  · cases h
  · omega
end Go.Proofs.YtkokdafkjjcgoaaGreatDoor
