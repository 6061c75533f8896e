/- Tokens laid out: both texts. -/
import Derived.Test.YtncojfcdkigmiaaDoorGood2
namespace Go.Proofs.YtncojfcdkigmiaaDoor
open Go.RowKit Go.Sort

/-- the cells of a row of tokens -/
def TokRow (w : World) (b off : Nat) (L : List Tok) : Prop := ∀ i t, L[i]? = some t → w.cell? ⟨b, off + i * 4, none⟩ = some (.int .i64 t.kind) ∧ w.cell? ⟨b, off + i * 4 + 1, none⟩ = some (.int .i64 t.place) ∧ w.cell? ⟨b, off + i * 4 + 2, none⟩ = some (.int .i64 t.num) ∧ w.cell? ⟨b, off + i * 4 + 3, none⟩ = some (.string t.text)

/-- a slice of tokens that lies below block B -/
def IsToks (B : Nat) (w : World) (a : Option Addr) (L : List Tok) : Prop := L ≠ [] → ∃ b off, a = some ⟨b, off, none⟩ ∧ b < B ∧ TokRow w b off L
theorem IsToks.below {B B' : Nat} {w w' : World} {a : Option Addr} {L : List Tok} (h : IsToks B w a L) (hb : Below B' w w') (hB : B ≤ B') : IsToks B w' a L := fun hn => by
  obtain ⟨b, off, rfl, hlt, hr⟩ := h hn
  have hlt' : b < B' := Nat.lt_of_lt_of_le hlt hB
  refine ⟨b, off, rfl, hlt, fun i t ht => ?_⟩
  obtain ⟨h0, h1, h2, h3⟩ := hr i t ht
  rw [hb.cell hlt', hb.cell hlt', hb.cell hlt', hb.cell hlt']
  exact ⟨h0, h1, h2, h3⟩

def wordV (t : Tok) : ByteArray := ⟨(wordL t).toArray⟩
def TokOk (t : Tok) : Prop := 0 ≤ t.num + 9223372036854775808 ∧ t.num ≤ 9223372036854775807 ∧ t.text.size ≤ 1048576
theorem wordL_bd (t : Tok) (h : TokOk t) : (wordL t).length ≤ 8388608 := by
  obtain ⟨h1, h2, h3⟩ := h
  have hl : t.text.data.toList.length = t.text.size := by rw [Array.length_toList]; rfl
  unfold wordL
  split
  · have := midL_bd t.text.data.toList
    simp only [quoteL, List.length_append, List.length_cons, List.length_nil]
    omega
  · split
    · unfold numL
      split
      · have := speltL_bd (UInt8.ofNat (t.num + 256).toNat) 39
        simp only [charL, List.length_append, List.length_cons, List.length_nil]
        omega
      · have := itoa_bd t.num (by omega) h2
        split
        · simp only [List.length_append, List.length_cons, List.length_nil]; omega
        · omega
    · omega

/-- all tokens may be -/
def allGood (L : List Tok) : Bool := L.all goodB
theorem allGood_bad {L : List Tok} {k : Nat} (h : k < L.length) (hb : goodB L[k] = false) : allGood L = false := by
  rw [Bool.eq_false_iff]; intro e
  rw [allGood, List.all_eq_true] at e
  have := e L[k] (List.getElem_mem h)
  rw [this] at hb; cases hb
theorem take_more {α : Type} (L : List α) {k : Nat} (h : k < L.length) : L.take (k + 1) = L.take k ++ [L[k]] := List.take_succ_eq_append_getElem h

theorem cellsOwn (w : World) (s : ByteArray) : ∀ j u, [Value.string s][j]? = some u → (w.alloc (.cells #[.string s] 9)).cell? ((⟨w.heap.size, 0, none⟩ : Addr).add j) = some u := cell_one w _ _
theorem info_string : (Tryd.prog.info? 9).map (fun i => (i.zero, i.size, i.bytes)) = some (some (.string ⟨#[]⟩), 1, 16) := by kernel_rfl

theorem join_bd (M : Nat) (sep : List UInt8) : ∀ (l : List (List UInt8)), (∀ x ∈ l, x.length ≤ M) → (Lib.join l sep).length ≤ l.length * (M + sep.length)
  | [], _ => by simp [Lib.join]
  | [x], h => by
    rw [Lib.join_one]
    have := h x (by simp)
    simp; omega
  | x :: y :: l, h => by
    have h1 := h x (by simp)
    have h2 := join_bd M sep (y :: l) (fun z hz => h z (by simp at hz ⊢; exact Or.inr hz))
    have e : Lib.join (x :: y :: l) sep = x ++ sep ++ Lib.join (y :: l) sep := by simp [Lib.join, List.intercalate]
    rw [e]
    simp only [List.length_append, List.length_cons, Nat.add_mul, Nat.one_mul] at h2 ⊢
    omega

/-- strings.Join of a row of the call's own -/
theorem join_own {B : Nat} {w : World} {v : Value} {L : List Tok} (ho : w.ownsRow B 9 1 v L.length (L.map fun t => Value.string (wordV t))) (hok : ∀ t ∈ L, TokOk t) (hn : L.length ≤ 16384) :
    Calls Tryd.prog 21 #[v, .string ⟨#[32]⟩] w fun e w' => e = .returned (.string ⟨(Lib.join (L.map wordL) [32]).toArray⟩) ∧ Below w.heap.size w w' := by
  rcases ho.2 with ⟨rfl, h0⟩ | ⟨g, cap, cur, rfl, _, hg, hcap, _, _, htk⟩
  · obtain rfl : L = [] := List.eq_nil_of_length_eq_zero h0
    exact (Tryd.strings_Join_none none 0 _ w).mono fun _ _ ⟨he, hw⟩ => ⟨he, by rw [hw]; exact Below.refl _ _⟩
  · have hj := Tryd.strings_Join g 0 cap (L.map wordV) ⟨#[32]⟩ w (fun j x hx => by
      have h := ho.cells (g := g) rfl j (.string x) (by
        rw [List.getElem?_map] at hx ⊢
        obtain ⟨t, ht, rfl⟩ := Option.map_eq_some_iff.1 hx
        rw [ht]; rfl)
      rw [addr_add] at h
      rw [Nat.zero_add]; exact h) (lt_of_heap hg) (by rw [List.length_map]; omega) (by rw [List.length_map]; exact hcap) (by
      have hb := join_bd 8388608 [32] (L.map wordL) (fun x hx => by
        obtain ⟨t, ht, rfl⟩ := List.mem_map.1 hx
        exact wordL_bd t (hok t ht))
      have e : (L.map wordV).map (fun s => s.data.toList) = L.map wordL := by rw [List.map_map]; rfl
      rw [e]
      rw [List.length_map] at hb
      have h2 : L.length * (8388608 + [(32 : UInt8)].length) ≤ 16384 * 8388609 := Nat.mul_le_mul hn (by decide)
      show (Lib.join (L.map wordL) [32]).length ≤ _
      omega)
    have e : (L.map wordV).map (fun s => s.data.toList) = L.map wordL := by rw [List.map_map]; rfl
    rw [List.length_map] at hj
    rw [e] at hj
    exact hj

/-- what both texts tell of tokens that are not too many -/
def laidV (L : List Tok) : Value := if allGood L = true then .tuple #[.string ⟨(Lib.join (L.map wordL) [32]).toArray⟩, .int .i64 0] else .tuple #[.string ⟨#[]⟩, .int .i64 5]
def Laid (L : List Tok) (w : World) (e : Ending) (w' : World) : Prop := e = .returned (laidV L) ∧ Below w.heap.size w w'
theorem laid_bad {L : List Tok} {w w' : World} (h : allGood L = false) (hb : Below w.heap.size w w') : Laid L w (.returned (.tuple #[.string ⟨#[]⟩, .int .i64 5])) w' := ⟨by rw [laidV, h]; rfl, hb⟩
theorem laid_good {L : List Tok} {w w' : World} {x : ByteArray} (h : allGood L = true) (hx : x.data.toList = Lib.join (L.map wordL) [32]) (hb : Below w.heap.size w w') : Laid L w (.returned (.tuple #[.string x, .int .i64 0])) w' :=
  ⟨by rw [laidV, if_pos h, ← hx], hb⟩

set_option maxHeartbeats 4000000 in
theorem lexLay_in (a : Option Addr) (cap : Nat) (L : List Tok) (w : World) (hL : IsToks w.heap.size w a L) (hn : L.length ≤ 16384) (hok : ∀ t ∈ L, TokOk t) (hK : KeysAt w) (hM : MarksAt w) (hP : PowAt w) (hg : 3 < w.heap.size) :
    Calls Tryd.prog 8 #[.slice a L.length cap] w (Laid L w) := by
  have HL := Lib.hid hL
  have HOK := Lib.hid hok
  have HT := Lib.hid (And.intro hK (And.intro hM hP))
  clear hL hok hK hM hP
  go_enter Tryd.func8, Tryd.ntmps8
  go_wp2_with fail
  go_loopw [4, 14] (fun o i wr => ∃ k : Nat, k ≤ L.length ∧ i = .int .i64 k ∧ wr.ownsRow w.heap.size 9 1 o k ((L.take k).map fun t => Value.string (wordV t)) ∧ Hid (allGood (L.take k) = true) ∧ Below w.heap.size w wr) (fun _ i _ => L.length - (intOf i).toNat)
  case atStart => exact ⟨0, Nat.zero_le _, rfl, World.ownsRow_nil _ _ _ _, rfl, Below.refl _ _⟩
  case round =>
    obtain ⟨k, hk, rfl, hown, hgd, hb⟩ := hrel
    have HL1 := Lib.hid (HL.out.below hb (Nat.le_refl _))
    have HO := Lib.hid hown
    have HB := Lib.hid hb
    have hsz := hb.size
    clear hown hb
    by_cases hlt : k < L.length
    · obtain ⟨b, off, rfl, hbl, hrow⟩ := HL1.out (by intro h; rw [h] at hlt; simp at hlt)
      obtain ⟨c0, c1, c2, c3⟩ := hrow k L[k] (List.getElem?_eq_getElem hlt)
      have hW : Calls Tryd.prog 20 #[.agg #[.int .i64 L[k].kind, .int .i64 L[k].place, .int .i64 L[k].num, .string L[k].text]] (wr.alloc (.cells #[.int .i64 L[k].kind, .int .i64 L[k].place, .int .i64 L[k].num, .string L[k].text] 34)) (Written L[k] (wr.alloc (.cells #[.int .i64 L[k].kind, .int .i64 L[k].place, .int .i64 L[k].num, .string L[k].text] 34))) := by
        have hok := HOK.out L[k] (List.getElem_mem hlt)
        have hB1 := boxB wr L[k]
        have hB2 := HB.out.trans (hB1.mono hsz)
        exact written_ok L[k] _ (HT.out.1.below hB2) (HT.out.2.1.below hB2) (HT.out.2.2.below hB2 hg) (by simp; omega) hok.2.1 hok.2.2
      have HW := Lib.hid hW
      clear hW hrow
      go_wp2_with (go_at_call 20; refine HW.out.mono ?_)
      rintro e w1 ⟨x, rfl, hx, hb1⟩
      have hb2 : Below w.heap.size w w1 := HB.out.trans (((boxB wr L[k]).mono hsz).trans (hb1.mono (by simp; omega)))
      have HB2 := Lib.hid hb2
      have hsz1 := hb2.size
      have HO1 := Lib.hid ((HO.out.alloc (.cells #[.int .i64 L[k].kind, .int .i64 L[k].place, .int .i64 L[k].num, .string L[k].text] 34)).belowed hb1)
      clear hb1 hb2 c0 c1 c2 c3
      rcases hgk : goodB L[k] with _ | _
      · have HG := Lib.hid (allGood_bad hlt hgk)
        clear hgk
        go_wp2
        go_ret2
        exact laid_bad HG.out HB2.out
      · obtain rfl : x = wordV L[k] := toList_eq (by rw [hx hgk]; rfl)
        have HG := Lib.hid (show allGood (L.take (k + 1)) = true by rw [take_more L hlt, allGood, List.all_append, show (L.take k).all goodB = true from hgd.out]; simp [hgk])
        have HR := Lib.hid (show (L.take k).map (fun t => Value.string (wordV t)) ++ [Value.string (wordV L[k])] = (L.take (k + 1)).map (fun t => Value.string (wordV t)) by rw [take_more L hlt, List.map_append]; rfl)
        clear hgk hx hgd
        obtain ⟨i0, hi, hz0, hz1, hz2⟩ := info_parts info_string
        have HI := Lib.hid (And.intro hi (And.intro hz0 (And.intro hz1 hz2)))
        clear hi hz0 hz1 hz2
        go_wp2_with (at_builtin; refine wpList_append_own _ rfl _ _ 41 rfl w.heap.size 9 i0 (.string ⟨#[]⟩) 1 16 Tryd.underlying41 HI.out.1 HI.out.2.1 HI.out.2.2.1 HI.out.2.2.2 rfl (by decide) _ _ _ rfl (HO1.out.alloc _) ⟨w1.heap.size, 0, none⟩ 1 1 [.string (wordV L[k])] rfl rfl ?c1 ?c2 ?c3 ?c4 ?c5 ?_)
        case c1 => exact cell_one _ _ _
        case c2 => intro u hu; simp at hu; subst hu; rfl
        case c3 => unfold maxLen; omega
        case c4 => omega
        case c5 => simp; omega
        intro v' w2 hown' hgrow _
        have HO2 := Lib.hid (show w2.ownsRow w.heap.size 9 1 v' (k + 1) ((L.take (k + 1)).map (fun t => Value.string (wordV t))) by rw [← HR.out, List.map_take]; exact hown')
        have HB3 := Lib.hid ((HB2.out.alloc hsz1 (.cells #[.string (wordV L[k])] 9)).grown hgrow (by simp; omega) (fun q hq => (HO1.out.lt q hq).1))
        clear hown' hgrow
        go_wp2
        go_roundw
        case rel => exact ⟨k + 1, by omega, by go_num, HO2.out, HG.out, HB3.out⟩
        case measure => simp [intOf]; omega
    · obtain rfl : k = L.length := by omega
      have hJ : Calls Tryd.prog 21 #[u4, .string ⟨#[32]⟩] wr fun e w' => e = .returned (.string ⟨(Lib.join (L.map wordL) [32]).toArray⟩) ∧ Below wr.heap.size wr w' := by
        have ho := HO.out
        rw [List.take_length] at ho
        exact join_own ho HOK.out hn
      have HJ := Lib.hid hJ
      have HG := Lib.hid (show allGood L = true by have := hgd.out; rwa [List.take_length] at this)
      clear hJ hgd
      go_wp2_with (go_at_call 21; refine HJ.out.mono ?_; rintro e w1 ⟨rfl, hb1⟩)
      go_ret2
      exact laid_good HG.out rfl (HB.out.trans (hb1.mono hsz))

end Go.Proofs.YtncojfcdkigmiaaDoor
