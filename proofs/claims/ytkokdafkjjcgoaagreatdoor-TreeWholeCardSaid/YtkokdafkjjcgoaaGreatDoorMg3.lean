/- A token that is a number, not negative: written. · Tokens laid out: both texts. · Tokens laid out, by the reference. · The walk of LexLays. · What the rows' lists give: the tables' cells. -/
import Derived.Test.YtkokdafkjjcgoaaGreatDoorMg2
import Derived.Lib.Join
import Derived.Laws.AppendOwnNone
import Derived.Test.YtkokdafkjjcgoaaGreatDoorRows
import Derived.Lib.LaidTab
import Derived.OpenShut
namespace Go.Proofs.YtkokdafkjjcgoaaGreatDoor
open Go.RowKit Go.Sort

theorem itoa_bd (n : Int) (h0 : 0 ≤ n) (h1 : n ≤ 9223372036854775807) : (Lib.itoa n).length ≤ 20 := by
  obtain ⟨k, rfl⟩ := Int.eq_ofNat_of_zero_le h0
  have hI : Lib.itoa (k : Int) = Lib.decDigits k := by unfold Lib.itoa; rw [if_neg (by omega)]; simp
  rw [hI]
  have key : ∀ (d u : Nat), u < 10 ^ d → 1 ≤ d → (Lib.decDigits u).length ≤ d := by
    intro d
    induction d with
    | zero => intro u _ h; omega
    | succ d ih =>
      intro u hu _
      rw [Lib.decDigits]
      split
      · simp
      · rename_i h10
        have h1 : 1 ≤ d := by
          rcases Nat.eq_zero_or_pos d with rfl | h
          · simp at hu; omega
          · exact h
        have := ih (u / 10) (by rw [Nat.pow_succ] at hu; omega) h1
        simp only [List.length_append, List.length_cons, List.length_nil]
        omega
  exact key 20 k (by have : (10 : Nat) ^ 20 = 100000000000000000000 := by decide
                     omega) (by decide)

/-- what is asked of a number that is not negative, by five tests -/
structure NumT (n : Int) (s : ByteArray) (bu be b31 b32 : Bool) : Prop where
  u : (s.toList == [117]) = bu
  e : s.toList.isEmpty = be
  lo : decide (n < 2147483648) = b31
  hi : decide (n < 4294967296) = b32

theorem good_num {p n : Int} {s : ByteArray} {bu be b31 b32 : Bool} (h : NumT n s bu be b31 b32) (h0 : 0 ≤ n) : goodB ⟨3, p, n, s⟩ = (b32 && (bu || (be && b31))) := by
  obtain ⟨h1, h2, h3, h4⟩ := h
  rw [eq_u] at h1
  rw [eq_e] at h2
  subst h1 h2 h3 h4
  by_cases hu : s = uText
  · simp [goodB, goodNum, hu, h0]
  · simp [goodB, goodNum, hu]
    by_cases he : s = ByteArray.empty
    · simp only [he, decide_true, Bool.true_and]
      rw [Bool.eq_iff_iff]
      simp
      omega
    · simp [he]
theorem word_num {p n : Int} {s : ByteArray} {bu be b31 b32 : Bool} (h : NumT n s bu be b31 b32) (h0 : 0 ≤ n) : wordL ⟨3, p, n, s⟩ = if (bu && b31) = true then Lib.itoa n ++ [117] else Lib.itoa n := by
  obtain ⟨h1, h2, h3, h4⟩ := h
  rw [eq_u] at h1
  subst h1 h3
  simp only [wordL, numL]
  simp [show ¬ n < 0 by omega]

theorem numT_cases (n : Int) (s : ByteArray) : ∃ bu be b31 b32, NumT n s bu be b31 b32 := ⟨_, _, _, _, rfl, rfl, rfl, rfl⟩

theorem keep2 {w w1 : World} {a b c d : Value} {T : TypeId} (hb : Below (w.alloc (.cells #[a, b, c, d] T)).heap.size (w.alloc (.cells #[a, b, c, d] T)) w1) : w1.cell? ⟨w.heap.size, 2, none⟩ = some c := by rw [hb.cell (by simp)]; simp
theorem keep3 {w w1 : World} {a b c d : Value} {T : TypeId} (hb : Below (w.alloc (.cells #[a, b, c, d] T)).heap.size (w.alloc (.cells #[a, b, c, d] T)) w1) : w1.cell? ⟨w.heap.size, 3, none⟩ = some d := by rw [hb.cell (by simp)]; simp

set_option maxHeartbeats 4000000 in
theorem written_pos (p n : Int) (s : ByteArray) (w : World) (hP : PowAt w) (hg : 3 < w.heap.size) (hn : 0 ≤ n) (hm : n ≤ 9223372036854775807) :
    Calls Tryz.prog 177 #[.agg #[.int .i64 3, .int .i64 p, .int .i64 n, .string s]] w (Written ⟨3, p, n, s⟩ w) := by
  have HW := Lib.hid (boxB w ⟨3, p, n, s⟩)
  have HP := Lib.hid (hP.below HW.out hg)
  clear hP
  have hbd := itoa_bd n hn hm
  obtain ⟨bu, be, b31, b32, hT⟩ := numT_cases n s
  have HG := Lib.hid (good_num (p := p) hT hn)
  have HWd := Lib.hid (word_num (p := p) hT hn)
  obtain ⟨h1, h2, h3, h4⟩ := hT
  cases bu <;> cases be <;> cases b31 <;> cases b32
  all_goals
    go_enter Tryz.func177, Tryz.ntmps177
    go_wp2_with (go_at_call 185; refine (lexItoa_ok n _ HP.out hn hm).mono ?_; rintro e w1 ⟨rfl, hb⟩; have c2 := keep2 hb; have c3 := keep3 hb)
    go_quiet (fail)
    go_wp2
    go_ret2
    exact written_mk HG.out (fun _ => by rw [HWd.out]; simp) (blw_drewN (HW.out.trans (hb.mono (by simp))) _)

set_option maxHeartbeats 1000000 in
theorem written_no (k p n : Int) (s : ByteArray) (w : World) (hk : k ≠ 3) (hn : n ≠ 0) :
    Calls Tryz.prog 177 #[.agg #[.int .i64 k, .int .i64 p, .int .i64 n, .string s]] w (Written ⟨k, p, n, s⟩ w) := by
  have HW := Lib.hid (boxB w ⟨k, p, n, s⟩)
  have HG := Lib.hid (show goodB ⟨k, p, n, s⟩ = false by simp [goodB, hk, hn])
  have t1 : (k != 3) = true := by simpa using hk
  have t2 : (n != 0) = true := by simpa using hn
  clear hk hn
  go_enter Tryz.func177, Tryz.ntmps177
  go_wp2
  go_ret2
  exact written_mk HG.out (fun h => by cases h) HW.out

set_option maxHeartbeats 1000000 in
theorem written_none (k p : Int) (s : ByteArray) (w : World) (h1 : k ≠ 1) (h2 : k ≠ 2) (h3 : k ≠ 3) (h4 : k ≠ 4) (h5 : k ≠ 5) :
    Calls Tryz.prog 177 #[.agg #[.int .i64 k, .int .i64 p, .int .i64 0, .string s]] w (Written ⟨k, p, 0, s⟩ w) := by
  have HW := Lib.hid (boxB w ⟨k, p, 0, s⟩)
  have HG := Lib.hid (show goodB ⟨k, p, 0, s⟩ = false by simp [goodB, h1, h2, h3, h4, h5])
  have t1 : (k == 1) = false := by simpa using h1
  have t2 : (k == 2) = false := by simpa using h2
  have t3 : (k == 3) = false := by simpa using h3
  have t4 : (k == 4) = false := by simpa using h4
  have t5 : (k == 5) = false := by simpa using h5
  have t6 : (k != 3) = true := by simpa using h3
  clear h1 h2 h3 h4 h5
  go_enter Tryz.func177, Tryz.ntmps177
  go_wp2
  go_ret2
  exact written_mk HG.out (fun h => by cases h) HW.out

theorem written_okL (t : Tok) (w : World) (hK : KeysAt w) (hM : MarksAt w) (hP : PowAt w) (hg : 3 < w.heap.size) (hm : t.num ≤ 9223372036854775807) (hs : t.text.size ≤ 1048576) :
    Calls Tryz.prog 177 #[.agg #[.int .i64 t.kind, .int .i64 t.place, .int .i64 t.num, .string t.text]] w (Written t w) := by
  obtain ⟨k, p, n, s⟩ := t
  by_cases h3 : k = 3
  · subst h3
    rcases Int.lt_or_le n 0 with h | h
    · exact written_neg p n s w h
    · exact written_pos p n s w hP hg h hm
  · by_cases h0 : n = 0
    · subst h0
      by_cases h1 : k = 1
      · subst h1; exact written_name p s w hK hs
      · by_cases h2 : k = 2
        · subst h2; exact written_key p s w hK
        · by_cases h4 : k = 4
          · subst h4; exact written_str p s w hs
          · by_cases h5 : k = 5
            · subst h5; exact written_mark p s w hM
            · exact written_none k p s w h1 h2 h3 h4 h5
    · exact written_no k p n s w h3 h0

end Go.Proofs.YtkokdafkjjcgoaaGreatDoor
namespace Go.Proofs.YtkokdafkjjcgoaaGreatDoor
open Go.RowKit Go.Sort

/-- the cells of a row of tokens -/
def TokRow (w : World) (b off : Nat) (L : List Tok) : Prop := ∀ i t, L[i]? = some t → w.cell? ⟨b, off + i * 4, none⟩ = some (.int .i64 t.kind) ∧ w.cell? ⟨b, off + i * 4 + 1, none⟩ = some (.int .i64 t.place) ∧ w.cell? ⟨b, off + i * 4 + 2, none⟩ = some (.int .i64 t.num) ∧ w.cell? ⟨b, off + i * 4 + 3, none⟩ = some (.string t.text)

/-- a slice of tokens that lies below block B -/
def IsToks (B : Nat) (w : World) (a : Option Addr) (L : List Tok) : Prop := L ≠ [] → ∃ b off, a = some ⟨b, off, none⟩ ∧ b < B ∧ TokRow w b off L
theorem IsToks.below {B B' : Nat} {w w' : World} {a : Option Addr} {L : List Tok} (h : IsToks B w a L) (hb : Below B' w w') (hB : B ≤ B') : IsToks B w' a L := fun hn => by
  obtain ⟨b, off, rfl, hlt, hr⟩ := h hn
  have hlt' : b < B' := Nat.lt_of_lt_of_le hlt hB
  refine ⟨b, off, rfl, hlt, fun i t ht => ?_⟩
  obtain ⟨h0, h1, h2, h3⟩ := hr i t ht
  rw [hb.cell hlt', hb.cell hlt', hb.cell hlt', hb.cell hlt']
  exact ⟨h0, h1, h2, h3⟩

def wordV (t : Tok) : ByteArray := ⟨(wordL t).toArray⟩
def TokOk (t : Tok) : Prop := 0 ≤ t.num + 9223372036854775808 ∧ t.num ≤ 9223372036854775807 ∧ t.text.size ≤ 1048576
theorem wordL_bd (t : Tok) (h : TokOk t) : (wordL t).length ≤ 8388608 := by
  obtain ⟨h1, h2, h3⟩ := h
  have hl : t.text.data.toList.length = t.text.size := by rw [Array.length_toList]; rfl
  unfold wordL
  split
  · have := midL_bd t.text.data.toList
    simp only [quoteL, List.length_append, List.length_cons, List.length_nil]
    omega
  · split
    · unfold numL
      split
      · have := speltL_bd (UInt8.ofNat (t.num + 256).toNat) 39
        simp only [charL, List.length_append, List.length_cons, List.length_nil]
        omega
      · have := itoa_bd t.num (by omega) h2
        split
        · simp only [List.length_append, List.length_cons, List.length_nil]; omega
        · omega
    · omega

/-- all tokens may be -/
def allGood (L : List Tok) : Bool := L.all goodB
theorem allGood_bad {L : List Tok} {k : Nat} (h : k < L.length) (hb : goodB L[k] = false) : allGood L = false := by
  rw [Bool.eq_false_iff]; intro e
  rw [allGood, List.all_eq_true] at e
  have := e L[k] (List.getElem_mem h)
  rw [this] at hb; cases hb
theorem take_more {α : Type} (L : List α) {k : Nat} (h : k < L.length) : L.take (k + 1) = L.take k ++ [L[k]] := List.take_succ_eq_append_getElem h

theorem info_string : (Tryz.prog.info? 9).map (fun i => (i.zero, i.size, i.bytes)) = some (some (.string ⟨#[]⟩), 1, 16) := by kernel_rfl

theorem join_bd (M : Nat) (sep : List UInt8) : ∀ (l : List (List UInt8)), (∀ x ∈ l, x.length ≤ M) → (Lib.join l sep).length ≤ l.length * (M + sep.length)
  | [], _ => by simp [Lib.join]
  | [x], h => by
    rw [Lib.join_one]
    have := h x (by simp)
    simp; omega
  | x :: y :: l, h => by
    have h1 := h x (by simp)
    have h2 := join_bd M sep (y :: l) (fun z hz => h z (by simp at hz ⊢; exact Or.inr hz))
    have e : Lib.join (x :: y :: l) sep = x ++ sep ++ Lib.join (y :: l) sep := by simp [Lib.join, List.intercalate]
    rw [e]
    simp only [List.length_append, List.length_cons, Nat.add_mul, Nat.one_mul] at h2 ⊢
    omega

/-- strings.Join of a row of the call's own -/
theorem join_own {B : Nat} {w : World} {v : Value} {L : List Tok} (ho : w.ownsRow B 9 1 v L.length (L.map fun t => Value.string (wordV t))) (hok : ∀ t ∈ L, TokOk t) (hn : L.length ≤ 16384) :
    Calls Tryz.prog 103 #[v, .string ⟨#[32]⟩] w fun e w' => e = .returned (.string ⟨(Lib.join (L.map wordL) [32]).toArray⟩) ∧ Below w.heap.size w w' := by
  rcases ho.2 with ⟨rfl, h0⟩ | ⟨g, cap, cur, rfl, _, hg, hcap, _, _, htk⟩
  · obtain rfl : L = [] := List.eq_nil_of_length_eq_zero h0
    exact (Tryz.strings_Join_none none 0 _ w).mono fun _ _ ⟨he, hw⟩ => ⟨he, by rw [hw]; exact Below.refl _ _⟩
  · have hj := Tryz.strings_Join g 0 cap (L.map wordV) ⟨#[32]⟩ w (fun j x hx => by
      have h := ho.cells (g := g) rfl j (.string x) (by
        rw [List.getElem?_map] at hx ⊢
        obtain ⟨t, ht, rfl⟩ := Option.map_eq_some_iff.1 hx
        rw [ht]; rfl)
      rw [addr_add] at h
      rw [Nat.zero_add]; exact h) (lt_of_heap hg) (by rw [List.length_map]; omega) (by rw [List.length_map]; exact hcap) (by
      have hb := join_bd 8388608 [32] (L.map wordL) (fun x hx => by
        obtain ⟨t, ht, rfl⟩ := List.mem_map.1 hx
        exact wordL_bd t (hok t ht))
      have e : (L.map wordV).map (fun s => s.data.toList) = L.map wordL := by rw [List.map_map]; rfl
      rw [e]
      rw [List.length_map] at hb
      have h2 : L.length * (8388608 + [(32 : UInt8)].length) ≤ 16384 * 8388609 := Nat.mul_le_mul hn (by decide)
      show (Lib.join (L.map wordL) [32]).length ≤ _
      omega)
    have e : (L.map wordV).map (fun s => s.data.toList) = L.map wordL := by rw [List.map_map]; rfl
    rw [List.length_map] at hj
    rw [e] at hj
    exact hj

/-- what both texts tell of tokens that are not too many -/
def laidV (L : List Tok) : Value := if allGood L = true then .tuple #[.string ⟨(Lib.join (L.map wordL) [32]).toArray⟩, .int .i64 0] else .tuple #[.string ⟨#[]⟩, .int .i64 5]
def Laid (L : List Tok) (w : World) (e : Ending) (w' : World) : Prop := e = .returned (laidV L) ∧ Below w.heap.size w w'
theorem laid_bad {L : List Tok} {w w' : World} (h : allGood L = false) (hb : Below w.heap.size w w') : Laid L w (.returned (.tuple #[.string ⟨#[]⟩, .int .i64 5])) w' := ⟨by rw [laidV, h]; rfl, hb⟩
theorem laid_good {L : List Tok} {w w' : World} {x : ByteArray} (h : allGood L = true) (hx : x.data.toList = Lib.join (L.map wordL) [32]) (hb : Below w.heap.size w w') : Laid L w (.returned (.tuple #[.string x, .int .i64 0])) w' :=
  ⟨by rw [laidV, if_pos h, ← hx], hb⟩

set_option maxHeartbeats 4000000 in
theorem lexLay_in (a : Option Addr) (cap : Nat) (L : List Tok) (w : World) (hL : IsToks w.heap.size w a L) (hn : L.length ≤ 16384) (hok : ∀ t ∈ L, TokOk t) (hK : KeysAt w) (hM : MarksAt w) (hP : PowAt w) (hg : 3 < w.heap.size) :
    Calls Tryz.prog 138 #[.slice a L.length cap] w (Laid L w) := by
  have HL := Lib.hid hL
  have HOK := Lib.hid hok
  have HT := Lib.hid (And.intro hK (And.intro hM hP))
  clear hL hok hK hM hP
  go_enter Tryz.func138, Tryz.ntmps138
  go_wp2_with fail
  go_loopw [4, 14] (fun o i wr => ∃ k : Nat, k ≤ L.length ∧ i = .int .i64 k ∧ wr.ownsRow w.heap.size 9 1 o k ((L.take k).map fun t => Value.string (wordV t)) ∧ Hid (allGood (L.take k) = true) ∧ Below w.heap.size w wr) (fun _ i _ => L.length - (intOf i).toNat)
  case atStart => exact ⟨0, Nat.zero_le _, rfl, World.ownsRow_nil _ _ _ _, rfl, Below.refl _ _⟩
  case round =>
    obtain ⟨k, hk, rfl, hown, hgd, hb⟩ := hrel
    have HL1 := Lib.hid (HL.out.below hb (Nat.le_refl _))
    have HO := Lib.hid hown
    have HB := Lib.hid hb
    have hsz := hb.size
    clear hown hb
    by_cases hlt : k < L.length
    · obtain ⟨b, off, rfl, hbl, hrow⟩ := HL1.out (by intro h; rw [h] at hlt; simp at hlt)
      obtain ⟨c0, c1, c2, c3⟩ := hrow k L[k] (List.getElem?_eq_getElem hlt)
      have hW : Calls Tryz.prog 177 #[.agg #[.int .i64 L[k].kind, .int .i64 L[k].place, .int .i64 L[k].num, .string L[k].text]] (wr.alloc (.cells #[.int .i64 L[k].kind, .int .i64 L[k].place, .int .i64 L[k].num, .string L[k].text] 151)) (Written L[k] (wr.alloc (.cells #[.int .i64 L[k].kind, .int .i64 L[k].place, .int .i64 L[k].num, .string L[k].text] 151))) := by
        have hok := HOK.out L[k] (List.getElem_mem hlt)
        have hB1 := boxB wr L[k]
        have hB2 := HB.out.trans (hB1.mono hsz)
        exact written_okL L[k] _ (HT.out.1.below hB2) (HT.out.2.1.below hB2) (HT.out.2.2.below hB2 hg) (by simp; omega) hok.2.1 hok.2.2
      have HW := Lib.hid hW
      clear hW hrow
      go_wp2_with (go_at_call 177; refine HW.out.mono ?_)
      rintro e w1 ⟨x, rfl, hx, hb1⟩
      have hb2 : Below w.heap.size w w1 := HB.out.trans (((boxB wr L[k]).mono hsz).trans (hb1.mono (by simp; omega)))
      have HB2 := Lib.hid hb2
      have hsz1 := hb2.size
      have HO1 := Lib.hid ((HO.out.alloc (.cells #[.int .i64 L[k].kind, .int .i64 L[k].place, .int .i64 L[k].num, .string L[k].text] 151)).belowed hb1)
      clear hb1 hb2 c0 c1 c2 c3
      rcases hgk : goodB L[k] with _ | _
      · have HG := Lib.hid (allGood_bad hlt hgk)
        clear hgk
        go_wp2
        go_ret2
        exact laid_bad HG.out HB2.out
      · obtain rfl : x = wordV L[k] := toList_eq (by rw [hx hgk]; rfl)
        have HG := Lib.hid (show allGood (L.take (k + 1)) = true by rw [take_more L hlt, allGood, List.all_append, show (L.take k).all goodB = true from hgd.out]; simp [hgk])
        have HR := Lib.hid (show (L.take k).map (fun t => Value.string (wordV t)) ++ [Value.string (wordV L[k])] = (L.take (k + 1)).map (fun t => Value.string (wordV t)) by rw [take_more L hlt, List.map_append]; rfl)
        clear hgk hx hgd
        obtain ⟨i0, hi, hz0, hz1, hz2⟩ := info_parts info_string
        have HI := Lib.hid (And.intro hi (And.intro hz0 (And.intro hz1 hz2)))
        clear hi hz0 hz1 hz2
        go_wp2_with (at_builtin; refine wpList_append_own _ rfl _ _ 97 rfl w.heap.size 9 i0 (.string ⟨#[]⟩) 1 16 Tryz.underlying97 HI.out.1 HI.out.2.1 HI.out.2.2.1 HI.out.2.2.2 rfl (by decide) _ _ _ rfl (HO1.out.alloc _) ⟨w1.heap.size, 0, none⟩ 1 1 [.string (wordV L[k])] rfl rfl ?c1 ?c2 ?c3 ?c4 ?c5 ?_)
        case c1 => exact cell_one _ _ _
        case c2 => intro u hu; simp at hu; subst hu; rfl
        case c3 => unfold maxLen; omega
        case c4 => omega
        case c5 => simp; omega
        intro v' w2 hown' hgrow _
        have HO2 := Lib.hid (show w2.ownsRow w.heap.size 9 1 v' (k + 1) ((L.take (k + 1)).map (fun t => Value.string (wordV t))) by rw [← HR.out, List.map_take]; exact hown')
        have HB3 := Lib.hid ((HB2.out.alloc hsz1 (.cells #[.string (wordV L[k])] 9)).grown hgrow (by simp; omega) (fun q hq => (HO1.out.lt q hq).1))
        clear hown' hgrow
        go_wp2
        go_roundw
        case rel => exact ⟨k + 1, by omega, by go_num, HO2.out, HG.out, HB3.out⟩
        case measure => simp [intOf]; omega
    · obtain rfl : k = L.length := by omega
      have hJ : Calls Tryz.prog 103 #[u4, .string ⟨#[32]⟩] wr fun e w' => e = .returned (.string ⟨(Lib.join (L.map wordL) [32]).toArray⟩) ∧ Below wr.heap.size wr w' := by
        have ho := HO.out
        rw [List.take_length] at ho
        exact join_own ho HOK.out hn
      have HJ := Lib.hid hJ
      have HG := Lib.hid (show allGood L = true by have := hgd.out; rwa [List.take_length] at this)
      clear hJ hgd
      go_wp2_with (go_at_call 103; refine HJ.out.mono ?_; rintro e w1 ⟨rfl, hb1⟩)
      go_ret2
      exact laid_good HG.out rfl (HB.out.trans (hb1.mono hsz))

end Go.Proofs.YtkokdafkjjcgoaaGreatDoor
namespace Go.Proofs.YtkokdafkjjcgoaaGreatDoor
open Go.RowKit Go.Sort

theorem IsToks.row {B k b off : Nat} {w : World} {L : List Tok} (h : IsToks B w (some ⟨b, off, none⟩) L) (hlt : k < L.length) :
    b < B ∧ w.cell? ⟨b, off + k * 4, none⟩ = some (.int .i64 L[k].kind) ∧ w.cell? ⟨b, off + k * 4 + 1, none⟩ = some (.int .i64 L[k].place) ∧ w.cell? ⟨b, off + k * 4 + 2, none⟩ = some (.int .i64 L[k].num) ∧ w.cell? ⟨b, off + k * 4 + 3, none⟩ = some (.string L[k].text) := by
  obtain ⟨b', off', he, hb, hr⟩ := h (by intro e; rw [e] at hlt; simp at hlt)
  simp only [Option.some.injEq, Addr.mk.injEq] at he
  obtain ⟨rfl, rfl, _⟩ := he
  exact ⟨hb, hr k L[k] (List.getElem?_eq_getElem hlt)⟩

end Go.Proofs.YtkokdafkjjcgoaaGreatDoor
namespace Go.Proofs.YtkokdafkjjcgoaaGreatDoor
open Go.RowKit Go.Sort

theorem info_tok : (Tryz.prog.info? 151).map (fun i => (i.zero, i.size, i.bytes)) = some (some (.agg #[.int .i64 0, .int .i64 0, .int .i64 0, .string ⟨#[]⟩]), 4, 40) := by kernel_rfl

def flatL (L : List Tok) : List Value := L.flatMap Tok.cells
theorem flatL_length (L : List Tok) : (flatL L).length = L.length * 4 := by
  induction L with
  | nil => rfl
  | cons t L ih => simp only [flatL, List.flatMap_cons, List.length_append, List.length_cons] at ih ⊢; rw [ih]; simp [Tok.cells]; omega
theorem flatL_get (L : List Tok) (i : Nat) (h : i < L.length) : (flatL L)[i * 4]? = some (.int .i64 L[i].kind) ∧ (flatL L)[i * 4 + 1]? = some (.int .i64 L[i].place) ∧ (flatL L)[i * 4 + 2]? = some (.int .i64 L[i].num) ∧ (flatL L)[i * 4 + 3]? = some (.string L[i].text) := by
  induction L generalizing i with
  | nil => simp at h
  | cons t L ih =>
    have hf : flatL (t :: L) = [.int .i64 t.kind, .int .i64 t.place, .int .i64 t.num, .string t.text] ++ flatL L := rfl
    match i, h with
    | 0, _ => rw [hf]; simp
    | i + 1, h =>
      have := ih i (by simpa using h)
      rw [hf]
      refine ⟨?_, ?_, ?_, ?_⟩
      · rw [List.getElem?_append_right (by simp; omega)]; simpa [show (i + 1) * 4 - 4 = i * 4 by omega] using this.1
      · rw [List.getElem?_append_right (by simp; omega)]; simpa [show (i + 1) * 4 + 1 - 4 = i * 4 + 1 by omega] using this.2.1
      · rw [List.getElem?_append_right (by simp; omega)]; simpa [show (i + 1) * 4 + 2 - 4 = i * 4 + 2 by omega] using this.2.2.1
      · rw [List.getElem?_append_right (by simp; omega)]; simpa [show (i + 1) * 4 + 3 - 4 = i * 4 + 3 by omega] using this.2.2.2
theorem TokRow.below {B b off : Nat} {w w' : World} {L : List Tok} (h : TokRow w b off L) (hb : Below B w w') (hlt : b < B) : TokRow w' b off L := fun i t ht => by
  obtain ⟨h0, h1, h2, h3⟩ := h i t ht
  rw [hb.cell hlt, hb.cell hlt, hb.cell hlt, hb.cell hlt]
  exact ⟨h0, h1, h2, h3⟩

theorem IsToks.more {B B' : Nat} {w : World} {a : Option Addr} {L : List Tok} (h : IsToks B w a L) (hB : B ≤ B') : IsToks B' w a L := fun hn => by
  obtain ⟨b, off, rfl, hlt, hr⟩ := h hn
  exact ⟨b, off, rfl, Nat.lt_of_lt_of_le hlt hB, hr⟩

end Go.Proofs.YtkokdafkjjcgoaaGreatDoor
namespace Go.Proofs.YtkokdafkjjcgoaaGreatDoor
open Go.RowKit

theorem laidVars_mem {w : World} : ∀ {l : List (String × DataW Unit)} {ps : List MemPlace}, DataW.LaidVars Tryz.prog w l ps → ∀ (n : String) (d : DataW Unit), (n, d) ∈ l →
    ∃ g t cs fuel p, Tryz.prog.globalNamed n = some g ∧ (Tryz.prog.globals[g]?).map (·.type) = some t ∧ w.var? Tryz.prog n = some cs ∧ DataW.trod (fun _ => ()) Tryz.prog w 0 (fun _ => true) false fuel t cs.toList = some (d, p)
  | [], _, _, _, _, hm => by cases hm
  | (n', d') :: r, ps, h, n, d, hm => by
    obtain ⟨g, t, cs, fuel, p, q, h1, h2, h3, h4, h5, _⟩ := h
    rcases List.mem_cons.1 hm with e | hm'
    · simp only [Prod.mk.injEq] at e
      obtain ⟨rfl, rfl⟩ := e
      exact ⟨g, t, cs, fuel, p, h1, h2, h3, h4⟩
    · exact laidVars_mem h5 n d hm'

theorem strs_of_tab {w : World} {base fuel n : Nat} {sp : Nat → Bool} {held : Bool} {t e : TypeId} {cs : List Value} {zs : List (List UInt8)} {p : List MemPlace}
    (ht : Tryz.prog.underlying t = some (.array n e)) (he : Tryz.prog.underlying e = some .string) (hce : Tryz.prog.cellsOf e = 1) (hct : Tryz.prog.cellsOf t = n)
    (h : DataW.trod (fun _ => ()) Tryz.prog w base sp held fuel t cs = some (.agg (zs.map fun z => .lit (.string z)), p)) : ∀ j, j < zs.length → cs[j]? = some (.string ⟨(zs.getD j []).toArray⟩) := by
  obtain ⟨xs, m, _, hx, hl, hxl, hf⟩ := DataW.trod_array ht h
  simp only [Prod.mk.injEq, DataW.agg.injEq] at hx
  have hlen : zs.length = n := by have := congrArg List.length hx.1; simp at this; omega
  intro j hj
  have hjn : j < n := by omega
  have h1 := hf j hjn
  rw [hce, Nat.mul_one] at h1
  have hjc : j < cs.length := by omega
  rw [List.drop_eq_getElem_cons hjc, List.take_succ_cons, List.take_zero, List.getElem?_eq_getElem (by omega)] at h1
  obtain ⟨s, e1, e2, _⟩ := DataW.trod_string he h1
  simp only [List.cons.injEq, and_true] at e1
  rw [List.getElem?_eq_getElem hjc, e1]
  have h3 : (xs.map (·.1))[j]? = some (.lit (.string s.data.toList)) := by
    rw [List.getElem?_map, List.getElem?_eq_getElem (by omega), e2]; rfl
  rw [← hx.1, List.getElem?_map, List.getElem?_eq_getElem hj] at h3
  simp only [Option.map_some, Option.some.injEq, DataW.lit.injEq, Lit.string.injEq] at h3
  rw [getD_lt _ _ hj, h3]

theorem keysG : Tryz.prog.globalNamed "catapult/lex.keys" = some 1 := by kernel_rfl
theorem keysT : (Tryz.prog.globals[1]?).map (·.type) = some 247 := by kernel_rfl
theorem marksG : Tryz.prog.globalNamed "catapult/lex.marks" = some 0 := by kernel_rfl
theorem marksTy : (Tryz.prog.globals[0]?).map (·.type) = some 241 := by kernel_rfl
theorem powTy : (Tryz.prog.globals[3]?).map (·.type) = some 292 := by kernel_rfl
theorem cells20s : Tryz.prog.cellsOf 247 = 20 := by kernel_rfl
theorem cells45s : Tryz.prog.cellsOf 241 = 45 := by kernel_rfl
theorem cells20u : Tryz.prog.cellsOf 292 = 20 := by kernel_rfl
theorem cellsS : Tryz.prog.cellsOf 9 = 1 := by kernel_rfl
theorem cellsU : Tryz.prog.cellsOf 74 = 1 := by kernel_rfl

theorem keys_laid {w : World} {l : List (String × DataW Unit)} (h : laidMet Tryz.prog l w) (hm : ("catapult/lex.keys", Rows.laid_catapult_lex_keys) ∈ l) : KeysAt w := by
  obtain ⟨ps, hv, _⟩ := h
  obtain ⟨g, t, cs, fuel, p, h1, h2, h3, h4⟩ := laidVars_mem hv _ _ hm
  obtain rfl := Option.some.inj (keysG.symm.trans h1)
  obtain rfl := Option.some.inj (keysT.symm.trans h2)
  have h5 := strs_of_tab (zs := keyT.map (·.data.toList)) Tryz.underlying247 Tryz.underlying9 cellsS cells20s h4
  intro j hj
  rw [Nat.zero_add, World.var?_cell keysG h3 j]
  have h6 := h5 j (by rw [List.length_map]; exact hj)
  rw [getD_lt _ _ (by rw [List.length_map]; exact hj), List.getElem_map] at h6
  rw [getD_lt _ _ hj]
  simpa using h6
theorem marks_laid {w : World} {l : List (String × DataW Unit)} (h : laidMet Tryz.prog l w) (hm : ("catapult/lex.marks", Rows.laid_catapult_lex_marks) ∈ l) : MarksAt w := by
  obtain ⟨ps, hv, _⟩ := h
  obtain ⟨g, t, cs, fuel, p, h1, h2, h3, h4⟩ := laidVars_mem hv _ _ hm
  obtain rfl := Option.some.inj (marksG.symm.trans h1)
  obtain rfl := Option.some.inj (marksTy.symm.trans h2)
  have h5 := strs_of_tab (zs := markT.map (·.data.toList)) Tryz.underlying241 Tryz.underlying9 cellsS cells45s h4
  intro j hj
  rw [Nat.zero_add, World.var?_cell marksG h3 j]
  have h6 := h5 j (by rw [List.length_map]; exact hj)
  rw [getD_lt _ _ (by rw [List.length_map]; exact hj), List.getElem_map] at h6
  rw [getD_lt _ _ hj]
  simpa using h6
theorem pow_laid {w : World} {l : List (String × DataW Unit)} (h : laidMet Tryz.prog l w) (hm : ("internal/strconv.uint64pow10", Rows.laid_internal_strconv_uint64pow10) ∈ l) : PowAt w ∧ 3 < w.heap.size := by
  obtain ⟨ps, hv, _⟩ := h
  obtain ⟨g, t, cs, fuel, p, h1, h2, h3, h4⟩ := laidVars_mem hv _ _ hm
  obtain rfl := Option.some.inj (powG.symm.trans h1)
  obtain rfl := Option.some.inj (powTy.symm.trans h2)
  have h5 := Lib.cells_of_tab (k := .u64) (zs := Lib.pow10Tab) Tryz.underlying292 Tryz.underlying74 cellsU cells20u h4
  have h6 : PowAt w := by
    unfold PowAt Lib.TabIs
    rw [h3, ← h5]
  refine ⟨h6, ?_⟩
  have h7 := Lib.TabIs.cell h6 powG 0 (by decide)
  exact World.block_lt_of_cell? w _ h7

end Go.Proofs.YtkokdafkjjcgoaaGreatDoor
