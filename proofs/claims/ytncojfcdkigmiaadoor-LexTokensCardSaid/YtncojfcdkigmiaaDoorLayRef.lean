/- Tokens laid out, by the reference. -/
import Derived.Test.YtncojfcdkigmiaaDoorLay
namespace Go.Proofs.YtncojfcdkigmiaaDoor
open Go.RowKit Go.Sort

def preL (L : List Tok) (k : Nat) : List UInt8 := Lib.join ((L.take k).map wordL) [32]
theorem join_snoc (sep x : List UInt8) : ∀ l : List (List UInt8), Lib.join (l ++ [x]) sep = if l = [] then x else Lib.join l sep ++ sep ++ x
  | [] => by simp [Lib.join_one]
  | [y] => by simp [Lib.join, List.intercalate]
  | y :: z :: l => by
    have ih := join_snoc sep x (z :: l)
    have e : ∀ m : List (List UInt8), Lib.join (y :: z :: m) sep = y ++ sep ++ Lib.join (z :: m) sep := fun m => by simp [Lib.join, List.intercalate]
    rw [List.cons_append, List.cons_append, e, e, ← List.cons_append, ih, if_neg (by simp), if_neg (by simp)]
    simp
theorem preL_succ (L : List Tok) {k : Nat} (h : k < L.length) : preL L (k + 1) = if k = 0 then wordL L[k] else preL L k ++ [32] ++ wordL L[k] := by
  unfold preL
  rw [take_more L h, List.map_append, List.map_cons, List.map_nil, join_snoc]
  by_cases h0 : k = 0
  · simp [h0]
  · rw [if_neg h0, if_neg]
    intro e
    rw [List.map_eq_nil_iff, List.take_eq_nil_iff] at e
    rcases e with e | e
    · exact h0 e
    · rw [e] at h; simp at h
theorem preL_bd (L : List Tok) (k : Nat) (hk : k ≤ L.length) (hn : L.length ≤ 16384) (hok : ∀ t ∈ L, TokOk t) : (preL L k).length ≤ 137438969856 := by
  have hb := join_bd 8388608 [32] ((L.take k).map wordL) (fun x hx => by
    obtain ⟨t, ht, rfl⟩ := List.mem_map.1 hx
    exact wordL_bd t (hok t (List.mem_of_mem_take ht)))
  have hl : ((L.take k).map wordL).length ≤ 16384 := by rw [List.length_map, List.length_take]; omega
  have h2 : ((L.take k).map wordL).length * (8388608 + [(32 : UInt8)].length) ≤ 16384 * 8388609 := Nat.mul_le_mul hl (by decide)
  unfold preL
  omega

theorem IsToks.row {B k b off : Nat} {w : World} {L : List Tok} (h : IsToks B w (some ⟨b, off, none⟩) L) (hlt : k < L.length) :
    b < B ∧ w.cell? ⟨b, off + k * 4, none⟩ = some (.int .i64 L[k].kind) ∧ w.cell? ⟨b, off + k * 4 + 1, none⟩ = some (.int .i64 L[k].place) ∧ w.cell? ⟨b, off + k * 4 + 2, none⟩ = some (.int .i64 L[k].num) ∧ w.cell? ⟨b, off + k * 4 + 3, none⟩ = some (.string L[k].text) := by
  obtain ⟨b', off', he, hb, hr⟩ := h (by intro e; rw [e] at hlt; simp at hlt)
  simp only [Option.some.injEq, Addr.mk.injEq] at he
  obtain ⟨rfl, rfl, _⟩ := he
  exact ⟨hb, hr k L[k] (List.getElem?_eq_getElem hlt)⟩

set_option maxHeartbeats 4000000 in
theorem refLay_in (a : Option Addr) (cap : Nat) (L : List Tok) (w : World) (hL : IsToks w.heap.size w a L) (hn : L.length ≤ 16384) (hok : ∀ t ∈ L, TokOk t) :
    Calls Tryd.prog 9 #[.slice a L.length cap] w (Laid L w) := by
  have HL := Lib.hid hL
  have HOK := Lib.hid hok
  clear hL hok
  go_enter Tryd.func9, Tryd.ntmps9
  go_wp2_with fail
  go_loopw [4, 5] (fun o i wr => ∃ k : Nat, k ≤ L.length ∧ i = .int .i64 k ∧ wr.ownsRow w.heap.size 5 1 o (preL L k).length (Lib.byteCells (preL L k)) ∧ Hid (allGood (L.take k) = true) ∧ Below w.heap.size w wr) (fun _ i _ => L.length - (intOf i).toNat)
  case atStart => exact ⟨0, Nat.zero_le _, rfl, World.ownsRow_made _ #[] 0 (Nat.le_refl _) (by decide) (by simp), rfl, (Below.refl _ _).alloc (Nat.le_refl _) _⟩
  case round =>
    obtain ⟨k, hk, rfl, hown, hgd, hb⟩ := hrel
    have HL1 := Lib.hid (HL.out.below hb (Nat.le_refl _))
    have HO := Lib.hid hown
    have HB := Lib.hid hb
    have hsz := hb.size
    have hpre := preL_bd L k hk hn HOK.out
    clear hown hb
    by_cases hlt : k < L.length
    · obtain ⟨b, off, rfl, hbl, hrow⟩ := HL1.out (by intro h; rw [h] at hlt; simp at hlt)
      have HR := Lib.hid (hrow k L[k] (List.getElem?_eq_getElem hlt))
      have hok := HOK.out L[k] (List.getElem_mem hlt)
      have hwl := wordL_bd L[k] hok
      have hts := hok.2.2
      clear hrow hok
      obtain ⟨c0, c1, c2, c3⟩ := HR.out
      go_wp2_with (go_at_call 22; refine (good_ok L[k] _ hts).mono ?_)
      rintro e w1 ⟨rfl, hb1⟩
      have hbl1 : b < wr.heap.size := by omega
      have c0' : w1.cell? ⟨b, off + k * 4, none⟩ = some (.int .i64 L[k].kind) := by rw [hb1.cell hbl1]; exact HR.out.1
      have c1' : w1.cell? ⟨b, off + k * 4 + 1, none⟩ = some (.int .i64 L[k].place) := by rw [hb1.cell hbl1]; exact HR.out.2.1
      have c2' : w1.cell? ⟨b, off + k * 4 + 2, none⟩ = some (.int .i64 L[k].num) := by rw [hb1.cell hbl1]; exact HR.out.2.2.1
      have c3' : w1.cell? ⟨b, off + k * 4 + 3, none⟩ = some (.string L[k].text) := by rw [hb1.cell hbl1]; exact HR.out.2.2.2
      clear c0 c1 c2 c3
      have HB2 := Lib.hid (HB.out.trans (hb1.mono hsz))
      have hsz1 := hb1.size
      have HO1 := Lib.hid (HO.out.belowed hb1)
      clear hb1
      rcases hgk : goodB L[k] with _ | _
      · have HG := Lib.hid (allGood_bad hlt hgk)
        clear hgk
        go_wp2
        go_ret2
        exact laid_bad HG.out HB2.out
      · have HG := Lib.hid (show allGood (L.take (k + 1)) = true by rw [take_more L hlt, allGood, List.all_append, show (L.take k).all goodB = true from hgd.out]; simp [hgk])
        have HS := Lib.hid (preL_succ L hlt)
        obtain ⟨i0, hi, hz0, hz1, hz2⟩ := info_parts binfo8
        have HI := Lib.hid (And.intro hi (And.intro hz0 (And.intro hz1 hz2)))
        have HGk := Lib.hid hgk
        clear hi hz0 hz1 hz2 hgk hgd
        by_cases h0 : k = 0
        · have h0' := Lib.hid h0
          have t0 : ¬ (0 : Int) < (k : Int) := by omega
          have hp0 := Lib.hid (show preL L k = [] by rw [h0]; rfl)
          clear h0
          obtain ⟨_, d0, d1, d2, d3⟩ := (HL.out.below HB2.out (Nat.le_refl _)).row hlt
          go_wp2_with (go_at_call 23; refine (word_of L[k] _ HGk.out hts).mono ?_)
          rintro e w4 ⟨rfl, hb4⟩
          have HB4 := Lib.hid (HB2.out.trans (hb4.mono HB2.out.size))
          have HO4 := Lib.hid (HO1.out.belowed hb4)
          have hsz4 := HB4.out.size
          clear hb4 d0 d1 d2 d3
          go_wp2_with (at_builtin; refine Lib.wpList_append_own_string _ rfl _ _ 45 9 rfl w.heap.size 5 i0 Tryd.underlying45 Tryd.underlying9 HI.out.1 HI.out.2.1 HI.out.2.2.1 HI.out.2.2.2 _ _ _ rfl HO4.out _ rfl ?c6 ?c7 ?c8 ?_)
          case c6 => rw [size_mk]; unfold maxLen; omega
          case c7 => rw [size_mk]; omega
          case c8 => omega
          intro v5 w5 hown5 hgrow5 _
          have HO5 := Lib.hid (own_bytes (L := preL L (k + 1)) hown5 (by rw [HS.out, if_pos h0'.out, hp0.out]; simp [Lib.strCells, Lib.byteCells]))
          have HB5 := Lib.hid (HB4.out.grown hgrow5 hsz4 (fun q hq => (HO4.out.lt q hq).1))
          clear hown5 hgrow5
          go_wp2
          go_roundw
          case rel => exact ⟨k + 1, by omega, by go_num, HO5.out, HG.out, HB5.out⟩
          case measure => simp [intOf]; omega
        · have h0' : 0 < k := by omega
          have hnz := Lib.hid h0
          clear h0
          go_wp2_with (at_builtin; refine wpList_append_own _ rfl _ _ 45 rfl w.heap.size 5 i0 (.int .u8 0) 1 1 Tryd.underlying45 HI.out.1 HI.out.2.1 HI.out.2.2.1 HI.out.2.2.2 rfl (by decide) _ _ _ rfl (HO1.out.alloc _) ⟨w1.heap.size, 0, none⟩ 1 1 [.int .u8 32] rfl rfl ?c1 ?c2 ?c3 ?c4 ?c5 ?_)
          case c1 => exact cell_one _ _ _
          case c2 => intro u hu; simp at hu; subst hu; rfl
          case c3 => unfold maxLen; omega
          case c4 => omega
          case c5 => simp; omega
          intro v' w2 hown' hgrow _
          have HO3 := Lib.hid (own_bytes (L := preL L k ++ [32]) hown' (by simp [Lib.byteCells]))
          have HB3 := Lib.hid ((HB2.out.alloc HB2.out.size (.cells #[.int .u8 32] 5)).grown hgrow (by have := HB2.out.size; simp; omega) (fun q hq => (HO1.out.lt q hq).1))
          have hpl : (preL L k ++ [(32 : UInt8)]).length = (preL L k).length + 1 := by simp
          clear hown' hgrow
          obtain ⟨_, d0, d1, d2, d3⟩ := (HL.out.below HB3.out (Nat.le_refl _)).row hlt
          go_wp2_with (go_at_call 23; refine (word_of L[k] _ HGk.out hts).mono ?_)
          rintro e w4 ⟨rfl, hb4⟩
          have HB4 := Lib.hid (HB3.out.trans (hb4.mono HB3.out.size))
          have HO4 := Lib.hid (HO3.out.belowed hb4)
          have hsz4 := HB4.out.size
          clear hb4 d0 d1 d2 d3
          go_wp2_with (at_builtin; refine Lib.wpList_append_own_string _ rfl _ _ 45 9 rfl w.heap.size 5 i0 Tryd.underlying45 Tryd.underlying9 HI.out.1 HI.out.2.1 HI.out.2.2.1 HI.out.2.2.2 _ _ _ rfl HO4.out _ rfl ?e6 ?e7 ?e8 ?_)
          case e6 => rw [size_mk, hpl]; unfold maxLen; omega
          case e7 => rw [size_mk, hpl]; omega
          case e8 => omega
          intro v5 w5 hown5 hgrow5 _
          have HO5 := Lib.hid (own_bytes (L := preL L (k + 1)) hown5 (by rw [HS.out, if_neg hnz.out]; simp [Lib.strCells, Lib.byteCells]))
          have HB5 := Lib.hid (HB4.out.grown hgrow5 hsz4 (fun q hq => (HO4.out.lt q hq).1))
          clear hown5 hgrow5
          go_wp2
          go_roundw
          case rel => exact ⟨k + 1, by omega, by go_num, HO5.out, HG.out, HB5.out⟩
          case measure => simp [intOf]; omega
    · obtain rfl : k = L.length := by omega
      have HG := Lib.hid (show allGood L = true by have := hgd.out; rwa [List.take_length] at this)
      have hcv := own_str HO.out
      have HP := Lib.hid (show preL L L.length = Lib.join (L.map wordL) [32] by unfold preL; rw [List.take_length])
      clear hgd
      go_wp2
      go_ret2
      exact laid_good HG.out HP.out HB.out

end Go.Proofs.YtncojfcdkigmiaaDoor
