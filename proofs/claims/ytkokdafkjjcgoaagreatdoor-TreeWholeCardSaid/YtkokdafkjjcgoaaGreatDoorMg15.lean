/- How a type is written: the program: functions, all types. · Whether a type has the parts that it may have: the program. -/
import Derived.Test.YtkokdafkjjcgoaaGreatDoorMg14
import Derived.Laws.AppendOwn
import Derived.Deep.LoopGhost
namespace Go.Proofs.YtkokdafkjjcgoaaGreatDoor
open Go.RowKit

theorem own_formT {w : World} {base : Nat} {e : TypeId} {size : Nat} {v : Value} {n : Nat} {xs : List Value} (h : w.ownsRow base e size v n xs) : ∃ a cap, v = .slice a n cap ∧ (0 < n → ∃ g, a = some ⟨g, 0, none⟩ ∧ base ≤ g ∧ g < w.heap.size ∧ ∀ j u, xs[j]? = some u → w.cell? ⟨g, j, none⟩ = some u) := by
  rcases h.2 with ⟨rfl, rfl⟩ | ⟨g, cap, cur, rfl, hb, hg, _⟩
  · exact ⟨_, _, rfl, fun h => by omega⟩
  · refine ⟨_, _, rfl, fun _ => ⟨g, rfl, hb, lt_of_heap hg, fun j u hj => ?_⟩⟩
    have := h.cells (g := g) rfl j u hj
    rwa [addr_add] at this
theorem declTs_map (l : List Ty) : declTs l = l.map fun t => declT t [] := by
  induction l with
  | nil => rfl
  | cons t l ih => rw [declTs, ih]; rfl
theorem declTs_take {ps : List Ty} {k : Nat} (h : k < ps.length) : (declTs (ps.take (k + 1))).map (fun l => Value.string (strB l)) = (declTs (ps.take k)).map (fun l => Value.string (strB l)) ++ [.string (strB (declT ps[k] []))] := by
  rw [List.take_succ_eq_append_getElem h, declTs_map, declTs_map]
  simp only [List.map_append, List.map_cons, List.map_nil]
theorem codes_mem' : ∀ {l : List Ty} {t : Ty}, t ∈ l → (code t).length ≤ (codes l).length
  | [], _, h => by cases h
  | u :: [], t, h => by
    rcases List.mem_cons.1 h with rfl | e
    · rw [codes]; simp
    · cases e
  | u :: v :: l, t, h => by
    rw [codes_cons, codes'_cons]
    rcases List.mem_cons.1 h with rfl | e
    · simp
    · have := codes_mem' e
      simp; omega
theorem join_comma : ∀ L : List (List UInt8), Lib.join L [44, 32] = commaL L
  | [] => rfl
  | [x] => by simp [Lib.join, List.intercalate, commaL]
  | x :: y :: l => by
    have ih := join_comma (y :: l)
    rw [commaL, ← ih]
    simp [Lib.join, List.intercalate]
theorem infoS : (Tryz.prog.info? 9).map (fun i => (i.zero, i.size, i.bytes)) = some (some (.string ⟨#[]⟩), 1, 16) := by kernel_rfl
/-- strings.Join of a row that holds such texts -/
theorem join_row {w : World} {g cap : Nat} {L : List (List UInt8)} (hc : ∀ j u, (L.map fun l => Value.string (strB l))[j]? = some u → w.cell? ⟨g, j, none⟩ = some u) (hg : g < w.heap.size) (hcap : L.length ≤ cap) (hn : L.length ≤ 140737488355328) (hl : (commaL L).length ≤ 140737488355328) :
    Calls Tryz.prog 103 #[.slice (some ⟨g, 0, none⟩) L.length cap, .string ⟨#[44, 32]⟩] w fun e w' => e = .returned (.string (strB (commaL L))) ∧ Below w.heap.size w w' := by
  have hj := Tryz.strings_Join g 0 cap (L.map strB) ⟨#[44, 32]⟩ w (fun j x hx => by
    rw [Nat.zero_add]
    refine hc j _ ?_
    rw [List.getElem?_map] at hx ⊢
    obtain ⟨l, h1, h2⟩ := Option.map_eq_some_iff.1 hx
    rw [h1, ← h2]; rfl) hg (by rw [List.length_map]; exact hn) (by rw [List.length_map]; exact hcap)
  have e : (L.map strB).map (fun s => s.data.toList) = L := by
    rw [List.map_map]
    conv => rhs; rw [← List.map_id L]
    exact List.map_congr_left fun x _ => strB_list x
  rw [e, List.length_map, show (⟨#[44, 32]⟩ : ByteArray).data.toList = [44, 32] from rfl, join_comma] at hj
  exact hj hl

set_option maxHeartbeats 4000000 in
set_option maxRecDepth 100000 in
theorem decl_fn (ps : List Ty) (r : Ty) (hr : Right (.fn ps r)) (hl : (code (.fn ps r)).length ≤ 65536) (ih : ∀ p ∈ ps, DeclC p) (ihr : DeclC r) : DeclC (.fn ps r) := by
  intro x w hE hz
  have HE := Lib.hid hE
  have hcl : (code (.fn ps r)).length = (codes ps).length + (code r).length + 3 := by rw [code]; simp; omega
  rw [hcl] at hz
  have hpl := decls_len ps hr.1
  have hps : ps.length ≤ 65536 := by have := rights_len hr.1; omega
  obtain ⟨h0, hc⟩ := tyB_head (.fn ps r)
  have t1 : (((tyB (.fn ps r))[0].toNat : Int) == 112) = false := eq_false' (d := 112) hc (by simp [headT])
  have t2 : (((tyB (.fn ps r))[0].toNat : Int) == 97) = false := eq_false' (d := 97) hc (by simp [headT])
  have t3 : (((tyB (.fn ps r))[0].toNat : Int) == 102) = true := eq_true' hc
  have HS := Lib.hid (fun w hK hb => split_fn ps r w hr hl hK hb)
  have a1 := add_str x [40] (by simp; omega)
  rw [show strB [40] = ⟨#[40]⟩ from rfl] at a1
  have HPl := Lib.hid hpl
  have HZ := Lib.hid hz
  have HR := Lib.hid hr
  have HIp := Lib.hid ih
  have HIr := Lib.hid ihr
  generalize tyB (.fn ps r) = s at *
  generalize hy : strB x = y at *
  have HY := Lib.hid hy
  generalize hy1 : strB (x ++ [40]) = y1 at *
  have HY1 := Lib.hid hy1
  obtain ⟨i0, hi, hz0, hz1, hz2⟩ := info_parts infoS
  have HI := Lib.hid (And.intro hi (And.intro hz0 (And.intro hz1 hz2)))
  clear hc hr hl hz ih ihr hE hcl hpl hy hy1 hi hz0 hz1 hz2
  go_enter Tryz.func151, Tryz.ntmps151
  go_wp2_with (go_at_call 150; (with_reducible refine (HS.out _ HE.out.te.keys HE.out.te.lt).mono ?_))
  rintro e w1 ⟨⟨v, rfl, ho⟩, hb1⟩
  obtain ⟨a, cap, rfl, hsrc⟩ := own_formT ho
  have HSrc := Lib.hid hsrc
  have HE1 := Lib.hid (HE.out.below hb1)
  have HB1 := Lib.hid hb1
  clear hb1 ho hsrc
  go_wp2_with fail
  go_loopg [11, 61] ps.length (fun g lv iv wr => ∃ k : Nat, k + g = ps.length ∧ iv = .int .i64 k ∧ wr.ownsRow w1.heap.size 9 1 lv k ((declTs (ps.take k)).map fun l => .string (strB l)) ∧ Below w1.heap.size w1 wr)
  case atStart => exact ⟨0, by omega, rfl, World.ownsRow_nil _ _ _ _, Below.refl _ _⟩
  case round =>
    obtain ⟨k, hk, rfl, hown, hbw⟩ := hrel
    have HO := Lib.hid hown
    have HB := Lib.hid hbw
    have hsz := hbw.size
    clear hown hbw
    by_cases hlt : k < ps.length
    · obtain ⟨g, rfl, hg1, hg2, hcell⟩ := HSrc.out (by omega)
      have hck : wr.cell? ⟨g, k, none⟩ = some (.string (tyB ps[k])) := by
        rw [HB.out.cell (p := ⟨g, k, none⟩) hg2]
        exact hcell k _ (by rw [List.getElem?_map, List.getElem?_eq_getElem hlt]; rfl)
      have HD := Lib.hid (show Calls Tryz.prog 151 #[.string (tyB ps[k]), .string ⟨#[]⟩] wr fun e w' => e = .returned (.string (strB (declT ps[k] []))) ∧ Below wr.heap.size wr w' from
        HIp.out ps[k] (List.getElem_mem hlt) [] wr (HE1.out.below HB.out) (by
          have h1 := codes_mem' (List.getElem_mem hlt)
          have := HZ.out
          simp; omega))
      have HTk := Lib.hid (declTs_take hlt)
      generalize strB (declT ps[k] []) = z at *
      generalize tyB ps[k] = st at *
      have hkb : k + 1 ≤ 70000 := by omega
      clear hcell
      go_wp2_with (go_at_call 151; (with_reducible refine HD.out.mono ?_))
      rintro e w3 ⟨rfl, hb3⟩
      have HO3 := Lib.hid (HO.out.belowed hb3)
      have HB3 := Lib.hid (HB.out.trans (hb3.mono hsz))
      have hz3 := HB3.out.size
      clear hb3
      go_wp2_with (at_builtin; refine wpList_append_own _ rfl _ _ 97 rfl w1.heap.size 9 i0 (.string ⟨#[]⟩) 1 16 Tryz.underlying97 HI.out.1 HI.out.2.1 HI.out.2.2.1 HI.out.2.2.2 rfl (by decide) _ _ _ rfl (HO3.out.alloc _) ⟨w3.heap.size, 0, none⟩ 1 1 [.string z] rfl rfl (fun j u h => cell_one _ _ _ j u h) (c2_str _) (c3_le hkb) (c4_le hkb) ?c5 ?_)
      case c5 => simp; omega
      intro v' w6 hown hgrow _
      have HO6 := Lib.hid (show w6.ownsRow w1.heap.size 9 1 v' (k + 1) ((declTs (ps.take (k + 1))).map fun l => .string (strB l)) by rw [HTk.out]; exact hown)
      have HA := Lib.hid (show Below w3.heap.size w3 (w3.alloc (.cells #[.string z] 9)) from (Below.refl _ _).alloc (Nat.le_refl _) _)
      have HB6 := Lib.hid ((HB3.out.trans (HA.out.mono HB3.out.size)).grown hgrow (Nat.le_trans HB3.out.size HA.out.size) (fun q e => by have := (HO3.out.lt _ e).1; omega))
      clear hown hgrow
      go_wp2_with fail
      go_roundg (ps.length - (k + 1))
      case measure => omega
      case rel => exact ⟨k + 1, by omega, by go_num, HO6.out, HB6.out⟩
    · obtain rfl : k = ps.length := by omega
      have HO1 := Lib.hid (show wr.ownsRow w1.heap.size 9 1 u11 ps.length ((declTs ps).map fun l => .string (strB l)) by have := HO.out; rwa [List.take_length] at this)
      have hdl : (declTs ps).length = ps.length := by rw [declTs_map]; simp
      clear HO
      obtain ⟨a2, cap2, rfl, hrow⟩ := own_formT HO1.out
      by_cases h1 : ps = []
      · subst h1
        have hZ := HZ.out
        have hd : declT (.fn [] r) x = declT r (x ++ 40 :: [118, 111, 105, 100] ++ [41]) := by rw [declT, if_pos rfl]
        have a2 := add_str (x ++ [40]) [118, 111, 105, 100] (by simp; omega)
        have a3 := add_str (x ++ [40] ++ [118, 111, 105, 100]) [41] (by simp; omega)
        rw [show strB [41] = ⟨#[41]⟩ from rfl, show x ++ [40] ++ [118, 111, 105, 100] ++ [41] = x ++ 40 :: [118, 111, 105, 100] ++ [41] by simp] at a3
        have HIc := Lib.hid (fun w hE => HIr.out (x ++ 40 :: [118, 111, 105, 100] ++ [41]) w hE (by simp; omega))
        have hfin := Lib.hid hd.symm
        rw [HY1.out] at a2
        have HJ := Lib.hid (fun (w' : World) => by
          have := join_row (w := w'.alloc (.cells #[.string ⟨#[118, 111, 105, 100]⟩] 9)) (g := w'.heap.size) (cap := 1) (L := [[118, 111, 105, 100]]) (fun j u hj => by
            have := cell_one w' (.string ⟨#[118, 111, 105, 100]⟩) 9 j u hj
            rwa [addr_add] at this) (by simp) (by decide) (by decide) (by decide)
          exact this)
        simp only [commaL, List.length_singleton] at HJ
        generalize strB [118, 111, 105, 100] = yj at *
        generalize strB (x ++ [40] ++ [118, 111, 105, 100]) = y2 at *
        generalize strB (x ++ 40 :: [118, 111, 105, 100] ++ [41]) = y3 at *
        clear hd hdl hrow hZ hsz
        go_wp2_with (go_at_call 103; refine (HJ.out _).mono ?_)
        rintro e w5 ⟨rfl, hb5⟩
        have HB5 := Lib.hid (HB1.out.trans ((HB.out.trans (((Below.refl _ _).alloc (Nat.le_refl _) _ |>.trans (hb5.mono (by simp))).mono HB.out.size)).mono HB1.out.size))
        have HI5 := Lib.hid (HIc.out _ (HE.out.below HB5.out))
        clear hb5
        go_wp2_with (go_at_call 151; (with_reducible refine HI5.out.mono ?_))
        rintro e w6 ⟨rfl, hb6⟩
        rw [hfin.out]
        go_wp2_with fail
        go_ret
        exact ⟨rfl, HB5.out.trans (hb6.mono HB5.out.size)⟩
      · have hn : 0 < ps.length := List.length_pos_iff.2 h1
        obtain ⟨g, rfl, hg1, hg2, hrow⟩ := hrow hn
        have hcap : ps.length ≤ cap2 := by
          rcases HO1.out.2 with ⟨e, _⟩ | ⟨g', cap', cur, e, _, _, h, _⟩
          · cases e
          · cases e; exact h
        have hPl := HPl.out
        have hZ := HZ.out
        have HJ := Lib.hid (fun w' (hw' : Below wr.heap.size wr w') => by
          have := join_row (w := w') (g := g) (cap := cap2) (L := declTs ps) (fun j u hj => by rw [hw'.cell (p := ⟨g, j, none⟩) hg2]; exact hrow j u hj) (Nat.lt_of_lt_of_le hg2 hw'.size) (by rw [hdl]; exact hcap) (by rw [hdl]; omega) (by omega)
          rw [hdl] at this
          exact this)
        have hd : declT (.fn ps r) x = declT r (x ++ 40 :: commaL (declTs ps) ++ [41]) := by rw [declT, if_neg h1]
        have a2 := add_str (x ++ [40]) (commaL (declTs ps)) (by simp; omega)
        have a3 := add_str (x ++ [40] ++ commaL (declTs ps)) [41] (by simp; omega)
        rw [show strB [41] = ⟨#[41]⟩ from rfl, show x ++ [40] ++ commaL (declTs ps) ++ [41] = x ++ 40 :: commaL (declTs ps) ++ [41] by simp] at a3
        have HIc := Lib.hid (fun w hE => HIr.out (x ++ 40 :: commaL (declTs ps) ++ [41]) w hE (by simp; omega))
        have hfin := Lib.hid hd.symm
        have t4 : ((ps.length : Int) == 0) = false := by rw [beq_eq_false_iff_ne]; omega
        rw [HY1.out] at a2
        have hlp : (ps.length : Int) ≤ 65536 := by omega
        generalize strB (commaL (declTs ps)) = yj at *
        generalize strB (x ++ [40] ++ commaL (declTs ps)) = y2 at *
        generalize strB (x ++ 40 :: commaL (declTs ps) ++ [41]) = y3 at *
        have HB := Lib.hid HB.out
        clear hd hdl hrow hcap hPl hZ h1 hn hsz
        go_wp2_with (go_at_call 103; refine (HJ.out _ (Below.refl _ _)).mono ?_)
        rintro e w5 ⟨rfl, hb5⟩
        have HB5 := Lib.hid (HB1.out.trans ((HB.out.trans (hb5.mono HB.out.size)).mono HB1.out.size))
        have HI5 := Lib.hid (HIc.out _ (HE.out.below HB5.out))
        clear hb5
        go_wp2_with (go_at_call 151; (with_reducible refine HI5.out.mono ?_))
        rintro e w6 ⟨rfl, hb6⟩
        rw [hfin.out]
        go_wp2_with fail
        go_ret
        exact ⟨rfl, HB5.out.trans (hb6.mono HB5.out.size)⟩

theorem declared_ok : ∀ (n : Nat) (t : Ty), (code t).length ≤ n → Right t → (code t).length ≤ 65536 → DeclC t
  | 0, t, hn, hr, _ => by have := code_pos hr; omega
  | n + 1, t, hn, hr, hl => by
    cases t with
    | base c => exact decl_root _ hr (.inl ⟨c, rfl⟩) hl
    | str s => exact decl_root _ hr (.inr ⟨s, rfl⟩) hl
    | ptr u => exact decl_ptr u hr hl (declared_ok n u (by rw [code] at hn; simp at hn; omega) hr (by rw [code] at hl; simp at hl; omega))
    | arr m u => exact decl_arr m u hr hl (declared_ok n u (by rw [code] at hn; simp at hn; omega) hr.2 (by rw [code] at hl; simp at hl; omega))
    | fn ps r =>
      refine decl_fn ps r hr hl (fun p hp => ?_) (declared_ok n r (by rw [code] at hn; simp at hn; omega) hr.2 (by rw [code] at hl; simp at hl; omega))
      have h1 := codes_mem' hp
      have h2 : Right p := by
        obtain ⟨a, b, rfl⟩ := List.append_of_mem hp
        exact rights_at hr.1
      rw [code] at hn hl
      simp at hn hl
      exact declared_ok n p (by omega) h2 (by omega)

end Go.Proofs.YtkokdafkjjcgoaaGreatDoor
namespace Go.Proofs.YtkokdafkjjcgoaaGreatDoor
open Go.RowKit

def ShapeC (t : Ty) : Prop := ∀ w, TE w → Calls Tryz.prog 201 #[.string (tyB t)] w fun e w' => e = .returned (.bool (shapeT t)) ∧ Below w.heap.size w w'
theorem tyS_tyB {t : Ty} (hr : Right t) (hl : (code t).length ≤ 65536) : tyS (tyB t) = some t := tyS_some.2 ⟨rfl, hr, hl⟩
theorem isScal_is (r : Bool) {t : Ty} (w : World) (hE : TE w) (hr : Right t) (hl : (code t).length ≤ 65536) (h : isScalarT t = r) : Calls Tryz.prog 234 #[.string (tyB t)] w fun e w' => e = .returned (.bool r) ∧ Below w.heap.size w w' := by
  have := isScalar_ok (tyB t) w hE
  rw [show isScalS (tyB t) = isScalarT t by unfold isScalS; rw [tyS_tyB hr hl]; rfl, h] at this
  exact this

theorem shape_clo (p : Ty) (w : World) (hE : TE w) (hr : Right p) (hl : (code p).length ≤ 65536) (ih : ShapeC p) :
    Calls Tryz.prog 236 #[.string (tyB p)] w fun e w' => e = .returned (.bool (!(isScalarT p && shapeT p))) ∧ Below w.heap.size w w' := by
  have HE := Lib.hid hE
  unfold ShapeC at ih
  have HI := Lib.hid ih
  rcases hs : isScalarT p with _ | _
  · have H := Lib.hid (isScal_is false w hE hr hl hs)
    clear hs hE ih
    go_enter Tryz.func236, Tryz.ntmps236
    go_wp2_with (go_at_call 234; (with_reducible refine H.out.mono ?_); rintro e w1 ⟨rfl, hb1⟩)
    go_ret
    exact ⟨rfl, hb1⟩
  · have H := Lib.hid (isScal_is true w hE hr hl hs)
    clear hs hE ih
    generalize hsh : shapeT p = b at *
    have HSh := Lib.hid hsh
    clear hsh
    go_enter Tryz.func236, Tryz.ntmps236
    go_wp2_with (go_at_call 234; (with_reducible refine H.out.mono ?_))
    rintro e w1 ⟨rfl, hb1⟩
    go_wp2_with (go_at_call 201; (with_reducible refine (HI.out _ (HE.out.below hb1)).mono ?_))
    rintro e w2 ⟨rfl, hb2⟩
    go_wp2_with fail
    go_ret
    exact ⟨by simp, hb1.trans (hb2.mono hb1.size)⟩

theorem shapes_all (l : List Ty) : shapesT l = l.all fun p => isScalarT p && shapeT p := by
  induction l with
  | nil => rfl
  | cons t l ih => rw [shapesT, ih]; rfl

set_option maxHeartbeats 2000000 in
theorem shape_idx (ps : List Ty) (g cap : Nat) (w : World) (hE : TE w) (hg : g < w.heap.size) (hr : Rights ps) (hl : ∀ p ∈ ps, (code p).length ≤ 65536) (ih : ∀ p ∈ ps, ShapeC p) (hn : ps.length ≤ 65536)
    (hc : ∀ j (hj : j < ps.length), w.cell? ⟨g, j, none⟩ = some (.string (tyB ps[j]))) :
    Calls Tryz.prog 251 #[.slice (some ⟨g, 0, none⟩) ps.length cap, .func (.func 236) #[] #[]] w fun e w' => ∃ o : Int, e = .returned (.int .i64 o) ∧ decide (0 ≤ o) = !shapesT ps ∧ Below w.heap.size w w' := by
  have HE := Lib.hid hE
  have HC := Lib.hid hc
  have HI := Lib.hid ih
  have HL := Lib.hid hl
  have HR := Lib.hid hr
  clear hE hc ih hl hr
  go_enter Tryz.func251, Tryz.ntmps251
  go_wp2_with fail
  go_loopw [8] (fun i wr => ∃ k : Nat, k ≤ ps.length ∧ i = .int .i64 k ∧ Hid (∀ j (hj : j < ps.length), j < k → (isScalarT ps[j] && shapeT ps[j]) = true) ∧ Below w.heap.size w wr) (fun i _ => ps.length - (intOf i).toNat)
  case atStart => exact ⟨0, Nat.zero_le _, rfl, fun j _ h => by omega, Below.refl _ _⟩
  case round =>
    obtain ⟨k, hk, rfl, hno, hb⟩ := hrel
    have HB := Lib.hid hb
    have hsz := hb.size
    by_cases hlt : k < ps.length
    · have hck : wr.cell? ⟨g, k, none⟩ = some (.string (tyB ps[k])) := by
        rw [hb.cell (p := ⟨g, k, none⟩) hg]; exact HC.out k hlt
      have hm : ps[k] ∈ ps := List.getElem_mem hlt
      have HD := Lib.hid (shape_clo ps[k] wr (HE.out.below hb) (by
        obtain ⟨a, b, e⟩ := List.append_of_mem hm
        have h := HR.out
        rw [e] at h
        exact rights_at h) (HL.out _ hm) (HI.out _ hm))
      clear hb hm
      rcases hgd : (isScalarT ps[k] && shapeT ps[k]) with _ | _
      · have hfin := Lib.hid (show shapesT ps = false by
          rw [shapes_all, Bool.eq_false_iff]; intro e
          have := List.all_eq_true.1 e ps[k] (List.getElem_mem hlt)
          rw [hgd] at this; cases this)
        rw [hgd] at HD
        generalize tyB ps[k] = st at *
        clear hgd
        go_wp2_with (go_at_call 236; (with_reducible refine HD.out.mono ?_))
        rintro e w2 ⟨rfl, hb2⟩
        go_wp2_with fail
        go_ret
        exact ⟨_, rfl, by rw [hfin.out]; simp, HB.out.trans (hb2.mono hsz)⟩
      · have HN := Lib.hid (show ∀ j (hj : j < ps.length), j < k + 1 → (isScalarT ps[j] && shapeT ps[j]) = true from fun j hj h => by
          rcases Nat.lt_or_ge j k with h' | h'
          · exact hno.out j hj h'
          · obtain rfl : j = k := by omega
            exact hgd)
        rw [hgd] at HD
        generalize tyB ps[k] = st at *
        clear hgd
        go_wp2_with (go_at_call 236; (with_reducible refine HD.out.mono ?_))
        rintro e w2 ⟨rfl, hb2⟩
        have HB2 := Lib.hid (HB.out.trans (hb2.mono hsz))
        clear hb2
        go_wp2_with fail
        go_roundw
        case rel => exact ⟨k + 1, by omega, by go_num, HN, HB2.out⟩
        case measure => simp [intOf]; omega
    · obtain rfl : k = ps.length := by omega
      have hfin := Lib.hid (show shapesT ps = true by
        rw [shapes_all, List.all_eq_true]
        intro p hp
        obtain ⟨j, hj, rfl⟩ := List.getElem_of_mem hp
        exact hno.out j hj hj)
      clear hno hb
      go_wp2_with fail
      go_ret
      exact ⟨-1, rfl, by rw [hfin.out]; rfl, HB.out⟩

theorem idx_empty (a : Option Addr) (cap : Nat) (f : Value) (w : World) : Calls Tryz.prog 251 #[.slice a 0 cap, f] w fun e w' => e = .returned (.int .i64 (-1)) ∧ w' = w := by
  go_enter Tryz.func251, Tryz.ntmps251
  go_wp2_with fail
  go_loop [8] (fun i => i = .int .i64 0) (fun _ => 0)
  case atStart => rfl
  case round =>
    obtain rfl := hrel
    go_wp2_with fail
    go_ret
    exact ⟨rfl, rfl⟩
/-- slices.ContainsFunc at that function -/
theorem shape_has (ps : List Ty) (v : Value) (n : Nat) (B : Nat) (w : World) (hE : TE w) (hB : w.ownsRow B 34 1 v n (ps.map fun p => .string (tyB p))) (hn : n = ps.length) (hr : Rights ps) (hl : ∀ p ∈ ps, (code p).length ≤ 65536) (ih : ∀ p ∈ ps, ShapeC p) (hnl : ps.length ≤ 65536) :
    Calls Tryz.prog 235 #[v, .func (.func 236) #[] #[]] w fun e w' => e = .returned (.bool (!shapesT ps)) ∧ Below w.heap.size w w' := by
  obtain ⟨a, cap, rfl, hrow⟩ := own_formT hB
  subst hn
  by_cases h0 : ps = []
  · subst h0
    clear hE hB hr hl ih hrow hnl
    go_enter Tryz.func235, Tryz.ntmps235
    go_wp2_with (go_at_call 251; (with_reducible refine (idx_empty _ _ _ _).mono ?_); rintro e w1 ⟨rfl, rfl⟩)
    go_ret
    exact ⟨rfl, Below.refl _ _⟩
  · obtain ⟨g, rfl, hg1, hg2, hc⟩ := hrow (List.length_pos_iff.2 h0)
    have H := Lib.hid (shape_idx ps g cap w hE hg2 hr hl ih hnl (fun j hj => hc j _ (by rw [List.getElem?_map, List.getElem?_eq_getElem hj]; rfl)))
    clear hE hB hr hl ih hrow hc
    go_enter Tryz.func235, Tryz.ntmps235
    go_wp2_with (go_at_call 251; (with_reducible refine H.out.mono ?_); rintro e w1 ⟨o, rfl, ho, hb1⟩; have HO := Lib.hid ho; clear ho)
    go_ret
    exact ⟨by rw [← HO.out]; rfl, hb1⟩

end Go.Proofs.YtkokdafkjjcgoaaGreatDoor
