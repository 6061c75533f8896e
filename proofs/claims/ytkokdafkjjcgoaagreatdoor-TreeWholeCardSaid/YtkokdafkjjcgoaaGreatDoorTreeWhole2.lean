/- A tree is its last node put behind its parts; going over it tells each place once, behind its whole: the law's walk, where the tree is right. -/
import Derived.Test.YtkokdafkjjcgoaaGreatDoorTreeWhole
import Derived.Test.YtkokdafkjjcgoaaGreatDoorMg30
import Derived.Deep.AppendLies
import Derived.Deep.RegionHeld3
namespace Go.Proofs.YtkokdafkjjcgoaaGreatDoor
open Go.RowKit Go.Shelf

attribute [local go_sem] Oper.semAt_some

theorem nats_ints {B : Nat} {w : World} {a : Option Addr} {L : List Nat} (h : IsNats B w a L) : IsInts B w a (L.map fun (n : Nat) => (n : Int)) := fun hn => by
  obtain ⟨b, off, ha, hlt, hc⟩ := h (fun e => hn (by rw [e]; rfl))
  refine ⟨b, off, ha, hlt, fun i x hx j u hu => ?_⟩
  rw [List.getElem?_map] at hx
  obtain ⟨y, hy, rfl⟩ := Option.map_eq_some_iff.1 hx
  exact hc i y hy j u hu
theorem infoTree : (Tryz.prog.info? 23).map (fun i => (i.zero, i.size, i.bytes)) = some (some (.slice none 0 0), 1, 24) := by kernel_rfl
theorem partsL_le {t : List Nd} {fr : List Nat} (hG : Given t fr) {k : Nat} (hk : k < t.length) : (partsAt t fr k).length ≤ 4096 := by
  rw [partsAt_is (List.getElem?_eq_getElem hk), partsE_length]
  have := (hG.formed.node _ _ (List.getElem?_eq_getElem hk)).2.1.le
  have := hG.le
  omega
theorem made_ints (n : Nat) : (madeCells (Value.int .i64 0).cells (n * 1)).toList = (List.replicate n 0).map natV := by
  refine List.ext_getElem? fun j => ?_
  by_cases hj : j < n
  · rw [List.getElem?_map, List.getElem?_replicate, if_pos hj]
    unfold madeCells
    simp [hj, natV]
    show (#[Value.int .i64 0] : Array Value)[j % 1]! = _
    rw [Nat.mod_one]
    rfl
  · rw [List.getElem?_eq_none (by simp [madeCells]; omega), List.getElem?_eq_none (by simp; omega)]
/-- what is so of the next place, if it is the next -/
theorem pre_facts {t : List Nd} {fr : List Nat} (hb : beginsN t = some fr) (hG : Given t fr) {pre : List (Elt t)} {x : Elt t} (h : elts (pre ++ [x]) <+: wholeL t fr) : (seenN t.length (elts pre)).getD x.1.1 0 = 0 ∧ stepD t fr (deepsD [] (elts pre)) x.1 := by
  obtain ⟨r, hr⟩ := h
  rw [elts_app, show elts [x] = [x.1] from rfl, List.append_assoc] at hr
  have hpos := hG.formed.pos
  have hw : wholeL t fr = walkN t fr (t.length - 1) 1 := rfl
  have hs := (walk_seq hG.formed (t.length) (t.length - 1) 1 [] (by omega) (by omega) (by simp) (by omega)).1
  rw [← hw, ← hr] at hs
  have hd : ∀ y ∈ elts pre, 1 ≤ y.2 := fun y hy => (walkN_le hG.formed t.length (t.length - 1) 1 (by omega) y (by rw [← hw, ← hr]; exact List.mem_append_left _ hy)).2.1
  refine ⟨(seenN_zero x.2 hd).2 ?_, seqD_at hs⟩
  have h1 := whole_once hb hpos x.2
  rw [← hw, ← hr, List.countP_append, List.singleton_append, List.countP_cons] at h1
  simp at h1
  omega
theorem deepsD_lt {t : List Nd} (pre : List (Elt t)) : ∀ y ∈ deepsD [] (elts pre), y < t.length := by
  have : ∀ (l : List (Elt t)) (D : List Nat), (∀ y ∈ D, y < t.length) → ∀ y ∈ deepsD D (elts l), y < t.length := by
    intro l
    induction l with
    | nil => exact fun D h => h
    | cons x l ih => exact fun D h => ih (nextD D x.1) (fun y hy => by
        unfold nextD at hy
        rcases List.mem_append.1 hy with hy | hy
        · exact h y (List.mem_of_mem_take hy)
        · rw [List.mem_singleton.1 hy]; exact x.2)
  exact this pre [] (fun _ h => by cases h)
theorem own_capW {w : World} {base g n c : Nat} {T : TypeId} {size : Nat} {xs : List Value} (h : w.ownsRow base T size (.slice (some ⟨g, 0, none⟩) n c) n xs) : n ≤ c ∧ c ≤ maxLen := by
  rcases h.2 with ⟨e, _⟩ | ⟨g', c', cur, e, _, _, h1, h2, _⟩
  · cases e
  · simp only [Value.slice.injEq] at e
    obtain ⟨_, _, rfl⟩ := e
    exact ⟨h1, h2⟩
theorem deepsD_le : ∀ (l : List (Nat × Nat)) (D : List Nat), (deepsD D l).length ≤ D.length + l.length
  | [], D => by simp [deepsD]
  | x :: l, D => by
    have h1 := deepsD_le l (nextD D x)
    have h2 : (nextD D x).length ≤ D.length + 1 := by unfold nextD; rw [List.length_append, List.length_take, List.length_singleton]; omega
    show (deepsD (nextD D x) l).length ≤ _
    rw [List.length_cons]
    omega
theorem KeepS.then_below {lo hi bn : Nat} {A B C : World} (h : KeepS lo hi bn A B) (hb : Below B.heap.size B C) : KeepS lo hi bn A C :=
  ⟨hb.os.trans h.os, hb.tape.trans h.tape, hb.output.trans h.output, Nat.le_trans h.size hb.size, fun ho => ((keepS_keeps lo hi bn).trans h ((keepS_keeps lo hi bn).below (h.rest ho).1 hb).1).rest ho⟩
theorem three_boxes (w : World) (o p q : Obj) : (((w.alloc o).alloc p).alloc q).heap[w.heap.size]? = some o ∧ (((w.alloc o).alloc p).alloc q).heap[w.heap.size + 2]? = some q ∧ Below (w.heap.size + 2) ((w.alloc o).alloc p) (((w.alloc o).alloc p).alloc q) ∧ Below w.heap.size w (((w.alloc o).alloc p).alloc q) ∧ (((w.alloc o).alloc p).alloc q).heap.size = w.heap.size + 3 := by
  have h3 := ba1 ((w.alloc o).alloc p) q
  have hs : ((w.alloc o).alloc p).heap.size = w.heap.size + 2 := by simp
  obtain ⟨h1, _, h2, _⟩ := two_boxes w o p
  refine ⟨(h3.block _ (by omega)).trans h1, ?_, ?_, h2.alloc h2.size q, by simp⟩
  · have := heap_alloc_new ((w.alloc o).alloc p) q
    rwa [hs] at this
  · rwa [hs] at h3
set_option maxRecDepth 100000 in
set_option maxHeartbeats 8000000 in
theorem treeWhole_0 (a : Option Addr) (cap : Nat) (t : List Nd) (w : World) (hE : EnvP w) (hI : IsNds w.heap.size w a t) (hOk : ∀ x ∈ t, NdOk x) (hz : t.length * 64 ≤ 140737488351232) (hcap : t.length ≤ cap) (hcm : cap ≤ maxLen) (hnil : a = none → t = [] ∧ cap = 0) (hl : t.length ≤ 400) (h : checkN9 t = 0) :
    Calls Tryz.prog 6 #[.slice a t.length cap] w fun e w' => e = .returned (.bool true) ∧ Below w.heap.size w w' := by
  obtain ⟨fr, hbe, hG⟩ := check_formed h
  obtain ⟨k, hk⟩ : ∃ k, t.length = k + 1 := ⟨t.length - 1, by have := hG.formed.pos; omega⟩
  have hkl : k < t.length := by omega
  have hk1 : (t.length : Int) - 1 = (k : Int) := by omega
  have HI := Lib.hid (fun w1 (hb : Below w.heap.size w w1) => (hI.below hb (Nat.le_refl _)).mono hb.size)
  have K1 := Lib.hid (fun w1 (hb : Below w.heap.size w w1) => works9_ok w1 (hE.below hb))
  have K2 := Lib.hid (fun w1 (hb : Below w.heap.size w w1) => treeCheck_ok a cap t w1 (hE.below hb).tp.te (HI.out w1 hb) hOk hz)
  have K3 := Lib.hid (fun w1 (hb : Below w.heap.size w w1) (p : Nat) (hp : p < t.length) => (treeParts_ok a cap t (p : Int) w1 (hE.below hb).tp.te (HI.out w1 hb) hOk hz).mono fun e w' h' => (show (∃ v, e = Ending.returned (.tuple #[v, .int .i64 0]) ∧ NatRow w' w1.heap.size v (partsAt t fr p)) ∧ Below w1.heap.size w1 w' from by
    unfold PartsEnd at h'
    rwa [partsR_in h hp hbe] at h'))
  have K4 := Lib.hid (fun w1 (hb : Below w.heap.size w w1) (p : Nat) (hp : p < t.length) => (treeSub_ok a cap t (p : Int) w1 (hE.below hb).tp.te (HI.out w1 hb) hOk hz hcap hcm).mono fun e w' h' => (show (∃ v, e = Ending.returned (.tuple #[v, .int .i64 0]) ∧ NdRow w' w1.heap.size v (subT t fr p)) ∧ Below w1.heap.size w1 w' from by
    unfold SubEnd at h'
    rwa [subR_in h hp hbe] at h'))
  have K5 := Lib.hid (fun w1 (hb : Below w.heap.size w w1) => treeWalk_0 a cap t w1 (hE.below hb).tp.te (HI.out w1 hb) hOk hz hnil h)
  have hPl := partsL_le hG hkl
  have hPlt := Lib.hid (fun p (hp : p ∈ partsAt t fr k) => Nat.lt_trans (hG.formed.parts_lt hp) hkl)
  have HG := Lib.hid hG
  have HBe := Lib.hid hbe
  have HE := Lib.hid hE
  have HOk := Lib.hid hOk
  rw [h] at K2
  have HC0 := Lib.hid h
  have t1 : decide ((400 : Int) < (t.length : Int)) = false := decide_eq_false (by omega)
  obtain ⟨P, hP⟩ : ∃ P, P = partsAt t fr k := ⟨_, rfl⟩
  have hK3k := K3.out
  have K3k := Lib.hid (fun w1 hb => hK3k w1 hb k hkl)
  rw [← hP] at hPl hPlt K3k
  have HP := Lib.hid hP
  have hPi : (P.length : Int) ≤ 4096 := by omega
  clear hE hI hOk hbe hG hk hP hK3k h hnil hcap hcm
  obtain ⟨hx1, hx2, hb0, hz0⟩ := two_boxes w (.cells #[.slice a t.length cap] 23) (.cells #[.bool false] 4)
  refine (callsIn_wide (n := 3)).1 ?_
  refine callsIn_of_wp_marks Tryz.func6 rfl trivial ?_ rfl
  simp only [Tryz.ntmps6, List.size_toArray, List.length_cons, List.length_nil, Nat.reduceAdd, Nat.reduceSub, Array.replicate_succ, Array.replicate_zero, List.push_toArray, List.append_toArray, List.nil_append, List.cons_append]
  refine wpIn_wide.2 ?_
  go_upto_region 1 with fail
  generalize (w.alloc (.cells #[.slice a t.length cap] 23)).alloc (.cells #[.bool false] 4) = W0 at *
  have HX1 := Lib.hid (fun W (hb : Below W0.heap.size W0 W) => (one_blkT ((hb.block w.heap.size (by omega)).trans hx1)).1)
  have HX2 := Lib.hid (fun W (hb : Below W0.heap.size W0 W) => one_blkT ((hb.block (w.heap.size + 1) (by omega)).trans hx2))
  have HB0 := Lib.hid (fun W (hb : Below W0.heap.size W0 W) => hb0.trans (hb.mono hb0.size))
  have L1 := Lib.hid (K1.out W0 hb0)
  clear hx1 hx2 hb0
  go_wp2_with (first
    | (go_at_call 29; (with_reducible refine L1.out.mono ?_); rintro e W1 ⟨rfl, hb⟩; have H01 := Lib.hid hb; have w0 := HX1.out W1 hb; have L2 := Lib.hid (K2.out W1 (HB0.out W1 hb)); clear hb)
    | (go_at_call 10; (with_reducible refine L2.out.mono ?_); rintro e W2 ⟨rfl, hb⟩; have H02 := Lib.hid (H01.out.trans (hb.mono H01.out.size)); have u0 := HX1.out W2 H02.out; have L3 := Lib.hid (K3k.out W2 (HB0.out W2 H02.out)); clear hb)
    | (go_at_call 12; (with_reducible refine L3.out.mono ?_); rintro e W3 ⟨⟨v, rfl, hr⟩, hb⟩; have H03 := Lib.hid (H02.out.trans (hb.mono H02.out.size)); have v0 := HX1.out W3 H03.out; obtain ⟨ap, cp, rfl, hN, _⟩ := hr.is; have HN3 := Lib.hid hN; clear hb hr hN))
  obtain ⟨i0, hi, hz0', hz1', hz2'⟩ := info_parts infoTree
  have HI0 := Lib.hid (And.intro hi (And.intro hz0' (And.intro hz1' hz2')))
  clear hi hz0' hz1' hz2'
  generalize hg4 : W3.alloc _ = W4 at *
  have HR4 := Lib.hid (show TrsOwn W3.heap.size W4 (.slice (some ⟨W3.heap.size, 0, none⟩) 0 0) [] from ⟨by rw [← hg4]; exact World.ownsRow_lit W3 #[] 0 (Nat.le_refl _) (by decide) rfl, fun _ h => by cases h⟩)
  have H34 := Lib.hid (show Below W3.heap.size W3 W4 from by rw [← hg4]; exact ba1 _ _)
  clear hg4 w0 u0 v0
  go_loopw [5, 6] (fun v5 v6 wr => ∃ (i : Nat) (Q : List (List Nd × Value)), i ≤ P.length ∧ v6 = .int .i64 (i : Int) ∧ TrsOwn W3.heap.size wr v5 Q ∧ Q.map Prod.fst = (P.take i).map (subT t fr) ∧ Below W3.heap.size W3 wr) (fun _ v6 _ => P.length - (intOf v6).toNat)
  case atStart => exact ⟨0, [], by omega, rfl, HR4.out, rfl, H34.out⟩
  case round =>
    obtain ⟨i, Q, hi, rfl, hro, hq, hbr⟩ := hrel
    have HRo := Lib.hid hro
    have HQ := Lib.hid hq
    have HBr := Lib.hid hbr
    have H0r := Lib.hid (H03.out.trans (hbr.mono H03.out.size))
    have r0 := HX1.out wr H0r.out
    clear hro hq hbr
    by_cases hlt : i < P.length
    · obtain ⟨pb, po, hpa, hpb, c2⟩ := nats_at HN3.out hlt
      subst hpa
      rw [← HBr.out.cell hpb] at c2
      have hpt := hPlt.out P[i] (List.getElem_mem hlt)
      have HS := Lib.hid (K4.out wr.drew (HB0.out wr.drew H0r.out.drew) P[i] hpt)
      have HTk := Lib.hid (List.take_succ_eq_append_getElem hlt)
      generalize P[i] = p at *
      have hp0 : (0 : Int) ≤ (i : Int) := by omega
      have hp1 : (i : Int) < (P.length : Int) := by omega
      go_upto_region 12 with fail
      have HCl := Lib.hid (fun w' (h : Below wr.heap.size wr w') => show w'.cell? ⟨w.heap.size, 0, none⟩ = some (.slice a t.length cap) ∧ w'.cell? ⟨pb, po + i, none⟩ = some (.int .i64 (p : Int)) from by
        rw [h.cell (World.block_lt_of_cell? _ _ r0), h.cell (World.block_lt_of_cell? _ _ c2)]; exact ⟨r0, c2⟩)
      go_region_held3 (fun w' => w'.cell? ⟨w.heap.size, 0, none⟩ = some (.slice a t.length cap) ∧ w'.cell? ⟨pb, po + i, none⟩ = some (.int .i64 (p : Int)))
        ((refine HCl.out _ ?_; first | with_reducible exact (Below.refl _ _).drew | with_reducible exact HB5.out))
        (first
          | (go_at_call 15; (with_reducible refine HS.out.mono ?_); rintro e W5 ⟨⟨vt, rfl, hr⟩, hb⟩; have HR5 := Lib.hid hr; have HB5 := Lib.hid (show Below wr.heap.size wr W5 from (Below.refl _ wr).drew.trans (hb.mono (Nat.le_refl _))); clear hr hb))
      have hsl : (subT t fr p).length ≤ t.length := by unfold subT; rw [List.length_take, List.length_drop]; omega
      have HTp := Lib.hid (HR5.out.trP (by omega) (fun x hx => HOk.out x (List.mem_of_mem_drop (List.mem_of_mem_take hx))))
      have HNw := Lib.hid (fun b (e : u5.ownBlock = some b) => (World.ownsRow.lt HRo.out.1 b e).2)
      obtain ⟨ga, gc, hvt, _⟩ := HR5.out.opened9
      subst hvt
      have hql : Q.length ≤ 4096 := by have := congrArg List.length HQ.out; rw [List.length_map, List.length_map, List.length_take] at this; omega
      have HRo5 := Lib.hid (HRo.out.below HB5.out)
      have HB35 := Lib.hid (HBr.out.trans (HB5.out.mono HBr.out.size))
      have hba := ba1 W5 (.cells #[.slice ga (subT t fr p).length gc] 23)
      have HRo6 := Lib.hid (HRo5.out.below hba)
      have HTp6 := Lib.hid ((trP_new HTp.out (B := W3.heap.size) (v := u5) HBr.out.size HNw.out).keep (keep_offU (grn_blwU none hba) (fun r e => by cases e)))
      have HBa := Lib.hid (HB35.out.trans (hba.mono HB35.out.size))
      have hsa := HBa.out.size
      clear hba
      generalize (subT t fr p).length = sn at *
      go_wp2_with (at_builtin; go_loud (refine wpList_append_lies _ rfl _ _ _ rfl W3.heap.size 23 i0 (.slice none 0 0) 1 24 Tryz.underlying52 HI0.out.1 HI0.out.2.1 HI0.out.2.2.1 HI0.out.2.2.2 rfl (by decide) u5 Q.length (Q.flatMap trCells) rfl HRo6.out.1 ⟨W5.heap.size, 0, none⟩ 1 1 [.slice ga sn gc] rfl rfl (World.news_of_block (cs := #[.slice ga sn gc]) (t := 23) (fr := (0, 0)) (heap_alloc_new W5 _)) (by simp [Value.oneCell']) (by decide) (by unfold maxLen; omega) (by omega) hsa _ rfl ?_); intro g c W6 hown hgrow hat hlt6; have HRo7 := Lib.hid (HRo6.out.push HTp6.out rfl hown hgrow hat); have HB36 := Lib.hid (HBa.out.grown hgrow hsa (fun k hk => (World.ownsRow.lt HRo6.out.1 k hk).1)); clear hown hgrow hat hlt6)
      go_roundw
      case rel => exact ⟨i + 1, Q ++ [(subT t fr p, .slice ga sn gc)], by omega, by go_num, HRo7.out, by rw [HTk.out, List.map_append, List.map_append, HQ.out]; rfl, HB36.out⟩
      case measure => simp [intOf]; omega
    · obtain rfl : i = P.length := by omega
      have HQl := Lib.hid (show Q.length = P.length by have := congrArg List.length HQ.out; rw [List.length_map, List.length_map, List.length_take, Nat.min_self] at this; exact this)
      have HQm := Lib.hid (show Q.map Prod.fst = P.map (subT t fr) by rw [HQ.out, List.take_length])
      have L4 := Lib.hid (K5.out wr (HB0.out wr H0r.out))
      have hnf : ∀ (bw : Nat) (wx : World), (binOp .eql 43 (.func (.func 46) #[] #[.pointer (some ⟨bw, 0, none⟩)]) .nilFunc).run Tryz.prog wx = .ok (.bool false) wx := fun _ _ => by kernel_rfl
      clear HQ
      go_upto_region 19 with (go_at_call 21; (with_reducible refine L4.out.mono ?_); rintro e W7 ⟨⟨bw, fr2, rfl, hbe, _, hS⟩, hb⟩; obtain rfl := Option.some.inj (HBe.out.symm.trans hbe); have HS7 := Lib.hid hS; have H07 := Lib.hid (H0r.out.trans (hb.mono H0r.out.size)); have HRo7 := Lib.hid (HRo.out.below hb); have HB37 := Lib.hid (HBr.out.trans (hb.mono HBr.out.size)); have HSz := Lib.hid hb.size; have x0 := HX1.out W7 H07.out; clear hb hbe hS)
      obtain ⟨i1, hi, hz0', hz1', hz2'⟩ := info_parts infoInt
      have HI1 := Lib.hid (And.intro hi (And.intro hz0' (And.intro hz1' hz2')))
      have HNum := Lib.hid (show i1.bytes * t.length ≤ 281474976710656 ∧ t.length ≤ maxLen from ⟨by rw [hz2']; omega, by unfold maxLen; omega⟩)
      clear hi hz0' hz1' hz2'
      have hHX1 := HX1
      go_upto_region 21 with (at_make; go_loud (refine wpList_make_full _ rfl _ _ _ rfl W7.heap.size 3 i1 (.int .i64 0) 1 Tryz.underlying27 HI1.out.1 HI1.out.2.1 HI1.out.2.2.1 .i64 .i64 (t.length : Int) (t.length : Int) t.length rfl rfl rfl rfl HNum.out.1 HNum.out.2 (Nat.le_refl _) ?_); intro W8 hown hgrow; have HMk := Lib.hid hown; have HGr := Lib.hid hgrow; clear hown hgrow)
      obtain ⟨hx10, hx12, hb8, hb89, hz9⟩ := three_boxes W8 (.cells #[.slice (some ⟨W7.heap.size, 0, none⟩) t.length t.length] 27) (.cells #[] 3) (.cells #[.slice (some ⟨W8.heap.size + 1, 0, none⟩) 0 0] 27)
      have hlit := World.ownsRow_lit (e := 3) (base := W7.heap.size) (size := 1) (W8.alloc (.cells #[.slice (some ⟨W7.heap.size, 0, none⟩) t.length t.length] 27)) #[] 0 (by have := HGr.out.size; simp; omega) (by decide) rfl
      have hb9' := ba1 ((W8.alloc (.cells #[.slice (some ⟨W7.heap.size, 0, none⟩) t.length t.length] 27)).alloc (.cells #[] 3)) (.cells #[.slice (some ⟨W8.heap.size + 1, 0, none⟩) 0 0] 27)
      have hlit9 := hlit.belowed hb9'
      have hmk := HMk.out
      rw [made_ints] at hmk
      have hmk9 := hmk.belowed hb89
      have hz78 := HGr.out.size
      have hb78 : Below W7.heap.size W7 W8 := (Below.refl _ _).grown HGr.out (Nat.le_refl _) (fun k hk => by simp at hk)
      have hgl := (World.ownsRow.lt hmk W7.heap.size rfl).2
      have hsz1 : (W8.alloc (.cells #[.slice (some ⟨W7.heap.size, 0, none⟩) t.length t.length] 27)).heap.size = W8.heap.size + 1 := by simp
      rw [hsz1] at hlit9
      generalize ((W8.alloc _).alloc _).alloc _ = W9 at *
      have hb79 : Below W7.heap.size W7 W9 := hb78.trans (hb89.mono hb78.size)
      have hS9 : Seen9 t.length W7.heap.size W8.heap.size (W8.heap.size + 2) [] W9 := ⟨hx10, hmk9, W8.heap.size + 1, 0, hx12, hlit9, by omega, by omega, by omega⟩
      have hok9 : OkS W7.heap.size (W8.heap.size + 3) (W8.heap.size + 2) W9 := ⟨by omega, by omega, by omega, by rw [(one_blockP hx12).1]; rfl, fun g e => by
        unfold rowB at e
        rw [(one_blockP hx12).1] at e
        obtain rfl := Option.some.inj (show some (W8.heap.size + 1) = some g from e)
        omega⟩
      obtain ⟨a2, c2, b2, cb2, hbw, hbx, hI2, hF2, _, _⟩ := HS7.out
      have hbwl := lt_of_heap hbx
      obtain ⟨⟨z0, z1⟩, _⟩ := two_block ((hb79.block _ hbwl).trans hbx)
      have hst := walk1A_stops (keepS_keeps W7.heap.size (W8.heap.size + 3) (W8.heap.size + 2)) a2 c2 t b2 cb2 fr HG.out bw (3 - 1) W9 (by omega) hb79.size z0 z1 (hI2.below hb79 (Nat.le_refl _)) (hF2.below hb79 (Nat.le_refl _)) hok9
      have HB79 := Lib.hid hb79
      have HSN := Lib.hid hS9
      have hz9' := Nat.le_of_eq hz9.symm
      clear hb79 hS9 hok9 hx10 hx12 hb8 hb89 hlit hlit9 hb9' hmk hmk9 hb78 hsz1 hz9 hbx hI2 hF2 z0 z1 HMk HGr
      go_wp2_with fail
      refine (wpIn_wide (n := 3)).1 ?_
      apply wpIn_rangeFunc_ownF (n := 3) rfl (by decide) (gf := 46) (lb := #[.pointer (some ⟨bw, 0, none⟩)]) rfl trivial (enters_of Tryz.func46 (by kernel_rfl) rfl) hst (fun {A B C} h k => (keepS_keeps W7.heap.size (W8.heap.size + 3) (W8.heap.size + 2)).trans h k) (fun W l o o' _ h hc _ => (keepS_keeps W7.heap.size (W8.heap.size + 3) (W8.heap.size + 2)).put W l o o' h hc) (Below.refl _ _) (fun _ => rfl)
        (fun pre W => Seen9 t.length W7.heap.size W8.heap.size (W8.heap.size + 2) (elts pre) W ∧ Below W7.heap.size W9 W)
        (fun c pre _ => c = .ret ∧ ¬ elts pre <+: wholeL t fr)
        (OwnFrom.and (Own.from (seen9_own _ _ _ _) _) (ownFrom_below (by omega) (by omega)))
        (fun _ _ _ _ _ hs _ _ => hs)
        ⟨HSN.out, Below.refl _ _⟩
      case hassign =>
        intro l x W K hK
        dsimp only [eltV]
        gi_wp2
        exact hK
      have HWl := Lib.hid (show (wholeL t fr).length ≤ 400 from by
        have h1 := walkN_len HBe.out t.length (t.length - 1) 1 (by omega) (by omega)
        unfold wholeL
        omega)
      case hbody =>
        rintro l pre x W ⟨hs, hb⟩ hlen
        have hpf := pre_facts HBe.out HG.out (pre := pre) (x := x)
        have hlt := deepsD_lt pre
        obtain ⟨⟨p, d⟩, hat⟩ := x
        simp only at hat hpf
        have H0W := Lib.hid (H07.out.trans ((HB79.out.trans hb).mono H07.out.size))
        have c1 := HX1.out W H0W.out
        obtain ⟨c2, f2⟩ := HX2.out W H0W.out
        have c10 := (one_blockP hs.box).1
        obtain ⟨g, c, hg, hgo, hgn⟩ := hs.deep
        obtain ⟨c11, f11⟩ := one_blockP hg
        have hql : p < (seenN t.length (elts pre)).length := by rw [seenN_len]; exact hat
        have cs : W.cell? ⟨W7.heap.size, p, none⟩ = some (.int .i64 (((seenN t.length (elts pre)).getD p 0 : Nat) : Int)) := by
          rw [hs.row.cellAt p (by omega), List.getElem?_map, List.getElem?_eq_getElem hql, List.getD_eq_getElem?_getD, List.getElem?_eq_getElem hql]
          rfl
        have fs := hs.row.frozenAt p
        have d1 : decide ((p : Int) < 0) = false := decide_eq_false (by omega)
        have d2 : decide ((t.length : Int) ≤ (p : Int)) = false := decide_eq_false (by omega)
        have hpi : (p : Int) < (t.length : Int) := by omega
        have HPf := Lib.hid hpf
        have HS := Lib.hid hs
        have HGo := Lib.hid (And.intro hg (And.intro hgo hgn))
        have HLt := Lib.hid hlt
        have HB := Lib.hid hb
        have hml : (deepsD [] (elts pre)).length ≤ 400 := by
          have h1 := deepsD_le (elts pre) []
          rw [elts_len] at h1
          have h2 := HWl.out
          simp only [List.length_nil] at h1
          omega
        have hmc : (deepsD [] (elts pre)).length ≤ c ∧ c ≤ maxLen := own_capW hgo
        clear hs hg hgo hgn hlt hb hpf hql
        generalize hq : (seenN t.length (elts pre)).getD p 0 = q at *
        generalize hm : (deepsD [] (elts pre)).length = m at *
        have HM := Lib.hid hm
        clear hm
        dsimp only [eltV]
        by_cases hc : q = 0 ∧ 1 ≤ d ∧ d ≤ m + 1
        · obtain ⟨h1, h2, h3⟩ := hc
          have d3 : decide ((0 : Int) < (q : Int)) = false := decide_eq_false (by omega)
          have d4 : decide ((d : Int) < 1) = false := decide_eq_false (by omega)
          have d5 : decide ((m : Int) + 1 < (d : Int)) = false := decide_eq_false (by omega)
          have he1 : d - 1 + 1 = d := Nat.sub_add_cancel h2
          have hd1 : ((d : Int) - 1).toNat = d - 1 := by omega
          have hd2 : (0 : Int) ≤ (d : Int) - 1 := by omega
          have hd3 : (d : Int) - 1 ≤ (c : Int) := by have := hmc.1; omega
          have hWs := HB79.out.size
          have hWb := HB.out.size
          have hgsl := lt_of_heap HGo.out.1
          have htk := own_take HGo.out.2.1 (show d - 1 ≤ m by omega)
          rw [Nat.mul_one] at htk
          have htk1 := row_set9 htk ⟨W7.heap.size, p, none⟩ (.int .i64 (d : Int)) (by simp only [Value.ownBlock, ne_eq, Option.some.injEq]; exact HGo.out.2.2.1)
          have HTk := Lib.hid (htk1.belowed (ba1 _ (.cells #[.int .i64 (p : Int)] 3)))
          have HNx := Lib.hid (fun g' c' W2 k1 k2 k3 => Seen9.next (x := (p, d)) (hi := W8.heap.size + 3) (W2 := W2) (g' := g') (c' := c') HS.out HM.out ⟨by omega, by omega, by omega⟩ ⟨by omega, by omega, by omega, by omega, by omega⟩ ⟨h2, h3⟩ HGo.out.1 HGo.out.2.1 HGo.out.2.2 k1 k2 k3)
          clear htk htk1
          by_cases hd6 : 1 < d
          · have d6 : decide ((1 : Int) < (d : Int)) = true := decide_eq_true (by omega)
            gi_wp2_with (gi_at_builtin; go_loud (refine wpListIn_append_lies _ rfl _ _ _ rfl W7.heap.size 3 i1 (.int .i64 0) 1 8 Tryz.underlying27 HI1.out.1 HI1.out.2.1 HI1.out.2.2.1 HI1.out.2.2.2 rfl (by decide) _ (d - 1) _ rfl HTk.out ⟨W.heap.size, 0, none⟩ 1 1 [.int .i64 (p : Int)] rfl rfl (World.news_of_block (cs := #[.int .i64 (p : Int)]) (t := 3) (fr := (0, 0)) (by simpa using heap_alloc_new (W.setCell ⟨W7.heap.size, p, none⟩ (.int .i64 (d : Int))) _)) (by simp [Value.oneCell']) (by decide) (by unfold maxLen; omega) (by omega) (by simp; omega) ?_); intro g' c' W2 hown hgrow hat hlt2; obtain ⟨hnb, hnx⟩ := HNx.out g' c' W2 hown hgrow hat; obtain ⟨cb, fb⟩ := one_blkT hnb; simp only [he1] at hnx; have HNy := Lib.hid hnx; clear hnx hnb hown hgrow hat hlt2)
            have HBf := Lib.hid (HB.out.trans HNy.out.2.2.1)
            have hlen2 : (deepsD [] (elts pre ++ [(p, d)])).length = d := by rw [deepsD_snoc]; exact nextD_take _ p d h2 (by rw [HM.out]; exact h3)
            have hgd2 : (deepsD [] (elts pre ++ [(p, d)])).getD (d - 2) 0 = (deepsD [] (elts pre)).getD (d - 2) 0 := by
              rw [deepsD_snoc]
              refine take_getD (d := d - 1) ?_ (by omega)
              unfold nextD
              rw [List.take_append_of_le_length (by rw [List.length_take, HM.out]; simp only; omega), List.take_take, Nat.min_self]
            have hr : (deepsD [] (elts pre ++ [(p, d)])).getD (d - 2) 0 < t.length := by
              have h4 := deepsD_lt (pre ++ [(⟨(p, d), hat⟩ : Elt t)])
              rw [elts_app] at h4
              rw [List.getD_eq_getElem?_getD, List.getElem?_eq_getElem (by omega)]
              exact h4 _ (List.getElem_mem _)
            have HIn := Lib.hid (fun h => (HPf.out h).2.2.2 hd6)
            obtain ⟨g2, c2', hg2, hgo2, _⟩ := HNy.out.1.deep
            have cq : (W2.setCell ⟨W8.heap.size + 2, 0, none⟩ (.slice (some ⟨g', 0, none⟩) d c')).cell? ⟨g2, d - 2, none⟩ = some (.int .i64 (((deepsD [] (elts pre ++ [(p, d)])).getD (d - 2) 0 : Nat) : Int)) := by
              rw [hgo2.cellAt (d - 2) (by omega), List.getElem?_map, List.getElem?_eq_getElem (by omega), List.getD_eq_getElem?_getD, List.getElem?_eq_getElem (by omega)]
              rfl
            have cb2 := (one_blockP hg2).1
            rw [hlen2] at cb2
            rw [hgd2] at hr cq
            generalize (deepsD [] (elts pre)).getD (d - 2) 0 = r at *
            have H0f := Lib.hid (H07.out.trans ((HB79.out.trans HBf.out).mono H07.out.size))
            have ct := HX1.out _ H0f.out
            obtain ⟨cr, fr2⟩ := HX2.out _ H0f.out
            have HNz := HNy
            clear hgd2 hlen2 hg2 hgo2 HNy cb fb
            generalize W2.setCell ⟨W8.heap.size + 2, 0, none⟩ (.slice (some ⟨g', 0, none⟩) d c') = Wf at *
            obtain ⟨j, hj⟩ : ∃ j, j = d - 2 := ⟨_, rfl⟩
            have hd7 : IntKind.i64.wrap ((d : Int) - 2) = (j : Int) := by rw [show (d : Int) - 2 = (j : Int) by omega]; exact IntWalk.i64_in _ (by omega)
            have hd8 : (j : Int) < (d : Int) := by omega
            rw [← hj] at cq
            clear hj
            have HPc := Lib.hid (K3.out Wf.drew ((HB0.out _ H0f.out).drew) r hr)
            have hmx : Tryz.prog.follows .mixedOrders = true := by kernel_rfl
            have HS0 := Lib.hid (show (fun w' : World => w'.cell? ⟨w.heap.size, 0, none⟩ = some (.slice a t.length cap) ∧ w'.cell? ⟨W8.heap.size + 2, 0, none⟩ = some (.slice (some ⟨g2, 0, none⟩) d c2') ∧ w'.cell? ⟨g2, j, none⟩ = some (.int .i64 (r : Int))) Wf.drew from ⟨ct, cb2, cq⟩)
            refine wpIn_region_round hmx (by kernel_rfl) ?_
            refine wpAny_of_T (S := fun w' : World => w'.cell? ⟨w.heap.size, 0, none⟩ = some (.slice a t.length cap) ∧ w'.cell? ⟨W8.heap.size + 2, 0, none⟩ = some (.slice (some ⟨g2, 0, none⟩) d c2') ∧ w'.cell? ⟨g2, j, none⟩ = some (.int .i64 (r : Int))) (T := ([] : List Nat).contains) _ _ _ _ ?_
            refine wpAnyT_take (l := []) (i := 0) (v := .slice a t.length cap) rfl (by kernel_rfl) (by kernel_rfl) (by kernel_rfl) (by kernel_rfl) (by kernel_rfl) (fun _ _ _ h => h) HS0.out (Or.inl ⟨by rfl, ?_⟩) ?_
            · intro wz hS
              have s0 := hS.1
              have s1 := hS.2.1
              have s2 := hS.2.2
              clear hS
              go_simp
              exact ⟨rfl, rfl⟩
            refine wpAnyT_take (l := []) (i := 1) (v := .slice (some ⟨g2, 0, none⟩) d c2') rfl (by kernel_rfl) (by kernel_rfl) (by kernel_rfl) (by kernel_rfl) (by kernel_rfl) (fun _ _ _ h => h) HS0.out (Or.inl ⟨by rfl, ?_⟩) ?_
            · intro wz hS
              have s0 := hS.1
              have s1 := hS.2.1
              have s2 := hS.2.2
              clear hS
              go_simp
              exact ⟨rfl, rfl⟩
            refine wpAnyT_take (l := []) (i := 2) (v := .int .i64 (d : Int)) rfl (by kernel_rfl) (by kernel_rfl) (by kernel_rfl) (by kernel_rfl) (by kernel_rfl) (fun _ _ _ h => h) HS0.out (Or.inl ⟨by rfl, ?_⟩) ?_
            · intro wz hS
              have s0 := hS.1
              have s1 := hS.2.1
              have s2 := hS.2.2
              clear hS
              go_simp
              exact ⟨rfl, rfl⟩
            refine wpAnyT_take (l := []) (i := 3) (v := .int .i64 (j : Int)) rfl (by kernel_rfl) (by kernel_rfl) (by kernel_rfl) (by kernel_rfl) (by kernel_rfl) (fun _ _ _ h => h) HS0.out (Or.inl ⟨by rfl, ?_⟩) ?_
            · intro wz hS
              have s0 := hS.1
              have s1 := hS.2.1
              have s2 := hS.2.2
              clear hS
              go_simp
              exact ⟨rfl, rfl⟩
            refine wpAnyT_take (l := []) (i := 4) (v := .pointer (some ⟨g2, j, none⟩)) rfl (by kernel_rfl) (by kernel_rfl) (by kernel_rfl) (by kernel_rfl) (by kernel_rfl) (fun _ _ _ h => h) HS0.out (Or.inl ⟨by rfl, ?_⟩) ?_
            · intro wz hS
              have s0 := hS.1
              have s1 := hS.2.1
              have s2 := hS.2.2
              clear hS
              go_simp
              exact ⟨rfl, rfl⟩
            refine wpAnyT_take (l := []) (i := 5) (v := .int .i64 (r : Int)) rfl (by kernel_rfl) (by kernel_rfl) (by kernel_rfl) (by kernel_rfl) (by kernel_rfl) (fun _ _ _ h => h) HS0.out (Or.inl ⟨by rfl, ?_⟩) ?_
            · intro wz hS
              have s0 := hS.1
              have s1 := hS.2.1
              have s2 := hS.2.2
              clear hS
              go_simp
              exact ⟨rfl, rfl⟩
            refine wpAnyT_one (i := 6) (by kernel_rfl) ?_
            refine wpOp_keep rfl (by rfl) (fun K' hK' => ?_)
            go_simp
            go_at_call 12
            refine HPc.out.mono ?_
            rintro e Wg ⟨⟨vp, rfl, hrw⟩, hbw⟩
            obtain ⟨pa2, pc2, rfl, hNp, _⟩ := hrw.is
            have HNp := Lib.hid hNp
            have hbf : Below Wf.heap.size Wf Wg := (Below.refl _ _).drew.trans (hbw.mono (Nat.le_refl _))
            have HS1 := Lib.hid (show (fun w' : World => w'.cell? ⟨w.heap.size, 0, none⟩ = some (.slice a t.length cap) ∧ w'.cell? ⟨W8.heap.size + 2, 0, none⟩ = some (.slice (some ⟨g2, 0, none⟩) d c2') ∧ w'.cell? ⟨g2, j, none⟩ = some (.int .i64 (r : Int))) Wg from ⟨(hbf.cell (World.block_lt_of_cell? _ _ ct)).trans ct, (hbf.cell (World.block_lt_of_cell? _ _ cb2)).trans cb2, (hbf.cell (World.block_lt_of_cell? _ _ cq)).trans cq⟩)
            refine hK' _ _ HS1.out ?_
            clear hK' K' HS0
            have HS0 := HS1
            refine wpAnyT_take (l := []) (i := 7) (v := .tuple #[.slice pa2 (partsAt t fr r).length pc2, .int .i64 0]) rfl (by kernel_rfl) (by kernel_rfl) (by kernel_rfl) (by kernel_rfl) (by kernel_rfl) (fun _ _ _ h => h) HS0.out (Or.inl ⟨by rfl, ?_⟩) ?_
            · intro wz hS
              have s0 := hS.1
              have s1 := hS.2.1
              have s2 := hS.2.2
              clear hS
              go_simp
              exact ⟨rfl, rfl⟩
            refine wpAnyT_take (l := []) (i := 8) (v := .slice pa2 (partsAt t fr r).length pc2) rfl (by kernel_rfl) (by kernel_rfl) (by kernel_rfl) (by kernel_rfl) (by kernel_rfl) (fun _ _ _ h => h) HS0.out (Or.inl ⟨by rfl, ?_⟩) ?_
            · intro wz hS
              have s0 := hS.1
              have s1 := hS.2.1
              have s2 := hS.2.2
              clear hS
              go_simp
              exact ⟨rfl, rfl⟩
            refine wpAnyT_take (l := []) (i := 9) (v := .int .i64 0) rfl (by kernel_rfl) (by kernel_rfl) (by kernel_rfl) (by kernel_rfl) (by kernel_rfl) (fun _ _ _ h => h) HS0.out (Or.inl ⟨by rfl, ?_⟩) ?_
            · intro wz hS
              have s0 := hS.1
              have s1 := hS.2.1
              have s2 := hS.2.2
              clear hS
              go_simp
              exact ⟨rfl, rfl⟩
            refine wpAnyT_take (l := []) (i := 10) (v := .slice pa2 (partsAt t fr r).length pc2) rfl (by kernel_rfl) (by kernel_rfl) (by kernel_rfl) (by kernel_rfl) (by kernel_rfl) (fun _ _ _ h => h) HS0.out (Or.inl ⟨by rfl, ?_⟩) ?_
            · intro wz hS
              have s0 := hS.1
              have s1 := hS.2.1
              have s2 := hS.2.2
              clear hS
              go_simp
              exact ⟨rfl, rfl⟩
            refine wpAnyT_one (i := 11) (by kernel_rfl) ?_
            refine wpOp_keep rfl (by rfl) (fun K' hK' => ?_)
            go_simp
            refine hK' _ _ HS0.out ⟨by kernel_rfl, ?_⟩
            simp only [nrmQ]
            clear hK' K' HS0 HS1 hrw hbw hNp
            have HBf2 := Lib.hid hbf
            have HHa := Lib.hid (has_ok pa2 pc2 ((partsAt t fr r).map fun (n : Nat) => (n : Int)) (p : Int) Wg (nats_ints HNp.out) (by rw [List.length_map]; have := partsL_le HG.out hr; omega))
            rw [List.length_map] at HHa
            have hko : KeepsOthers W Wg := HNz.out.2.2.2.trans ⟨HBf2.out.size, fun k o hk _ => (HBf2.out.block k (lt_of_heap hk)).trans hk⟩
            have H0g := Lib.hid (H0f.out.trans (HBf2.out.mono H0f.out.size))
            obtain ⟨cr2, fr3⟩ := HX2.out _ H0g.out
            have HKo := Lib.hid hko
            clear hbf hko
            by_cases hin : p ∈ partsAt t fr r
            · rw [show (List.map (fun (n : Nat) => (n : Int)) (partsAt t fr r)).contains (p : Int) = true by simp; exact ⟨p, hin, rfl⟩] at HHa
              clear hin
              gi_wp2_with (refine ⟨trivial, ?_⟩; gi_at_call 30; refine (CallsIn.inRound l (callsIn_wide.2 HHa.out)).mono ?_; rintro e w' ⟨rfl, hw'⟩; subst hw')
              exact ⟨HKo.out, HNz.out.2.1.then_below HBf2.out, by rw [elts_app]; exact HNz.out.1.below HBf2.out, HBf.out.trans (HBf2.out.mono (by have := HBf.out.size; omega))⟩
            · have HNo := Lib.hid (show ¬ elts (pre ++ [(⟨(p, d), hat⟩ : Elt t)]) <+: wholeL t fr from fun h => hin (HIn.out h))
              rw [show (List.map (fun (n : Nat) => (n : Int)) (partsAt t fr r)).contains (p : Int) = false by simp; exact fun x hx e => hin ((show x = p from by omega) ▸ hx)] at HHa
              clear hin
              gi_wp2_with (refine ⟨trivial, ?_⟩; gi_at_call 30; refine (CallsIn.inRound l (callsIn_wide.2 HHa.out)).mono ?_; rintro e w' ⟨rfl, hw'⟩; subst hw')
              exact ⟨HKo.out.trans (KeepsOthers.setCell _ _ _), rfl, HNo.out⟩
          · have d6 : decide ((1 : Int) < (d : Int)) = false := decide_eq_false (by omega)
            gi_wp2_with (gi_at_builtin; go_loud (refine wpListIn_append_lies _ rfl _ _ _ rfl W7.heap.size 3 i1 (.int .i64 0) 1 8 Tryz.underlying27 HI1.out.1 HI1.out.2.1 HI1.out.2.2.1 HI1.out.2.2.2 rfl (by decide) _ (d - 1) _ rfl HTk.out ⟨W.heap.size, 0, none⟩ 1 1 [.int .i64 (p : Int)] rfl rfl (World.news_of_block (cs := #[.int .i64 (p : Int)]) (t := 3) (fr := (0, 0)) (by simpa using heap_alloc_new (W.setCell ⟨W7.heap.size, p, none⟩ (.int .i64 (d : Int))) _)) (by simp [Value.oneCell']) (by decide) (by unfold maxLen; omega) (by omega) (by simp; omega) ?_); intro g' c' W2 hown hgrow hat hlt2; obtain ⟨hnb, hnx⟩ := HNx.out g' c' W2 hown hgrow hat; obtain ⟨cb, fb⟩ := one_blkT hnb; simp only [he1] at hnx; have HNy := Lib.hid hnx; clear hnx hnb hown hgrow hat hlt2)
            have HBf := Lib.hid (HB.out.trans HNy.out.2.2.1)
            exact ⟨HNy.out.2.2.2, HNy.out.2.1, by rw [elts_app]; exact HNy.out.1, HBf.out⟩
        · have HNo := Lib.hid (show ¬ elts (pre ++ [(⟨(p, d), hat⟩ : Elt t)]) <+: wholeL t fr from fun h => hc (by
            obtain ⟨a1, a2, a3, _⟩ := HPf.out h
            exact ⟨hq ▸ a1, a2, HM.out ▸ a3⟩))
          by_cases h1 : 0 < q
          · have d3 : decide ((0 : Int) < (q : Int)) = true := decide_eq_true (by omega)
            gi_wp2
            exact ⟨KeepsOthers.setCell _ _ _, rfl, HNo.out⟩
          · have d3 : decide ((0 : Int) < (q : Int)) = false := decide_eq_false (by omega)
            by_cases h2 : d < 1
            · have d4 : decide ((d : Int) < 1) = true := decide_eq_true (by omega)
              gi_wp2
              exact ⟨KeepsOthers.setCell _ _ _, rfl, HNo.out⟩
            · have d4 : decide ((d : Int) < 1) = false := decide_eq_false (by omega)
              have d5 : decide ((m : Int) + 1 < (d : Int)) = true := decide_eq_true (by omega)
              gi_wp2
              exact ⟨KeepsOthers.setCell _ _ _, rfl, HNo.out⟩
      case hstop =>
        rintro D2 c pre W2 hD2 hp hx hK2
        exact absurd hp hx.2
      case hdone =>
        rintro D2 ys W2 hD2 hys ⟨hs, hb⟩ hK2
        have H0W := Lib.hid (H07.out.trans ((HB79.out.trans hb).mono H07.out.size))
        have c1 := HX1.out W2 H0W.out
        obtain ⟨c2, f2⟩ := HX2.out W2 H0W.out
        have c10 := (one_blockP hs.box).1
        have HSee := Lib.hid (fun i (hi : i < t.length) => (show ∃ q : Nat, W2.cell? ⟨W7.heap.size, i, none⟩ = some (.int .i64 ((q + 1 : Nat) : Int)) from by
          have hl : i < (seenN t.length (elts ys)).length := by rw [seenN_len]; exact hi
          have hd : ∀ y ∈ elts ys, 1 ≤ y.2 := fun y hy => (walkN_le HG.out.formed t.length (t.length - 1) 1 (by omega) y (by rw [hys] at hy; exact hy)).2.1
          have hz := seenN_zero hi hd
          rw [hys, show (wholeL t fr).countP (fun x => decide (x.1 = i)) = 1 from whole_once HBe.out HG.out.formed.pos hi] at hz
          have hne : (seenN t.length (wholeL t fr)).getD i 0 ≠ 0 := fun e => by have := hz.1 e; omega
          rw [hs.row.cellAt i (by omega), List.getElem?_map, List.getElem?_eq_getElem hl]
          rw [List.getD_eq_getElem?_getD] at hne
          rw [hys] at hl
          rw [List.getElem?_eq_getElem hl] at hne
          refine ⟨(seenN t.length (wholeL t fr))[i] - 1, ?_⟩
          have e1 : (seenN t.length (wholeL t fr))[i] - 1 + 1 = (seenN t.length (wholeL t fr))[i] := Nat.sub_add_cancel (Nat.pos_of_ne_zero hne)
          rw [e1]
          simp only [hys, Option.map_some, natV]))
        have HR2 := Lib.hid (HRo7.out.below (HB79.out.trans (hb.mono (Nat.le_refl _))))
        have HB2 := Lib.hid (HB0.out W2 H0W.out)
        have HD2 := Lib.hid hK2
        have HD2l := Lib.hid hD2
        clear hs hb hys hK2
        go_wp2_with fail
        go_loopw [16] (fun v16 wr => ∃ i : Nat, i ≤ t.length ∧ v16 = .int .i64 (i : Int) ∧ Below W2.heap.size W2 wr) (fun v16 _ => t.length - (intOf v16).toNat)
        case atStart => exact ⟨0, by omega, rfl, Below.refl _ _⟩
        case round =>
          obtain ⟨i, hi, rfl, hbr⟩ := hrel
          have HBr := Lib.hid hbr
          have e1 := (hbr.cell (World.block_lt_of_cell? _ _ c1)).trans c1
          have e10 := (hbr.cell (World.block_lt_of_cell? _ _ c10)).trans c10
          clear hbr
          by_cases hlt : i < t.length
          · obtain ⟨q, hq⟩ := HSee.out i hlt
            have eq := (HBr.out.cell (World.block_lt_of_cell? _ _ hq)).trans hq
            have d1 : (((q + 1 : Nat) : Int) == 0) = false := by rw [beq_eq_false_iff_ne]; omega
            have d2 : (i : Int) < (t.length : Int) := by omega
            generalize ((q + 1 : Nat) : Int) = z at *
            clear hq
            go_wp2_with fail
            go_roundw
            case rel => exact ⟨i + 1, by omega, by go_num, HBr.out⟩
            case measure => simp [intOf]; omega
          · obtain rfl : i = t.length := by omega
            have HRr := Lib.hid (HR2.out.below HBr.out)
            have e2 := (HBr.out.cell (World.block_lt_of_cell? _ _ c2)).trans c2
            have g2 := (HBr.out.frozen (World.block_lt_of_cell? _ _ c2)).trans f2
            have HDw := Lib.hid (show w.heap.size + 2 ≤ D2 from by have := HD2l.out; have := HB79.out.size; have := H07.out.size; omega)
            have HDr := Lib.hid ((HBr.out.block D2 (lt_of_heap HD2.out)).trans HD2.out)
            have HBz := Lib.hid (HB2.out.trans (HBr.out.mono HB2.out.size))
            have HQt := Lib.hid (HRr.out.trs (by rw [HQl.out]; omega))
            have HLq := Lib.hid (show (Q.map Prod.fst).length = P.length by rw [List.length_map]; exact HQl.out)
            clear e10 c1 c10 c2 f2
            obtain ⟨a5, c5, hu5⟩ := trs_len HQt.out
            rw [HLq.out] at hu5
            subst hu5
            generalize hWa : wr = Wa at *
            clear hWa
            go_wp2_with fail
            go_loopw [17] (fun v17 wx => ∃ i : Nat, i ≤ P.length ∧ v17 = .int .i64 (i : Int) ∧ (∀ j (h : j < P.length), j < i → checkN9 (subT t fr P[j]) = 0) ∧ Below Wa.heap.size Wa wx) (fun v17 _ => P.length - (intOf v17).toNat)
            case atStart => exact ⟨0, by omega, rfl, fun j _ h => by omega, Below.refl _ _⟩
            case round =>
              obtain ⟨i, hi, rfl, hall, hbr⟩ := hrel
              have HBr := Lib.hid hbr
              have HAll := Lib.hid hall
              have HBw := Lib.hid (HBz.out.trans (hbr.mono HBz.out.size))
              clear hbr hall
              by_cases hlt : i < P.length
              · obtain ⟨bq, oq, cq, vq, hv, hbq, hT, hcell⟩ := trs_at HQt.out (i := i) (by rw [HLq.out]; exact hlt)
                have hLi : (Q.map Prod.fst)[i]'(by rw [HLq.out]; exact hlt) = subT t fr P[i] := by
                  have h1 : (Q.map Prod.fst)[i]? = (P.map (subT t fr))[i]? := by rw [HQm.out]
                  rw [List.getElem?_eq_getElem (by rw [HLq.out]; exact hlt), List.getElem?_map, List.getElem?_eq_getElem hlt] at h1
                  exact Option.some.inj h1
                rw [hLi] at hT
                simp only [Value.slice.injEq] at hv
                obtain ⟨rfl, hx9, rfl⟩ := hv
                clear hx9
                obtain ⟨aq, cq2, rfl, hsk, hIq, hokq⟩ := hT
                rw [← HBr.out.cell hbq] at hcell
                have HCk := Lib.hid (treeCheck_ok aq cq2 (subT t fr P[i]) wr (HE.out.below HBw.out).tp.te ((hIq.below HBr.out (Nat.le_refl _)).mono HBr.out.size) hokq hsk.1)
                have hii : (i : Int) < (P.length : Int) := by omega
                clear hLi hIq hokq hsk
                by_cases h0 : checkN9 (subT t fr P[i]) = 0
                · have HAll2 := Lib.hid (show ∀ j (h : j < P.length), j < i + 1 → checkN9 (subT t fr P[j]) = 0 from fun j h hj => by
                    rcases Nat.lt_or_ge j i with h' | h'
                    · exact HAll.out j h h'
                    · obtain rfl : j = i := by omega
                      exact h0)
                  rw [h0] at HCk
                  clear h0
                  generalize (subT t fr P[i]).length = n9 at *
                  go_wp2_with (go_at_call 10; (with_reducible refine HCk.out.mono ?_); rintro e Wc ⟨rfl, hb⟩; have HBc := Lib.hid (HBr.out.trans (hb.mono HBr.out.size)); clear hb)
                  go_roundw
                  case rel => exact ⟨i + 1, by omega, by go_num, HAll2.out, HBc.out⟩
                  case measure => simp [intOf]; omega
                · have t3 : (checkN9 (subT t fr P[i]) != 0) = true := by simpa using h0
                  generalize checkN9 (subT t fr P[i]) = c at *
                  generalize (subT t fr P[i]).length = n9 at *
                  clear h0
                  go_wp2_with (go_at_call 10; (with_reducible refine HCk.out.mono ?_); rintro e Wc ⟨rfl, hb⟩; have HBc := Lib.hid (HBr.out.trans (hb.mono HBr.out.size)); have hc2 := (HBc.out.cell (World.block_lt_of_cell? _ _ e2)).trans e2; have hf2 := (HBc.out.frozen (World.block_lt_of_cell? _ _ e2)).trans g2; clear hb)
                  have hcq := World.cell?_setCell_same' Wc ⟨w.heap.size + 1, 0, none⟩ (.bool true) (by rw [hc2]; rfl)
                  have hDq : (Wc.setCell ⟨w.heap.size + 1, 0, none⟩ (.bool true)).heap[D2]? = some (.deferred (some [])) := (heap_setCell_other _ _ _ _ (by show D2 ≠ w.heap.size + 1; have := HDw.out; omega)).trans ((HBc.out.block D2 (lt_of_heap HDr.out)).trans HDr.out)
                  have hbq := (HBz.out.trans (HBc.out.mono HBz.out.size)).setCell (p := ⟨w.heap.size + 1, 0, none⟩) (by show w.heap.size ≤ w.heap.size + 1; omega) (.bool true)
                  generalize Wc.setCell ⟨w.heap.size + 1, 0, none⟩ (.bool true) = Wq at *
                  have hcz := cell_kept hcq (grownBy_putObj' Wq D2 (.deferred none)) (fun r e => by cases e; exact ⟨_, hDq, rfl⟩)
                  refine ⟨by simp, .inl ⟨_, _, rfl, run_takeDeferred hDq, ?_⟩⟩
                  refine ⟨.bool true, by simp [results, Tryz.results6, go_sem, hcz], rfl, ?_⟩
                  exact hbq.trans (belowK_b (w := w) (Nat.le_refl _) Wq D2 _ _ (by have := HDw.out; omega) hDq rfl rfl)
              · obtain rfl : i = P.length := by omega
                have e9 := (HBr.out.cell (World.block_lt_of_cell? _ _ e1)).trans e1
                obtain ⟨bt, ot, hat, _, x0, x1, x2, x3, x4, x5⟩ := nds_at (HI.out wr HBw.out) hkl
                subst hat
                have hkt : t.length - 1 = k := by omega
                have hbw := build_whole HC0.out HBe.out HG.out (x := t[k]) (by rw [hkt]; exact List.getElem?_eq_getElem hkl) (fun p hp => by
                  rw [hkt, ← HP.out] at hp
                  obtain ⟨j, hj, rfl⟩ := List.mem_iff_getElem.1 hp
                  exact HAll.out j hj hj)
                rw [hkt, ← HP.out, ← HQm.out] at hbw
                have hBd := treeBuild_ok t[k] (.slice a5 P.length c5) (Q.map Prod.fst) wr (HE.out.below HBw.out).tp.te (HOk.out _ (List.getElem_mem hkl)) ((HQt.out.below HBr.out (Nat.le_refl _)).mono HBr.out.size)
                unfold BuildEnd at hBd
                rw [hbw] at hBd
                have HBd := Lib.hid hBd
                have hkk : (k : Int) < (t.length : Int) := by omega
                clear hBd hbw hkt
                generalize t[k] = x at *
                obtain ⟨kk, n, pp, ii, s, ty⟩ := x
                simp only [ndV] at HBd x0 x1 x2 x3 x4 x5
                go_upto_region 43 with (go_at_call 23; (with_reducible refine HBd.out.mono ?_); rintro e Wb ⟨⟨vb, rfl, hrow⟩, hb⟩; have HBb := Lib.hid (HBr.out.trans (hb.mono HBr.out.size)); obtain ⟨ab, cb, rfl, hNb⟩ := hrow.opened9; have HNb := Lib.hid hNb; have e8 := (hb.cell (World.block_lt_of_cell? _ _ e9)).trans e9; clear hb hrow hNb)
                have HBwb := Lib.hid (HBz.out.trans (HBb.out.mono HBz.out.size))
                have HSm := Lib.hid (sameTree_ok ab (some ⟨bt, ot, none⟩) cb cap t Wb HNb.out (HI.out Wb HBwb.out) hz)
                have hc3 := (HBb.out.cell (World.block_lt_of_cell? _ _ e2)).trans e2
                have hf3 := (HBb.out.frozen (World.block_lt_of_cell? _ _ e2)).trans g2
                go_wp2_with (go_at_call 17; (with_reducible refine HSm.out.mono ?_); rintro e Wc ⟨rfl, hb⟩; have HBc := Lib.hid (HBb.out.trans (hb.mono HBb.out.size)); have hc2 := (HBc.out.cell (World.block_lt_of_cell? _ _ e2)).trans e2; have hf2 := (HBc.out.frozen (World.block_lt_of_cell? _ _ e2)).trans g2; clear hb)
                have hcq := World.cell?_setCell_same' Wc ⟨w.heap.size + 1, 0, none⟩ (.bool true) (by rw [hc2]; rfl)
                have hDq : (Wc.setCell ⟨w.heap.size + 1, 0, none⟩ (.bool true)).heap[D2]? = some (.deferred (some [])) := (heap_setCell_other _ _ _ _ (by show D2 ≠ w.heap.size + 1; have := HDw.out; omega)).trans ((HBc.out.block D2 (lt_of_heap HDr.out)).trans HDr.out)
                have hbq := (HBz.out.trans (HBc.out.mono HBz.out.size)).setCell (p := ⟨w.heap.size + 1, 0, none⟩) (by show w.heap.size ≤ w.heap.size + 1; omega) (.bool true)
                generalize Wc.setCell ⟨w.heap.size + 1, 0, none⟩ (.bool true) = Wq at *
                have hcz := cell_kept hcq (grownBy_putObj' Wq D2 (.deferred none)) (fun r e => by cases e; exact ⟨_, hDq, rfl⟩)
                refine ⟨by simp, .inl ⟨_, _, rfl, run_takeDeferred hDq, ?_⟩⟩
                refine ⟨.bool true, by simp [results, Tryz.results6, go_sem, hcz], rfl, ?_⟩
                exact hbq.trans (belowK_b (w := w) (Nat.le_refl _) Wq D2 _ _ (by have := HDw.out; omega) hDq rfl rfl)
theorem treeWhole_ok (a : Option Addr) (cap : Nat) (t : List Nd) (w : World) (hE : EnvP w) (hI : IsNds w.heap.size w a t) (hOk : ∀ x ∈ t, NdOk x) (hz : t.length * 64 ≤ 140737488351232) (hcap : t.length ≤ cap) (hcm : cap ≤ maxLen) (hnil : a = none → t = [] ∧ cap = 0) :
    Calls Tryz.prog 6 #[.slice a t.length cap] w fun e w' => e = .returned (.bool true) ∧ Below w.heap.size w w' := by
  by_cases hl : t.length ≤ 400
  · by_cases h : checkN9 t = 0
    · exact treeWhole_0 a cap t w hE hI hOk hz hcap hcm hnil hl h
    · exact treeWhole_n a cap t w hE hI hOk hz (fun _ => h)
  · exact treeWhole_n a cap t w hE hI hOk hz (fun h => absurd h hl)
end Go.Proofs.YtkokdafkjjcgoaaGreatDoor

