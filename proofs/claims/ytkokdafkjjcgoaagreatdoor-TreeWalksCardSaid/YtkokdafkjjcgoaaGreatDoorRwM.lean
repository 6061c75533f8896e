/- Going over a tree, counting: the reference. · Count: the program. · Counting, going over: the reference; lists of numbers. -/
import Derived.Test.YtkokdafkjjcgoaaGreatDoorWalkM
import Derived.Deep.AppendLies
import Derived.Test.YtkokdafkjjcgoaaGreatDoorTopM
import Derived.RangeFuncFrom
import Derived.Shelf.RegionOpen
namespace Go.Proofs.YtkokdafkjjcgoaaGreatDoor
open Go.RowKit

theorem infoStep : (Tryz.prog.info? 50).map (fun i => (i.zero, i.size, i.bytes)) = some (some (.agg #[.int .i64 0, .int .i64 0]), 2, 16) := by kernel_rfl
def stCells (x : Nat × Nat) : List Value := [.int .i64 (x.1 : Int), .int .i64 (x.2 : Int)]
theorem st_len (x : Nat × Nat) : (stCells x).length = 2 := rfl
theorem st_one (t : List (Nat × Nat)) : ∀ u ∈ t.flatMap stCells, u.oneCell' = true := fun u hu => by
  obtain ⟨x, _, hx⟩ := List.mem_flatMap.1 hu
  simp only [stCells, List.mem_cons, List.not_mem_nil, or_false] at hx
  rcases hx with rfl | rfl <;> rfl
/-- steps, in a row of one's own -/
def StRow (w : World) (base : Nat) (v : Value) (L : List (Nat × Nat)) : Prop := w.ownsRow base 50 2 v L.length (L.flatMap stCells)
abbrev IsSteps (B : Nat) (w : World) (a : Option Addr) (L : List (Nat × Nat)) : Prop := IsSl 2 stCells B w a L
theorem lt_of_own {w : World} {base g n cap : Nat} {L : List (Nat × Nat)} (h : StRow w base (.slice (some ⟨g, 0, none⟩) n cap) L) : g < w.heap.size := (World.ownsRow.lt h g rfl).2
theorem StRow.some {w : World} {base : Nat} {v : Value} {L : List (Nat × Nat)} (h : StRow w base v L) (hn : L ≠ []) : ∃ g off cap, v = .slice (some ⟨g, off, none⟩) L.length cap ∧ ∀ (q : Nat) u, (L.flatMap stCells)[q]? = .some u → w.cell? ((⟨g, off, none⟩ : Addr).add q) = .some u := by
  obtain ⟨a, cap, hv, hI, _⟩ := own_sl st_len h rfl
  obtain ⟨g, off, rfl, _⟩ := hI hn
  exact ⟨g, off, cap, hv, sl_news st_len hI⟩
theorem walkN_ne (t : List Nd) (fr : List Nat) (k d : Nat) : walkN t fr k d ≠ [] := by unfold walkN; rw [walkF]; simp

set_option maxRecDepth 100000 in
set_option maxHeartbeats 4000000 in
theorem walked_ok (a : Option Addr) (cap : Nat) (t : List Nd) (b : Option Addr) (capb : Nat) (fr : List Nat) (hG : Given t fr) (hbe : beginsN t = some fr) : ∀ (m k d : Nat), k < m → k < t.length → d + k ≤ 10000 → ∀ w, WholeAt w a b t fr →
    Calls Tryz.prog 48 #[.slice a t.length cap, .slice b fr.length capb, .int .i64 (k : Int), .int .i64 (d : Int)] w fun e w' => (∃ v, e = .returned v ∧ StRow w' w.heap.size v (walkN t fr k d)) ∧ Below w.heap.size w w'
  | 0, k, _, hm, _, _, _, _ => by omega
  | m + 1, k, d, hm, hk, hdk, w, hW => by
    have HRec := Lib.hid (walked_ok a cap t b capb fr hG hbe m)
    have HPt := Lib.hid (fun w (hW : WholeAt w a b t fr) => refTparts_ok a cap t b capb fr w hW.nds hW.nats hG.le hG.formed k hk)
    have HW := Lib.hid hW
    have HP := Lib.hid (fun (q : Nat) (h : q ∈ partsAt t fr k) => hG.formed.parts_lt h)
    have HWq := Lib.hid (walkN_eq hG.formed k d)
    have HLn := Lib.hid (fun p d (h : p < t.length) => walkN_len hbe (p + 1) p d (Nat.lt_succ_self p) h)
    have hpl : (partsAt t fr k).length ≤ 4096 := by rw [partsAt_is (List.getElem?_eq_getElem hk), partsE_length]; have := (hG.formed.node k _ (List.getElem?_eq_getElem hk)).2.1.le; have := hG.le; omega
    have htl := hG.le
    obtain ⟨i0, hi, hz0, hz1, hz2⟩ := info_parts infoStep
    have HI0 := Lib.hid (And.intro hi (And.intro hz0 (And.intro hz1 hz2)))
    clear hi hz0 hz1 hz2 hW
    generalize partsAt t fr k = P at *
    have hb1 := ba1 w (.cells #[.int .i64 (k : Int), .int .i64 (d : Int)] 50)
    have HR1 := Lib.hid (show StRow (w.alloc (.cells #[.int .i64 (k : Int), .int .i64 (d : Int)] 50)) w.heap.size (.slice (some ⟨w.heap.size, 0, none⟩) 1 1) [(k, d)] from World.ownsRow_lit w #[.int .i64 (k : Int), .int .i64 (d : Int)] 1 (Nat.le_refl _) (by decide) rfl)
    have HW1 := Lib.hid (HW.out.below hb1)
    have HPt1 := Lib.hid (HPt.out _ HW1.out)
    have HB1 := Lib.hid hb1
    clear hb1
    go_enter Tryz.func48, Tryz.ntmps48
    go_wp2_with (go_at_call 43; (with_reducible refine HPt1.out.mono ?_); rintro e w2 ⟨⟨v, rfl, hrow⟩, hb2⟩; obtain ⟨pa, pc, rfl, hP, _⟩ := hrow.is; have HN2 := Lib.hid hP; have HB2 := Lib.hid (HB1.out.trans (hb2.mono HB1.out.size)); have HG2 := Lib.hid (nat_far_any hrow); have HR2 := Lib.hid (show StRow w2 w.heap.size (.slice (some ⟨w.heap.size, 0, none⟩) 1 1) [(k, d)] from HR1.out.belowed hb2); clear hrow hb2 hP)
    have hsz2 : w.heap.size + 1 ≤ w2.heap.size := by have := HB1.out; have := HB2.out.size; have := lt_of_own HR2.out; omega
    go_wp2_with fail
    go_loopg [9, 11] P.length (fun m v9 v11 wy => ∃ (i g c : Nat), i ≤ P.length ∧ i + m = P.length ∧ v11 = .int .i64 (i : Int) ∧ v9 = .slice (some ⟨g, 0, none⟩) ((k, d) :: doneF t fr P (d + 1) i).length c ∧ Hid (StRow wy w.heap.size (.slice (some ⟨g, 0, none⟩) ((k, d) :: doneF t fr P (d + 1) i).length c) ((k, d) :: doneF t fr P (d + 1) i)) ∧ Hid (Below w.heap.size w wy) ∧ (g = w.heap.size ∨ w2.heap.size ≤ g) ∧ Hid (w2.heap.size ≤ wy.heap.size ∧ ∀ j, j < w2.heap.size → j ≠ w.heap.size → wy.heap[j]? = w2.heap[j]?))
    case atStart => exact ⟨0, w.heap.size, 1, by omega, by omega, rfl, rfl, HR2, HB2, .inl rfl, Lib.hid ⟨Nat.le_refl _, fun _ _ _ => rfl⟩⟩
    case round =>
      obtain ⟨i, g, c, hi, him, rfl, rfl, HR, HB, hg, HS⟩ := hrel
      by_cases hlt : i < P.length
      · obtain ⟨pb, po, hpa, hpb, x2⟩ := nats_at HN2.out hlt
        subst hpa
        have hpn := HG2.out _ _ _ _ rfl (by omega)
        rw [World.size_alloc] at hpn
        have x3 : wr.cell? ⟨pb, po + i, none⟩ = some (.int .i64 (P[i] : Int)) := by rw [World.cell?_of_block (HS.out.2 pb hpb (by omega))]; exact x2
        obtain ⟨p, hp⟩ : ∃ p, p = P[i] := ⟨_, rfl⟩
        rw [← hp] at x3
        have hpk := HP.out p (by rw [hp]; exact List.getElem_mem hlt)
        have hdn := done_next (t := t) (fr := fr) (d := d + 1) hlt
        have hdp := List.IsPrefix.length_le (done_pre (t := t) (fr := fr) (P := P) (d := d + 1) (i := i + 1))
        have hwl := congrArg List.length HWq.out
        have hkl := HLn.out k d hk
        rw [hdn, List.length_append, ← hp] at hdp
        rw [List.length_cons] at hwl
        have HDn := Lib.hid (show (k, d) :: doneF t fr P (d + 1) (i + 1) = ((k, d) :: doneF t fr P (d + 1) i) ++ walkN t fr p (d + 1) by rw [hdn, ← hp]; rfl)
        have HC := Lib.hid (HRec.out p (d + 1) (by omega) (by omega) (by omega) wr (HW.out.below HB.out))
        rw [Int.natCast_succ] at HC
        have hne := walkN_ne t fr p (d + 1)
        have hpos := List.length_pos_iff.2 hne
        have hsum : ((k, d) :: doneF t fr P (d + 1) i).length + (walkN t fr p (d + 1)).length ≤ 4097 := by rw [List.length_cons]; omega
        clear x2 hp hdn hdp hwl hkl
        generalize ((k, d) :: doneF t fr P (d + 1) i) = Q at *
        generalize walkN t fr p (d + 1) = R at *
        have hfl := flat_len st_len R
        go_wp2_with (first | (go_at_call 48; (with_reducible refine HC.out.mono ?_); rintro e w4 ⟨⟨v2, rfl, hr2⟩, hb4⟩; obtain ⟨g2, o2, c2, rfl, hn2⟩ := hr2.some hne; have HN4 := Lib.hid hn2; have HB4 := Lib.hid hb4; have HR4 := Lib.hid (HR.out.belowed hb4); have hbz4 := (HB.out.trans (hb4.mono HB.out.size)).size; clear hr2 hb4 hn2) | (at_builtin; go_loud (refine wpList_append_lies _ rfl _ _ _ rfl w.heap.size 50 i0 (.agg #[.int .i64 0, .int .i64 0]) 2 16 Tryz.underlying46 HI0.out.1 HI0.out.2.1 HI0.out.2.2.1 HI0.out.2.2.2 rfl (by decide) (.slice (some ⟨g, 0, none⟩) Q.length c) Q.length (Q.flatMap stCells) rfl HR4.out ⟨g2, o2, none⟩ R.length c2 (R.flatMap stCells) rfl hfl HN4.out (st_one R) hpos (by unfold maxLen; omega) (by omega) hbz4 w4.heap.size rfl ?_); intro g5 c5 w5 hown5 hgrow5 hat5 _))
        go_roundg (P.length - (i + 1))
        case measure => omega
        case rel =>
          refine ⟨i + 1, g5, c5, by omega, by omega, by rw [Int.natCast_add]; rfl, by rw [HDn.out, List.length_append], Lib.hid (by rw [HDn.out]; unfold StRow; rw [List.length_append, List.flatMap_append]; exact hown5), Lib.hid ((HB.out.trans (HB4.out.mono HB.out.size)).grown hgrow5 hbz4 (fun k hk => by simp [Value.ownBlock] at hk; omega)), ?_, Lib.hid ⟨by have := hgrow5.size; have := HB4.out.size; have := HS.out.1; omega, fun j hj hjw => ?_⟩⟩
          · rcases hat5 with h | h
            · simp [Value.ownBlock] at h; omega
            · right; have := HB4.out.size; have := HS.out.1; omega
          · rw [hgrow5.block j (by have := HB4.out.size; have := HS.out.1; omega) (by simp [Value.ownBlock]; omega), HB4.out.block j (by have := HS.out.1; omega)]
            exact HS.out.2 j hj hjw
      · obtain rfl : i = P.length := by omega
        go_wp2_with fail
        go_ret
        refine ⟨⟨_, rfl, ?_⟩, HB.out⟩
        rw [HWq.out, ← done_all]
        exact HR.out
end Go.Proofs.YtkokdafkjjcgoaaGreatDoor
namespace Go.Proofs.YtkokdafkjjcgoaaGreatDoor
open Go.RowKit Go.Shelf

attribute [local go_sem] Oper.semAt_some

/-- numbers in the world -/
abbrev IsInts (B : Nat) (w : World) (a : Option Addr) (L : List Int) : Prop := IsSl 1 (fun n => [Value.int .i64 n]) B w a L
/-- is a kind one of those that are counted? -/
def wanted (K : List Int) (k : Int) : Bool := decide (K = []) || K.contains k
def cntE (t : List Nd) (K : List Int) (l : List (Nat × Nat)) : Nat := (l.filter fun x => wanted K (kindAt t x.1)).length
theorem cntE_snoc (t : List Nd) (K : List Int) (l : List (Nat × Nat)) (x : Nat × Nat) : cntE t K (l ++ [x]) = cntE t K l + if wanted K (kindAt t x.1) = true then 1 else 0 := by
  unfold cntE
  rw [List.filter_append, List.length_append, List.filter_cons]
  by_cases h : wanted K (kindAt t x.1) = true
  · rw [if_pos h, if_pos h]; rfl
  · rw [if_neg h, if_neg h]; rfl
theorem cntE_le (t : List Nd) (K : List Int) (l : List (Nat × Nat)) : cntE t K l ≤ l.length := List.length_filter_le ..
theorem contains_any (ka : Option Addr) (kc : Nat) (K : List Int) (x : Int) (w : World) (hK : IsInts w.heap.size w ka K) (hl : K.length ≤ 9223372036854775807) :
    Calls Tryz.prog 45 #[.slice ka K.length kc, .int .i64 x] w fun e w' => e = .returned (.bool (K.contains x)) ∧ w' = w := by
  by_cases h : K = []
  · subst h
    exact Tryz.slices_Contains_int_empty ka kc x w
  · obtain ⟨b, off, rfl, hlt, hc⟩ := hK h
    have := Tryz.slices_Contains_int b off K.length kc K x w (Nat.le_refl _) hl (fun j hj => by
      have := hc j _ (List.getElem?_eq_getElem hj) 0 _ rfl
      rw [Nat.mul_one, Nat.add_zero] at this
      rw [this, List.getD_eq_getElem?_getD, List.getElem?_eq_getElem hj]
      rfl)
    rw [List.take_length] at this
    exact this
theorem one_blk {w : World} {b : Nat} {v : Value} {T : TypeId} (h : w.heap[b]? = some (.cells #[v] T (0, 0))) : w.cell? ⟨b, 0, none⟩ = some v ∧ w.frozen? ⟨b, 0, none⟩ = false := by
  constructor <;> simp [World.cell?, World.frozen?, h]

theorem keepBut_set (bn : Nat) (W : World) (u : Value) : KeepBut bn W ((W.setCell ⟨bn, 0, none⟩ u).drew) :=
  ⟨rfl, rfl, rfl, by simp, fun k o hk ho _ => by
    show (W.setCell ⟨bn, 0, none⟩ u).heap[k]? = some o
    rw [heap_setCell_other _ _ _ _ (fun e => hk e)]
    exact ho⟩
theorem keepBut_drew (bn : Nat) (W : World) : KeepBut bn W W.drew := ⟨rfl, rfl, rfl, Nat.le_refl _, fun _ _ _ h _ => h⟩
theorem own_set (bn : Nat) (W : World) (u : Value) : KeepsOthers W ((W.setCell ⟨bn, 0, none⟩ u).drew) := (KeepsOthers.setCell _ _ _).trans (KeepsOthers.drew _)
theorem cell_set {W : World} {bn : Nat} {v u u' : Value} (h : W.cell? ⟨bn, 0, none⟩ = some v) (hu : u = u') : ((W.setCell ⟨bn, 0, none⟩ u).drew).cell? ⟨bn, 0, none⟩ = some u' := by
  subst hu
  exact World.cell?_setCell_same' _ _ _ (by rw [h]; rfl)
theorem frozen_set {W : World} {bn : Nat} {u : Value} (h : W.frozen? ⟨bn, 0, none⟩ = false) : ((W.setCell ⟨bn, 0, none⟩ u).drew).frozen? ⟨bn, 0, none⟩ = false := by
  rw [frozen_drew_own, World.frozen?_setCell]; exact h
theorem below_set {B bn : Nat} {w W : World} (h : Below B w W) (hB : B ≤ bn) (u : Value) : Below B w ((W.setCell ⟨bn, 0, none⟩ u).drew) := (h.setCell hB _).drew
theorem num_next {c c' : Nat} (h : c' = c + 1) : Value.int .i64 ((c : Int) + 1) = .int .i64 (c' : Int) := by rw [h]; rfl

set_option maxRecDepth 100000 in
set_option maxHeartbeats 4000000 in
theorem treeCount_0 (a : Option Addr) (cap : Nat) (t : List Nd) (ka : Option Addr) (kc : Nat) (K : List Int) (w : World) (hE : TE w) (hI : IsNds w.heap.size w a t) (hOk : ∀ x ∈ t, NdOk x) (hz : t.length * 64 ≤ 140737488351232) (hnil : a = none → t = [] ∧ cap = 0)
    (hK : IsInts w.heap.size w ka K) (hl : K.length ≤ 9223372036854775807) (h : checkN9 t = 0) :
    Calls Tryz.prog 19 #[.slice a t.length cap, .slice ka K.length kc] w fun e w' => (∃ fr, beginsN t = some fr ∧ e = .returned (.tuple #[.int .i64 (cntE t K (wholeL t fr) : Int), .int .i64 0])) ∧ Below w.heap.size w w' := by
  have hdd : ∀ k : Nat, (Fence.wide.depth.isSome = true → 1 ≤ k) := fun k h => by cases h
  have HWk := Lib.hid (fun w1 (hE : TE w1) (hI : IsNds w1.heap.size w1 a t) => treeWalk_0 a cap t w1 hE hI hOk hz hnil h)
  have HCt := Lib.hid (fun (x : Int) w1 (hK : IsInts w1.heap.size w1 ka K) => contains_any ka kc K x w1 hK hl)
  have HE := Lib.hid hE
  have HI := Lib.hid hI
  have HK := Lib.hid hK
  clear hE hI hOk hnil hK h
  refine (callsIn_wide (n := 3)).1 ?_
  refine callsIn_of_wp_marks Tryz.func19 rfl trivial ?_ rfl
  simp only [Tryz.ntmps19, List.size_toArray, List.length_cons, List.length_nil, Nat.reduceAdd, Nat.reduceSub, Array.replicate_succ, Array.replicate_zero, List.push_toArray, List.append_toArray, List.nil_append, List.cons_append]
  have hx1 : ((w.alloc (.cells #[.slice a t.length cap] 23)).alloc (.cells #[.slice ka K.length kc] 27)).heap[w.heap.size]? = some (.cells #[.slice a t.length cap] 23 (0, 0)) := (Below.heap_alloc _ _ _ (by simp)).trans (heap_alloc_new _ _)
  have hx2 : ((w.alloc (.cells #[.slice a t.length cap] 23)).alloc (.cells #[.slice ka K.length kc] 27)).heap[w.heap.size + 1]? = some (.cells #[.slice ka K.length kc] 27 (0, 0)) := by
    have := heap_alloc_new (w.alloc (.cells #[.slice a t.length cap] 23)) (.cells #[.slice ka K.length kc] 27)
    rwa [World.size_alloc] at this
  have hb2 : Below w.heap.size w ((w.alloc (.cells #[.slice a t.length cap] 23)).alloc (.cells #[.slice ka K.length kc] 27)) := (ba1 _ _).alloc (ba1 _ _).size _
  have HX1 := Lib.hid hx1
  have HX2 := Lib.hid hx2
  have HB2 := Lib.hid hb2
  have HW2 := Lib.hid (HWk.out _ (HE.out.below hb2) ((HI.out.below hb2 (Nat.le_refl _)).mono hb2.size))
  have c1 := (one_blk hx1).1
  clear hx1 hx2 hb2
  gi_wp2_with ((first | refine ⟨trivial, hdd _, ?_⟩ | refine ⟨trivial, ?_⟩); gi_at_call 21; refine (callsIn_wide.2 HW2.out).mono ?_; rintro e W3 ⟨⟨bw, fr, rfl, hbe, hG, hS⟩, hb3⟩; have HBe := Lib.hid hbe; have HG := Lib.hid hG; have HS := Lib.hid hS; have HB3 := Lib.hid hb3; clear hbe hG hS hb3)
  have hb4 := ba1 W3 (.cells #[.int .i64 0] 3)
  have hx4 := heap_alloc_new W3 (.cells #[.int .i64 0] 3)
  have hz4 : (W3.alloc (.cells #[.int .i64 0] 3)).heap.size = W3.heap.size + 1 := by simp
  generalize W3.alloc (.cells #[.int .i64 0] 3) = W4 at *
  obtain ⟨a2, c2, b2, cb2, hbw, hbx, hI2, hF2, _, _⟩ := HS.out
  have hbx4 := (hb4.block _ (lt_of_heap hbx)).trans hbx
  obtain ⟨⟨z0, z1⟩, _⟩ := two_block hbx4
  have hst := walk1_stops a2 c2 t b2 cb2 fr HG.out W3.heap.size bw (3 - 1) W4 (lt_of_heap hbx4) (by omega) z0 z1 (hI2.below hb4 (Nat.le_refl _)) (hF2.below hb4 (Nat.le_refl _))
  obtain ⟨n0, nf⟩ := one_blk hx4
  have HX14 := Lib.hid (((HB3.out.mono (show w.heap.size + 2 ≤ _ by simp)).block _ (by omega)).trans HX1.out)
  have HX24 := Lib.hid (((HB3.out.mono (show w.heap.size + 2 ≤ _ by simp)).block _ (by omega)).trans HX2.out)
  have hsz3 : w.heap.size + 2 ≤ W3.heap.size := by have := HB3.out.size; simp at this; omega
  have HB03 := Lib.hid (HB2.out.trans (HB3.out.mono HB2.out.size))
  have HN := Lib.hid (show (wholeL t fr).length ≤ 4096 by
    have h1 := walkN_len HBe.out (t.length) (t.length - 1) 1 (by have := HG.out.formed.pos; omega) (by have := HG.out.formed.pos; omega)
    unfold wholeL
    have := HG.out.le
    omega)
  clear hbx hbx4 hI2 hF2 z0 z1 c1
  refine wpIn_rangeFunc_ownF (n := 3) rfl (by decide) (gf := 46) (lb := #[.pointer (some ⟨bw, 0, none⟩)]) rfl trivial (enters_of Tryz.func46 (by kernel_rfl) rfl) hst keepBut_t keepBut_b (Below.refl _ _) (fun _ => rfl)
    (fun pre W => (W.cell? ⟨W3.heap.size, 0, none⟩ = some (.int .i64 (cntE t K (elts pre) : Int)) ∧ W.frozen? ⟨W3.heap.size, 0, none⟩ = false) ∧ Below W3.heap.size W4 W)
    (fun _ _ _ => False)
    (OwnFrom.and (Own.from (fun s A B row hs hg hr => ⟨cell_kept hs.1 hg hr, (frozen_kept hs.1 hg hr).trans hs.2⟩) _) (ownFrom_below (by omega) (by omega)))
    (fun _ _ _ _ _ hs _ _ => hs)
    ⟨⟨n0, nf⟩, Below.refl _ _⟩
    (fun x => { tmps := #[.slice a t.length cap, .slice ka K.length kc, .pointer (some ⟨w.heap.size, 0, none⟩), .pointer (some ⟨w.heap.size + 1, 0, none⟩), .int .i64 0, .int .i64 0, .func (.func 46) #[] #[.pointer (some ⟨bw, 0, none⟩)], .int .i64 0, .pointer (some ⟨W3.heap.size, 0, none⟩), .int .i64 (x.1.1 : Int), .tuple #[.func (.func 46) #[] #[.pointer (some ⟨bw, 0, none⟩)], .int .i64 0], .slice a t.length cap, .tuple #[.func (.func 46) #[] #[.pointer (some ⟨bw, 0, none⟩)], .int .i64 0], .func (.func 46) #[] #[.pointer (some ⟨bw, 0, none⟩)], .int .i64 0, .int .i64 0, .bool false, undef, .func (.func 46) #[] #[.pointer (some ⟨bw, 0, none⟩)], .int .i64 (x.1.1 : Int), .int .i64 (x.1.2 : Int), undef, undef, undef, undef, undef, undef, undef, undef, undef, undef, undef, undef, undef, undef, undef], defers := [] }) ?assign ?body ?done ?stop
  case assign =>
    intro l x W K hK
    dsimp only [eltV]
    gi_wp2
    exact hK
  case body =>
    rintro l pre x W ⟨⟨hc, hf⟩, hb⟩ hlen
    obtain ⟨⟨p, dp⟩, hat⟩ := x
    have hmx : Tryz.prog.follows .mixedOrders = true := by kernel_rfl
    have hb34 := hb4.trans hb
    have c1 := (one_blk ((hb34.block _ (by omega)).trans HX14.out)).1
    have c2 := (one_blk ((hb34.block _ (by omega)).trans HX24.out)).1
    have hb0 := HB03.out.trans (hb34.mono (show w.heap.size ≤ W3.heap.size by omega))
    obtain ⟨ba, off, ha, hbl, x0, _⟩ := nds_at (HI.out.below hb0 (Nat.le_refl _)) hat
    subst ha
    have hkd := Lib.hid (kindAt_is (List.getElem?_eq_getElem hat))
    have HKW := Lib.hid ((HK.out.below hb0 (Nat.le_refl _)).mono hb0.size)
    have hcl := cntE_le t K (elts pre)
    rw [elts_len] at hcl
    have HNo := HN.out
    have HCn := Lib.hid (show cntE t K (elts (pre ++ [(⟨(p, dp), hat⟩ : Elt t)])) = cntE t K (elts pre) + if wanted K t[p].kind = true then 1 else 0 by
      rw [elts_app, show elts [(⟨(p, dp), hat⟩ : Elt t)] = [(p, dp)] from rfl, cntE_snoc]
      simp only [hkd.out])
    have hp1 : (p : Int) < (t.length : Int) := by simp only at hat; omega
    have hp0 : (0 : Int) ≤ (p : Int) := by omega
    obtain ⟨c', hc'⟩ : ∃ c', c' = cntE t K (elts (pre ++ [(⟨(p, dp), hat⟩ : Elt t)])) := ⟨_, rfl⟩
    rw [← hc'] at HCn
    have HC' := Lib.hid hc'
    clear hc'
    generalize t[p].kind = kd at *
    generalize cntE t K (elts pre) = c at *
    have hc4 : (c : Int) ≤ 4096 := by omega
    have Hb := Lib.hid hb
    have Hb34 := Lib.hid hb34
    clear hb hb34 hb0 hkd HBe
    dsimp only
    by_cases hK0 : K = []
    · have t2 : ((K.length : Int) == 0) = true := by rw [hK0]; rfl
      have hv : wanted K kd = true := by unfold wanted; rw [hK0]; rfl
      rw [hv, if_pos rfl] at HCn
      clear hK0 hv
      gi_wp2
      gi_region_with_o (refine ⟨trivial, ?_⟩)
      all_goals gi_wp2
      all_goals exact ⟨own_set _ _ _, keepBut_set _ _ _, ⟨cell_set hc (num_next (by rw [← HC'.out]; exact HCn.out)), frozen_set hf⟩, below_set Hb.out (Nat.le_refl _) _⟩
    · have t2 : ((K.length : Int) == 0) = false := by
        have := List.length_pos_iff.2 hK0
        simp; omega
      have hv : wanted K kd = K.contains kd := by unfold wanted; rw [decide_eq_false hK0]; rfl
      rw [hv] at HCn
      have HC1 := Lib.hid (fun wx hKx => HCt.out kd wx hKx)
      generalize K.contains kd = r at *
      clear hK0 hv
      cases r
      · rw [if_neg (by decide)] at HCn
        gi_wp2
        gi_region_with_o (refine ⟨trivial, ?_⟩; gi_at_call 45; refine (CallsIn.inRound l (callsIn_wide.2 (HC1.out W.drew HKW.out))).mono ?_; rintro e w' ⟨rfl, rfl⟩)
        all_goals gi_wp2
        all_goals exact ⟨KeepsOthers.drew _, keepBut_drew _ _, ⟨by rw [← HC'.out, HCn.out]; exact hc, hf⟩, Hb.out.drew⟩
      · rw [if_pos rfl] at HCn
        gi_wp2
        gi_region_with_o (refine ⟨trivial, ?_⟩; gi_at_call 45; refine (CallsIn.inRound l (callsIn_wide.2 (HC1.out W.drew HKW.out))).mono ?_; rintro e w' ⟨rfl, rfl⟩)
        all_goals gi_wp2
        all_goals exact ⟨own_set _ _ _, keepBut_set _ _ _, ⟨cell_set hc (num_next (by rw [← HC'.out]; exact HCn.out)), frozen_set hf⟩, below_set Hb.out (Nat.le_refl _) _⟩
  case done =>
    rintro D ys W hD hys ⟨⟨hc, hf⟩, hb⟩ hK
    rw [hys] at hc
    gi_wp2
    refine ⟨by simp, .inl ⟨_, _, rfl, run_takeDeferred hK, ?_⟩⟩
    exact ⟨_, results_tmp2 rfl _ _ _, ⟨fr, HBe.out, rfl⟩, (HB03.out.trans ((hb4.trans hb).mono (by omega))).trans (belowK_b (w := w) (Nat.le_refl _) W D _ _ (by omega) hK rfl rfl)⟩
  case stop =>
    rintro D c pre W _ _ h _
    exact h.elim
set_option maxHeartbeats 4000000 in
theorem treeCount_n (a : Option Addr) (cap : Nat) (t : List Nd) (ka : Option Addr) (kc : Nat) (K : List Int) (w : World) (hE : TE w) (hI : IsNds w.heap.size w a t) (hOk : ∀ x ∈ t, NdOk x) (hz : t.length * 64 ≤ 140737488351232) (hnil : a = none → t = [] ∧ cap = 0)
    (h : checkN9 t ≠ 0) :
    Calls Tryz.prog 19 #[.slice a t.length cap, .slice ka K.length kc] w fun e w' => e = .returned (.tuple #[.int .i64 0, .int .i64 (checkN9 t)]) ∧ Below w.heap.size w w' := by
  have HWk := Lib.hid (fun w1 (hE : TE w1) (hI : IsNds w1.heap.size w1 a t) => treeWalk_n a cap t w1 hE hI hOk hz hnil h)
  have t3 : (checkN9 t != 0) = true := by simpa using h
  generalize checkN9 t = c at *
  have HE := Lib.hid hE
  have HI := Lib.hid hI
  have hb2 : Below w.heap.size w ((w.alloc (.cells #[.slice a t.length cap] 23)).alloc (.cells #[.slice ka K.length kc] 27)) := (ba1 _ _).alloc (ba1 _ _).size _
  have HB2 := Lib.hid hb2
  have HW2 := Lib.hid (HWk.out _ (HE.out.below hb2) ((HI.out.below hb2 (Nat.le_refl _)).mono hb2.size))
  clear hE hI hOk hnil h hb2
  refine (callsIn_wide (n := 3)).1 ?_
  refine callsIn_of_wp_marks Tryz.func19 rfl trivial ?_ rfl
  simp only [Tryz.ntmps19, List.size_toArray, List.length_cons, List.length_nil, Nat.reduceAdd, Nat.reduceSub, Array.replicate_succ, Array.replicate_zero, List.push_toArray, List.append_toArray, List.nil_append, List.cons_append]
  gi_wp2_with (refine ⟨trivial, ?_⟩; gi_at_call 21; refine (callsIn_wide.2 HW2.out).mono ?_; rintro e W3 ⟨rfl, hb3⟩; have HB3 := Lib.hid hb3; clear hb3)
  exact ⟨_, results_tmp2 rfl _ _ _, rfl, HB2.out.trans (HB3.out.mono HB2.out.size)⟩
end Go.Proofs.YtkokdafkjjcgoaaGreatDoor
namespace Go.Proofs.YtkokdafkjjcgoaaGreatDoor
open Go.RowKit

def i64Cells (n : Int) : List Value := [Value.int .i64 n]
theorem int_len (n : Int) : (i64Cells n).length = 1 := rfl
theorem int_one (t : List Int) : ∀ u ∈ t.flatMap i64Cells, u.oneCell' = true := fun u hu => by
  obtain ⟨x, _, hx⟩ := List.mem_flatMap.1 hu
  simp only [i64Cells, List.mem_cons, List.not_mem_nil, or_false] at hx
  rw [hx]; rfl
theorem ints_at {B : Nat} {w : World} {a : Option Addr} {L : List Int} (h : IsInts B w a L) {i : Nat} (hi : i < L.length) : ∃ b off, a = some ⟨b, off, none⟩ ∧ b < B ∧ w.cell? ⟨b, off + i, none⟩ = some (.int .i64 L[i]) := by
  obtain ⟨b, off, e, hlt, hc⟩ := h (fun e => by rw [e] at hi; simp at hi)
  have := hc i _ (List.getElem?_eq_getElem hi) 0 _ rfl
  rw [Nat.mul_one, Nat.add_zero] at this
  exact ⟨b, off, e, hlt, this⟩
/-- numbers, in a row of one's own -/
def IntRow (w : World) (base : Nat) (v : Value) (L : List Int) : Prop := w.ownsRow base 3 1 v L.length (L.flatMap i64Cells)

set_option maxHeartbeats 4000000 in
theorem sameZ_ok (a b : Option Addr) (ca cb : Nat) (L : List Int) (w : World) (hA : IsInts w.heap.size w a L) (hB : IsInts w.heap.size w b L) (hl : (L.length : Int) ≤ 140737488355328) :
    Calls Tryz.prog 14 #[.slice a L.length ca, .slice b L.length cb] w fun e w' => e = .returned (.bool true) ∧ Below w.heap.size w w' := by
  have HA := Lib.hid hA
  have HB := Lib.hid hB
  have hne : ((L.length : Int) != (L.length : Int)) = false := by simp
  clear hA hB
  go_enter Tryz.func14, Tryz.ntmps14
  go_wp2_with fail
  go_loopg [5] L.length (fun m v5 wy => ∃ (i : Nat), i ≤ L.length ∧ i + m = L.length ∧ v5 = .int .i64 (i : Int) ∧ Hid (Below w.heap.size w wy))
  case atStart => exact ⟨0, by omega, by omega, rfl, Lib.hid (Below.refl _ _)⟩
  case round =>
    obtain ⟨i, hi, him, rfl, HW⟩ := hrel
    by_cases hlt : i < L.length
    · obtain ⟨b1, o1, ha, hb1, c1⟩ := ints_at HA.out hlt
      obtain ⟨b2, o2, hb, hb2, c2⟩ := ints_at HB.out hlt
      subst ha hb
      rw [← HW.out.cell hb1] at c1
      rw [← HW.out.cell hb2] at c2
      generalize L[i] = q at *
      have t1 : (q != q) = false := by simp
      have hi0 : (0 : Int) ≤ (i : Int) := by omega
      have hi1 : (i : Int) < (L.length : Int) := by omega
      go_wp2_with fail
      go_quiet (fail)
      go_wp2_with fail
      go_roundg (L.length - (i + 1))
      case measure => omega
      case rel => exact ⟨i + 1, by omega, by omega, by rw [Int.natCast_add]; rfl, Lib.hid (blw_drewN HW.out _)⟩
    · obtain rfl : i = L.length := by omega
      go_wp2_with fail
      go_ret
      exact ⟨rfl, HW.out⟩
set_option maxHeartbeats 4000000 in
theorem has_ok (a : Option Addr) (ca : Nat) (L : List Int) (x : Int) (w : World) (hA : IsInts w.heap.size w a L) (hl : (L.length : Int) ≤ 140737488355328) :
    Calls Tryz.prog 30 #[.slice a L.length ca, .int .i64 x] w fun e w' => e = .returned (.bool (L.contains x)) ∧ w = w' := by
  have HA := Lib.hid hA
  obtain ⟨r, hr⟩ : ∃ r, r = L.contains x := ⟨_, rfl⟩
  rw [← hr]
  have HR := Lib.hid hr
  clear hA hr
  go_enter Tryz.func30, Tryz.ntmps30
  go_wp2_with fail
  go_loop [5] (fun v5 => ∃ i : Nat, i ≤ L.length ∧ v5 = .int .i64 (i : Int) ∧ Hid (∀ j (hj : j < L.length), j < i → L[j] ≠ x)) (fun v5 => L.length - (intOf v5).toNat)
  case atStart => exact ⟨0, by omega, rfl, Lib.hid (fun j _ h => by omega)⟩
  case round =>
    obtain ⟨i, hi, rfl, HY⟩ := hrel
    by_cases hlt : i < L.length
    · obtain ⟨b1, o1, ha, hb1, c1⟩ := ints_at HA.out hlt
      subst ha
      rcases hx : (L[i] == x) with _ | _
      · have HY2 := Lib.hid (show ∀ j (hj : j < L.length), j < i + 1 → L[j] ≠ x from fun j hj hji => by
          rcases Nat.lt_or_ge j i with h' | h'
          · exact HY.out j hj h'
          · obtain rfl : j = i := by omega
            exact beq_eq_false_iff_ne.1 hx)
        clear HY
        generalize L[i] = q at *
        go_wp2_with fail
        go_round
        case rel => exact ⟨i + 1, by omega, by go_num, HY2⟩
        case measure => simp [intOf]; omega
      · have hv := Lib.hid (show r = true by rw [HR.out, List.contains_iff_mem]; rw [← beq_iff_eq.1 hx]; exact List.getElem_mem hlt)
        clear HY
        generalize L[i] = q at *
        go_wp2_with fail
        go_ret
        exact ⟨by rw [hv.out]; rfl, rfl⟩
    · obtain rfl : i = L.length := by omega
      have hv := Lib.hid (show r = false by
        rw [HR.out, ← Bool.not_eq_true, List.contains_iff_mem]
        intro hm
        obtain ⟨j, hj, e⟩ := List.getElem_of_mem hm
        exact HY.out j hj hj e)
      clear HY
      go_wp2_with fail
      go_ret
      exact ⟨by rw [hv.out]; rfl, rfl⟩
theorem nil_int (w : World) {base : Nat} (hb : base ≤ w.heap.size) : (w.alloc (.cells #[] 3)).ownsRow base 3 1 (.slice (some ⟨w.heap.size, 0, none⟩) 0 0) 0 [] := World.ownsRow_lit w #[] 0 hb (by decide) rfl
set_option maxHeartbeats 4000000 in
theorem copyInts_ok (a : Option Addr) (cap : Nat) (t : List Int) (w : World) (hI : IsInts w.heap.size w a t) (hz : t.length * 8 ≤ 140737488351232) (hnil : a = none → t = [] ∧ cap = 0) :
    Calls Tryz.prog 18 #[.slice a t.length cap] w fun e w' => (∃ v, e = .returned v ∧ IntRow w' w.heap.size v t) ∧ Below w.heap.size w w' := by
  obtain ⟨i0, hi, hz0, hz1, hz2⟩ := info_parts infoInt
  have HI0 := Lib.hid (And.intro hi (And.intro hz0 (And.intro hz1 hz2)))
  clear hi hz0 hz1 hz2
  cases a with
  | none =>
    obtain ⟨rfl, rfl⟩ := hnil rfl
    clear hI hnil
    go_enter Tryz.func18, Tryz.ntmps18
    go_wp2_with (at_builtin; go_loud (refine wpList_append_own_none rfl _ _ _ rfl w.heap.size 3 i0 1 Tryz.underlying27 HI0.out.1 _ 0 [] rfl (nil_int _ (Nat.le_refl _)) rfl ?_))
    go_ret
    exact ⟨⟨_, rfl, nil_int _ (Nat.le_refl _)⟩, ba1 _ _⟩
  | some ad =>
    have HI := Lib.hid (show IsSl 1 i64Cells w.heap.size w (some ad) t from hI)
    have HL := Lib.hid (flat_len int_len t)
    clear hI hnil
    go_enter Tryz.func18, Tryz.ntmps18
    go_wp2_with (at_builtin; go_loud (refine wpList_append_own _ rfl _ _ _ rfl w.heap.size 3 i0 _ 1 8 Tryz.underlying27 HI0.out.1 HI0.out.2.1 HI0.out.2.2.1 HI0.out.2.2.2 rfl (by decide) _ 0 [] rfl (nil_int _ (Nat.le_refl _)) ad t.length cap (t.flatMap i64Cells) rfl HL.out (sl_news int_len (HI.out.below (ba1 _ _) (Nat.le_refl _))) (int_one t) (by unfold maxLen; omega) (by omega) (ba1 _ _).size ?_))
    intro v' w' hown hgrow _
    go_wp2_with fail
    go_ret
    refine ⟨⟨v', rfl, by unfold IntRow; simpa using hown⟩, (ba1 _ _).grown hgrow (ba1 _ _).size (fun k hk => by simp [Value.ownBlock] at hk; omega)⟩

theorem whole_eq {t : List Nd} {fr : List Nat} {k : Nat} (h : t.length = k + 1) : wholeL t fr = walkN t fr k 1 := by unfold wholeL; rw [h, Nat.add_sub_cancel]
set_option maxHeartbeats 4000000 in
theorem refWalk_0 (a : Option Addr) (cap : Nat) (t : List Nd) (w : World) (hI : IsNds w.heap.size w a t) (hOk : ∀ x ∈ t, NdOk x) (hz : t.length * 64 ≤ 140737488351232) (h : checkN9 t = 0) :
    Calls Tryz.prog 22 #[.slice a t.length cap] w fun e w' => (∃ v fr, e = .returned (.tuple #[v, .int .i64 0]) ∧ beginsN t = some fr ∧ StRow w' w.heap.size v (wholeL t fr)) ∧ Below w.heap.size w w' := by
  have HL := Lib.hid (refCheck9_ok a cap t w hI hOk hz)
  rw [h] at HL
  obtain ⟨fr, hbe, hG⟩ := check_formed h
  obtain ⟨k, hk⟩ : ∃ k, t.length = k + 1 := ⟨t.length - 1, by have := hG.formed.pos; omega⟩
  have hle := hG.le
  have HBe := Lib.hid hbe
  have HI := Lib.hid hI
  have HBg := Lib.hid (fun w (hI : IsNds w.heap.size w a t) => refBegins_ok a cap t w hI hG.le hOk)
  have HWd := Lib.hid (fun b capb w hW => walked_ok a cap t b capb fr hG hbe (k + 1) k 1 (by omega) (by omega) (by omega) w hW)
  have HEq := Lib.hid (whole_eq (fr := fr) hk)
  have hk1 : (t.length : Int) - 1 = (k : Int) := by omega
  clear hI hOk h hbe hG hk
  go_enter Tryz.func22, Tryz.ntmps22
  go_upto_region 4 with (go_at_call 11; (with_reducible refine HL.out.mono ?_); rintro e w1 ⟨rfl, hb1⟩; have HB := Lib.hid hb1; clear hb1)
  have hI1 := Lib.hid ((HI.out.below HB.out (Nat.le_refl _)).mono HB.out.size)
  have HB1 := Lib.hid (HBg.out w1 hI1.out)
  go_upto_region 5 with (go_at_call 39; (with_reducible refine HB1.out.mono ?_); rintro e w2 ⟨⟨v, ok, rfl, hok, hrow⟩, hb2⟩; have hok2 : ok = true := (by rw [hok, HBe.out]; rfl); clear hok; subst hok2; obtain ⟨fr2, hfr, hrow⟩ := hrow rfl; obtain rfl := Option.some.inj (HBe.out.symm.trans hfr); obtain ⟨b, capb, rfl, hN, _⟩ := hrow.is; have HB2 := Lib.hid (HB.out.trans (hb2.mono HB.out.size)); have HW2 := Lib.hid (show WholeAt w2 a b t fr from ⟨(hI1.out.below hb2 (Nat.le_refl _)).mono hb2.size, hN⟩); clear hb2 hrow hN hfr)
  have HP1 := Lib.hid (HWd.out b capb w2 HW2.out)
  go_wp2_with (go_at_call 48; refine HP1.out.mono ?_; rintro e w3 ⟨⟨v, rfl, hr⟩, hb3⟩; have HR := Lib.hid hr; have HB3 := Lib.hid hb3; clear hr hb3)
  go_ret2
  refine ⟨⟨v, fr, rfl, HBe.out, ?_⟩, HB2.out.trans (HB3.out.mono HB2.out.size)⟩
  rw [HEq.out]
  exact own_le9 HR.out HB2.out.size
set_option maxHeartbeats 4000000 in
theorem refWalk_n (a : Option Addr) (cap : Nat) (t : List Nd) (w : World) (hI : IsNds w.heap.size w a t) (hOk : ∀ x ∈ t, NdOk x) (hz : t.length * 64 ≤ 140737488351232) (h : checkN9 t ≠ 0) :
    Calls Tryz.prog 22 #[.slice a t.length cap] w fun e w' => e = .returned (.tuple #[.slice none 0 0, .int .i64 (checkN9 t)]) ∧ Below w.heap.size w w' := by
  have HL := Lib.hid (refCheck9_ok a cap t w hI hOk hz)
  have t3 : (checkN9 t != 0) = true := by simpa using h
  generalize checkN9 t = c at *
  clear hI hOk h
  go_enter Tryz.func22, Tryz.ntmps22
  go_wp2_with (go_at_call 11; (with_reducible refine HL.out.mono ?_); rintro e w1 ⟨rfl, hb1⟩; have HB := Lib.hid hb1; clear hb1)
  go_ret2
  exact ⟨rfl, HB.out⟩
set_option maxHeartbeats 4000000 in
theorem refCount_n (a : Option Addr) (cap : Nat) (t : List Nd) (ka : Option Addr) (kc : Nat) (K : List Int) (w : World) (hI : IsNds w.heap.size w a t) (hOk : ∀ x ∈ t, NdOk x) (hz : t.length * 64 ≤ 140737488351232) (h : checkN9 t ≠ 0) :
    Calls Tryz.prog 20 #[.slice a t.length cap, .slice ka K.length kc] w fun e w' => e = .returned (.tuple #[.int .i64 0, .int .i64 (checkN9 t)]) ∧ Below w.heap.size w w' := by
  have HL := Lib.hid (refCheck9_ok a cap t w hI hOk hz)
  have t3 : (checkN9 t != 0) = true := by simpa using h
  generalize checkN9 t = c at *
  clear hI hOk h
  go_enter Tryz.func20, Tryz.ntmps20
  go_wp2_with (go_at_call 11; (with_reducible refine HL.out.mono ?_); rintro e w1 ⟨rfl, hb1⟩; have HB := Lib.hid hb1; clear hb1)
  go_ret2
  exact ⟨rfl, HB.out⟩
/-- how many nodes are of those kinds, ahead of a place -/
def cntT (t : List Nd) (K : List Int) (i : Nat) : Nat := (t.take i).countP fun x => wanted K x.kind
theorem cntT_next (t : List Nd) (K : List Int) {i : Nat} (h : i < t.length) : cntT t K (i + 1) = cntT t K i + if wanted K t[i].kind = true then 1 else 0 := by
  unfold cntT
  rw [List.take_succ_eq_append_getElem h, List.countP_append]
  simp [List.countP_cons]
theorem cntT_le (t : List Nd) (K : List Int) (i : Nat) : cntT t K i ≤ i := Nat.le_trans List.countP_le_length (by simp; omega)
theorem cnt_both {t : List Nd} {fr : List Nat} (h : beginsN t = some fr) (K : List Int) : cntE t K (wholeL t fr) = cntT t K t.length := by
  have hF := formed_of h
  have hp := hF.pos
  unfold cntE cntT wholeL
  rw [List.take_length, ← List.countP_eq_length_filter, walk_cnt h (fun i => wanted K (kindAt t i)) t.length (t.length - 1) 1 (by omega) (by omega), begins_ends h, show t.length - 1 + 1 = t.length by omega]
  exact cnt_nodes (wanted K)
set_option maxHeartbeats 4000000 in
theorem refCount_0 (a : Option Addr) (cap : Nat) (t : List Nd) (ka : Option Addr) (kc : Nat) (K : List Int) (w : World) (hI : IsNds w.heap.size w a t) (hOk : ∀ x ∈ t, NdOk x) (hz : t.length * 64 ≤ 140737488351232)
    (hK : IsInts w.heap.size w ka K) (hl : (K.length : Int) ≤ 140737488355328) (h : checkN9 t = 0) :
    Calls Tryz.prog 20 #[.slice a t.length cap, .slice ka K.length kc] w fun e w' => e = .returned (.tuple #[.int .i64 (cntT t K t.length : Int), .int .i64 0]) ∧ Below w.heap.size w w' := by
  have HL := Lib.hid (refCheck9_ok a cap t w hI hOk hz)
  rw [h] at HL
  obtain ⟨fr, hbe, hG⟩ := check_formed h
  have hle := hG.le
  have hli : (t.length : Int) ≤ 4096 := by omega
  have HI := Lib.hid hI
  have HK := Lib.hid hK
  have HHs := Lib.hid (fun x w1 (hA : IsInts w1.heap.size w1 ka K) => has_ok ka kc K x w1 hA hl)
  clear hI hOk h hbe hG hK
  go_enter Tryz.func20, Tryz.ntmps20
  go_upto_region 4 with (go_at_call 11; (with_reducible refine HL.out.mono ?_); rintro e w1 ⟨rfl, hb1⟩; have HB := Lib.hid hb1; clear hb1)
  have HI1 := Lib.hid ((HI.out.below HB.out (Nat.le_refl _)).mono HB.out.size)
  have HK1 := Lib.hid ((HK.out.below HB.out (Nat.le_refl _)).mono HB.out.size)
  go_wp2_with fail
  go_loop [7, 8] (fun v7 v8 => ∃ i : Nat, i ≤ t.length ∧ v8 = .int .i64 (i : Int) ∧ v7 = .int .i64 (cntT t K i : Int)) (fun _ v8 => t.length - (intOf v8).toNat)
  case atStart => exact ⟨0, by omega, rfl, rfl⟩
  case round =>
    obtain ⟨i, hi, rfl, rfl⟩ := hrel
    by_cases hlt : i < t.length
    · obtain ⟨ba, off, ha, hbl, x0, _⟩ := nds_at HI1.out hlt
      subst ha
      have HC := Lib.hid (HHs.out t[i].kind w1 HK1.out)
      have hcn := cntT_next t K hlt
      have hcl := cntT_le t K i
      obtain ⟨c', hc'⟩ : ∃ c', c' = cntT t K (i + 1) := ⟨_, rfl⟩
      rw [← hc'] at hcn
      have HC' := Lib.hid hc'
      clear hc'
      generalize t[i].kind = kd at *
      generalize cntT t K i = c at *
      by_cases hK0 : K = []
      · have t2 : ((K.length : Int) == 0) = true := by rw [hK0]; rfl
        have hv : wanted K kd = true := by unfold wanted; rw [hK0]; rfl
        rw [hv, if_pos rfl] at hcn
        have HN := Lib.hid hcn
        clear hK0 hv hcn
        go_wp2_with fail
        go_round
        case rel => exact ⟨i + 1, by omega, by go_num, by rw [← HC'.out, HN.out]; go_num⟩
        case measure => simp [intOf]; omega
      · have t2 : ((K.length : Int) == 0) = false := by
          have := List.length_pos_iff.2 hK0
          simp; omega
        have hv : wanted K kd = K.contains kd := by unfold wanted; rw [decide_eq_false hK0]; rfl
        rw [hv] at hcn
        clear hK0 hv
        generalize K.contains kd = r at *
        cases r
        · rw [if_neg (by decide)] at hcn
          have HN := Lib.hid hcn
          clear hcn
          go_wp2_with (go_at_call 30; (with_reducible refine HC.out.mono ?_); rintro e w2 ⟨rfl, rfl⟩)
          go_round
          case rel => exact ⟨i + 1, by omega, by go_num, by rw [← HC'.out, HN.out]; rfl⟩
          case measure => simp [intOf]; omega
        · rw [if_pos rfl] at hcn
          have HN := Lib.hid hcn
          clear hcn
          go_wp2_with (go_at_call 30; (with_reducible refine HC.out.mono ?_); rintro e w2 ⟨rfl, rfl⟩)
          go_round
          case rel => exact ⟨i + 1, by omega, by go_num, by rw [← HC'.out, HN.out]; go_num⟩
          case measure => simp [intOf]; omega
    · obtain rfl : i = t.length := by omega
      go_wp2_with fail
      go_ret2
      exact ⟨rfl, HB.out⟩
end Go.Proofs.YtkokdafkjjcgoaaGreatDoor
