/- What stands in quotes: the program's reader. -/
import Derived.Test.YtncojfcdkigmiaaDoorPiece3
import Derived.Laws.AppendOwn
namespace Go.Proofs.YtncojfcdkigmiaaDoor
open Go.RowKit

theorem TextAt.grown {w w' b cs T s k} {row : Option Nat} (h : TextAt w b cs T s k) (hg : w.grownBy w' row) (hr : row ≠ some b) : TextAt w' b cs T s k :=
  ⟨by rw [hg.block b (lt_of_heap h.blk) (fun e => hr e.symm)]; exact h.blk, h.text, h.two⟩
theorem TextAt.lt {w b cs T s k} (h : TextAt w b cs T s k) : b < w.heap.size := lt_of_heap h.blk
theorem grown_own {w w' w'' : World} {b : Nat} {row : Option Nat} (h : w.grownBy w' (some b)) (h' : w'.grownBy w'' row) (hr : ∀ q, row = some q → w.heap.size ≤ q) : w.grownBy w'' (some b) :=
  ⟨h'.os.trans h.os, h'.tape.trans h.tape, h'.output.trans h.output, Nat.le_trans h.size h'.size, fun k hk hne => (h'.block k (Nat.lt_of_lt_of_le hk h.size) (fun e => by have := hr k e.symm; omega)).trans (h.block k hk hne)⟩
theorem own_apart {w w' : World} {B n b : Nat} {T : TypeId} {sz : Nat} {v : Value} {xs : List Value} (h : w.ownsRow B T sz v n xs) (hg : w.grownBy w' (some b)) (hb : b < B) : w'.ownsRow B T sz v n xs :=
  h.kept hg (.inr (by intro e; have := (h.lt b e).1; omega))

def appQ (l : List UInt8) (n : Nat) : QEnd → QEnd
  | .good l' n' => .good (l ++ l') (n + n')
  | .bad e => .bad e
theorem appQ_cons (l : List UInt8) (n : Nat) (b : UInt8) (m : Nat) (x : QEnd) : appQ l n (consQ b m x) = appQ (l ++ [b]) (n + m) x := by
  cases x with
  | good l' n' => simp [appQ, consQ, Nat.add_assoc]
  | bad e => rfl
theorem appQ_nil (x : QEnd) : appQ [] 0 x = x := by cases x <;> simp [appQ]

/-- what the program's reader tells of what stands in quotes -/
def Quoted (w : World) (b : Nat) (cs : Array Value) (T : TypeId) (s : ByteArray) (k : Nat) (r : QEnd) (e : Ending) (w' : World) : Prop :=
  (match r with
    | .good l n => ∃ v, e = .returned (.tuple #[v, .int .i64 0]) ∧ w'.ownsRow w.heap.size 5 1 v l.length (Lib.byteCells l) ∧ TextAt w' b cs T s (k + n)
    | .bad x => e = .returned (.tuple #[.slice none 0 0, .int .i64 x])) ∧ w.grownBy w' (some b)
theorem quoted_yes {w w' : World} {b k n : Nat} {cs : Array Value} {T : TypeId} {s : ByteArray} {r : QEnd} {l : List UInt8} {v : Value} (hr : r = .good l n) (ho : w'.ownsRow w.heap.size 5 1 v l.length (Lib.byteCells l)) (h : TextAt w' b cs T s (k + n)) (hg : w.grownBy w' (some b)) :
    Quoted w b cs T s k r (.returned (.tuple #[v, .int .i64 0])) w' := by subst hr; exact ⟨⟨v, rfl, ho, h⟩, hg⟩
theorem quoted_no {w w' : World} {b k : Nat} {cs : Array Value} {T : TypeId} {s : ByteArray} {r : QEnd} {x : Int} (hr : r = .bad x) (hg : w.grownBy w' (some b)) :
    Quoted w b cs T s k r (.returned (.tuple #[.slice none 0 0, .int .i64 x])) w' := by subst hr; exact ⟨rfl, hg⟩

theorem own_drewN {w : World} {B n : Nat} {T : TypeId} {sz : Nat} {v : Value} {xs : List Value} (h : w.ownsRow B T sz v n xs) (m : Nat) : (w.drewN m).ownsRow B T sz v n xs := h.kept (row := none) (grown_drewN (grown_refl w none) m) (by cases v.ownBlock <;> simp)

theorem quotedL_end {s : ByteArray} {j : Nat} (q : UInt8) (h : s.size ≤ j) : quotedL q (sfx s j) = .bad 71 := by rw [sfx_nil s j h]; rfl
theorem quotedL_close {s : ByteArray} {j : Nat} (q : UInt8) (hj : j < s.size) (h : s[j] = q) : quotedL q (sfx s j) = .good [] 1 := by rw [sfx_cons s j hj, quotedL_cons, if_pos h]
theorem quotedL_line {s : ByteArray} {j : Nat} (q : UInt8) (hj : j < s.size) (h : s[j] ≠ q) (h10 : s[j].toNat = 10) : quotedL q (sfx s j) = .bad 71 := by rw [sfx_cons s j hj, quotedL_cons, if_neg h, if_pos h10]
theorem quotedL_none {s : ByteArray} {j : Nat} (q : UInt8) (hj : j < s.size) (h : s[j] ≠ q) (h10 : s[j].toNat ≠ 10) (hp : pieceL (sfx s j) = none) : quotedL q (sfx s j) = .bad 72 := by
  rw [sfx_cons s j hj] at hp ⊢
  rw [quotedL_cons, if_neg h, if_neg h10, hp]
theorem quotedL_some {s : ByteArray} {j m : Nat} {b : UInt8} (q : UInt8) (hj : j < s.size) (h : s[j] ≠ q) (h10 : s[j].toNat ≠ 10) (hp : pieceL (sfx s j) = some (b, m)) : quotedL q (sfx s j) = consQ b m (quotedL q (sfx s (j + m))) := by
  rw [← sfx_drop]
  rw [sfx_cons s j hj] at hp ⊢
  rw [quotedL_cons, if_neg h, if_neg h10, hp]

theorem info_u8 : (Tryd.prog.info? 5).map (fun i => (i.zero, i.size, i.bytes)) = some (some (.int .u8 0), 1, 1) := by kernel_rfl

set_option maxHeartbeats 4000000 in
set_option maxRecDepth 100000 in
theorem quoted_ok (b k : Nat) (cs : Array Value) (T : TypeId) (s : ByteArray) (w : World) (h : TextAt w b cs T s k) (hk : k < s.size) (hs : s.size ≤ 1048576) :
    Calls Tryd.prog 50 #[.pointer (some ⟨b, 0, none⟩)] w (Quoted w b cs T s (k + 1) (quotedL s[k] (sfx s (k + 1)))) := by
  have c0 := h.c0
  have c1 := h.c1
  have f1 := h.f1 1
  have H := Lib.hid h
  have hbw := h.lt
  clear h
  obtain ⟨r, er⟩ : ∃ r, r = quotedL s[k] (sfx s (k + 1)) := ⟨_, rfl⟩
  rw [← er]
  have ER := Lib.hid er
  clear er
  go_enter Tryd.func50, Tryd.ntmps50
  go_wp2_with fail
  go_quiet (fail)
  go_wp2_with fail
  go_loopg [5] (s.size - (k + 1)) (fun g v wr => ∃ (j : Nat) (l : List UInt8), k + 1 ≤ j ∧ j ≤ s.size ∧ j + g = s.size ∧ l.length ≤ j ∧ TextAt wr b cs T s j ∧ wr.ownsRow w.heap.size 5 1 v l.length (Lib.byteCells l) ∧ w.grownBy wr (some b) ∧ Hid (r = appQ l (j - (k + 1)) (quotedL s[k] (sfx s j))))
  case atStart => exact ⟨k + 1, [], Nat.le_refl _, hk, by omega, by simp, H.out.drew.step, World.ownsRow_nil _ _ _ _, grown_set (grown_drewN (grown_refl _ _) _) _ rfl _, by rw [Nat.sub_self, appQ_nil]; exact ER.out⟩
  case round =>
    obtain ⟨j, l, hkj, hj, hjg, hlj, hT, hown, hgr, hr⟩ := hrel
    have HT := Lib.hid hT
    have HO := Lib.hid hown
    have HG := Lib.hid hgr
    have hszw := hgr.size
    have C0 := Lib.hid hT.c0
    have C1 := Lib.hid hT.c1
    have g1 := hT.f1 1
    clear hT hown hgr c0 c1 f1
    by_cases hlt : j < s.size
    · have hM := Lib.hid (show decide (j < s.size) = true by simpa using hlt)
      have d0 := C0.out
      have d1 := C1.out
      by_cases hq : s[j] = s[k]
      · have hfin := Lib.hid (show r = .good l (j - (k + 1) + 1) by rw [hr.out, quotedL_close _ hlt hq]; simp [appQ])
        have t1 : ((s[j].toNat : Int) == s[k].toNat) = true := by rw [hq]; simp
        clear hq
        go_wp2_with (go_at_call 25; refine (more_is true _ _ _ _ _ _ HT.out hM.out).mono ?_; rintro e w1 ⟨rfl, n, rfl⟩)
        go_quiet (fail)
        go_wp2_with fail
        go_ret2
        exact quoted_yes hfin.out (own_apart (own_drewN HO.out _) (grown_set (grown_refl _ _) _ rfl _) hbw) (by rw [show k + 1 + (j - (k + 1) + 1) = j + 1 by omega]; exact HT.out.drew.step) (grown_set (grown_drewN HG.out _) _ rfl _)
      · have t1 : ((s[j].toNat : Int) == s[k].toNat) = false := by
          rw [beq_eq_false_iff_ne]; intro e; exact hq (UInt8.toNat_inj.1 (by omega))
        by_cases h10 : s[j].toNat = 10
        · have hfin := Lib.hid (show r = .bad 71 by rw [hr.out, quotedL_line _ hlt hq h10]; rfl)
          have t2 : ((s[j].toNat : Int) == 10) = true := by simp [h10]
          clear hq h10
          go_wp2_with (go_at_call 25; refine (more_is true _ _ _ _ _ _ HT.out hM.out).mono ?_; rintro e w1 ⟨rfl, n, rfl⟩)
          go_quiet (fail)
          go_wp2_with fail
          go_ret2
          exact quoted_no hfin.out (grown_drewN HG.out _)
        · have t2 : ((s[j].toNat : Int) == 10) = false := by simp; omega
          have HP : Hid (∀ n, Calls Tryd.prog 68 #[.pointer (some ⟨b, 0, none⟩), .int .u8 (s[k].toNat : Int)] (wr.drewN n) (Pieced (wr.drewN n) b cs T s j (pieceL (sfx s j)))) := fun n => piece_ok b j cs T s s[k] _ HT.out.drew hlt hs hq
          rcases hp : pieceL (sfx s j) with _ | ⟨c, m⟩
          · have hfin := Lib.hid (show r = .bad 72 by rw [hr.out, quotedL_none _ hlt hq h10 hp]; rfl)
            rw [hp] at HP
            clear hq h10 hp
            go_wp2_with (go_at_call 25; refine (more_is true _ _ _ _ _ _ HT.out hM.out).mono ?_; rintro e w1 ⟨rfl, n, rfl⟩)
            go_quiet (fail)
            go_wp2_with (go_at_call 68; refine (HP.out _).mono ?_; rintro e w1 ⟨rfl, hg1⟩; have HG1 := Lib.hid hg1; clear hg1)
            go_ret2
            exact quoted_no hfin.out (grown_trans (grown_drewN HG.out _) HG1.out)
          · have hle := pieceL_le hp
            rw [sfx_length] at hle
            have hfin := Lib.hid (show r = appQ (l ++ [c]) (j + m - (k + 1)) (quotedL s[k] (sfx s (j + m))) by rw [hr.out, quotedL_some _ hlt hq h10 hp, appQ_cons, show j - (k + 1) + m = j + m - (k + 1) by omega])
            rw [hp] at HP
            clear hq h10 hp
            obtain ⟨i0, hi, hz0, hz1, hz2⟩ := info_parts info_u8
            have HI := Lib.hid (And.intro hi (And.intro hz0 (And.intro hz1 hz2)))
            clear hi hz0 hz1 hz2
            go_wp2_with (go_at_call 25; refine (more_is true _ _ _ _ _ _ HT.out hM.out).mono ?_; rintro e w1 ⟨rfl, n, rfl⟩)
            go_quiet (fail)
            go_wp2_with (go_at_call 68; refine (HP.out _).mono ?_)
            rintro e w1 ⟨⟨rfl, hT1⟩, hg1⟩
            have HT1 := Lib.hid hT1
            have HG1 := Lib.hid (grown_trans (grown_drewN HG.out _) hg1)
            have HO1 := Lib.hid (own_apart (own_drewN HO.out _) hg1 hbw)
            have hsz1 := HG1.out.size
            clear hT1 hg1 d0 d1 g1
            go_wp2_with (at_builtin; refine wpList_append_own _ rfl _ _ 45 rfl w.heap.size 5 i0 (.int .u8 0) 1 1 Tryd.underlying45 HI.out.1 HI.out.2.1 HI.out.2.2.1 HI.out.2.2.2 rfl (by decide) _ _ _ rfl (HO1.out.alloc _) ⟨w1.heap.size, 0, none⟩ 1 1 [.int .u8 (c.toNat : Int)] rfl rfl ?c1 ?c2 ?c3 ?c4 ?c5 ?_)
            case c1 => exact cell_one _ _ _
            case c2 => intro u hu; simp at hu; subst hu; rfl
            case c3 => unfold maxLen; omega
            case c4 => omega
            case c5 => simp; omega
            intro v' w2 hown' hgrow _
            have HO2 := Lib.hid (own_bytes (L := l ++ [c]) hown' (by simp [Lib.byteCells]))
            have HG2 := Lib.hid (grown_own (grown_below HG1.out ((Below.refl _ _).alloc (Nat.le_refl _) _)) hgrow (fun q hq => (HO1.out.lt q hq).1))
            have HT2 := Lib.hid ((HT1.out.below ((Below.refl _ _).alloc (Nat.le_refl _) _)).grown hgrow (fun e => by have := (HO1.out.lt b e).1; omega))
            clear hown' hgrow
            go_wp2
            go_roundg (s.size - (j + m))
            case measure => omega
            case rel => exact ⟨j + m, l ++ [c], by omega, by omega, by omega, by simp; omega, HT2.out, HO2.out, HG2.out, hfin.out⟩
    · have hM := Lib.hid (show decide (j < s.size) = false by simpa using hlt)
      have hfin := Lib.hid (show r = .bad 71 by rw [hr.out, quotedL_end _ (by omega)]; rfl)
      go_wp2_with (go_at_call 25; refine (more_is false _ _ _ _ _ _ HT.out hM.out).mono ?_; rintro e w1 ⟨rfl, n, rfl⟩)
      go_ret2
      exact quoted_no hfin.out (grown_drewN HG.out _)

end Go.Proofs.YtncojfcdkigmiaaDoor
