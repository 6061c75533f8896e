/- What stands in quotes: the reference. -/
import Derived.Test.YtncojfcdkigmiaaDoorRefPiece
import Derived.Test.YtncojfcdkigmiaaDoorQuoted
import Derived.Laws.AppendOwn
namespace Go.Proofs.YtncojfcdkigmiaaDoor
open Go.RowKit

/-- what the reference tells of what stands in quotes -/
def RefQuoted (k : Nat) (r : QEnd) (w : World) (e : Ending) (w' : World) : Prop :=
  (match r with
    | .good l n => ∃ v, e = .returned (.tuple #[v, .int .i64 ((k + n : Nat) : Int), .int .i64 0]) ∧ w'.ownsRow w.heap.size 5 1 v l.length (Lib.byteCells l)
    | .bad x => e = .returned (.tuple #[.slice none 0 0, .int .i64 0, .int .i64 x])) ∧ Below w.heap.size w w'
theorem refQuoted_yes {w w' : World} {k n : Nat} {r : QEnd} {l : List UInt8} {v : Value} {j : Int} (hr : r = .good l n) (hj : j = ((k + n : Nat) : Int)) (ho : w'.ownsRow w.heap.size 5 1 v l.length (Lib.byteCells l)) (hb : Below w.heap.size w w') :
    RefQuoted k r w (.returned (.tuple #[v, .int .i64 j, .int .i64 0])) w' := by subst hr hj; exact ⟨⟨v, rfl, ho⟩, hb⟩
theorem refQuoted_no {w w' : World} {k : Nat} {r : QEnd} {x : Int} (hr : r = .bad x) (hb : Below w.heap.size w w') : RefQuoted k r w (.returned (.tuple #[.slice none 0 0, .int .i64 0, .int .i64 x])) w' := by subst hr; exact ⟨rfl, hb⟩

set_option maxHeartbeats 4000000 in
set_option maxRecDepth 100000 in
theorem refQuoted_ok (k : Nat) (s : ByteArray) (w : World) (hk : k < s.size) (hs : s.size ≤ 1048576) (hkq : Hid (s[k].toNat ≠ 10)) :
    Calls Tryd.prog 55 #[.string s, .int .i64 k] w (RefQuoted (k + 1) (quotedL s[k] (sfx s (k + 1))) w) := by
  obtain ⟨r, er⟩ : ∃ r, r = quotedL s[k] (sfx s (k + 1)) := ⟨_, rfl⟩
  rw [← er]
  have ER := Lib.hid er
  clear er
  go_enter Tryd.func55, Tryd.ntmps55
  go_wp2_with fail
  go_loopg [1, 7] (s.size - (k + 1)) (fun g u v wr => ∃ (j : Nat) (l : List UInt8), k + 1 ≤ j ∧ j ≤ s.size ∧ j + g = s.size ∧ l.length ≤ j ∧ u = .int .i64 j ∧ wr.ownsRow w.heap.size 5 1 v l.length (Lib.byteCells l) ∧ Below w.heap.size w wr ∧ Hid (r = appQ l (j - (k + 1)) (quotedL s[k] (sfx s j))))
  case atStart => exact ⟨k + 1, [], Nat.le_refl _, hk, by omega, by simp, by go_num, World.ownsRow_made _ #[] 0 (Nat.le_refl _) (by decide) (by simp), (Below.refl _ _).alloc (Nat.le_refl _) _, by rw [Nat.sub_self, appQ_nil]; exact ER.out⟩
  case round =>
    obtain ⟨j, l, hkj, hj, hjg, hlj, rfl, hown, hbel, hr⟩ := hrel
    have HO := Lib.hid hown
    have HB := Lib.hid hbel
    have hszw := hbel.size
    clear hown hbel
    by_cases hlt : j < s.size
    · by_cases h10 : s[j].toNat = 10
      · by_cases hq : s[j] = s[k]
        · exact absurd (by rw [← hq]; exact h10) hkq.out
        · have hfin := Lib.hid (show r = .bad 71 by rw [hr.out, quotedL_line _ hlt hq h10]; rfl)
          have t2 : ((s[j].toNat : Int) == 10) = true := by simp [h10]
          clear hq h10
          go_wp2_with fail
          go_ret3
          exact refQuoted_no hfin.out HB.out
      · have t2 : ((s[j].toNat : Int) == 10) = false := by simp; omega
        by_cases hq : s[j] = s[k]
        · have hfin := Lib.hid (show r = .good l (j - (k + 1) + 1) by rw [hr.out, quotedL_close _ hlt hq]; simp [appQ])
          have t1 : ((s[j].toNat : Int) == s[k].toNat) = true := by rw [hq]; simp
          clear hq h10
          go_wp2_with fail
          go_ret3
          exact refQuoted_yes hfin.out (by omega) HO.out HB.out
        · have t1 : ((s[j].toNat : Int) == s[k].toNat) = false := by
            rw [beq_eq_false_iff_ne]; intro e; exact hq (UInt8.toNat_inj.1 (by omega))
          have HP := Lib.hid (refPiece_ok j s (s[k].toNat : Int) wr hlt hs)
          rcases hp : pieceL (sfx s j) with _ | ⟨c, m⟩
          · have hfin := Lib.hid (show r = .bad 72 by rw [hr.out, quotedL_none _ hlt hq h10 hp]; rfl)
            rw [hp] at HP
            clear hq h10 hp
            go_wp2_with (go_at_call 70; refine HP.out.mono ?_; rintro e w1 ⟨rfl, n1, rfl⟩)
            go_ret3
            exact refQuoted_no hfin.out (blw_drewN HB.out _)
          · have hle := pieceL_le hp
            rw [sfx_length] at hle
            have hfin := Lib.hid (show r = appQ (l ++ [c]) (j + m - (k + 1)) (quotedL s[k] (sfx s (j + m))) by rw [hr.out, quotedL_some _ hlt hq h10 hp, appQ_cons, show j - (k + 1) + m = j + m - (k + 1) by omega])
            rw [hp] at HP
            clear hq h10 hp
            obtain ⟨i0, hi, hz0, hz1, hz2⟩ := info_parts info_u8
            have HI := Lib.hid (And.intro hi (And.intro hz0 (And.intro hz1 hz2)))
            clear hi hz0 hz1 hz2
            go_wp2_with (go_at_call 70; refine HP.out.mono ?_)
            rintro e w1 ⟨rfl, n1, rfl⟩
            have HO1 := Lib.hid (own_drewN HO.out n1)
            go_wp2_with (at_builtin; refine wpList_append_own _ rfl _ _ 45 rfl w.heap.size 5 i0 (.int .u8 0) 1 1 Tryd.underlying45 HI.out.1 HI.out.2.1 HI.out.2.2.1 HI.out.2.2.2 rfl (by decide) _ _ _ rfl (HO1.out.alloc _) ⟨wr.heap.size, 0, none⟩ 1 1 [.int .u8 (c.toNat : Int)] rfl rfl ?c1 ?c2 ?c3 ?c4 ?c5 ?_)
            case c1 => exact cell_one _ _ _
            case c2 => intro u hu; simp at hu; subst hu; rfl
            case c3 => unfold maxLen; omega
            case c4 => omega
            case c5 => simp; omega
            intro v' w2 hown' hgrow _
            have HO2 := Lib.hid (own_bytes (L := l ++ [c]) hown' (by simp [Lib.byteCells]))
            have HB2 := Lib.hid (((blw_drewN HB.out n1).alloc (by simpa using hszw) (.cells #[.int .u8 (c.toNat : Int)] 5)).grown hgrow (by simp; omega) (fun q hq => (HO1.out.lt q hq).1))
            clear hown' hgrow
            go_wp2
            go_roundg (s.size - (j + m))
            case measure => omega
            case rel => exact ⟨j + m, l ++ [c], by omega, by omega, by omega, by simp; omega, rfl, HO2.out, HB2.out, hfin.out⟩
    · have hfin := Lib.hid (show r = .bad 71 by rw [hr.out, quotedL_end _ (by omega)]; rfl)
      have t0 : (s.size : Int) ≤ j := by omega
      go_wp2_with fail
      go_ret3
      exact refQuoted_no hfin.out HB.out

end Go.Proofs.YtncojfcdkigmiaaDoor
