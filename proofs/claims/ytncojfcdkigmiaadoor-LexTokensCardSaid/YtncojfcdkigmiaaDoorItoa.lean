/- Numbers in digits: strconv.Itoa by the shelf's contract; the reference's own. -/
import Derived.Test.YtncojfcdkigmiaaDoorBase
import Derived.Test.YtncojfcdkigmiaaDoorChecked
import Derived.Test.YtncojfcdkigmiaaDoorShelf
import Derived.Test.YtncojfcdkigmiaaDoorSpelt
namespace Go.Proofs.YtncojfcdkigmiaaDoor
open Go.RowKit Go.Sort

/-- the table of powers of ten as the text lays it -/
def PowAt (w : World) : Prop := Lib.TabIs Tryd.prog w "internal/strconv.uint64pow10" .u64 Lib.pow10Tab
theorem powG : Tryd.prog.globalNamed "internal/strconv.uint64pow10" = some 3 := by kernel_rfl
theorem PowAt.drewN {w : World} (h : PowAt w) (n : Nat) : PowAt (w.drewN n) := h
theorem PowAt.drew {w : World} (h : PowAt w) : PowAt w.drew := h
theorem PowAt.below {w w' : World} (h : PowAt w) (hb : Below w.heap.size w w') (hg : 3 < w.heap.size) : PowAt w' := var?_below hb powG hg h

theorem blw_grow (w : World) (k : Nat) (os : Array Obj) : Below w.heap.size w (grow (w.drewN k) os) :=
  ⟨rfl, rfl, rfl, by simp [grow], fun j hj => by simp [grow, Array.getElem?_append, hj]⟩

theorem lexItoa_ok (n : Int) (w : World) (hP : PowAt w) (h0 : 0 ≤ n) (h1 : n ≤ 9223372036854775807) :
    Calls Tryd.prog 36 #[.int .i64 n] w fun e w' => e = .returned (.string ⟨(Lib.itoa n).toArray⟩) ∧ Below w.heap.size w w' :=
  (Tryd.strconv_Itoa n (by omega) h1 w hP).mono fun _ _ ⟨he, k, os, hw⟩ => ⟨he, by rw [hw]; exact blw_grow _ _ _⟩

theorem dec_bd : ∀ u : Nat, (Lib.decDigits u).length ≤ u + 1 := by
  intro u
  induction u using Nat.strongRecOn with
  | ind u ih =>
    rw [Lib.decDigits]
    split
    · simp
    · have := ih (u / 10) (by omega)
      simp only [List.length_append, List.length_cons, List.length_nil]
      omega
theorem ofNat_digit (m : Nat) : (48 : UInt8) + UInt8.ofNat (m % 10) = UInt8.ofNat (48 + m % 10) := by
  rw [UInt8.ofNat_add]; rfl

set_option maxHeartbeats 1000000 in
theorem baseItoa_ok (n : Nat) (w : World) (hn : n ≤ 4294967296) :
    Calls Tryd.prog 44 #[.int .i64 n] w fun e w' => e = .returned (.string ⟨(Lib.itoa n).toArray⟩) ∧ Below w.heap.size w w' := by
  have cv1 := fun (w : World) (n : Int) => bytes_new w [n] 1 rfl
  simp only [List.map_cons, List.map_nil] at cv1
  have hI : Lib.itoa (n : Int) = Lib.decDigits n := by unfold Lib.itoa; rw [if_neg (by omega)]; simp
  rw [hI]
  clear hI
  have hbd := dec_bd n
  have t0 : decide ((n : Int) < 0) = false := by simp
  go_enter Tryd.func44, Tryd.ntmps44
  go_wp2_with fail
  go_loopw [0, 4] (fun nv sv wr => ∃ (m : Nat) (x : List UInt8), m ≤ n ∧ nv = .int .i64 m ∧ sv = .string ⟨x.toArray⟩ ∧ Hid (Lib.decDigits n = Lib.decDigits m ++ x) ∧ Below w.heap.size w wr) (fun nv _ _ => (intOf nv).toNat)
  case atStart => exact ⟨n, [], Nat.le_refl _, rfl, rfl, by show _ = _; simp, Below.refl _ _⟩
  case round =>
    obtain ⟨m, x, hm, rfl, rfl, hx, hb⟩ := hrel
    have hxl : x.length ≤ n + 1 := by have := congrArg List.length hx.out; simp at this; omega
    have hz := hb.size
    by_cases h10 : m < 10
    · have hfin := Lib.hid (show [(48 : UInt8) + UInt8.ofNat (m % 10)] ++ x = Lib.decDigits n by
        rw [hx.out, Lib.decDigits, dif_pos h10, ofNat_digit, show m % 10 = m by omega])
      go_wp2
      go_ret
      exact ⟨ret_bs (by simpa using hfin.out), hb.alloc hz _⟩
    · have hfin := Lib.hid (show Lib.decDigits n = Lib.decDigits (m / 10) ++ ([(48 : UInt8) + UInt8.ofNat (m % 10)] ++ x) by
        rw [hx.out, Lib.decDigits, dif_neg h10, ofNat_digit, List.append_assoc])
      have t1 : (((m : Int) / 10) == 0) = false := by rw [beq_eq_false_iff_ne]; omega
      go_wp2
      go_roundw
      case rel => exact ⟨m / 10, [(48 : UInt8) + UInt8.ofNat (m % 10)] ++ x, by omega, rfl, rfl, hfin.out, hb.alloc hz _⟩
      case measure => simp [intOf]; omega

end Go.Proofs.YtncojfcdkigmiaaDoor
