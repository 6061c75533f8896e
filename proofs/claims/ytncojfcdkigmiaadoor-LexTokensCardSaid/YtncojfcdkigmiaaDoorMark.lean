/- Which mark comes: the library's search with the reader's own method. -/
import Derived.Test.YtncojfcdkigmiaaDoorNumber
import Derived.Test.YtncojfcdkigmiaaDoorQuoted
namespace Go.Proofs.YtncojfcdkigmiaaDoor
open Go.RowKit

/-- which one is the first -/
def firstI {α : Type} (p : α → Bool) : List α → Option Nat
  | [] => none
  | x :: l => if p x = true then some 0 else (firstI p l).map (· + 1)
theorem firstI_at {α : Type} {p : α → Bool} : ∀ {l : List α} {k : Nat} {x : α}, l[k]? = some x → p x = true → (∀ (j : Nat) (y : α), j < k → l[j]? = some y → p y = false) → firstI p l = some k
  | [], k, x, h, _, _ => by simp at h
  | y :: l, 0, x, h, hp, _ => by
    simp at h; subst h
    rw [firstI, if_pos hp]
  | y :: l, k + 1, x, h, hp, hn => by
    have h0 := hn 0 y (by omega) (by simp)
    rw [firstI, if_neg (by simp [h0]), firstI_at (l := l) (k := k) (by simpa using h) hp (fun j z hj hz => hn (j + 1) z (by omega) (by simpa using hz))]; rfl
theorem firstI_no {α : Type} {p : α → Bool} : ∀ {l : List α}, (∀ (j : Nat) (y : α), l[j]? = some y → p y = false) → firstI p l = none
  | [], _ => rfl
  | y :: l, h => by
    have h0 := h 0 y (by simp)
    rw [firstI, if_neg (by simp [h0]), firstI_no (l := l) (fun j z hz => h (j + 1) z (by simpa using hz))]; rfl
theorem firstI_find {α : Type} {p : α → Bool} : ∀ {l : List α}, match firstI p l with
    | some k => ∃ m, l[k]? = some m ∧ l.find? p = some m
    | none => l.find? p = none
  | [] => rfl
  | y :: l => by
    have ih := firstI_find (p := p) (l := l)
    rcases hp : p y with _ | _
    · rw [firstI, if_neg (by simp [hp])]
      rcases hf : firstI p l with _ | k
      · rw [hf] at ih
        show List.find? p (y :: l) = none
        rw [List.find?_cons, hp]; exact ih
      · rw [hf] at ih
        obtain ⟨m, h1, h2⟩ := ih
        exact ⟨m, by simpa using h1, by rw [List.find?_cons, hp]; exact h2⟩
    · rw [firstI, if_pos hp]
      exact ⟨y, rfl, by rw [List.find?_cons, hp]⟩
def markI (L : List UInt8) : Option Nat := firstI (fun m => Lib.hasPrefix L m.data.toList) markT
def markX (L : List UInt8) : Int := match markI L with
  | some k => k
  | none => -1
theorem markX_at {L : List UInt8} {k : Nat} {x : ByteArray} (h : markT[k]? = some x) (hp : Lib.hasPrefix L x.data.toList = true) (hn : ∀ (j : Nat) (y : ByteArray), j < k → markT[j]? = some y → Lib.hasPrefix L y.data.toList = false) : Ending.returned (.int .i64 (k : Int)) = .returned (.int .i64 (markX L)) := by
  rw [markX, markI, firstI_at h hp hn]
theorem markX_no {L : List UInt8} (hn : ∀ (j : Nat) (y : ByteArray), markT[j]? = some y → Lib.hasPrefix L y.data.toList = false) : Ending.returned (.int .i64 (-1)) = .returned (.int .i64 (markX L)) := by
  rw [markX, markI, firstI_no hn]
/-- which mark comes first of those that come -/
def Marked (L : List UInt8) (w : World) (e : Ending) (w' : World) : Prop := e = .returned (.int .i64 (markX L)) ∧ ∃ n, w' = w.drewN n

set_option maxHeartbeats 2000000 in
set_option maxRecDepth 100000 in
theorem indexFunc_ok (b k : Nat) (cs : Array Value) (T : TypeId) (s : ByteArray) (w : World) (h : TextAt w b cs T s k) (hk : k ≤ s.size) (hM : MarksAt w) :
    Calls Tryd.prog 51 #[.slice (some ⟨1, 0, none⟩) 45 45, .func (.func 45) #[.pointer (some ⟨b, 0, none⟩)] #[]] w (Marked (sfx s k) w) := by
  have H := Lib.hid h
  have HM := Lib.hid hM
  clear h hM
  go_enter Tryd.func51, Tryd.ntmps51
  go_wp2_with fail
  go_loopw [8] (fun v wr => ∃ j : Nat, j ≤ 45 ∧ v = .int .i64 j ∧ Hid (∀ i y, i < j → markT[i]? = some y → Lib.hasPrefix (sfx s k) y.data.toList = false) ∧ ∃ n, wr = w.drewN n) (fun v _ => 45 - (intOf v).toNat)
  case atStart => exact ⟨0, by omega, rfl, fun i y hi => by omega, 0, rfl⟩
  case round =>
    obtain ⟨j, hj, rfl, hno, n, rfl⟩ := hrel
    by_cases hlt : j < 45
    · have hget : markT[j]? = some (markT.getD j ByteArray.empty) := by rw [List.getElem?_eq_getElem (by rw [markT_length]; exact hlt), getD_lt _ _ (by rw [markT_length]; exact hlt)]
      have hc := HM.out j (by rw [markT_length]; exact hlt)
      generalize markT.getD j ByteArray.empty = m at hget hc
      have HG := Lib.hid hget
      rw [Nat.zero_add] at hc
      clear hget
      rcases hp : Lib.hasPrefix (sfx s k) m.data.toList with _ | _
      · have HP := Lib.hid hp
        clear hp
        go_wp2_with (go_at_call 45; refine (begins_is false _ _ _ _ _ _ _ H.out.drew hk HP.out).mono ?_; rintro e w1 ⟨rfl, n1, rfl⟩)
        go_roundw
        case rel => exact ⟨j + 1, by omega, by go_num, fun i y hi hy => by
          rcases Nat.lt_or_ge i j with h | h
          · exact hno.out i y h hy
          · obtain rfl : i = j := by omega
            have e := HG.out
            rw [hy] at e
            obtain rfl := Option.some.inj e
            exact HP.out, _, rfl⟩
        case measure => simp [intOf]; omega
      · have HP := Lib.hid hp
        clear hp
        go_wp2_with (go_at_call 45; refine (begins_is true _ _ _ _ _ _ _ H.out.drew hk HP.out).mono ?_; rintro e w1 ⟨rfl, n1, rfl⟩)
        go_ret
        exact ⟨markX_at HG.out HP.out (fun i y hi hy => hno.out i y hi hy), _, rfl⟩
    · obtain rfl : j = 45 := by omega
      go_wp2_with fail
      go_ret
      exact ⟨markX_no (fun i y hy => hno.out i y (by have := (List.getElem?_eq_some_iff.1 hy).1; rw [markT_length] at this; exact this) hy), _, rfl⟩
theorem indexFunc_is (x : Int) (b k : Nat) (cs : Array Value) (T : TypeId) (s : ByteArray) (w : World) (h : TextAt w b cs T s k) (hk : k ≤ s.size) (hM : MarksAt w) (hx : markX (sfx s k) = x) :
    Calls Tryd.prog 51 #[.slice (some ⟨1, 0, none⟩) 45 45, .func (.func 45) #[.pointer (some ⟨b, 0, none⟩)] #[]] w fun e w' => e = .returned (.int .i64 x) ∧ ∃ n, w' = w.drewN n := by
  subst hx; exact indexFunc_ok b k cs T s w h hk hM

end Go.Proofs.YtncojfcdkigmiaaDoor
