/- The plain words of the language: bytes, words, tables, tokens, and how tokens are laid: no program here. -/
import Derived.Test.YtlomdlblohnfmaaDoorBase
import Derived.Lib.ItoaNum
import Derived.Lib.SlicesS
import Derived.Lib.IndexLaws
import Derived.Lib.IndexMore
namespace Go.Proofs.YtlomdlblohnfmaaDoor
open Go.RowKit

def letB (c : UInt8) : Bool := decide (97 ≤ c.toNat ∧ c.toNat ≤ 122 ∨ 65 ≤ c.toNat ∧ c.toNat ≤ 90 ∨ c.toNat = 95)
def digB (c : UInt8) : Bool := decide (48 ≤ c.toNat ∧ c.toNat ≤ 57)
def wordB (c : UInt8) : Bool := letB c || digB c
def wlen : List UInt8 → Nat
  | [] => 0
  | c :: l => if wordB c = true then wlen l + 1 else 0
theorem wlen_le (l : List UInt8) : wlen l ≤ l.length := by
  induction l with
  | nil => simp [wlen]
  | cons c l ih => simp only [wlen]; split <;> simp <;> omega
theorem wlen_lt {l : List UInt8} : ∀ {k : Nat}, k < wlen l → ∃ c, l[k]? = some c ∧ wordB c = true := by
  induction l with
  | nil => intro k h; simp [wlen] at h
  | cons c l ih =>
    intro k h
    by_cases hc : wordB c = true
    · rw [wlen, if_pos hc] at h
      match k, h with
      | 0, _ => exact ⟨c, by simp, hc⟩
      | k + 1, h => simpa using ih (k := k) (by omega)
    · rw [wlen, if_neg hc] at h; omega
theorem wlen_at {l : List UInt8} (h : wlen l < l.length) : ∃ c, l[wlen l]? = some c ∧ wordB c = false := by
  induction l with
  | nil => simp at h
  | cons c l ih =>
    by_cases hc : wordB c = true
    · rw [wlen, if_pos hc] at h ⊢
      simpa using ih (by simp at h; omega)
    · rw [wlen, if_neg hc]
      exact ⟨c, by simp, by simpa using hc⟩
def keyT : List ByteArray := [⟨#[118, 111, 105, 100]⟩, ⟨#[99, 104, 97, 114]⟩, ⟨#[115, 104, 111, 114, 116]⟩, ⟨#[105, 110, 116]⟩, ⟨#[117, 110, 115, 105, 103, 110, 101, 100]⟩, ⟨#[115, 116, 114, 117, 99, 116]⟩, ⟨#[118, 111, 108, 97, 116, 105, 108, 101]⟩, ⟨#[105, 102]⟩, ⟨#[101, 108, 115, 101]⟩, ⟨#[119, 104, 105, 108, 101]⟩, ⟨#[100, 111]⟩, ⟨#[102, 111, 114]⟩, ⟨#[115, 119, 105, 116, 99, 104]⟩, ⟨#[99, 97, 115, 101]⟩, ⟨#[100, 101, 102, 97, 117, 108, 116]⟩, ⟨#[98, 114, 101, 97, 107]⟩, ⟨#[99, 111, 110, 116, 105, 110, 117, 101]⟩, ⟨#[114, 101, 116, 117, 114, 110]⟩, ⟨#[115, 105, 122, 101, 111, 102]⟩, ⟨#[106, 109, 112, 95, 98, 117, 102]⟩]
def isKeyB (s : ByteArray) : Bool := Lib.containsS keyT s
/-- a name, by its bytes -/
def isNameB (s : ByteArray) : Bool := decide (0 < s.size) && (decide (s.size ≤ 31) && ((s.data.toList.head?.any letB) && (decide (wlen s.data.toList = s.size) && !isKeyB s)))
theorem head_at (s : ByteArray) (h : 0 < s.size) : s.data.toList.head? = some s[0] := by
  rw [List.head?_eq_getElem?, List.getElem?_eq_getElem (by simpa using h)]; rfl
theorem extract_toList' (s : ByteArray) (k : Nat) (_h : k ≤ s.size) : (s.extract 0 k).data.toList = s.data.toList.take k := by
  simp [ByteArray.data_extract]
theorem extract_all (s : ByteArray) : s.extract 0 s.size = s := by
  rw [ByteArray.ext_iff, ByteArray.data_extract]; exact Array.extract_size
end Go.Proofs.YtlomdlblohnfmaaDoor

