/- The plain words of the language: bytes, words, tables, tokens, and how tokens are laid: no program here. -/
import Derived.Test.YtmmjmppfmjejkaaGreatDoorBase
import Derived.Lib.ItoaNum
import Derived.Lib.SlicesS
import Derived.Lib.IndexLaws
import Derived.Lib.IndexMore
namespace Go.Proofs.YtmmjmppfmjejkaaGreatDoor
open Go.RowKit

def letB (c : UInt8) : Bool := decide (97 ≤ c.toNat ∧ c.toNat ≤ 122 ∨ 65 ≤ c.toNat ∧ c.toNat ≤ 90 ∨ c.toNat = 95)
def digB (c : UInt8) : Bool := decide (48 ≤ c.toNat ∧ c.toNat ≤ 57)
def wordB (c : UInt8) : Bool := letB c || digB c
def wlen : List UInt8 → Nat
  | [] => 0
  | c :: l => if wordB c = true then wlen l + 1 else 0
theorem wlen_le (l : List UInt8) : wlen l ≤ l.length := by
  induction l with
  | nil => simp [wlen]
  | cons c l ih => simp only [wlen]; split <;> simp <;> omega
theorem wlen_lt {l : List UInt8} : ∀ {k : Nat}, k < wlen l → ∃ c, l[k]? = some c ∧ wordB c = true := by
  induction l with
  | nil => intro k h; simp [wlen] at h
  | cons c l ih =>
    intro k h
    by_cases hc : wordB c = true
    · rw [wlen, if_pos hc] at h
      match k, h with
      | 0, _ => exact ⟨c, by simp, hc⟩
      | k + 1, h => simpa using ih (k := k) (by omega)
    · rw [wlen, if_neg hc] at h; omega
theorem wlen_at {l : List UInt8} (h : wlen l < l.length) : ∃ c, l[wlen l]? = some c ∧ wordB c = false := by
  induction l with
  | nil => simp at h
  | cons c l ih =>
    by_cases hc : wordB c = true
    · rw [wlen, if_pos hc] at h ⊢
      simpa using ih (by simp at h; omega)
    · rw [wlen, if_neg hc]
      exact ⟨c, by simp, by simpa using hc⟩
def keyT : List ByteArray := [⟨#[118, 111, 105, 100]⟩, ⟨#[99, 104, 97, 114]⟩, ⟨#[115, 104, 111, 114, 116]⟩, ⟨#[105, 110, 116]⟩, ⟨#[117, 110, 115, 105, 103, 110, 101, 100]⟩, ⟨#[115, 116, 114, 117, 99, 116]⟩, ⟨#[118, 111, 108, 97, 116, 105, 108, 101]⟩, ⟨#[105, 102]⟩, ⟨#[101, 108, 115, 101]⟩, ⟨#[119, 104, 105, 108, 101]⟩, ⟨#[100, 111]⟩, ⟨#[102, 111, 114]⟩, ⟨#[115, 119, 105, 116, 99, 104]⟩, ⟨#[99, 97, 115, 101]⟩, ⟨#[100, 101, 102, 97, 117, 108, 116]⟩, ⟨#[98, 114, 101, 97, 107]⟩, ⟨#[99, 111, 110, 116, 105, 110, 117, 101]⟩, ⟨#[114, 101, 116, 117, 114, 110]⟩, ⟨#[115, 105, 122, 101, 111, 102]⟩, ⟨#[106, 109, 112, 95, 98, 117, 102]⟩]
def markT : List ByteArray := [⟨#[60, 60, 61]⟩, ⟨#[62, 62, 61]⟩, ⟨#[45, 62]⟩, ⟨#[43, 43]⟩, ⟨#[45, 45]⟩, ⟨#[60, 60]⟩, ⟨#[62, 62]⟩, ⟨#[60, 61]⟩, ⟨#[62, 61]⟩, ⟨#[61, 61]⟩, ⟨#[33, 61]⟩, ⟨#[38, 38]⟩, ⟨#[124, 124]⟩, ⟨#[42, 61]⟩, ⟨#[47, 61]⟩, ⟨#[37, 61]⟩, ⟨#[43, 61]⟩, ⟨#[45, 61]⟩, ⟨#[38, 61]⟩, ⟨#[94, 61]⟩, ⟨#[124, 61]⟩, ⟨#[123]⟩, ⟨#[125]⟩, ⟨#[40]⟩, ⟨#[41]⟩, ⟨#[91]⟩, ⟨#[93]⟩, ⟨#[59]⟩, ⟨#[44]⟩, ⟨#[46]⟩, ⟨#[38]⟩, ⟨#[42]⟩, ⟨#[43]⟩, ⟨#[45]⟩, ⟨#[126]⟩, ⟨#[33]⟩, ⟨#[47]⟩, ⟨#[37]⟩, ⟨#[60]⟩, ⟨#[62]⟩, ⟨#[94]⟩, ⟨#[124]⟩, ⟨#[63]⟩, ⟨#[58]⟩, ⟨#[61]⟩]
theorem keyT_length : keyT.length = 20 := rfl
theorem markT_length : markT.length = 45 := rfl
def isKeyB (s : ByteArray) : Bool := Lib.containsS keyT s
/-- a name, by its bytes -/
def isNameB (s : ByteArray) : Bool := decide (0 < s.size) && (decide (s.size ≤ 31) && ((s.data.toList.head?.any letB) && (decide (wlen s.data.toList = s.size) && !isKeyB s)))
theorem head_at (s : ByteArray) (h : 0 < s.size) : s.data.toList.head? = some s[0] := by
  rw [List.head?_eq_getElem?, List.getElem?_eq_getElem (by simpa using h)]; rfl
theorem extract_toList' (s : ByteArray) (k : Nat) (_h : k ≤ s.size) : (s.extract 0 k).data.toList = s.data.toList.take k := by
  simp [ByteArray.data_extract]
theorem extract_all (s : ByteArray) : s.extract 0 s.size = s := by
  rw [ByteArray.ext_iff, ByteArray.data_extract]; exact Array.extract_size
theorem toList_eq {a b : ByteArray} (h : a.data.toList = b.data.toList) : a = b := by
  obtain ⟨⟨a⟩⟩ := a; obtain ⟨⟨b⟩⟩ := b; simpa using h
def hexd (n : Nat) : UInt8 := if n < 10 then (48 + n).toUInt8 else (87 + n).toUInt8
def speltL (c q : UInt8) : List UInt8 :=
  if ((c.toNat : Int) == 10) = true then [92, 110]
  else if ((c.toNat : Int) == 9) = true then [92, 116]
  else if ((c.toNat : Int) == 13) = true then [92, 114]
  else if ((c.toNat : Int) == 92) = true ∨ ((c.toNat : Int) == (q.toNat : Int)) = true then [92, c]
  else if (c.toNat : Int) < 32 ∨ (126 : Int) < c.toNat then [92, 120, hexd (c.toNat / 16), hexd (c.toNat % 16)]
  else [c]
/-- the ways of 'spelt', by their tests -/
theorem spelt1 {c q : UInt8} (h : ((c.toNat : Int) == 10) = true) : speltL c q = [92, 110] := by rw [speltL, if_pos h]
theorem spelt2 {c q : UInt8} (h0 : ((c.toNat : Int) == 10) = false) (h : ((c.toNat : Int) == 9) = true) : speltL c q = [92, 116] := by rw [speltL, if_neg (by simp [h0]), if_pos h]
theorem spelt3 {c q : UInt8} (h0 : ((c.toNat : Int) == 10) = false) (h1 : ((c.toNat : Int) == 9) = false) (h : ((c.toNat : Int) == 13) = true) : speltL c q = [92, 114] := by
  rw [speltL, if_neg (by simp [h0]), if_neg (by simp [h1]), if_pos h]
theorem spelt4 {c q : UInt8} (h0 : ((c.toNat : Int) == 10) = false) (h1 : ((c.toNat : Int) == 9) = false) (h2 : ((c.toNat : Int) == 13) = false) (h : ((c.toNat : Int) == 92) = true ∨ ((c.toNat : Int) == (q.toNat : Int)) = true) : speltL c q = [92, c] := by
  rw [speltL, if_neg (by simp [h0]), if_neg (by simp [h1]), if_neg (by simp [h2]), if_pos h]
theorem spelt5 {c q : UInt8} (h0 : ((c.toNat : Int) == 10) = false) (h1 : ((c.toNat : Int) == 9) = false) (h2 : ((c.toNat : Int) == 13) = false) (h3 : ((c.toNat : Int) == 92) = false ∧ ((c.toNat : Int) == (q.toNat : Int)) = false) (h : (c.toNat : Int) < 32 ∨ (126 : Int) < c.toNat) : speltL c q = [92, 120, hexd (c.toNat / 16), hexd (c.toNat % 16)] := by
  rw [speltL, if_neg (by simp [h0]), if_neg (by simp [h1]), if_neg (by simp [h2]), if_neg (by simp [h3]), if_pos h]
theorem spelt6 {c q : UInt8} (h0 : ((c.toNat : Int) == 10) = false) (h1 : ((c.toNat : Int) == 9) = false) (h2 : ((c.toNat : Int) == 13) = false) (h3 : ((c.toNat : Int) == 92) = false ∧ ((c.toNat : Int) == (q.toNat : Int)) = false) (h : 32 ≤ (c.toNat : Int)) (h' : (c.toNat : Int) ≤ 126) : speltL c q = [c] := by
  rw [speltL, if_neg (by simp [h0]), if_neg (by simp [h1]), if_neg (by simp [h2]), if_neg (by simp [h3]), if_neg (by omega)]
theorem speltL_bd (c q : UInt8) : (speltL c q).length ≤ 4 := by
  unfold speltL; repeat' (split; · simp)
  simp
def midL (l : List UInt8) : List UInt8 := l.flatMap fun c => speltL c 34
def quoteL (l : List UInt8) : List UInt8 := 34 :: midL l ++ [34]
theorem midL_bd (l : List UInt8) : (midL l).length ≤ 4 * l.length := by
  unfold midL
  induction l with
  | nil => simp
  | cons c l ih => simp only [List.flatMap_cons, List.length_append, List.length_cons]; have := speltL_bd c 34; omega
theorem midL_snoc (s : ByteArray) (k : Nat) (h : k < s.size) : midL (s.data.toList.take (k + 1)) = midL (s.data.toList.take k) ++ speltL s[k] 34 := by
  rw [take_snoc s k h]; simp [midL]
structure Tok where
  kind : Int
  place : Int
  num : Int
  text : ByteArray
def Tok.cells (t : Tok) : List Value := [.int .i64 t.kind, .int .i64 t.place, .int .i64 t.num, .string t.text]
def uText : ByteArray := ⟨#[117]⟩
def goodNum (t : Tok) : Bool := if t.text = uText then decide (0 ≤ t.num ∧ t.num < 4294967296) else decide (t.text = ByteArray.empty) && decide (-128 ≤ t.num ∧ t.num < 2147483648)
def goodB (t : Tok) : Bool :=
  if t.kind = 3 then goodNum t
  else if t.num ≠ 0 then false
  else if t.kind = 1 then isNameB t.text
  else if t.kind = 2 then isKeyB t.text
  else if t.kind = 4 then decide (t.text.size ≤ 4096)
  else if t.kind = 5 then Lib.containsS markT t.text
  else false
def charL (c : UInt8) : List UInt8 := [39] ++ speltL c 39 ++ [39]
def numL (t : Tok) : List UInt8 := if t.num < 0 then charL (UInt8.ofNat (t.num + 256).toNat) else if t.text = uText ∧ t.num < 2147483648 then Lib.itoa t.num ++ [117] else Lib.itoa t.num
def wordL (t : Tok) : List UInt8 := if t.kind = 4 then quoteL t.text.data.toList else if t.kind = 3 then numL t else t.text.data.toList

end Go.Proofs.YtmmjmppfmjejkaaGreatDoor
