/- The tokens of a text, plainly: no program here. -/
import Derived.Test.YtmmjmppfmjejkaaGreatDoorPlain
import Derived.Lib.IndexLaws
import Derived.Lib.IndexMore
import Derived.Lib.Bytes2
namespace Go.Proofs.YtmmjmppfmjejkaaGreatDoor
open Go.RowKit

def spB (c : UInt8) : Bool := decide (9 ≤ c.toNat ∧ c.toNat ≤ 13 ∨ c.toNat = 32)

/-- what stands at a place: nothing that is gone over, a comment that does not end, or so many bytes to be gone over -/
inductive Gap where
  | stop
  | bad
  | skip (n : Nat)

def gap : List UInt8 → Gap
  | [] => .stop
  | c :: l =>
    if spB c = true then .skip 1
    else if Lib.hasPrefix (c :: l) [47, 47] = true then (if Lib.indexByte (c :: l) 10 < 0 then .skip (l.length + 1) else .skip ((Lib.indexByte (c :: l) 10).toNat + 1))
    else if Lib.hasPrefix (c :: l) [47, 42] = true then (if Lib.index l.tail [42, 47] < 0 then .bad else .skip ((Lib.index l.tail [42, 47]).toNat + 4))
    else .stop

theorem gap_le {L : List UInt8} {m : Nat} (h : gap L = .skip m) : 0 < m ∧ m ≤ L.length := by
  match L, h with
  | [], h => simp [gap] at h
  | c :: l, h =>
    rw [gap] at h
    split at h
    · obtain rfl := Gap.skip.inj h; simp
    · split at h
      · split at h
        · obtain rfl := Gap.skip.inj h; simp
        · rename_i h1
          obtain rfl := Gap.skip.inj h
          obtain ⟨o, ho⟩ : ∃ o : Nat, Lib.indexByte (c :: l) 10 = o := ⟨(Lib.indexByte (c :: l) 10).toNat, by omega⟩
          have h2 := (List.getElem?_eq_some_iff.1 (Lib.indexByte_some ho).1).1
          omega
      · split at h
        · split at h
          · cases h
          · rename_i h1
            obtain rfl := Gap.skip.inj h
            have h2 := Lib.index_room l.tail [42, 47] (by omega)
            simp only [List.length_tail, List.length_cons, List.length_nil] at h2 ⊢
            omega
        · cases h

def addGap (m : Nat) : Nat × Bool → Nat × Bool
  | (k, b) => (m + k, b)
theorem addGap_add (m n : Nat) (p : Nat × Bool) : addGap m (addGap n p) = addGap (m + n) p := by obtain ⟨k, b⟩ := p; simp [addGap, Nat.add_assoc]

def blankF : Nat → List UInt8 → Nat × Bool
  | 0, _ => (0, true)
  | n + 1, L => match gap L with
    | .stop => (0, true)
    | .bad => (0, false)
    | .skip m => addGap m (blankF n (L.drop m))
theorem blankF_eq : ∀ (n n' : Nat) (L : List UInt8), L.length < n → L.length < n' → blankF n L = blankF n' L
  | 0, _, _, h, _ => by omega
  | _ + 1, 0, _, _, h => by omega
  | n + 1, n' + 1, L, h, h' => by
    unfold blankF
    split
    · rfl
    · rfl
    · rename_i m hm
      have := gap_le hm
      rw [blankF_eq n n' (L.drop m) (by rw [List.length_drop]; omega) (by rw [List.length_drop]; omega)]
/-- how many bytes are gone over; false: behind them a comment begins that does not end -/
def blankL (L : List UInt8) : Nat × Bool := blankF (L.length + 1) L
theorem blankL_stop {L : List UInt8} (h : gap L = .stop) : blankL L = (0, true) := by unfold blankL blankF; rw [h]
theorem blankL_bad {L : List UInt8} (h : gap L = .bad) : blankL L = (0, false) := by unfold blankL blankF; rw [h]
theorem blankL_skip {L : List UInt8} {m : Nat} (h : gap L = .skip m) : blankL L = addGap m (blankL (L.drop m)) := by
  have h1 : blankL L = addGap m (blankF L.length (L.drop m)) := by unfold blankL; conv => lhs; unfold blankF; rw [h]
  have := gap_le h
  rw [h1, blankL, blankF_eq L.length ((L.drop m).length + 1) _ (by rw [List.length_drop]; omega) (by omega)]

/-- the text from a place on -/
def sfx (s : ByteArray) (k : Nat) : List UInt8 := s.data.toList.drop k
theorem sfx_length (s : ByteArray) (k : Nat) : (sfx s k).length = s.size - k := by simp [sfx]
theorem sfx_drop (s : ByteArray) (k m : Nat) : (sfx s k).drop m = sfx s (k + m) := by simp [sfx]
theorem sfx_cons (s : ByteArray) (k : Nat) (h : k < s.size) : sfx s k = s[k] :: sfx s (k + 1) := by
  rw [sfx, sfx, List.drop_eq_getElem_cons (by simpa using h)]; rfl
theorem sfx_nil (s : ByteArray) (k : Nat) (h : s.size ≤ k) : sfx s k = [] := by rw [sfx, List.drop_eq_nil_iff]; simpa using h
theorem sfx_extract (s : ByteArray) (k : Nat) : (s.extract k s.size).data.toList = sfx s k := by
  rw [ByteArray.data_extract, Array.toList_extract, List.extract_eq_take_drop, sfx, List.take_of_length_le]
  simp
theorem extract_take (s : ByteArray) (a n : Nat) : (s.extract a (a + n)).data.toList = (sfx s a).take n := by
  rw [ByteArray.data_extract, Array.toList_extract, List.extract_eq_take_drop, sfx, Nat.add_sub_cancel_left]

theorem int_cases {o : Int} (h : -1 ≤ o) : o = -1 ∨ ∃ n : Nat, o = n := by
  by_cases h0 : o < 0
  · left; omega
  · right; exact ⟨o.toNat, by omega⟩
theorem spB_no {c : UInt8} (h : spB c = false) : ¬ (9 ≤ c.toNat ∧ c.toNat ≤ 13) ∧ c.toNat ≠ 32 := by
  have := of_decide_eq_false h
  omega
theorem gap_space {s : ByteArray} {k : Nat} (hk : k < s.size) (h : spB s[k] = true) : gap (sfx s k) = .skip 1 := by rw [sfx_cons s k hk, gap, if_pos h]
theorem gap_line {s : ByteArray} {k : Nat} (hk : k < s.size) (h : spB s[k] = false) (h1 : Lib.hasPrefix (sfx s k) [47, 47] = true) :
    gap (sfx s k) = if Lib.indexByte (sfx s k) 10 < 0 then .skip (s.size - k) else .skip ((Lib.indexByte (sfx s k) 10).toNat + 1) := by
  have hl : (sfx s (k + 1)).length + 1 = s.size - k := by rw [sfx_length]; omega
  rw [← hl]
  rw [sfx_cons s k hk] at h1 ⊢
  rw [gap, if_neg (by simp [h]), if_pos h1]
theorem gap_star {s : ByteArray} {k : Nat} (hk : k < s.size) (h : spB s[k] = false) (h1 : Lib.hasPrefix (sfx s k) [47, 47] = false) (h2 : Lib.hasPrefix (sfx s k) [47, 42] = true) :
    gap (sfx s k) = if Lib.index (sfx s (k + 2)) [42, 47] < 0 then .bad else .skip ((Lib.index (sfx s (k + 2)) [42, 47]).toNat + 4) := by
  rw [show sfx s (k + 2) = (sfx s (k + 1)).tail by rw [← List.drop_one, sfx_drop]]
  rw [sfx_cons s k hk] at h1 h2 ⊢
  rw [gap, if_neg (by simp [h]), if_neg (by simp [h1]), if_pos h2]
theorem gap_none {s : ByteArray} {k : Nat} (hk : k < s.size) (h : spB s[k] = false) (h1 : Lib.hasPrefix (sfx s k) [47, 47] = false) (h2 : Lib.hasPrefix (sfx s k) [47, 42] = false) : gap (sfx s k) = .stop := by
  rw [sfx_cons s k hk] at h1 h2 ⊢
  rw [gap, if_neg (by simp [h]), if_neg (by simp [h1]), if_neg (by simp [h2])]
theorem gap_end {s : ByteArray} {k : Nat} (hk : s.size ≤ k) : gap (sfx s k) = .stop := by rw [sfx_nil s k hk]; rfl
theorem prefix_two {s : ByteArray} {k : Nat} {a c : UInt8} (h : Lib.hasPrefix (sfx s k) [a, c] = true) : k + 2 ≤ s.size := by
  have := Lib.hasPrefix_le h
  rw [sfx_length] at this
  simp at this; omega
theorem indexByte_at : ∀ {l : List UInt8} {c : UInt8} {n : Nat}, l[n]? = some c → (∀ k, k < n → l[k]? ≠ some c) → Lib.indexByte l c = n
  | [], _, _, h, _ => by simp at h
  | x :: l, c, 0, h, _ => by
    simp at h
    simp [Lib.indexByte, h]
  | x :: l, c, n + 1, h, hn => by
    have h0 := hn 0 (by omega)
    simp at h0 h
    have ih := indexByte_at (l := l) (c := c) (n := n) h (fun k hk => by have := hn (k + 1) (by omega); simpa using this)
    unfold Lib.indexByte
    rw [ih]
    have e1 : ((n : Int) == -1) = false := by rw [beq_eq_false_iff_ne]; omega
    simp [h0, e1]
theorem indexByte_no {l : List UInt8} {c : UInt8} (h : ∀ k : Nat, l[k]? ≠ some c) : Lib.indexByte l c = -1 := by
  rcases int_cases (Lib.indexByte_ge l c) with e | ⟨n, e⟩
  · exact e
  · exact absurd (Lib.indexByte_some e).1 (h n)
theorem sfx_get (s : ByteArray) (k i : Nat) : (sfx s k)[i]? = s.data.toList[k + i]? := by simp [sfx]
theorem sfx_getlt {s : ByteArray} {k i : Nat} (h : k + i < s.size) : (sfx s k)[i]? = some s[k + i] := by
  rw [sfx_get, List.getElem?_eq_getElem (by simpa using h)]; rfl
theorem occ_sfx (s : ByteArray) (k i : Nat) (sub : List UInt8) : Lib.occAt (sfx s k) sub i = Lib.hasPrefix (sfx s (k + i)) sub := by
  unfold Lib.occAt Lib.hasPrefix; rw [sfx_drop]

/-- where blank ends that begins at a place -/
def blankAt (s : ByteArray) (k : Nat) : Nat × Bool := addGap k (blankL (sfx s k))
theorem blankAt_stop {s : ByteArray} {k : Nat} (h : gap (sfx s k) = .stop) : blankAt s k = (k, true) := by rw [blankAt, blankL_stop h]; rfl
theorem blankAt_bad {s : ByteArray} {k : Nat} (h : gap (sfx s k) = .bad) : blankAt s k = (k, false) := by rw [blankAt, blankL_bad h]; rfl
theorem blankAt_skip {s : ByteArray} {k m : Nat} (h : gap (sfx s k) = .skip m) : blankAt s k = blankAt s (k + m) := by
  rw [blankAt, blankL_skip h, addGap_add, sfx_drop]; rfl
theorem blankF_ends : ∀ (n : Nat) (L : List UInt8), L.length < n → (blankF n L).1 ≤ L.length ∧ ((blankF n L).2 = true → gap (L.drop (blankF n L).1) = .stop) ∧ ((blankF n L).2 = false → gap (L.drop (blankF n L).1) = .bad)
  | 0, _, h => by omega
  | n + 1, L, h => by
    unfold blankF
    split
    · rename_i hg; exact ⟨by simp, fun _ => by simpa using hg, fun e => by cases e⟩
    · rename_i hg; exact ⟨by simp, fun e => (by cases e), fun _ => by simpa using hg⟩
    · rename_i m hm
      have hb := gap_le hm
      obtain ⟨h1, h2, h3⟩ := blankF_ends n (L.drop m) (by rw [List.length_drop]; omega)
      rcases hx : blankF n (L.drop m) with ⟨k, b⟩
      rw [hx] at h1 h2 h3
      rw [List.length_drop] at h1
      rw [List.drop_drop] at h2 h3
      exact ⟨by show m + k ≤ _; simp at h1; omega, h2, h3⟩
theorem blankL_ends (L : List UInt8) : (blankL L).1 ≤ L.length ∧ ((blankL L).2 = true → gap (L.drop (blankL L).1) = .stop) ∧ ((blankL L).2 = false → gap (L.drop (blankL L).1) = .bad) := blankF_ends _ L (by omega)
theorem blankAt_le {s : ByteArray} {k : Nat} (h : k ≤ s.size) : k ≤ (blankAt s k).1 ∧ (blankAt s k).1 ≤ s.size := by
  have := (blankL_ends (sfx s k)).1
  rw [sfx_length] at this
  show k ≤ k + (blankL (sfx s k)).1 ∧ k + (blankL (sfx s k)).1 ≤ _
  omega

/-- a digit to the base 16 -/
def hexN (c : UInt8) : Option Nat :=
  if 48 ≤ c.toNat ∧ c.toNat ≤ 57 then some (c.toNat - 48)
  else if 97 ≤ c.toNat ∧ c.toNat ≤ 102 then some (c.toNat - 87)
  else if 65 ≤ c.toNat ∧ c.toNat ≤ 70 then some (c.toNat - 55)
  else none
def hexI (c : UInt8) : Int := match hexN c with
  | some d => d
  | none => -1

/-- a piece of what stands in quotes: its byte, and how long it is -/
def pieceL : List UInt8 → Option (UInt8 × Nat)
  | [] => none
  | c :: l =>
    if c.toNat < 32 ∨ 126 < c.toNat then none
    else if c.toNat ≠ 92 then some (c, 1)
    else match l with
      | [] => none
      | d :: r =>
        if d.toNat = 110 then some (10, 2)
        else if d.toNat = 116 then some (9, 2)
        else if d.toNat = 114 then some (13, 2)
        else if d.toNat = 48 then (match r with
          | [] => some (0, 2)
          | x :: _ => if digB x = true then none else some (0, 2))
        else if d.toNat = 92 ∨ d.toNat = 39 ∨ d.toNat = 34 then some (d, 2)
        else if d.toNat = 120 then (match r with
          | x :: y :: _ => (match hexN x, hexN y with
            | some a, some b => some (UInt8.ofNat (16 * a + b), 4)
            | _, _ => none)
          | _ => none)
        else none
theorem pieceL_le {L : List UInt8} {b : UInt8} {m : Nat} (h : pieceL L = some (b, m)) : 0 < m ∧ m ≤ L.length := by
  unfold pieceL at h
  repeat' split at h
  all_goals first
    | (cases h; done)
    | (simp only [Option.some.injEq, Prod.mk.injEq] at h; obtain ⟨_, rfl⟩ := h; simp)

/-- what stands in quotes, or what is wrong with it -/
inductive QEnd where
  | good (l : List UInt8) (n : Nat)
  | bad (e : Int)
def consQ (b : UInt8) (m : Nat) : QEnd → QEnd
  | .good l n => .good (b :: l) (m + n)
  | .bad e => .bad e
def quotedF (q : UInt8) : Nat → List UInt8 → QEnd
  | 0, _ => .bad 71
  | _ + 1, [] => .bad 71
  | n + 1, c :: l =>
    if c = q then .good [] 1
    else if c.toNat = 10 then .bad 71
    else match pieceL (c :: l) with
      | none => .bad 72
      | some (b, m) => consQ b m (quotedF q n ((c :: l).drop m))
theorem quotedF_eq (q : UInt8) : ∀ (n n' : Nat) (L : List UInt8), L.length < n → L.length < n' → quotedF q n L = quotedF q n' L
  | 0, _, _, h, _ => by omega
  | _ + 1, 0, _, _, h => by omega
  | n + 1, n' + 1, [], _, _ => rfl
  | n + 1, n' + 1, c :: l, h, h' => by
    unfold quotedF
    split
    · rfl
    · split
      · rfl
      · split
        · rfl
        · rename_i b m hm
          have := pieceL_le hm
          rw [quotedF_eq q n n' ((c :: l).drop m) (by rw [List.length_drop]; omega) (by rw [List.length_drop]; omega)]
/-- of what follows the quote that begins -/
def quotedL (q : UInt8) (L : List UInt8) : QEnd := quotedF q (L.length + 1) L
theorem quotedL_nil (q : UInt8) : quotedL q [] = .bad 71 := rfl
theorem quotedL_cons (q c : UInt8) (l : List UInt8) : quotedL q (c :: l) = (if c = q then .good [] 1
    else if c.toNat = 10 then .bad 71
    else match pieceL (c :: l) with
      | none => .bad 72
      | some (b, m) => consQ b m (quotedL q ((c :: l).drop m))) := by
  unfold quotedL
  conv => lhs; unfold quotedF
  split
  · rfl
  · split
    · rfl
    · split
      · rfl
      · rename_i b m hm
        have := pieceL_le hm
        simp only [List.length_cons] at this
        rw [quotedF_eq q (c :: l).length _ ((c :: l).drop m) (by rw [List.length_drop, List.length_cons]; omega) (Nat.lt_succ_self _)]

/-- a number's digits, to a base -/
def valL (base : Nat) : Nat → List UInt8 → Option Nat
  | acc, [] => some acc
  | acc, c :: l => match hexN c with
    | some d => if d < base then valL base (acc * base + d) l else none
    | none => none
def uEnd (L : List UInt8) : Bool := decide (1 < L.length) && L.getLast?.any fun c => decide (c.toNat = 117 ∨ c.toNat = 85)
def bodyN (L : List UInt8) : Option Nat :=
  match L with
  | a :: b :: c :: r => if a.toNat = 48 then (if b.toNat = 120 ∨ b.toNat = 88 then valL 16 0 (c :: r) else none) else valL 10 0 L
  | [a, _] => if a.toNat = 48 then none else valL 10 0 L
  | [_] => valL 10 0 L
  | [] => none
def numW (L : List UInt8) : Option (Nat × Bool) :=
  match bodyN (if uEnd L = true then L.dropLast else L) with
  | none => none
  | some n => if n < 4294967296 then some (n, uEnd L || decide (2147483648 ≤ n)) else none

/-- a token (its place is left at 0), or what is wrong -/
inductive OEnd where
  | good (t : Tok) (n : Nat)
  | bad (e : Int)
def strOf (l : List UInt8) : ByteArray := ⟨l.toArray⟩
def sgn (b : UInt8) : Int := if b.toNat < 128 then b.toNat else (b.toNat : Int) - 256
def wordE (L : List UInt8) : OEnd :=
  if isKeyB (strOf (L.take (wlen L))) = true then .good ⟨2, 0, 0, strOf (L.take (wlen L))⟩ (wlen L)
  else if 31 < wlen L then .bad 3
  else .good ⟨1, 0, 0, strOf (L.take (wlen L))⟩ (wlen L)
def numE (L : List UInt8) : OEnd :=
  match numW (L.take (wlen L)) with
  | none => .bad 73
  | some (n, u) => .good ⟨3, 0, n, if u = true then uText else ⟨#[]⟩⟩ (wlen L)
def charE : QEnd → OEnd
  | .bad e => .bad e
  | .good [b] n => .good ⟨3, 0, sgn b, ⟨#[]⟩⟩ (n + 1)
  | .good _ _ => .bad 72
def strE : QEnd → OEnd
  | .bad e => .bad e
  | .good l n => .good ⟨4, 0, 0, strOf l⟩ (n + 1)
def markE (L : List UInt8) : OEnd :=
  match markT.find? fun m => m.data.toList.isPrefixOf L with
  | none => .bad 70
  | some m => .good ⟨5, 0, 0, m⟩ m.size
def oneL : List UInt8 → OEnd
  | [] => .bad 70
  | c :: l =>
    if letB c = true then wordE (c :: l)
    else if digB c = true then numE (c :: l)
    else if c.toNat = 39 then charE (quotedL 39 l)
    else if c.toNat = 34 then strE (quotedL 34 l)
    else markE (c :: l)

/-- a text's tokens, or what is wrong, and where -/
inductive TEnd where
  | good (L : List Tok)
  | bad (k : Nat) (e : Int)
inductive TStep where
  | done (e : TEnd)
  | more (n : Nat) (out : List Tok)
def isStr (t : Tok) : Bool := decide (t.kind = 4)
def joins (M : List UInt8) (out : List Tok) : Bool := M.head?.any (fun c => decide (c.toNat = 34)) && out.getLast?.any isStr
def glue (out : List Tok) (x : ByteArray) : List Tok := match out.getLast? with
  | none => []
  | some t => out.dropLast ++ [{ t with text := t.text ++ x }]
def putTok (M : List UInt8) (p : Nat) (out : List Tok) (t : Tok) : List Tok := if joins M out = true then glue out t.text else out ++ [{ t with place := p }]
def endStep (n : Nat) (out : List Tok) : TStep := match out.getLast? with
  | none => .more n out
  | some t => if 4096 < t.text.size then .done (.bad t.place.toNat 3) else .more n out
def tokStep (k : Nat) (L : List UInt8) (out : List Tok) : TStep :=
  match blankL L with
  | (b, false) => .done (.bad (k + b) 71)
  | (b, true) =>
    if L.drop b = [] then .done (.good out)
    else if joins (L.drop b) out = false ∧ 16384 ≤ out.length then .done (.bad (k + b) 3)
    else match oneL (L.drop b) with
      | .bad e => .done (.bad (k + b) e)
      | .good t n => endStep (b + n) (putTok (L.drop b) (k + b) out t)
def tokF : Nat → Nat → List UInt8 → List Tok → TEnd
  | 0, _, _, out => .good out
  | f + 1, k, L, out => match tokStep k L out with
    | .done e => e
    | .more n out' => tokF f (k + n) (L.drop n) out'
def tokE (s : ByteArray) : TEnd := if 65536 < s.size then .bad 0 3 else tokF (s.size + 1) 0 s.data.toList []

end Go.Proofs.YtmmjmppfmjejkaaGreatDoor
