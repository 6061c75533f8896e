/- The tokens of a text, plainly: no program here. · The library's own bound on its search, as it stands in the world. · Blank and comments: the program's reader. · Digits to the base 16, both texts. -/
import Derived.Test.YtkokdafkjjcgoaaGreatDoorMg1
import Derived.Lib.IndexLaws
import Derived.Lib.IndexMore
import Derived.Lib.Bytes2
import Derived.Test.YtkokdafkjjcgoaaGreatDoorChecked
import Derived.Test.YtkokdafkjjcgoaaGreatDoorMg2
import Derived.Deep.RegionWith
import Derived.Deep.LoopGhost
namespace Go.Proofs.YtkokdafkjjcgoaaGreatDoor
open Go.RowKit

def spB (c : UInt8) : Bool := decide (9 ≤ c.toNat ∧ c.toNat ≤ 13 ∨ c.toNat = 32)

/-- what stands at a place: nothing that is gone over, a comment that does not end, or so many bytes to be gone over -/
inductive Gap where
  | stop
  | bad
  | skip (n : Nat)

def gap : List UInt8 → Gap
  | [] => .stop
  | c :: l =>
    if spB c = true then .skip 1
    else if Lib.hasPrefix (c :: l) [47, 47] = true then (if Lib.indexByte (c :: l) 10 < 0 then .skip (l.length + 1) else .skip ((Lib.indexByte (c :: l) 10).toNat + 1))
    else if Lib.hasPrefix (c :: l) [47, 42] = true then (if Lib.index l.tail [42, 47] < 0 then .bad else .skip ((Lib.index l.tail [42, 47]).toNat + 4))
    else .stop

theorem gap_le {L : List UInt8} {m : Nat} (h : gap L = .skip m) : 0 < m ∧ m ≤ L.length := by
  match L, h with
  | [], h => simp [gap] at h
  | c :: l, h =>
    rw [gap] at h
    split at h
    · obtain rfl := Gap.skip.inj h; simp
    · split at h
      · split at h
        · obtain rfl := Gap.skip.inj h; simp
        · rename_i h1
          obtain rfl := Gap.skip.inj h
          obtain ⟨o, ho⟩ : ∃ o : Nat, Lib.indexByte (c :: l) 10 = o := ⟨(Lib.indexByte (c :: l) 10).toNat, by omega⟩
          have h2 := (List.getElem?_eq_some_iff.1 (Lib.indexByte_some ho).1).1
          omega
      · split at h
        · split at h
          · cases h
          · rename_i h1
            obtain rfl := Gap.skip.inj h
            have h2 := Lib.index_room l.tail [42, 47] (by omega)
            simp only [List.length_tail, List.length_cons, List.length_nil] at h2 ⊢
            omega
        · cases h

def addGap (m : Nat) : Nat × Bool → Nat × Bool
  | (k, b) => (m + k, b)
theorem addGap_add (m n : Nat) (p : Nat × Bool) : addGap m (addGap n p) = addGap (m + n) p := by obtain ⟨k, b⟩ := p; simp [addGap, Nat.add_assoc]

def blankF : Nat → List UInt8 → Nat × Bool
  | 0, _ => (0, true)
  | n + 1, L => match gap L with
    | .stop => (0, true)
    | .bad => (0, false)
    | .skip m => addGap m (blankF n (L.drop m))
theorem blankF_eq : ∀ (n n' : Nat) (L : List UInt8), L.length < n → L.length < n' → blankF n L = blankF n' L
  | 0, _, _, h, _ => by omega
  | _ + 1, 0, _, _, h => by omega
  | n + 1, n' + 1, L, h, h' => by
    unfold blankF
    split
    · rfl
    · rfl
    · rename_i m hm
      have := gap_le hm
      rw [blankF_eq n n' (L.drop m) (by rw [List.length_drop]; omega) (by rw [List.length_drop]; omega)]
/-- how many bytes are gone over; false: behind them a comment begins that does not end -/
def blankL (L : List UInt8) : Nat × Bool := blankF (L.length + 1) L
theorem blankL_stop {L : List UInt8} (h : gap L = .stop) : blankL L = (0, true) := by unfold blankL blankF; rw [h]
theorem blankL_bad {L : List UInt8} (h : gap L = .bad) : blankL L = (0, false) := by unfold blankL blankF; rw [h]
theorem blankL_skip {L : List UInt8} {m : Nat} (h : gap L = .skip m) : blankL L = addGap m (blankL (L.drop m)) := by
  have h1 : blankL L = addGap m (blankF L.length (L.drop m)) := by unfold blankL; conv => lhs; unfold blankF; rw [h]
  have := gap_le h
  rw [h1, blankL, blankF_eq L.length ((L.drop m).length + 1) _ (by rw [List.length_drop]; omega) (by omega)]

/-- the text from a place on -/
def sfx (s : ByteArray) (k : Nat) : List UInt8 := s.data.toList.drop k
theorem sfx_length (s : ByteArray) (k : Nat) : (sfx s k).length = s.size - k := by simp [sfx]
theorem sfx_drop (s : ByteArray) (k m : Nat) : (sfx s k).drop m = sfx s (k + m) := by simp [sfx]
theorem sfx_cons (s : ByteArray) (k : Nat) (h : k < s.size) : sfx s k = s[k] :: sfx s (k + 1) := by
  rw [sfx, sfx, List.drop_eq_getElem_cons (by simpa using h)]; rfl
theorem sfx_nil (s : ByteArray) (k : Nat) (h : s.size ≤ k) : sfx s k = [] := by rw [sfx, List.drop_eq_nil_iff]; simpa using h
theorem sfx_extract (s : ByteArray) (k : Nat) : (s.extract k s.size).data.toList = sfx s k := by
  rw [ByteArray.data_extract, Array.toList_extract, List.extract_eq_take_drop, sfx, List.take_of_length_le]
  simp
theorem extract_take (s : ByteArray) (a n : Nat) : (s.extract a (a + n)).data.toList = (sfx s a).take n := by
  rw [ByteArray.data_extract, Array.toList_extract, List.extract_eq_take_drop, sfx, Nat.add_sub_cancel_left]

theorem int_cases {o : Int} (h : -1 ≤ o) : o = -1 ∨ ∃ n : Nat, o = n := by
  by_cases h0 : o < 0
  · left; omega
  · right; exact ⟨o.toNat, by omega⟩
theorem spB_no {c : UInt8} (h : spB c = false) : ¬ (9 ≤ c.toNat ∧ c.toNat ≤ 13) ∧ c.toNat ≠ 32 := by
  have := of_decide_eq_false h
  omega
theorem gap_space {s : ByteArray} {k : Nat} (hk : k < s.size) (h : spB s[k] = true) : gap (sfx s k) = .skip 1 := by rw [sfx_cons s k hk, gap, if_pos h]
theorem gap_line {s : ByteArray} {k : Nat} (hk : k < s.size) (h : spB s[k] = false) (h1 : Lib.hasPrefix (sfx s k) [47, 47] = true) :
    gap (sfx s k) = if Lib.indexByte (sfx s k) 10 < 0 then .skip (s.size - k) else .skip ((Lib.indexByte (sfx s k) 10).toNat + 1) := by
  have hl : (sfx s (k + 1)).length + 1 = s.size - k := by rw [sfx_length]; omega
  rw [← hl]
  rw [sfx_cons s k hk] at h1 ⊢
  rw [gap, if_neg (by simp [h]), if_pos h1]
theorem gap_star {s : ByteArray} {k : Nat} (hk : k < s.size) (h : spB s[k] = false) (h1 : Lib.hasPrefix (sfx s k) [47, 47] = false) (h2 : Lib.hasPrefix (sfx s k) [47, 42] = true) :
    gap (sfx s k) = if Lib.index (sfx s (k + 2)) [42, 47] < 0 then .bad else .skip ((Lib.index (sfx s (k + 2)) [42, 47]).toNat + 4) := by
  rw [show sfx s (k + 2) = (sfx s (k + 1)).tail by rw [← List.drop_one, sfx_drop]]
  rw [sfx_cons s k hk] at h1 h2 ⊢
  rw [gap, if_neg (by simp [h]), if_neg (by simp [h1]), if_pos h2]
theorem gap_none {s : ByteArray} {k : Nat} (hk : k < s.size) (h : spB s[k] = false) (h1 : Lib.hasPrefix (sfx s k) [47, 47] = false) (h2 : Lib.hasPrefix (sfx s k) [47, 42] = false) : gap (sfx s k) = .stop := by
  rw [sfx_cons s k hk] at h1 h2 ⊢
  rw [gap, if_neg (by simp [h]), if_neg (by simp [h1]), if_neg (by simp [h2])]
theorem gap_end {s : ByteArray} {k : Nat} (hk : s.size ≤ k) : gap (sfx s k) = .stop := by rw [sfx_nil s k hk]; rfl
theorem prefix_two {s : ByteArray} {k : Nat} {a c : UInt8} (h : Lib.hasPrefix (sfx s k) [a, c] = true) : k + 2 ≤ s.size := by
  have := Lib.hasPrefix_le h
  rw [sfx_length] at this
  simp at this; omega
theorem indexByte_at : ∀ {l : List UInt8} {c : UInt8} {n : Nat}, l[n]? = some c → (∀ k, k < n → l[k]? ≠ some c) → Lib.indexByte l c = n
  | [], _, _, h, _ => by simp at h
  | x :: l, c, 0, h, _ => by
    simp at h
    simp [Lib.indexByte, h]
  | x :: l, c, n + 1, h, hn => by
    have h0 := hn 0 (by omega)
    simp at h0 h
    have ih := indexByte_at (l := l) (c := c) (n := n) h (fun k hk => by have := hn (k + 1) (by omega); simpa using this)
    unfold Lib.indexByte
    rw [ih]
    have e1 : ((n : Int) == -1) = false := by rw [beq_eq_false_iff_ne]; omega
    simp [h0, e1]
theorem indexByte_no {l : List UInt8} {c : UInt8} (h : ∀ k : Nat, l[k]? ≠ some c) : Lib.indexByte l c = -1 := by
  rcases int_cases (Lib.indexByte_ge l c) with e | ⟨n, e⟩
  · exact e
  · exact absurd (Lib.indexByte_some e).1 (h n)
/-- where blank ends that begins at a place -/
def blankAt (s : ByteArray) (k : Nat) : Nat × Bool := addGap k (blankL (sfx s k))
theorem blankAt_stop {s : ByteArray} {k : Nat} (h : gap (sfx s k) = .stop) : blankAt s k = (k, true) := by rw [blankAt, blankL_stop h]; rfl
theorem blankAt_bad {s : ByteArray} {k : Nat} (h : gap (sfx s k) = .bad) : blankAt s k = (k, false) := by rw [blankAt, blankL_bad h]; rfl
theorem blankAt_skip {s : ByteArray} {k m : Nat} (h : gap (sfx s k) = .skip m) : blankAt s k = blankAt s (k + m) := by
  rw [blankAt, blankL_skip h, addGap_add, sfx_drop]; rfl
theorem blankF_ends : ∀ (n : Nat) (L : List UInt8), L.length < n → (blankF n L).1 ≤ L.length ∧ ((blankF n L).2 = true → gap (L.drop (blankF n L).1) = .stop) ∧ ((blankF n L).2 = false → gap (L.drop (blankF n L).1) = .bad)
  | 0, _, h => by omega
  | n + 1, L, h => by
    unfold blankF
    split
    · rename_i hg; exact ⟨by simp, fun _ => by simpa using hg, fun e => by cases e⟩
    · rename_i hg; exact ⟨by simp, fun e => (by cases e), fun _ => by simpa using hg⟩
    · rename_i m hm
      have hb := gap_le hm
      obtain ⟨h1, h2, h3⟩ := blankF_ends n (L.drop m) (by rw [List.length_drop]; omega)
      rcases hx : blankF n (L.drop m) with ⟨k, b⟩
      rw [hx] at h1 h2 h3
      rw [List.length_drop] at h1
      rw [List.drop_drop] at h2 h3
      exact ⟨by show m + k ≤ _; simp at h1; omega, h2, h3⟩
theorem blankL_ends (L : List UInt8) : (blankL L).1 ≤ L.length ∧ ((blankL L).2 = true → gap (L.drop (blankL L).1) = .stop) ∧ ((blankL L).2 = false → gap (L.drop (blankL L).1) = .bad) := blankF_ends _ L (by omega)
theorem blankAt_le {s : ByteArray} {k : Nat} (h : k ≤ s.size) : k ≤ (blankAt s k).1 ∧ (blankAt s k).1 ≤ s.size := by
  have := (blankL_ends (sfx s k)).1
  rw [sfx_length] at this
  show k ≤ k + (blankL (sfx s k)).1 ∧ k + (blankL (sfx s k)).1 ≤ _
  omega

/-- a digit to the base 16 -/
def hexN (c : UInt8) : Option Nat :=
  if 48 ≤ c.toNat ∧ c.toNat ≤ 57 then some (c.toNat - 48)
  else if 97 ≤ c.toNat ∧ c.toNat ≤ 102 then some (c.toNat - 87)
  else if 65 ≤ c.toNat ∧ c.toNat ≤ 70 then some (c.toNat - 55)
  else none
def hexI (c : UInt8) : Int := match hexN c with
  | some d => d
  | none => -1

/-- a piece of what stands in quotes: its byte, and how long it is -/
def pieceL : List UInt8 → Option (UInt8 × Nat)
  | [] => none
  | c :: l =>
    if c.toNat < 32 ∨ 126 < c.toNat then none
    else if c.toNat ≠ 92 then some (c, 1)
    else match l with
      | [] => none
      | d :: r =>
        if d.toNat = 110 then some (10, 2)
        else if d.toNat = 116 then some (9, 2)
        else if d.toNat = 114 then some (13, 2)
        else if d.toNat = 48 then (match r with
          | [] => some (0, 2)
          | x :: _ => if digB x = true then none else some (0, 2))
        else if d.toNat = 92 ∨ d.toNat = 39 ∨ d.toNat = 34 then some (d, 2)
        else if d.toNat = 120 then (match r with
          | x :: y :: _ => (match hexN x, hexN y with
            | some a, some b => some (UInt8.ofNat (16 * a + b), 4)
            | _, _ => none)
          | _ => none)
        else none
theorem pieceL_le {L : List UInt8} {b : UInt8} {m : Nat} (h : pieceL L = some (b, m)) : 0 < m ∧ m ≤ L.length := by
  unfold pieceL at h
  repeat' split at h
  all_goals first
    | (cases h; done)
    | (simp only [Option.some.injEq, Prod.mk.injEq] at h; obtain ⟨_, rfl⟩ := h; simp)

/-- what stands in quotes, or what is wrong with it -/
inductive QEnd where
  | good (l : List UInt8) (n : Nat)
  | bad (e : Int)
def consQ (b : UInt8) (m : Nat) : QEnd → QEnd
  | .good l n => .good (b :: l) (m + n)
  | .bad e => .bad e
def quotedF (q : UInt8) : Nat → List UInt8 → QEnd
  | 0, _ => .bad 71
  | _ + 1, [] => .bad 71
  | n + 1, c :: l =>
    if c = q then .good [] 1
    else if c.toNat = 10 then .bad 71
    else match pieceL (c :: l) with
      | none => .bad 72
      | some (b, m) => consQ b m (quotedF q n ((c :: l).drop m))
theorem quotedF_eq (q : UInt8) : ∀ (n n' : Nat) (L : List UInt8), L.length < n → L.length < n' → quotedF q n L = quotedF q n' L
  | 0, _, _, h, _ => by omega
  | _ + 1, 0, _, _, h => by omega
  | n + 1, n' + 1, [], _, _ => rfl
  | n + 1, n' + 1, c :: l, h, h' => by
    unfold quotedF
    split
    · rfl
    · split
      · rfl
      · split
        · rfl
        · rename_i b m hm
          have := pieceL_le hm
          rw [quotedF_eq q n n' ((c :: l).drop m) (by rw [List.length_drop]; omega) (by rw [List.length_drop]; omega)]
/-- of what follows the quote that begins -/
def quotedL (q : UInt8) (L : List UInt8) : QEnd := quotedF q (L.length + 1) L
theorem quotedL_nil (q : UInt8) : quotedL q [] = .bad 71 := rfl
theorem quotedL_cons (q c : UInt8) (l : List UInt8) : quotedL q (c :: l) = (if c = q then .good [] 1
    else if c.toNat = 10 then .bad 71
    else match pieceL (c :: l) with
      | none => .bad 72
      | some (b, m) => consQ b m (quotedL q ((c :: l).drop m))) := by
  unfold quotedL
  conv => lhs; unfold quotedF
  split
  · rfl
  · split
    · rfl
    · split
      · rfl
      · rename_i b m hm
        have := pieceL_le hm
        simp only [List.length_cons] at this
        rw [quotedF_eq q (c :: l).length _ ((c :: l).drop m) (by rw [List.length_drop, List.length_cons]; omega) (Nat.lt_succ_self _)]

/-- a number's digits, to a base -/
def valL (base : Nat) : Nat → List UInt8 → Option Nat
  | acc, [] => some acc
  | acc, c :: l => match hexN c with
    | some d => if d < base then valL base (acc * base + d) l else none
    | none => none
def uEnd (L : List UInt8) : Bool := decide (1 < L.length) && L.getLast?.any fun c => decide (c.toNat = 117 ∨ c.toNat = 85)
def bodyN (L : List UInt8) : Option Nat :=
  match L with
  | a :: b :: c :: r => if a.toNat = 48 then (if b.toNat = 120 ∨ b.toNat = 88 then valL 16 0 (c :: r) else none) else valL 10 0 L
  | [a, _] => if a.toNat = 48 then none else valL 10 0 L
  | [_] => valL 10 0 L
  | [] => none
def numW (L : List UInt8) : Option (Nat × Bool) :=
  match bodyN (if uEnd L = true then L.dropLast else L) with
  | none => none
  | some n => if n < 4294967296 then some (n, uEnd L || decide (2147483648 ≤ n)) else none

/-- a token (its place is left at 0), or what is wrong -/
inductive OEnd where
  | good (t : Tok) (n : Nat)
  | bad (e : Int)
def strOf (l : List UInt8) : ByteArray := ⟨l.toArray⟩
def sgn (b : UInt8) : Int := if b.toNat < 128 then b.toNat else (b.toNat : Int) - 256
def wordE (L : List UInt8) : OEnd :=
  if isKeyB (strOf (L.take (wlen L))) = true then .good ⟨2, 0, 0, strOf (L.take (wlen L))⟩ (wlen L)
  else if 31 < wlen L then .bad 3
  else .good ⟨1, 0, 0, strOf (L.take (wlen L))⟩ (wlen L)
def numE (L : List UInt8) : OEnd :=
  match numW (L.take (wlen L)) with
  | none => .bad 73
  | some (n, u) => .good ⟨3, 0, n, if u = true then uText else ⟨#[]⟩⟩ (wlen L)
def charE : QEnd → OEnd
  | .bad e => .bad e
  | .good [b] n => .good ⟨3, 0, sgn b, ⟨#[]⟩⟩ (n + 1)
  | .good _ _ => .bad 72
def strE : QEnd → OEnd
  | .bad e => .bad e
  | .good l n => .good ⟨4, 0, 0, strOf l⟩ (n + 1)
def markE (L : List UInt8) : OEnd :=
  match markT.find? fun m => m.data.toList.isPrefixOf L with
  | none => .bad 70
  | some m => .good ⟨5, 0, 0, m⟩ m.size
def oneL : List UInt8 → OEnd
  | [] => .bad 70
  | c :: l =>
    if letB c = true then wordE (c :: l)
    else if digB c = true then numE (c :: l)
    else if c.toNat = 39 then charE (quotedL 39 l)
    else if c.toNat = 34 then strE (quotedL 34 l)
    else markE (c :: l)

/-- a text's tokens, or what is wrong, and where -/
inductive TEnd where
  | good (L : List Tok)
  | bad (k : Nat) (e : Int)
inductive TStep where
  | done (e : TEnd)
  | more (n : Nat) (out : List Tok)
def isStr (t : Tok) : Bool := decide (t.kind = 4)
def joins (M : List UInt8) (out : List Tok) : Bool := M.head?.any (fun c => decide (c.toNat = 34)) && out.getLast?.any isStr
def glue (out : List Tok) (x : ByteArray) : List Tok := match out.getLast? with
  | none => []
  | some t => out.dropLast ++ [{ t with text := t.text ++ x }]
def putTok (M : List UInt8) (p : Nat) (out : List Tok) (t : Tok) : List Tok := if joins M out = true then glue out t.text else out ++ [{ t with place := p }]
def endStep (n : Nat) (out : List Tok) : TStep := match out.getLast? with
  | none => .more n out
  | some t => if 4096 < t.text.size then .done (.bad t.place.toNat 3) else .more n out
def tokStep (k : Nat) (L : List UInt8) (out : List Tok) : TStep :=
  match blankL L with
  | (b, false) => .done (.bad (k + b) 71)
  | (b, true) =>
    if L.drop b = [] then .done (.good out)
    else if joins (L.drop b) out = false ∧ 16384 ≤ out.length then .done (.bad (k + b) 3)
    else match oneL (L.drop b) with
      | .bad e => .done (.bad (k + b) e)
      | .good t n => endStep (b + n) (putTok (L.drop b) (k + b) out t)
def tokF : Nat → Nat → List UInt8 → List Tok → TEnd
  | 0, _, _, out => .good out
  | f + 1, k, L, out => match tokStep k L out with
    | .done e => e
    | .more n out' => tokF f (k + n) (L.drop n) out'
def tokE (s : ByteArray) : TEnd := if 65536 < s.size then .bad 0 3 else tokF (s.size + 1) 0 s.data.toList []

end Go.Proofs.YtkokdafkjjcgoaaGreatDoor
namespace Go.Proofs.YtkokdafkjjcgoaaGreatDoor
open Go.RowKit

/-- the cell in which the library keeps how long its own search may be -/
def MaxLenAt (w : World) : Prop := ∃ m : Int, w.cell? ⟨2, 0, none⟩ = some (.int .i64 m)
theorem MaxLenAt.below {w w' : World} (h : MaxLenAt w) (hb : Below w.heap.size w w') : MaxLenAt w' := by
  obtain ⟨m, hm⟩ := h
  exact ⟨m, by rw [hb.cell (World.block_lt_of_cell? w _ hm)]; exact hm⟩
theorem MaxLenAt.drewN {w : World} (h : MaxLenAt w) (n : Nat) : MaxLenAt (w.drewN n) := h
theorem MaxLenAt.drew {w : World} (h : MaxLenAt w) : MaxLenAt w.drew := h
theorem MaxLenAt.grown {w w' : World} {b : Nat} (h : MaxLenAt w) (hg : w.grownBy w' (some b)) (hb : 2 < b) : MaxLenAt w' := by
  obtain ⟨m, hm⟩ := h
  refine ⟨m, ?_⟩
  have hlt := World.block_lt_of_cell? w _ hm
  unfold World.cell? at hm ⊢
  rw [hg.block _ hlt (by simp; omega)]; exact hm
end Go.Proofs.YtkokdafkjjcgoaaGreatDoor
namespace Go.Proofs.YtkokdafkjjcgoaaGreatDoor
open Go.RowKit

set_option maxHeartbeats 1000000 in
theorem begins_okL (b k : Nat) (cs : Array Value) (T : TypeId) (s p : ByteArray) (w : World) (h : TextAt w b cs T s k) (hk : k ≤ s.size) :
    Calls Tryz.prog 187 #[.pointer (some ⟨b, 0, none⟩), .string p] w fun e w' => e = .returned (.bool (Lib.hasPrefix (sfx s k) p.data.toList)) ∧ ∃ n, w' = w.drewN n := by
  have c0 := h.c0
  have c1 := h.c1
  clear h
  rw [← sfx_extract]
  go_enter Tryz.func187, Tryz.ntmps187
  go_wp2_with fail
  go_quiet ((go_at_call 219; exact Calls.quiet_of_same (Tryz.strings_HasPrefix _ _ _)))
  go_wp2
  go_ret
  exact ⟨rfl, _, rfl⟩
theorem begins_is (r : Bool) (b k : Nat) (cs : Array Value) (T : TypeId) (s p : ByteArray) (w : World) (h : TextAt w b cs T s k) (hk : k ≤ s.size) (hr : Lib.hasPrefix (sfx s k) p.data.toList = r) :
    Calls Tryz.prog 187 #[.pointer (some ⟨b, 0, none⟩), .string p] w fun e w' => e = .returned (.bool r) ∧ ∃ n, w' = w.drewN n :=
  (begins_okL b k cs T s p w h hk).mono fun _ _ ⟨he, hw⟩ => ⟨by rw [he, hr], hw⟩

theorem index_at (s sub : ByteArray) (w : World) (hs : s.size < 4294967281) (h : MaxLenAt w) :
    Calls Tryz.prog 189 #[.string s, .string sub] w fun e w' => e = .returned (.int .i64 (Lib.index s.data.toList sub.data.toList)) ∧ w' = w := by
  obtain ⟨m, hm⟩ := h
  exact Tryz.strings_Index s sub m w hs hm

/-- what the program's reader tells of blank -/
def Blanked (w : World) (b : Nat) (cs : Array Value) (T : TypeId) (s : ByteArray) (r : Nat × Bool) (e : Ending) (w' : World) : Prop :=
  (if r.2 = true then e = .returned (.tuple #[.int .i64 0, .bool true]) ∧ TextAt w' b cs T s r.1 else e = .returned (.tuple #[.int .i64 r.1, .bool false])) ∧ w.grownBy w' (some b)
theorem blanked_yes {w w' : World} {b : Nat} {cs : Array Value} {T : TypeId} {s : ByteArray} {r : Nat × Bool} {k : Nat} (hr : r = (k, true)) (h : TextAt w' b cs T s k) (hg : w.grownBy w' (some b)) :
    Blanked w b cs T s r (.returned (.tuple #[.int .i64 0, .bool true])) w' := by subst hr; exact ⟨by simp [h], hg⟩
theorem blanked_no {w w' : World} {b : Nat} {cs : Array Value} {T : TypeId} {s : ByteArray} {r : Nat × Bool} {k : Nat} (hr : r = (k, false)) (hg : w.grownBy w' (some b)) :
    Blanked w b cs T s r (.returned (.tuple #[.int .i64 k, .bool false])) w' := by subst hr; exact ⟨by simp, hg⟩

theorem indexByte_is (o : Int) (s : ByteArray) (k : Nat) (w : World) (ho : Lib.indexByte (sfx s k) 10 = o) :
    Calls Tryz.prog 188 #[.string (s.extract k s.size), .int .u8 10] w fun e w' => e = .returned (.int .i64 o) ∧ w' = w :=
  (Tryz.strings_IndexByte _ 10 w).mono fun _ _ ⟨he, hw⟩ => ⟨by rw [he, sfx_extract, ← ho]; rfl, hw⟩
theorem index_is (o : Int) (s : ByteArray) (k : Nat) (w : World) (hs : s.size ≤ 1048576) (hm : MaxLenAt w) (ho : Lib.index (sfx s k) [42, 47] = o) :
    Calls Tryz.prog 189 #[.string (s.extract k s.size), .string ⟨#[42, 47]⟩] w fun e w' => e = .returned (.int .i64 o) ∧ w' = w :=
  (index_at _ _ w (by rw [ByteArray.size_extract]; omega) hm).mono fun _ _ ⟨he, hw⟩ => ⟨by rw [he, sfx_extract, ← ho], hw⟩
theorem quiet_sum {P : Program} {f : FuncId} {args : Array Value} {w : World} {m a : Nat} {v : Value} (h : Calls P f args (w.drewN (m + a)) fun e w' => e = .returned v ∧ w' = w.drewN (m + a)) :
    Calls P f args (w.drewN (m + a)) fun e w' => e = .returned v ∧ ∃ n, w' = w.drewN (m + n) := h.mono fun _ _ ⟨he, hw⟩ => ⟨he, a, hw⟩
theorem quiet_sum2 {P : Program} {f : FuncId} {args : Array Value} {w : World} {m a : Nat} {v : Value} (h : Calls P f args (w.drewN (m + a)) fun e w' => e = .returned v ∧ ∃ n, w' = (w.drewN (m + a)).drewN n) :
    Calls P f args (w.drewN (m + a)) fun e w' => e = .returned v ∧ ∃ n, w' = w.drewN (m + n) := h.mono fun _ _ ⟨he, n, hw⟩ => ⟨he, a + n, by rw [hw, World.drewN_drewN, Nat.add_assoc]⟩
set_option maxHeartbeats 4000000 in
set_option maxRecDepth 100000 in
theorem blank_ok (b k : Nat) (cs : Array Value) (T : TypeId) (s : ByteArray) (w : World) (h : TextAt w b cs T s k) (hk : k ≤ s.size) (hs : s.size ≤ 1048576) (hm : MaxLenAt w) (hg : 2 < b) :
    Calls Tryz.prog 152 #[.pointer (some ⟨b, 0, none⟩)] w (Blanked w b cs T s (blankAt s k)) := by
  have H := Lib.hid h
  have HM := Lib.hid hm
  clear h hm
  obtain ⟨r, er⟩ : ∃ r, r = blankAt s k := ⟨_, rfl⟩
  rw [← er]
  have ER := Lib.hid er
  clear er
  go_enter Tryz.func152, Tryz.ntmps152
  go_wp2
  go_step3
  go_wp2
  go_step3
  go_wp2
  go_loopw [10] (fun _ wr => ∃ j : Nat, j ≤ s.size ∧ Hid (r = blankAt s j) ∧ TextAt wr b cs T s j ∧ w.grownBy wr (some b)) (fun _ wr => s.size - (intOf ((wr.cell? ⟨b, 1, none⟩).getD undef)).toNat)
  case atStart => exact ⟨k, hk, ER, H.out, grown_refl _ _⟩
  case round =>
    obtain ⟨j, hj, hr, hT, hgr⟩ := hrel
    have c0 := hT.c0
    have c1 := hT.c1
    have f1 := hT.f1 1
    have HT := Lib.hid hT
    have HG := Lib.hid hgr
    have C1 := Lib.hid c1
    clear hT hgr
    by_cases hlt : j < s.size
    · have hM := Lib.hid (show decide (j < s.size) = true by simpa using hlt)
      rcases hS : spB s[j] with _ | _
      · have hS1 := Lib.hid (spB_no hS)
        rcases hP : Lib.hasPrefix (sfx s j) [47, 47] with _ | _
        · rcases hQ : Lib.hasPrefix (sfx s j) [47, 42] with _ | _
          · have hfin := Lib.hid (hr.out.trans (blankAt_stop (gap_none hlt hS hP hQ)))
            have HP := Lib.hid hP
            have HQ := Lib.hid hQ
            clear hP hQ hS
            go_wp2_with (go_at_call 153; refine (more_is true _ _ _ _ _ _ HT.out hM.out).mono ?_; rintro e w1 ⟨rfl, n, rfl⟩)
            go_quiet (fail)
            go_wp2_with (go_at_call 187; first
              | (refine (begins_is false _ _ _ _ _ _ _ HT.out.drew hj HP.out).mono ?_; rintro e w1 ⟨rfl, n1, rfl⟩)
              | (refine (begins_is false _ _ _ _ _ _ _ HT.out.drew hj HQ.out).mono ?_; rintro e w1 ⟨rfl, n2, rfl⟩))
            all_goals first
              | (exfalso; have := hS1.out; simp at *; omega)
              | (try rw [Exit.noGoto_ret]
                 go_ret2
                 exact blanked_yes hfin.out HT.out.drew (grown_drewN HG.out _))
          · have h2s := prefix_two hQ
            have HMr := Lib.hid (HM.out.grown HG.out hg)
            rcases int_cases (Lib.index_ge (sfx s (j + 2)) [42, 47]) with ho | ⟨o, ho⟩
            · have hfin := Lib.hid (hr.out.trans (blankAt_bad (by rw [gap_star hlt hS hP hQ, ho]; rfl)))
              have HO := Lib.hid ho
              have HP := Lib.hid hP
              have HQ := Lib.hid hQ
              clear hP hQ hS ho
              go_wp2_with (go_at_call 153; refine (more_is true _ _ _ _ _ _ HT.out hM.out).mono ?_; rintro e w1 ⟨rfl, n, rfl⟩)
              go_quiet (fail)
              go_wp2_with (go_at_call 187; first
                | (refine (begins_is false _ _ _ _ _ _ _ HT.out.drew hj HP.out).mono ?_; rintro e w1 ⟨rfl, n1, rfl⟩)
                | (refine (begins_is true _ _ _ _ _ _ _ HT.out.drew hj HQ.out).mono ?_; rintro e w1 ⟨rfl, n2, rfl⟩))
              all_goals first
                | (exfalso; have := hS1.out; simp at *; omega)
                | (go_quiet ((go_at_call 189; exact quiet_sum (index_is _ _ _ _ hs (HMr.out.drewN _) HO.out)))
                   go_wp2
                   try rw [Exit.noGoto_ret]
                   go_ret2
                   exact blanked_no hfin.out (grown_drewN HG.out _))
            · have hgap : gap (sfx s j) = .skip (o + 4) := by rw [gap_star hlt hS hP hQ, ho, if_neg (by omega)]; rfl
              have hle := (gap_le hgap).2
              rw [sfx_length] at hle
              have hfin := Lib.hid (hr.out.trans (blankAt_skip hgap))
              have HO := Lib.hid ho
              have HP := Lib.hid hP
              have HQ := Lib.hid hQ
              clear hP hQ hS ho hgap
              go_wp2_with (go_at_call 153; refine (more_is true _ _ _ _ _ _ HT.out hM.out).mono ?_; rintro e w1 ⟨rfl, n, rfl⟩)
              go_quiet (fail)
              go_wp2_with (go_at_call 187; first
                | (refine (begins_is false _ _ _ _ _ _ _ HT.out.drew hj HP.out).mono ?_; rintro e w1 ⟨rfl, n1, rfl⟩)
                | (refine (begins_is true _ _ _ _ _ _ _ HT.out.drew hj HQ.out).mono ?_; rintro e w1 ⟨rfl, n2, rfl⟩))
              all_goals first
                | (exfalso; have := hS1.out; simp at *; omega)
                | (go_quiet ((go_at_call 189; exact quiet_sum (index_is _ _ _ _ hs (HMr.out.drewN _) HO.out)))
                   go_wp2
                   go_roundw
                   case rel => exact ⟨j + (o + 4), by omega, hfin.out, HT.out.drew.next (j + (o + 4)), grown_set (grown_drewN HG.out _) _ rfl _⟩
                   case measure =>
                     have e1 := fun m => (HT.out.drew (n := m)).next (j + (o + 4)) |>.c1
                     rw [show ((j + (o + 4) : Nat) : Int) = (j : Int) + ((o : Int) + 4) from by omega] at e1
                     rw [C1.out, e1]
                     simp [intOf]; omega)
        · have h2s := prefix_two hP
          rcases int_cases (Lib.indexByte_ge (sfx s j) 10) with ho | ⟨o, ho⟩
          · have hgap : gap (sfx s j) = .skip (s.size - j) := by rw [gap_line hlt hS hP, ho]; rfl
            have hfin := Lib.hid (hr.out.trans ((blankAt_skip hgap).trans (blankAt_stop (gap_end (s := s) (k := j + (s.size - j)) (by omega)))))
            rw [show j + (s.size - j) = s.size by omega] at hfin
            have HO := Lib.hid ho
            have HP := Lib.hid hP
            clear hP hS ho hgap
            go_wp2_with (go_at_call 153; refine (more_is true _ _ _ _ _ _ HT.out hM.out).mono ?_; rintro e w1 ⟨rfl, n, rfl⟩)
            go_quiet (fail)
            go_wp2_with (go_at_call 187; refine (begins_is true _ _ _ _ _ _ _ HT.out.drew hj HP.out).mono ?_; rintro e w1 ⟨rfl, n1, rfl⟩)
            all_goals first
              | (exfalso; have := hS1.out; simp at *; omega)
              | (go_quiet ((go_at_call 188; exact quiet_sum (indexByte_is _ _ _ _ HO.out)))
                 go_wp2
                 try rw [Exit.noGoto_ret]
                 go_ret2
                 exact blanked_yes hfin.out (HT.out.drew.next s.size) (grown_set (grown_drewN HG.out _) _ rfl _))
          · have hgap : gap (sfx s j) = .skip (o + 1) := by rw [gap_line hlt hS hP, ho, if_neg (by omega)]; rfl
            have hle := (gap_le hgap).2
            rw [sfx_length] at hle
            have hfin := Lib.hid (hr.out.trans (blankAt_skip hgap))
            have HO := Lib.hid ho
            have HP := Lib.hid hP
            clear hP hS ho hgap
            go_wp2_with (go_at_call 153; refine (more_is true _ _ _ _ _ _ HT.out hM.out).mono ?_; rintro e w1 ⟨rfl, n, rfl⟩)
            go_quiet (fail)
            go_wp2_with (go_at_call 187; refine (begins_is true _ _ _ _ _ _ _ HT.out.drew hj HP.out).mono ?_; rintro e w1 ⟨rfl, n1, rfl⟩)
            all_goals first
              | (exfalso; have := hS1.out; simp at *; omega)
              | (go_quiet ((go_at_call 188; exact quiet_sum (indexByte_is _ _ _ _ HO.out)))
                 go_wp2
                 go_roundw
                 case rel => exact ⟨j + (o + 1), by omega, hfin.out, HT.out.drew.next (j + (o + 1)), grown_set (grown_drewN HG.out _) _ rfl _⟩
                 case measure =>
                   have e1 := fun m => (HT.out.drew (n := m)).next (j + (o + 1)) |>.c1
                   rw [show ((j + (o + 1) : Nat) : Int) = (j : Int) + ((o : Int) + 1) from by omega] at e1
                   rw [C1.out, e1]
                   simp [intOf]; omega)
      · have hS' := Lib.hid (of_decide_eq_true hS)
        have hfin := Lib.hid (hr.out.trans (blankAt_skip (gap_space hlt hS)))
        clear hS
        go_wp2_with (go_at_call 153; refine (more_is true _ _ _ _ _ _ HT.out hM.out).mono ?_; rintro e w1 ⟨rfl, n, rfl⟩)
        go_quiet (fail)
        go_wp2_with fail
        all_goals first
          | (exfalso; have := hS'.out; simp at *; omega)
          | (go_roundw
             case rel => exact ⟨j + 1, by omega, hfin.out, HT.out.drew.next (j + 1), grown_set (grown_drewN HG.out _) _ rfl _⟩
             case measure =>
               have e1 := fun m => (HT.out.drew (n := m)).next (j + 1) |>.c1
               rw [show ((j + 1 : Nat) : Int) = (j : Int) + 1 from by omega] at e1
               rw [C1.out, e1]
               simp [intOf]; omega)
    · have hM := Lib.hid (show decide (j < s.size) = false by simpa using hlt)
      have hfin := Lib.hid (hr.out.trans (blankAt_stop (gap_end (s := s) (k := j) (by omega))))
      go_wp2_with (go_at_call 153; refine (more_is false _ _ _ _ _ _ HT.out hM.out).mono ?_; rintro e w1 ⟨rfl, n, rfl⟩)
      try rw [Exit.noGoto_ret]
      go_ret2
      exact blanked_yes hfin.out HT.out.drew (grown_drewN HG.out _)

end Go.Proofs.YtkokdafkjjcgoaaGreatDoor
namespace Go.Proofs.YtkokdafkjjcgoaaGreatDoor
open Go.RowKit

theorem hexI_digit {c : UInt8} (h : digB c = true) : hexI c = (c.toNat : Int) - 48 := by
  have := of_decide_eq_true h
  simp [hexI, hexN, this.1, this.2]; omega
theorem hexI_low {c : UInt8} (h1 : 97 ≤ c.toNat) (h2 : c.toNat ≤ 102) : hexI c = (c.toNat : Int) - 87 := by
  simp [hexI, hexN, show ¬ c.toNat ≤ 57 by omega, h1, h2]; omega
theorem hexI_up {c : UInt8} (h1 : 65 ≤ c.toNat) (h2 : c.toNat ≤ 70) : hexI c = (c.toNat : Int) - 55 := by
  simp [hexI, hexN, show ¬ c.toNat ≤ 57 by omega, show ¬ 97 ≤ c.toNat by omega, h1, h2]; omega
theorem hexI_none {c : UInt8} (h : digB c = false) (h1 : ¬ (97 ≤ c.toNat ∧ c.toNat ≤ 102)) (h2 : ¬ (65 ≤ c.toNat ∧ c.toNat ≤ 70)) : hexI c = -1 := by
  have := of_decide_eq_false h
  unfold hexI hexN
  rw [if_neg this, if_neg h1, if_neg h2]
theorem hex_mk {c : UInt8} {a : Int} {w : World} (h : hexI c = a) : Ending.returned (.int .i64 a) = .returned (.int .i64 (hexI c)) ∧ w = w := ⟨by rw [h], rfl⟩

set_option maxHeartbeats 1000000 in
theorem lexHex_ok (c : UInt8) (w : World) : Calls Tryz.prog 247 #[.int .u8 (c.toNat : Int)] w fun e w' => e = .returned (.int .i64 (hexI c)) ∧ w' = w := by
  rcases hD : digB c with _ | _
  · by_cases h1 : 97 ≤ c.toNat ∧ c.toNat ≤ 102
    · have hfin := Lib.hid (hexI_low h1.1 h1.2)
      have t1 : (97 : Int) ≤ c.toNat := by omega
      have t2 : (c.toNat : Int) ≤ 102 := by omega
      have HD := Lib.hid hD
      clear hD h1
      go_enter Tryz.func247, Tryz.ntmps247
      go_wp2_with (go_at_call 190; refine (lexDigit_is false _ _ HD.out).mono ?_; rintro e w' ⟨rfl, rfl⟩)
      go_ret
      exact hex_mk (by rw [hfin.out]; omega)
    · by_cases h2 : 65 ≤ c.toNat ∧ c.toNat ≤ 70
      · have hfin := Lib.hid (hexI_up h2.1 h2.2)
        have t1 : (c.toNat : Int) < 97 := by omega
        have t2 : (65 : Int) ≤ c.toNat := by omega
        have t3 : (c.toNat : Int) ≤ 70 := by omega
        have HD := Lib.hid hD
        clear hD h1 h2
        go_enter Tryz.func247, Tryz.ntmps247
        go_wp2_with (go_at_call 190; refine (lexDigit_is false _ _ HD.out).mono ?_; rintro e w' ⟨rfl, rfl⟩)
        go_ret
        exact hex_mk (by rw [hfin.out]; omega)
      · have hfin := Lib.hid (hexI_none hD h1 h2)
        have HH := Lib.hid (And.intro h1 h2)
        have HD := Lib.hid hD
        clear hD h1 h2
        go_enter Tryz.func247, Tryz.ntmps247
        go_wp2_with (go_at_call 190; refine (lexDigit_is false _ _ HD.out).mono ?_; rintro e w' ⟨rfl, rfl⟩)
        all_goals first
          | (exfalso; have := HH.out; omega)
          | (go_ret
             exact hex_mk hfin.out)
  · have hfin := Lib.hid (hexI_digit hD)
    have t1 : (48 : Int) ≤ c.toNat := by have := (of_decide_eq_true hD).1; omega
    have t2 : (c.toNat : Int) ≤ 57 := by have := (of_decide_eq_true hD).2; omega
    have HD := Lib.hid hD
    clear hD
    go_enter Tryz.func247, Tryz.ntmps247
    go_wp2_with (go_at_call 190; refine (lexDigit_is true _ _ HD.out).mono ?_; rintro e w' ⟨rfl, rfl⟩)
    go_ret
    exact hex_mk (by rw [hfin.out])

end Go.Proofs.YtkokdafkjjcgoaaGreatDoor
