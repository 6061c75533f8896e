/- A token that is laid is read again: plainly, no program here. -/
import Derived.Test.YtncojfcdkigmiaaDoorRuns
namespace Go.Proofs.YtncojfcdkigmiaaDoor
open Go.RowKit

/-- what may stand behind a token that is laid: nothing, or a blank first -/
def Rest (R : List UInt8) : Prop := R = [] ∨ ∃ r, R = 32 :: r
theorem rest_word {R : List UInt8} (h : Rest R) : wlen R = 0 := by
  rcases h with rfl | ⟨r, rfl⟩
  · rfl
  · rw [wlen, if_neg (by decide)]
theorem wlen_app : ∀ (l R : List UInt8), wlen l = l.length → Rest R → wlen (l ++ R) = l.length
  | [], R, _, h => by rw [List.nil_append, rest_word h]; rfl
  | c :: l, R, hl, h => by
    by_cases hc : wordB c = true
    · rw [wlen, if_pos hc] at hl
      rw [List.cons_append, wlen, if_pos hc, wlen_app l R (by simpa using hl) h]; rfl
    · rw [wlen, if_neg hc] at hl; simp at hl
theorem take_app (l R : List UInt8) : (l ++ R).take l.length = l := by simp
theorem strOf_eq (x : ByteArray) : strOf x.data.toList = x := toList_eq rfl

theorem isName_parts {x : ByteArray} (h : isNameB x = true) : 0 < x.size ∧ x.size ≤ 31 ∧ (∃ c l, x.data.toList = c :: l ∧ letB c = true) ∧ wlen x.data.toList = x.data.toList.length ∧ isKeyB x = false := by
  unfold isNameB at h
  simp only [Bool.and_eq_true, decide_eq_true_eq, Bool.not_eq_true'] at h
  obtain ⟨h1, h2, h3, h4, h5⟩ := h
  refine ⟨h1, h2, ?_, by rw [h4, Array.length_toList]; rfl, h5⟩
  rcases hx : x.data.toList with _ | ⟨c, l⟩
  · rw [hx] at h3; simp at h3
  · rw [hx] at h3; exact ⟨c, l, rfl, by simpa using h3⟩
theorem one_name {x : ByteArray} (h : isNameB x = true) {R : List UInt8} (hR : Rest R) : oneL (x.data.toList ++ R) = .good ⟨1, 0, 0, x⟩ x.data.toList.length := by
  obtain ⟨h1, h2, ⟨c, l, hx, hc⟩, h4, h5⟩ := isName_parts h
  have hl : x.data.toList.length = x.size := by rw [Array.length_toList]; rfl
  have hw := wlen_app _ R h4 hR
  rw [hx, List.cons_append, oneL, if_pos hc, ← List.cons_append, ← hx]
  unfold wordE
  rw [hw, take_app, strOf_eq, h5, if_neg (by simp), if_neg (by omega)]
theorem keyT_word : ∀ x ∈ keyT, (x.data.toList.head?.any letB) = true ∧ wlen x.data.toList = x.data.toList.length := by decide
theorem one_key {x : ByteArray} (h : isKeyB x = true) {R : List UInt8} (hR : Rest R) : oneL (x.data.toList ++ R) = .good ⟨2, 0, 0, x⟩ x.data.toList.length := by
  obtain ⟨h1, h2⟩ := keyT_word x ((Lib.containsS_iff _ _).1 h)
  obtain ⟨c, l, hx, hc⟩ : ∃ c l, x.data.toList = c :: l ∧ letB c = true := by
    rcases hx : x.data.toList with _ | ⟨c, l⟩
    · rw [hx] at h1; simp at h1
    · rw [hx] at h1; exact ⟨c, l, rfl, by simpa using h1⟩
  have hw := wlen_app _ R h2 hR
  rw [hx, List.cons_append, oneL, if_pos hc, ← List.cons_append, ← hx]
  unfold wordE
  rw [hw, take_app, strOf_eq, h, if_pos rfl]

theorem markT_head : ∀ x ∈ markT, (x.data.toList.head?.any fun c => !letB c && !digB c && decide (c.toNat ≠ 39) && decide (c.toNat ≠ 34)) = true ∧ (32 : UInt8) ∉ x.data.toList ∧ (markT.find? fun m => m.data.toList.isPrefixOf x.data.toList) = some x := by decide
theorem prefix_rest {p l R : List UInt8} (hp : (32 : UInt8) ∉ p) (hR : Rest R) : p.isPrefixOf (l ++ R) = p.isPrefixOf l := by
  rcases hR with rfl | ⟨r, rfl⟩
  · rw [List.append_nil]
  · rw [Bool.eq_iff_iff, List.isPrefixOf_iff_prefix, List.isPrefixOf_iff_prefix]
    refine ⟨fun h => ?_, fun h => h.trans (List.prefix_append _ _)⟩
    rcases Nat.lt_or_ge l.length p.length with h1 | h1
    · exfalso
      rw [List.prefix_iff_eq_take] at h
      have h2 : p[l.length]? = some 32 := by rw [h, List.getElem?_take, if_pos h1]; simp
      exact hp (List.mem_of_getElem? h2)
    · exact List.prefix_of_prefix_length_le h (List.prefix_append _ _) h1
theorem find_rest {x : ByteArray} {R : List UInt8} (hR : Rest R) : ∀ T : List ByteArray, (∀ y ∈ T, (32 : UInt8) ∉ y.data.toList) → (T.find? fun m => m.data.toList.isPrefixOf (x.data.toList ++ R)) = T.find? fun m => m.data.toList.isPrefixOf x.data.toList
  | [], _ => rfl
  | y :: T, h => by
    rw [List.find?_cons, List.find?_cons, prefix_rest (h y (by simp)) hR, find_rest hR T (fun z hz => h z (by simp [hz]))]
theorem one_mark {x : ByteArray} (h : Lib.containsS markT x = true) {R : List UInt8} (hR : Rest R) : oneL (x.data.toList ++ R) = .good ⟨5, 0, 0, x⟩ x.data.toList.length := by
  obtain ⟨h1, _, h3⟩ := markT_head x ((Lib.containsS_iff _ _).1 h)
  rcases hx : x.data.toList with _ | ⟨c, l⟩
  · rw [hx] at h1; simp at h1
  · rw [hx] at h1
    simp only [List.head?_cons, Option.any_some, Bool.and_eq_true, Bool.not_eq_true', decide_eq_true_eq] at h1
    rw [List.cons_append, oneL, if_neg (by simp [h1]), if_neg (by simp [h1]), if_neg h1.1.2, if_neg h1.2, ← List.cons_append, ← hx]
    unfold markE
    rw [find_rest hR markT (fun y hy => (markT_head y hy).2.1), h3, hx]
    have : x.size = (c :: l).length := by rw [← hx, Array.length_toList]; rfl
    simp only [this]

theorem hexd_dig : ∀ n : Fin 16, hexN (hexd n.val) = some n.val := by decide
theorem hexd_at {n : Nat} (h : n < 16) : hexN (hexd n) = some n := hexd_dig ⟨n, h⟩
/-- a byte as it stands in quotes is one piece -/
theorem piece_spelt (c q : UInt8) (hq : q.toNat = 39 ∨ q.toNat = 34) (R : List UInt8) : pieceL (speltL c q ++ R) = some (c, (speltL c q).length) := by
  unfold speltL
  by_cases h1 : c.toNat = 10
  · rw [if_pos (by simp [h1])]
    have : c = 10 := UInt8.toNat_inj.1 h1
    subst this; simp [pieceL]
  · rw [if_neg (by simp; omega)]
    by_cases h2 : c.toNat = 9
    · rw [if_pos (by simp [h2])]
      have : c = 9 := UInt8.toNat_inj.1 h2
      subst this; simp [pieceL]
    · rw [if_neg (by simp; omega)]
      by_cases h3 : c.toNat = 13
      · rw [if_pos (by simp [h3])]
        have : c = 13 := UInt8.toNat_inj.1 h3
        subst this; simp [pieceL]
      · rw [if_neg (by simp; omega)]
        by_cases h4 : c.toNat = 92 ∨ c.toNat = q.toNat
        · rw [if_pos (by simp; omega)]
          have h5 : c.toNat = 92 ∨ c.toNat = 39 ∨ c.toNat = 34 := by omega
          rw [List.cons_append, List.cons_append, pieceL.eq_def]
          simp only [List.nil_append]
          rw [if_neg (by decide), if_neg (by decide), if_neg (by omega), if_neg (by omega), if_neg (by omega), if_neg (by omega), if_pos h5]; rfl
        · rw [if_neg (by simp; omega)]
          by_cases h6 : c.toNat < 32 ∨ 126 < c.toNat
          · rw [if_pos (by omega)]
            have hc := c.toNat_lt
            simp only [List.cons_append, List.nil_append]
            rw [pieceL.eq_def]
            simp only
            rw [if_neg (by decide), if_neg (by decide), if_neg (by decide), if_neg (by decide), if_neg (by decide), if_neg (by decide), if_neg (by decide), if_pos (by decide), hexd_at (show c.toNat / 16 < 16 by omega), hexd_at (show c.toNat % 16 < 16 by omega)]
            simp only [Option.some.injEq, Prod.mk.injEq]
            refine ⟨?_, rfl⟩
            rw [← UInt8.toNat_inj, UInt8.toNat_ofNat']
            omega
          · rw [if_neg (by omega), List.cons_append, pieceL.eq_def]
            simp only
            rw [if_neg h6, if_pos (by omega)]; rfl
theorem spelt_head (c q : UInt8) (hq : q.toNat = 39 ∨ q.toNat = 34) : ∃ d l, speltL c q = d :: l ∧ d ≠ q ∧ d.toNat ≠ 10 := by
  have hb : ∀ l, ∃ d r, (92 : UInt8) :: l = d :: r ∧ d ≠ q ∧ d.toNat ≠ 10 := fun l => ⟨92, l, rfl, by rintro rfl; simp at hq, by decide⟩
  unfold speltL
  repeat' split
  all_goals first
    | exact hb _
    | (rename_i h1 _ _ h2 h3; exact ⟨c, [], rfl, by rintro rfl; simp at h2, by simp at h1; omega⟩)
theorem quoted_mid (l : List UInt8) (R : List UInt8) : quotedL 34 (midL l ++ 34 :: R) = .good l ((midL l).length + 1) := by
  induction l with
  | nil => show quotedL 34 (34 :: R) = _; rw [quotedL_cons, if_pos rfl]; rfl
  | cons c l ih =>
    have he : midL (c :: l) = speltL c 34 ++ midL l := by simp [midL]
    obtain ⟨d, r, hd, h1, h2⟩ := spelt_head c 34 (.inr rfl)
    have hp := piece_spelt c 34 (.inr rfl) (midL l ++ 34 :: R)
    rw [he, List.append_assoc]
    rw [hd] at hp ⊢
    rw [List.cons_append] at hp ⊢
    rw [quotedL_cons, if_neg h1, if_neg h2, hp]
    simp only
    rw [← List.cons_append, List.drop_left, ih]
    simp only [consQ, List.length_append, List.length_cons, QEnd.good.injEq, true_and]; omega
theorem quoted_char (c : UInt8) (R : List UInt8) : quotedL 39 (speltL c 39 ++ 39 :: R) = .good [c] ((speltL c 39).length + 1) := by
  obtain ⟨d, r, hd, h1, h2⟩ := spelt_head c 39 (.inl rfl)
  have hp := piece_spelt c 39 (.inl rfl) (39 :: R)
  rw [hd] at hp ⊢
  rw [List.cons_append] at hp ⊢
  rw [quotedL_cons, if_neg h1, if_neg h2, hp]
  simp only
  rw [← List.cons_append, List.drop_left, quotedL_cons, if_pos rfl]; rfl
theorem one_str (x : ByteArray) (R : List UInt8) : oneL (quoteL x.data.toList ++ R) = .good ⟨4, 0, 0, x⟩ (quoteL x.data.toList).length := by
  have e : quoteL x.data.toList ++ R = 34 :: (midL x.data.toList ++ 34 :: R) := by simp [quoteL]
  rw [e, oneL, if_neg (by decide), if_neg (by decide), if_neg (by decide), if_pos (by decide), quoted_mid]
  simp only [strE, strOf_eq, quoteL, List.length_append, List.length_cons, List.length_nil]
theorem one_char (c : UInt8) (R : List UInt8) : oneL (charL c ++ R) = .good ⟨3, 0, sgn c, ⟨#[]⟩⟩ (charL c).length := by
  have e : charL c ++ R = 39 :: (speltL c 39 ++ 39 :: R) := by simp [charL]
  rw [e, oneL, if_neg (by decide), if_neg (by decide), if_pos (by decide), quoted_char]
  simp only [charE, OEnd.good.injEq, true_and, charL, List.length_append, List.length_cons, List.length_nil]
  omega

theorem dec_digit : ∀ n : Fin 10, hexN (UInt8.ofNat (48 + n.val)) = some n.val ∧ digB (UInt8.ofNat (48 + n.val)) = true ∧ letB (UInt8.ofNat (48 + n.val)) = false ∧ ((UInt8.ofNat (48 + n.val)).toNat = 48 ↔ n.val = 0) ∧ ¬ ((UInt8.ofNat (48 + n.val)).toNat = 117 ∨ (UInt8.ofNat (48 + n.val)).toNat = 85) := by decide
theorem valL_app (base : Nat) : ∀ (l : List UInt8) (c : UInt8) (acc : Nat), valL base acc (l ++ [c]) = match valL base acc l with
    | none => none
    | some a => match hexN c with
      | some d => if d < base then some (a * base + d) else none
      | none => none
  | [], c, acc => by
    rw [List.nil_append, valL, valL]
    rcases hexN c with _ | d
    · rfl
    · simp only [valL]
  | x :: l, c, acc => by
    rw [List.cons_append, valL, valL]
    split
    · split
      · exact valL_app base l c _
      · rfl
    · rfl
theorem dec_val (n : Nat) : valL 10 0 (Lib.decDigits n) = some n := by
  induction n using Nat.strongRecOn with
  | _ n ih =>
    rw [Lib.decDigits]
    split
    · rename_i h
      have hd := dec_digit ⟨n, h⟩
      simp only [valL]
      rw [hd.1]; simp [h]
    · rename_i h
      have hd := dec_digit ⟨n % 10, Nat.mod_lt _ (by decide)⟩
      rw [valL_app, ih (n / 10) (by omega)]
      simp only
      rw [hd.1]
      simp only
      rw [if_pos (Nat.mod_lt _ (by decide))]
      congr 1; omega
theorem dec_all (n : Nat) : ∀ c ∈ Lib.decDigits n, digB c = true ∧ ¬ (c.toNat = 117 ∨ c.toNat = 85) := by
  induction n using Nat.strongRecOn with
  | _ n ih =>
    rw [Lib.decDigits]
    split
    · rename_i h
      have hd := dec_digit ⟨n, h⟩
      intro c hc
      obtain rfl : c = UInt8.ofNat (48 + n) := List.mem_singleton.1 hc
      exact ⟨hd.2.1, hd.2.2.2.2⟩
    · rename_i h
      have hd := dec_digit ⟨n % 10, Nat.mod_lt _ (by decide)⟩
      intro c hc
      rcases List.mem_append.1 hc with h' | h'
      · exact ih (n / 10) (by omega) c h'
      · obtain rfl : c = UInt8.ofNat (48 + n % 10) := List.mem_singleton.1 h'
        exact ⟨hd.2.1, hd.2.2.2.2⟩
theorem dec_head (n : Nat) : ∃ c l, Lib.decDigits n = c :: l ∧ (c.toNat = 48 → l = []) := by
  induction n using Nat.strongRecOn with
  | _ n ih =>
    rw [Lib.decDigits]
    split
    · exact ⟨_, [], rfl, fun _ => rfl⟩
    · rename_i h
      obtain ⟨c, l, hc, h0⟩ := ih (n / 10) (by omega)
      refine ⟨c, l ++ [UInt8.ofNat (48 + n % 10)], by rw [hc]; rfl, fun e => ?_⟩
      exfalso
      obtain rfl := h0 e
      have hv := dec_val (n / 10)
      rw [hc] at hv
      have : c = 48 := UInt8.toNat_inj.1 e
      subst this
      simp [valL, hexN] at hv
      omega
theorem wlen_all : ∀ l : List UInt8, (∀ c ∈ l, wordB c = true) → wlen l = l.length
  | [], _ => rfl
  | c :: l, h => by rw [wlen, if_pos (h c (by simp)), wlen_all l (fun d hd => h d (by simp [hd]))]; rfl
theorem body_dec {L : List UInt8} {c : UInt8} {l : List UInt8} (hL : L = c :: l) (h0 : c.toNat = 48 → l = []) : bodyN L = valL 10 0 L := by
  subst hL
  match l, h0 with
  | [], _ => rfl
  | [x], h0 => rw [bodyN, if_neg (fun e => by have := h0 e; simp at this)]
  | x :: y :: l, h0 => rw [bodyN, if_neg (fun e => by have := h0 e; simp at this)]
theorem num_plain (n : Nat) (hn : n < 4294967296) : numW (Lib.decDigits n) = some (n, decide (2147483648 ≤ n)) := by
  have hu : uEnd (Lib.decDigits n) = false := by
    unfold uEnd
    rw [Bool.and_eq_false_iff]
    right
    obtain ⟨c, l, hc, _⟩ := dec_head n
    rcases hl : (Lib.decDigits n).getLast? with _ | x
    · rfl
    · have := (dec_all n x (List.mem_of_getLast? hl)).2
      simpa using this
  obtain ⟨c, l, hc, h0⟩ := dec_head n
  unfold numW
  rw [hu, if_neg (by simp), body_dec hc h0, dec_val]
  simp only
  rw [if_pos hn]; simp
theorem num_u (n : Nat) (hn : n < 4294967296) : numW (Lib.decDigits n ++ [117]) = some (n, true) := by
  obtain ⟨c, l, hc, h0⟩ := dec_head n
  have hu : uEnd (Lib.decDigits n ++ [117]) = true := by
    unfold uEnd
    rw [List.getLast?_concat, hc]; simp
  unfold numW
  rw [hu, if_pos rfl, List.dropLast_concat, body_dec hc h0, dec_val]
  simp only
  rw [if_pos hn]; simp
theorem one_num {L : List UInt8} {n : Nat} {u : Bool} (hw : ∀ c ∈ L, wordB c = true) (hh : ∃ c l, L = c :: l ∧ digB c = true) (hn : numW L = some (n, u)) {R : List UInt8} (hR : Rest R) :
    oneL (L ++ R) = .good ⟨3, 0, n, if u = true then uText else ⟨#[]⟩⟩ L.length := by
  obtain ⟨c, l, hc, hd⟩ := hh
  have hl : letB c = false := by
    have := of_decide_eq_true hd
    unfold letB; rw [decide_eq_false_iff_not]; omega
  have hwl := wlen_app _ R (wlen_all L hw) hR
  rw [hc, List.cons_append, oneL, if_neg (by simp [hl]), if_pos hd, ← List.cons_append, ← hc]
  unfold numE
  rw [hwl, take_app, hn]

/-- a token that may be, laid out, is read again -/
theorem one_word (t : Tok) (hg : goodB t = true) {R : List UInt8} (hR : Rest R) : oneL (wordL t ++ R) = .good (unp t) (wordL t).length := by
  obtain ⟨k, p, n, x⟩ := t
  unfold goodB at hg
  by_cases h3 : k = 3
  · subst h3
    simp only [if_true] at hg
    unfold wordL
    rw [if_neg (by simp), if_pos rfl]
    unfold numL
    simp only [unp]
    unfold goodNum at hg
    simp only at hg
    by_cases hneg : n < 0
    · rw [if_pos hneg]
      by_cases hu : x = uText
      · rw [if_pos hu, decide_eq_true_eq] at hg; omega
      · rw [if_neg hu, Bool.and_eq_true, decide_eq_true_eq, decide_eq_true_eq] at hg
        rw [one_char, hg.1]
        have : sgn (UInt8.ofNat (n + 256).toNat) = n := by
          unfold sgn
          rw [UInt8.toNat_ofNat']
          split <;> omega
        rw [this]; rfl
    · rw [if_neg hneg]
      obtain ⟨m, rfl⟩ : ∃ m : Nat, n = m := ⟨n.toNat, by omega⟩
      have hI : Lib.itoa (m : Int) = Lib.decDigits m := by unfold Lib.itoa; rw [if_neg (by omega)]; simp
      have hm : m < 4294967296 := by
        split at hg
        · rw [decide_eq_true_eq] at hg; omega
        · rw [Bool.and_eq_true, decide_eq_true_eq, decide_eq_true_eq] at hg; omega
      have hw : ∀ c ∈ Lib.decDigits m, wordB c = true := fun c hc => by simp [wordB, (dec_all m c hc).1]
      have hh : ∃ c l, Lib.decDigits m = c :: l ∧ digB c = true := by
        obtain ⟨c, l, hc, _⟩ := dec_head m
        exact ⟨c, l, hc, (dec_all m c (by rw [hc]; simp)).1⟩
      rw [hI]
      by_cases hu : x = uText
      · by_cases hlt : m < 2147483648
        · rw [if_pos ⟨hu, by omega⟩, one_num (n := m) (u := true) (fun c hc => by
            rcases List.mem_append.1 hc with h | h
            · exact hw c h
            · obtain rfl : c = 117 := by simpa using h
              decide) (by obtain ⟨c, l, h1, h2⟩ := hh; exact ⟨c, l ++ [117], by rw [h1]; rfl, h2⟩) (num_u m hm) hR]
          rw [hu]; rfl
        · rw [if_neg (by omega), one_num hw hh (num_plain m hm) hR, if_pos (by simpa using hlt), hu]
      · rw [if_neg (fun e => hu e.1), one_num hw hh (num_plain m hm) hR]
        rw [if_neg hu, Bool.and_eq_true, decide_eq_true_eq, decide_eq_true_eq] at hg
        rw [if_neg (by simp; omega), hg.1]; rfl
  · rw [if_neg h3] at hg
    simp only at hg
    by_cases h0 : n = 0
    · rw [if_neg (by simpa using h0)] at hg
      subst h0
      unfold wordL
      simp only [unp]
      by_cases h1 : k = 1
      · subst h1
        simp only [if_true] at hg
        rw [if_neg (by decide), if_neg (by decide)]; exact one_name hg hR
      · rw [if_neg h1] at hg
        by_cases h2 : k = 2
        · subst h2
          simp only [if_true] at hg
          rw [if_neg (by decide), if_neg (by decide)]; exact one_key hg hR
        · rw [if_neg h2] at hg
          by_cases h4 : k = 4
          · subst h4
            rw [if_pos rfl]; exact one_str x R
          · rw [if_neg h4] at hg
            by_cases h5 : k = 5
            · subst h5
              simp only [if_true] at hg
              rw [if_neg (by decide), if_neg (by decide)]; exact one_mark hg hR
            · rw [if_neg h5] at hg; cases hg
    · rw [if_pos h0] at hg; cases hg

end Go.Proofs.YtncojfcdkigmiaaDoor
