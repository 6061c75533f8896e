/- What C writes of two types tells them apart. Plain: nothing of the program. · What C writes of two types tells them apart: types as chains. Plain: nothing of the program. · What C writes of two types tells them apart. Plain: nothing of the program. · What C writes of two types that may be tells them apart. Plain: nothing of the program. -/
import Derived.Test.YtmmjmppfmjejkaaDoorTyDecl
namespace Go.Proofs.YtmmjmppfmjejkaaDoor

/-- brackets that close: by depth; no depth falls below d -/
def depth1 (c : UInt8) : Int := if c = 40 then 1 else if c = 41 then -1 else 0
def sumD (l : List UInt8) : Int := (l.map depth1).sum
def Bal (l : List UInt8) : Prop := sumD l = 0 ∧ ∀ k, 0 ≤ sumD (l.take k)
theorem sumD_append (a b : List UInt8) : sumD (a ++ b) = sumD a + sumD b := by simp [sumD]
theorem sumD_cons (c : UInt8) (b : List UInt8) : sumD (c :: b) = depth1 c + sumD b := by simp [sumD]
theorem sumD_nil : sumD [] = 0 := rfl
theorem bal_nil : Bal [] := ⟨rfl, fun k => by simp [sumD]⟩
theorem bal_append {a b : List UInt8} (ha : Bal a) (hb : Bal b) : Bal (a ++ b) := by
  refine ⟨by rw [sumD_append, ha.1, hb.1]; rfl, fun k => ?_⟩
  rw [List.take_append, sumD_append]
  have h1 := ha.2 k
  have h2 := hb.2 (k - a.length)
  omega
theorem bal_one {c : UInt8} (h : c ≠ 40 ∧ c ≠ 41) : Bal [c] := by
  have e : depth1 c = 0 := by simp [depth1, h.1, h.2]
  refine ⟨by simp [sumD, e], fun k => ?_⟩
  cases k with
  | zero => simp [sumD]
  | succ k => simp [sumD, e]
theorem bal_cons {c : UInt8} {l : List UInt8} (h : c ≠ 40 ∧ c ≠ 41) (hl : Bal l) : Bal (c :: l) := bal_append (a := [c]) (bal_one h) hl
theorem bal_plain {l : List UInt8} (h : ∀ c ∈ l, c ≠ 40 ∧ c ≠ 41) : Bal l := by
  induction l with
  | nil => exact bal_nil
  | cons c l ih => exact bal_cons (h c (by simp)) (ih fun d hd => h d (by simp [hd]))
theorem bal_in {l : List UInt8} (h : Bal l) : Bal (40 :: (l ++ [41])) := by
  refine ⟨by rw [sumD_cons, sumD_append, h.1]; rfl, fun k => ?_⟩
  cases k with
  | zero => simp [sumD]
  | succ k =>
    rw [List.take_succ_cons, sumD_cons, List.take_append, sumD_append]
    have h1 := h.2 k
    have h2 : -1 ≤ sumD ([41].take (k - l.length)) := by
      rcases Nat.eq_zero_or_pos (k - l.length) with e | e
      · rw [e]; simp [sumD]
      · rw [List.take_of_length_le (by simp; omega)]; decide
    have h3 : depth1 40 = 1 := rfl
    omega
/-- a last bracket's partner is told -/
theorem bal_split {a b p q : List UInt8} (ha : Bal a) (hb : Bal b) (hp : Bal p) (hq : Bal q) (h : a ++ 40 :: (p ++ [41]) = b ++ 40 :: (q ++ [41])) : a = b ∧ p = q := by
  have key : ∀ {a b p q : List UInt8}, Bal b → Bal p → a ++ 40 :: (p ++ [41]) = b ++ 40 :: (q ++ [41]) → Bal a → ¬ a.length < b.length := by
    intro a b p q hb hp h ha hlt
    have hl := congrArg List.length h
    simp only [List.length_append, List.length_cons, List.length_nil] at hl
    have e : (a ++ 40 :: (p ++ [41])).take b.length = b := by rw [h, List.take_left]
    have e2 : (a ++ 40 :: (p ++ [41])).take b.length = a ++ 40 :: (p.take (b.length - a.length - 1)) := by
      rw [List.take_append, List.take_of_length_le (by omega)]
      obtain ⟨m, hm⟩ : ∃ m, b.length - a.length = m + 1 := ⟨b.length - a.length - 1, by omega⟩
      rw [hm, List.take_succ_cons, List.take_append_of_le_length (by omega), show m + 1 - 1 = m by omega]
    rw [e] at e2
    have := hb.1
    rw [e2, sumD_append, sumD_cons, ha.1] at this
    have h1 := hp.2 (b.length - a.length - 1)
    have h3 : depth1 40 = 1 := rfl
    omega
  have hlen : a.length = b.length := by
    have h1 := key hb hp h ha
    have h2 := key ha hq h.symm hb
    omega
  obtain ⟨h1, h2⟩ := List.append_inj h hlen
  refine ⟨h1, ?_⟩
  simp only [List.cons.injEq, true_and] at h2
  exact (List.append_inj' h2 rfl).1

end Go.Proofs.YtmmjmppfmjejkaaDoor
namespace Go.Proofs.YtmmjmppfmjejkaaDoor

inductive Ch where
  | p
  | a (n : Nat)
  | f (ps : List Ty)
def chain : Ty → List Ch
  | .ptr t => .p :: chain t
  | .arr n t => .a n :: chain t
  | .fn ps r => .f ps :: chain r
  | _ => []
def root : Ty → Ty
  | .ptr t => root t
  | .arr _ t => root t
  | .fn _ r => root r
  | t => t
theorem chain_root : ∀ {t u : Ty}, chain t = chain u → root t = root u → t = u
  | .ptr t, .ptr u, h, g => by
    simp only [chain, List.cons.injEq, true_and] at h
    rw [chain_root h g]
  | .arr n t, .arr m u, h, g => by
    simp only [chain, List.cons.injEq, Ch.a.injEq] at h
    rw [h.1, chain_root h.2 g]
  | .fn ps r, .fn qs s, h, g => by
    simp only [chain, List.cons.injEq, Ch.f.injEq] at h
    rw [h.1, chain_root h.2 g]
  | .base _, .base _, _, g => g
  | .base _, .str _, _, g => g
  | .str _, .base _, _, g => g
  | .str _, .str _, _, g => g
  | .base _, .ptr _, h, _ | .base _, .arr _ _, h, _ | .base _, .fn _ _, h, _ => by simp [chain] at h
  | .str _, .ptr _, h, _ | .str _, .arr _ _, h, _ | .str _, .fn _ _, h, _ => by simp [chain] at h
  | .ptr _, .base _, h, _ | .ptr _, .str _, h, _ | .ptr _, .arr _ _, h, _ | .ptr _, .fn _ _, h, _ => by simp [chain] at h
  | .arr _ _, .base _, h, _ | .arr _ _, .str _, h, _ | .arr _ _, .ptr _, h, _ | .arr _ _, .fn _ _, h, _ => by simp [chain] at h
  | .fn _ _, .base _, h, _ | .fn _ _, .str _, h, _ | .fn _ _, .ptr _, h, _ | .fn _ _, .arr _ _, h, _ => by simp [chain] at h

def parsT (ps : List Ty) : List UInt8 := if ps = [] then [118, 111, 105, 100] else commaL (declTs ps)
/-- what stands around a name, the last part first; nx: an array or a function comes next -/
def strR : List Ch → Bool → List UInt8 → List UInt8
  | [], _, s => s
  | .p :: R, nx, s => if nx = true then 40 :: ((42 :: strR R false s) ++ [41]) else 42 :: strR R false s
  | .a n :: R, _, s => strR R true s ++ 91 :: (Lib.decDigits n ++ [93])
  | .f ps :: R, _, s => strR R true s ++ 40 :: (parsT ps ++ [41])
def nx (t : Ty) : Bool := isArrT t || isFnT t
def fin (b : Ty) (x : List UInt8) : List UInt8 := wordT b ++ if x = [] then [] else 32 :: x
theorem decl_chain : ∀ (t : Ty) (R : List Ch) (s : List UInt8), declT t (strR R (nx t) s) = fin (root t) (strR ((chain t).reverse ++ R) false s)
  | .base c, R, s => by simp only [declT, nx, isArrT, isFnT, Bool.or_self, chain, root, List.reverse_nil, List.nil_append, fin]; split <;> simp_all
  | .str n, R, s => by simp only [declT, nx, isArrT, isFnT, Bool.or_self, chain, root, List.reverse_nil, List.nil_append, fin]; split <;> simp_all
  | .ptr t, R, s => by
    have ih := decl_chain t (.p :: R) s
    rw [strR] at ih
    simp only [declT, chain, root, List.reverse_cons, List.append_assoc, List.singleton_append]
    rw [← ih]
    rfl
  | .arr n t, R, s => by
    have ih := decl_chain t (.a n :: R) s
    rw [strR] at ih
    simp only [declT, chain, root, List.reverse_cons, List.append_assoc, List.singleton_append]
    rw [← ih]
    simp [nx, isArrT]
  | .fn ps r, R, s => by
    have ih := decl_chain r (.f ps :: R) s
    rw [strR] at ih
    simp only [declT, chain, root, List.reverse_cons, List.append_assoc, List.singleton_append]
    rw [← ih]
    simp [nx, isArrT, isFnT, parsT]
theorem decl_is (t : Ty) (s : List UInt8) : declT t s = fin (root t) (strR (chain t).reverse false s) := by
  have := decl_chain t [] s
  rwa [strR, List.append_nil] at this

/-- letters, digits: those of a name -/
def Nm (s : List UInt8) : Prop := ∀ c ∈ s, wordB c = true
theorem nm_no {s : List UInt8} (h : Nm s) {c : UInt8} (hc : wordB c = false) : c ∉ s := fun hm => by have := h c hm; rw [hc] at this; cases this
theorem name_nm {s : List UInt8} (h : nameL s = true) : Nm s := by
  unfold nameL isNameB at h
  simp only [Bool.and_eq_true, decide_eq_true_iff] at h
  obtain ⟨_, _, _, h3, _⟩ := h
  have e : ByteArray.size ⟨s.toArray⟩ = s.length := by simp [ByteArray.size]
  rw [e] at h3
  replace h3 : wlen s = s.length := h3
  intro c hc
  obtain ⟨k, hk, rfl⟩ := List.getElem_of_mem hc
  obtain ⟨c', h4, h5⟩ := wlen_lt (l := s) (k := k) (by omega)
  rw [List.getElem?_eq_getElem hk] at h4
  obtain rfl := Option.some.inj h4
  exact h5
theorem dec_nm (n : Nat) : Nm (Lib.decDigits n) := fun c hc => by
  have := List.all_eq_true.1 (dec_digits n).1 c hc
  simp [wordB, this]
theorem nm_bal {s : List UInt8} (h : Nm s) : Bal s := bal_plain fun c hc => ⟨fun e => nm_no h (c := 40) (by decide) (e ▸ hc), fun e => nm_no h (c := 41) (by decide) (e ▸ hc)⟩

/-- no comma outside brackets -/
def NoC (l : List UInt8) : Prop := ∀ a b, l = a ++ 44 :: b → 0 < sumD a
theorem noC_plain {l : List UInt8} (h : (44 : UInt8) ∉ l) : NoC l := fun a b e => absurd (by rw [e]; simp) h
theorem noC_append {x y : List UInt8} (hx : Bal x) (h1 : NoC x) (h2 : NoC y) : NoC (x ++ y) := fun a b e => by
  rcases List.append_eq_append_iff.1 e with ⟨m, rfl, h⟩ | ⟨m, h, h'⟩
  · have := h2 m b h
    rw [sumD_append, hx.1]; omega
  · cases m with
    | nil =>
      simp only [List.append_nil, List.nil_append] at h h'
      subst h
      have := h2 [] b h'.symm
      simp [sumD] at this
    | cons c m =>
      simp only [List.cons_append, List.cons.injEq] at h'
      obtain ⟨rfl, h'⟩ := h'
      exact h1 a m h
theorem noC_in {x : List UInt8} (hx : Bal x) : NoC (40 :: (x ++ [41])) := fun a b e => by
  cases a with
  | nil => simp at e
  | cons c a =>
    simp only [List.cons_append, List.cons.injEq] at e
    obtain ⟨rfl, e⟩ := e
    rcases List.append_eq_append_iff.1 e with ⟨m, rfl, h⟩ | ⟨m, h, h'⟩
    · cases m with
      | nil => simp at h
      | cons d m => simp at h
    · subst h
      rw [sumD_cons]
      have := hx.2 a.length
      rw [List.take_left] at this
      have h3 : depth1 40 = 1 := rfl
      omega
theorem comma_inj : ∀ (A B : List (List UInt8)), A ≠ [] → B ≠ [] → (∀ x ∈ A, Bal x ∧ NoC x) → (∀ x ∈ B, Bal x ∧ NoC x) → commaL A = commaL B → A = B
  | [], _, h, _, _, _, _ => absurd rfl h
  | _, [], _, h, _, _, _ => absurd rfl h
  | [x], [y], _, _, _, _, h => by simpa [commaL] using h
  | [x], y :: z :: B, _, _, hA, hB, h => by
    exfalso
    simp only [commaL] at h
    have := (hA x (by simp)).2 y _ h
    rw [(hB y (by simp)).1.1] at this
    omega
  | x :: z :: A, [y], _, _, hA, hB, h => by
    exfalso
    simp only [commaL] at h
    have := (hB y (by simp)).2 x _ h.symm
    rw [(hA x (by simp)).1.1] at this
    omega
  | x :: z :: A, y :: z' :: B, _, _, hA, hB, h => by
    simp only [commaL] at h
    have key : x = y ∧ commaL (z :: A) = commaL (z' :: B) := by
      rcases List.append_eq_append_iff.1 h with ⟨m, rfl, h'⟩ | ⟨m, rfl, h'⟩
      · cases m with
        | nil => simp at h'; simp [h']
        | cons c m =>
          simp only [List.cons_append, List.cons.injEq] at h'
          obtain ⟨rfl, _⟩ := h'
          have := (hB (x ++ 44 :: m) (by simp)).2 x m rfl
          rw [(hA x (by simp)).1.1] at this
          omega
      · cases m with
        | nil => simp at h'; simp [h']
        | cons c m =>
          simp only [List.cons_append, List.cons.injEq] at h'
          obtain ⟨rfl, _⟩ := h'
          have := (hA (y ++ 44 :: m) (by simp)).2 y m rfl
          rw [(hB y (by simp)).1.1] at this
          omega
    rw [key.1, comma_inj (z :: A) (z' :: B) (by simp) (by simp) (fun w hw => hA w (by simp [hw])) (fun w hw => hB w (by simp [hw])) key.2]

end Go.Proofs.YtmmjmppfmjejkaaDoor
namespace Go.Proofs.YtmmjmppfmjejkaaDoor

theorem word_bal {t : Ty} (h : Right t) : Bal (wordT t) ∧ NoC (wordT t) := by
  cases t with
  | base c =>
    simp only [wordT]
    repeat' split
    all_goals exact ⟨bal_plain (by decide), noC_plain (by decide)⟩
  | str s =>
    have hn := name_nm (s := s) h
    simp only [wordT]
    exact ⟨bal_append (bal_plain (by decide)) (nm_bal hn), noC_plain (by
      intro hm
      rcases List.mem_append.1 hm with e | e
      · exact absurd e (by decide)
      · exact nm_no hn (by decide) e)⟩
  | _ => exact ⟨bal_nil, noC_plain (by simp [wordT])⟩
theorem comma_bal : ∀ {A : List (List UInt8)}, (∀ x ∈ A, Bal x ∧ NoC x) → Bal (commaL A)
  | [], _ => bal_nil
  | [x], h => (h x (by simp)).1
  | x :: y :: l, h => by
    rw [commaL]
    exact bal_append (h x (by simp)).1 (bal_cons (by decide) (bal_cons (by decide) (comma_bal fun z hz => h z (by simp [hz]))))
theorem ptr_bal {s : List UInt8} (h1 : Bal s) (h2 : NoC s) : Bal (42 :: s) ∧ NoC (42 :: s) :=
  ⟨bal_cons (by decide) h1, noC_append (x := [42]) (bal_one (by decide)) (noC_plain (by decide)) h2⟩
mutual
theorem decl_bal : ∀ (t : Ty) (s : List UInt8), Right t → Bal s → NoC s → Bal (declT t s) ∧ NoC (declT t s)
  | .base c, s, h, h1, h2 => by
    rw [declT]
    have hw := word_bal h
    split
    · exact hw
    · exact ⟨bal_append hw.1 (bal_cons (by decide) h1), noC_append hw.1 hw.2 (noC_append (x := [32]) (bal_one (by decide)) (noC_plain (by decide)) h2)⟩
  | .str n, s, h, h1, h2 => by
    rw [declT]
    have hw := word_bal h
    split
    · exact hw
    · exact ⟨bal_append hw.1 (bal_cons (by decide) h1), noC_append hw.1 hw.2 (noC_append (x := [32]) (bal_one (by decide)) (noC_plain (by decide)) h2)⟩
  | .ptr t, s, h, h1, h2 => by
    rw [declT]
    have hp := ptr_bal h1 h2
    split
    · exact decl_bal t _ h (bal_in (l := 42 :: s) hp.1) (noC_in (x := 42 :: s) hp.1)
    · exact decl_bal t _ h hp.1 hp.2
  | .arr n t, s, h, h1, h2 => by
    rw [declT]
    have hd := dec_nm n
    have hb : Bal (91 :: (Lib.decDigits n ++ [93])) := bal_cons (by decide) (bal_append (nm_bal hd) (bal_one (by decide)))
    have hc : NoC (91 :: (Lib.decDigits n ++ [93])) := noC_plain (by
      intro hm
      rcases List.mem_cons.1 hm with e | e
      · exact absurd e (by decide)
      · rcases List.mem_append.1 e with e | e
        · exact nm_no hd (by decide) e
        · exact absurd e (by decide))
    exact decl_bal t _ h.2 (by simpa using bal_append h1 hb) (by simpa using noC_append h1 h2 hc)
  | .fn ps r, s, h, h1, h2 => by
    rw [declT]
    have hp : Bal (if ps = [] then [118, 111, 105, 100] else commaL (declTs ps)) := by
      split
      · exact bal_plain (by decide)
      · exact comma_bal (decls_bal ps h.1)
    exact decl_bal r _ h.2 (by simpa using bal_append h1 (bal_in hp)) (by simpa using noC_append h1 h2 (noC_in hp))
theorem decls_bal : ∀ (ps : List Ty), Rights ps → ∀ x ∈ declTs ps, Bal x ∧ NoC x
  | [], _, x, hx => by simp [declTs] at hx
  | t :: l, h, x, hx => by
    rw [declTs] at hx
    rcases List.mem_cons.1 hx with rfl | e
    · exact decl_bal t [] h.1 bal_nil (noC_plain (by simp))
    · exact decls_bal l h.2 x e
end
theorem pars_bal {ps : List Ty} (h : Rights ps) : Bal (parsT ps) := by
  unfold parsT
  split
  · exact bal_plain (by decide)
  · exact comma_bal (decls_bal ps h)

def headF : List Ch → Bool
  | .f _ :: _ => true
  | _ => false
def headP : List Ch → Bool
  | [] => true
  | .p :: _ => true
  | _ => false
/-- parts such as may be; the last part first -/
def OkR : List Ch → Prop
  | [] => True
  | .p :: R => OkR R
  | .a _ :: R => OkR R ∧ headF R = false
  | .f ps :: R => OkR R ∧ headP R = true ∧ Rights ps
theorem strR_bal : ∀ (R : List Ch) (b : Bool) (s : List UInt8), OkR R → Bal s → Bal (strR R b s)
  | [], _, s, _, hs => hs
  | .p :: R, b, s, h, hs => by
    have ih := bal_cons (c := 42) (by decide) (strR_bal R false s h hs)
    rw [strR]
    split
    · exact bal_in ih
    · exact ih
  | .a n :: R, b, s, h, hs => by
    rw [strR]
    exact bal_append (strR_bal R true s h.1 hs) (bal_cons (by decide) (bal_append (nm_bal (dec_nm n)) (bal_one (by decide))))
  | .f ps :: R, b, s, h, hs => by
    rw [strR]
    exact bal_append (strR_bal R true s h.1 hs) (bal_in (pars_bal h.2.2))
theorem strR_star : ∀ (R : List Ch) (b : Bool) (s : List UInt8), Nm s → (b = true ∨ R.head?.all (fun c => match c with | .p => false | _ => true) = true) → (strR R b s).head? ≠ some 42
  | [], b, s, hs, _ => by
    rw [strR]
    intro e
    cases s with
    | nil => simp at e
    | cons c l =>
      simp at e
      exact nm_no hs (c := 42) (by decide) (by simp [e])
  | .p :: R, b, s, hs, h => by
    rw [strR]
    rcases h with rfl | h
    · simp
    · simp at h
  | .a n :: R, b, s, hs, _ => by
    rw [strR, List.head?_append]
    have ih := strR_star R true s hs (.inl rfl)
    cases he : (strR R true s).head? with
    | none => simp
    | some c => rw [he] at ih; simpa using ih
  | .f ps :: R, b, s, hs, _ => by
    rw [strR, List.head?_append]
    have ih := strR_star R true s hs (.inl rfl)
    cases he : (strR R true s).head? with
    | none => simp
    | some c => rw [he] at ih; simpa using ih
theorem last_eq {x y : List UInt8} {c d : UInt8} (h : x ++ [c] = y ++ [d]) : c = d := by
  have := (List.append_inj' h rfl).2
  simpa using this
theorem cut_last {x y d e : List UInt8} {c : UInt8} (h : x ++ c :: d = y ++ c :: e) (hd : c ∉ d) (he : c ∉ e) : x = y ∧ d = e := by
  rcases List.append_eq_append_iff.1 h with ⟨m, rfl, h'⟩ | ⟨m, rfl, h'⟩
  · cases m with
    | nil => simp at h'; simp [h']
    | cons a m =>
      simp only [List.cons_append, List.cons.injEq] at h'
      exact absurd (by rw [h'.2]; simp) hd
  · cases m with
    | nil => simp at h'; simp [h']
    | cons a m =>
      simp only [List.cons_append, List.cons.injEq] at h'
      exact absurd (by rw [h'.2]; simp) he
theorem dec_inj {n m : Nat} (h : Lib.decDigits n = Lib.decDigits m) : n = m := by
  rw [← (dec_digits n).2.1, ← (dec_digits m).2.1, h]
theorem nm_end {s x : List UInt8} {c : UInt8} (hs : Nm s) (hc : wordB c = false) : s ≠ x ++ [c] := fun e => nm_no hs hc (by rw [e]; simp)
theorem pForm (R : List Ch) (s : List UInt8) : strR (.p :: R) true s = (40 :: 42 :: strR R false s) ++ [41] := by simp [strR]
theorem pForm' (R : List Ch) (s : List UInt8) : strR (.p :: R) false s = 42 :: strR R false s := by simp [strR]
theorem aForm (n : Nat) (R : List Ch) (b : Bool) (s : List UInt8) : strR (.a n :: R) b s = (strR R true s ++ 91 :: Lib.decDigits n) ++ [93] := by simp [strR]
theorem fForm (ps : List Ty) (R : List Ch) (b : Bool) (s : List UInt8) : strR (.f ps :: R) b s = (strR R true s ++ 40 :: parsT ps) ++ [41] := by simp [strR]
theorem strR_inj : ∀ (R R' : List Ch) (b : Bool) (s : List UInt8), Nm s → OkR R → OkR R' → (b = true → headF R = false ∧ headF R' = false) →
    (∀ ps qs, Ch.f ps ∈ R → Ch.f qs ∈ R' → parsT ps = parsT qs → ps = qs) → strR R b s = strR R' b s → R = R'
  | [], [], _, _, _, _, _, _, _, _ => rfl
  | [], .p :: R', b, s, hs, _, _, _, _, h => by
    exfalso
    cases b with
    | false => rw [pForm', strR] at h; exact nm_no hs (c := 42) (by decide) (by rw [h]; simp)
    | true => rw [pForm, strR] at h; exact nm_end hs (by decide) h
  | .p :: R, [], b, s, hs, _, _, _, _, h => by
    exfalso
    cases b with
    | false => rw [pForm', strR] at h; exact nm_no hs (c := 42) (by decide) (by rw [← h]; simp)
    | true => rw [pForm, strR] at h; exact nm_end hs (by decide) h.symm
  | [], .a n :: R', b, s, hs, _, _, _, _, h => by rw [aForm, strR] at h; exact absurd h (nm_end hs (by decide))
  | .a n :: R, [], b, s, hs, _, _, _, _, h => by rw [aForm, strR] at h; exact absurd h.symm (nm_end hs (by decide))
  | [], .f n :: R', b, s, hs, _, _, _, _, h => by rw [fForm, strR] at h; exact absurd h (nm_end hs (by decide))
  | .f n :: R, [], b, s, hs, _, _, _, _, h => by rw [fForm, strR] at h; exact absurd h.symm (nm_end hs (by decide))
  | .a n :: R, .f ps :: R', b, s, hs, _, _, _, _, h => by rw [aForm, fForm] at h; exact absurd (last_eq h) (by decide)
  | .f ps :: R, .a n :: R', b, s, hs, _, _, _, _, h => by rw [aForm, fForm] at h; exact absurd (last_eq h) (by decide)
  | .p :: R, .a n :: R', b, s, hs, _, _, _, _, h => by
    exfalso
    cases b with
    | false => exact strR_star (.a n :: R') false s hs (.inr rfl) (by rw [← h, pForm']; rfl)
    | true => rw [pForm, aForm] at h; exact absurd (last_eq h) (by decide)
  | .a n :: R, .p :: R', b, s, hs, _, _, _, _, h => by
    exfalso
    cases b with
    | false => exact strR_star (.a n :: R) false s hs (.inr rfl) (by rw [h, pForm']; rfl)
    | true => rw [pForm, aForm] at h; exact absurd (last_eq h) (by decide)
  | .p :: R, .f n :: R', b, s, hs, _, _, hb, _, h => by
    exfalso
    cases b with
    | false => exact strR_star (.f n :: R') false s hs (.inr rfl) (by rw [← h, pForm']; rfl)
    | true => exact absurd (hb rfl).2 (by simp [headF])
  | .f n :: R, .p :: R', b, s, hs, _, _, hb, _, h => by
    exfalso
    cases b with
    | false => exact strR_star (.f n :: R) false s hs (.inr rfl) (by rw [h, pForm']; rfl)
    | true => exact absurd (hb rfl).1 (by simp [headF])
  | .p :: R, .p :: R', b, s, hs, h1, h2, _, hp, h => by
    have key : strR R false s = strR R' false s := by
      cases b with
      | false => rw [pForm', pForm'] at h; simpa using h
      | true => rw [pForm, pForm] at h; simpa using (List.append_inj' h rfl).1
    rw [strR_inj R R' false s hs h1 h2 (fun e => by cases e) (fun ps qs a b => hp ps qs (by simp [a]) (by simp [b])) key]
  | .a n :: R, .a m :: R', b, s, hs, h1, h2, _, hp, h => by
    rw [aForm, aForm] at h
    have h3 := (List.append_inj' h rfl).1
    obtain ⟨h4, h5⟩ := cut_last h3 (nm_no (dec_nm n) (by decide)) (nm_no (dec_nm m) (by decide))
    rw [dec_inj h5, strR_inj R R' true s hs h1.1 h2.1 (fun _ => ⟨h1.2, h2.2⟩) (fun ps qs a b => hp ps qs (by simp [a]) (by simp [b])) h4]
  | .f ps :: R, .f qs :: R', b, s, hs, h1, h2, _, hp, h => by
    rw [strR, strR] at h
    have hf : ∀ R : List Ch, headP R = true → headF R = false := fun R h => by
      cases R with
      | nil => rfl
      | cons c R => cases c <;> simp_all [headP, headF]
    obtain ⟨h4, h5⟩ := bal_split (strR_bal R true s h1.1 (nm_bal hs)) (strR_bal R' true s h2.1 (nm_bal hs)) (pars_bal h1.2.2) (pars_bal h2.2.2) h
    rw [hp ps qs (by simp) (by simp) h5, strR_inj R R' true s hs h1.1 h2.1 (fun _ => ⟨hf R h1.2.1, hf R' h2.2.1⟩) (fun ps qs a b => hp ps qs (by simp [a]) (by simp [b])) h4]

end Go.Proofs.YtmmjmppfmjejkaaDoor
namespace Go.Proofs.YtmmjmppfmjejkaaDoor

theorem cut_first {x y d e : List UInt8} {c : UInt8} (h : x ++ c :: d = y ++ c :: e) (hx : c ∉ x) (hy : c ∉ y) : x = y ∧ d = e := by
  have h1 := cutAt_mk (r := d) hx
  rw [h, cutAt_mk hy] at h1
  have := Prod.mk.inj (Option.some.inj h1)
  exact ⟨this.1.symm, this.2.symm⟩
theorem cut32 {w w' x x' : List UInt8} (hw : (32 : UInt8) ∉ w) (hw' : (32 : UInt8) ∉ w') (h : w ++ (if x = [] then [] else 32 :: x) = w' ++ (if x' = [] then [] else 32 :: x')) : w = w' ∧ x = x' := by
  by_cases hx : x = [] <;> by_cases hx' : x' = []
  · rw [if_pos hx, if_pos hx'] at h
    subst hx hx'
    simpa using h
  · rw [if_pos hx, if_neg hx'] at h
    exact absurd (by rw [List.append_nil] at h; rw [h]; simp) hw
  · rw [if_neg hx, if_pos hx'] at h
    exact absurd (by rw [List.append_nil] at h; rw [← h]; simp) hw'
  · rw [if_neg hx, if_neg hx'] at h
    exact cut_first h hw hw'
theorem base_word {c : UInt8} (h : isBase c = true) : (32 : UInt8) ∉ wordT (.base c) ∧ wordT (.base c) ≠ [115, 116, 114, 117, 99, 116] := by
  unfold isBase at h
  rw [List.contains_iff_mem] at h
  simp at h
  rcases h with rfl | rfl | rfl | rfl | rfl | rfl <;> decide
theorem base_inj {c d : UInt8} (h : isBase c = true) (g : isBase d = true) (e : wordT (.base c) = wordT (.base d)) : c = d := by
  unfold isBase at h g
  rw [List.contains_iff_mem] at h g
  simp at h g
  rcases h with rfl | rfl | rfl | rfl | rfl | rfl <;> rcases g with rfl | rfl | rfl | rfl | rfl | rfl <;> first | rfl | exact absurd e (by decide)
def isRoot : Ty → Bool
  | .base _ => true
  | .str _ => true
  | _ => false
theorem root_ok : ∀ {t : Ty}, Right t → Right (root t) ∧ isRoot (root t) = true
  | .base _, h => ⟨h, rfl⟩
  | .str _, h => ⟨h, rfl⟩
  | .ptr t, h => root_ok (t := t) h
  | .arr _ t, h => root_ok (t := t) h.2
  | .fn _ t, h => root_ok (t := t) h.2
theorem struct_form (n x : List UInt8) : fin (.str n) x = [115, 116, 114, 117, 99, 116] ++ 32 :: (n ++ (if x = [] then [] else 32 :: x)) := by simp [fin, wordT]
theorem fin_inj {b c : Ty} {x y : List UInt8} (hb : Right b) (hc : Right c) (rb : isRoot b = true) (rc : isRoot c = true) (h : fin b x = fin c y) : b = c ∧ x = y := by
  have mixed : ∀ {a : UInt8} {n x y : List UInt8}, isBase a = true → fin (.base a) x ≠ fin (.str n) y := by
    intro a n x y ha h
    rw [struct_form, fin] at h
    obtain ⟨h1, h2⟩ := base_word ha
    by_cases hx : x = []
    · rw [if_pos hx, List.append_nil] at h
      exact h1 (by rw [h]; simp)
    · rw [if_neg hx] at h
      exact h2 (cut_first h h1 (by decide)).1
  cases b with
  | base a =>
    cases c with
    | base d =>
      obtain ⟨h1, h2⟩ := cut32 (base_word hb).1 (base_word hc).1 h
      exact ⟨by rw [base_inj hb hc h1], h2⟩
    | str n => exact absurd h (mixed hb)
    | _ => cases rc
  | str n =>
    cases c with
    | base d => exact absurd h.symm (mixed hc)
    | str m =>
      rw [struct_form, struct_form] at h
      have h1 := (cut_first h (by decide) (by decide)).2
      have h3 := cut32 (nm_no (name_nm (s := n) hb) (by decide)) (nm_no (name_nm (s := m) hc) (by decide)) h1
      exact ⟨by rw [h3.1], h3.2⟩
    | _ => cases rc
  | _ => cases rb

theorem rights_of : ∀ {l : List Ty}, (∀ t ∈ l, Right t) → Rights l
  | [], _ => trivial
  | t :: l, h => ⟨h t (by simp), rights_of fun u hu => h u (by simp [hu])⟩
theorem rights_mem : ∀ {l : List Ty}, Rights l → ∀ t ∈ l, Right t
  | [], _, t, ht => by cases ht
  | u :: l, h, t, ht => by
    rcases List.mem_cons.1 ht with rfl | e
    · exact h.1
    · exact rights_mem h.2 t e
theorem shapes_mem : ∀ {l : List Ty}, shapesT l = true → ∀ t ∈ l, isScalarT t = true ∧ shapeT t = true
  | [], _, t, ht => by cases ht
  | u :: l, h, t, ht => by
    rw [shapesT, Bool.and_eq_true, Bool.and_eq_true] at h
    rcases List.mem_cons.1 ht with rfl | e
    · exact h.1
    · exact shapes_mem h.2 t e
/-- what may stand behind what, in a type that may be -/
theorem okR_of : ∀ (t : Ty) (R : List Ch), Right t → shapeT t = true → OkR R → (headF R = true → isFnT t = false ∧ isArrT t = false) → ((∃ n R', R = .a n :: R') → isFnT t = false) → OkR ((chain t).reverse ++ R)
  | .base _, R, _, _, hR, _, _ => by simpa [chain] using hR
  | .str _, R, _, _, hR, _, _ => by simpa [chain] using hR
  | .ptr t, R, h, hs, hR, _, _ => by
    rw [chain, List.reverse_cons, List.append_assoc, List.singleton_append]
    exact okR_of t (.p :: R) h (by simpa [shapeT] using hs) hR (by simp [headF]) (by rintro ⟨n, R', e⟩; cases e)
  | .arr n t, R, h, hs, hR, h1, _ => by
    rw [chain, List.reverse_cons, List.append_assoc, List.singleton_append]
    simp only [shapeT, Bool.and_eq_true, decide_eq_true_iff] at hs
    refine okR_of t (.a n :: R) h.2 hs.2.2 ⟨hR, ?_⟩ (by simp [headF]) fun _ => ?_
    · rw [Bool.eq_false_iff]; intro e
      have := (h1 e).2
      simp [isArrT] at this
    · have := hs.2.1
      simp only [objectT, Bool.and_eq_true, Bool.not_eq_true'] at this
      exact this.2
  | .fn ps r, R, h, hs, hR, h1, h2 => by
    rw [chain, List.reverse_cons, List.append_assoc, List.singleton_append]
    simp only [shapeT, Bool.and_eq_true, decide_eq_true_iff] at hs
    have hr : isFnT r = false ∧ isArrT r = false := by
      have := hs.2.1
      cases r <;> simp_all [isVoidT, isScalarT, isIntT, isPtrT, isFnT, isArrT]
    refine okR_of r (.f ps :: R) h.2 hs.2.2.1 ⟨hR, ?_, h.1⟩ (fun _ => hr) (by rintro ⟨n, R', e⟩; cases e)
    cases R with
    | nil => rfl
    | cons c R =>
      cases c with
      | p => rfl
      | a n =>
        have := h2 ⟨n, R, rfl⟩
        simp [isFnT] at this
      | f qs =>
        have := (h1 rfl).1
        simp [isFnT] at this
theorem chain_small : ∀ (t : Ty) {ps : List Ty}, Ch.f ps ∈ chain t → Right t → shapeT t = true → (codes ps).length + 1 < (code t).length ∧ Rights ps ∧ shapesT ps = true
  | .base _, ps, h, _, _ => by simp [chain] at h
  | .str _, ps, h, _, _ => by simp [chain] at h
  | .ptr t, ps, h, hr, hs => by
    simp only [chain, List.mem_cons] at h
    rcases h with h | h
    · cases h
    · have := chain_small t h hr (by simpa [shapeT] using hs)
      exact ⟨by rw [code]; simp; omega, this.2⟩
  | .arr n t, ps, h, hr, hs => by
    simp only [chain, List.mem_cons] at h
    simp only [shapeT, Bool.and_eq_true, decide_eq_true_iff] at hs
    rcases h with h | h
    · cases h
    · have := chain_small t h hr.2 hs.2.2
      exact ⟨by rw [code]; simp; omega, this.2⟩
  | .fn qs r, ps, h, hr, hs => by
    simp only [chain, List.mem_cons] at h
    simp only [shapeT, Bool.and_eq_true, decide_eq_true_iff] at hs
    rcases h with h | h
    · cases h
      exact ⟨by rw [code]; simp; omega, hr.1, hs.2.2.2⟩
    · have := chain_small r h hr.2 hs.2.2.1
      exact ⟨by rw [code]; simp; omega, this.2⟩
theorem codes_mem : ∀ {l : List Ty} {t : Ty}, t ∈ l → (code t).length ≤ (codes l).length
  | [], _, h => by cases h
  | u :: [], t, h => by
    rcases List.mem_cons.1 h with rfl | e
    · rw [codes]; simp
    · cases e
  | u :: v :: l, t, h => by
    rw [codes_cons, codes'_cons]
    rcases List.mem_cons.1 h with rfl | e
    · simp
    · have := codes_mem e
      simp; omega
def orVoid (ps : List Ty) : List Ty := if ps = [] then [.base 118] else ps
theorem parsT_orVoid (ps : List Ty) : parsT ps = commaL (declTs (orVoid ps)) ∧ orVoid ps ≠ [] := by
  unfold parsT orVoid
  split
  · exact ⟨by decide, by simp⟩
  · exact ⟨rfl, ‹_›⟩
theorem declTs_ne {l : List Ty} (h : l ≠ []) : declTs l ≠ [] := by
  cases l with
  | nil => exact absurd rfl h
  | cons t l => simp [declTs]
theorem decls_inj : ∀ (l m : List Ty), (∀ t ∈ l, ∀ u ∈ m, declT t [] = declT u [] → t = u) → declTs l = declTs m → l = m
  | [], [], _, _ => rfl
  | [], _ :: _, _, h => by simp [declTs] at h
  | _ :: _, [], _, h => by simp [declTs] at h
  | t :: l, u :: m, hp, h => by
    simp only [declTs, List.cons.injEq] at h
    rw [hp t (by simp) u (by simp) h.1, decls_inj l m (fun a ha b hb => hp a (by simp [ha]) b (by simp [hb])) h.2]
theorem decl_inj : ∀ (n : Nat) (t u : Ty) (s : List UInt8), (code t).length ≤ n → Right t → Right u → shapeT t = true → shapeT u = true → Nm s → declT t s = declT u s → t = u
  | 0, t, _, _, hn, ht, _, _, _, _, _ => by
    obtain ⟨c, l, e, _⟩ := code_head t ht
    rw [e] at hn; simp at hn
  | n + 1, t, u, s, hn, ht, hu, st, su, hs, h => by
    rw [decl_is, decl_is] at h
    obtain ⟨h1, h2⟩ := fin_inj (root_ok ht).1 (root_ok hu).1 (root_ok ht).2 (root_ok hu).2 h
    have o1 := okR_of t [] ht st trivial (by simp [headF]) (by simp)
    have o2 := okR_of u [] hu su trivial (by simp [headF]) (by simp)
    rw [List.append_nil] at o1 o2
    have hp : ∀ ps qs, Ch.f ps ∈ (chain t).reverse → Ch.f qs ∈ (chain u).reverse → parsT ps = parsT qs → ps = qs := by
      intro ps qs hp hq he
      obtain ⟨p1, p2, p3⟩ := chain_small t (List.mem_reverse.1 hp) ht st
      obtain ⟨_, q2, q3⟩ := chain_small u (List.mem_reverse.1 hq) hu su
      rw [(parsT_orVoid ps).1, (parsT_orVoid qs).1] at he
      have hv : Right (.base 118) ∧ shapeT (.base 118) = true ∧ isVoidT (.base 118) = true := ⟨show isBase 118 = true by decide, by rw [shapeT], by decide⟩
      have mem : ∀ {ps : List Ty}, Rights ps → shapesT ps = true → ∀ t ∈ orVoid ps, Right t ∧ shapeT t = true ∧ (code t).length ≤ (codes ps).length + 1 ∧ (ps ≠ [] → isVoidT t = false) := by
        intro ps h1 h2 t ht
        unfold orVoid at ht
        split at ht
        · obtain rfl := List.mem_singleton.1 ht
          exact ⟨hv.1, hv.2.1, by simp [code], fun h => absurd ‹_› h⟩
        · have h3 := shapes_mem h2 t ht
          refine ⟨rights_mem h1 t ht, h3.2, by have := codes_mem ht; omega, fun _ => ?_⟩
          have h4 := h3.1
          cases t with
          | base c =>
            simp only [isVoidT, decide_eq_false_iff_not]
            rintro rfl
            exact absurd h4 (by decide)
          | _ => rfl
      have bal : ∀ {ps : List Ty}, Rights ps → Rights (orVoid ps) := fun h => by
        unfold orVoid
        split
        · exact ⟨hv.1, trivial⟩
        · exact h
      have key := comma_inj _ _ (declTs_ne (parsT_orVoid ps).2) (declTs_ne (parsT_orVoid qs).2) (decls_bal _ (bal p2)) (decls_bal _ (bal q2)) he
      have e : orVoid ps = orVoid qs := decls_inj _ _ (fun a ha b hb hab => by
        have a1 := mem p2 p3 a ha
        have b1 := mem q2 q3 b hb
        exact decl_inj n a b [] (by omega) a1.1 b1.1 a1.2.1 b1.2.1 (fun c hc => by cases hc) hab) key
      by_cases hp0 : ps = [] <;> by_cases hq0 : qs = []
      · rw [hp0, hq0]
      · exfalso
        have := (mem q2 q3 (.base 118) (by rw [← e, orVoid, if_pos hp0]; simp)).2.2.2 hq0
        rw [hv.2.2] at this; cases this
      · exfalso
        have := (mem p2 p3 (.base 118) (by rw [e, orVoid, if_pos hq0]; simp)).2.2.2 hp0
        rw [hv.2.2] at this; cases this
      · rwa [orVoid, orVoid, if_neg hp0, if_neg hq0] at e
    have := strR_inj _ _ false s hs o1 o2 (fun e => by cases e) hp h2
    exact chain_root (by simpa using this) h1
/-- two types that may be are written the same if they are the same -/
theorem told {t u : Ty} {s : List UInt8} (ht : Right t) (hu : Right u) (st : shapeT t = true) (su : shapeT u = true) (hs : Nm s) : declT t s = declT u s ↔ t = u :=
  ⟨decl_inj _ t u s (Nat.le_refl _) ht hu st su hs, fun h => by rw [h]⟩

end Go.Proofs.YtmmjmppfmjejkaaDoor
