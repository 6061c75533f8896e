/- The program's tokens, as the statements ask for them; what the statements begin with. · What the rows' lists give: all tables and variables that the reader leans on; a world in which they stand so. · The rows' last step, alike for all laws: the arguments read as before in any world that keeps what lay below; what the bound on the bulk gives. · Types as trees; their codes; a code is read. Plain: nothing of the program. · What is told of types: shapes, sizes, structs. Plain: nothing of the program. -/
import Derived.Test.YtkokdafkjjcgoaaGreatDoorTokens
import Derived.Test.YtkokdafkjjcgoaaGreatDoorMg3
import Derived.LaidLaws
import Derived.Test.YtkokdafkjjcgoaaGreatDoorRows
import Derived.Test.YtkokdafkjjcgoaaGreatDoorMg1
import Derived.ProofKit
import Derived.OpenShut
import Derived.JoinedCond
import Derived.Lib.Hide
import Derived.Lib.ItoaNum
namespace Go.Proofs.YtkokdafkjjcgoaaGreatDoor
open Go.RowKit

/-- the library's own bound holds some number -/
theorem maxl_shaped {w : World} (h : w.ShapedOpen Tryz.prog) : MaxLenAt w := Tryz.laysM143.s1_3 w h

end Go.Proofs.YtkokdafkjjcgoaaGreatDoor
namespace Go.Proofs.YtkokdafkjjcgoaaGreatDoor
open Go.RowKit

theorem errSG : Tryz.prog.globalNamed "strconv.ErrSyntax" = some 4 := by kernel_rfl
theorem errST : (Tryz.prog.globals[4]?).map (·.type) = some 126 := by kernel_rfl
theorem errRG : Tryz.prog.globalNamed "strconv.ErrRange" = some 5 := by kernel_rfl
theorem errRT : (Tryz.prog.globals[5]?).map (·.type) = some 126 := by kernel_rfl

theorem err_laid {w : World} {l : List (String × DataW Unit)} {n nm : String} {g : Nat} {d : DataW Unit} (h : laidMet Tryz.prog l w) (hG : Tryz.prog.globalNamed n = some g) (hT : (Tryz.prog.globals[g]?).map (·.type) = some 126) (hm : (n, DataW.iface nm d) ∈ l) :
    ∃ ev, w.cell? ⟨g, 0, none⟩ = some ev ∧ (ev = .nilIface ∨ ∃ te pe, ev = .iface te pe) := by
  obtain ⟨ps, hv, _⟩ := h
  obtain ⟨g', t, cs, fuel, p, h1, h2, h3, h4⟩ := laidVars_mem hv _ _ hm
  obtain rfl := Option.some.inj (hG.symm.trans h1)
  obtain rfl := Option.some.inj (hT.symm.trans h2)
  obtain ⟨_, u, v, hc, _⟩ := iface_of_trod Tryz.underlying126 h4
  refine ⟨.iface u v, ?_, .inr ⟨u, v, rfl⟩⟩
  rw [World.var?_cell hG h3 0]
  have : cs.toList[0]? = some (.iface u v) := by rw [hc]; rfl
  simpa using this

theorem env_laid {w : World} {l : List (String × DataW Unit)} (h : laidMet Tryz.prog l w) (hs : w.ShapedOpen Tryz.prog) (h1 : ("strconv.ErrRange", Rows.laid_strconv_ErrRange) ∈ l) (h2 : ("strconv.ErrSyntax", Rows.laid_strconv_ErrSyntax) ∈ l)
    (h3 : ("catapult/lex.keys", Rows.laid_catapult_lex_keys) ∈ l) (h4 : ("catapult/lex.marks", Rows.laid_catapult_lex_marks) ∈ l) : Env w :=
  ⟨keys_laid h h3, marks_laid h h4, ⟨err_laid h errSG errST h2, err_laid h errRG errRT h1⟩, maxl_shaped hs⟩

/-- the cells of a table, off what it reads as -/
def tabCells : DataW Unit → Array Value
  | .agg l => (l.map fun d => match d with
    | .lit (.int k n) => Value.int k n
    | .lit (.string s) => Value.string ⟨s.toArray⟩
    | _ => Value.bool false).toArray
  | _ => #[]

/-- a world for the witness: the settled one, with two blocks more (the errors' texts), the listed variables as they are laid -/
noncomputable def envWorld (os : Os) : World :=
  let N := (World.settled Tryz.prog os).heap.size
  let w0 := World.holding Tryz.prog os ⟨#[.cells #[.string ⟨#[118, 97, 108, 117, 101, 32, 111, 117, 116, 32, 111, 102, 32, 114, 97, 110, 103, 101]⟩] 301, .cells #[.string ⟨#[105, 110, 118, 97, 108, 105, 100, 32, 115, 121, 110, 116, 97, 120]⟩] 301], #[], []⟩
  let put (h : Array Obj) (g : Nat) (cs : Array Value) : Array Obj := h.modify g fun
    | .cells _ t frozen => .cells cs t frozen
    | o => o
  let h0 := put (put w0.heap 1 (keyT.map Value.string).toArray) 0 (markT.map Value.string).toArray
  let h1 := put h0 3 ((List.range 20).map fun i => Value.int .u64 ((10 ^ i : Nat) : Int)).toArray
  let h2 := put (put h1 6 (tabCells Rows.laid_math_bits_deBruijn32tab)) 7 (tabCells Rows.laid_math_bits_deBruijn64tab)
  let h3 := put (put h2 5 #[.iface 299 (.pointer (some ⟨N, 0, none⟩))]) 4 #[.iface 299 (.pointer (some ⟨N + 1, 0, none⟩))]
  { w0 with heap := h3 }

end Go.Proofs.YtkokdafkjjcgoaaGreatDoor
namespace Go.Proofs.YtkokdafkjjcgoaaGreatDoor
open Go.ChangeShapes Go.WideShapes Go.ChangeAt Go.RowKit

theorem laidOut : laidOutB Tryz.prog = true := by kernel_rfl

section
variable {H : Type} {enc : TypeId × Value → H}
theorem all_stays {W W' : World} (hb : Below W.heap.size W W') : ∀ {ts : List TypeId} {vs : List Value} {ds : List (DataW H)} {ps : List MemPlace}, DataW.TrodAll enc Tryz.prog W 0 (fun _ => true) true ts vs ds ps →
    (∀ t ∈ ts, Tryz.prog.readableRec t = true ∧ t < Tryz.prog.types.size) → (∀ x ∈ ps, x.block < W.heap.size) → DataW.TrodAll enc Tryz.prog W' 0 (fun b => decide (b < W.heap.size)) true ts vs ds ps
  | [], vs, ds, ps, h, _, _ => by
    obtain ⟨rfl, rfl, rfl⟩ := trodAll_nil h
    exact trodAll_mk0
  | t :: ts, vs, ds, ps, h, ht, hx => by
    obtain ⟨v0, vs0, d0, ds0, p0, q0, rfl, rfl, rfl, h0, r0⟩ := trodAll_cons h
    have h1 := Below.trod laidOut (ht t (by simp)).1 (ht t (by simp)).2 h0 hb (fun x hxm => hx x (List.mem_append.2 (Or.inl hxm)))
    have h2 := all_stays hb r0 (fun u hu => ht u (by simp [hu])) (fun x hxm => hx x (List.mem_append.2 (Or.inr hxm)))
    exact trodAll_cons_mk h1 h2

/-- the last step of a law that tells 'true' -/
theorem law_post {f : Func} {s : ChangeSpec} {W W' : World} {args : Array Value} {ds : List (DataW H)} {before : List MemPlace}
    (hW : DataW.Whole enc Tryz.prog f.params.toList s.vars false W args.toList ds [] before) (hv : s.vars = []) (hr : f.resultTypes.toList = [4]) (hsz : f.resultTypes.size = 1)
    (hts : ∀ t ∈ f.params.toList, Tryz.prog.readableRec t = true ∧ t < Tryz.prog.types.size)
    (hfn : s.fn H (ds ++ []) = { results := [.lit (.bool true)], args := ds }) (hb : Below W.heap.size W W') : s.post enc Tryz.prog f false true false false W args (.bool true) W' := by
  have hlt : ∀ p ∈ before, p.block < W.heap.size := fun p hp => hW.lt p hp
  have hW0 := hW
  obtain ⟨p, q, hA, hV, rfl, _, _⟩ := hW0
  rw [hv] at hV
  obtain ⟨_, rfl⟩ := trodVars_none hV
  refine ⟨ds, [], p ++ [], [], p, [], hW, ?_, ?_, ?_, World.keptBut_mono (fun x hx => ⟨hx, Or.inr ?_⟩) (hb.frame (· ∈ p ++ [])), fun h => by cases h⟩
  · rw [hfn, hr, hsz]
    exact trodAll_cons_mk (shut_bool Tryz.underlying4 _) trodAll_mk0
  · rw [hfn]
    exact all_stays hb hA hts (fun x hx => hlt x (by simp [hx]))
  · rw [hfn, hv]
    exact rfl
  · exact List.mem_append.1 hx
end

end Go.Proofs.YtkokdafkjjcgoaaGreatDoor
namespace Go.Proofs.YtkokdafkjjcgoaaGreatDoor

inductive Ty where
  | base (c : UInt8)
  | ptr (t : Ty)
  | arr (n : Nat) (t : Ty)
  | str (s : List UInt8)
  | fn (ps : List Ty) (r : Ty)

/-- the number that digits are -/
def valT (l : List UInt8) : Nat := l.foldl (fun n c => 10 * n + (c.toNat - 48)) 0
/-- a number in a code: 0, or without a 0 ahead, at most 2^40 -/
def numT (l : List UInt8) : Option Nat :=
  if l = [] ∨ 15 < l.length ∨ (1 < l.length ∧ l.head? = some 48) then none
  else if l.all digB = true ∧ valT l ≤ 1099511627776 then some (valT l) else none
/-- what stands ahead of a byte, and what behind it -/
def cutAt (c : UInt8) : List UInt8 → Option (List UInt8 × List UInt8)
  | [] => none
  | x :: l => if x = c then some ([], l) else (cutAt c l).map fun q => (x :: q.1, q.2)
def isBase (c : UInt8) : Bool := [118, 99, 115, 105, 117, 106].contains c
/-- a name -/
def nameL (l : List UInt8) : Bool := isNameB ⟨l.toArray⟩

/-- what stands behind a byte that comes -/
def behind (c : UInt8) : List UInt8 → Option (List UInt8)
  | [] => none
  | x :: l => if x = c then some l else none
theorem behind_some {c : UInt8} {l r : List UInt8} (h : behind c l = some r) : l = c :: r := by
  match l, h with
  | [], h => cases h
  | x :: l, h =>
    rw [behind] at h
    split at h
    · rename_i e; rw [e, Option.some.inj h]
    · cases h

mutual
/-- the type with which bytes begin, and what is left -/
def tyF : Nat → List UInt8 → Option (Ty × List UInt8)
  | 0, _ => none
  | _ + 1, [] => none
  | k + 1, c :: l =>
    if isBase c = true then some (.base c, l)
    else if c = 112 then (tyF k l).map fun q => (.ptr q.1, q.2)
    else if c = 97 then
      (cutAt 58 l).bind fun q => (numT q.1).bind fun n => (tyF k q.2).map fun x => (.arr n x.1, x.2)
    else if c = 83 then (cutAt 59 l).bind fun q => if nameL q.1 = true then some (.str q.1, q.2) else none
    else if c = 102 then (behind 40 l).bind fun r => (parsF k r).bind fun q => (tyF k q.2).map fun x => (.fn q.1 x.1, x.2)
    else none
/-- a function's parameters, and what is left behind the bracket -/
def parsF : Nat → List UInt8 → Option (List Ty × List UInt8)
  | 0, _ => none
  | _ + 1, [] => none
  | k + 1, c :: r => if c = 41 then some ([], r) else moreF k (c :: r)
/-- one parameter, and those behind it -/
def moreF : Nat → List UInt8 → Option (List Ty × List UInt8)
  | 0, _ => none
  | k + 1, l =>
    (tyF k l).bind fun q => match q.2 with
    | 41 :: r => some ([q.1], r)
    | 44 :: r => (moreF k r).map fun x => (q.1 :: x.1, x.2)
    | _ => none
end

mutual
/-- a type's code -/
def code : Ty → List UInt8
  | .base c => [c]
  | .ptr t => 112 :: code t
  | .arr n t => 97 :: (Lib.decDigits n ++ 58 :: code t)
  | .str s => 83 :: (s ++ [59])
  | .fn ps r => 102 :: 40 :: (codes ps ++ 41 :: code r)
def codes : List Ty → List UInt8
  | [] => []
  | t :: l => code t ++ codes' l
def codes' : List Ty → List UInt8
  | [] => []
  | t :: l => 44 :: (code t ++ codes' l)
end

mutual
def Right : Ty → Prop
  | .base c => isBase c = true
  | .ptr t => Right t
  | .arr n t => n ≤ 1099511627776 ∧ Right t
  | .str s => nameL s = true
  | .fn ps r => Rights ps ∧ Right r
def Rights : List Ty → Prop
  | [] => True
  | t :: l => Right t ∧ Rights l
end

mutual
/-- how deep -/
def deepT : Ty → Nat
  | .base _ => 1
  | .ptr t => deepT t + 1
  | .arr _ t => deepT t + 1
  | .str _ => 1
  | .fn ps r => max (deepL ps) (deepT r) + 1
def deepL : List Ty → Nat
  | [] => 0
  | t :: l => max (deepT t) (deepL l)
end

theorem cutAt_some {c : UInt8} : ∀ {l w r : List UInt8}, cutAt c l = some (w, r) → l = w ++ c :: r ∧ c ∉ w
  | [], w, r, h => by cases h
  | x :: l, w, r, h => by
    rw [cutAt] at h
    split at h
    · rename_i e
      simp only [Option.some.injEq, Prod.mk.injEq] at h
      obtain ⟨rfl, rfl⟩ := h
      subst e
      simp
    · rename_i e
      rw [Option.map_eq_some_iff] at h
      obtain ⟨⟨w', r'⟩, h1, h2⟩ := h
      simp only [Prod.mk.injEq] at h2
      obtain ⟨rfl, rfl⟩ := h2
      obtain ⟨rfl, h3⟩ := cutAt_some h1
      exact ⟨rfl, by simp [h3]; exact fun e' => e e'.symm⟩
theorem cutAt_mk {c : UInt8} : ∀ {w r : List UInt8}, c ∉ w → cutAt c (w ++ c :: r) = some (w, r)
  | [], r, _ => by simp [cutAt]
  | x :: w, r, h => by
    rw [List.cons_append, cutAt, if_neg (fun e => h (by simp [e])), cutAt_mk (fun e => h (by simp [e]))]
    rfl
theorem cutAt_none {c : UInt8} : ∀ {l : List UInt8}, cutAt c l = none ↔ c ∉ l
  | [] => by simp [cutAt]
  | x :: l => by
    rw [cutAt]
    split
    · rename_i e; simp [e]
    · rename_i e
      rw [Option.map_eq_none_iff, cutAt_none]
      simp
      exact fun _ e' => e e'.symm

theorem valT_snoc (l : List UInt8) (c : UInt8) : valT (l ++ [c]) = 10 * valT l + (c.toNat - 48) := by simp [valT, List.foldl_append]
theorem digit_ofNat {c : UInt8} (h : digB c = true) : UInt8.ofNat (48 + (c.toNat - 48) % 10) = c := by
  unfold digB at h
  rw [decide_eq_true_iff] at h
  have : 48 + (c.toNat - 48) % 10 = c.toNat := by omega
  rw [this]; simp
/-- digits without a 0 ahead are those of their number -/
theorem dec_of : ∀ (n : Nat) (l : List UInt8), l.length = n → l ≠ [] → l.all digB = true → (1 < l.length → l.head? ≠ some 48) → Lib.decDigits (valT l) = l
  | 0, l, hn, h0, _, _ => by simp at hn; exact absurd hn h0
  | n + 1, l, hn, h0, hd, h1 => by
    rcases List.eq_nil_or_concat l with rfl | ⟨m, c, rfl⟩
    · exact absurd rfl h0
    · rw [List.concat_eq_append] at *
      rw [List.all_append, Bool.and_eq_true] at hd
      obtain ⟨hm, hc⟩ := hd
      have hc' : digB c = true := by simpa using hc
      have hd := digit_ofNat hc'
      have hb : c.toNat - 48 < 10 := by unfold digB at hc'; rw [decide_eq_true_iff] at hc'; omega
      rw [valT_snoc]
      by_cases hm0 : m = []
      · subst hm0
        have hv : valT [] = 0 := rfl
        rw [hv, Lib.decDigits, dif_pos (by omega)]
        rw [Nat.mod_eq_of_lt hb] at hd
        simp [hd]
      · have hl : 1 < (m ++ [c]).length := by
          have := List.length_pos_iff.2 hm0
          simp; omega
        have hh := h1 hl
        rw [List.head?_append, List.head?_eq_some_head hm0] at hh
        have ih := dec_of n m (by simpa using hn) hm0 hm (fun _ => by rw [List.head?_eq_some_head hm0]; simpa using hh)
        have hv : valT m ≠ 0 := fun e => by
          rw [e, Lib.decDigits, dif_pos (by omega)] at ih
          subst ih
          simp at hh
        rw [Lib.decDigits, dif_neg (by omega), show (10 * valT m + (c.toNat - 48)) / 10 = valT m by omega, ih, show (10 * valT m + (c.toNat - 48)) % 10 = (c.toNat - 48) % 10 by omega, hd]
theorem dec_digits (n : Nat) : (Lib.decDigits n).all digB = true ∧ valT (Lib.decDigits n) = n ∧ Lib.decDigits n ≠ [] ∧ (1 < (Lib.decDigits n).length → (Lib.decDigits n).head? ≠ some 48) ∧ (0 < n → (Lib.decDigits n).head? ≠ some 48) := by
  induction n using Nat.strongRecOn with
  | ind n ih =>
    have hk : ∀ d, d < 10 → (UInt8.ofNat (48 + d)).toNat = 48 + d := fun d h => by
      rw [UInt8.toNat_ofNat']; omega
    rw [Lib.decDigits]
    split
    · rename_i h
      have := hk n h
      refine ⟨by rw [List.all_cons, digB, this]; simp; omega, by show 10 * 0 + ((UInt8.ofNat (48 + n)).toNat - 48) = n; rw [this]; omega, by simp, by simp, fun h0 => ?_⟩
      simp only [List.head?_cons, ne_eq, Option.some.injEq]
      intro e
      have e' := congrArg UInt8.toNat e
      rw [this] at e'
      simp at e'
      omega
    · rename_i h
      obtain ⟨h1, h2, h3, h4, h5⟩ := ih (n / 10) (by omega)
      have := hk (n % 10) (by omega)
      have hh : (Lib.decDigits (n / 10) ++ [UInt8.ofNat (48 + n % 10)]).head? ≠ some 48 := by
        rw [List.head?_append, List.head?_eq_some_head h3]
        have := h5 (by omega)
        rw [List.head?_eq_some_head h3] at this
        simpa using this
      refine ⟨?_, ?_, by simp, fun _ => hh, fun _ => hh⟩
      · rw [List.all_append, h1, List.all_cons, digB, this]; simp; omega
      · rw [valT_snoc, h2, this]; omega
theorem dec_len {n : Nat} (hn : n ≤ 1099511627776) : (Lib.decDigits n).length ≤ 15 := by
  have key : ∀ (d u : Nat), u < 10 ^ d → 1 ≤ d → (Lib.decDigits u).length ≤ d := by
    intro d
    induction d with
    | zero => intro u _ h; omega
    | succ d ih =>
      intro u hu _
      rw [Lib.decDigits]
      split
      · simp
      · rename_i h10
        have h1 : 1 ≤ d := by
          rcases Nat.eq_zero_or_pos d with rfl | h
          · simp at hu; omega
          · exact h
        have := ih (u / 10) (by rw [Nat.pow_succ] at hu; omega) h1
        simp only [List.length_append, List.length_cons, List.length_nil]
        omega
  exact key 15 n (by omega) (by decide)
theorem numT_some {l : List UInt8} {n : Nat} (h : numT l = some n) : l = Lib.decDigits n ∧ n ≤ 1099511627776 := by
  unfold numT at h
  split at h
  · cases h
  · rename_i h1
    split at h
    · rename_i h2
      obtain rfl := Option.some.inj h
      have h3 : l ≠ [] := fun e => h1 (.inl e)
      exact ⟨(dec_of _ l rfl h3 h2.1 (fun a b => h1 (.inr (.inr ⟨a, b⟩)))).symm, h2.2⟩
    · cases h
theorem numT_mk {n : Nat} (hn : n ≤ 1099511627776) : numT (Lib.decDigits n) = some n := by
  obtain ⟨h1, h2, h3, h4, _⟩ := dec_digits n
  have h5 := dec_len hn
  unfold numT
  rw [if_neg (by rintro (h | h | h); exact h3 h; omega; exact h4 h.1 h.2), if_pos ⟨h1, by rw [h2]; exact hn⟩, h2]

theorem base_ne {c : UInt8} (h : isBase c = true) : c ≠ 41 ∧ c ≠ 44 ∧ c ≠ 112 ∧ c ≠ 97 ∧ c ≠ 83 ∧ c ≠ 102 ∧ c ≠ 58 ∧ c ≠ 59 := by
  unfold isBase at h
  rw [List.contains_iff_mem] at h
  simp at h
  rcases h with rfl | rfl | rfl | rfl | rfl | rfl <;> decide
theorem codes_cons (t : Ty) (l : List Ty) : codes (t :: l) = code t ++ codes' l := by rw [codes]
theorem codes'_cons (t : Ty) (l : List Ty) : codes' (t :: l) = 44 :: codes (t :: l) := by rw [codes', codes]

theorem tyF_code : ∀ k, (∀ l t r, tyF k l = some (t, r) → l = code t ++ r ∧ Right t) ∧ (∀ l ps r, parsF k l = some (ps, r) → l = codes ps ++ 41 :: r ∧ Rights ps) ∧ (∀ l ps r, moreF k l = some (ps, r) → l = codes ps ++ 41 :: r ∧ Rights ps ∧ ps ≠ [])
  | 0 => ⟨(fun l t r h => by rw [tyF] at h; cases h), (fun l t r h => by rw [parsF] at h; cases h), (fun l t r h => by rw [moreF] at h; cases h)⟩
  | k + 1 => by
    obtain ⟨i1, i2, i3⟩ := tyF_code k
    refine ⟨?_, ?_, ?_⟩
    · intro l t r h
      match l, h with
      | [], h => rw [tyF] at h; cases h
      | c :: l, h =>
        rw [tyF] at h
        split at h
        · rename_i hb
          obtain ⟨rfl, rfl⟩ := Prod.mk.inj (Option.some.inj h)
          exact ⟨rfl, hb⟩
        · split at h
          · rename_i hc
            subst hc
            obtain ⟨⟨t', r'⟩, h1, h2⟩ := Option.map_eq_some_iff.1 h
            obtain ⟨rfl, rfl⟩ := Prod.mk.inj h2
            obtain ⟨rfl, h3⟩ := i1 _ _ _ h1
            exact ⟨rfl, h3⟩
          · split at h
            · rename_i hc
              subst hc
              obtain ⟨⟨w, q⟩, h1, h2⟩ := Option.bind_eq_some_iff.1 h
              obtain ⟨n, h3, h4⟩ := Option.bind_eq_some_iff.1 h2
              obtain ⟨⟨t', r'⟩, h5, h6⟩ := Option.map_eq_some_iff.1 h4
              obtain ⟨rfl, rfl⟩ := Prod.mk.inj h6
              obtain ⟨rfl, _⟩ := cutAt_some h1
              obtain ⟨rfl, h7⟩ := numT_some h3
              obtain ⟨rfl, h8⟩ := i1 _ _ _ h5
              exact ⟨by simp [code], h7, h8⟩
            · split at h
              · rename_i hc
                subst hc
                obtain ⟨⟨w, q⟩, h1, h2⟩ := Option.bind_eq_some_iff.1 h
                split at h2
                · rename_i hn
                  obtain ⟨rfl, rfl⟩ := Prod.mk.inj (Option.some.inj h2)
                  obtain ⟨rfl, _⟩ := cutAt_some h1
                  exact ⟨by simp [code], hn⟩
                · cases h2
              · split at h
                · rename_i hc
                  subst hc
                  obtain ⟨q, h0, hq⟩ := Option.bind_eq_some_iff.1 h
                  obtain rfl := behind_some h0
                  obtain ⟨⟨ps, x⟩, h1, h2⟩ := Option.bind_eq_some_iff.1 hq
                  obtain ⟨⟨t', r'⟩, h3, h4⟩ := Option.map_eq_some_iff.1 h2
                  obtain ⟨rfl, rfl⟩ := Prod.mk.inj h4
                  obtain ⟨rfl, h5⟩ := i2 _ _ _ h1
                  obtain ⟨h6, h7⟩ := i1 _ _ _ h3
                  simp only at h6
                  subst h6
                  exact ⟨by simp [code], h5, h7⟩
                · cases h
    · intro l ps r h
      match l, h with
      | [], h => rw [parsF] at h; cases h
      | c :: l, h =>
        rw [parsF] at h
        split at h
        · rename_i hc
          obtain ⟨rfl, rfl⟩ := Prod.mk.inj (Option.some.inj h)
          subst hc
          exact ⟨by simp [codes], trivial⟩
        · obtain ⟨h1, h2, _⟩ := i3 _ _ _ h
          exact ⟨h1, h2⟩
    · intro l ps r h
      rw [moreF] at h
      obtain ⟨⟨t, q⟩, h1, h2⟩ := Option.bind_eq_some_iff.1 h
      obtain ⟨rfl, h3⟩ := i1 _ _ _ h1
      simp only at h2
      split at h2
      · obtain ⟨rfl, rfl⟩ := Prod.mk.inj (Option.some.inj h2)
        exact ⟨by simp [codes, codes'], ⟨h3, trivial⟩, by simp⟩
      · obtain ⟨⟨ps', r'⟩, h4, h5⟩ := Option.map_eq_some_iff.1 h2
        obtain ⟨rfl, rfl⟩ := Prod.mk.inj h5
        obtain ⟨rfl, h6, h7⟩ := i3 _ _ _ h4
        obtain ⟨t', l', rfl⟩ := List.exists_cons_of_ne_nil h7
        refine ⟨?_, ⟨h3, h6⟩, by simp⟩
        rw [codes_cons t, codes'_cons]; simp
      · cases h2

theorem code_head (t : Ty) (h : Right t) : ∃ c l, code t = c :: l ∧ c ≠ 41 ∧ c ≠ 44 := by
  cases t with
  | base c => exact ⟨c, [], rfl, (base_ne h).1, (base_ne h).2.1⟩
  | ptr t => exact ⟨_, _, rfl, by decide, by decide⟩
  | arr n t => exact ⟨_, _, rfl, by decide, by decide⟩
  | str s => exact ⟨_, _, rfl, by decide, by decide⟩
  | fn ps r => exact ⟨_, _, rfl, by decide, by decide⟩
theorem name_no {s : List UInt8} (h : nameL s = true) : 59 ∉ s ∧ 58 ∉ s ∧ s.length ≤ 31 ∧ s ≠ [] := by
  unfold nameL isNameB at h
  simp only [Bool.and_eq_true, decide_eq_true_iff] at h
  obtain ⟨h0, h1, h2, h3, _⟩ := h
  have e : ByteArray.size ⟨s.toArray⟩ = s.length := by simp [ByteArray.size]
  have e2 : (⟨s.toArray⟩ : ByteArray).data.toList = s := by simp
  rw [e] at h0 h1
  replace h3 : wlen s = s.length := h3
  have key : ∀ c ∈ s, wordB c = true := fun c hc => by
    obtain ⟨k, hk, rfl⟩ := List.getElem_of_mem hc
    obtain ⟨c', h4, h5⟩ := wlen_lt (l := s) (k := k) (by omega)
    rw [List.getElem?_eq_getElem hk] at h4
    obtain rfl := Option.some.inj h4
    exact h5
  exact ⟨fun hm => absurd (key _ hm) (by decide), fun hm => absurd (key _ hm) (by decide), h1, by rintro rfl; simp at h0⟩

mutual
theorem code_tyF : ∀ (t : Ty), Right t → ∀ k r, (code t).length < k → tyF k (code t ++ r) = some (t, r)
  | .base c, h, k + 1, r, _ => by
    rw [code, List.cons_append, tyF, if_pos (show isBase c = true from h)]; rfl
  | .ptr t, h, k + 1, r, hk => by
    rw [code] at hk ⊢
    rw [List.cons_append, tyF, if_neg (by decide), if_pos rfl, code_tyF t h k r (by simpa using hk)]; rfl
  | .arr n t, h, k + 1, r, hk => by
    rw [code] at hk ⊢
    have hc : (58 : UInt8) ∉ Lib.decDigits n := fun hm => by
      have := List.all_eq_true.1 (dec_digits n).1 _ hm
      exact absurd this (by decide)
    rw [List.cons_append, tyF, if_neg (by decide), if_neg (by decide), if_pos rfl, List.append_assoc, List.cons_append, cutAt_mk hc]
    simp only [Option.bind_some, numT_mk h.1]
    rw [code_tyF t h.2 k r (by simp at hk; omega)]; rfl
  | .str s, h, k + 1, r, hk => by
    rw [code, List.cons_append, tyF, if_neg (by decide), if_neg (by decide), if_neg (by decide), if_pos rfl, List.append_assoc, List.singleton_append, cutAt_mk (name_no h).1]
    simp only [Option.bind_some]
    rw [if_pos (show nameL s = true from h)]
  | .fn ps x, h, k + 1, r, hk => by
    rw [code] at hk ⊢
    simp only [List.length_cons, List.length_append] at hk
    rw [List.cons_append, tyF, if_neg (by decide), if_neg (by decide), if_neg (by decide), if_neg (by decide), if_pos rfl]
    simp only [List.cons_append, List.append_assoc, behind, if_true, Option.bind_some]
    rw [code_parsF ps h.1 k _ (by omega)]
    simp only [Option.bind_some]
    rw [code_tyF x h.2 k r (by omega)]; rfl
theorem code_parsF : ∀ (ps : List Ty), Rights ps → ∀ k r, (codes ps).length + 2 < k → parsF k (codes ps ++ 41 :: r) = some (ps, r)
  | [], _, k + 1, r, _ => by
    simp [codes, parsF]
  | t :: l, h, k + 2, r, hk => by
    obtain ⟨c, q, hc, h1, _⟩ := code_head t h.1
    have hm := code_moreF t l h.1 h.2 (k + 1) r (by omega)
    rw [codes_cons] at hm ⊢
    rw [hc] at hm ⊢
    rw [List.cons_append, List.cons_append, parsF, if_neg h1]
    exact hm
theorem code_moreF : ∀ (t : Ty) (l : List Ty), Right t → Rights l → ∀ k r, (codes (t :: l)).length + 1 < k → moreF k (codes (t :: l) ++ 41 :: r) = some (t :: l, r)
  | t, [], ht, hl, k + 1, r, hk => by
    rw [codes_cons, codes', List.append_nil] at *
    rw [moreF, code_tyF t ht k _ (by omega)]; rfl
  | t, t' :: l, ht, hl, k + 1, r, hk => by
    rw [codes_cons, codes'_cons] at *
    simp only [List.length_append, List.length_cons] at hk
    rw [moreF, List.append_assoc, code_tyF t ht k _ (by omega)]
    simp only [Option.bind_some, List.cons_append]
    rw [code_moreF t' l hl.1 hl.2 k r (by omega)]; rfl
end

/-- the type that a text is -/
def tyE (l : List UInt8) : Option Ty := (tyF (2 * l.length + 1) l).bind fun q => if q.2 = [] then some q.1 else none
theorem tyE_some {l : List UInt8} {t : Ty} : tyE l = some t ↔ l = code t ∧ Right t := by
  unfold tyE
  constructor
  · intro h
    obtain ⟨⟨t', r⟩, h1, h2⟩ := Option.bind_eq_some_iff.1 h
    split at h2
    · rename_i e
      simp only at e
      subst e
      obtain rfl := Option.some.inj h2
      have := (tyF_code _).1 _ _ _ h1
      simpa using this
    · cases h2
  · rintro ⟨rfl, h⟩
    have := code_tyF t h (2 * (code t).length + 1) [] (by omega)
    rw [List.append_nil] at this
    rw [this]; rfl
end Go.Proofs.YtkokdafkjjcgoaaGreatDoor
namespace Go.Proofs.YtkokdafkjjcgoaaGreatDoor

def isIntT : Ty → Bool
  | .base c => decide (c = 99 ∨ c = 115 ∨ c = 105 ∨ c = 117)
  | _ => false
def isPtrT : Ty → Bool
  | .ptr _ => true
  | _ => false
def isScalarT (t : Ty) : Bool := isIntT t || isPtrT t
def isFnT : Ty → Bool
  | .fn _ _ => true
  | _ => false
def isVoidT : Ty → Bool
  | .base c => decide (c = 118)
  | _ => false
def objectT (t : Ty) : Bool := !isVoidT t && !isFnT t
mutual
def shapeT : Ty → Bool
  | .base _ => true
  | .ptr t => shapeT t
  | .arr n t => decide (1 ≤ n ∧ n ≤ 65536) && (objectT t && shapeT t)
  | .str _ => true
  | .fn ps r => decide (ps.length ≤ 8) && ((isVoidT r || isScalarT r) && (shapeT r && shapesT ps))
def shapesT : List Ty → Bool
  | [] => true
  | t :: l => (isScalarT t && shapeT t) && shapesT l
end

/-- a struct as it comes: its name, its members' names and types -/
structure Sr where
  name : ByteArray
  mems : List (ByteArray × ByteArray)
/-- a struct that is right: also its bytes and its alignment -/
structure Kn extends Sr where
  size : Nat
  align : Nat
def findK (K : List Kn) (s : List UInt8) : Option Nat := K.findIdx? fun k => decide (k.name.data.toList = s)
/-- the structs are given that a type names, but behind pointers -/
def thereT (K : List Kn) : Ty → Bool
  | .arr _ t => thereT K t
  | .str s => (findK K s).isSome
  | _ => true
/-- bytes and alignment -/
def measT (K : List Kn) : Ty → Nat × Nat
  | .base c => if c = 99 then (1, 1) else if c = 115 then (2, 2) else if c = 106 then (64, 4) else (4, 4)
  | .ptr _ => (4, 4)
  | .arr n t => (n * (measT K t).1, (measT K t).2)
  | .str s => match (findK K s).bind (K[·]?) with
    | some k => (k.size, k.align)
    | none => (4, 4)
  | .fn _ _ => (4, 4)
mutual
def sizedT (K : List Kn) : Ty → Bool
  | .base _ => true
  | .ptr t => sizedT K t
  | .arr n t => sizedT K t && (!thereT K t || decide (n * (measT K t).1 ≤ 65536))
  | .str _ => true
  | .fn ps r => sizedT K r && sizedsT K ps
def sizedsT (K : List Kn) : List Ty → Bool
  | [] => true
  | t :: l => sizedT K t && sizedsT K l
end
/-- the type that a text is -/
def tyS (s : ByteArray) : Option Ty := if s.size ≤ 65536 then tyE s.data.toList else none
/-- what is wrong with a type: 0: nothing -/
def checkT (K : List Kn) (t : Ty) : Int := if 48 < deepT t then 3 else if shapeT t = false then 5 else if thereT K t = false then 4 else if sizedT K t = false then 3 else 0
def checkS (K : List Kn) (s : ByteArray) : Int := match tyS s with
  | none => 2
  | some t => checkT K t
end Go.Proofs.YtkokdafkjjcgoaaGreatDoor
