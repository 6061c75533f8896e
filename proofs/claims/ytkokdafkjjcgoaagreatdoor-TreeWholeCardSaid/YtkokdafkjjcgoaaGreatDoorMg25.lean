/- What a right tree is laid out as: its tokens are right, and not too many. Plain. · The walk of LexTokens. · Words put on a paper: the program. · What a right statement is laid out as: its tokens are right, and not too many. Plain. -/
import Derived.Test.YtkokdafkjjcgoaaGreatDoorMg24
import Derived.Test.YtkokdafkjjcgoaaGreatDoorMg3
import Derived.Test.YtkokdafkjjcgoaaGreatDoorMg23
import Derived.Test.YtkokdafkjjcgoaaGreatDoorMg6
import Derived.Test.YtkokdafkjjcgoaaGreatDoorMg7
import Derived.Laws.AppendOwn
import Derived.Deep.LoopGhost
import Derived.Deep.CutBlock
import Derived.Test.YtkokdafkjjcgoaaGreatDoorMg8
import Derived.Deep.DeepCutAuto
import Derived.Test.YtkokdafkjjcgoaaGreatDoorTokens
import Derived.Test.YtkokdafkjjcgoaaGreatDoorMg12
import Derived.Deep.AppendLies
import Derived.Test.YtkokdafkjjcgoaaGreatDoorDeclare
namespace Go.Proofs.YtkokdafkjjcgoaaGreatDoor

theorem toksE_len (s : ByteArray) : (toksE s).length ≤ 16384 := by
  unfold toksE
  rcases h : tokE s with L | _
  · exact tokL_len _ _ _ _ (tokE_good h).2.1 (by simp)
  · exact Nat.zero_le _
def AllG (L : List Tok) : Prop := ∀ x ∈ L, goodB x = true
theorem AllG.nil : AllG [] := fun _ h => by cases h
theorem AllG.cons {x : Tok} {L : List Tok} (h : goodB x = true) (h' : AllG L) : AllG (x :: L) := fun y hy => by
  rcases List.mem_cons.1 hy with rfl | hy
  · exact h
  · exact h' y hy
theorem AllG.app {L M : List Tok} (h : AllG L) (h' : AllG M) : AllG (L ++ M) := fun y hy => (List.mem_append.1 hy).elim (h y) (h' y)
theorem AllG.ite {c : Prop} [Decidable c] {L M : List Tok} (h : c → AllG L) (h' : ¬ c → AllG M) : AllG (if c then L else M) := by
  by_cases e : c
  · rw [if_pos e]; exact h e
  · rw [if_neg e]; exact h' e
theorem AllG.flat {α : Type} {l : List α} {f : α → List Tok} (h : ∀ x ∈ l, AllG (f x)) : AllG (l.flatMap f) := fun y hy => by
  obtain ⟨x, hx, hy⟩ := List.mem_flatMap.1 hy
  exact h x hx y hy
theorem AllG.at {l : List Nat} {f : Nat → List Tok} (h : ∀ p ∈ l, AllG (f p)) (i : Nat) : AllG (atF l f i) := by
  unfold atF
  cases hi : l[i]? with
  | none => exact .nil
  | some p => exact h p (List.mem_of_getElem? hi)
theorem toksE_good (s : ByteArray) : AllG (toksE s) := by
  unfold toksE
  rcases h : tokE s with L | _
  · exact (tokL_okay _ _ _ _ (tokE_good h).2.1 (fun _ h => by cases h) trivial).1
  · exact .nil
theorem good_M {s : ByteArray} (h : Lib.containsS markT s = true) : goodB (tkM s) = true := by simp [goodB, tkM, h]
theorem good_K {s : ByteArray} (h : isKeyB s = true) : goodB (tkK s) = true := by simp [goodB, tkK, h]
theorem good_N {s : ByteArray} (h : isNameB s = true) : goodB (tkN s) = true := by simp [goodB, tkN, h]
theorem good_S {s : ByteArray} (h : s.size ≤ 4096) : goodB (tkS s) = true := by simp [goodB, tkS, h]
theorem rowF_good {l : List Nat} {f : Nat → List Tok} (h : ∀ p ∈ l, AllG (f p)) (n : Nat) : AllG (rowF l f n) :=
  .flat fun i _ => .app (.ite (fun _ => .cons (good_M (by decide)) .nil) fun _ => .nil) (.at h i)
theorem partF_good {t : List Nd} {e : Nat → List Tok} {due : Int} {p : Nat} (h : AllG (e p)) : AllG (partF t e due p) :=
  .ite (fun _ => h) fun _ => .cons (good_M (by decide)) (.app h (.cons (good_M (by decide)) .nil))
theorem declK_good (s n : ByteArray) : AllG (declK s n) := toksE_good _
theorem brkT_good (s : ByteArray) : AllG (brkT s) := .cons (good_M (by decide)) (.app (declK_good _ _) (.cons (good_M (by decide)) .nil))
theorem marks_in (k : Int) : ∀ x ∈ marksN k, Lib.containsS markT x = true := by
  unfold marksN marksB
  repeat' split
  all_goals decide
theorem ndM_good {x : Nd} (h : wellN x = true) (hk : x.kind = 4 ∨ x.kind = 5 ∨ x.kind = 6 ∨ x.kind = 7 ∨ x.kind = 8) : goodB (tkM x.text) = true := by
  unfold wellN bodyOk at h
  rw [if_neg (by omega), if_neg (by omega), if_neg (by omega), if_neg (by omega), if_pos hk] at h
  simp only [Bool.and_eq_true] at h
  exact good_M (marks_in _ _ ((Lib.containsS_iff _ _).1 h.2.2.1))
theorem ndN_good {x : Nd} (h : wellN x = true) (hk : x.kind = 3 ∨ x.kind = 13 ∨ x.kind = 14) : goodB (tkN x.text) = true := by
  unfold wellN bodyOk at h
  rw [if_neg (by omega), if_neg (by omega), if_pos hk] at h
  simp only [Bool.and_eq_true] at h
  exact good_N h.2.2.1
theorem ndS_good {x : Nd} (h : wellN x = true) (hk : x.kind = 2) : goodB (tkS x.text) = true := by
  unfold wellN bodyOk at h
  rw [if_neg (by omega), if_pos hk] at h
  simp only [Bool.and_eq_true, decide_eq_true_eq] at h
  exact good_S h.2.2.1
theorem ndI_good {x : Nd} (h : wellN x = true) (hk : x.kind = 1) : goodB (tkI x) = true := by
  unfold wellN at h
  rw [if_pos hk] at h
  simp only [Bool.and_eq_true] at h
  have h1 := h.2.1
  unfold numberN at h1
  unfold goodB goodNum tkI
  rw [if_pos rfl]
  by_cases hu : x.type = ⟨#[117]⟩
  · rw [if_pos hu] at h1 ⊢
    rw [if_pos (show (⟨#[117]⟩ : ByteArray) = uText from rfl)]
    exact h1
  · rw [if_neg hu] at h1 ⊢
    simp only [Bool.and_eq_true] at h1
    rw [if_neg (show ¬ (⟨#[]⟩ : ByteArray) = uText by decide)]
    simp only [Bool.and_eq_true]
    exact ⟨by rfl, h1.2⟩
/-- a right tree -/
structure Right9 (t : List Nd) (fr : List Nat) : Prop where
  given : Given t fr
  begins : beginsN t = some fr
  fits : ∀ k, k < t.length → fitsN t fr k = true
theorem check_right {t : List Nd} (h : checkN9 t = 0) : ∃ fr, Right9 t fr := by
  obtain ⟨fr, hb, hG⟩ := check_formed h
  refine ⟨fr, hG, hb, ?_⟩
  unfold checkN9 at h
  split at h
  · cases h
  split at h
  · cases h
  rw [hb] at h
  simp only at h
  split at h
  · cases h
  rename_i hf
  simp only [Bool.not_eq_false, List.all_eq_true, List.mem_range] at hf
  exact hf
theorem mayAll_at {t : List Nd} {k : Int} : ∀ {l : List Nat} {i : Nat}, mayAll t k i l = true → ∀ j (h : j < l.length), mayN k (i + j) (kindAt t l[j]) = true
  | [], _, _, j, h => by simp at h
  | p :: l, i, h, j, hj => by
    rw [mayAll, Bool.and_eq_true] at h
    cases j with
    | zero => exact h.1
    | succ j =>
      have := mayAll_at h.2 j (by simpa using hj)
      rw [show i + (j + 1) = i + 1 + j by omega]
      exact this
theorem Right9.may {t : List Nd} {fr : List Nat} (h : Right9 t fr) {k : Nat} (hk : k < t.length) : ∀ j (hj : j < (partsAt t fr k).length), mayN (kindAt t k) j (kindAt t (partsAt t fr k)[j]) = true := fun j hj => by
  have h1 := h.fits k hk
  unfold fitsN at h1
  rw [Bool.and_eq_true] at h1
  have := mayAll_at h1.1 j hj
  rwa [Nat.zero_add] at this
theorem Right9.expr {t : List Nd} {fr : List Nat} (h : Right9 t fr) {k : Nat} (hk : k < t.length) (he : exprK (kindAt t k) = true) : ∀ p ∈ partsAt t fr k, p < k ∧ exprK (kindAt t p) = true := fun p hp => by
  refine ⟨h.given.formed.parts_lt hp, ?_⟩
  obtain ⟨j, hj, rfl⟩ := List.mem_iff_getElem.1 hp
  have := h.may hk j hj
  unfold mayN at this
  rw [if_pos (.inl he)] at this
  exact this
theorem Right9.nd {t : List Nd} {fr : List Nat} (h : Right9 t fr) {k : Nat} (hk : k < t.length) : t[k]? = some (ndAt t k) ∧ wellN (ndAt t k) = true := by
  have hx := List.getElem?_eq_getElem hk
  rw [ndAt_is hx]
  exact ⟨hx, h.given.well k _ hx⟩
theorem exprN_good {t : List Nd} {fr : List Nat} (h : Right9 t fr) : ∀ (m k : Nat), k < m → k < t.length → exprK (kindAt t k) = true → AllG (exprN t fr k)
  | 0, k, hm, _, _ => by omega
  | m + 1, k, hm, hk, he => by
    have hp : ∀ due, ∀ p ∈ partsAt t fr k, AllG (partF t (exprN t fr) due p) := fun due p hp => by
      obtain ⟨h1, h2⟩ := h.expr hk he p hp
      exact partF_good (exprN_good h m p (by omega) (by omega) h2)
    have ha := fun due i => AllG.at (hp due) i
    obtain ⟨_, hw⟩ := h.nd hk
    rw [exprN_eq h.given.formed]
    rw [ndAt_kind] at he
    generalize ndAt t k = x at *
    have hr : AllG (rowF (partsAt t fr k).tail (partF t (exprN t fr) 2) (partsAt t fr k).tail.length) := rowF_good (fun p h => hp 2 p (List.mem_of_mem_tail h)) _
    unfold exprB backB
    refine .ite (fun e => .cons (ndI_good hw e) .nil) fun _ => ?_
    refine .ite (fun e => .cons (ndS_good hw e) .nil) fun _ => ?_
    refine .ite (fun e => .cons (ndN_good hw (.inl e)) .nil) fun _ => ?_
    refine .ite (fun e => .cons (ndM_good hw (by omega)) (ha _ _)) fun _ => ?_
    refine .ite (fun e => .cons (ndM_good hw (by omega)) (ha _ _)) fun _ => ?_
    refine .ite (fun e => .app (ha _ _) (.cons (ndM_good hw (by omega)) (ha _ _))) fun _ => ?_
    refine .ite (fun e => .app (ha _ _) (.cons (ndM_good hw (by omega)) (ha _ _))) fun _ => ?_
    refine .ite (fun e => .app (ha _ _) (.cons (good_M (by decide)) (ha _ _))) fun _ => ?_
    refine .ite (fun e => .app (ha _ _) (.cons (good_M (by decide)) (.app (ha _ _) (.cons (good_M (by decide)) (ha _ _))))) fun _ => ?_
    refine .ite (fun e => .app (brkT_good _) (ha _ _)) fun _ => ?_
    refine .ite (fun e => .cons (good_K (by decide)) (brkT_good _)) fun _ => ?_
    refine .ite (fun e => .cons (good_K (by decide)) (ha _ _)) fun _ => ?_
    refine .app (ha _ _) ?_
    refine .ite (fun e => .cons (ndM_good hw (by omega)) .nil) fun _ => ?_
    refine .ite (fun e => .cons (good_M (by decide)) (.app hr (.cons (good_M (by decide)) .nil))) fun _ => ?_
    refine .ite (fun e => .cons (good_M (by decide)) (.app (ha _ _) (.cons (good_M (by decide)) .nil))) fun _ => ?_
    refine .ite (fun e => .cons (good_M (by decide)) (.cons (ndN_good hw (by omega)) .nil)) fun _ => ?_
    exact .ite (fun e => .cons (good_M (by decide)) (.cons (ndN_good hw (by omega)) .nil)) fun _ => .nil
theorem sum_mul (c : Nat) (f : Nat → Nat) : ∀ l : List Nat, (l.map fun p => c * f p).sum = c * (l.map f).sum
  | [] => rfl
  | a :: l => by rw [List.map_cons, List.sum_cons, sum_mul c f l, List.map_cons, List.sum_cons, Nat.mul_add]
theorem exprN_len {t : List Nd} {fr : List Nat} (h : Right9 t fr) : ∀ (m k : Nat), k < m → k < t.length → (exprN t fr k).length + 3 ≤ 16392 * (k + 1 - fr.getD k 0)
  | 0, k, hm, _ => by omega
  | m + 1, k, hm, hk => by
    have hx := List.getElem?_eq_getElem hk
    obtain ⟨_, hbk, hle⟩ := h.given.formed.node k _ hx
    have h1 := exprB_len (t := t) (l := partsAt t fr k) (e := exprN t fr) (g := fun p => 16392 * (p + 1 - fr.getD p 0)) (D := 16384) (ndAt t k)
      (fun p hp => by have := h.given.formed.parts_lt hp; exact exprN_len h m p (by omega) (by omega)) (fun s n => toksE_len _)
    rw [exprN_eq h.given.formed]
    rw [sum_mul, partsAt_is hx, (back_sum hbk).2, start_of h.begins hx] at h1
    rw [partsAt_is hx]
    have : 16392 * (k + 1 - fr.getD k 0) = 16392 * (k - fr.getD k 0) + 16392 := by
      rw [← Nat.mul_succ]; congr 1; omega
    omega
theorem exprN_short {t : List Nd} {fr : List Nat} (h : Right9 t fr) {k : Nat} (hk : k < t.length) : (exprN t fr k).length ≤ 67141632 := by
  have := exprN_len h (k + 1) k (Nat.lt_succ_self k) hk
  have := h.given.le
  have h2 : 16392 * (k + 1 - fr.getD k 0) ≤ 16392 * 4096 := Nat.mul_le_mul_left _ (by omega)
  omega
theorem wordL_len {t : Tok} (h : goodB t = true) : (wordL t).length ≤ 16390 := by
  have hs := good_size h
  have ht := good_tok h
  have hl : t.text.data.toList.length = t.text.size := by rw [Array.length_toList]; rfl
  unfold wordL
  split
  · have := midL_bd t.text.data.toList
    simp only [quoteL, List.length_append, List.length_cons, List.length_nil]
    omega
  · split
    · unfold numL
      split
      · have := speltL_bd (UInt8.ofNat (t.num + 256).toNat) 39
        simp only [charL, List.length_append, List.length_cons, List.length_nil]
        omega
      · have := itoa_bd t.num (by omega) ht.2.1
        split
        · simp only [List.length_append, List.length_cons, List.length_nil]; omega
        · omega
    · omega
theorem words_len {L : List Tok} (h : AllG L) : (Lib.join (L.map wordL) [32]).length ≤ L.length * 16391 := by
  have := join_bd 16390 [32] (L.map wordL) (fun x hx => by
    obtain ⟨t, ht, rfl⟩ := List.mem_map.1 hx
    exact wordL_len (h t ht))
  simpa using this
end Go.Proofs.YtkokdafkjjcgoaaGreatDoor
namespace Go.Proofs.YtkokdafkjjcgoaaGreatDoor
open Go.RowKit

theorem tokE_long {s : ByteArray} (hs : 65536 < s.size) : tokE s = .bad 0 3 := by unfold tokE; rw [if_pos hs]
theorem tokens_any (s : ByteArray) (w : World) (hE : Env w) : Calls Tryz.prog 117 #[.string s] w (Toked w (tokE s)) := by
  by_cases hs : s.size ≤ 65536
  · exact tokens_in s w hs hE
  · rw [tokE_long (by omega)]; exact tokens_long s w (by omega)
end Go.Proofs.YtkokdafkjjcgoaaGreatDoor
namespace Go.Proofs.YtkokdafkjjcgoaaGreatDoor
open Go.RowKit

/-- how words put end -/
def PutEnd (pb : Nat) (W : List ByteArray) (w : World) (e : Ending) (w' : World) : Prop := e = .returned (.tuple #[]) ∧ PapAt pb W w' ∧ KeepP pb w w'
theorem infoStrP : (Tryz.prog.info? 9).map (fun i => (i.zero, i.size, i.bytes)) = some (some (.string ⟨#[]⟩), 1, 16) := by kernel_rfl
set_option maxRecDepth 100000 in
set_option maxHeartbeats 4000000 in
theorem pput_ok (pb : Nat) (W L : List ByteArray) (b off cap : Nat) (w : World) (hP : PapAt pb W w) (hL : ∀ j u, (L.map Value.string)[j]? = some u → w.cell? ((⟨b, off, none⟩ : Addr).add j) = some u) (h0 : 0 < L.length) (hn : W.length + L.length ≤ 1000000000000) :
    Calls Tryz.prog 96 #[.pointer (some ⟨pb, 0, none⟩), .slice (some ⟨b, off, none⟩) L.length cap] w (PutEnd pb (W ++ L) w) := by
  obtain ⟨v, hb, ho⟩ := hP.box
  have hpl := hP.lt
  have HO := Lib.hid ho
  have HB := Lib.hid hb
  have HL := Lib.hid hL
  have HC := Lib.hid (fun w1 (hg : w.grownBy w1 v.ownBlock) => one_blockP ((hg.block pb hpl (fun e => by have := (ho.lt pb e.symm).1; omega)).trans hb))
  have HP := Lib.hid (fun w1 g cap hg hown hat => pap_put (L := L) (w1 := w1) (g := g) (cap := cap) hb ho hg hown hat)
  obtain ⟨c0, f0⟩ := one_blockP hb
  obtain ⟨i0, hi, hz0, hz1, hz2⟩ := info_parts infoStrP
  have HI0 := Lib.hid (And.intro hi (And.intro hz0 (And.intro hz1 hz2)))
  clear hi hz0 hz1 hz2 hP hL ho hb
  go_enter Tryz.func96, Tryz.ntmps96
  go_wp2_with (at_builtin; go_loud (refine wpList_append_lies _ rfl _ _ _ rfl (pb + 1) 9 i0 (.string ⟨#[]⟩) 1 16 Tryz.underlying97 HI0.out.1 HI0.out.2.1 HI0.out.2.2.1 HI0.out.2.2.2 rfl (by decide) v W.length (W.map Value.string) rfl HO.out ⟨b, off, none⟩ L.length cap (L.map Value.string) rfl (by simp) HL.out (by simp [Value.oneCell']) h0 (by unfold maxLen; omega) (by omega) (by omega) w.heap.size rfl ?_); intro g c w1 hown hgrow hat hlt; obtain ⟨c1, f1⟩ := HC.out w1 hgrow)
  go_end0
  exact ⟨rfl, HP.out w1 g c hgrow hown hat⟩
/-- one word, in a row made for it -/
theorem one_cellP (w : World) (s : ByteArray) (T : TypeId) : ∀ j u, ([s].map Value.string)[j]? = some u → (w.alloc (.cells #[.string s] T)).cell? ((⟨w.heap.size, 0, none⟩ : Addr).add j) = some u := cell_one w _ _
theorem keep_then {pb : Nat} {w w1 w2 : World} (hb : Below w.heap.size w w1) (hp : pb < w.heap.size) (hk : KeepP pb w1 w2) : KeepP pb w w2 := (KeepP.of_below hb hp).trans hk
theorem putEnd_then {pb : Nat} {W : List ByteArray} {w w1 w2 : World} {e : Ending} (h : PutEnd pb W w1 e w2) (hb : Below w.heap.size w w1) (hp : pb < w.heap.size) : PutEnd pb W w e w2 := ⟨h.1, h.2.1, keep_then hb hp h.2.2⟩
def tokV (x : Tok) : Value := .agg #[.int .i64 x.kind, .int .i64 x.place, .int .i64 x.num, .string x.text]
theorem laid_word {x : Tok} (h : goodB x = true) : laidV [x] = .tuple #[.string (wordV x), .int .i64 0] := by
  unfold laidV
  rw [if_pos (lay_good (by simpa using h))]
  simp [Lib.join, wordV]
theorem alloc_at {w w1 : World} {o : Obj} (h : w.alloc o = w1) : w1.heap[w.heap.size]? = some o ∧ Below w.heap.size w w1 := by
  subst h
  exact ⟨heap_alloc_new _ _, ba1 _ _⟩
theorem four_blockP {w : World} {b : Nat} {a0 a1 a2 a3 : Value} {T : TypeId} (h : w.heap[b]? = some (.cells #[a0, a1, a2, a3] T (0, 0))) :
    (w.cell? ⟨b, 0, none⟩ = some a0 ∧ w.cell? ⟨b, 1, none⟩ = some a1 ∧ w.cell? ⟨b, 2, none⟩ = some a2 ∧ w.cell? ⟨b, 3, none⟩ = some a3) ∧ ∀ j, w.frozen? ⟨b, j, none⟩ = false := by
  refine ⟨⟨?_, ?_, ?_, ?_⟩, fun j => ?_⟩ <;> simp [World.cell?, World.frozen?, h]
/-- one word put, from a row made for it -/
theorem put1_ok (pb : Nat) (W : List ByteArray) (s : ByteArray) (w : World) (hP : PapAt pb W w) (hn : W.length < 1000000000000) :
    Calls Tryz.prog 96 #[.pointer (some ⟨pb, 0, none⟩), .slice (some ⟨w.heap.size, 0, none⟩) 1 1] (w.alloc (.cells #[.string s] 9)) (PutEnd pb (W ++ [s]) w) :=
  (pput_ok pb W [s] w.heap.size 0 1 _ (hP.below (ba1 _ _)) (one_cellP w s _) (by simp) (by simp; omega)).mono fun _ _ h => putEnd_then h (ba1 _ _) hP.lt
theorem two_cellP (w : World) (s r : ByteArray) (T : TypeId) : ∀ j u, ([s, r].map Value.string)[j]? = some u → (w.alloc (.cells #[.string s, .string r] T)).cell? ((⟨w.heap.size, 0, none⟩ : Addr).add j) = some u := fun j u hu => by
  have h := (two_block (heap_alloc_new w (.cells #[.string s, .string r] T))).1
  match j, hu with
  | 0, hu => obtain rfl := Option.some.inj hu; exact h.1
  | 1, hu => obtain rfl := Option.some.inj hu; exact h.2
theorem put2_ok (pb : Nat) (W : List ByteArray) (s r : ByteArray) (w : World) (hP : PapAt pb W w) (hn : W.length + 1 < 1000000000000) :
    Calls Tryz.prog 96 #[.pointer (some ⟨pb, 0, none⟩), .slice (some ⟨w.heap.size, 0, none⟩) 2 2] (w.alloc (.cells #[.string s, .string r] 9)) (PutEnd pb (W ++ [s, r]) w) :=
  (pput_ok pb W [s, r] w.heap.size 0 2 _ (hP.below (ba1 _ _)) (two_cellP w s r _) (by simp) (by simp; omega)).mono fun _ _ h => putEnd_then h (ba1 _ _) hP.lt
theorem toks_one {w : World} {b : Nat} {k p n : Int} {s : ByteArray} {T : TypeId} (h : w.heap[b]? = some (.cells #[.int .i64 k, .int .i64 p, .int .i64 n, .string s] T (0, 0))) : IsToks w.heap.size w (some ⟨b, 0, none⟩) [⟨k, p, n, s⟩] := fun _ => ⟨b, 0, rfl, lt_of_heap h, fun i t ht => by
  cases i with
  | zero =>
    obtain rfl := Option.some.inj ht
    exact (four_blockP h).1
  | succ i => simp at ht⟩
set_option maxRecDepth 100000 in
set_option maxHeartbeats 4000000 in
theorem token_ok (pb : Nat) (W : List ByteArray) (x : Tok) (w : World) (hP : PapAt pb W w) (hE : EnvB pb w) (hx : goodB x = true) (hn : W.length < 1000000000000) :
    Calls Tryz.prog 95 #[.pointer (some ⟨pb, 0, none⟩), tokV x] w (PutEnd pb (W ++ [wordV x]) w) := by
  have hpl := hP.lt
  have hw := laid_word hx
  have hok := good_tok hx
  have HPut := Lib.hid (fun (w2 : World) (hb : Below w.heap.size w w2) => put1_ok pb W (wordV x) w2 (hP.below hb) hn)
  generalize wordV x = s1 at *
  obtain ⟨k, p, n, s⟩ := x
  have hg : 3 < w.heap.size := by have := hE.lts; omega
  have HLay := Lib.hid (fun (w2 : World) (b : Nat) (h2 : w2.heap[b]? = some (.cells #[.int .i64 k, .int .i64 p, .int .i64 n, .string s] 151 (0, 0))) (hb : Below w.heap.size w w2) => (lexLay_in (some ⟨b, 0, none⟩) 1 [⟨k, p, n, s⟩] w2 (toks_one h2) (by simp) (by simpa using hok) (hE.env.keys.below hb) (hE.env.marks.below hb) (hE.pow.below hb hg) (Nat.lt_of_lt_of_le hg hb.size)).mono fun e w' ⟨he, hb'⟩ => (show e = Ending.returned (.tuple #[.string s1, .int .i64 0]) ∧ Below w2.heap.size w2 w' from ⟨he.trans (by rw [hw]), hb'⟩))
  clear hok hw hE hP hx hg
  unfold tokV
  go_enter Tryz.func95, Tryz.ntmps95
  go_upto_region 1 with fail
  generalize hg1 : w.alloc _ = w1 at *
  obtain ⟨hx1, hb1⟩ := alloc_at hg1
  obtain ⟨⟨z0, z1, z2, z3⟩, _⟩ := four_blockP hx1
  have HB1 := Lib.hid hb1
  clear hg1 hx1 hb1
  go_upto_region 2 with (go_at_call 138; go_loud (refine (HLay.out _ _ (heap_alloc_new w1 _) (HB1.out.trans ((ba1 _ _).mono HB1.out.size))).mono ?_); rintro e w2 ⟨rfl, hb2⟩; have HB2 := Lib.hid (HB1.out.trans (((ba1 _ _).trans (hb2.mono (ba1 _ _).size)).mono HB1.out.size)); clear hb2)
  go_wp2_with (go_at_call 96; (with_reducible refine (HPut.out w2 HB2.out).mono ?_); rintro e w3 ⟨rfl, hp3, hk3⟩)
  go_end0
  exact putEnd_then ⟨rfl, hp3, hk3⟩ HB2.out hpl
theorem declareV_is (s name : ByteArray) : ∃ c : Int, declareV (tyS s) name = .tuple #[.string (declW s name), .int .i64 c] := by
  unfold declW declareV
  cases tyS s with
  | none => exact ⟨2, rfl⟩
  | some t =>
    simp only
    split
    · exact ⟨0, rfl⟩
    · exact ⟨2, rfl⟩
theorem tok_lenP (x : Tok) : x.cells.length = 4 := rfl
theorem toks_out {w w' : World} {s : ByteArray} {e : Ending} (h : Toked w (tokE s) e w') :
    ∃ a cap p x, e = .returned (.tuple #[.slice a (toksE s).length cap, .agg #[.int .i64 p, .int .i64 x]]) ∧ IsSl 4 Tok.cells w'.heap.size w' a (toksE s) ∧ (toksE s ≠ [] → ∀ b off, a = some ⟨b, off, none⟩ → w.heap.size ≤ b) ∧ Below w.heap.size w w' := by
  obtain ⟨h1, h2⟩ := h
  unfold toksE
  cases hr : tokE s with
  | good L =>
    rw [hr] at h1
    obtain ⟨v, rfl, ho⟩ := h1
    obtain ⟨a, cap, rfl, hI, _⟩ := own_sl tok_lenP ho rfl
    refine ⟨a, cap, 0, 0, rfl, hI, fun _ b off e => ?_, h2⟩
    subst e
    exact (ho.lt b rfl).1
  | bad p x =>
    rw [hr] at h1
    subst h1
    exact ⟨none, 0, p, x, rfl, fun h => absurd rfl h, fun h => absurd rfl h, h2⟩
theorem EnvB.tp {pb : Nat} {w : World} (h : EnvB pb w) (hp : pb < w.heap.size) : TP w := ⟨⟨h.env.keys, h.env.maxl⟩, h.pow, by have := h.lts; omega⟩
set_option maxRecDepth 100000 in
set_option maxHeartbeats 4000000 in
theorem declared9_ok (pb : Nat) (W : List ByteArray) (s name : ByteArray) (w : World) (hP : PapAt pb W w) (hE : EnvB pb w) (hn : W.length + (declK s name).length < 1000000000000) :
    Calls Tryz.prog 114 #[.pointer (some ⟨pb, 0, none⟩), .string s, .string name] w (PutEnd pb (W ++ (declK s name).map wordV) w) := by
  have hpl := hP.lt
  obtain ⟨c, hc⟩ := declareV_is s name
  have HD := Lib.hid (show Calls Tryz.prog 116 #[.string s, .string name] w fun e w' => e = Ending.returned (.tuple #[.string (declW s name), .int .i64 c]) ∧ Below w.heap.size w w' from (declare_ok s name w (hE.tp hpl)).mono fun e w' ⟨h1, h2⟩ => ⟨by rw [h1, hc], h2⟩)
  have HT := Lib.hid (fun w1 (hb : Below w.heap.size w w1) => (tokens_any (declW s name) w1 (hE.env.below hb)).mono fun e w' h => toks_out h)
  have hg := toksE_good (declW s name)
  unfold declK at *
  generalize declW s name = d at *
  generalize toksE d = L at *
  have HP := Lib.hid hP
  have HE := Lib.hid hE
  have HG := Lib.hid hg
  clear hc hP hE hg
  go_enter Tryz.func114, Tryz.ntmps114
  go_upto_region 2 with (first | (go_at_call 116; (with_reducible refine HD.out.mono ?_); rintro e w1 ⟨rfl, hb1⟩; have HB1 := Lib.hid hb1; clear hb1) | (go_at_call 117; (with_reducible refine (HT.out _ HB1.out).mono ?_); rintro e w2 ⟨a, cap, fp, fx, rfl, hI, hf, hb2⟩; have HI := Lib.hid hI; have HF := Lib.hid hf; have HB2 := Lib.hid hb2; clear hI hf hb2))
  generalize hg3 : w2.alloc _ = w3 at *
  have hb3 := (alloc_at hg3).2
  have hB3 := HB1.out.trans ((HB2.out.trans (hb3.mono HB2.out.size)).mono HB1.out.size)
  have hs3 : w2.heap.size ≤ w3.heap.size := hb3.size
  have HS := Lib.hid (SlS.new (w' := w3) HP.out.rowOk hpl hB3 ((HI.out.below hb3 (Nat.le_refl _)).mono hs3) (fun hn b off e => Nat.le_trans HB1.out.size (HF.out hn b off e)))
  have HP3 := Lib.hid (HP.out.below hB3)
  have HK3 := Lib.hid (KeepP.of_below (bn := pb) hB3 hpl)
  have HE3 := Lib.hid (HE.out.kept hpl HP.out.rowOk HK3.out)
  clear hg3 hb3 hB3 hs3
  go_wp2_with fail
  go_loopg [25] L.length (fun g v wr => ∃ i : Nat, i ≤ L.length ∧ i + g = L.length ∧ v = .int .i64 (i : Int) ∧ Hid (PapAt pb (W ++ (L.take i).map wordV) wr) ∧ Hid (KeepP pb w3 wr))
  case atStart => exact ⟨0, Nat.zero_le _, by omega, rfl, Lib.hid (by simpa using HP3.out), Lib.hid (KeepP.refl _ _)⟩
  case round =>
    obtain ⟨i, hi, hig, rfl, HPr, HKr⟩ := hrel
    by_cases hlt : i < L.length
    · have hsl := HS.out.kept HP3.out.rowOk HKr.out
      obtain ⟨bb, oo, ha, hbl, hcc⟩ := hsl.sl (fun e => by rw [e] at hlt; simp at hlt)
      subst ha
      have hx := List.getElem?_eq_getElem hlt
      have c0 := hcc i _ hx 0 _ rfl
      have c1 := hcc i _ hx 1 _ rfl
      have c2 := hcc i _ hx 2 _ rfl
      have c3 := hcc i _ hx 3 _ rfl
      rw [Nat.add_zero] at c0
      have hEr := HE3.out.kept HP3.out.lt HP3.out.rowOk HKr.out
      have hgi : goodB L[i] = true := HG.out _ (List.getElem_mem hlt)
      have HTk := Lib.hid (fun w4 (hb : Below wr.heap.size wr w4) => token_ok pb (W ++ (L.take i).map wordV) L[i] w4 (HPr.out.below hb) (hEr.kept HPr.out.lt HPr.out.rowOk (KeepP.of_below hb HPr.out.lt)) hgi (by simp; omega))
      rw [show W ++ (L.take i).map wordV ++ [wordV L[i]] = W ++ (L.take (i + 1)).map wordV by rw [List.take_succ_eq_append_getElem hlt, List.map_append, List.append_assoc]; rfl] at HTk
      unfold tokV at HTk
      have hprl := HPr.out.lt
      clear hcc hx hEr hgi hsl
      generalize L[i] = x at *
      obtain ⟨k, p, n, s2⟩ := x
      simp only at c0 c1 c2 c3 HTk
      go_upto_region 5 with fail
      generalize hg4 : wr.alloc _ = w4 at *
      obtain ⟨hx4, hb4⟩ := alloc_at hg4
      obtain ⟨⟨z0, z1, z2, z3⟩, _⟩ := four_blockP hx4
      have HB4 := Lib.hid hb4
      clear hg4 hx4 hb4
      go_wp2_with (go_at_call 95; (with_reducible refine (HTk.out w4 HB4.out).mono ?_); rintro e w5 ⟨rfl, hp5, hk5⟩; have HP5 := Lib.hid hp5; have HK5 := Lib.hid (HKr.out.trans (keep_then HB4.out hprl hk5)); clear hp5 hk5)
      go_roundg (L.length - (i + 1))
      case measure => omega
      case rel => exact ⟨i + 1, by omega, by omega, by rw [Int.natCast_add]; rfl, HP5, HK5⟩
    · obtain rfl : i = L.length := by omega
      go_wp2_with fail
      go_end0
      refine ⟨rfl, ?_, HK3.out.trans HKr.out⟩
      have := HPr.out
      rwa [List.take_length] at this
end Go.Proofs.YtkokdafkjjcgoaaGreatDoor
namespace Go.Proofs.YtkokdafkjjcgoaaGreatDoor

/-- what stands where a statement is laid out -/
def sK (k : Int) : Prop := stmtK k = true ∨ k = 22 ∨ k = 33
theorem may_e {k : Int} (h : k = 20 ∨ k = 32 ∨ k = 22) (i : Nat) (q : Int) : mayN k i q = exprK q := by unfold mayN; rw [if_pos (by omega)]
theorem may_26 (i : Nat) (q : Int) : mayN 26 i q = if i = 0 then decide (q = 20 ∨ q = 22 ∨ q = 33) else if i = 3 then stmtK q else exprK q || decide (q = 33) := by rw [mayN, if_neg (by decide), if_pos rfl]
theorem may_21 (i : Nat) (q : Int) : mayN 21 i q = (stmtK q || decide (q = 22)) := by rw [mayN, if_neg (by decide), if_neg (by decide), if_pos rfl]
theorem may_25 (i : Nat) (q : Int) : mayN 25 i q = if i = 0 then stmtK q else exprK q := by rw [mayN, if_neg (by decide), if_neg (by decide), if_neg (by decide), if_pos rfl]
theorem may_i {k : Int} (h : k = 23 ∨ k = 24 ∨ k = 27 ∨ k = 28) (i : Nat) (q : Int) : mayN k i q = if i = 0 then exprK q else stmtK q := by
  unfold mayN exprK
  rw [if_neg (by simp; omega), if_neg (by omega), if_neg (by omega), if_neg (by omega), if_pos h]
theorem may_29 (i : Nat) (q : Int) : mayN 29 i q = stmtK q := by rw [mayN, if_neg (by decide), if_neg (by decide), if_neg (by decide), if_neg (by decide), if_neg (by decide)]
theorem stmtK_iff {k : Int} : stmtK k = true ↔ 20 ≤ k ∧ k ≤ 32 ∧ k ≠ 22 := by unfold stmtK; rw [decide_eq_true_iff]
/-- what parts of a statement are -/
structure StParts (t : List Nd) (fr : List Nat) (k : Nat) : Prop where
  low : ∀ p ∈ partsAt t fr k, p < k
  ex : ∀ i (hi : i < (partsAt t fr k).length), (kindAt t k = 20 ∨ kindAt t k = 32 ∨ kindAt t k = 22 ∨ ((kindAt t k = 23 ∨ kindAt t k = 24 ∨ kindAt t k = 27 ∨ kindAt t k = 28) ∧ i = 0) ∨ (kindAt t k = 25 ∧ i = 1)) → exprK (kindAt t (partsAt t fr k)[i]) = true
  per : ∀ i (hi : i < (partsAt t fr k).length), kindAt t k = 26 → (i = 1 ∨ i = 2) → exprK (kindAt t (partsAt t fr k)[i]) = true ∨ kindAt t (partsAt t fr k)[i] = 33
  st : ∀ i (hi : i < (partsAt t fr k).length), (kindAt t k = 21 ∨ kindAt t k = 29 ∨ ((kindAt t k = 23 ∨ kindAt t k = 24 ∨ kindAt t k = 27 ∨ kindAt t k = 28) ∧ 0 < i) ∨ (kindAt t k = 25 ∧ i = 0) ∨ (kindAt t k = 26 ∧ (i = 0 ∨ i = 3))) → sK (kindAt t (partsAt t fr k)[i])
theorem Right9.st {t : List Nd} {fr : List Nat} (h : Right9 t fr) {k : Nat} (hk : k < t.length) : StParts t fr k := by
  refine ⟨fun p hp => h.given.formed.parts_lt hp, fun i hi hc => ?_, fun i hi hc hj => ?_, fun i hi hc => ?_⟩
  · have hm := h.may hk i hi
    rcases hc with e | e | e | ⟨e, rfl⟩ | ⟨e, rfl⟩
    · rwa [may_e (.inl e)] at hm
    · rwa [may_e (.inr (.inl e))] at hm
    · rwa [may_e (.inr (.inr e))] at hm
    · rwa [may_i e, if_pos rfl] at hm
    · rwa [e, may_25, if_neg (by decide)] at hm
  · have hm := h.may hk i hi
    rw [hc, may_26, if_neg (by omega), if_neg (by omega), Bool.or_eq_true, decide_eq_true_iff] at hm
    exact hm
  · have hm := h.may hk i hi
    rcases hc with e | e | ⟨e, h0⟩ | ⟨e, rfl⟩ | ⟨e, h0⟩
    · rw [e, may_21, Bool.or_eq_true, decide_eq_true_iff] at hm
      exact hm.imp id .inl
    · rw [e, may_29] at hm
      exact .inl hm
    · rw [may_i e, if_neg (by omega)] at hm
      exact .inl hm
    · rw [e, may_25, if_pos rfl] at hm
      exact .inl hm
    · rw [e, may_26] at hm
      rcases h0 with rfl | rfl
      · rw [if_pos rfl, decide_eq_true_iff] at hm
        rcases hm with e | e | e
        · exact .inl (stmtK_iff.2 (by omega))
        · exact .inr (.inl e)
        · exact .inr (.inr e)
      · rw [if_neg (by decide), if_pos rfl] at hm
        exact .inl hm
end Go.Proofs.YtkokdafkjjcgoaaGreatDoor
