/- Bytes and alignment of a type, structs being given: the program. · What trees come to: their types, their numbers. Plain: nothing of the program. -/
import Derived.Test.YtlcfejgjeljjdaaDoorMg12
import Derived.Test.YtlcfejgjeljjdaaDoorMg13
import Derived.Test.YtlcfejgjeljjdaaDoorMg15
namespace Go.Proofs.YtlcfejgjeljjdaaDoor
open Go.RowKit Go.Maps

/-- bytes, alignment, what is wrong -/
def sizeR (L : List Sr) (s : ByteArray) : Int × Int × Int := match learnK L with
  | .inl p => (0, 0, p.2)
  | .inr K => match tyS s with
    | none => (0, 0, 2)
    | some t => if checkT K t ≠ 0 then (0, 0, checkT K t) else if objectT t = false then (0, 0, 5) else (((measT K t).1 : Int), ((measT K t).2 : Int), 0)
theorem sizeR_struct {L : List Sr} {s : ByteArray} {i : Nat} {c : Int} (h : learnK L = .inl (i, c)) : sizeR L s = (0, 0, c) := by unfold sizeR; rw [h]
theorem sizeR_check {L : List Sr} {s : ByteArray} {K : List Kn} (h : learnK L = .inr K) (hc : checkS K s ≠ 0) : sizeR L s = (0, 0, checkS K s) := by
  unfold sizeR; rw [h]
  cases ht : tyS s with
  | none => rw [checkS_none ht]
  | some t => rw [checkS_some ht] at hc ⊢; simp only; rw [if_pos hc]
theorem sizeR_object {L : List Sr} {s : ByteArray} {K : List Kn} {t : Ty} (h : learnK L = .inr K) (ht : tyS s = some t) (hc : checkT K t = 0) (ho : objectT t = false) : sizeR L s = (0, 0, 5) := by
  unfold sizeR; rw [h, ht]
  simp only
  rw [if_neg (by simp [hc]), if_pos ho]
theorem sizeR_yes {L : List Sr} {s : ByteArray} {K : List Kn} {t : Ty} (h : learnK L = .inr K) (ht : tyS s = some t) (hc : checkT K t = 0) (ho : objectT t = true) : sizeR L s = (((measT K t).1 : Int), ((measT K t).2 : Int), 0) := by
  unfold sizeR; rw [h, ht]
  simp only
  rw [if_neg (by simp [hc]), if_neg (by simp [ho])]

/-- how measured ends -/
def MeasEnd (mv : List Value) (L : List Sr) (s : ByteArray) (w : World) (e : Ending) (w' : World) : Prop :=
  Below w.heap.size w w' ∧ ((∃ c : Int, sizeR L s = (0, 0, c) ∧ c ≠ 0 ∧ e = .returned (.tuple #[.pointer none, .int .i64 c])) ∨
    ∃ K t b mb lv sv av, learnK L = .inr K ∧ tyS s = some t ∧ checkT K t = 0 ∧ objectT t = true ∧ FitK K ∧ KnAt (w.heap.size + 1) w' b mb lv sv av mv K ∧ e = .returned (.tuple #[.pointer (some ⟨b, 0, none⟩), .int .i64 0]))
theorem meas_no {mv : List Value} {L : List Sr} {s : ByteArray} {w w' : World} {c : Int} (h : sizeR L s = (0, 0, c)) (hc : c ≠ 0) (hb : Below w.heap.size w w') :
    MeasEnd mv L s w (.returned (.tuple #[.pointer none, .int .i64 c])) w' := ⟨hb, .inl ⟨c, h, hc, rfl⟩⟩

set_option maxRecDepth 100000 in
set_option maxHeartbeats 4000000 in
theorem measured_ok (s : ByteArray) (a : Option Addr) (cap : Nat) (L : List Sr) (mv : List Value) (w : World) (hE : TE w) (hS : IsSrs w.heap.size w a L mv) :
    Calls Tryd.prog 72 #[.string s, .slice a L.length cap] w fun e w' => MeasEnd mv L s w e w' := by
  have HE := Lib.hid hE
  have HL := Lib.hid (learn_ok a cap L mv w hE hS)
  clear hE hS
  go_enter Tryd.func72, Tryd.ntmps72
  go_wp2_with (go_at_call 48; (with_reducible refine HL.out.mono ?_))
  intro e w1 hend
  obtain ⟨hb1, ⟨i, c, hl, hc, rfl⟩ | ⟨K, b, mb, lv, sv, av, hl, rfl, hF, hkn⟩⟩ := hend
  · have hfin := Lib.hid (sizeR_struct (s := s) hl)
    have HC := Lib.hid hc
    have t1 : (c != 0) = true := by simp [hc]
    have HB1 := Lib.hid hb1
    clear hl hc hb1
    go_wp2_with fail
    go_quiet (fail)
    go_wp2
    go_ret2
    exact meas_no hfin.out HC.out (blw_drewN (HB1.out.alloc HB1.out.size _) _)
  · have HB1 := Lib.hid hb1
    have hg : Below (w1.heap.size) w1 (w1.alloc (.cells #[.int .i64 0, .int .i64 0] 75)) := (Below.refl _ _).alloc (Nat.le_refl _) _
    have HG := Lib.hid (hb1.trans (hg.mono hb1.size))
    have HKn := Lib.hid (hkn.below hg)
    have HC := Lib.hid (check_ok s _ (HE.out.below HG.out) HKn.out hF)
    have HFt := Lib.hid hF
    have HLk := Lib.hid hl
    clear hkn hb1 hg hF hl
    by_cases hc : checkS K s = 0
    · obtain ⟨t, ht⟩ : ∃ t, tyS s = some t := by
        cases ht : tyS s with
        | none => rw [checkS_none ht] at hc; simp at hc
        | some t => exact ⟨t, rfl⟩
      obtain ⟨hst, hrt, _⟩ := tyS_some.1 ht
      have HO := Lib.hid fun w5 => object_ok t hrt w5
      rw [← hst] at HO
      rw [hc] at HC
      rw [checkS_some ht] at hc
      rcases hob : objectT t with _ | _
      · rw [hob] at HO
        have hfin := Lib.hid (sizeR_object HLk.out ht hc hob)
        clear hst hrt ht hc hob
        go_wp2_with (go_at_call 75; (with_reducible refine HC.out.mono ?_); rintro e w5 ⟨rfl, hb5⟩; have HB5 := Lib.hid hb5; clear hb5)
        go_wp2_with (go_at_call 76; (with_reducible refine (HO.out _).mono ?_); rintro e w6 ⟨rfl, hw6⟩; subst w6)
        go_ret2
        exact meas_no hfin.out (by decide) (HG.out.trans (HB5.out.mono (by simp; have := HB1.out.size; omega)))
      · rw [hob] at HO
        have HT := Lib.hid ht
        have HCt := Lib.hid hc
        have HOb := Lib.hid hob
        clear hst hrt ht hc hob
        go_wp2_with (go_at_call 75; (with_reducible refine HC.out.mono ?_); rintro e w5 ⟨rfl, hb5⟩; have HB5 := Lib.hid hb5; clear hb5)
        go_wp2_with (go_at_call 76; (with_reducible refine (HO.out _).mono ?_); rintro e w6 ⟨rfl, hw6⟩; subst w6)
        go_ret2
        exact ⟨HG.out.trans (HB5.out.mono (by simp; have := HB1.out.size; omega)), .inr ⟨K, t, b, mb, lv, sv, av, HLk.out, HT.out, HCt.out, HOb.out, HFt.out, HKn.out.below HB5.out, rfl⟩⟩
    · have hfin := Lib.hid (sizeR_check HLk.out hc)
      have t1 : (checkS K s != 0) = true := by simp [hc]
      have HC0 := Lib.hid hc
      clear hc
      generalize checkS K s = c at *
      go_wp2_with (go_at_call 75; (with_reducible refine HC.out.mono ?_); rintro e w5 ⟨rfl, hb5⟩; have HB5 := Lib.hid hb5; clear hb5)
      go_ret2
      exact meas_no hfin.out HC0.out (HG.out.trans (HB5.out.mono (by simp; have := HB1.out.size; omega)))

set_option maxRecDepth 100000 in
set_option maxHeartbeats 4000000 in
/-- types.Size -/
theorem size_ok (s : ByteArray) (a : Option Addr) (cap : Nat) (L : List Sr) (mv : List Value) (w : World) (hE : TE w) (hS : IsSrs w.heap.size w a L mv) :
    Calls Tryd.prog 59 #[.string s, .slice a L.length cap] w fun e w' => e = .returned (.tuple #[.int .i64 (sizeR L s).1, .int .i64 (sizeR L s).2.1, .int .i64 (sizeR L s).2.2]) ∧ Below w.heap.size w w' := by
  have HE := Lib.hid hE
  have HM := Lib.hid (measured_ok s a cap L mv w hE hS)
  clear hE hS
  go_enter Tryd.func59, Tryd.ntmps59
  go_wp2_with (go_at_call 72; (with_reducible refine HM.out.mono ?_))
  intro e w1 hend
  obtain ⟨hb1, ⟨c, hr, hc, rfl⟩ | ⟨K, t, b, mb, lv, sv, av, hl, ht, hct, hob, hF, hkn, rfl⟩⟩ := hend
  · have HR := Lib.hid hr
    have t1 : (c != 0) = true := by simp [hc]
    have HB1 := Lib.hid hb1
    clear hr hc hb1
    go_wp2_with fail
    exact bodyPost_ret (v := .tuple #[.int .i64 0, .int .i64 0, .int .i64 c]) (by simp [results, Tryd.results59, go_sem]) rfl ⟨by rw [HR.out], HB1.out⟩
  · have HR := Lib.hid (sizeR_yes hl ht hct hob)
    obtain ⟨hst, hrt, hlt⟩ := tyS_some.1 ht
    obtain ⟨hsh, hth, _⟩ := checkT_zero hct
    have hm := measure_ok t w1 hrt hlt hsh hth (HE.out.below hb1) hkn hF
    rw [capM_id (meas_bd hF t hct), ← hst] at hm
    unfold measV at hm
    have HMs := Lib.hid hm
    have HB1 := Lib.hid hb1
    clear hl ht hct hob hF hkn hst hrt hlt hsh hth hm hb1
    generalize measT K t = p at *
    obtain ⟨p1, p2⟩ := p
    go_wp2_with (go_at_call 73; (with_reducible refine HMs.out.mono ?_); rintro e w2 ⟨rfl, hb2⟩; have HB2 := Lib.hid hb2; clear hb2)
    exact bodyPost_ret (v := .tuple #[.int .i64 (p1 : Int), .int .i64 (p2 : Int), .int .i64 0]) (by simp [results, Tryd.results59, go_sem]) rfl ⟨by rw [HR.out], HB1.out.trans (HB2.out.mono HB1.out.size)⟩

end Go.Proofs.YtlcfejgjeljjdaaDoor
namespace Go.Proofs.YtlcfejgjeljjdaaDoor
open Go.Op

def truthI (b : Bool) : Int := if b then 1 else 0
def shlW (a y : Int) : Int := (a % 4294967296) * 2 ^ ((y % 4294967296) % 32).toNat % 4294967296
def shruW (a y : Int) : Int := (a % 4294967296) / 2 ^ ((y % 4294967296) % 32).toNat
def shrsW (a y : Int) : Int := (sgnI 32 a / 2 ^ ((y % 4294967296) % 32).toNat) % 4294967296
def mAnd2 : ByteArray := ⟨#[38, 38]⟩
def mOr2 : ByteArray := ⟨#[124, 124]⟩
def mShl : ByteArray := ⟨#[60, 60]⟩
def mShr : ByteArray := ⟨#[62, 62]⟩
def mMul : ByteArray := ⟨#[42]⟩
def mDiv : ByteArray := ⟨#[47]⟩
def mRem : ByteArray := ⟨#[37]⟩
def mAdd : ByteArray := ⟨#[43]⟩
def mSub : ByteArray := ⟨#[45]⟩
def mLt : ByteArray := ⟨#[60]⟩
def mGt : ByteArray := ⟨#[62]⟩
def mLe : ByteArray := ⟨#[60, 61]⟩
def mGe : ByteArray := ⟨#[62, 61]⟩
def mEq : ByteArray := ⟨#[61, 61]⟩
def mNe : ByteArray := ⟨#[33, 61]⟩
def mAnd : ByteArray := ⟨#[38]⟩
def mXor : ByteArray := ⟨#[94]⟩
def mOr : ByteArray := ⟨#[124]⟩
def mNot : ByteArray := ⟨#[33]⟩
def mCpl : ByteArray := ⟨#[126]⟩
/-- a comparison, if it is one -/
def cmpI (m : ByteArray) (a b : Int) : Option Bool :=
  if m = mLt then some (decide (a < b)) else if m = mGt then some (decide (b < a)) else if m = mLe then some (decide (a ≤ b)) else if m = mGe then some (decide (b ≤ a))
  else if m = mEq then some (decide (a = b)) else if m = mNe then some (decide (a ≠ b)) else none
/-- what is reckoned, ahead of its type; none: by nought -/
def ariI (m : ByteArray) (a b : Int) : Option Int :=
  if m = mMul then some (mulW a b)
  else if m = mDiv then (if b = 0 then none else some (a.tdiv b))
  else if m = mRem then (if b = 0 then none else some (a.tmod b))
  else if m = mAdd then some (a + b) else if m = mSub then some (a - b)
  else if m = mAnd then some (bits .and .i64 a b) else if m = mXor then some (bits .xor .i64 a b) else if m = mOr then some (bits .or .i64 a b) else some 0
def shfI (m : ByteArray) (t : ByteArray) (a y : Int) : Int := if m = mShr then (if t = iText12 then shrsW a y else shruW a y) else shlW a y
/-- a number of a type -/
abbrev Num := ByteArray × Int
/-- a binary operation -/
def binI (m x : ByteArray) (a : Int) (y : ByteArray) (b : Int) : Option Num :=
  if m = mAnd2 then some (iText12, truthI (decide (a ≠ 0) && decide (b ≠ 0)))
  else if m = mOr2 then some (iText12, truthI (decide (a ≠ 0) || decide (b ≠ 0)))
  else if m = mShl ∨ m = mShr then some (promI x, asI (shfI m (promI x) (asI a (promI x)) b) (promI x))
  else match cmpI m (asI a (commI x y)) (asI b (commI x y)) with
    | some r => some (iText12, truthI r)
    | none => (ariI m (asI a (commI x y)) (asI b (commI x y))).map fun n => (commI x y, asI n (commI x y))
/-- a unary operation -/
def unI (m x : ByteArray) (a : Int) : Option Num :=
  if m = mNot then some (iText12, truthI (decide (a = 0)))
  else if m = mSub then some (promI x, asI (-(asI a (promI x))) (promI x))
  else if m = mCpl then some (promI x, asI (-(asI a (promI x)) - 1) (promI x))
  else none
/-- the type that an operation makes -/
def madeK (m x y : ByteArray) : ByteArray :=
  if m = mLt ∨ m = mGt ∨ m = mLe ∨ m = mGe ∨ m = mEq ∨ m = mNe ∨ m = mAnd2 ∨ m = mOr2 then iText12 else if m = mShl ∨ m = mShr then promI x else commI x y
/-- a type of numbers -/
def IntT (t : ByteArray) : Prop := t = uText12 ∨ t = cText12 ∨ t = sText12 ∨ t = iText12
theorem isIntS_int {s : ByteArray} (h : isIntS s = true) : IntT s := by
  unfold IntT
  by_cases h1 : s = uText12
  · exact .inl h1
  by_cases h2 : s = cText12
  · exact .inr (.inl h2)
  by_cases h3 : s = sText12
  · exact .inr (.inr (.inl h3))
  by_cases h4 : s = iText12
  · exact .inr (.inr (.inr h4))
  rw [isIntS_not h2 h3 h4 h1] at h
  cases h
theorem promoteV_int {t : ByteArray} (h : IntT t) : promoteV t (tyS t) = .tuple #[.string (promI t), .int .i64 0] := by
  rcases h with rfl | rfl | rfl | rfl
  · rw [show tyS uText12 = some (.base 117) from tyS_base (by decide)]; rfl
  · rw [show tyS cText12 = some (.base 99) from tyS_base (by decide)]; rfl
  · rw [show tyS sText12 = some (.base 115) from tyS_base (by decide)]; rfl
  · rw [show tyS iText12 = some (.base 105) from tyS_base (by decide)]; rfl
theorem commonV_int {t u : ByteArray} (h : IntT t) (h2 : IntT u) : commonV (tyS t) (tyS u) = .tuple #[.string (commI t u), .int .i64 0] := by
  have h117 : tyS uText12 = some (.base 117) := tyS_base (by decide)
  have h99 : tyS cText12 = some (.base 99) := tyS_base (by decide)
  have h115 : tyS sText12 = some (.base 115) := tyS_base (by decide)
  have h105 : tyS iText12 = some (.base 105) := tyS_base (by decide)
  rcases h with rfl | rfl | rfl | rfl <;> rcases h2 with rfl | rfl | rfl | rfl <;> simp only [h117, h99, h115, h105] <;> rfl
theorem promI_int (t : ByteArray) : IntT (promI t) := by rcases promI_ui t with h | h <;> rw [h] <;> simp [IntT]
theorem commI_int (t u : ByteArray) : IntT (commI t u) := by rcases commI_ui t u with h | h <;> rw [h] <;> simp [IntT]
theorem madeK_int (m x y : ByteArray) : IntT (madeK m x y) := by
  unfold madeK
  split
  · simp [IntT]
  split
  · exact promI_int _
  · exact commI_int _ _
theorem cmpI_none {m : ByteArray} {a b : Int} (h : ¬ (m = mLt ∨ m = mGt ∨ m = mLe ∨ m = mGe ∨ m = mEq ∨ m = mNe)) : cmpI m a b = none := by
  unfold cmpI
  simp only [not_or] at h
  obtain ⟨h1, h2, h3, h4, h5, h6⟩ := h
  rw [if_neg h1, if_neg h2, if_neg h3, if_neg h4, if_neg h5, if_neg h6]
theorem cmpI_some {m : ByteArray} {a b : Int} (h : m = mLt ∨ m = mGt ∨ m = mLe ∨ m = mGe ∨ m = mEq ∨ m = mNe) : ∃ r, cmpI m a b = some r := by
  unfold cmpI
  rcases h with rfl | rfl | rfl | rfl | rfl | rfl
  · exact ⟨_, if_pos rfl⟩
  · exact ⟨_, by rw [if_neg (by decide), if_pos rfl]⟩
  · exact ⟨_, by rw [if_neg (by decide), if_neg (by decide), if_pos rfl]⟩
  · exact ⟨_, by rw [if_neg (by decide), if_neg (by decide), if_neg (by decide), if_pos rfl]⟩
  · exact ⟨_, by rw [if_neg (by decide), if_neg (by decide), if_neg (by decide), if_neg (by decide), if_pos rfl]⟩
  · exact ⟨_, by rw [if_neg (by decide), if_neg (by decide), if_neg (by decide), if_neg (by decide), if_neg (by decide), if_pos rfl]⟩
/-- what an operation makes has that type -/
theorem binI_type {m x y : ByteArray} {a b : Int} {v : Num} (h : binI m x a y b = some v) : v.1 = madeK m x y := by
  unfold binI at h
  unfold madeK
  split at h
  · obtain rfl := Option.some.inj h
    rw [if_pos (by simp [*])]
  split at h
  · obtain rfl := Option.some.inj h
    rw [if_pos (by simp [*])]
  rename_i h1 h2
  split at h
  · rename_i h3
    obtain rfl := Option.some.inj h
    rw [if_neg (by rcases h3 with rfl | rfl <;> decide), if_pos h3]
  rename_i h3
  by_cases hc : m = mLt ∨ m = mGt ∨ m = mLe ∨ m = mGe ∨ m = mEq ∨ m = mNe
  · obtain ⟨r, hr⟩ := cmpI_some (a := asI a (commI x y)) (b := asI b (commI x y)) hc
    rw [hr] at h
    obtain rfl := Option.some.inj h
    rw [if_pos (by rcases hc with h | h | h | h | h | h <;> simp [h])]
  · rw [cmpI_none hc] at h
    simp only [Option.map_eq_some_iff] at h
    obtain ⟨n, _, rfl⟩ := h
    simp only [not_or] at hc
    rw [if_neg (by simp [hc, h1, h2]), if_neg h3]
/-- a node that a constant may be made of -/
def shN (L : List Sr) (x : Nd) : Bool :=
  if x.kind = 1 ∨ x.kind = 9 ∨ x.kind = 7 then true
  else if x.kind = 4 then !(decide (x.text = mAnd) || decide (x.text = mMul))
  else if x.kind = 15 then isIntS x.type
  else if x.kind = 17 then decide ((sizeR L x.type).2.2 = 0)
  else false
def shapT (L : List Sr) (T : Tr) : Bool := T.flat.all (shN L)
def shapAll (L : List Sr) (ps : List Tr) : Bool := ps.all (shapT L)
theorem flatAll_all (f : Nd → Bool) (ps : List Tr) : (flatAll ps).all f = ps.all fun T => T.flat.all f := by
  induction ps with
  | nil => rfl
  | cons T r ih => rw [flatAll, List.all_append, ih, List.all_cons]
theorem shapT_node (L : List Sr) (x : Nd) (ps : List Tr) : shapT L (.node x ps) = (shapAll L ps && shN L x) := by
  unfold shapT shapAll
  rw [Tr.flat, List.all_append, flatAll_all]
  simp
  rfl
/-- the type, by the parts' types -/
def kindN (x : Nd) (ks : List ByteArray) : ByteArray :=
  if x.kind = 1 ∨ x.kind = 15 then x.type
  else if x.kind = 17 then uText12
  else if x.kind = 4 then (if x.text = mNot then iText12 else promI (ks.getD 0 ⟨#[]⟩))
  else if x.kind = 9 then commI (ks.getD 1 ⟨#[]⟩) (ks.getD 2 ⟨#[]⟩)
  else madeK x.text (ks.getD 0 ⟨#[]⟩) (ks.getD 1 ⟨#[]⟩)
mutual
def kindT : Tr → ByteArray
  | .node x ps => kindN x (kindsT ps)
def kindsT : List Tr → List ByteArray
  | [] => []
  | T :: r => kindT T :: kindsT r
end
theorem kindsT_map (ps : List Tr) : kindsT ps = ps.map kindT := by
  induction ps with
  | nil => rfl
  | cons T r ih => rw [kindsT, ih, List.map_cons]
theorem kindT_node (x : Nd) (ps : List Tr) : kindT (.node x ps) = kindN x (ps.map kindT) := by rw [kindT, kindsT_map]
/-- the number, by the parts' numbers -/
def evalN (L : List Sr) (x : Nd) (kd : ByteArray) (vs : List (Option Num)) : Option Num :=
  if x.kind = 1 then some (x.type, asI x.int x.type)
  else if x.kind = 17 then some (uText12, (sizeR L x.type).1)
  else match vs.getD 0 none with
    | none => none
    | some v =>
      if x.kind = 4 then unI x.text v.1 v.2
      else if x.kind = 15 then some (x.type, asI v.2 x.type)
      else if x.kind = 9 then (vs.getD (if v.2 = 0 then 2 else 1) none).map fun y => (kd, asI y.2 kd)
      else if (x.text = mAnd2 ∧ v.2 = 0) ∨ (x.text = mOr2 ∧ v.2 ≠ 0) then some (iText12, truthI (decide (v.2 ≠ 0)))
      else match vs.getD 1 none with
        | none => none
        | some y => binI x.text v.1 v.2 y.1 y.2
mutual
def evalT (L : List Sr) : Tr → Option Num
  | .node x ps => evalN L x (kindN x (kindsT ps)) (evalsT L ps)
def evalsT (L : List Sr) : List Tr → List (Option Num)
  | [] => []
  | T :: r => evalT L T :: evalsT L r
end
theorem evalsT_map (L : List Sr) (ps : List Tr) : evalsT L ps = ps.map (evalT L) := by
  induction ps with
  | nil => rfl
  | cons T r ih => rw [evalsT, ih, List.map_cons]
theorem evalT_node (L : List Sr) (x : Nd) (ps : List Tr) : evalT L (.node x ps) = evalN L x (kindT (.node x ps)) (ps.map (evalT L)) := by rw [evalT, evalsT_map, kindT]
/-- what a tree comes to as a constant -/
def constT (L : List Sr) (T : Tr) : Option Num := if shapT L T then evalT L T else none
/-- a number as a tree -/
def writeT (v : Num) (at_ : Int) : Option Tr :=
  if (v.1 ≠ iText12 ∧ v.1 ≠ uText12) ∨ v.2 = -2147483648 then none
  else if 0 ≤ v.2 then some (.node ⟨1, 0, at_, v.2, ⟨#[]⟩, v.1⟩ [])
  else some (.node ⟨4, 1, at_, 0, mSub, ⟨#[]⟩⟩ [.node ⟨1, 0, at_, -v.2, ⟨#[]⟩, iText12⟩ []])
/-- a tree's constant as a tree, if it is one that is to be written -/
def wrT (L : List Sr) (T : Tr) : Option Tr := if 1 < T.root.kind ∧ T.root.kind ≤ 17 then (constT L T).bind fun v => writeT v T.root.at_ else none
mutual
/-- its constants reckoned -/
def foldT (L : List Sr) : Tr → Tr
  | .node x ps => match wrT L (.node x ps) with
    | some W => W
    | none => if x.kind = 16 then .node x ps else .node x (foldsT L ps)
def foldsT (L : List Sr) : List Tr → List Tr
  | [] => []
  | T :: r => foldT L T :: foldsT L r
end
theorem foldsT_map (L : List Sr) (ps : List Tr) : foldsT L ps = ps.map (foldT L) := by
  induction ps with
  | nil => rfl
  | cons T r ih => rw [foldsT, ih, List.map_cons]
theorem foldT_wr {L : List Sr} {T W : Tr} (h : wrT L T = some W) : foldT L T = W := by
  cases T with
  | node x ps => rw [foldT, h]
theorem foldT_sz {L : List Sr} {x : Nd} {ps : List Tr} (h : wrT L (.node x ps) = none) (hk : x.kind = 16) : foldT L (.node x ps) = .node x ps := by rw [foldT, h]; exact if_pos hk
theorem foldT_in {L : List Sr} {x : Nd} {ps : List Tr} (h : wrT L (.node x ps) = none) (hk : x.kind ≠ 16) : foldT L (.node x ps) = .node x (ps.map (foldT L)) := by
  rw [foldT, h, ← foldsT_map]; exact if_neg hk
end Go.Proofs.YtlcfejgjeljjdaaDoor
