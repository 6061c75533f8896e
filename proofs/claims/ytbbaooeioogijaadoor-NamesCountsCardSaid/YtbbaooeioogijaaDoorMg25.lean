/- A function copied: the program. · A function for each name: the program. · What going over a function grows: few slots, few names. Plain: nothing of the program. -/
import Derived.Test.YtbbaooeioogijaaDoorMg24
import Derived.Test.YtbbaooeioogijaaDoorMg20
namespace Go.Proofs.YtbbaooeioogijaaDoor
open Go.RowKit

theorem nil_lenU {α : Type} {k n cap : Nat} {a : Option Addr} {L : List α} (h : SlK k a L.length cap) (_ : n = 0) : a = none → L = [] ∧ cap = 0 := fun e => ⟨List.eq_nil_of_length_eq_zero (h.2.2.2 e).1, (h.2.2.2 e).2⟩
def CopEnd (f : FnU) (w : World) (e : Ending) (w' : World) : Prop := (∃ vp vb, e = .returned (.agg #[.int .i64 f.at_, .string f.name, .string f.type, vp, vb]) ∧ VrRow w' w.heap.size vp f.params ∧ NdRow w' w.heap.size vb f.body) ∧ Below w.heap.size w w'
set_option maxRecDepth 100000 in
set_option maxHeartbeats 8000000 in
theorem copied11_ok (f : FnU) (vp vb : Value) (w : World) (hf : IsFnU w.heap.size w f vp vb) :
    Calls Tryd.prog 20 #[.agg #[.int .i64 f.at_, .string f.name, .string f.type, vp, vb]] w (CopEnd f w) := by
  obtain ⟨ap, cp, rfl, hop, hsp, _⟩ := hf.params
  obtain ⟨ab, cb, rfl, hob, hsb, _⟩ := hf.body
  have hb0 := ba1 w (.cells #[.int .i64 f.at_, .string f.name, .string f.type, .slice ap f.params.length cp, .slice ab f.body.length cb] 44)
  have hb1 := hb0.alloc hb0.size (.cells #[.int .i64 0, .string ⟨#[]⟩, .string ⟨#[]⟩, .slice none 0 0, .slice none 0 0] 44)
  have hx : ((w.alloc (.cells #[.int .i64 f.at_, .string f.name, .string f.type, .slice ap f.params.length cp, .slice ab f.body.length cb] 44)).alloc (.cells #[.int .i64 0, .string ⟨#[]⟩, .string ⟨#[]⟩, .slice none 0 0, .slice none 0 0] 44)).heap[w.heap.size]? = some (.cells #[.int .i64 f.at_, .string f.name, .string f.type, .slice ap f.params.length cp, .slice ab f.body.length cb] 44 (0, 0)) := ((ba1 _ _).block _ (lt_of_heap (heap_alloc_new w _))).trans (heap_alloc_new w _)
  have hr : ((w.alloc (.cells #[.int .i64 f.at_, .string f.name, .string f.type, .slice ap f.params.length cp, .slice ab f.body.length cb] 44)).alloc (.cells #[.int .i64 0, .string ⟨#[]⟩, .string ⟨#[]⟩, .slice none 0 0, .slice none 0 0] 44)).heap[w.heap.size + 1]? = some (.cells #[.int .i64 0, .string ⟨#[]⟩, .string ⟨#[]⟩, .slice none 0 0, .slice none 0 0] 44 (0, 0)) := by
    have := heap_alloc_new (w.alloc (.cells #[.int .i64 f.at_, .string f.name, .string f.type, .slice ap f.params.length cp, .slice ab f.body.length cb] 44)) (.cells #[.int .i64 0, .string ⟨#[]⟩, .string ⟨#[]⟩, .slice none 0 0, .slice none 0 0] 44)
    simpa using this
  go_enter Tryd.func20, Tryd.ntmps20
  go_upto_region 1 with fail
  generalize (w.alloc (.cells #[.int .i64 f.at_, .string f.name, .string f.type, .slice ap f.params.length cp, .slice ab f.body.length cb] 44)).alloc (.cells #[.int .i64 0, .string ⟨#[]⟩, .string ⟨#[]⟩, .slice none 0 0, .slice none 0 0] 44) = w1 at *
  have HV := Lib.hid (fun w' (h : Below w1.heap.size w1 w') => cloneV_any ap cp f.params w' ((hsp.below (hb1.trans (h.mono hb1.size)) (Nat.le_refl _)).mono (hb1.trans (h.mono hb1.size)).size) (by have := hop.1; omega) (nil_lenU (n := 0) hop rfl))
  have HT := Lib.hid (fun w' (h : Below w1.heap.size w1 w') => clone_any ab cb f.body w' ((hsb.below (hb1.trans (h.mono hb1.size)) (Nat.le_refl _)).mono (hb1.trans (h.mono hb1.size)).size) (by have := hob.1; omega) (nil_lenU (n := 0) hob rfl))
  have HX := Lib.hid (fun w' (h : Below w1.heap.size w1 w') => five_block ((h.block _ (lt_of_heap hx)).trans hx))
  have HR := Lib.hid (fun w' (h : Below w1.heap.size w1 w') => five_block ((h.block _ (lt_of_heap hr)).trans hr))
  have HB1 := Lib.hid hb1
  have HL := Lib.hid (lt_of_heap hr)
  obtain ⟨⟨y0, y1, y2, y3, y4⟩, _⟩ := HX.out w1 (Below.refl _ _)
  clear hb0 hb1 hx hr hsp hsb hop hob hf
  go_cut [5, 8] (fun s5 s8 wx => Hid (∃ wz, wx = (wz.setCell ⟨w.heap.size, 3, none⟩ s5).setCell ⟨w.heap.size, 4, none⟩ s8 ∧ Below w1.heap.size w1 wz ∧ VrRow wz w1.heap.size s5 f.params ∧ NdRow wz w1.heap.size s8 f.body))
  case first =>
    go_region_law ((first
      | (go_simp; go_at_call 32; (refine (HV.out _ ?_).mono ?_; first | exact HBt.out | exact (Below.refl _ _).drew); rintro e w6 ⟨⟨v6, rfl, hr6⟩, hb6⟩; obtain ⟨a6, c6, rfl⟩ := own_slice hr6; (first | (have HBv := Lib.hid (HBt.out.trans (hb6.mono HBt.out.size))) | (have HBv := Lib.hid ((show Below w1.heap.size w1 w1.drew from (Below.refl _ _).drew).trans (hb6.mono (Nat.le_refl _))))); (first | (have HRt' := Lib.hid (HRt.out.belowed hb6)) | skip); have HRv := Lib.hid hr6; obtain ⟨⟨x0, x1, x2, x3, x4⟩, xf⟩ := HX.out w6 HBv.out; have xf3 := xf 3; have xf4 := xf 4; clear hr6 hb6)
      | (go_simp; go_at_call 33; (refine (HT.out _ ?_).mono ?_; first | exact HBv.out | exact (Below.refl _ _).drew); rintro e w6 ⟨⟨v6, rfl, hr6⟩, hb6⟩; obtain ⟨a6, c6, rfl⟩ := own_slice hr6; (first | (have HBt := Lib.hid (HBv.out.trans (hb6.mono HBv.out.size))) | (have HBt := Lib.hid ((show Below w1.heap.size w1 w1.drew from (Below.refl _ _).drew).trans (hb6.mono (Nat.le_refl _))))); (first | (have HRv' := Lib.hid (HRv.out.belowed hb6)) | skip); have HRt := Lib.hid hr6; obtain ⟨⟨x0, x1, x2, x3, x4⟩, xf⟩ := HX.out w6 HBt.out; have xf3 := xf 3; have xf4 := xf 4; clear hr6 hb6)))
    all_goals
      go_wp2_with fail
      go_meet
      first
        | exact Lib.hid ⟨_, rfl, HBt.out, own_move HRv'.out (Nat.le_refl _) (fun _ _ => rfl), own_move HRt.out HBv.out.size (fun _ _ => rfl)⟩
        | exact Lib.hid ⟨_, rfl, HBv.out, own_move HRv.out HBt.out.size (fun _ _ => rfl), own_move HRt'.out (Nat.le_refl _) (fun _ _ => rfl)⟩
  case rest =>
    obtain ⟨wz, hwz, hbz, hrv, hrt⟩ := hcut.out
    obtain ⟨av, cv, rfl⟩ := own_slice hrv
    obtain ⟨at', ct, rfl⟩ := own_slice hrt
    subst hwz
    clear hcut y0 y1 y2 y3 y4
    obtain ⟨⟨x0, x1, x2, x3, x4⟩, xf⟩ := HX.out wz hbz
    obtain ⟨⟨d0, d1, d2, d3, d4⟩, fd⟩ := HR.out wz hbz
    have fd0 := fd 0
    have fd1 := fd 1
    have fd2 := fd 2
    have fd3 := fd 3
    have fd4 := fd 4
    have HBz := Lib.hid hbz
    have HRv := Lib.hid hrv
    have HRt := Lib.hid hrt
    clear hbz hrv hrt
    go_wp2_with fail
    refine bodyPost_ret (v := .agg #[.int .i64 f.at_, .string f.name, .string f.type, .slice av f.params.length cv, .slice at' f.body.length ct]) (by simp [results, Tryd.results20, go_sem, d0, d1, d2, d3, d4]) rfl ?_
    have hne : ∀ k, w1.heap.size ≤ k → k ≠ w.heap.size ∧ k ≠ w.heap.size + 1 := fun k hk => by have := HL.out; omega
    refine ⟨⟨_, _, rfl, own_move HRv.out HB1.out.size (fun k hk => ?_), own_move HRt.out HB1.out.size (fun k hk => ?_)⟩, ?_⟩
    · rw [Below.heap_setCell _ _ _ _ (hne k hk).2, Below.heap_setCell _ _ _ _ (hne k hk).2, Below.heap_setCell _ _ _ _ (hne k hk).2, Below.heap_setCell _ _ _ _ (hne k hk).2, Below.heap_setCell _ _ _ _ (hne k hk).2, Below.heap_setCell _ _ _ _ (hne k hk).1, Below.heap_setCell _ _ _ _ (hne k hk).1]
    · rw [Below.heap_setCell _ _ _ _ (hne k hk).2, Below.heap_setCell _ _ _ _ (hne k hk).2, Below.heap_setCell _ _ _ _ (hne k hk).2, Below.heap_setCell _ _ _ _ (hne k hk).2, Below.heap_setCell _ _ _ _ (hne k hk).2, Below.heap_setCell _ _ _ _ (hne k hk).1, Below.heap_setCell _ _ _ _ (hne k hk).1]
    · exact (Below.setCell (Below.setCell (Below.setCell (Below.setCell (Below.setCell (Below.setCell (Below.setCell (HB1.out.trans (HBz.out.mono HB1.out.size)) (Nat.le_refl _) _) (Nat.le_refl _) _) (Nat.le_succ _) _) (Nat.le_succ _) _) (Nat.le_succ _) _) (Nat.le_succ _) _) (Nat.le_succ _) _)
end Go.Proofs.YtbbaooeioogijaaDoor
namespace Go.Proofs.YtbbaooeioogijaaDoor
open Go.RowKit

def FuncsEnd (u : UnU) (w : World) (e : Ending) (w' : World) : Prop := Below w.heap.size w w' ∧ match fileN u with
  | .inl p => e = .returned (.tuple #[.slice none 0 0, .agg #[.int .i64 p.1, .int .i64 p.2]])
  | .inr s => ∃ v Q, e = .returned (.tuple #[v, .agg #[.int .i64 0, .int .i64 0]]) ∧ FnsOwn w.heap.size w' v Q ∧ Q.map Prod.fst = s.funcs
/-- the row of a file's functions -/
def FunsAt (A B : Nat) (w : World) (b : Nat) (s : FileN) (lv : Value) (Q : List (FnU × Value × Value)) : Prop := w.cell? ⟨b, 3, none⟩ = some lv ∧ w.ownsRow B 44 5 lv s.funcs.length (Q.flatMap fnUCells) ∧ Q.map Prod.fst = s.funcs ∧ (∀ q ∈ Q, IsFnU A w q.1 q.2.1 q.2.2) ∧ A ≤ B
theorem FileM.funs {A B b mb : Nat} {w : World} {s : FileN} (h : FileM A B w b mb s) : ∃ lv Q, FunsAt A B w b s lv Q := by
  obtain ⟨hA, lv, sv, av, Q, n, hR, hQ, hF, _⟩ := h
  exact ⟨lv, Q, hR.cells.1.2.2.2, hR.list, hQ, hF, hA⟩
theorem fnPU_new {A B base : Nat} {w w8 : World} {f : FnU} {vp vb v vp' vb' : Value} (hf : IsFnU A w f vp vb) (hp : VrRow w8 base vp' f.params) (hb : NdRow w8 base vb' f.body) (hB : B ≤ base) (hv : ∀ k, v.ownBlock = some k → k < base) : FnPU (OffU B w8 v) w8 (f, vp', vb') := by
  obtain ⟨ap, cp, _, hop, _, hvo⟩ := hf.params
  obtain ⟨ab, cb, _, hob, _, hno⟩ := hf.body
  obtain ⟨a1, c1, e1, h1, h1', hs1, hn1⟩ := own_slU vr_len hp rfl
  obtain ⟨a2, c2, e2, h2, h2', hs2, hn2⟩ := own_slU nd_len hb rfl
  have key : ∀ (x : Value) b, (x.ownBlock = some b ∧ base ≤ b ∧ b < w8.heap.size) → OffU B w8 v b := fun x b ⟨_, h, h'⟩ => ⟨Nat.le_trans hB h, h', fun e => by have := hv b e; omega⟩
  exact ⟨hf.name, hf.type, hf.at_, ⟨a1, c1, e1, ⟨hop.1, h1, h1', hn1⟩, hs1.keep (fun b hb => ⟨rfl, key _ b hb⟩), hvo⟩, ⟨a2, c2, e2, ⟨hob.1, h2, h2', hn2⟩, hs2.keep (fun b hb => ⟨rfl, key _ b hb⟩), hno⟩⟩
theorem oneF_flen {s s' : FileN} {x : FnU} (h : oneF s x = .inr s') (hs : s.funcs.length ≤ 128) : s'.funcs.length ≤ 128 := by
  unfold oneF at h
  split at h
  · split at h
    · cases h
    split at h
    · cases h
    split at h
    · cases h
    split at h <;> (cases h; simpa using hs)
  · split at h
    · cases h
    · cases h
      rw [List.length_append]
      simp only [List.length_cons, List.length_nil]
      omega
theorem funcsN_flen : ∀ {L : List FnU} {s s' : FileN}, funcsN L s = .inr s' → s.funcs.length ≤ 128 → s'.funcs.length ≤ 128
  | [], s, s', h, hs => by
    rw [funcsN] at h
    cases h
    exact hs
  | x :: r, s, s', h, hs => by
    rw [funcsN] at h
    rcases hx : oneF s x with c | s1
    · rw [hx] at h; cases h
    · rw [hx] at h
      exact funcsN_flen h (oneF_flen hx hs)
theorem fileN_len {u : UnU} {s : FileN} (h : fileN u = .inr s) : s.funcs.length ≤ 128 := by
  unfold fileN at h
  split at h
  · cases h
  · rcases hg : globsN u.globals 0 ⟨[], []⟩ with f | s1
    · rw [hg] at h; cases h
    · rw [hg] at h
      have := (globsN_ok fileOk_nil hg).2
      exact funcsN_flen h (by rw [this]; decide)
theorem FnsOwn.move {A B : Nat} {w w' : World} {v : Value} {Q : List (FnU × Value × Value)} (h : FnsOwn B w v Q) (hA : A ≤ B) (hw : ∀ k, B ≤ k → w'.heap[k]? = w.heap[k]?) (hs : w.heap.size ≤ w'.heap.size) : FnsOwn A w' v Q :=
  ⟨own_move h.1 hA hw, fun q hq => (h.2 q hq).keep fun b ⟨h1, h2, h3⟩ => ⟨hw b h1, Nat.le_trans hA h1, Nat.lt_of_lt_of_le h2 hs, h3⟩⟩
theorem fnU_one (q : FnU × Value × Value) (h1 : ∃ a n c, q.2.1 = .slice a n c) (h2 : ∃ a n c, q.2.2 = .slice a n c) : ∀ u ∈ fnUCells q, u.oneCell' = true := fun u hu => by
  obtain ⟨a, n, c, e⟩ := h1
  obtain ⟨a2, n2, c2, e2⟩ := h2
  simp only [fnUCells, e, e2, List.mem_cons, List.not_mem_nil, or_false] at hu
  rcases hu with rfl | rfl | rfl | rfl | rfl <;> rfl
set_option maxRecDepth 100000 in
set_option maxHeartbeats 8000000 in
theorem funcs11_ok (u : UnU) (vs vg vf : Value) (w : World) (hE : TE w) (hU : IsUn w.heap.size w u vs vg vf) :
    Calls Tryd.prog 11 #[.agg #[vs, vg, vf]] w (FuncsEnd u w) := by
  obtain ⟨sa, sc, mv, rfl, _⟩ := hU.structs
  obtain ⟨ag, cg, rfl, _⟩ := glsU_len hU.globals
  obtain ⟨af, cf, rfl, _⟩ := fnsU_len hU.funcs
  go_enter Tryd.func11, Tryd.ntmps11
  go_upto_region 1 with fail
  have hb1 := (ba1 w (.cells #[.slice sa u.structs.length sc, .slice ag u.globals.length cg, .slice af u.funcs.length cf] 26)).alloc (ba1 w (.cells #[.slice sa u.structs.length sc, .slice ag u.globals.length cg, .slice af u.funcs.length cf] 26)).size (.cells #[.int .i64 0, .int .i64 0] 32)
  have hxq : ((w.alloc (.cells #[.slice sa u.structs.length sc, .slice ag u.globals.length cg, .slice af u.funcs.length cf] 26)).alloc (.cells #[.int .i64 0, .int .i64 0] 32)).heap[w.heap.size]? = some (.cells #[.slice sa u.structs.length sc, .slice ag u.globals.length cg, .slice af u.funcs.length cf] 26 (0, 0)) := ((ba1 _ _).block _ (lt_of_heap (heap_alloc_new w _))).trans (heap_alloc_new w _)
  have hxr : ((w.alloc (.cells #[.slice sa u.structs.length sc, .slice ag u.globals.length cg, .slice af u.funcs.length cf] 26)).alloc (.cells #[.int .i64 0, .int .i64 0] 32)).heap[w.heap.size + 1]? = some (.cells #[.int .i64 0, .int .i64 0] 32 (0, 0)) := by
    have := heap_alloc_new (w.alloc (.cells #[.slice sa u.structs.length sc, .slice ag u.globals.length cg, .slice af u.funcs.length cf] 26)) (.cells #[.int .i64 0, .int .i64 0] 32)
    simpa using this
  generalize (w.alloc (.cells #[.slice sa u.structs.length sc, .slice ag u.globals.length cg, .slice af u.funcs.length cf] 26)).alloc (.cells #[.int .i64 0, .int .i64 0] 32) = w1 at *
  have HR := Lib.hid (fun w' (h : Below w1.heap.size w1 w') => two_block ((h.block _ (lt_of_heap hxr)).trans hxr))
  have HB1 := Lib.hid hb1
  have HFd := Lib.hid (filed11_ok u _ _ _ w1 (hE.below hb1) (hU.go hb1))
  obtain ⟨⟨q0, q1, q2⟩, _⟩ := three_block hxq
  unfold FiledEnd at HFd
  have HX := Lib.hid hxr
  clear hxq hxr hU hE
  rcases hf : fileN u with p | s
  · obtain ⟨ux, uc⟩ := p
    rw [hf] at HFd
    simp only at HFd
    have huc : uc ≠ 0 := (fileN_ne hf :)
    have t1 : (uc != 0) = true := by simpa using huc
    go_upto_region 2 with (go_at_call 19; (with_reducible refine HFd.out.mono ?_); rintro e w2 ⟨hb2, rfl⟩; have HB2 := Lib.hid (hb2.alloc hb2.size (.cells #[.int .i64 ux, .int .i64 uc] 32)); have HB1' := Lib.hid hb2; clear hb2)
    obtain ⟨⟨d0, d1⟩, fd⟩ := HR.out _ HB2.out
    have fd0 := fd 0
    have fd1 := fd 1
    obtain ⟨⟨y0, y1⟩, _⟩ := two_block (heap_alloc_new w2 (.cells #[.int .i64 ux, .int .i64 uc] 32))
    clear q0 q1 q2
    generalize w2.alloc (.cells #[.int .i64 ux, .int .i64 uc] 32) = w3 at *
    go_wp2_with fail
    go_region_law (fail)
    all_goals
      go_wp2_with fail
      exact bodyPost_ret (v := .tuple #[.slice none 0 0, .agg #[.int .i64 ux, .int .i64 uc]]) (by simp [results, Tryd.results11, go_sem, d0, d1]) rfl ⟨Below.drew (Below.setCell (Below.setCell (HB1.out.trans (HB2.out.mono HB1.out.size)) (Nat.le_succ _) _) (Nat.le_succ _) _), by rw [hf]⟩
  · rw [hf] at HFd
    simp only at HFd
    go_upto_region 2 with (go_at_call 19; (with_reducible refine HFd.out.mono ?_); rintro e w2 ⟨hb2, B, b, mb, rfl, hwB, hBw, hm2⟩; have HB2 := Lib.hid (hb2.alloc hb2.size (.cells #[.int .i64 0, .int .i64 0] 32)); have HM2 := Lib.hid (hm2.below (ba1 w2 (.cells #[.int .i64 0, .int .i64 0] 32))); have HBl := Lib.hid (Nat.le_trans hBw (ba1 w2 (.cells #[.int .i64 0, .int .i64 0] 32)).size); clear hb2 hm2 hBw)
    have hx3 := heap_alloc_new w2 (.cells #[.int .i64 0, .int .i64 0] 32)
    obtain ⟨⟨y0, y1⟩, _⟩ := two_block hx3
    obtain ⟨lv, Q0, hfa⟩ := HM2.out.funs
    obtain ⟨k3, hlv, hQ0, hF0, hAB⟩ := hfa
    obtain ⟨al, cl, rfl⟩ := own_slice hlv
    have HLo := Lib.hid (Nat.lt_of_lt_of_le (lt_of_heap (HX.out)) hwB)
    clear q0 q1 q2
    generalize w2.alloc (.cells #[.int .i64 0, .int .i64 0] 32) = w3 at *
    have HX3 := Lib.hid hx3
    have HLv := Lib.hid hlv
    have HF0 := Lib.hid hF0
    have hln : Q0.length = s.funcs.length := by rw [← hQ0, List.length_map]
    have HQ0 := Lib.hid hQ0
    have hz3 := lt_of_heap hx3
    have HLen := Lib.hid (show s.funcs.length ≤ 128 from fileN_len hf)
    clear hx3 hlv hF0 hQ0
    go_wp2_with fail
    go_loopg [6, 23] s.funcs.length (fun m v6 v23 wy => ∃ (i : Nat) (Q : List (FnU × Value × Value)), i ≤ s.funcs.length ∧ i + m = s.funcs.length ∧ v23 = .int .i64 (i : Int) ∧ Q.length = i ∧ Hid (FnsOwn w3.heap.size wy v6 Q) ∧ Hid (Q.map Prod.fst = s.funcs.take i) ∧ Hid (Below w3.heap.size w3 wy))
    case atStart => exact ⟨0, [], by omega, by omega, rfl, rfl, Lib.hid (fnsOwn_nil _ _), Lib.hid rfl, Lib.hid (Below.refl _ _)⟩
    case round =>
      obtain ⟨i, Q, hi, him, rfl, hql, HO, HQ, HB⟩ := hrel
      subst hql
      obtain ⟨ao, co, rfl⟩ := own_slice HO.out.1
      have hcz : s.funcs.length ≤ 128 := HLen.out
      by_cases hlt : Q.length < s.funcs.length
      · have hiQ : Q.length < Q0.length := by omega
        obtain ⟨g, cap, hgs, hgB, hgl, hcap, hcm, hcs, _⟩ := own_rowAt fnU_len HLv.out hln.symm hiQ
        obtain ⟨rfl, rfl⟩ : al = some ⟨g, 0, none⟩ ∧ cl = cap := by simpa using hgs
        have hmo := HF0.out Q0[Q.length] (List.getElem_mem hiQ)
        have hnx : (Q.map Prod.fst) ++ [Q0[Q.length].1] = s.funcs.take (Q.length + 1) := by
          rw [HQ.out, List.take_add_one]
          congr 1
          rw [← HQ0.out, List.getElem?_map, List.getElem?_eq_getElem hiQ]
          rfl
        rcases hqi : Q0[Q.length] with ⟨f, vp, vb⟩
        rw [hqi] at hmo hcs hnx
        simp only at hmo hnx
        obtain ⟨ap, cp, rfl⟩ := vrs_sl hmo.params
        obtain ⟨ab, cb, rfl⟩ := tr_sl hmo.body
        have m0 := hcs 0 _ rfl
        rw [Nat.add_zero] at m0
        have m1 := hcs 1 _ rfl
        have m2 := hcs 2 _ rfl
        have m3 := hcs 3 _ rfl
        have m4 := hcs 4 _ rfl
        rw [← HB.out.cell hgl] at m0 m1 m2 m3 m4
        have HMo := Lib.hid hmo
        have HNx := Lib.hid hnx
        clear hcs hmo hnx hgs
        go_upto_region 8 with fail
        have hx := heap_alloc_new wr (.cells #[.int .i64 f.at_, .string f.name, .string f.type, .slice ap f.params.length cp, .slice ab f.body.length cb] 44)
        have hba := ba1 wr (.cells #[.int .i64 f.at_, .string f.name, .string f.type, .slice ap f.params.length cp, .slice ab f.body.length cb] 44)
        generalize wr.alloc (.cells #[.int .i64 f.at_, .string f.name, .string f.type, .slice ap f.params.length cp, .slice ab f.body.length cb] 44) = wa at *
        have HBa := Lib.hid (HB.out.trans (hba.mono HB.out.size))
        have HOa := Lib.hid (HO.out.below hba)
        obtain ⟨⟨y0, y1, y2, y3, y4⟩, _⟩ := five_block hx
        have hza := lt_of_heap hx
        have HCo := Lib.hid (copied11_ok f _ _ wa ((HMo.out.below (HBa.out.mono (Nat.le_refl _)) (by omega)).mono (by have := HBa.out.size; omega)))
        unfold CopEnd at HCo
        clear hx hba m0 m1 m2 m3 m4
        obtain ⟨i0, hi0, hz0, hz1', hz2'⟩ := info_parts infoFnU
        have HIn := Lib.hid (And.intro hi0 (And.intro hz0 (And.intro hz1' hz2')))
        clear hi0 hz0 hz1' hz2'
        have HWa := Lib.hid (show wr.heap.size ≤ wa.heap.size from by omega)
        have HSa := Lib.hid HBa.out.size
        have hMr := fun w9 (h : Below w3.heap.size w3 w9) => HMo.out.below h (Nat.le_trans hAB HBl.out)
        have HOw := Lib.hid (fun k (hk : (Value.slice ao Q.length co).ownBlock = some k) => (HO.out.1.lt k hk).2)
        have hn1 : Q.length + 1 ≤ maxLen := by unfold maxLen; omega
        have hn2 : (Q.length + 1) * 88 ≤ 140737488355328 := by omega
        have HNum := Lib.hid (And.intro hn1 hn2)
        clear hn1 hn2
        go_wp2_with (first
          | (go_at_call 20; (with_reducible refine HCo.out.mono ?_); rintro e w8 ⟨⟨vp', vb', rfl, hp8, hb8'⟩, hb8⟩; obtain ⟨ap', cp', rfl⟩ := own_slice hp8; obtain ⟨ab', cb', rfl⟩ := own_slice hb8'; have HP8 := Lib.hid ((fnPU_new (v := .slice ao Q.length co) (hMr _ (HBa.out.trans (hb8.mono HBa.out.size))) hp8 hb8' HSa.out (fun k hk => Nat.lt_of_lt_of_le (HOw.out k hk) HWa.out)).keep (keep_offU (grn_blwU none (ba1 w8 (.cells #[.int .i64 f.at_, .string f.name, .string f.type, .slice ap' f.params.length cp', .slice ab' f.body.length cb'] 44))) (fun r e => by cases e))); have HO8 := Lib.hid ((HOa.out.below hb8).below (ba1 w8 (.cells #[.int .i64 f.at_, .string f.name, .string f.type, .slice ap' f.params.length cp', .slice ab' f.body.length cb'] 44))); have HB8 := Lib.hid ((HBa.out.trans (hb8.mono HBa.out.size)).alloc (Nat.le_trans HBa.out.size hb8.size) (.cells #[.int .i64 f.at_, .string f.name, .string f.type, .slice ap' f.params.length cp', .slice ab' f.body.length cb'] 44)); have HOne := Lib.hid (fnU_one (f, .slice ap' f.params.length cp', .slice ab' f.body.length cb') ⟨_, _, _, rfl⟩ ⟨_, _, _, rfl⟩); clear hp8 hb8' hb8)
          | (at_builtin; go_loud (refine wpList_append_lies _ rfl _ _ _ rfl w3.heap.size 44 i0 _ 5 88 Tryd.underlying24 HIn.out.1 HIn.out.2.1 HIn.out.2.2.1 HIn.out.2.2.2 rfl (by decide) _ Q.length (Q.flatMap fnUCells) rfl HO8.out.1 ⟨_, 0, none⟩ 1 1 (fnUCells (f, .slice ap' f.params.length cp', .slice ab' f.body.length cb')) rfl rfl (World.news_of_block (cs := #[.int .i64 f.at_, .string f.name, .string f.type, .slice ap' f.params.length cp', .slice ab' f.body.length cb']) (heap_alloc_new _ _)) HOne.out (by decide) HNum.out.1 HNum.out.2 HB8.out.size _ rfl ?_)))
        intro gg cap' w11 hown hgrow hat _
        have hpush := HO8.out.push HP8.out rfl hown hgrow (hat.imp id (fun e => by rw [e]; simp))
        have HE1 := Lib.hid hpush
        have HE2 := Lib.hid (show Below w3.heap.size w3 w11 from HB8.out.grown hgrow HB8.out.size (fun k hk => (HO8.out.1.lt k hk).1))
        have HE3 := Lib.hid (show (Q ++ [(f, Value.slice ap' f.params.length cp', Value.slice ab' f.body.length cb')]).map Prod.fst = s.funcs.take (Q.length + 1) by rw [List.map_append]; exact HNx.out)
        clear hpush hown hgrow hat
        go_wp2_with fail
        go_roundg (s.funcs.length - (Q.length + 1))
        case measure => omega
        case rel => exact ⟨Q.length + 1, _, by omega, by omega, by rw [Int.natCast_add]; rfl, by simp, HE1, HE3, HE2⟩
      · have hend : Q.length = s.funcs.length := by omega
        have t5 : (s.funcs.length : Int) ≤ (Q.length : Int) := by omega
        have hmap : Q.map Prod.fst = s.funcs := by rw [HQ.out, hend, List.take_length]
        have hwr := HB2.out.trans (HB.out.mono HB2.out.size)
        obtain ⟨⟨d0, d1⟩, fd⟩ := HR.out wr hwr
        have fd0 := fd 0
        have fd1 := fd 1
        obtain ⟨⟨y0, y1⟩, _⟩ := two_block ((HB.out.block _ hz3).trans HX3.out)
        have HWr := Lib.hid (HB1.out.trans (hwr.mono HB1.out.size))
        have HMap := Lib.hid hmap
        clear hwr hend hmap
        go_wp2_with fail
        go_region_law (fail)
        all_goals
          go_wp2_with fail
          refine bodyPost_ret (v := .tuple #[.slice ao Q.length co, .agg #[.int .i64 0, .int .i64 0]]) (by simp [results, Tryd.results11, go_sem, d0, d1]) rfl ⟨Below.drew (Below.setCell (Below.setCell HWr.out (Nat.le_succ _) _) (Nat.le_succ _) _), ?_⟩
          rw [hf]
          refine ⟨_, Q, rfl, HO.out.move (HB1.out.trans (HB2.out.mono HB1.out.size)).size (fun k hk => ?_) (by simp), HMap.out⟩
          have hne : k ≠ w.heap.size + 1 := by have := HLo.out; have := HBl.out; omega
          show ((wr.setCell ⟨w.heap.size + 1, 0, none⟩ (.int .i64 0)).setCell ⟨w.heap.size + 1, 1, none⟩ (.int .i64 0)).heap[k]? = _
          rw [Below.heap_setCell _ _ _ _ hne, Below.heap_setCell _ _ _ _ hne]
end Go.Proofs.YtbbaooeioogijaaDoor
namespace Go.Proofs.YtbbaooeioogijaaDoor

/-- few slots -/
def Small (r : ResN) : Prop := r.slots.length ≤ 300 ∧ (r.fault.2 = 0 → r.slots.length ≤ 256)
def Grow (s : ScN) (r : ResN) (q : ResN × ScN) : Prop := r.slots.length ≤ q.1.slots.length ∧ q.2.ents.length + r.slots.length ≤ s.ents.length + q.1.slots.length ∧ q.2.taken.length + r.slots.length ≤ s.taken.length + q.1.slots.length ∧ q.1.out.length = r.out.length ∧ (Small r → Small q.1)
theorem Grow.refl (s : ScN) (r : ResN) : Grow s r (r, s) := ⟨Nat.le_refl _, Nat.le_refl _, Nat.le_refl _, rfl, id⟩
theorem Grow.trans {s : ScN} {r : ResN} {q q' : ResN × ScN} (h : Grow s r q) (g : Grow q.2 q.1 q') : Grow s r q' := by
  obtain ⟨h1, h2, h3, h4, h5⟩ := h
  obtain ⟨g1, g2, g3, g4, g5⟩ := g
  exact ⟨by omega, by omega, by omega, g4.trans h4, fun hs => g5 (h5 hs)⟩
theorem wrong_small {r : ResN} (h : Small r) (a c : Int) : Small (r.wrong a c) := by
  unfold ResN.wrong
  split
  · rename_i h0
    exact ⟨h.1, fun _ => h.2 h0⟩
  · exact h
theorem slotW_small {r : ResN} {s : ScN} {n : ByteArray} {a : Int} : (slotW r s n a).fault.2 = 0 → r.slots.length < 256 := fun h0 => (slotW_fault h0).2.1
theorem nameR_len {fs : FileN} {c : List ScN} {x : Nd} {k : Nat} {r : ResN} : (nameR fs c x k r).slots = r.slots ∧ (nameR fs c x k r).out.length = r.out.length ∧ (Small r → Small (nameR fs c x k r)) := by
  unfold nameR
  split
  · split
    · exact ⟨rfl, List.length_set, fun h => h⟩
    · refine ⟨(wrong_slots r _ _).1, ?_, fun h => ?_⟩
      · show ((r.wrong x.at_ 130).out.set k bnd0).length = _
        rw [List.length_set, (wrong_slots r _ _).2]
      · have := wrong_small h x.at_ 130
        exact this
  · exact ⟨rfl, rfl, id⟩
theorem slotR_len {r : ResN} {s : ScN} {x : SlU} {a : Int} : (slotR r s x a).slots.length = r.slots.length + 1 ∧ (slotR r s x a).out.length = r.out.length ∧ (Small r → r.fault.2 = 0 → Small (slotR r s x a)) := by
  obtain ⟨h1, h2⟩ := slotW_slots r s x.name a
  unfold slotR
  refine ⟨by simp [h1], by simp [h2], fun h hr => ?_⟩
  unfold Small
  simp only [List.length_append, h1, List.length_cons, List.length_nil]
  have h3 := h.2 hr
  refine ⟨by omega, fun h0 => ?_⟩
  have := slotW_small (s := s) (n := x.name) (a := a) h0
  omega
theorem grow_visits {t : List Nd} {fr : List Nat} {fs : FileN} {m : Nat} (h : ∀ k up s own r, Grow s r (visitF t fr fs m k up s own r)) : ∀ (ps : List Nat) up s r, Grow s r (visitsF t fr fs m ps up s r)
  | [], up, s, r => by rw [visitsF]; exact Grow.refl s r
  | p :: ps, up, s, r => by
    rw [visitsF]
    exact (h p up s false r).trans (grow_visits h ps up _ _)
theorem grow_visit {t : List Nd} {fr : List Nat} {fs : FileN} : ∀ (m k : Nat) up s own r, Grow s r (visitF t fr fs m k up s own r)
  | 0, k, up, s, own, r => by rw [visitF]; exact Grow.refl s r
  | m + 1, k, up, s, own, r => by
    have hv := grow_visits (grow_visit (t := t) (fr := fr) (fs := fs) m)
    rw [visitF]
    by_cases hr : r.fault.2 ≠ 0
    · rw [if_pos hr]; exact Grow.refl s r
    · rw [if_neg hr]
      have hr0 : r.fault.2 = 0 := by simpa using hr
      split
      · obtain ⟨l1, l2, l3⟩ := slotR_len (r := r) (s := s) (x := declS (t.getD k ndU0)) (a := (t.getD k ndU0).at_)
        obtain ⟨h1, h2, h3, h4, h5⟩ := hv (partsAt t fr k) up (s.take (t.getD k ndU0).text) (slotR r s (declS (t.getD k ndU0)) (t.getD k ndU0).at_)
        generalize visitsF t fr fs m (partsAt t fr k) up (s.take (t.getD k ndU0).text) (slotR r s (declS (t.getD k ndU0)) (t.getD k ndU0).at_) = q at *
        simp only
        have e1 : (s.take (t.getD k ndU0).text).ents.length = s.ents.length := rfl
        have e2 : (s.take (t.getD k ndU0).text).taken.length = s.taken.length + 1 := rfl
        rw [l1] at h1 h2 h3
        rw [e1] at h2
        rw [e2] at h3
        refine ⟨?_, ?_, ?_, ?_, fun hs => ?_⟩
        · show r.slots.length ≤ q.1.slots.length
          omega
        · show (q.2.ents.length + 1) + r.slots.length ≤ s.ents.length + q.1.slots.length
          omega
        · show q.2.taken.length + r.slots.length ≤ s.taken.length + q.1.slots.length
          omega
        · show (q.1.out.set k _).length = _
          rw [List.length_set, h4, l2]
        · exact h5 (l3 hs hr0)
      · obtain ⟨l1, l2, l3⟩ := nameR_len (fs := fs) (c := s :: up) (x := t.getD k ndU0) (k := k) (r := r)
        split
        · obtain ⟨h1, h2, h3, h4, h5⟩ := hv (partsAt t fr k) (s :: up) ScN.new (nameR fs (s :: up) (t.getD k ndU0) k r)
          rw [l1] at h1 h2 h3
          exact ⟨h1, Nat.add_le_add_left h1 _, Nat.add_le_add_left h1 _, h4.trans l2, fun hs => h5 (l3 hs)⟩
        · obtain ⟨h1, h2, h3, h4, h5⟩ := hv (partsAt t fr k) up s (nameR fs (s :: up) (t.getD k ndU0) k r)
          rw [l1] at h1 h2 h3
          exact ⟨h1, h2, h3, h4.trans l2, fun hs => h5 (l3 hs)⟩
theorem grow_n {t : List Nd} {fr : List Nat} {fs : FileN} (k : Nat) (up : List ScN) (s : ScN) (own : Bool) (r : ResN) : Grow s r (visitN t fr fs k up s own r) := grow_visit (k + 1) k up s own r
theorem grow_ns {t : List Nd} {fr : List Nat} {fs : FileN} : ∀ (ps : List Nat) up s r, Grow s r (visitsN t fr fs ps up s r)
  | [], up, s, r => by rw [visitsN]; exact Grow.refl s r
  | p :: ps, up, s, r => by
    rw [visitsN]
    exact (grow_n p up s false r).trans (grow_ns ps up _ _)
end Go.Proofs.YtbbaooeioogijaaDoor
