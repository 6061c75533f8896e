/- A function gone over, in memory: what is found so far, scopes. · The first fault kept; a scope made; names looked for in scopes: the program. · A name looked for in scopes: the program. · Where a part begins; a node's parts: the program. -/
import Derived.Test.YtbbaooeioogijaaDoorMg25
import Derived.Test.YtbbaooeioogijaaDoorTparts
namespace Go.Proofs.YtbbaooeioogijaaDoor
open Go.RowKit Go.Maps

def slUCells (x : SlU) : List Value := [.string x.name, .string x.type, .bool x.vol, .bool x.param]
theorem slU_len (x : SlU) : (slUCells x).length = 4 := rfl
theorem bnd_len (x : Bnd) : (bndCells x).length = 3 := rfl
/-- block rb holds what is found so far -/
structure ResM (B : Nat) (w : World) (rb : Nat) (f : FnU) (vp vb sv ov : Value) (r : ResN) : Prop where
  blk : w.heap[rb]? = some (.cells #[.int .i64 f.at_, .string f.name, .string f.type, vp, vb, sv, ov, .int .i64 r.fault.1, .int .i64 r.fault.2] 72 (0, 0))
  slots : w.ownsRow B 53 4 sv r.slots.length (r.slots.flatMap slUCells)
  out : w.ownsRow B 50 3 ov r.out.length (r.out.flatMap bndCells)
  base : B ≤ rb
  apart : (∀ k, sv.ownBlock = some k → k ≠ rb ∧ ov.ownBlock ≠ some k) ∧ (∀ k, ov.ownBlock = some k → k ≠ rb)
def cntB (l : List ByteArray) (t : ByteArray) : Int := ((l.countP fun q => decide (q = t) : Nat) : Int)
/-- a scope: its block, its names, its slots' names -/
structure ScM (B : Nat) (w : World) (c mb mt : Nat) (p : Value) (s : ScN) : Prop where
  blk : w.heap[c]? = some (.cells #[.map (some mb), p, .map (some mt)] 94 (0, 0))
  ents : MapB w mb s.ents.length (entB s.ents)
  taken : MapN w mt s.taken.length (cntB s.taken)
  base : B ≤ c ∧ B ≤ mb ∧ B ≤ mt
  ne : c ≠ mb ∧ c ≠ mt ∧ mb ≠ mt
/-- scopes, the innermost first, within a file -/
def ChainM (fs : FileN) (P : Nat → Prop) (w : World) : List ScN → Value → Prop
  | [], p => ∃ c mb n, p = .pointer (some ⟨c, 0, none⟩) ∧ P c ∧ P mb ∧ w.heap[c]? = some (.cells #[.map (some mb), .pointer none, .map none] 94 (0, 0)) ∧ MapB w mb n fs.look
  | s :: up, p => ∃ c mb mt n p', p = .pointer (some ⟨c, 0, none⟩) ∧ P c ∧ P mb ∧ w.heap[c]? = some (.cells #[.map (some mb), p', .map (some mt)] 94 (0, 0)) ∧ MapB w mb n (entB s.ents) ∧ ChainM fs P w up p'
theorem MapB.move {w w' : World} {b n : Nat} {f : ByteArray → Option Bnd} (h : MapB w b n f) (e : w'.heap[b]? = w.heap[b]?) : MapB w' b n f := by
  obtain ⟨D, ⟨es, cl, h1, h2⟩, hv⟩ := h
  exact ⟨D, ⟨es, cl, e.trans h1, h2⟩, hv⟩
theorem MapN.move {w w' : World} {b n : Nat} {f : ByteArray → Int} (h : MapN w b n f) (e : w'.heap[b]? = w.heap[b]?) : MapN w' b n f := by
  obtain ⟨D, ⟨es, cl, h1, h2⟩, hv⟩ := h
  exact ⟨D, ⟨es, cl, e.trans h1, h2⟩, hv⟩
theorem ChainM.keep {fs : FileN} {P P' : Nat → Prop} {w w' : World} (hk : ∀ k, P k → w'.heap[k]? = w.heap[k]? ∧ P' k) : ∀ {L : List ScN} {p : Value}, ChainM fs P w L p → ChainM fs P' w' L p
  | [], p, h => by
    obtain ⟨c, mb, n, e, hc, hm, hb, hn⟩ := h
    exact ⟨c, mb, n, e, (hk c hc).2, (hk mb hm).2, (hk c hc).1.trans hb, hn.move (hk mb hm).1⟩
  | s :: up, p, h => by
    obtain ⟨c, mb, mt, n, p', e, hc, hm, hb, hn, hu⟩ := h
    exact ⟨c, mb, mt, n, p', e, (hk c hc).2, (hk mb hm).2, (hk c hc).1.trans hb, hn.move (hk mb hm).1, ChainM.keep hk hu⟩
/-- the blocks that going over a function touches -/
def VisT (rb mb mt : Nat) (sv ov : Value) (k : Nat) : Prop := k = rb ∨ k = mb ∨ k = mt ∨ sv.ownBlock = some k ∨ ov.ownBlock = some k
abbrev FreeV (w : World) (rb mb mt : Nat) (sv ov : Value) (k : Nat) : Prop := k < w.heap.size ∧ ¬ VisT rb mb mt sv ov k
structure VisM (B : Nat) (fs : FileN) (f : FnU) (vp vb : Value) (w : World) (rb c mb mt : Nat) (p ov sv : Value) (up : List ScN) (s : ScN) (r : ResN) : Prop where
  res : ResM B w rb f vp vb sv ov r
  sc : ScM B w c mb mt p s
  chain : ChainM fs (FreeV w rb mb mt sv ov) w up p
  free : FreeV w rb mb mt sv ov c
  apart : (rb ≠ mb ∧ rb ≠ mt) ∧ (∀ k, sv.ownBlock = some k → k ≠ mb ∧ k ≠ mt) ∧ (∀ k, ov.ownBlock = some k → k ≠ mb ∧ k ≠ mt)
theorem own_lt {w : World} {B : Nat} {T : TypeId} {k n : Nat} {v : Value} {xs : List Value} (h : w.ownsRow B T k v n xs) {g : Nat} (hg : v.ownBlock = some g) : g < w.heap.size := (h.lt g hg).2
theorem ResM.lt {B : Nat} {w : World} {rb : Nat} {f : FnU} {vp vb sv ov : Value} {r : ResN} (h : ResM B w rb f vp vb sv ov r) : rb < w.heap.size := lt_of_heap h.blk
theorem ResM.below {B : Nat} {w w' : World} {rb : Nat} {f : FnU} {vp vb sv ov : Value} {r : ResN} (h : ResM B w rb f vp vb sv ov r) (hb : Below w.heap.size w w') : ResM B w' rb f vp vb sv ov r :=
  ⟨(hb.block _ h.lt).trans h.blk, h.slots.belowed hb, h.out.belowed hb, h.base, h.apart⟩
theorem ScM.move {B : Nat} {w w' : World} {c mb mt : Nat} {p : Value} {s : ScN} (h : ScM B w c mb mt p s) (h1 : w'.heap[c]? = w.heap[c]?) (h2 : w'.heap[mb]? = w.heap[mb]?) (h3 : w'.heap[mt]? = w.heap[mt]?) : ScM B w' c mb mt p s :=
  ⟨h1.trans h.blk, h.ents.move h2, h.taken.move h3, h.base, h.ne⟩
theorem ScM.below {B : Nat} {w w' : World} {c mb mt : Nat} {p : Value} {s : ScN} (h : ScM B w c mb mt p s) (hb : Below w.heap.size w w') : ScM B w' c mb mt p s :=
  h.move (hb.block _ (lt_of_heap h.blk)) (hb.block _ h.ents.lt) (hb.block _ h.taken.lt)
theorem VisM.below {B : Nat} {fs : FileN} {f : FnU} {vp vb : Value} {w w' : World} {rb c mb mt : Nat} {p ov sv : Value} {up : List ScN} {s : ScN} {r : ResN} (h : VisM B fs f vp vb w rb c mb mt p ov sv up s r) (hb : Below w.heap.size w w') : VisM B fs f vp vb w' rb c mb mt p ov sv up s r :=
  ⟨h.res.below hb, h.sc.below hb, h.chain.keep fun k hk => ⟨hb.block k hk.1, Nat.lt_of_lt_of_le hk.1 hb.size, hk.2⟩, ⟨Nat.lt_of_lt_of_le h.free.1 hb.size, h.free.2⟩, h.apart⟩
/-- what all calls leave: the row of slots may have moved -/
theorem VisM.next {B : Nat} {fs : FileN} {f : FnU} {vp vb : Value} {w w' : World} {rb c mb mt : Nat} {p ov sv sv' : Value} {up : List ScN} {s s' : ScN} {r r' : ResN} (h : VisM B fs f vp vb w rb c mb mt p ov sv up s r)
    (hk : KeepU w w' (VisT rb mb mt sv ov)) (hs : w.heap.size ≤ w'.heap.size) (hv : ∀ k, sv'.ownBlock = some k → sv.ownBlock = some k ∨ w.heap.size ≤ k) (hr : ResM B w' rb f vp vb sv' ov r') (he : MapB w' mb s'.ents.length (entB s'.ents)) (ht : MapN w' mt s'.taken.length (cntB s'.taken)) :
    VisM B fs f vp vb w' rb c mb mt p ov sv' up s' r' := by
  have hfree : ∀ k, FreeV w rb mb mt sv ov k → w'.heap[k]? = w.heap[k]? ∧ FreeV w' rb mb mt sv' ov k := fun k ⟨h1, h2⟩ => ⟨hk k h1 h2, Nat.lt_of_lt_of_le h1 hs, fun hT => by
    rcases hT with e | e | e | e | e
    · exact h2 (.inl e)
    · exact h2 (.inr (.inl e))
    · exact h2 (.inr (.inr (.inl e)))
    · rcases hv k e with e | e
      · exact h2 (.inr (.inr (.inr (.inl e))))
      · omega
    · exact h2 (.inr (.inr (.inr (.inr e))))⟩
  refine ⟨hr, ⟨(hfree c h.free).1.trans h.sc.blk, he, ht, h.sc.base, h.sc.ne⟩, h.chain.keep hfree, (hfree c h.free).2, h.apart.1, fun k e => ?_, h.apart.2.2⟩
  rcases hv k e with e | e
  · exact h.apart.2.1 k e
  · have h1 := h.sc.ents.lt
    have h2 := h.sc.taken.lt
    exact ⟨by omega, by omega⟩
end Go.Proofs.YtbbaooeioogijaaDoor
namespace Go.Proofs.YtbbaooeioogijaaDoor
open Go.RowKit Go.Maps

theorem nine_block {w : World} {b : Nat} {a0 a1 a2 a3 a4 a5 a6 a7 a8 : Value} {T : TypeId} (h : w.heap[b]? = some (.cells #[a0, a1, a2, a3, a4, a5, a6, a7, a8] T (0, 0))) :
    (w.cell? ⟨b, 0, none⟩ = some a0 ∧ w.cell? ⟨b, 1, none⟩ = some a1 ∧ w.cell? ⟨b, 2, none⟩ = some a2 ∧ w.cell? ⟨b, 3, none⟩ = some a3 ∧ w.cell? ⟨b, 4, none⟩ = some a4 ∧ w.cell? ⟨b, 5, none⟩ = some a5 ∧ w.cell? ⟨b, 6, none⟩ = some a6 ∧ w.cell? ⟨b, 7, none⟩ = some a7 ∧ w.cell? ⟨b, 8, none⟩ = some a8) ∧ ∀ j, w.frozen? ⟨b, j, none⟩ = false := by
  refine ⟨⟨?_, ?_, ?_, ?_, ?_, ?_, ?_, ?_, ?_⟩, fun j => ?_⟩ <;> simp [World.cell?, World.frozen?, h]
theorem ResM.fault {B : Nat} {w : World} {rb : Nat} {f : FnU} {vp vb sv ov : Value} {r : ResN} (h : ResM B w rb f vp vb sv ov r) (x c : Int) : ResM B ((w.setCell ⟨rb, 7, none⟩ (.int .i64 x)).setCell ⟨rb, 8, none⟩ (.int .i64 c)) rb f vp vb sv ov ⟨r.slots, r.out, (x, c)⟩ := by
  refine ⟨?_, row_setU (row_setU h.slots _ _ fun e => (h.apart.1 rb e).1 rfl) _ _ fun e => (h.apart.1 rb e).1 rfl, row_setU (row_setU h.out _ _ fun e => h.apart.2 rb e rfl) _ _ fun e => h.apart.2 rb e rfl, h.base, h.apart⟩
  simp [World.setCell, Array.getElem?_modify, h.blk]
set_option maxRecDepth 100000 in
set_option maxHeartbeats 4000000 in
theorem wrong11_ok {B : Nat} {rb : Nat} {f : FnU} {vp vb sv ov : Value} {r : ResN} (x c : Int) (w : World) (h : ResM B w rb f vp vb sv ov r) :
    Calls Tryd.prog 38 #[.pointer (some ⟨rb, 0, none⟩), .int .i64 x, .int .i64 c] w fun e w' => e = .returned (.tuple #[]) ∧ ResM B w' rb f vp vb sv ov (r.wrong x c) ∧ Below B w w' ∧ KeepU w w' (· = rb) ∧ w'.heap.size = w.heap.size := by
  have HR := Lib.hid h
  obtain ⟨⟨k0, k1, k2, k3, k4, k5, k6, k7, k8⟩, kf⟩ := nine_block h.blk
  have kf7 := kf 7
  have kf8 := kf 8
  by_cases h0 : r.fault.2 = 0
  · rw [h0] at k8
    go_enter Tryd.func38, Tryd.ntmps38
    go_wp2_with fail
    refine bodyPost_end (results_none rfl _ _ _) rfl ?_
    refine ⟨rfl, ?_, ((Below.refl B w).setCell (p := ⟨rb, 7, none⟩) HR.out.base _).setCell (p := ⟨rb, 8, none⟩) HR.out.base _, ((KeepU.refl w (· = rb)).set ⟨rb, 7, none⟩ _ rfl).set ⟨rb, 8, none⟩ _ rfl, by simp⟩
    unfold ResN.wrong
    rw [if_pos h0]
    exact HR.out.fault x c
  · have t1 : (r.fault.2 == 0) = false := by simpa using h0
    go_enter Tryd.func38, Tryd.ntmps38
    go_wp2_with fail
    refine bodyPost_end (results_none rfl _ _ _) rfl ?_
    refine ⟨rfl, ?_, Below.refl _ _, KeepU.refl _ _, rfl⟩
    unfold ResN.wrong
    rw [if_neg h0]
    exact HR.out
set_option maxRecDepth 100000 in
set_option maxHeartbeats 4000000 in
theorem within11_ok (p : Option Addr) (w : World) : Calls Tryd.prog 23 #[.pointer p] w fun e w' => e = .returned (.pointer (some ⟨w.heap.size + 2, 0, none⟩)) ∧ ScM w.heap.size w' (w.heap.size + 2) w.heap.size (w.heap.size + 1) (.pointer p) ScN.new ∧ Below w.heap.size w w' ∧ w'.heap.size = w.heap.size + 3 := by
  have hmm := @run_makeMap Tryd.prog
  go_enter Tryd.func23, Tryd.ntmps23
  go_wp2_with fail
  go_ret
  have h1 := ba1 w (.map #[] 0)
  have h2 := ba1 (w.alloc (.map #[] 0)) (.map #[] 0)
  have h3 := ba1 ((w.alloc (.map #[] 0)).alloc (.map #[] 0)) (.cells #[.map (some w.heap.size), .pointer p, .map (some (w.heap.size + 1))] 94)
  have s1 : (w.alloc (.map #[] 0)).heap.size = w.heap.size + 1 := by simp
  have s2 : ((w.alloc (.map #[] 0)).alloc (.map #[] 0)).heap.size = w.heap.size + 2 := by simp
  refine ⟨rfl, ⟨?_, ?_, ?_, ⟨by omega, by omega, by omega⟩, ⟨by omega, by omega, by omega⟩⟩, h1.trans ((h2.mono h1.size).trans (h3.mono (Nat.le_trans h1.size h2.size))), by simp⟩
  · have := heap_alloc_new ((w.alloc (.map #[] 0)).alloc (.map #[] 0)) (.cells #[.map (some w.heap.size), .pointer p, .map (some (w.heap.size + 1))] 94)
    rw [s2] at this
    exact this
  · exact (((mapB_nil (w := w)).below h2).below h3).same fun s => rfl
  · have := (mapN_nil (w := w.alloc (.map #[] 0))).below h3
    rw [s1] at this
    exact this
end Go.Proofs.YtbbaooeioogijaaDoor
namespace Go.Proofs.YtbbaooeioogijaaDoor
open Go.RowKit Go.Maps

/-- a scope of a chain: what it holds -/
theorem ChainM.head {fs : FileN} {P : Nat → Prop} {w : World} {L : List ScN} {p : Value} (h : ChainM fs P w L p) : ∃ c mb mv n p', p = .pointer (some ⟨c, 0, none⟩) ∧ w.heap[c]? = some (.cells #[.map (some mb), p', mv] 94 (0, 0)) ∧ (match L with
    | [] => p' = .pointer none ∧ MapB w mb n fs.look
    | s :: up => MapB w mb n (entB s.ents) ∧ ChainM fs P w up p') := by
  cases L with
  | nil =>
    obtain ⟨c, mb, n, e, _, _, hb, hn⟩ := h
    exact ⟨c, mb, _, n, _, e, hb, rfl, hn⟩
  | cons s up =>
    obtain ⟨c, mb, mt, n, p', e, _, _, hb, hn, hu⟩ := h
    exact ⟨c, mb, _, n, p', e, hb, hn, hu⟩
theorem ChainM.ptr {fs : FileN} {P : Nat → Prop} {w : World} {L : List ScN} {p : Value} (h : ChainM fs P w L p) : ∃ c, p = .pointer (some ⟨c, 0, none⟩) := by
  obtain ⟨c, _, _, _, _, e, _⟩ := h.head
  exact ⟨c, e⟩
def FindEnd (o : Option Bnd) (w : World) (e : Ending) (w' : World) : Prop := e = .returned (.tuple #[bndV (o.getD bnd0), .bool o.isSome]) ∧ Below w.heap.size w w'
/-- where the search stands: a chain, or past its end -/
def FindAt (fs : FileN) (P : Nat → Prop) (n : ByteArray) (o : Option Bnd) (w : World) (m : Nat) (v : Value) : Prop := (∃ L, ChainM fs P w L v ∧ findC fs L n = o ∧ L.length + 1 = m) ∨ (v = .pointer none ∧ o = none ∧ m = 0)
set_option maxRecDepth 100000 in
set_option maxHeartbeats 8000000 in
theorem find11_ok {fs : FileN} {P : Nat → Prop} {L : List ScN} {p : Value} (n : ByteArray) (w : World) (h : ChainM fs P w L p) (hP : ∀ k, P k → k < w.heap.size) (hs : n.size ≤ maxLen) :
    Calls Tryd.prog 39 #[p, .string n] w (FindEnd (findC fs L n) w) := by
  have HC := Lib.hid h
  have HP := Lib.hid hP
  generalize ho : findC fs L n = o at *
  have HO := Lib.hid ho
  clear h hP ho
  have hb0 := ba1 w (.cells #[.int .i64 0, .int .i64 0, .string ⟨#[]⟩] 50)
  have hx := heap_alloc_new w (.cells #[.int .i64 0, .int .i64 0, .string ⟨#[]⟩] 50)
  go_enter Tryd.func39, Tryd.ntmps39
  go_wp2_with fail
  generalize w.alloc (.cells #[.int .i64 0, .int .i64 0, .string ⟨#[]⟩] 50) = w0 at *
  have HB0 := Lib.hid hb0
  have HX := Lib.hid hx
  have HZ := Lib.hid (lt_of_heap hx)
  clear hb0 hx
  go_loopg [0] (L.length + 1) (fun m v0 wy => Hid (FindAt fs P n o wy m v0) ∧ Hid (Below w0.heap.size w0 wy))
  case atStart => exact ⟨Lib.hid (.inl ⟨L, HC.out.keep fun k hk => ⟨HB0.out.block k (HP.out k hk), hk⟩, HO.out, rfl⟩), Lib.hid (Below.refl _ _)⟩
  case round =>
    obtain ⟨HF, HB⟩ := hrel
    obtain ⟨⟨d0, d1, d2⟩, fd⟩ := three_block ((HB.out.block _ HZ.out).trans HX.out)
    have fd0 := fd 0
    have fd1 := fd 1
    have fd2 := fd 2
    have HBw := Lib.hid (HB0.out.trans (HB.out.mono HB0.out.size))
    have HBs := Lib.hid HB0.out.size
    rcases HF.out with ⟨L', hch, hfo, hm⟩ | ⟨rfl, hoe, hm⟩
    · obtain ⟨c, mb, mv, nn, p', rfl, hblk, hrest⟩ := hch.head
      obtain ⟨⟨k0, k1, k2⟩, _⟩ := three_block hblk
      have hcz := lt_of_heap hblk
      obtain ⟨g, hg, hy, hn⟩ : ∃ g : ByteArray → Option Bnd, MapB wr mb nn g ∧ (∀ b, g n = some b → o = some b) ∧ (g n = none → ∃ m', m' < gk ∧ FindAt fs P n o wr m' p') := by
        cases L' with
        | nil =>
          obtain ⟨rfl, hb⟩ := hrest
          rw [findC] at hfo
          exact ⟨_, hb, fun b e => by rw [← hfo, e], fun e => ⟨0, by omega, .inr ⟨rfl, by rw [← hfo, e], rfl⟩⟩⟩
        | cons s up =>
          obtain ⟨hb, hu⟩ := hrest
          rw [findC] at hfo
          exact ⟨_, hb, fun b e => by rw [← hfo, e], fun e => ⟨up.length + 1, by simp at hm; omega, .inl ⟨up, hu, by rw [← hfo, e], rfl⟩⟩⟩
      have hl := hg.look2 hs
      clear hch hrest
      rcases hgn : g n with _ | ⟨qk, qi, qt⟩
      · rw [hgn] at hl
        simp only [Option.getD_none, Option.isSome_none, zeroBV] at hl
        obtain ⟨m', hm', hnx⟩ := hn hgn
        have HN := Lib.hid (show FindAt fs P n o (wr.alloc (.cells #[.int .i64 0, .int .i64 0, .string ⟨#[]⟩] 50)) m' p' from by
          rcases hnx with ⟨L2, h2, h3, h4⟩ | h2
          · exact .inl ⟨L2, h2.keep fun k hk => ⟨(ba1 wr _).block k (Nat.lt_of_lt_of_le (HP.out k hk) HBw.out.size), hk⟩, h3, h4⟩
          · exact .inr h2)
        clear hnx hn hy hg
        go_wp2_with fail
        go_roundg m'
        case measure => exact hm'
        case rel => exact ⟨HN, Lib.hid (HB.out.alloc HB.out.size _)⟩
      · rw [hgn] at hl
        simp only [Option.getD_some, Option.isSome_some, bndV] at hl
        have hoe := hy _ hgn
        subst hoe
        clear hy hn hg
        have hsz : w.heap.size < wr.heap.size := Nat.lt_of_lt_of_le HZ.out HB.out.size
        have hd := (HB.out.block _ HZ.out).trans HX.out
        have h3 : (((wr.setCell ⟨w.heap.size, 0, none⟩ (.int .i64 qk)).setCell ⟨w.heap.size, 1, none⟩ (.int .i64 qi)).setCell ⟨w.heap.size, 2, none⟩ (.string qt)).heap[w.heap.size]? = some (.cells #[.int .i64 qk, .int .i64 qi, .string qt] 50 (0, 0)) := by
          simp [World.setCell, Array.getElem?_modify, hd]
        obtain ⟨⟨e0, e1, e2⟩, _⟩ := three_block (((ba1 _ (.cells #[.int .i64 qk, .int .i64 qi, .string qt] 50)).block _ (lt_of_heap h3)).trans h3)
        clear h3 hd
        go_wp2_with fail
        refine bodyPost_ret (v := .tuple #[bndV ⟨qk, qi, qt⟩, .bool true]) (by simp only [bndV]; simp [results, Tryd.results39, go_sem, e0, e1, e2]) rfl ⟨rfl, ?_⟩
        have hb3 := ((HBw.out.setCell (p := ⟨w.heap.size, 0, none⟩) (Nat.le_refl _) (.int .i64 qk)).setCell (p := ⟨w.heap.size, 1, none⟩) (Nat.le_refl _) (.int .i64 qi)).setCell (p := ⟨w.heap.size, 2, none⟩) (Nat.le_refl _) (.string qt)
        exact hb3.alloc hb3.size _
    · subst hoe
      go_wp2_with fail
      exact bodyPost_ret (v := .tuple #[bndV bnd0, .bool false]) (by simp only [zeroBV]; simp [results, Tryd.results39, go_sem, d0, d1, d2]) rfl ⟨rfl, Below.setCell (Below.setCell (Below.setCell HBw.out (Nat.le_refl _) _) (Nat.le_refl _) _) (Nat.le_refl _) _⟩
end Go.Proofs.YtbbaooeioogijaaDoor
namespace Go.Proofs.YtbbaooeioogijaaDoor
open Go.RowKit

theorem startE_add (fr : List Nat) : ∀ (n m e : Nat), startE fr (n + m) e = startE fr m (startE fr n e)
  | 0, m, e => by rw [Nat.zero_add]; rfl
  | n + 1, m, e => by rw [Nat.add_right_comm, startE, startE, startE_add fr n m]
theorem back_add {fr : List Nat} : ∀ {n m e : Nat}, Back fr n e → Back fr m (startE fr n e) → Back fr (n + m) e
  | 0, m, e, _, h => by rw [Nat.zero_add]; exact h
  | n + 1, m, e, ⟨h1, h2, h3⟩, h => by
    rw [Nat.add_right_comm]
    exact ⟨h1, h2, back_add h3 h⟩
/-- where the search for a part's beginning stands -/
structure BgInv (fr : List Nat) (k e l : Nat) : Prop where
  start : startE fr l e = fr.getD k 0
  back : Back fr l e
  le : e ≤ k
theorem BgInv.next {t : List Nd} {fr : List Nat} (hb : beginsN t = some fr) {k e l : Nat} (h : BgInv fr k (e + 1) (l + 1)) (hk : k < t.length) : ∃ n : Nat, (t[e]'(by have := h.le; omega)).n = (n : Int) ∧ BgInv fr k e (n + l) ∧ n ≤ e := by
  have he : e < t.length := by have := h.le; omega
  obtain ⟨h1, h2, _⟩ := (formed_of hb).node e _ (List.getElem?_eq_getElem he)
  have h3 := start_of hb (List.getElem?_eq_getElem he)
  have h4 := h.start
  have h5 := h.back
  rw [startE, Nat.add_sub_cancel] at h4
  obtain ⟨_, _, h6⟩ := h5
  rw [Nat.add_sub_cancel] at h6
  refine ⟨t[e].n.toNat, by omega, ⟨by rw [startE_add, h3, h4], back_add h2 (by rw [h3]; exact h6), by have := h.le; omega⟩, h2.le⟩
set_option maxRecDepth 100000 in
set_option maxHeartbeats 8000000 in
theorem begin11_ok {A rb : Nat} {ab : Option Addr} {cb : Nat} {t : List Nd} {fr : List Nat} (hb : beginsN t = some fr) (k : Nat) (hk : k < t.length) (hl : t.length ≤ 4096) (w : World) (hc : w.cell? ⟨rb, 4, none⟩ = some (.slice ab t.length cb)) (hI : IsNds A w ab t) :
    Calls Tryd.prog 51 #[.pointer (some ⟨rb, 0, none⟩), .int .i64 (k : Int)] w fun e w' => e = .returned (.int .i64 (fr.getD k 0 : Int)) ∧ w' = w := by
  have HI := Lib.hid hI
  have HN := Lib.hid (fun e l (h : BgInv fr k (e + 1) (l + 1)) => h.next hb hk)
  obtain ⟨hn0, hbk, _⟩ := (formed_of hb).node k _ (List.getElem?_eq_getElem hk)
  have hst := start_of hb (List.getElem?_eq_getElem hk)
  obtain ⟨ba, off, ha, hbl, x0, x1, x2, x3, x4, x5⟩ := nds_at hI hk
  subst ha
  clear x0 x2 x3 x4 x5 hI
  generalize t[k].n = xn at *
  obtain ⟨n, rfl⟩ : ∃ n : Nat, xn = (n : Int) := ⟨xn.toNat, by omega⟩
  rw [Int.toNat_natCast] at *
  have H0 := Lib.hid (show BgInv fr k k n from ⟨hst, hbk, Nat.le_refl _⟩)
  have hnk := hbk.le
  clear hbk hst hb
  go_enter Tryd.func51, Tryd.ntmps51
  go_wp2_with fail
  go_loopg [1, 5] k (fun m v1 v5 wy => ∃ e l : Nat, m = e ∧ v1 = .int .i64 (e : Int) ∧ v5 = .int .i64 (l : Int) ∧ Hid (BgInv fr k e l) ∧ wy = w)
  case atStart => exact ⟨k, n, rfl, rfl, rfl, H0, by trivial⟩
  case round =>
    obtain ⟨e, l, hm, rfl, rfl, HB, rfl⟩ := hrel
    have hle := HB.out.back.le
    have hek := HB.out.le
    cases l with
    | zero =>
      have hfin : (e : Int) = (fr.getD k 0 : Int) := by have := HB.out.start; rw [startE] at this; omega
      clear x1
      go_wp2_with fail
      go_ret
      exact ⟨(show Ending.returned (.int .i64 (e : Int)) = _ by rw [hfin]), by trivial⟩
    | succ l =>
      obtain ⟨d, rfl⟩ : ∃ d, e = d + 1 := ⟨e - 1, by omega⟩
      obtain ⟨q, hq, hqi, hqd⟩ := HN.out d l HB.out
      obtain ⟨ba', off', ha', hbl', c0, c1, c2, c3, c4, c5⟩ := nds_at HI.out (show d < t.length by omega)
      obtain ⟨rfl, rfl⟩ : ba = ba' ∧ off = off' := by simpa using ha'
      rw [hq] at c1
      have HQ := Lib.hid hqi
      clear c0 c2 c3 c4 c5 hqi hq ha' x1
      go_wp2_with fail
      go_roundg d
      case measure => omega
      case rel => exact ⟨d, q + l, rfl, rfl, by congr 1; omega, HQ, by trivial⟩
set_option maxRecDepth 100000 in
set_option maxHeartbeats 8000000 in
theorem parts11_ok {A rb : Nat} {ab : Option Addr} {cb : Nat} {t : List Nd} {fr : List Nat} (hb : beginsN t = some fr) (k : Nat) (hk : k < t.length) (hl : t.length ≤ 4096) (w : World) (hrb : rb < w.heap.size) (hA : A ≤ w.heap.size) (hc : w.cell? ⟨rb, 4, none⟩ = some (.slice ab t.length cb)) (hI : IsNds A w ab t) :
    Calls Tryd.prog 40 #[.pointer (some ⟨rb, 0, none⟩), .int .i64 (k : Int)] w (PartEnd (partsAt t fr k) w) := by
  have hf := formed_of hb
  obtain ⟨hn0, hbk, _⟩ := hf.node k _ (List.getElem?_eq_getElem hk)
  rw [partsAt_is (List.getElem?_eq_getElem hk)]
  have HB := Lib.hid (fun (d : Nat) (hd : d < t.length) w1 (h : Below w.heap.size w w1) => begin11_ok hb d hd hl w1 ((h.cell hrb).trans hc) (hI.below h hA))
  obtain ⟨ba, off, ha, hbl, x0, x1, x2, x3, x4, x5⟩ := nds_at hI hk
  subst ha
  clear x0 x2 x3 x4 x5
  clear hf hI
  generalize t[k].n = xn at *
  obtain ⟨n, rfl⟩ : ∃ n : Nat, xn = (n : Int) := ⟨xn.toNat, by omega⟩
  rw [Int.toNat_natCast] at *
  have hnk := hbk.le
  have HBk := Lib.hid hbk
  obtain ⟨i0, hi, hz0, hz1, hz2⟩ := info_parts infoInt
  have HI0 := Lib.hid (And.intro hi (And.intro hz0 (And.intro hz1 hz2)))
  have HNum := Lib.hid (show i0.bytes * n ≤ 281474976710656 ∧ n ≤ maxLen from ⟨by rw [hz2]; omega, by unfold maxLen; omega⟩)
  clear hi hz0 hz1 hz2 hbk hn0 hb
  go_enter Tryd.func40, Tryd.ntmps40
  go_wp2_with (at_make; go_loud (refine wpList_make_full _ rfl _ _ _ rfl w.heap.size 3 i0 (.int .i64 0) 1 Tryd.underlying103 HI0.out.1 HI0.out.2.1 HI0.out.2.2.1 .i64 .i64 (n : Int) (n : Int) n rfl rfl rfl rfl HNum.out.1 HNum.out.2 (Nat.le_refl _) ?_))
  intro w1 hown1 hgrow1
  have hb1 : Below w.heap.size w w1 := (Below.refl _ _).grown hgrow1 (Nat.le_refl _) (fun k hk => by simp at hk)
  have HP0 := Lib.hid (show PartInv w fr n k w1 n k [] from ⟨by simp, by simp, HBk.out, Nat.le_refl _, ⟨_, hown1, fun i x h => by simp at h⟩, hb1⟩)
  clear hown1 hgrow1 hb1 x1 hc
  go_wp2_with fail
  go_loopg [6, 7] n (fun m v6 v7 wy => ∃ (r e : Nat) (x y : Int) (tail : List Nat), m = r ∧ r ≤ n ∧ v7 = .int .i64 x ∧ v6 = .int .i64 y ∧ x = (r : Int) - 1 ∧ y = (e : Int) - 1 ∧ Hid (PartInv w fr n k wy r e tail))
  case atStart => exact ⟨n, k, _, _, [], rfl, Nat.le_refl _, rfl, rfl, rfl, rfl, HP0⟩
  case round =>
    obtain ⟨r, e, x, y, tail, hm, hrn, rfl, rfl, hx, hy, HP⟩ := hrel
    have hek := HP.out.le
    cases r with
    | zero =>
      have t1 : decide (0 ≤ x) = false := by simp; omega
      go_wp2_with fail
      go_ret
      exact partEnd HP.out.done (Below.refl _ _) HP.out.below
    | succ r =>
      obtain ⟨d, rfl⟩ : ∃ d, e = d + 1 := ⟨e - 1, by have := HP.out.back.1; omega⟩
      obtain rfl : x = (r : Int) := by omega
      obtain rfl : y = (d : Int) := by omega
      clear hx hy
      have t1 : decide (0 ≤ (r : Int)) = true := by simp
      obtain ⟨⟨u, c1⟩, c2⟩ := HP.out.cell
      have HN := Lib.hid HP.out.next
      have HBd := Lib.hid (HB.out d (by omega) _ HN.out.below)
      have hfd : fr.getD d 0 ≤ d := by have := HP.out.back.2.1; rw [Nat.add_sub_cancel] at this; omega
      generalize fr.getD d 0 = q at *
      go_wp2_with (go_at_call 51; (with_reducible refine HBd.out.mono ?_); rintro e w6 ⟨rfl, rfl⟩)
      go_roundg r
      case measure => omega
      case rel => exact ⟨r, q, _, _, d :: tail, rfl, by omega, rfl, rfl, by omega, by omega, HN⟩
end Go.Proofs.YtbbaooeioogijaaDoor
