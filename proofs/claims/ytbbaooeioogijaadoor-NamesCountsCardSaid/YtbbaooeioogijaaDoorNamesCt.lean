/- Slots are as many as parameters and declarations, each name has a meaning of its type: the law's walk. -/
import Derived.Test.YtbbaooeioogijaaDoorMg29
import Derived.Test.YtbbaooeioogijaaDoorMg24
import Derived.Test.YtbbaooeioogijaaDoorMg25
namespace Go.Proofs.YtbbaooeioogijaaDoor
open Go.RowKit Go.Maps

theorem set_blkK {w : World} {b i : Nat} {c : Array Value} {T : TypeId} (h : w.heap[b]? = some (.cells c T (0, 0))) (v : Value) : (w.setCell ⟨b, i, none⟩ v).heap[b]? = some (.cells (c.setIfInBounds i v) T (0, 0)) := by
  simp [World.setCell, Array.getElem?_modify, h]
theorem two_setK {w : World} {b : Nat} {a0 a1 : Value} {T : TypeId} (h : w.heap[b]? = some (.cells #[a0, a1] T (0, 0))) (v0 v1 : Value) : ((w.setCell ⟨b, 0, none⟩ v0).setCell ⟨b, 1, none⟩ v1).heap[b]? = some (.cells #[v0, v1] T (0, 0)) := by
  have := set_blkK (i := 1) (set_blkK (i := 0) h v0) v1
  simpa using this
theorem resolveN_l {u : UnU} {n : ByteArray} {p : Int × Int} (h : resolveN u n = .inl p) : p.2 ≠ 0 := by
  unfold resolveN at h
  rcases e : fileN u with q | fs
  · rw [e] at h
    obtain rfl := Sum.inl.inj h
    exact fileN_ne e
  · rw [e] at h
    simp only at h
    rcases e2 : bodyOf fs n with _ | f
    · rw [e2] at h
      obtain rfl := Sum.inl.inj h
      show (4 : Int) ≠ 0
      decide
    · rw [e2] at h
      simp only at h
      split at h
      · rename_i h0
        obtain rfl := Sum.inl.inj h
        exact h0
      · cases h
theorem resolveN_r {u : UnU} {n : ByteArray} {q : ResN × FnU × FileN} (h : resolveN u n = .inr q) : ∃ fs f, fileN u = .inr fs ∧ bodyOf fs n = some f ∧ (goneR fs f).fault.2 = 0 ∧ q = (goneR fs f, f, fs) := by
  unfold resolveN at h
  rcases e : fileN u with p | fs
  · rw [e] at h; cases h
  · rw [e] at h
    simp only at h
    rcases e2 : bodyOf fs n with _ | f
    · rw [e2] at h; cases h
    · rw [e2] at h
      simp only at h
      split at h
      · cases h
      · rename_i h0
        exact ⟨fs, f, rfl, e2, by simpa using h0, (Sum.inr.inj h).symm⟩
/-- what is so of a resolved function, place by place -/
structure CountAt (f : FnU) (r : ResN) : Prop where
  out : r.out.length = f.body.length
  few : f.body.length ≤ 4096 ∧ f.params.length ≤ 8
  slots : r.slots.length = f.params.length + declsN f.body 0 f.body.length
  yes : ∀ k (hk : k < f.body.length) (ho : k < r.out.length), f.body[k].kind = 3 ∨ f.body[k].kind = 22 → r.out[k].kind ≠ 0 ∧ (r.out[k].kind = 3 → 0 ≤ r.out[k].idx ∧ ∃ h : r.out[k].idx.toNat < r.slots.length, r.slots[r.out[k].idx.toNat].name = f.body[k].text ∧ r.slots[r.out[k].idx.toNat].type = r.out[k].type)
  no : ∀ k (hk : k < f.body.length) (ho : k < r.out.length), ¬ (f.body[k].kind = 3 ∨ f.body[k].kind = 22) → r.out[k] = bnd0
theorem count_at {u : UnU} {n : ByteArray} {fs : FileN} {f : FnU} (h : fileN u = .inr fs) (hb : bodyOf fs n = some f) (h0 : (goneR fs f).fault.2 = 0) : CountAt f (goneR fs f) := by
  have hok := file_ok h
  obtain ⟨b, _, _, _, _, hget, _, hne⟩ := bodyOf_some hok hb
  obtain ⟨hp8, hbt⟩ := funcE_0 (file_funcs h f (List.mem_of_getElem? hget)).2
  obtain ⟨hb4, _, fr, hbg, _⟩ := check9_0 (hbt.resolve_left hne).1
  obtain ⟨hc, hp⟩ := gone_ok hok hbg hne h0
  rw [hp] at hc
  have hlen : (goneR fs f).out.length = f.body.length := by rw [hc.len]; simp
  obtain ⟨ex, e1, e2⟩ := hc.slots
  refine ⟨hlen, ⟨hb4, hp8⟩, by rw [e1, List.length_append, e2]; simp, fun k hk ho hkd => ?_, fun k hk ho hkd => ?_⟩
  · have hn := hc.near k (Nat.zero_le _) hk (by simpa using hk)
    have hx : f.body.getD k ndU0 = f.body[k] := by simp [List.getD, hk]
    rw [hx, if_pos hkd] at hn
    obtain ⟨c, h1, h2, _⟩ := hn
    have hcc : (goneR fs f).out[k] = c := by
      rw [List.getElem?_eq_getElem ho] at h1
      exact Option.some.inj h1
    rw [hcc]
    refine ⟨h2.kind hok, fun h3 => ?_⟩
    rcases h2 with ⟨_, h4, x, h5, h6, h7⟩ | ⟨h4, _⟩
    · obtain ⟨h8, h9⟩ := List.getElem?_eq_some_iff.1 h5
      exact ⟨h4, h8, by rw [h9]; exact h6, by rw [h9]; exact h7⟩
    · exact absurd h3 h4
  · have hn := hc.near k (Nat.zero_le _) hk (by simpa using hk)
    have hx : f.body.getD k ndU0 = f.body[k] := by simp [List.getD, hk]
    rw [hx, if_neg hkd, List.getElem?_eq_getElem ho, List.getElem?_replicate, if_pos hk] at hn
    exact Option.some.inj hn
theorem decls_next {t : List Nd} {k : Nat} (hk : k < t.length) : declsN t 0 (k + 1) = declsN t 0 k + if t[k].kind = 22 then 1 else 0 := by
  have hx : t.getD k ndU0 = t[k] := by simp [List.getD, hk]
  rw [← declsN_join t (Nat.zero_le k) (Nat.le_succ k), declsN_one hk, hx]
theorem declsN_le (t : List Nd) (k : Nat) : declsN t 0 k ≤ t.length := by
  unfold declsN
  have h1 := List.countP_le_length (p := fun x : Nd => decide (x.kind = 22)) (l := (t.drop 0).take (k - 0))
  have h2 := List.length_take_le (k - 0) (t.drop 0)
  have h3 := List.length_take_le' (k - 0) (t.drop 0)
  rw [List.drop_zero] at *
  omega
set_option maxRecDepth 100000 in
set_option maxHeartbeats 16000000 in
theorem namesCounts_ok (u : UnU) (vs vg vf : Value) (n : ByteArray) (w : World) (hE : TE w) (hU : IsUn w.heap.size w u vs vg vf) (hn : n.size ≤ maxLen) :
    Calls Tryd.prog 4 #[.agg #[vs, vg, vf], .string n] w fun e w' => e = .returned (.bool true) ∧ Below w.heap.size w w' := by
  obtain ⟨sa, sc, mv, rfl, _⟩ := hU.structs
  obtain ⟨ag, cg, rfl, _⟩ := glsU_len hU.globals
  obtain ⟨af, cf, rfl, _⟩ := fnsU_len hU.funcs
  have hb1 := ba1 w (.cells #[.slice sa u.structs.length sc, .slice ag u.globals.length cg, .slice af u.funcs.length cf] 26)
  have hxq := heap_alloc_new w (.cells #[.slice sa u.structs.length sc, .slice ag u.globals.length cg, .slice af u.funcs.length cf] 26)
  go_enter Tryd.func4, Tryd.ntmps4
  go_upto_region 1 with fail
  generalize w.alloc (.cells #[.slice sa u.structs.length sc, .slice ag u.globals.length cg, .slice af u.funcs.length cf] 26) = w1 at *
  have HQ := Lib.hid (fun w' (h : Below w1.heap.size w1 w') => (three_block ((h.block _ (lt_of_heap hxq)).trans hxq)).1)
  have HB1 := Lib.hid hb1
  have HWk := Lib.hid (works11_ok w1 (hE.below hb1))
  have HEw := Lib.hid (fun w' (h : Below w1.heap.size w1 w') => hE.below (hb1.trans (h.mono hb1.size)))
  have HUw := Lib.hid (fun w' (h : Below w1.heap.size w1 w') => hU.go (hb1.trans (h.mono hb1.size)))
  clear hxq hb1 hE hU
  rcases hr : resolveN u n with p | q
  · have hp := resolveN_l hr
    have t1 : (p.2 != 0) = true := by simpa using hp
    have HRs := Lib.hid (fun w' (h : Below w1.heap.size w1 w') => show Calls Tryd.prog 7 #[.agg #[.slice sa u.structs.length sc, .slice ag u.globals.length cg, .slice af u.funcs.length cf], .string n] w' (fun e w'' => Below w'.heap.size w' w'' ∧ e = .returned (.tuple #[.slice none 0 0, .slice none 0 0, .agg #[.int .i64 p.1, .int .i64 p.2]])) from (resolve11_ok u _ _ _ n w' (HEw.out w' h) (HUw.out w' h) hn).mono fun e w'' ⟨h1, h2⟩ => ⟨h1, by rw [hr] at h2; exact h2⟩)
    clear hr hp
    go_upto_region 4 with (first
      | (go_at_call 6; (with_reducible refine HWk.out.mono ?_); rintro e w2 ⟨rfl, hb2⟩; have HB2 := Lib.hid hb2; obtain ⟨q0, q1, q2⟩ := HQ.out w2 hb2; clear hb2)
      | (go_at_call 7; (with_reducible refine (HRs.out _ HB2.out).mono ?_); rintro e w3 ⟨hb3, rfl⟩; have HB3 := Lib.hid (HB2.out.trans ((hb3.alloc hb3.size (.cells #[.int .i64 p.1, .int .i64 p.2] 32)).mono HB2.out.size)); obtain ⟨⟨y0, y1⟩, _⟩ := two_block (heap_alloc_new w3 (.cells #[.int .i64 p.1, .int .i64 p.2] 32)); clear hb3))
    go_wp2_with fail
    go_ret
    exact ⟨rfl, HB1.out.trans (HB3.out.mono HB1.out.size)⟩
  · obtain ⟨fs, f, hfile, hbody, h0, rfl⟩ := resolveN_r hr
    have hct := count_at hfile hbody h0
    have hok := file_ok hfile
    obtain ⟨bd0, _, _, hi0, hi1, hget, hnm, _⟩ := bodyOf_some hok hbody
    obtain ⟨ix, hix⟩ : ∃ ix, ix = bd0.idx.toNat := ⟨_, rfl⟩
    rw [← hix] at hi1 hget
    have HUq := Lib.hid (fun i (hi : i < fs.funcs.length) (e : (fs.funcs[i]).name = n) => show i = ix from hok.uniq hi hi1 (by
      rw [List.getD_eq_getElem?_getD, List.getD_eq_getElem?_getD, List.getElem?_eq_getElem hi, hget]
      exact e.trans hnm.symm))
    have HRs := Lib.hid (fun w' (h : Below w1.heap.size w1 w') => show Calls Tryd.prog 7 #[.agg #[.slice sa u.structs.length sc, .slice ag u.globals.length cg, .slice af u.funcs.length cf], .string n] w' (fun e w'' => Below w'.heap.size w' w'' ∧ ∃ sv ov, e = .returned (.tuple #[sv, ov, .agg #[.int .i64 (goneR fs f).fault.1, .int .i64 0]]) ∧ w''.ownsRow w'.heap.size 53 4 sv (goneR fs f).slots.length ((goneR fs f).slots.flatMap slUCells) ∧ w''.ownsRow w'.heap.size 50 3 ov (goneR fs f).out.length ((goneR fs f).out.flatMap bndCells)) from (resolve11_ok u _ _ _ n w' (HEw.out w' h) (HUw.out w' h) hn).mono fun e w'' ⟨h1, h2⟩ => ⟨h1, by rw [hr] at h2; simp only [h0] at h2; exact h2⟩)
    have HFn := Lib.hid (fun w' (h : Below w1.heap.size w1 w') => show Calls Tryd.prog 11 #[.agg #[.slice sa u.structs.length sc, .slice ag u.globals.length cg, .slice af u.funcs.length cf]] w' (fun e w'' => Below w'.heap.size w' w'' ∧ ∃ v Q, e = .returned (.tuple #[v, .agg #[.int .i64 0, .int .i64 0]]) ∧ FnsOwn w'.heap.size w'' v Q ∧ Q.map Prod.fst = fs.funcs) from (funcs11_ok u _ _ _ w' (HEw.out w' h) (HUw.out w' h)).mono fun e w'' ⟨h1, h2⟩ => ⟨h1, by rw [hfile] at h2; exact h2⟩)
    have HFl := Lib.hid (fun w' (h : Below w1.heap.size w1 w') => show Calls Tryd.prog 12 #[.agg #[.slice sa u.structs.length sc, .slice ag u.globals.length cg, .slice af u.funcs.length cf]] w' (fun e w'' => Below w'.heap.size w' w'' ∧ ∃ sv av, e = .returned (.tuple #[sv, av, .agg #[.int .i64 0, .int .i64 0]]) ∧ w''.ownsRow w'.heap.size 50 3 sv fs.ents.length (fs.ents.flatMap fun e => bndCells e.2) ∧ w''.ownsRow w'.heap.size 9 1 av fs.ents.length (fs.ents.map fun e => .string e.1)) from (file11_ok u _ _ _ w' (HEw.out w' h) (HUw.out w' h)).mono fun e w'' ⟨h1, h2⟩ => ⟨h1, by rw [hfile] at h2; exact h2⟩)
    have hfl := fileN_len hfile
    have HNm := Lib.hid hnm
    clear hr hok hbody hfile hnm hi0 hix h0
    generalize goneR fs f = R0 at *
    have HCt := Lib.hid hct
    clear hct
    have hne1 : ((fs.ents.length : Int) != (fs.ents.length : Int)) = false := by simp
    go_upto_region 7 with (first
      | (go_at_call 6; (with_reducible refine HWk.out.mono ?_); rintro e w2 ⟨rfl, hb2⟩; have HB2 := Lib.hid hb2; obtain ⟨q0, q1, q2⟩ := HQ.out w2 hb2; clear hb2)
      | (go_at_call 7; (with_reducible refine (HRs.out _ HB2.out).mono ?_); rintro e w3 ⟨hb3, sv, ov, rfl, hsv, hov⟩; obtain ⟨sva, svc, rfl⟩ := own_slice hsv; obtain ⟨ova, ovc, rfl⟩ := own_slice hov; have HB3 := Lib.hid (HB2.out.trans (hb3.mono HB2.out.size)); have HSv := Lib.hid hsv; have HOv := Lib.hid hov; have HY := Lib.hid (heap_alloc_new w3 (.cells #[.int .i64 R0.fault.1, .int .i64 0] 32)); have HZ3 := Lib.hid (ba1 w3 (.cells #[.int .i64 R0.fault.1, .int .i64 0] 32)); obtain ⟨⟨y0, y1⟩, _⟩ := two_block HY.out; obtain ⟨q0, q1, q2⟩ := HQ.out _ (HB3.out.trans (HZ3.out.mono HB3.out.size)); clear hb3 hsv hov)
      | (go_at_call 11; (with_reducible refine (HFn.out _ (HB3.out.trans (HZ3.out.mono HB3.out.size))).mono ?_); rintro e w4 ⟨hb4, fv, Q, rfl, hfo, hQ⟩; obtain ⟨fva, fvc, rfl⟩ := own_slice hfo.1; have HB4 := Lib.hid (HZ3.out.trans (hb4.mono HZ3.out.size)); have HFo := Lib.hid hfo; have HQq := Lib.hid hQ; have HY4 := Lib.hid ((hb4.block _ (lt_of_heap HY.out)).trans HY.out); obtain ⟨_, yf⟩ := two_block HY4.out; have yf0 := yf 0; have yf1 := yf 1; clear hb4 hfo hQ yf))
    have hbk5 := two_setK HY4.out (.int .i64 0) (.int .i64 0)
    have hb5 := (HB4.out.setCell (p := ⟨w3.heap.size, 0, none⟩) (Nat.le_refl _) (.int .i64 0)).setCell (p := ⟨w3.heap.size, 1, none⟩) (Nat.le_refl _) (.int .i64 0)
    have hfo5 := HFo.out.move (w' := (w4.setCell ⟨w3.heap.size, 0, none⟩ (.int .i64 0)).setCell ⟨w3.heap.size, 1, none⟩ (.int .i64 0)) (Nat.le_refl _) (fun k hk => by
      have h1 := lt_of_heap HY.out
      have hne : k ≠ w3.heap.size := by omega
      rw [Below.heap_setCell _ _ _ _ hne, Below.heap_setCell _ _ _ _ hne]) (by simp)
    generalize (w4.setCell ⟨w3.heap.size, 0, none⟩ (.int .i64 0)).setCell ⟨w3.heap.size, 1, none⟩ (.int .i64 0) = w5 at *
    have HB5 := Lib.hid hb5
    have HFo5 := Lib.hid hfo5
    have HY5 := Lib.hid hbk5
    obtain ⟨q0, q1, q2⟩ := HQ.out _ (HB3.out.trans (hb5.mono HB3.out.size))
    clear hb5 hfo5 hbk5 y0 y1 yf0 yf1 HFo HY4 HB4
    go_upto_region 8 with (go_at_call 12; (with_reducible refine (HFl.out _ (HB3.out.trans (HB5.out.mono HB3.out.size))).mono ?_); rintro e w6 ⟨hb6, gv, av, rfl, hgv, hav⟩; obtain ⟨gva, gvc, rfl⟩ := own_slice hgv; obtain ⟨ava, avc, rfl⟩ := own_slice hav; have HB6 := Lib.hid hb6; clear hb6 hgv hav)
    have hb7 := HB6.out.trans ((ba1 w6 (.cells #[.int .i64 0, .int .i64 0] 32)).mono HB6.out.size)
    obtain ⟨⟨y0, y1⟩, _⟩ := two_block (heap_alloc_new w6 (.cells #[.int .i64 0, .int .i64 0] 32))
    generalize w6.alloc (.cells #[.int .i64 0, .int .i64 0] 32) = w7 at *
    obtain ⟨⟨z0, z1⟩, _⟩ := two_block ((hb7.block _ (lt_of_heap HY5.out)).trans HY5.out)
    have HFo7 := Lib.hid (HFo5.out.below hb7)
    have HB7 := Lib.hid (HB5.out.trans (hb7.mono HB5.out.size))
    have hQl : Q.length = fs.funcs.length := by rw [← HQq.out, List.length_map]
    have hQ128 : Q.length ≤ 128 := by omega
    have hfl' : (Q.length : Int) ≤ 128 := by omega
    have HQl := Lib.hid hQl
    have hixQ : ix < Q.length := by omega
    clear hb7 q0 q1 q2 hQl hfl hi1
    go_upto_region 11 with fail
    go_loopg [12] Q.length (fun m v12 wy => ∃ i : Nat, i ≤ ix ∧ i + m = Q.length ∧ v12 = .int .i64 (i : Int) ∧ Hid (Below w7.heap.size w7 wy))
    case atStart => exact ⟨0, by omega, by omega, rfl, Lib.hid (Below.refl _ _)⟩
    case round =>
      obtain ⟨i, hix, him, rfl, HB⟩ := hrel
      have hiQ : i < Q.length := by omega
      obtain ⟨g, cap, hgs, hgB, hgl, hcap, hcm, hcs, _⟩ := own_rowAt fnU_len HFo7.out.1 rfl hiQ
      obtain ⟨rfl, rfl⟩ : fva = some ⟨g, 0, none⟩ ∧ fvc = cap := by simpa using hgs
      have hfp := HFo7.out.2 Q[i] (List.getElem_mem hiQ)
      have hfs : ∃ h : i < fs.funcs.length, fs.funcs[i] = Q[i].1 := by
        have h1 : i < fs.funcs.length := by rw [← HQl.out]; exact hiQ
        refine ⟨h1, ?_⟩
        have h2 := congrArg (fun l => l[i]?) HQq.out
        simp only [List.getElem?_map, List.getElem?_eq_getElem hiQ, List.getElem?_eq_getElem h1, Option.map_some, Option.some.injEq] at h2
        exact h2.symm
      obtain ⟨hi1, hfsi⟩ := hfs
      rcases hqi : Q[i] with ⟨fi, vp, vb⟩
      rw [hqi] at hcs hfp hfsi
      have hfI := hfp.is (B := w7.heap.size) (fun b hb => hb.2.1)
      simp only at hfI hfsi
      obtain ⟨ap, cp, rfl⟩ := vrs_sl hfI.params
      obtain ⟨ab, cb, rfl⟩ := tr_sl hfI.body
      have m1 := hcs 1 _ rfl
      have m3 := hcs 3 _ rfl
      have m4 := hcs 4 _ rfl
      rw [← HB.out.cell hgl] at m1 m3 m4
      clear hcs hfp hgs hcap hcm hgB hqi
      by_cases hnm : fi.name = n
      · have hcmp : (fi.name.toList == n.toList) = true := by rw [hnm]; simp
        obtain rfl : i = ix := HUq.out i hi1 (by rw [hfsi]; exact hnm)
        obtain rfl : fi = f := by
          rw [List.getElem?_eq_getElem hi1, hfsi] at hget
          exact Option.some.inj hget
        have hne2 : ((R0.out.length : Int) != (fi.body.length : Int)) = false := by rw [HCt.out.out]; simp
        have hpl : fi.params.length * 40 ≤ 140737488351232 := by obtain ⟨_, _, _, h, _⟩ := hfI.params; exact h.1
        have hbl : fi.body.length * 64 ≤ 140737488351232 := by obtain ⟨_, _, _, h, _⟩ := hfI.body; exact h.1
        have HNd := Lib.hid (show IsNds w7.heap.size w7 ab fi.body by obtain ⟨a, c, e, _, h, _⟩ := hfI.body; cases e; exact h)
        have HNk := Lib.hid (show ∀ x ∈ fi.body, NdOk x by obtain ⟨_, _, _, _, _, h⟩ := hfI.body; exact h)
        have HM5 := Lib.hid (fun w' (h : Below w7.heap.size w7 w') => show w'.cell? ⟨g, i * 5 + 4, none⟩ = some (.slice ab fi.body.length cb) from by rw [h.cell hgl, ← HB.out.cell hgl]; exact m4)
        have HGl := Lib.hid hgl
        have hdl := declsN_le fi.body fi.body.length
        clear hfI hget hfsi hnm hi1
        go_upto_region 18 with fail
        go_loopg [13, 14] R0.out.length (fun m v13 v14 wy => ∃ k : Nat, k ≤ R0.out.length ∧ k + m = R0.out.length ∧ v13 = .int .i64 ((fi.params.length + declsN fi.body 0 k : Nat) : Int) ∧ v14 = .int .i64 (k : Int) ∧ Hid (Below w7.heap.size w7 wy))
        case atStart => exact ⟨0, by omega, by omega, by rw [declsN_nil]; rfl, rfl, HB⟩
        case round =>
          obtain ⟨k, hk, hkm, rfl, rfl, HK⟩ := hrel
          by_cases hlt : k < R0.out.length
          · have hkb : k < fi.body.length := by have := HCt.out.out; omega
            obtain ⟨gb, ob, hab, hgbl, x0, x1, x2, x3, x4, x5⟩ := nds_at HNd.out hkb
            subst hab
            rw [← HK.out.cell hgbl] at x0 x1 x2 x3 x4 x5
            obtain ⟨go, oc, hos, _, hgol, _, _, hoc, _⟩ := own_rowAt bnd_len HOv.out rfl hlt
            obtain ⟨rfl, rfl⟩ : ova = some ⟨go, 0, none⟩ ∧ ovc = oc := by simpa using hos
            have hm4 : wr.cell? ⟨g, i * 5 + 4, none⟩ = some (.slice (some ⟨gb, ob, none⟩) fi.body.length cb) := HM5.out _ HK.out
            have b0 := hoc 0 _ rfl
            have b1 := hoc 1 _ rfl
            have b2 := hoc 2 _ rfl
            have hBw := HB7.out.trans (HK.out.mono HB7.out.size)
            rw [← hBw.cell hgol] at b0 b1 b2
            rw [Nat.add_zero] at b0
            have hyes := HCt.out.yes k hkb hlt
            have hno := HCt.out.no k hkb hlt
            have hnx := decls_next hkb
            have hky := (HNk.out _ (List.getElem_mem hkb))
            generalize fi.body[k] = x at *
            generalize R0.out[k] = y at *
            obtain ⟨yk, yi, yt⟩ := y
            obtain ⟨xk, xn, xa, xi, xs, xt⟩ := x
            simp only at x0 x1 x2 x3 x4 x5 b0 b1 b2 hyes hno hnx
            have HYes := Lib.hid hyes
            have HNo := Lib.hid hno
            have HNx := Lib.hid hnx
            clear hyes hno hnx hoc hos hBw hky
            go_upto_region 21 with fail
            have hxa := heap_alloc_new wr (.cells #[.int .i64 xk, .int .i64 xn, .int .i64 xa, .int .i64 xi, .string xs, .string xt] 48)
            have hba := ba1 wr (.cells #[.int .i64 xk, .int .i64 xn, .int .i64 xa, .int .i64 xi, .string xs, .string xt] 48)
            have hgo : go < wr.heap.size := Nat.lt_of_lt_of_le hgol (HB7.out.trans (HK.out.mono HB7.out.size)).size
            rw [← hba.cell hgo] at b0 b1 b2
            have hzr : wr.heap.size = wr.heap.size := rfl
            generalize hwa : wr.alloc (.cells #[.int .i64 xk, .int .i64 xn, .int .i64 xa, .int .i64 xi, .string xs, .string xt] 48) = wa at *
            have z0 : wa.cell? ⟨wr.heap.size, 0, none⟩ = some (.int .i64 xk) := by simp [World.cell?, hxa]
            have z4 : wa.cell? ⟨wr.heap.size, 4, none⟩ = some (.string xs) := by simp [World.cell?, hxa]
            have HBa := Lib.hid (HK.out.trans (hba.mono HK.out.size))
            have hBa3 := HB7.out.trans (HBa.out.mono HB7.out.size)
            have HSa := Lib.hid (HSv.out.belowed hBa3)
            clear hba hgo hwa hxa x0 x1 x2 x3 x4 x5 hm4 hBa3 hzr
            have hk4 : R0.out.length ≤ 4096 := by rw [HCt.out.out]; exact HCt.out.few.1
            have hps : fi.params.length + declsN fi.body 0 k ≤ 8 + 4096 := Nat.add_le_add HCt.out.few.2 (Nat.le_trans (declsN_le fi.body k) HCt.out.few.1)
            by_cases k22 : xk = 22
            · subst k22
              obtain ⟨hy0, hy3⟩ := HYes.out (.inr rfl)
              have hyk0 : (yk == 0) = false := by simpa using hy0
              by_cases hk3 : yk = 3
              · obtain ⟨hi0, hi1, hn1, ht1⟩ := hy3 hk3
                subst hk3
                obtain ⟨j, rfl⟩ : ∃ j : Nat, yi = (j : Int) := ⟨yi.toNat, by omega⟩
                simp only [Int.toNat_natCast] at hi1 hn1 ht1
                obtain ⟨gs, sc', hss, _, _, _, _, hsc, _⟩ := own_rowAt slU_len HSa.out rfl hi1
                obtain ⟨rfl, rfl⟩ : sva = some ⟨gs, 0, none⟩ ∧ svc = sc' := by simpa using hss
                have s0 := hsc 0 _ rfl
                have s1 := hsc 1 _ rfl
                rw [Nat.add_zero] at s0
                rw [hn1] at s0
                rw [ht1] at s1
                have hjl : (j : Int) < (R0.slots.length : Int) := by omega
                clear hy0 hy3 hi0 hn1 ht1 hsc hss hyk0
                go_wp2_with fail
                go_quiet (fail)
                go_wp2_with fail
                go_quiet (fail)
                go_wp2_with fail
                go_roundg (R0.out.length - (k + 1))
                case measure => omega
                case rel => exact ⟨k + 1, by omega, by omega, by rw [HNx.out]; simp [Int.natCast_add, Int.add_assoc], by rw [Int.natCast_add]; rfl, Lib.hid (blw_drewN HBa.out _)⟩
              · have hyk3 : (yk == 3) = false := by simpa using hk3
                clear hy0 hy3 hk3
                go_wp2_with fail
                go_quiet (fail)
                go_wp2_with fail
                go_quiet (fail)
                go_wp2_with fail
                go_roundg (R0.out.length - (k + 1))
                case measure => omega
                case rel => exact ⟨k + 1, by omega, by omega, by rw [HNx.out]; simp [Int.natCast_add, Int.add_assoc], by rw [Int.natCast_add]; rfl, Lib.hid (blw_drewN HBa.out _)⟩
            · have hx22 : (xk == 22) = false := by simpa using k22
              by_cases k3 : xk = 3
              · subst k3
                obtain ⟨hy0, hy3⟩ := HYes.out (.inl rfl)
                have hyk0 : (yk == 0) = false := by simpa using hy0
                clear hx22
                by_cases hk3 : yk = 3
                · obtain ⟨hi0, hi1, hn1, ht1⟩ := hy3 hk3
                  subst hk3
                  obtain ⟨j, rfl⟩ : ∃ j : Nat, yi = (j : Int) := ⟨yi.toNat, by omega⟩
                  simp only [Int.toNat_natCast] at hi1 hn1 ht1
                  obtain ⟨gs, sc', hss, _, _, _, _, hsc, _⟩ := own_rowAt slU_len HSa.out rfl hi1
                  obtain ⟨rfl, rfl⟩ : sva = some ⟨gs, 0, none⟩ ∧ svc = sc' := by simpa using hss
                  have s0 := hsc 0 _ rfl
                  have s1 := hsc 1 _ rfl
                  rw [Nat.add_zero] at s0
                  rw [hn1] at s0
                  rw [ht1] at s1
                  have hjl : (j : Int) < (R0.slots.length : Int) := by omega
                  clear hy0 hy3 hi0 hn1 ht1 hsc hss hyk0
                  go_wp2_with fail
                  go_quiet (fail)
                  go_wp2_with fail
                  go_quiet (fail)
                  go_wp2_with fail
                  go_roundg (R0.out.length - (k + 1))
                  case measure => omega
                  case rel => exact ⟨k + 1, by omega, by omega, by rw [HNx.out]; simp, by rw [Int.natCast_add]; rfl, Lib.hid (blw_drewN HBa.out _)⟩
                · have hyk3 : (yk == 3) = false := by simpa using hk3
                  clear hy0 hy3 hk3
                  go_wp2_with fail
                  go_quiet (fail)
                  go_wp2_with fail
                  go_quiet (fail)
                  go_wp2_with fail
                  go_roundg (R0.out.length - (k + 1))
                  case measure => omega
                  case rel => exact ⟨k + 1, by omega, by omega, by rw [HNx.out]; simp, by rw [Int.natCast_add]; rfl, Lib.hid (blw_drewN HBa.out _)⟩
              · have hx3 : (xk == 3) = false := by simpa using k3
                have hyy := HNo.out (by rintro (h | h); exact k3 h; exact k22 h)
                unfold bnd0 at hyy
                obtain ⟨rfl, rfl, rfl⟩ := Bnd.mk.inj hyy
                have HK22 := Lib.hid k22
                clear hyy k3 k22
                go_wp2_with fail
                go_quiet (fail)
                go_wp2_with fail
                go_quiet (fail)
                go_wp2_with fail
                go_roundg (R0.out.length - (k + 1))
                case measure => omega
                case rel => exact ⟨k + 1, by omega, by omega, by rw [HNx.out, if_neg HK22.out]; rfl, by rw [Int.natCast_add]; rfl, Lib.hid (blw_drewN HBa.out _)⟩
          · have hnl := HCt.out.slots
            have hkl : k = fi.body.length := by have := HCt.out.out; omega
            subst hkl
            rw [← hnl]
            clear hnl
            go_wp2_with fail
            go_ret
            exact ⟨by simp, HB1.out.trans ((HB3.out.trans ((HB7.out.trans (HK.out.mono HB7.out.size)).mono HB3.out.size)).mono HB1.out.size)⟩
      · have hcmp : (fi.name.toList == n.toList) = false := by rw [str_eqb, decide_eq_false hnm]
        have hne' : i ≠ ix := fun e => by
          subst e
          rw [List.getElem?_eq_getElem hi1, hfsi] at hget
          have := Option.some.inj hget
          exact hnm (by rw [this]; exact HNm.out)
        have HNe := Lib.hid hne'
        clear hfI hnm hne' hfsi hi1
        go_wp2_with fail
        go_roundg (Q.length - (i + 1))
        case measure => omega
        case rel => exact ⟨i + 1, by have := HNe.out; omega, by omega, by rw [Int.natCast_add]; rfl, HB⟩
end Go.Proofs.YtbbaooeioogijaaDoor

