/- Slots are as many as parameters and declarations, each name has a meaning of its type: the law's walk. -/
import Derived.Test.YtbbaooeioogijaaDoorMg27
import Derived.Test.YtbbaooeioogijaaDoorMg23
namespace Go.Proofs.YtbbaooeioogijaaDoor
open Go.RowKit Go.Maps

theorem set_blkK {w : World} {b i : Nat} {c : Array Value} {T : TypeId} (h : w.heap[b]? = some (.cells c T (0, 0))) (v : Value) : (w.setCell ⟨b, i, none⟩ v).heap[b]? = some (.cells (c.setIfInBounds i v) T (0, 0)) := by
  simp [World.setCell, Array.getElem?_modify, h]
theorem two_setK {w : World} {b : Nat} {a0 a1 : Value} {T : TypeId} (h : w.heap[b]? = some (.cells #[a0, a1] T (0, 0))) (v0 v1 : Value) : ((w.setCell ⟨b, 0, none⟩ v0).setCell ⟨b, 1, none⟩ v1).heap[b]? = some (.cells #[v0, v1] T (0, 0)) := by
  have := set_blkK (i := 1) (set_blkK (i := 0) h v0) v1
  simpa using this
theorem resolveN_l {u : UnU} {n : ByteArray} {p : Int × Int} (h : resolveN u n = .inl p) : p.2 ≠ 0 := by
  unfold resolveN at h
  rcases e : fileN u with q | fs
  · rw [e] at h
    obtain rfl := Sum.inl.inj h
    exact fileN_ne e
  · rw [e] at h
    simp only at h
    rcases e2 : bodyOf fs n with _ | f
    · rw [e2] at h
      obtain rfl := Sum.inl.inj h
      show (4 : Int) ≠ 0
      decide
    · rw [e2] at h
      simp only at h
      split at h
      · rename_i h0
        obtain rfl := Sum.inl.inj h
        exact h0
      · cases h
theorem resolveN_r {u : UnU} {n : ByteArray} {q : ResN × FnU × FileN} (h : resolveN u n = .inr q) : ∃ fs f, fileN u = .inr fs ∧ bodyOf fs n = some f ∧ (goneR fs f).fault.2 = 0 ∧ q = (goneR fs f, f, fs) := by
  unfold resolveN at h
  rcases e : fileN u with p | fs
  · rw [e] at h; cases h
  · rw [e] at h
    simp only at h
    rcases e2 : bodyOf fs n with _ | f
    · rw [e2] at h; cases h
    · rw [e2] at h
      simp only at h
      split at h
      · cases h
      · rename_i h0
        exact ⟨fs, f, rfl, e2, by simpa using h0, (Sum.inr.inj h).symm⟩
/-- what is so of a resolved function, place by place -/
structure CountAt (f : FnU) (r : ResN) : Prop where
  out : r.out.length = f.body.length
  few : f.body.length ≤ 4096 ∧ f.params.length ≤ 8
  slots : r.slots.length = f.params.length + declsN f.body 0 f.body.length
  yes : ∀ k (hk : k < f.body.length) (ho : k < r.out.length), f.body[k].kind = 3 ∨ f.body[k].kind = 22 → r.out[k].kind ≠ 0 ∧ (r.out[k].kind = 3 → 0 ≤ r.out[k].idx ∧ ∃ h : r.out[k].idx.toNat < r.slots.length, r.slots[r.out[k].idx.toNat].name = f.body[k].text ∧ r.slots[r.out[k].idx.toNat].type = r.out[k].type)
  no : ∀ k (hk : k < f.body.length) (ho : k < r.out.length), ¬ (f.body[k].kind = 3 ∨ f.body[k].kind = 22) → r.out[k] = bnd0
theorem count_at {u : UnU} {n : ByteArray} {fs : FileN} {f : FnU} (h : fileN u = .inr fs) (hb : bodyOf fs n = some f) (h0 : (goneR fs f).fault.2 = 0) : CountAt f (goneR fs f) := by
  have hok := file_ok h
  obtain ⟨b, _, _, _, _, hget, _, hne⟩ := bodyOf_some hok hb
  obtain ⟨hp8, hbt⟩ := funcE_0 (file_funcs h f (List.mem_of_getElem? hget)).2
  obtain ⟨hb4, _, fr, hbg, _⟩ := check9_0 (hbt.resolve_left hne).1
  obtain ⟨hc, hp⟩ := gone_ok hok hbg hne h0
  rw [hp] at hc
  have hlen : (goneR fs f).out.length = f.body.length := by rw [hc.len]; simp
  obtain ⟨ex, e1, e2⟩ := hc.slots
  refine ⟨hlen, ⟨hb4, hp8⟩, by rw [e1, List.length_append, e2]; simp, fun k hk ho hkd => ?_, fun k hk ho hkd => ?_⟩
  · have hn := hc.near k (Nat.zero_le _) hk (by simpa using hk)
    have hx : f.body.getD k ndU0 = f.body[k] := by simp [List.getD, hk]
    rw [hx, if_pos hkd] at hn
    obtain ⟨c, h1, h2, _⟩ := hn
    have hcc : (goneR fs f).out[k] = c := by
      rw [List.getElem?_eq_getElem ho] at h1
      exact Option.some.inj h1
    rw [hcc]
    refine ⟨h2.kind hok, fun h3 => ?_⟩
    rcases h2 with ⟨_, h4, x, h5, h6, h7⟩ | ⟨h4, _⟩
    · obtain ⟨h8, h9⟩ := List.getElem?_eq_some_iff.1 h5
      exact ⟨h4, h8, by rw [h9]; exact h6, by rw [h9]; exact h7⟩
    · exact absurd h3 h4
  · have hn := hc.near k (Nat.zero_le _) hk (by simpa using hk)
    have hx : f.body.getD k ndU0 = f.body[k] := by simp [List.getD, hk]
    rw [hx, if_neg hkd, List.getElem?_eq_getElem ho, List.getElem?_replicate, if_pos hk] at hn
    exact Option.some.inj hn
theorem declsN_le (t : List Nd) (k : Nat) : declsN t 0 k ≤ t.length := by
  unfold declsN
  have h1 := List.countP_le_length (p := fun x : Nd => decide (x.kind = 22)) (l := (t.drop 0).take (k - 0))
  have h2 := List.length_take_le (k - 0) (t.drop 0)
  have h3 := List.length_take_le' (k - 0) (t.drop 0)
  rw [List.drop_zero] at *
  omega
end Go.Proofs.YtbbaooeioogijaaDoor

