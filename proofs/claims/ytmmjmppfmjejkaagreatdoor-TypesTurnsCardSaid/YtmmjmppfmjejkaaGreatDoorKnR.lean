/- Structs that are known, while one more is put behind them: each part by itself. -/
import Derived.Test.YtmmjmppfmjejkaaGreatDoorAddP
import Derived.Deep.AppendLies
namespace Go.Proofs.YtmmjmppfmjejkaaGreatDoor
open Go.RowKit Go.Maps

/-- block b holds c0, the map mb, c2, c3; the rows lv, sv, av are owned; the map gives f -/
structure KnR (B : Nat) (w : World) (b mb : Nat) (c0 c2 c3 lv sv av : Value) (n : Nat) (f : List UInt8 → Int × Bool) (nl : Nat) (ll : List Value) (ns : Nat) (ls : List Value) (na : Nat) (la : List Value) : Prop where
  blk : w.heap[b]? = some (.cells #[c0, .map (some mb), c2, c3] 82 (0, 0))
  base : B ≤ b ∧ B ≤ mb ∧ b ≠ mb
  mlt : mb < w.heap.size
  names : MapF w mb n f
  sizes : w.ownsRow B 3 1 sv ns ls
  aligns : w.ownsRow B 3 1 av na la
  list : w.ownsRow B 52 2 lv nl ll
  apart : ∀ k, (sv.ownBlock = some k → k ≠ b ∧ k ≠ mb ∧ av.ownBlock ≠ some k ∧ lv.ownBlock ≠ some k) ∧ (av.ownBlock = some k → k ≠ b ∧ k ≠ mb ∧ lv.ownBlock ≠ some k) ∧ (lv.ownBlock = some k → k ≠ b ∧ k ≠ mb)

section
variable {B b mb : Nat} {w w' : World} {c0 c2 c3 lv sv av : Value} {n : Nat} {f : List UInt8 → Int × Bool} {nl ns na : Nat} {ll ls la : List Value}

theorem MapF.lt (h : MapF w mb n f) : mb < w.heap.size := by
  obtain ⟨D, ⟨es, clock, hb, _⟩, _⟩ := h
  exact lt_of_heap hb
theorem KnAt.toR {mv : List Value} {K : List Kn} (h : KnAt B w b mb lv sv av mv K) :
    KnR B w b mb lv sv av lv sv av K.length (lookV K) K.length ((K.zip mv).flatMap fun q => [.string q.1.name, q.2]) K.length (K.map fun k => .int .i64 (k.size : Int)) K.length (K.map fun k => .int .i64 (k.align : Int)) :=
  ⟨h.blk, h.base, MapF.lt (NamesAt.def.1 h.names), h.names, h.sizes, h.aligns, h.list, h.apart⟩
theorem KnR.toAt {mv : List Value} {K : List Kn} (h : KnR B w b mb lv sv av lv sv av K.length (lookV K) K.length ((K.zip mv).flatMap fun q => [.string q.1.name, q.2]) K.length (K.map fun k => .int .i64 (k.size : Int)) K.length (K.map fun k => .int .i64 (k.align : Int)))
    (hm : mv.length = K.length) : KnAt B w b mb lv sv av mv K := ⟨h.blk, h.base, h.names, h.sizes, h.aligns, h.list, hm, h.apart⟩
theorem KnR.lt (h : KnR B w b mb c0 c2 c3 lv sv av n f nl ll ns ls na la) : b < w.heap.size := lt_of_heap h.blk
theorem KnR.below (h : KnR B w b mb c0 c2 c3 lv sv av n f nl ll ns ls na la) (hb : Below w.heap.size w w') : KnR B w' b mb c0 c2 c3 lv sv av n f nl ll ns ls na la :=
  ⟨by rw [hb.block b h.lt]; exact h.blk, h.base, Nat.lt_of_lt_of_le h.mlt hb.size, h.names.below hb, h.sizes.belowed hb, h.aligns.belowed hb, h.list.belowed hb, h.apart⟩
theorem KnR.cells (h : KnR B w b mb c0 c2 c3 lv sv av n f nl ll ns ls na la) :
    (w.cell? ⟨b, 0, none⟩ = some c0 ∧ w.cell? ⟨b, 1, none⟩ = some (.map (some mb)) ∧ w.cell? ⟨b, 2, none⟩ = some c2 ∧ w.cell? ⟨b, 3, none⟩ = some c3) ∧ ∀ j, w.frozen? ⟨b, j, none⟩ = false := by
  refine ⟨⟨?_, ?_, ?_, ?_⟩, fun j => ?_⟩
  · simp [World.cell?, h.blk]
  · simp [World.cell?, h.blk]
  · simp [World.cell?, h.blk]
  · simp [World.cell?, h.blk]
  · simp [World.frozen?, h.blk]
theorem MapF.kept {row : Option Nat} (h : MapF w mb n f) (hg : w.grownBy w' row) (hne : some mb ≠ row) : MapF w' mb n f := by
  obtain ⟨D, hD, hv⟩ := h
  exact ⟨D, hD.kept hg hne, hv⟩
theorem row_kept {e : TypeId} {size m : Nat} {v u : Value} {xs : List Value} (h : w.ownsRow B e size v m xs) (hg : w.grownBy w' u.ownBlock) (hne : ∀ k, u.ownBlock = some k → v.ownBlock ≠ some k) : w'.ownsRow B e size v m xs := by
  refine h.kept hg ?_
  cases hv : v.ownBlock with
  | none => exact .inl rfl
  | some k => exact .inr fun e => hne k e.symm hv
theorem row_kept' {e : TypeId} {size m : Nat} {v u : Value} {xs : List Value} (h : w.ownsRow B e size v m xs) (hg : w.grownBy w' u.ownBlock) (hne : ∀ k, v.ownBlock = some k → u.ownBlock ≠ some k) : w'.ownsRow B e size v m xs :=
  row_kept h hg fun k hk hv => hne k hv hk

theorem KnR.grewS {sv' : Value} {ns' : Nat} {ls' : List Value} (h : KnR B w b mb c0 c2 c3 lv sv av n f nl ll ns ls na la) (hg : w.grownBy w' sv.ownBlock) (ho : w'.ownsRow B 3 1 sv' ns' ls')
    (hs : ∀ k, sv'.ownBlock = some k → sv.ownBlock = some k ∨ k = w.heap.size) : KnR B w' b mb c0 c2 c3 lv sv' av n f nl ll ns' ls' na la := by
  have hb : some b ≠ sv.ownBlock := fun e => ((h.apart b).1 e.symm).1 rfl
  have hm : some mb ≠ sv.ownBlock := fun e => ((h.apart mb).1 e.symm).2.1 rfl
  refine ⟨by rw [hg.block b h.lt hb]; exact h.blk, h.base, Nat.lt_of_lt_of_le h.mlt hg.size, h.names.kept hg hm, ho, row_kept h.aligns hg fun k hk => ((h.apart k).1 hk).2.2.1, row_kept h.list hg fun k hk => ((h.apart k).1 hk).2.2.2, fun k => ⟨fun hk => ?_, (h.apart k).2⟩⟩
  rcases hs k hk with h1 | rfl
  · exact (h.apart k).1 h1
  · have h1 := h.lt
    have h2 := h.mlt
    exact ⟨by omega, by omega, fun e => absurd (h.aligns.lt _ e).2 (Nat.lt_irrefl _), fun e => absurd (h.list.lt _ e).2 (Nat.lt_irrefl _)⟩
theorem KnR.grewA {av' : Value} {na' : Nat} {la' : List Value} (h : KnR B w b mb c0 c2 c3 lv sv av n f nl ll ns ls na la) (hg : w.grownBy w' av.ownBlock) (ho : w'.ownsRow B 3 1 av' na' la')
    (hs : ∀ k, av'.ownBlock = some k → av.ownBlock = some k ∨ k = w.heap.size) : KnR B w' b mb c0 c2 c3 lv sv av' n f nl ll ns ls na' la' := by
  have hb : some b ≠ av.ownBlock := fun e => ((h.apart b).2.1 e.symm).1 rfl
  have hm : some mb ≠ av.ownBlock := fun e => ((h.apart mb).2.1 e.symm).2.1 rfl
  refine ⟨by rw [hg.block b h.lt hb]; exact h.blk, h.base, Nat.lt_of_lt_of_le h.mlt hg.size, h.names.kept hg hm, row_kept' h.sizes hg fun k hk => ((h.apart k).1 hk).2.2.1, ho, row_kept h.list hg fun k hk => ((h.apart k).2.1 hk).2.2, fun k => ⟨fun hk => ⟨((h.apart k).1 hk).1, ((h.apart k).1 hk).2.1, fun e => ?_, ((h.apart k).1 hk).2.2.2⟩, fun hk => ?_, (h.apart k).2.2⟩⟩
  · rcases hs k e with h1 | rfl
    · exact ((h.apart k).1 hk).2.2.1 h1
    · exact absurd (h.sizes.lt _ hk).2 (Nat.lt_irrefl _)
  · rcases hs k hk with h1 | rfl
    · exact (h.apart k).2.1 h1
    · have h1 := h.lt
      have h2 := h.mlt
      exact ⟨by omega, by omega, fun e => absurd (h.list.lt _ e).2 (Nat.lt_irrefl _)⟩
theorem KnR.grewL {lv' : Value} {nl' : Nat} {ll' : List Value} (h : KnR B w b mb c0 c2 c3 lv sv av n f nl ll ns ls na la) (hg : w.grownBy w' lv.ownBlock) (ho : w'.ownsRow B 52 2 lv' nl' ll')
    (hs : ∀ k, lv'.ownBlock = some k → lv.ownBlock = some k ∨ k = w.heap.size) : KnR B w' b mb c0 c2 c3 lv' sv av n f nl' ll' ns ls na la := by
  have hb : some b ≠ lv.ownBlock := fun e => ((h.apart b).2.2 e.symm).1 rfl
  have hm : some mb ≠ lv.ownBlock := fun e => ((h.apart mb).2.2 e.symm).2 rfl
  refine ⟨by rw [hg.block b h.lt hb]; exact h.blk, h.base, Nat.lt_of_lt_of_le h.mlt hg.size, h.names.kept hg hm, row_kept' h.sizes hg fun k hk => ((h.apart k).1 hk).2.2.2, row_kept' h.aligns hg fun k hk => ((h.apart k).2.1 hk).2.2, ho, fun k => ⟨fun hk => ⟨((h.apart k).1 hk).1, ((h.apart k).1 hk).2.1, ((h.apart k).1 hk).2.2.1, fun e => ?_⟩, fun hk => ⟨((h.apart k).2.1 hk).1, ((h.apart k).2.1 hk).2.1, fun e => ?_⟩, fun hk => ?_⟩⟩
  · rcases hs k e with h1 | rfl
    · exact ((h.apart k).1 hk).2.2.2 h1
    · exact absurd (h.sizes.lt _ hk).2 (Nat.lt_irrefl _)
  · rcases hs k e with h1 | rfl
    · exact ((h.apart k).2.1 hk).2.2 h1
    · exact absurd (h.aligns.lt _ hk).2 (Nat.lt_irrefl _)
  · rcases hs k hk with h1 | rfl
    · exact (h.apart k).2.2 h1
    · have h1 := h.lt
      have h2 := h.mlt
      exact ⟨by omega, by omega⟩
theorem KnR.turned {n' : Nat} {f' : List UInt8 → Int × Bool} (h : KnR B w b mb c0 c2 c3 lv sv av n f nl ll ns ls na la) (ht : w.mapTurned w' mb) (hn : MapF w' mb n' f') : KnR B w' b mb c0 c2 c3 lv sv av n' f' nl ll ns ls na la := by
  have hg := ht.grown
  refine ⟨by rw [hg.block b h.lt (by simp only [ne_eq, Option.some.injEq]; exact h.base.2.2)]; exact h.blk, h.base, Nat.lt_of_lt_of_le h.mlt hg.size, hn, h.sizes.kept hg ?_, h.aligns.kept hg ?_, h.list.kept hg ?_, h.apart⟩
  · exact .inr fun e => ((h.apart mb).1 e).2.1 rfl
  · exact .inr fun e => ((h.apart mb).2.1 e).2.1 rfl
  · exact .inr fun e => ((h.apart mb).2.2 e).2 rfl
theorem row_set {e : TypeId} {size m : Nat} {v : Value} {xs : List Value} (h : w.ownsRow B e size v m xs) (a : Addr) (u : Value) (hne : v.ownBlock ≠ some a.block) : (w.setCell a u).ownsRow B e size v m xs :=
  h.kept (row := some a.block) ⟨rfl, rfl, rfl, by simp, fun k _ hk => Below.heap_setCell _ _ _ _ (by simpa using hk)⟩ (.inr hne)
theorem KnR.put {c0' c2' c3' : Value} (h : KnR B w b mb c0 c2 c3 lv sv av n f nl ll ns ls na la) (j : Nat) (u : Value) (hc : (#[c0, .map (some mb), c2, c3] : Array Value).setIfInBounds j u = #[c0', .map (some mb), c2', c3']) :
    KnR B (w.setCell ⟨b, j, none⟩ u) b mb c0' c2' c3' lv sv av n f nl ll ns ls na la := by
  refine ⟨?_, h.base, by simpa using h.mlt, h.names.other _ (by simpa using Ne.symm h.base.2.2) _, row_set h.sizes _ _ (fun e => ((h.apart b).1 e).1 rfl), row_set h.aligns _ _ (fun e => ((h.apart b).2.1 e).1 rfl), row_set h.list _ _ (fun e => ((h.apart b).2.2 e).1 rfl), h.apart⟩
  rw [← hc]
  simp [World.setCell, Array.getElem?_modify, h.blk]
end
end Go.Proofs.YtmmjmppfmjejkaaGreatDoor
