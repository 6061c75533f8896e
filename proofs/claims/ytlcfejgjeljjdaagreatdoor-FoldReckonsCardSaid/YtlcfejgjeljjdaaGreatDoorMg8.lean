/- Trees as trees: the tree at a place, its nodes; what is laid out of a tree has that tree. Plain: nothing of the program. · What is laid out of a tree has that tree. Plain: nothing of the program. · Elem, Sign, Decay, Promote, Common: what they tell. · Decay, Promote: the program. · Common: the program. · How a type is written: the program, but for functions. · How a type is written: the program: pointers, arrays, words. · How a type is written: the program: functions, all types. -/
import Derived.Test.YtlcfejgjeljjdaaGreatDoorMg7
import Derived.Test.YtlcfejgjeljjdaaGreatDoorMg6
import Derived.Test.YtlcfejgjeljjdaaGreatDoorMg3
import Derived.IntWalk
import Derived.Deep.DeepCutAuto
import Derived.Laws.AppendOwn
import Derived.Deep.LoopGhost
namespace Go.Proofs.YtlcfejgjeljjdaaGreatDoor

inductive Tr where
  | node (x : Nd) (ps : List Tr)
def Tr.parts : Tr → List Tr
  | .node _ ps => ps
def nd0 : Nd := ⟨0, 0, 0, 0, ⟨#[]⟩, ⟨#[]⟩⟩
mutual
/-- the nodes, a whole behind its parts -/
def Tr.flat : Tr → List Nd
  | .node x ps => flatAll ps ++ [x]
def flatAll : List Tr → List Nd
  | [] => []
  | T :: r => T.flat ++ flatAll r
end
mutual
/-- each node says how many parts it has -/
def Tr.right : Tr → Prop
  | .node x ps => x.n = (ps.length : Int) ∧ rightAll ps
def rightAll : List Tr → Prop
  | [] => True
  | T :: r => T.right ∧ rightAll r
end
theorem flatAll_append : ∀ (a b : List Tr), flatAll (a ++ b) = flatAll a ++ flatAll b
  | [], _ => rfl
  | T :: r, b => by rw [List.cons_append, flatAll, flatAll, flatAll_append r b, List.append_assoc]
def trF (t : List Nd) (fr : List Nat) : Nat → Nat → Tr
  | 0, k => .node (t.getD k nd0) []
  | m + 1, k => .node (t.getD k nd0) ((partsAt t fr k).map (trF t fr m))
/-- the tree that ends at a place -/
def trAt (t : List Nd) (fr : List Nat) (k : Nat) : Tr := trF t fr (k + 1) k
theorem trF_more {t : List Nd} {fr : List Nat} (h : Formed t fr) : ∀ (m k : Nat), k < m → trF t fr m k = trF t fr (k + 1) k
  | 0, k, hk => by omega
  | m + 1, k, hk => by
    rw [trF, trF]
    congr 1
    refine List.map_congr_left fun p hp => ?_
    have := h.parts_lt hp
    rw [trF_more h m p (by omega), trF_more h k p (by omega)]
theorem trAt_eq {t : List Nd} {fr : List Nat} (h : Formed t fr) (k : Nat) : trAt t fr k = .node (t.getD k nd0) ((partsAt t fr k).map (trAt t fr)) := by
  unfold trAt
  rw [trF]
  congr 1
  refine List.map_congr_left fun p hp => ?_
  rw [trF_more h k p (h.parts_lt hp)]
/-- nodes from a place up to another one -/
def segN (t : List Nd) (a b : Nat) : List Nd := (t.drop a).take (b - a)
theorem segN_join (t : List Nd) {a b c : Nat} (h1 : a ≤ b) (h2 : b ≤ c) : segN t a b ++ segN t b c = segN t a c := by
  unfold segN
  rw [show c - a = (b - a) + (c - b) by omega, List.take_add, List.drop_drop, show a + (b - a) = b by omega]
theorem segN_one {t : List Nd} {k : Nat} (h : k < t.length) : segN t k (k + 1) = [t.getD k nd0] := by
  unfold segN
  have h1 : t.getD k nd0 = t[k] := by simp [List.getD, h]
  rw [h1, show k + 1 - k = 1 by omega, List.drop_eq_getElem_cons h, List.take_succ_cons, List.take_zero]
theorem back_flat {t : List Nd} {fr : List Nat} : ∀ {n e : Nat}, Back fr n e → (∀ p, p < e → fr.getD p 0 ≤ p → (trAt t fr p).flat = segN t (fr.getD p 0) (p + 1)) → flatAll ((partsE fr n e).map (trAt t fr)) = segN t (startE fr n e) e
  | 0, e, _, _ => by simp [partsE, startE, flatAll, segN]
  | n + 1, e, ⟨h1, h2, h3⟩, ih => by
    have hb := back_flat (t := t) h3 (fun p hp => ih p (by omega))
    rw [partsE, List.map_append, flatAll_append, hb, startE]
    simp only [List.map_cons, List.map_nil, flatAll, List.append_nil]
    rw [ih (e - 1) (by omega) (by omega), show e - 1 + 1 = e by omega]
    exact segN_join t (back_sum h3).1 (by omega)
/-- the tree at a place is made of the nodes from where it begins -/
theorem flatT_at {t : List Nd} {fr : List Nat} (hb : beginsN t = some fr) : ∀ (k : Nat), k < t.length → (trAt t fr k).flat = segN t (fr.getD k 0) (k + 1) := by
  have hF := formed_of hb
  intro k
  induction k using Nat.strongRecOn with
  | ind k ih =>
    intro hk
    have hx := List.getElem?_eq_getElem hk
    obtain ⟨_, h2, h3⟩ := hF.node k _ hx
    have h4 := start_of hb hx
    rw [trAt_eq hF, Tr.flat, partsAt_is hx, back_flat h2 (fun p hp _ => ih p hp (by omega)), h4, ← segN_one hk]
    exact segN_join t h3 (by omega)
/-- each of its nodes says how many parts it has -/
theorem right_at {t : List Nd} {fr : List Nat} (hF : Formed t fr) : ∀ (k : Nat), k < t.length → (trAt t fr k).right := by
  have hall : ∀ (L : List Nat), (∀ p ∈ L, (trAt t fr p).right) → rightAll (L.map (trAt t fr)) := by
    intro L
    induction L with
    | nil => intro _; trivial
    | cons p r ih => intro h; exact ⟨h p List.mem_cons_self, ih fun q hq => h q (List.mem_cons_of_mem _ hq)⟩
  intro k
  induction k using Nat.strongRecOn with
  | ind k ih =>
    intro hk
    have hx := List.getElem?_eq_getElem hk
    obtain ⟨h1, h2, _⟩ := hF.node k _ hx
    rw [trAt_eq hF, Tr.right]
    refine ⟨?_, hall _ fun p hp => ?_⟩
    · rw [List.length_map, partsAt_is hx, partsE_length]
      rw [show t.getD k nd0 = t[k] from by simp [List.getD, hk]]
      omega
    · have := hF.parts_lt hp
      exact ih p this (by omega)
end Go.Proofs.YtlcfejgjeljjdaaGreatDoor
namespace Go.Proofs.YtlcfejgjeljjdaaGreatDoor

theorem flat_pos (T : Tr) : 0 < T.flat.length := by
  cases T with
  | node x ps => rw [Tr.flat]; simp
theorem flat_mem_lt {x : Nd} {ps : List Tr} {T : Tr} (h : T ∈ ps) : T.flat.length < (Tr.node x ps).flat.length := by
  rw [Tr.flat, List.length_append]
  have key : ∀ (ps : List Tr), T ∈ ps → T.flat.length ≤ (flatAll ps).length := by
    intro ps
    induction ps with
    | nil => intro h; cases h
    | cons S r ih =>
      intro h
      rw [flatAll, List.length_append]
      rcases List.mem_cons.1 h with rfl | h
      · omega
      · have := ih h; omega
  have := key ps h
  simp
  omega
/-- trees, by how many nodes they have -/
theorem tr_induct {P : Tr → Prop} (h : ∀ x ps, (∀ T ∈ ps, P T) → P (.node x ps)) (T : Tr) : P T := by
  have key : ∀ n, ∀ T : Tr, T.flat.length ≤ n → P T := by
    intro n
    induction n with
    | zero => intro T hT; have := flat_pos T; omega
    | succ n ih =>
      intro T hT
      cases T with
      | node x ps => exact h x ps fun S hS => ih S (by have := flat_mem_lt (x := x) hS; omega)
  exact key _ T (Nat.le_refl _)
mutual
/-- where parts begin, the first node being at i -/
def Tr.frs : Tr → Nat → List Nat
  | .node _ ps, i => frsAll ps i ++ [i]
def frsAll : List Tr → Nat → List Nat
  | [], _ => []
  | T :: r, i => T.frs i ++ frsAll r (i + T.flat.length)
end
end Go.Proofs.YtlcfejgjeljjdaaGreatDoor
namespace Go.Proofs.YtlcfejgjeljjdaaGreatDoor
open Go.RowKit

def isC (c : UInt8) : Ty → Bool
  | .base d => decide (d = c)
  | _ => false
def promoteV (s : ByteArray) : Option Ty → Value
  | none => .tuple #[.string ⟨#[]⟩, .int .i64 2]
  | some t => if (isC 99 t || isC 115 t) = true then .tuple #[.string (tyB (.base 105)), .int .i64 0] else .tuple #[.string s, .int .i64 0]
def commonV : Option Ty → Option Ty → Value
  | some t, some u => if (isIntT t && isIntT u) = true then (if (isC 117 t || isC 117 u) = true then .tuple #[.string (tyB (.base 117)), .int .i64 0] else .tuple #[.string (tyB (.base 105)), .int .i64 0]) else .tuple #[.string ⟨#[]⟩, .int .i64 5]
  | _, _ => .tuple #[.string ⟨#[]⟩, .int .i64 2]

theorem tup_eq {a b : Value} (h : a = b) : Ending.returned a = .returned b := by rw [h]
theorem base_six {c : UInt8} (h : isBase c = true) : c = 118 ∨ c = 99 ∨ c = 115 ∨ c = 105 ∨ c = 117 ∨ c = 106 := by
  unfold isBase at h
  rw [List.contains_iff_mem] at h
  simpa using h
/-- the first letter of a type, as the tests ask -/
def headT : Ty → UInt8
  | .base c => c
  | .ptr _ => 112
  | .arr _ _ => 97
  | .str _ => 83
  | .fn _ _ => 102
theorem tyB_head (t : Ty) : ∃ h : 0 < (tyB t).size, (tyB t)[0] = headT t := by
  cases t with
  | base c => exact tyB_get (t := .base c) rfl
  | ptr u => exact tyB_get (t := .ptr u) rfl
  | arr n u => exact tyB_get (t := .arr n u) rfl
  | str n => exact tyB_get (t := .str n) rfl
  | fn ps r => exact tyB_get (t := .fn ps r) rfl
theorem eq_false' {s : ByteArray} {h : 0 < s.size} {c d : UInt8} (hc : s[0] = c) (hd : c ≠ d) : ((s[0].toNat : Int) == (d.toNat : Int)) = false := by
  rw [hc, beq_eq_false_iff_ne]
  intro e
  exact hd (UInt8.toNat_inj.1 (by omega))
theorem eq_true' {s : ByteArray} {h : 0 < s.size} {c : UInt8} (hc : s[0] = c) : ((s[0].toNat : Int) == (c.toNat : Int)) = true := by rw [hc]; simp

end Go.Proofs.YtlcfejgjeljjdaaGreatDoor
namespace Go.Proofs.YtlcfejgjeljjdaaGreatDoor
open Go.RowKit

theorem one_is {t : Ty} (h : Right t) (c : UInt8) : ((tyB t).toList == [c]) = isC c t := by
  rw [str_one, Bool.eq_iff_iff, decide_eq_true_iff, one_base h]
  cases t <;> simp [isC]
set_option maxHeartbeats 1000000 in
theorem promote_ok (s : ByteArray) (w : World) (hE : TE w) : Calls Tryz.prog 89 #[.string s] w fun e w' => e = .returned (promoteV s (tyS s)) ∧ Below w.heap.size w w' := by
  rcases h : tyS s with _ | t
  · have HF := Lib.hid (form_is false s w hE (by rw [h]; rfl))
    clear h hE
    go_enter Tryz.func89, Tryz.ntmps89
    go_wp2_with (go_at_call 90; (with_reducible refine HF.out.mono ?_); rintro e w1 ⟨rfl, hb1⟩)
    go_ret2
    exact ⟨rfl, hb1⟩
  · obtain ⟨rfl, hr, _⟩ := tyS_some.1 h
    have HF := Lib.hid (form_is true (tyB t) w hE (by rw [h]; rfl))
    have h99 := one_is hr 99
    have h115 := one_is hr 115
    generalize hs : tyB t = s at *
    rcases h1 : isC 99 t with _ | _
    · rcases h2 : isC 115 t with _ | _
      · have hfin := Lib.hid (show promoteV s (some t) = .tuple #[.string s, .int .i64 0] by simp [promoteV, h1, h2])
        rw [h1] at h99; rw [h2] at h115
        clear h hE hr hs h1 h2
        go_enter Tryz.func89, Tryz.ntmps89
        go_wp2_with (go_at_call 90; (with_reducible refine HF.out.mono ?_); rintro e w1 ⟨rfl, hb1⟩)
        go_ret2
        exact ⟨tup_eq hfin.out.symm, hb1⟩
      · have hfin := Lib.hid (show promoteV s (some t) = .tuple #[.string (tyB (.base 105)), .int .i64 0] by simp [promoteV, h1, h2])
        rw [h1] at h99; rw [h2] at h115
        clear h hE hr hs h1 h2
        go_enter Tryz.func89, Tryz.ntmps89
        go_wp2_with (go_at_call 90; (with_reducible refine HF.out.mono ?_); rintro e w1 ⟨rfl, hb1⟩)
        go_ret2
        exact ⟨tup_eq hfin.out.symm, hb1⟩
    · have hfin := Lib.hid (show promoteV s (some t) = .tuple #[.string (tyB (.base 105)), .int .i64 0] by simp [promoteV, h1])
      rw [h1] at h99
      clear h hE hr hs h1 h115
      go_enter Tryz.func89, Tryz.ntmps89
      go_wp2_with (go_at_call 90; (with_reducible refine HF.out.mono ?_); rintro e w1 ⟨rfl, hb1⟩)
      go_ret2
      exact ⟨tup_eq hfin.out.symm, hb1⟩

end Go.Proofs.YtlcfejgjeljjdaaGreatDoor
namespace Go.Proofs.YtlcfejgjeljjdaaGreatDoor
open Go.RowKit

theorem common_no1 {a b : Option Ty} (h : a = none ∨ b = none) : commonV a b = .tuple #[.string ⟨#[]⟩, .int .i64 2] := by
  rcases h with rfl | rfl
  · rfl
  · cases a <;> rfl
theorem common_no2 {t u : Ty} (h : isIntT t = false ∨ isIntT u = false) : commonV (some t) (some u) = .tuple #[.string ⟨#[]⟩, .int .i64 5] := by
  rcases h with h | h <;> simp [commonV, h]
theorem common_u {t u : Ty} (h1 : isIntT t = true) (h2 : isIntT u = true) (h : isC 117 t = true ∨ isC 117 u = true) : commonV (some t) (some u) = .tuple #[.string (tyB (.base 117)), .int .i64 0] := by
  rcases h with h | h <;> simp [commonV, h1, h2, h]
theorem common_i {t u : Ty} (h1 : isIntT t = true) (h2 : isIntT u = true) (h3 : isC 117 t = false) (h4 : isC 117 u = false) : commonV (some t) (some u) = .tuple #[.string (tyB (.base 105)), .int .i64 0] := by
  simp [commonV, h1, h2, h3, h4]

set_option maxHeartbeats 2000000 in
theorem common_ok (a b : ByteArray) (w : World) (hE : TE w) : Calls Tryz.prog 59 #[.string a, .string b] w fun e w' => e = .returned (commonV (tyS a) (tyS b)) ∧ Below w.heap.size w w' := by
  have HE := Lib.hid hE
  rcases ha : tyS a with _ | t
  · have HF := Lib.hid (form_is false a w hE (by rw [ha]; rfl))
    have hfin := Lib.hid (common_no1 (a := none) (b := tyS b) (.inl rfl))
    clear ha hE
    go_enter Tryz.func59, Tryz.ntmps59
    go_wp2_with (go_at_call 90; (with_reducible refine HF.out.mono ?_); rintro e w1 ⟨rfl, hb1⟩)
    go_ret2
    exact ⟨tup_eq hfin.out.symm, hb1⟩
  · have HF := Lib.hid (form_is true a w hE (by rw [ha]; rfl))
    rcases hb : tyS b with _ | u
    · have HG := Lib.hid (fun w hE => form_is false b w hE (by rw [hb]; rfl))
      have hfin := Lib.hid (common_no1 (a := some t) (b := none) (.inr rfl))
      clear ha hb hE
      go_enter Tryz.func59, Tryz.ntmps59
      go_wp2_with (go_at_call 90; (with_reducible refine HF.out.mono ?_))
      rintro e w1 ⟨rfl, hb1⟩
      go_wp2_with (go_at_call 90; (with_reducible refine (HG.out _ (HE.out.below hb1)).mono ?_))
      rintro e w2 ⟨rfl, hb2⟩
      go_wp2_with fail
      go_ret2
      exact ⟨tup_eq hfin.out.symm, hb1.trans (hb2.mono hb1.size)⟩
    · have HG := Lib.hid (fun w hE => form_is true b w hE (by rw [hb]; rfl))
      have ia : isIntS a = isIntT t := by unfold isIntS; rw [ha]; rfl
      have ib : isIntS b = isIntT u := by unfold isIntS; rw [hb]; rfl
      obtain ⟨ea, ra, _⟩ := tyS_some.1 ha
      obtain ⟨eb, rb, _⟩ := tyS_some.1 hb
      have ua : (a.toList == [117]) = isC 117 t := by rw [ea]; exact one_is ra 117
      have ub : (b.toList == [117]) = isC 117 u := by rw [eb]; exact one_is rb 117
      rcases h1 : isIntT t with _ | _
      · have HI := Lib.hid (ia.trans h1)
        have hfin := Lib.hid (common_no2 (t := t) (u := u) (.inl h1))
        clear ha hb hE ia ib ea eb ra rb ua ub h1
        go_enter Tryz.func59, Tryz.ntmps59
        go_wp2_with (go_at_call 90; (with_reducible refine HF.out.mono ?_))
        rintro e w1 ⟨rfl, hb1⟩
        go_wp2_with (go_at_call 90; (with_reducible refine (HG.out _ (HE.out.below hb1)).mono ?_))
        rintro e w2 ⟨rfl, hb2⟩
        go_wp2_with (go_at_call 28; (with_reducible refine (isInt_is _ a _ HI.out).mono ?_); rintro e w3 ⟨rfl, rfl⟩)
        go_ret2
        exact ⟨tup_eq hfin.out.symm, hb1.trans (hb2.mono hb1.size)⟩
      · have HI := Lib.hid (ia.trans h1)
        rcases h2 : isIntT u with _ | _
        · have HJ := Lib.hid (ib.trans h2)
          have hfin := Lib.hid (common_no2 (t := t) (u := u) (.inr h2))
          clear ha hb hE ia ib ea eb ra rb ua ub h1 h2
          go_enter Tryz.func59, Tryz.ntmps59
          go_wp2_with (go_at_call 90; (with_reducible refine HF.out.mono ?_))
          rintro e w1 ⟨rfl, hb1⟩
          go_wp2_with (go_at_call 90; (with_reducible refine (HG.out _ (HE.out.below hb1)).mono ?_))
          rintro e w2 ⟨rfl, hb2⟩
          go_wp2_with (go_at_call 28; (with_reducible refine (isInt_is _ a _ HI.out).mono ?_))
          rintro e w3 ⟨rfl, rfl⟩
          go_wp2_with (go_at_call 28; (with_reducible refine (isInt_is _ b _ HJ.out).mono ?_); rintro e w3 ⟨rfl, rfl⟩)
          go_ret2
          exact ⟨tup_eq hfin.out.symm, hb1.trans (hb2.mono hb1.size)⟩
        · have HJ := Lib.hid (ib.trans h2)
          rcases h3 : isC 117 t with _ | _
          · rcases h4 : isC 117 u with _ | _
            · have hfin := Lib.hid (common_i h1 h2 h3 h4)
              rw [h3] at ua; rw [h4] at ub
              clear ha hb hE ia ib ea eb ra rb h1 h2 h3 h4
              go_enter Tryz.func59, Tryz.ntmps59
              go_wp2_with (go_at_call 90; (with_reducible refine HF.out.mono ?_))
              rintro e w1 ⟨rfl, hb1⟩
              go_wp2_with (go_at_call 90; (with_reducible refine (HG.out _ (HE.out.below hb1)).mono ?_))
              rintro e w2 ⟨rfl, hb2⟩
              go_wp2_with (go_at_call 28; (with_reducible refine (isInt_is _ a _ HI.out).mono ?_))
              rintro e w3 ⟨rfl, rfl⟩
              go_wp2_with (go_at_call 28; (with_reducible refine (isInt_is _ b _ HJ.out).mono ?_); rintro e w3 ⟨rfl, rfl⟩)
              go_ret2
              exact ⟨tup_eq hfin.out.symm, hb1.trans (hb2.mono hb1.size)⟩
            · have hfin := Lib.hid (common_u h1 h2 (.inr h4))
              rw [h3] at ua; rw [h4] at ub
              clear ha hb hE ia ib ea eb ra rb h1 h2 h3 h4
              go_enter Tryz.func59, Tryz.ntmps59
              go_wp2_with (go_at_call 90; (with_reducible refine HF.out.mono ?_))
              rintro e w1 ⟨rfl, hb1⟩
              go_wp2_with (go_at_call 90; (with_reducible refine (HG.out _ (HE.out.below hb1)).mono ?_))
              rintro e w2 ⟨rfl, hb2⟩
              go_wp2_with (go_at_call 28; (with_reducible refine (isInt_is _ a _ HI.out).mono ?_))
              rintro e w3 ⟨rfl, rfl⟩
              go_wp2_with (go_at_call 28; (with_reducible refine (isInt_is _ b _ HJ.out).mono ?_); rintro e w3 ⟨rfl, rfl⟩)
              go_ret2
              exact ⟨tup_eq hfin.out.symm, hb1.trans (hb2.mono hb1.size)⟩
          · have hfin := Lib.hid (common_u h1 h2 (.inl h3))
            rw [h3] at ua
            clear ha hb hE ia ib ea eb ra rb ub h1 h2 h3
            go_enter Tryz.func59, Tryz.ntmps59
            go_wp2_with (go_at_call 90; (with_reducible refine HF.out.mono ?_))
            rintro e w1 ⟨rfl, hb1⟩
            go_wp2_with (go_at_call 90; (with_reducible refine (HG.out _ (HE.out.below hb1)).mono ?_))
            rintro e w2 ⟨rfl, hb2⟩
            go_wp2_with (go_at_call 28; (with_reducible refine (isInt_is _ a _ HI.out).mono ?_))
            rintro e w3 ⟨rfl, rfl⟩
            go_wp2_with (go_at_call 28; (with_reducible refine (isInt_is _ b _ HJ.out).mono ?_); rintro e w3 ⟨rfl, rfl⟩)
            go_ret2
            exact ⟨tup_eq hfin.out.symm, hb1.trans (hb2.mono hb1.size)⟩

end Go.Proofs.YtlcfejgjeljjdaaGreatDoor
namespace Go.Proofs.YtlcfejgjeljjdaaGreatDoor
open Go.RowKit

/-- a string by its bytes -/
def strB (l : List UInt8) : ByteArray := ⟨l.toArray⟩
theorem strB_list (l : List UInt8) : (strB l).data.toList = l := by simp [strB]
theorem strB_size (l : List UInt8) : (strB l).size = l.length := by simp [strB, ByteArray.size]
theorem strB_eq {x : ByteArray} {l : List UInt8} (h : x.data.toList = l) : x = strB l := toList_eq (by rw [h, strB_list])

end Go.Proofs.YtlcfejgjeljjdaaGreatDoor
namespace Go.Proofs.YtlcfejgjeljjdaaGreatDoor
open Go.RowKit

theorem head_fn {t : Ty} (h : Right t) : (((headT t).toNat : Int) == 102) = isFnT t := by
  cases t with
  | base c => rcases base_six h with rfl | rfl | rfl | rfl | rfl | rfl <;> rfl
  | _ => rfl
end Go.Proofs.YtlcfejgjeljjdaaGreatDoor
namespace Go.Proofs.YtlcfejgjeljjdaaGreatDoor
open Go.RowKit

theorem own_formT {w : World} {base : Nat} {e : TypeId} {size : Nat} {v : Value} {n : Nat} {xs : List Value} (h : w.ownsRow base e size v n xs) : ∃ a cap, v = .slice a n cap ∧ (0 < n → ∃ g, a = some ⟨g, 0, none⟩ ∧ base ≤ g ∧ g < w.heap.size ∧ ∀ j u, xs[j]? = some u → w.cell? ⟨g, j, none⟩ = some u) := by
  rcases h.2 with ⟨rfl, rfl⟩ | ⟨g, cap, cur, rfl, hb, hg, _⟩
  · exact ⟨_, _, rfl, fun h => by omega⟩
  · refine ⟨_, _, rfl, fun _ => ⟨g, rfl, hb, lt_of_heap hg, fun j u hj => ?_⟩⟩
    have := h.cells (g := g) rfl j u hj
    rwa [addr_add] at this
theorem codes_mem' : ∀ {l : List Ty} {t : Ty}, t ∈ l → (code t).length ≤ (codes l).length
  | [], _, h => by cases h
  | u :: [], t, h => by
    rcases List.mem_cons.1 h with rfl | e
    · rw [codes]; simp
    · cases e
  | u :: v :: l, t, h => by
    rw [codes_cons, codes'_cons]
    rcases List.mem_cons.1 h with rfl | e
    · simp
    · have := codes_mem' e
      simp; omega
end Go.Proofs.YtlcfejgjeljjdaaGreatDoor
