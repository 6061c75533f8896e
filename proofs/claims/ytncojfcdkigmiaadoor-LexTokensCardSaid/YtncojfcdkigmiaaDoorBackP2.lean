/- What is read may be laid; laid, it is read again: plainly, no program here. -/
import Derived.Test.YtncojfcdkigmiaaDoorBackP
import Derived.Lib.Join
namespace Go.Proofs.YtncojfcdkigmiaaDoor
open Go.RowKit

theorem one_good {L : List UInt8} {t : Tok} {n : Nat} (h : oneL L = .good t n) : (t.kind = 4 ∧ t.num = 0 ∧ L.head?.any (fun c => decide (c.toNat = 34)) = true) ∨ (goodB t = true ∧ isStr t = false ∧ L.head?.any (fun c => decide (c.toNat = 34)) = false) := by
  match L, h with
  | [], h => cases h
  | c :: l, h =>
    rw [oneL] at h
    by_cases h1 : letB c = true
    · rw [if_pos h1] at h
      have hh : ((c :: l).head?.any fun c => decide (c.toNat = 34)) = false := by simpa using (let_word (.inl h1)).2.1
      unfold wordE at h
      split at h
      · rename_i hk
        have e := (OEnd.good.inj h).1
        subst e
        exact .inr ⟨by simp [goodB, hk], rfl, hh⟩
      · rename_i hk
        split at h
        · cases h
        · rename_i h31
          have e := (OEnd.good.inj h).1
          subst e
          have hwp : 0 < wlen (c :: l) := wlen_pos (by simp [wordB, h1])
          have hwl := wlen_le (c :: l)
          have hlen : ((c :: l).take (wlen (c :: l))).length = wlen (c :: l) := by rw [List.length_take]; omega
          have hs : (strOf ((c :: l).take (wlen (c :: l)))).size = wlen (c :: l) := hlen
          have hall : wlen ((c :: l).take (wlen (c :: l))) = wlen (c :: l) := wlen_take _ _ (Nat.le_refl _)
          refine .inr ⟨?_, rfl, hh⟩
          simp only [goodB]
          have hhead : (strOf ((c :: l).take (wlen (c :: l)))).data.toList.head?.any letB = true := by
            show ((c :: l).take (wlen (c :: l))).head?.any letB = true
            obtain ⟨m, hm⟩ : ∃ m, wlen (c :: l) = m + 1 := ⟨wlen (c :: l) - 1, by omega⟩
            rw [hm, List.take_succ_cons]
            simpa using h1
          have hw2 : wlen (strOf ((c :: l).take (wlen (c :: l)))).data.toList = (strOf ((c :: l).take (wlen (c :: l)))).size := by rw [hs]; exact hall
          have hk' : isKeyB (strOf ((c :: l).take (wlen (c :: l)))) = false := by simpa using hk
          have : isNameB (strOf ((c :: l).take (wlen (c :: l)))) = true := by
            unfold isNameB
            rw [hhead, hw2, hk', hs]
            simp; omega
          simp [this]
    · rw [if_neg h1] at h
      by_cases h2 : digB c = true
      · rw [if_pos h2] at h
        have hh : ((c :: l).head?.any fun c => decide (c.toNat = 34)) = false := by simpa using (let_word (.inr h2)).2.1
        unfold numE at h
        split at h
        · cases h
        · rename_i m u hm
          have e := (OEnd.good.inj h).1
          subst e
          refine .inr ⟨?_, rfl, hh⟩
          unfold numW at hm
          split at hm
          · cases hm
          · rename_i n' _
            split at hm
            · rename_i hlt
              simp only [Option.some.injEq, Prod.mk.injEq] at hm
              obtain ⟨rfl, hu⟩ := hm
              simp only [goodB, goodNum, if_true]
              cases u with
              | true => simp; omega
              | false =>
                have he : ¬ ((⟨#[]⟩ : ByteArray) = uText) := by decide
                have hu2 : ¬ 2147483648 ≤ n' := by
                  intro e
                  simp [e] at hu
                simp only [Bool.false_eq_true, if_false]
                rw [if_neg he]
                have e0 : (⟨#[]⟩ : ByteArray) = ByteArray.empty := rfl
                rw [e0]
                simp; omega
            · cases hm
      · rw [if_neg h2] at h
        by_cases h3 : c.toNat = 39
        · rw [if_pos h3] at h
          obtain ⟨b, j, _, _, rfl⟩ := charE_good h
          refine .inr ⟨?_, rfl, by simp [h3]⟩
          have hb := b.toNat_lt
          have hs : -128 ≤ sgn b ∧ sgn b < 2147483648 := by unfold sgn; split <;> omega
          have he : ¬ ((⟨#[]⟩ : ByteArray) = uText) := by decide
          simp only [goodB, goodNum, if_true]
          rw [if_neg he]
          have e0 : (⟨#[]⟩ : ByteArray) = ByteArray.empty := rfl
          rw [e0]
          simp [hs]
        · rw [if_neg h3] at h
          by_cases h4 : c.toNat = 34
          · rw [if_pos h4] at h
            obtain ⟨q, j, _, _, rfl⟩ := strE_good h
            exact .inl ⟨rfl, rfl, by simp [h4]⟩
          · rw [if_neg h4] at h
            unfold markE at h
            split at h
            · cases h
            · rename_i m hm
              have e := (OEnd.good.inj h).1
              subst e
              refine .inr ⟨?_, rfl, by simp [h4]⟩
              have : Lib.containsS markT m = true := (Lib.containsS_iff _ _).2 (List.mem_of_find?_eq_some hm)
              simp [goodB, this]

theorem noAdj_snoc : ∀ {l : List Tok} {t : Tok}, NoAdj l → (∀ a, l.getLast? = some a → ¬ (isStr a = true ∧ isStr t = true)) → NoAdj (l ++ [t])
  | [], _, _, _ => trivial
  | [x], t, _, h => ⟨h x rfl, trivial⟩
  | x :: y :: l, t, hn, h => ⟨hn.1, noAdj_snoc (l := y :: l) hn.2 (fun a ha => h a (by simpa using ha))⟩
/-- what is read may be laid, and has no two texts in a row -/
theorem tokL_okay : ∀ k M out L, tokL k M out = .good L → (∀ t ∈ out, goodB t = true) → NoAdj out → (∀ t ∈ L, goodB t = true) ∧ NoAdj L := by
  have key := tokL_ind (P := fun _ _ out e => ∀ L, e = .good L → (∀ t ∈ out, goodB t = true) → NoAdj out → (∀ t ∈ L, goodB t = true) ∧ NoAdj L) ?_ ?_
  · exact fun k M out L h => key k M out L h
  · intro k M out e h L he hg hn
    subst he
    obtain ⟨_, _, _, rfl⟩ := step_good h
    exact ⟨hg, hn⟩
  · intro k M out n out' h ih L he hg hn
    obtain ⟨b, t', j, _, _, _, ho, _, hp, hs⟩ := step_more h
    have h1 := one_good ho
    refine ih L he ?_ ?_
    · intro t ht
      rcases hj : joins (M.drop b) out with _ | _
      · rw [put_new hj] at hp
        rw [hp] at ht hs
        rcases List.mem_append.1 ht with e | e
        · exact hg t e
        · obtain rfl := List.mem_singleton.1 e
          rcases h1 with ⟨k4, k0, _⟩ | ⟨k1, _, _⟩
          · have := hs _ List.getLast?_concat
            simp only at this
            simp [goodB, k4, k0, this]
          · exact k1
      · obtain ⟨q, t0, rfl⟩ := snoc_of (joins_ne hj)
        rw [put_joins hj, glue_snoc] at hp
        rw [hp] at ht hs
        rw [joins_snoc] at hj
        rcases List.mem_append.1 ht with e | e
        · exact hg t (by simp [e])
        · obtain rfl := List.mem_singleton.1 e
          have g0 := hg t0 (by simp)
          have k4 : t0.kind = 4 := by simp [isStr] at hj; exact hj.2
          have k0 : t0.num = 0 := by
            simp only [goodB, k4] at g0
            simp at g0
            exact g0.1
          have := hs _ List.getLast?_concat
          simp only [ByteArray.size_append] at this
          simp [goodB, k4, k0, this]
    · rcases hj : joins (M.drop b) out with _ | _
      · rw [put_new hj] at hp
        rw [hp]
        refine noAdj_snoc hn fun a ha ⟨e1, e2⟩ => ?_
        have e3 : isStr t' = true := e2
        rcases h1 with ⟨_, _, k3⟩ | ⟨_, k2, _⟩
        · rw [joins, k3, ha] at hj
          simp [e1] at hj
        · rw [k2] at e3; cases e3
      · obtain ⟨q, t0, rfl⟩ := snoc_of (joins_ne hj)
        rw [put_joins hj, glue_snoc] at hp
        rw [hp]
        exact noAdj_kind (l := q ++ [t0]) (by simp [isStr]) hn

/-- tokens as Lay puts them -/
def pairs : List Tok → List (Tok × List UInt8)
  | [] => []
  | [t] => [(t, [])]
  | t :: u :: r => (t, [32]) :: pairs (u :: r)
theorem pairs_fst : ∀ L, (pairs L).map (·.1) = L
  | [] => rfl
  | [_] => rfl
  | t :: u :: r => by rw [pairs, List.map_cons, pairs_fst (u :: r)]
theorem pairs_ok : ∀ L, (∀ t ∈ L, goodB t = true) → SepOk (pairs L)
  | [], _ => trivial
  | [t], h => ⟨h t (by simp), clear_nil, .inr ⟨rfl, rfl⟩, trivial⟩
  | t :: u :: r, h => ⟨h t (by simp), clear_one (by decide), .inl ⟨[], rfl⟩, pairs_ok (u :: r) (fun x hx => h x (by simp at hx ⊢; exact .inr hx))⟩
theorem pairs_join : ∀ L : List Tok, body (pairs L) = Lib.join (L.map wordL) [32]
  | [] => rfl
  | [t] => by simp [pairs, body, Lib.join_one]
  | t :: u :: r => by
    rw [pairs, body, pairs_join (u :: r)]
    simp [Lib.join, List.intercalate]
theorem back_plain {L : List Tok} (hg : ∀ t ∈ L, goodB t = true) (hn : NoAdj L) (hl : L.length ≤ 16384) : ∃ K, tokL 0 (Lib.join (L.map wordL) [32]) [] = .good K ∧ K.map unp = L.map unp := by
  have hlen : (pairs L).length = L.length := by rw [← List.length_map (f := (·.1)), pairs_fst]
  obtain ⟨K, h1, h2⟩ := tokL_body (pairs L) [] 0 [] (pairs_ok L hg) clear_nil (by rw [pairs_fst]; exact hn) (by simp; omega)
  rw [List.nil_append, pairs_join] at h1
  rw [pairs_fst] at h2
  exact ⟨K, by simpa using h1, h2⟩
/-- tokens with a blank, any blank bytes and a comment behind each -/
def noted (more : List UInt8) (L : List Tok) : List UInt8 := L.flatMap fun t => wordL t ++ (32 :: (more ++ [47, 42, 32, 120, 32, 42, 47, 32]))
theorem noted_body (more : List UInt8) : ∀ L, noted more L = body (L.map fun t => (t, 32 :: (more ++ [47, 42, 32, 120, 32, 42, 47, 32])))
  | [] => rfl
  | t :: L => by
    have := noted_body more L
    unfold noted at this ⊢
    rw [List.flatMap_cons, this, List.map_cons, body, List.append_assoc]
theorem blank_plain {more : List UInt8} {L : List Tok} (hm : ∀ c ∈ more, spB c = true) (hg : ∀ t ∈ L, goodB t = true) (hn : NoAdj L) (hl : L.length ≤ 16384) : ∃ K, tokL 0 (more ++ noted more L) [] = .good K ∧ K.map unp = L.map unp := by
  have hc : Clear (32 :: (more ++ [47, 42, 32, 120, 32, 42, 47, 32])) := (clear_one (c := 32) (by decide)).append ((clear_all more hm).append clear_note)
  have hs : ∀ L : List Tok, (∀ t ∈ L, goodB t = true) → SepOk (L.map fun t => (t, 32 :: (more ++ [47, 42, 32, 120, 32, 42, 47, 32]))) := by
    intro L
    induction L with
    | nil => intro _; trivial
    | cons t L ih => intro h; exact ⟨h t (by simp), hc, .inl ⟨_, rfl⟩, ih (fun x hx => h x (by simp [hx]))⟩
  have hf : (L.map fun t => (t, 32 :: (more ++ [47, 42, 32, 120, 32, 42, 47, 32]))).map (·.1) = L := by rw [List.map_map]; simp [Function.comp_def]
  obtain ⟨K, h1, h2⟩ := tokL_body (L.map fun t => (t, 32 :: (more ++ [47, 42, 32, 120, 32, 42, 47, 32]))) more 0 [] (hs L hg) (clear_all more hm) (by rw [hf]; exact hn) (by simp; omega)
  rw [← noted_body] at h1
  rw [hf] at h2
  exact ⟨K, by simpa using h1, h2⟩

end Go.Proofs.YtncojfcdkigmiaaDoor
