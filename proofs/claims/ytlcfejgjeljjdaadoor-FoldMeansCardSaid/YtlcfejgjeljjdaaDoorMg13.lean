/- An argument that is a list of structs, opened. · The rows' last step, alike for all laws: the arguments read as before in any world that keeps what lay below; what the bound on the bulk gives. · Numbers of the integer types. Plain: nothing of the program. · Trees: nodes behind their parts; where a part begins, what its parts are, whether they fit, how deep it is. Plain: nothing of the program. -/
import Derived.Test.YtlcfejgjeljjdaaDoorMg12
import Derived.SizedLaws
import Derived.Test.YtlcfejgjeljjdaaDoorRows
import Derived.Test.YtlcfejgjeljjdaaDoorMg1
import Derived.ProofKit
import Derived.OpenShut
import Derived.JoinedCond
import Derived.Test.YtlcfejgjeljjdaaDoorMg2
namespace Go.Proofs.YtlcfejgjeljjdaaDoor
open Go.ChangeShapes Go.WideShapes Go.ChangeAt Go.RowKit Go.Deep

section
variable {H : Type} {enc : TypeId × Value → H} {w : World} {base : Nat} {spare : Nat → Bool} {held : Bool}
def memCells (m : ByteArray × ByteArray) : List Value := [.string m.1, .string m.2]
def memData (m : ByteArray × ByteArray) : DataW H := .agg [.lit (.string m.1.data.toList), .lit (.string m.2.data.toList)]
theorem cellsMem : Tryd.prog.cellsOf 132 = 2 := by kernel_rfl
theorem cellsSt : Tryd.prog.cellsOf 112 = 2 := by kernel_rfl
theorem cellsS1 : Tryd.prog.cellsOf 9 = 1 := by kernel_rfl
theorem cellsT1 : Tryd.prog.cellsOf 22 = 1 := by kernel_rfl
theorem cellsMs : Tryd.prog.cellsOf 110 = 1 := by kernel_rfl
set_option maxRecDepth 100000 in
theorem open_mem {n : Nat} {cs : List Value} {D : DataW H} {pl : List MemPlace} (h : DataW.trod enc Tryd.prog w base spare held n 132 cs = some (D, pl)) :
    ∃ m : ByteArray × ByteArray, cs = memCells m ∧ D = memData m ∧ m.1.size ≤ maxLen := by
  obtain ⟨xs, n', _, hx, hlen, hxs, hf⟩ := DataW.trod_struct Tryd.underlying132 h
  rw [cellsMem] at hlen
  match cs, hlen with
  | [c0, c1], _ =>
    match xs, hxs with
    | [y0, y1], _ =>
      have f0 := hf 0 _ rfl
      have f1 := hf 1 _ rfl
      simp [cellsS1] at f0
      simp [cellsT1] at f1
      obtain ⟨a, e0, r0, l0⟩ := DataW.trod_string Tryd.underlying9 f0
      obtain ⟨b, e1, r1, _⟩ := DataW.trod_string Tryd.underlying22 f1
      simp only [List.cons.injEq, and_true] at e0 e1
      subst e0 e1 r0 r1
      exact ⟨(a, b), rfl, congrArg Prod.fst hx, l0⟩
theorem isMems_of {w : World} {a : Option Addr} {cap : Nat} {L : List (ByteArray × ByteArray)} {B : Nat} (h : IsSl 2 memCells B w a L) : IsMems B w (.slice a L.length cap) L :=
  ⟨a, cap, rfl, fun hn => by
    obtain ⟨b, off, e, hlt, hc⟩ := h hn
    exact ⟨b, off, e, hlt, fun i m hm => ⟨hc i m hm 0 _ rfl, hc i m hm 1 _ rfl⟩⟩⟩
/-- a struct as it comes: its parts, its members' slice, how that reads -/
def srCells (q : Sr × Value × DataW H) : List Value := [.string q.1.name, q.2.1]
def srData (q : Sr × Value × DataW H) : DataW H := .agg [.lit (.string q.1.name.data.toList), q.2.2]
def SrOk (w : World) (q : Sr × Value × DataW H) : Prop := q.1.name.size ≤ maxLen ∧ IsMems w.heap.size w q.2.1 q.1.mems ∧ (∀ m ∈ q.1.mems, m.1.size ≤ maxLen) ∧ (∀ cap n, q.2.1 = .slice none n cap → n = 0 ∧ cap = 0) ∧ ((q.2.2 = .nil ∧ q.1.mems = []) ∨ ∃ rest, q.2.2 = .slice (q.1.mems.map memData) rest)
set_option maxRecDepth 100000 in
theorem open_sr {n : Nat} {cs : List Value} {D : DataW H} {pl : List MemPlace} (h : DataW.trod enc Tryd.prog w base spare held n 112 cs = some (D, pl)) :
    ∃ q : Sr × Value × DataW H, cs = srCells q ∧ D = srData q ∧ SrOk w q := by
  obtain ⟨xs, n', _, hx, hlen, hxs, hf⟩ := DataW.trod_struct Tryd.underlying112 h
  rw [cellsSt] at hlen
  match cs, hlen with
  | [c0, c1], _ =>
    match xs, hxs with
    | [y0, y1], _ =>
      have f0 := hf 0 _ rfl
      have f1 := hf 1 _ rfl
      simp [cellsS1] at f0
      simp [cellsMs] at f1
      obtain ⟨a, e0, r0, l0⟩ := DataW.trod_string Tryd.underlying9 f0
      simp only [List.cons.injEq, and_true] at e0
      subst e0 r0
      obtain ⟨am, cm, L, rfl, _, hl, hn, hd, hs, hok⟩ := open_list (by decide) Tryd.underlying110 cellsMem memCells memData (fun m => m.1.size ≤ maxLen) (fun h => open_mem h) f1
      refine ⟨(⟨a, L⟩, .slice am L.length cm, y1.1), rfl, congrArg Prod.fst hx, l0, isMems_of hs, hok, fun cap n e => ?_, hd⟩
      simp only [Value.slice.injEq] at e
      obtain ⟨e1, e2, e3⟩ := e
      obtain ⟨h1, h2⟩ := hn e1
      exact ⟨by rw [← e2, h1]; rfl, by omega⟩
/-- the whole argument -/
theorem open_srs {fuel : Nat} {v : Value} {x : DataW H × List MemPlace} (h : DataW.trod enc Tryd.prog w base spare held fuel 35 [v] = some x) :
    ∃ (a : Option Addr) (cap : Nat) (Q : List (Sr × Value × DataW H)), v = .slice a Q.length cap ∧ Q.length ≤ cap ∧ cap ≤ maxLen ∧ (a = none → Q = [] ∧ cap = 0) ∧ ((x.1 = .nil ∧ Q = []) ∨ ∃ rest, x.1 = .slice (Q.map srData) rest) ∧ IsSrs w.heap.size w a (Q.map Prod.fst) (Q.map fun q => q.2.1) ∧ ∀ q ∈ Q, SrOk w q := by
  obtain ⟨a, cap, Q, hv, hl, hc, hn, hd, hs, hok⟩ := open_list (by decide) Tryd.underlying35 cellsSt srCells srData (SrOk w) (fun h => open_sr h) h
  refine ⟨a, cap, Q, hv, hl, hc, hn, hd, ⟨by simp, fun hne => ?_, fun y hy => ?_⟩, hok⟩
  · obtain ⟨b, off, e, hlt, hc⟩ := hs (fun e => hne (by rw [e]; rfl))
    refine ⟨b, off, e, hlt, fun i y u hy hu => ?_⟩
    rw [List.getElem?_map, Option.map_eq_some_iff] at hy hu
    obtain ⟨q, hq, rfl⟩ := hy
    obtain ⟨q', hq', rfl⟩ := hu
    obtain rfl := Option.some.inj (hq.symm.trans hq')
    exact ⟨hc i q hq 0 _ rfl, hc i q hq 1 _ rfl, (hok q (List.mem_of_getElem? hq)).2.1⟩
  · obtain ⟨q, hq, rfl⟩ := List.mem_map.1 hy
    exact (hok q hq).1
theorem weightsAll_mem {P : Program} {e : TypeId} {l : List (DataW H)} {d : DataW H} (h : d ∈ l) {n : Nat} (hn : n ∈ d.weights P e) : n ∈ DataW.weightsAll P e l := by
  induction l with
  | nil => cases h
  | cons x r ih =>
    rw [DataW.weightsAll]
    rcases List.mem_cons.1 h with rfl | h
    · exact List.mem_append_left _ hn
    · exact List.mem_append_right _ (ih h)
/-- the bounds on their bytes -/
theorem srs_sized {ts : List TypeId} {ds : List (DataW H)} (hw : (DataW.weightsEach Tryd.prog ts ds).all (· ≤ reachBytes) = true) {j : Nat} {D : DataW H} {Q : List (Sr × Value × DataW H)} (ht : ts[j]? = some 35) (hD : ds[j]? = some D) (hd : (D = .nil ∧ Q = []) ∨ ∃ rest, D = .slice (Q.map srData) rest) (hok : ∀ q ∈ Q, SrOk w q) :
    Q.length * 40 ≤ 140737488351232 ∧ ∀ q ∈ Q, q.1.mems.length * 32 ≤ 140737488351232 := by
  rcases hd with ⟨_, rfl⟩ | ⟨rest, rfl⟩
  · exact ⟨by simp, fun q hq => by cases hq⟩
  have hr : reachBytes = 140737488351232 := rfl
  refine ⟨?_, fun q hq => ?_⟩
  · have := sized_slice hw ht hD Tryd.underlying35
    rw [show Tryd.prog.bytesOf 112 = 40 by kernel_rfl, List.length_map, hr] at this
    omega
  · rcases (hok q hq).2.2.2.2 with ⟨_, h0⟩ | ⟨rm, h0⟩
    · rw [h0]; simp
    · have hm : (q.1.mems.length + rm.length) * 32 ∈ (srData q).weights Tryd.prog 112 := by
        unfold srData
        rw [DataW.weights, Tryd.underlying112]
        simp only [DataW.weightsEach, List.map]
        refine List.mem_append_right _ (List.mem_append_left _ ?_)
        rw [h0, DataW.weights, Tryd.underlying110]
        simp only [List.length_map]
        rw [show Tryd.prog.bytesOf 132 = 32 by kernel_rfl]
        exact List.mem_cons_self
      have h1 : (q.1.mems.length + rm.length) * 32 ∈ (DataW.slice (Q.map srData) rest).weights Tryd.prog 35 := by
        rw [DataW.weights, Tryd.underlying35]
        exact List.mem_cons_of_mem _ (List.mem_append_left _ (weightsAll_mem (List.mem_map_of_mem hq) hm))
      have := List.all_eq_true.1 hw _ (DataW.weights_mem_each ht hD _ h1)
      rw [hr] at this
      have := of_decide_eq_true this
      omega
end
end Go.Proofs.YtlcfejgjeljjdaaDoor
namespace Go.Proofs.YtlcfejgjeljjdaaDoor
open Go.ChangeShapes Go.WideShapes Go.ChangeAt Go.RowKit

theorem laidOut : laidOutB Tryd.prog = true := by kernel_rfl

section
variable {H : Type} {enc : TypeId × Value → H}
theorem all_stays {W W' : World} (hb : Below W.heap.size W W') : ∀ {ts : List TypeId} {vs : List Value} {ds : List (DataW H)} {ps : List MemPlace}, DataW.TrodAll enc Tryd.prog W 0 (fun _ => true) true ts vs ds ps →
    (∀ t ∈ ts, Tryd.prog.readableRec t = true ∧ t < Tryd.prog.types.size) → (∀ x ∈ ps, x.block < W.heap.size) → DataW.TrodAll enc Tryd.prog W' 0 (fun b => decide (b < W.heap.size)) true ts vs ds ps
  | [], vs, ds, ps, h, _, _ => by
    obtain ⟨rfl, rfl, rfl⟩ := trodAll_nil h
    exact trodAll_mk0
  | t :: ts, vs, ds, ps, h, ht, hx => by
    obtain ⟨v0, vs0, d0, ds0, p0, q0, rfl, rfl, rfl, h0, r0⟩ := trodAll_cons h
    have h1 := Below.trod laidOut (ht t (by simp)).1 (ht t (by simp)).2 h0 hb (fun x hxm => hx x (List.mem_append.2 (Or.inl hxm)))
    have h2 := all_stays hb r0 (fun u hu => ht u (by simp [hu])) (fun x hxm => hx x (List.mem_append.2 (Or.inr hxm)))
    exact trodAll_cons_mk h1 h2

/-- the last step of a law that tells 'true' -/
theorem law_post {f : Func} {s : ChangeSpec} {W W' : World} {args : Array Value} {ds : List (DataW H)} {before : List MemPlace}
    (hW : DataW.Whole enc Tryd.prog f.params.toList s.vars false W args.toList ds [] before) (hv : s.vars = []) (hr : f.resultTypes.toList = [4]) (hsz : f.resultTypes.size = 1)
    (hts : ∀ t ∈ f.params.toList, Tryd.prog.readableRec t = true ∧ t < Tryd.prog.types.size)
    (hfn : s.fn H (ds ++ []) = { results := [.lit (.bool true)], args := ds }) (hb : Below W.heap.size W W') : s.post enc Tryd.prog f false true false false W args (.bool true) W' := by
  have hlt : ∀ p ∈ before, p.block < W.heap.size := fun p hp => hW.lt p hp
  have hW0 := hW
  obtain ⟨p, q, hA, hV, rfl, _, _⟩ := hW0
  rw [hv] at hV
  obtain ⟨_, rfl⟩ := trodVars_none hV
  refine ⟨ds, [], p ++ [], [], p, [], hW, ?_, ?_, ?_, World.keptBut_mono (fun x hx => ⟨hx, Or.inr ?_⟩) (hb.frame (· ∈ p ++ [])), fun h => by cases h⟩
  · rw [hfn, hr, hsz]
    exact trodAll_cons_mk (shut_bool Tryd.underlying4 _) trodAll_mk0
  · rw [hfn]
    exact all_stays hb hA hts (fun x hx => hlt x (by simp [hx]))
  · rw [hfn, hv]
    exact rfl
  · exact List.mem_append.1 hx
end

end Go.Proofs.YtlcfejgjeljjdaaDoor
namespace Go.Proofs.YtlcfejgjeljjdaaDoor

/-- a number's low bits, with the sign -/
def sgnI (b : Nat) (n : Int) : Int := (n + 2 ^ (b - 1)) % 2 ^ b - 2 ^ (b - 1)
def uText12 : ByteArray := ⟨#[117]⟩
def cText12 : ByteArray := ⟨#[99]⟩
def sText12 : ByteArray := ⟨#[115]⟩
def iText12 : ByteArray := ⟨#[105]⟩
/-- a number as a type has it -/
def asI (n : Int) (t : ByteArray) : Int := if t = uText12 then n % 4294967296 else if t = cText12 then sgnI 8 n else if t = sText12 then sgnI 16 n else sgnI 32 n
theorem sgn8 (n : Int) : sgnI 8 n = (n + 128) % 256 - 128 := rfl
theorem sgn16 (n : Int) : sgnI 16 n = (n + 32768) % 65536 - 32768 := rfl
theorem sgn32 (n : Int) : sgnI 32 n = (n + 2147483648) % 4294967296 - 2147483648 := rfl
theorem asI_range (n : Int) (t : ByteArray) : -2147483648 ≤ asI n t ∧ asI n t < 4294967296 := by
  unfold asI
  split
  · omega
  split
  · rw [sgn8]; omega
  split
  · rw [sgn16]; omega
  · rw [sgn32]; omega
theorem asI_twice (n : Int) (t : ByteArray) : asI (asI n t) t = asI n t := by
  unfold asI
  split
  · omega
  split
  · rw [sgn8, sgn8]; omega
  split
  · rw [sgn16, sgn16]; omega
  · rw [sgn32, sgn32]; omega
/-- two types of numbers meet -/
def promI (t : ByteArray) : ByteArray := if t = uText12 then uText12 else iText12
def commI (x y : ByteArray) : ByteArray := if x = uText12 ∨ y = uText12 then uText12 else iText12
theorem commI_ui (x y : ByteArray) : commI x y = uText12 ∨ commI x y = iText12 := by
  unfold commI
  split
  · exact .inl rfl
  · exact .inr rfl
theorem promI_ui (t : ByteArray) : promI t = uText12 ∨ promI t = iText12 := by
  unfold promI
  split
  · exact .inl rfl
  · exact .inr rfl
/-- the program's product: of words, its lower word -/
def mulW (a b : Int) : Int := (a % 4294967296) * (b % 4294967296) % 4294967296
end Go.Proofs.YtlcfejgjeljjdaaDoor
namespace Go.Proofs.YtlcfejgjeljjdaaDoor

structure Nd where
  kind : Int
  n : Int
  at_ : Int
  int : Int
  text : ByteArray
  type : ByteArray
/-- least and most parts -/
def arityN (k : Int) : Int × Int :=
  if k = 1 ∨ k = 2 ∨ k = 3 ∨ k = 17 ∨ k = 30 ∨ k = 31 ∨ k = 33 then (0, 0)
  else if k = 4 ∨ k = 5 ∨ k = 6 ∨ k = 13 ∨ k = 14 ∨ k = 15 ∨ k = 16 ∨ k = 20 ∨ k = 29 then (1, 1)
  else if k = 7 ∨ k = 8 ∨ k = 10 ∨ k = 12 ∨ k = 24 ∨ k = 25 ∨ k = 27 ∨ k = 28 then (2, 2)
  else if k = 9 then (3, 3)
  else if k = 26 then (4, 4)
  else if k = 11 then (1, 9)
  else if k = 21 then (0, 4096)
  else if k = 22 ∨ k = 32 then (0, 1)
  else if k = 23 then (2, 3)
  else (-1, -1)
/-- a type that may stand in a tree -/
def typedS (s : ByteArray) : Bool := decide (checkS [] s = 0 ∨ checkS [] s = 4)
def objectS (s : ByteArray) : Bool := (tyS s).any objectT
def marksB : List ByteArray := [⟨#[42]⟩, ⟨#[47]⟩, ⟨#[37]⟩, ⟨#[43]⟩, ⟨#[45]⟩, ⟨#[60, 60]⟩, ⟨#[62, 62]⟩, ⟨#[60]⟩, ⟨#[62]⟩, ⟨#[60, 61]⟩, ⟨#[62, 61]⟩, ⟨#[61, 61]⟩, ⟨#[33, 61]⟩, ⟨#[38]⟩, ⟨#[94]⟩, ⟨#[124]⟩, ⟨#[38, 38]⟩, ⟨#[124, 124]⟩]
def marksN (k : Int) : List ByteArray :=
  if k = 4 then [⟨#[45]⟩, ⟨#[126]⟩, ⟨#[33]⟩, ⟨#[38]⟩, ⟨#[42]⟩]
  else if k = 5 ∨ k = 6 then [⟨#[43, 43]⟩, ⟨#[45, 45]⟩]
  else if k = 7 then marksB
  else if k = 8 then [⟨#[61]⟩, ⟨#[42, 61]⟩, ⟨#[47, 61]⟩, ⟨#[37, 61]⟩, ⟨#[43, 61]⟩, ⟨#[45, 61]⟩, ⟨#[60, 60, 61]⟩, ⟨#[62, 62, 61]⟩, ⟨#[38, 61]⟩, ⟨#[94, 61]⟩, ⟨#[124, 61]⟩]
  else []
def noText (s : ByteArray) : Bool := decide (s.size = 0)
def numberN (x : Nd) : Bool := if x.type = ⟨#[117]⟩ then decide (0 ≤ x.int ∧ x.int < 4294967296) else decide (x.type = ⟨#[105]⟩) && decide (-128 ≤ x.int ∧ x.int < 2147483648)
/-- parts and place -/
def sizeOk (x : Nd) : Bool := decide (0 ≤ (arityN x.kind).1 ∧ (arityN x.kind).1 ≤ x.n ∧ x.n ≤ (arityN x.kind).2 ∧ 0 ≤ x.at_ ∧ x.at_ ≤ 65536)
def intOk (x : Nd) : Bool := decide (x.int = 0 ∨ (x.kind = 22 ∧ x.int = 1))
/-- text and type, by kind -/
def bodyOk (x : Nd) : Bool :=
  if x.kind = 2 then decide (x.text.size ≤ 4096) && noText x.type
  else if x.kind = 3 ∨ x.kind = 13 ∨ x.kind = 14 then isNameB x.text && noText x.type
  else if x.kind = 22 then isNameB x.text && (typedS x.type && objectS x.type)
  else if x.kind = 4 ∨ x.kind = 5 ∨ x.kind = 6 ∨ x.kind = 7 ∨ x.kind = 8 then Lib.containsS (marksN x.kind) x.text && noText x.type
  else if x.kind = 15 ∨ x.kind = 17 then noText x.text && typedS x.type
  else noText x.text && noText x.type
/-- a node that is right by itself -/
def wellN (x : Nd) : Bool := sizeOk x && (if x.kind = 1 then numberN x && noText x.text else intOk x && bodyOk x)

/-- of each node where its part begins; st: where the parts begin that wait, the last one first -/
def beginsF : List Nd → Nat → List Nat → Option (List Nat × List Nat)
  | [], _, st => some ([], st)
  | x :: l, i, st =>
    if x.n < 0 ∨ (st.length : Int) < x.n then none
    else
      let a := if 0 < x.n then st.getD (x.n.toNat - 1) 0 else i
      (beginsF l (i + 1) (a :: st.drop x.n.toNat)).map fun r => (a :: r.1, r.2)
def beginsN (t : List Nd) : Option (List Nat) := match beginsF t 0 [] with
  | some (f, [_]) => some f
  | _ => none
/-- the places of n parts, the last of which ends ahead of e -/
def partsE (fr : List Nat) : Nat → Nat → List Nat
  | 0, _ => []
  | n + 1, e => partsE fr n (fr.getD (e - 1) 0) ++ [e - 1]
/-- there are so many parts ahead of e -/
def Back (fr : List Nat) : Nat → Nat → Prop
  | 0, _ => True
  | n + 1, e => 0 < e ∧ fr.getD (e - 1) 0 < e ∧ Back fr n (fr.getD (e - 1) 0)
/-- the parts that wait end ahead of e -/
def Ends (fr : List Nat) : List Nat → Nat → Prop
  | [], _ => True
  | s :: st, e => s < e ∧ fr.getD (e - 1) 0 = s ∧ Ends fr st s
theorem Ends.back {fr : List Nat} : ∀ {st : List Nat} {e n : Nat}, Ends fr st e → n ≤ st.length → Back fr n e
  | _, _, 0, _, _ => trivial
  | [], _, n + 1, _, h => by simp at h
  | s :: st, e, n + 1, ⟨h1, h2, h3⟩, h => ⟨by omega, by omega, by rw [h2]; exact Ends.back h3 (by simpa using h)⟩
theorem getD_app {fr g : List Nat} {k : Nat} (h : k < fr.length) : (fr ++ g).getD k 0 = fr.getD k 0 := by
  rw [List.getD_eq_getElem?_getD, List.getD_eq_getElem?_getD, List.getElem?_append_left h]
theorem Ends.app {fr g : List Nat} : ∀ {st : List Nat} {e : Nat}, e ≤ fr.length → Ends fr st e → Ends (fr ++ g) st e
  | [], _, _, _ => trivial
  | s :: st, e, he, ⟨h1, h2, h3⟩ => ⟨h1, by rw [getD_app (by omega)]; exact h2, Ends.app (by omega) h3⟩
theorem Ends.drop {fr : List Nat} : ∀ {st : List Nat} {e : Nat} (n : Nat), Ends fr st e → 0 < n → n ≤ st.length → Ends fr (st.drop n) (st.getD (n - 1) 0)
  | [], _, n, _, h0, h => by simp at h; omega
  | s :: st, e, n + 1, ⟨h1, h2, h3⟩, _, h => by
    cases n with
    | zero => simpa using h3
    | succ n =>
      have := Ends.drop (n + 1) h3 (by omega) (by simpa using h)
      simpa using this
theorem Ends.lt {fr : List Nat} : ∀ {st : List Nat} {e : Nat} (n : Nat), Ends fr st e → n < st.length → st.getD n 0 < e
  | [], _, n, _, h => by simp at h
  | s :: st, e, 0, ⟨h1, _, _⟩, _ => by simpa using h1
  | s :: st, e, n + 1, ⟨h1, _, h3⟩, h => by
    have := Ends.lt n h3 (by simpa using h)
    simp only [List.getD_cons_succ]
    omega
/-- what is so of each node: its parts are there -/
theorem begins_back : ∀ (l : List Nd) (pre : List Nat) (st : List Nat) {f st' : List Nat}, beginsF l pre.length st = some (f, st') → Ends pre st pre.length →
    f.length = l.length ∧ Ends (pre ++ f) st' (pre.length + l.length) ∧ ∀ (j : Nat) x, l[j]? = some x → 0 ≤ x.n ∧ Back (pre ++ f) x.n.toNat (pre.length + j) ∧ (pre ++ f).getD (pre.length + j) 0 ≤ pre.length + j
  | [], pre, st, f, st', h, he => by
    rw [beginsF] at h
    obtain ⟨rfl, rfl⟩ := Prod.mk.inj (Option.some.inj h)
    exact ⟨rfl, by simpa using he, fun j x hx => by simp at hx⟩
  | x :: l, pre, st, f, st', h, he => by
    rw [beginsF] at h
    split at h
    · cases h
    · rename_i hn
      simp only [Option.map_eq_some_iff] at h
      obtain ⟨⟨g, st2⟩, hg, e⟩ := h
      obtain ⟨rfl, rfl⟩ := Prod.mk.inj e
      simp only at hg ⊢
      generalize ha : (if 0 < x.n then st.getD (x.n.toNat - 1) 0 else pre.length) = a at *
      have hle : x.n.toNat ≤ st.length := by omega
      have ha1 : a ≤ pre.length := by
        rw [← ha]
        split
        · exact Nat.le_of_lt (he.lt _ (by omega))
        · exact Nat.le_refl _
      have he2 : Ends (pre ++ [a]) (a :: st.drop x.n.toNat) (pre ++ [a]).length := by
        refine ⟨by simp; omega, by simp, ?_⟩
        by_cases h0 : 0 < x.n
        · rw [if_pos h0] at ha
          rw [← ha]
          exact (he.drop x.n.toNat (by omega) hle).app (by rw [ha]; exact ha1)
        · rw [if_neg h0] at ha
          have : x.n.toNat = 0 := by omega
          rw [this, ← ha]
          simpa using he.app (Nat.le_refl _)
      have hl1 : (pre ++ [a]).length = pre.length + 1 := by simp
      obtain ⟨h1, h2, h3⟩ := begins_back l (pre ++ [a]) _ (by rw [hl1]; exact hg) he2
      have hap : pre ++ [a] ++ g = pre ++ a :: g := by simp
      rw [hap, hl1] at h2 h3
      refine ⟨by simp [h1], by rw [show pre.length + (x :: l).length = pre.length + 1 + l.length by simp; omega]; exact h2, fun j y hy => ?_⟩
      cases j with
      | zero =>
        obtain rfl := Option.some.inj hy
        refine ⟨by omega, ?_, ?_⟩
        · have := (he.app (g := a :: g) (Nat.le_refl _)).back (n := x.n.toNat) hle
          simpa using this
        · rw [List.getD_eq_getElem?_getD, Nat.add_zero, List.getElem?_append_right (Nat.le_refl _), Nat.sub_self]
          exact ha1
      | succ j =>
        have := h3 j y (by simpa using hy)
        rw [show pre.length + (j + 1) = pre.length + 1 + j by omega]
        exact this
/-- a list of nodes that is well formed, and where its parts begin -/
structure Formed (t : List Nd) (fr : List Nat) : Prop where
  len : fr.length = t.length
  pos : 0 < t.length
  node : ∀ (j : Nat) x, t[j]? = some x → 0 ≤ x.n ∧ Back fr x.n.toNat j ∧ fr.getD j 0 ≤ j
theorem formed_of {t : List Nd} {fr : List Nat} (h : beginsN t = some fr) : Formed t fr := by
  unfold beginsN at h
  split at h
  · rename_i f s hb
    obtain rfl := Option.some.inj h
    obtain ⟨h1, h2, h3⟩ := begins_back t [] [] hb trivial
    refine ⟨h1, ?_, fun j x hx => by simpa using h3 j x hx⟩
    have := h2.1
    simp at this; omega
  · cases h

/-- may a kind be the i-th part of another one? -/
def exprK (k : Int) : Bool := decide (1 ≤ k ∧ k ≤ 17)
def stmtK (k : Int) : Bool := decide (20 ≤ k ∧ k ≤ 32 ∧ k ≠ 22)
def mayN (k : Int) (i : Nat) (q : Int) : Bool :=
  if exprK k = true ∨ k = 20 ∨ k = 32 ∨ k = 22 then exprK q
  else if k = 26 then (if i = 0 then decide (q = 20 ∨ q = 22 ∨ q = 33) else if i = 3 then stmtK q else exprK q || decide (q = 33))
  else if k = 21 then stmtK q || decide (q = 22)
  else if k = 25 then (if i = 0 then stmtK q else exprK q)
  else if k = 23 ∨ k = 24 ∨ k = 27 ∨ k = 28 then (if i = 0 then exprK q else stmtK q)
  else stmtK q
def kindAt (t : List Nd) (k : Nat) : Int := (t[k]?.map Nd.kind).getD 0
def partsAt (t : List Nd) (fr : List Nat) (k : Nat) : List Nat := partsE fr ((t[k]?.map fun x => x.n.toNat).getD 0) k
/-- an open if -/
def openF (t : List Nd) (fr : List Nat) : Nat → Nat → Bool
  | 0, _ => false
  | m + 1, k =>
    let p := partsAt t fr k
    if kindAt t k = 23 then decide (p.length = 2) || openF t fr m (p.getD 2 0)
    else if kindAt t k = 24 ∨ kindAt t k = 26 ∨ kindAt t k = 27 ∨ kindAt t k = 28 ∨ kindAt t k = 29 then openF t fr m (p.getD (p.length - 1) 0)
    else false
def openN (t : List Nd) (fr : List Nat) (k : Nat) : Bool := openF t fr (k + 1) k
def mayAll (t : List Nd) (k : Int) : Nat → List Nat → Bool
  | _, [] => true
  | i, p :: l => mayN k i (kindAt t p) && mayAll t k (i + 1) l
def fitsN (t : List Nd) (fr : List Nat) (k : Nat) : Bool :=
  mayAll t (kindAt t k) 0 (partsAt t fr k) && (decide (kindAt t k ≠ 23) || (decide ((partsAt t fr k).length < 3) || !openN t fr ((partsAt t fr k).getD 1 0)))
/-- how deep; st: how deep the parts are that wait, the last one first -/
def deepF : List Nd → List Nat → List Nat
  | [], st => st
  | x :: l, st => deepF l (((st.take x.n.toNat).foldl max 0 + 1) :: st.drop x.n.toNat)
def deepN (t : List Nd) : Nat := (deepF t []).getD 0 0
/-- what is wrong with a tree -/
def checkN9 (t : List Nd) : Int :=
  if 4096 < t.length then 3
  else if t.all wellN = false then 90
  else match beginsN t with
    | none => 90
    | some fr => if (List.range t.length).all (fitsN t fr) = false then 90 else if 48 < deepN t then 3 else 0
end Go.Proofs.YtlcfejgjeljjdaaDoor
