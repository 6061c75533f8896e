/- Small lemmas that all walks share; nothing of the program. -/
import Derived.WalkKit
import Derived.WalkLawsBesides
import Derived.WalkSpells
import Derived.Lib.Hide
import Derived.Lib.AppendStr
import Derived.Lib.UnsafeStr
import Derived.Lib.BufferRead
import Derived.ChangeSame
import Derived.Lib.ItoaNum
import Derived.Lib.SlicesS
import Derived.Lib.IndexLaws
import Derived.Lib.IndexMore
import Derived.Test.YtkokdafkjjcgoaaGreatDoorChecked
import Derived.Test.YtkokdafkjjcgoaaGreatDoorShelf
import Derived.Deep.QuietTactic
import Derived.BigQuiet
namespace Go.Proofs.YtkokdafkjjcgoaaGreatDoor
open Go.RowKit Go.WideShapes Go.ChangeShapes
theorem Hd {p : Prop} (h : p) : Go.RowKit.Hid p := h
theorem Ht {w w1 w2 : World} (h : Go.RowKit.Hid (Below w.heap.size w w1)) (g : Below w1.heap.size w1 w2) : Go.RowKit.Hid (Below w.heap.size w w2) := h.out.trans (g.mono h.out.size)
theorem take_snoc (s:ByteArray) (k:Nat) (h:k < s.size):s.data.toList.take (k + 1) = s.data.toList.take k ++ [s[k]]:=by
 rw [List.take_succ_eq_append_getElem (by simpa using h)];rfl
theorem cell_one (w:World) (v:Value) (T:TypeId):∀ j u,[v][j]? = some u → (w.alloc (.cells #[v] T)).cell? ((⟨w.heap.size,0,none⟩:Addr).add j) = some u
 | 0,u,h=>by simp at h;subst h;simp [Addr.add]
 | _ + 1,_,h=>by simp at h
theorem lt_of_heap {w:World} {b:Nat} {o:Obj} (h:w.heap[b]? = some o):b < w.heap.size:=by
 rcases Nat.lt_or_ge b w.heap.size with h' | h'
 ·exact h'
 ·simp [Array.getElem?_eq_none h'] at h
theorem addr_add (b j:Nat):((⟨b,0,none⟩:Addr).add j) = ⟨b,j,none⟩:=by unfold Addr.add;split <;> simp_all
theorem ret_str {a b:List UInt8} (h:a = b):Ending.returned (.string ⟨a.toArray⟩) = .returned (.string ⟨b.toArray⟩):=by rw [h]
theorem ret_bs {x:ByteArray} {l:List UInt8} (h:x.data.toList = l):Ending.returned (.string x) = .returned (.string ⟨l.toArray⟩):=by
 subst h;rfl
theorem own_new (w:World) (T:TypeId) (l:List Value):(w.alloc (.cells l.toArray T)).ownsRow w.heap.size T 1 (.slice (some ⟨w.heap.size,0,none⟩) l.length l.length) l.length l ∨ maxLen < l.length:=by
 rcases Nat.lt_or_ge maxLen l.length with h | h
 ·exact Or.inr h
 ·exact Or.inl ⟨by simp,.inr ⟨w.heap.size,l.length,l.toArray,rfl,Nat.le_refl _,heap_alloc_new w _,Nat.le_refl _,h,by simp,by simp⟩⟩
theorem _root_.Go.World.ownsRow.belowed {W W':World} {B n:Nat} {T:TypeId} {sz:Nat} {v:Value} {xs:List Value} (h:W.ownsRow B T sz v n xs) (hb:Below W.heap.size W W'):W'.ownsRow B T sz v n xs:=
 h.kept (row:=none) ⟨hb.os,hb.tape,hb.output,hb.size,fun k hk _=>hb.block k hk⟩ (by cases v.ownBlock <;> simp)
theorem own_bytes {W:World} {B n:Nat} {T:TypeId} {v:Value} {xs:List Value} {L:List UInt8} (h:W.ownsRow B T 1 v n xs) (e:xs = Lib.byteCells L):W.ownsRow B T 1 v L.length (Lib.byteCells L):=by
 subst e
 have hl:=h.1
 rw [Lib.byteCells_length] at hl
 obtain rfl:n = L.length:=by omega
 exact h
theorem strCells_mk (l:List UInt8):Lib.strCells ⟨l.toArray⟩ = Lib.byteCells l:=by simp [Lib.strCells,Lib.byteCells]
theorem size_mk (l:List UInt8):ByteArray.size ⟨l.toArray⟩ = l.length:=by simp [ByteArray.size]
theorem byteCells_append (l m:List UInt8):Lib.byteCells (l ++ m) = Lib.byteCells l ++ Lib.byteCells m:=by simp [Lib.byteCells]
theorem own_new1 (w:World) (T:TypeId) (v:Value):(w.alloc (.cells #[v] T)).ownsRow w.heap.size T 1 (.slice (some ⟨w.heap.size,0,none⟩) 1 1) 1 [v]:=
 (own_new w T [v]).resolve_right (by simp [maxLen])
theorem _root_.Go.Below.drewN' (w:World) (n:Nat):Below w.heap.size w (w.drewN n):=⟨rfl,rfl,rfl,Nat.le_refl _,fun _ _=>rfl⟩
theorem getD_lt {α:Type} (l:List α) (d:α) {j:Nat} (h:j < l.length):l.getD j d = l[j]:=by simp [List.getD,h]
theorem blw_drewN {B:Nat} {w w':World} (h:Below B w w') (n:Nat):Below B w (w'.drewN n):=⟨h.os,h.tape,h.output,h.size,h.block⟩
end Go.Proofs.YtkokdafkjjcgoaaGreatDoor
namespace Go.Proofs.YtkokdafkjjcgoaaGreatDoor
open Go.RowKit
def letB (c:UInt8):Bool:=decide (97 ≤ c.toNat ∧ c.toNat ≤ 122 ∨ 65 ≤ c.toNat ∧ c.toNat ≤ 90 ∨ c.toNat = 95)
def digB (c:UInt8):Bool:=decide (48 ≤ c.toNat ∧ c.toNat ≤ 57)
def wordB (c:UInt8):Bool:=letB c || digB c
def wlen:List UInt8 → Nat
 | []=>0
 | c :: l=>if wordB c = true then wlen l + 1 else 0
theorem wlen_le (l:List UInt8):wlen l ≤ l.length:=by
 induction l with
 | nil=>simp [wlen]
 | cons c l ih=>simp only [wlen];split <;> simp <;> omega
theorem wlen_lt {l:List UInt8}:∀ {k:Nat},k < wlen l → ∃ c,l[k]? = some c ∧ wordB c = true:=by
 induction l with
 | nil=>intro k h;simp [wlen] at h
 | cons c l ih=>
   intro k h
   by_cases hc:wordB c = true
   ·rw [wlen,if_pos hc] at h
    match k,h with
    | 0,_=>exact ⟨c,by simp,hc⟩
    | k + 1,h=>simpa using ih (k:=k) (by omega)
   ·rw [wlen,if_neg hc] at h;omega
theorem wlen_at {l:List UInt8} (h:wlen l < l.length):∃ c,l[wlen l]? = some c ∧ wordB c = false:=by
 induction l with
 | nil=>simp at h
 | cons c l ih=>
   by_cases hc:wordB c = true
   ·rw [wlen,if_pos hc] at h ⊢
    simpa using ih (by simp at h;omega)
   ·rw [wlen,if_neg hc]
    exact ⟨c,by simp,by simpa using hc⟩
def keyT:List ByteArray:=[⟨#[118,111,105,100]⟩,⟨#[99,104,97,114]⟩,⟨#[115,104,111,114,116]⟩,⟨#[105,110,116]⟩,⟨#[117,110,115,105,103,110,101,100]⟩,⟨#[115,116,114,117,99,116]⟩,⟨#[118,111,108,97,116,105,108,101]⟩,⟨#[105,102]⟩,⟨#[101,108,115,101]⟩,⟨#[119,104,105,108,101]⟩,⟨#[100,111]⟩,⟨#[102,111,114]⟩,⟨#[115,119,105,116,99,104]⟩,⟨#[99,97,115,101]⟩,⟨#[100,101,102,97,117,108,116]⟩,⟨#[98,114,101,97,107]⟩,⟨#[99,111,110,116,105,110,117,101]⟩,⟨#[114,101,116,117,114,110]⟩,⟨#[115,105,122,101,111,102]⟩,⟨#[106,109,112,95,98,117,102]⟩]
def markT:List ByteArray:=[⟨#[60,60,61]⟩,⟨#[62,62,61]⟩,⟨#[45,62]⟩,⟨#[43,43]⟩,⟨#[45,45]⟩,⟨#[60,60]⟩,⟨#[62,62]⟩,⟨#[60,61]⟩,⟨#[62,61]⟩,⟨#[61,61]⟩,⟨#[33,61]⟩,⟨#[38,38]⟩,⟨#[124,124]⟩,⟨#[42,61]⟩,⟨#[47,61]⟩,⟨#[37,61]⟩,⟨#[43,61]⟩,⟨#[45,61]⟩,⟨#[38,61]⟩,⟨#[94,61]⟩,⟨#[124,61]⟩,⟨#[123]⟩,⟨#[125]⟩,⟨#[40]⟩,⟨#[41]⟩,⟨#[91]⟩,⟨#[93]⟩,⟨#[59]⟩,⟨#[44]⟩,⟨#[46]⟩,⟨#[38]⟩,⟨#[42]⟩,⟨#[43]⟩,⟨#[45]⟩,⟨#[126]⟩,⟨#[33]⟩,⟨#[47]⟩,⟨#[37]⟩,⟨#[60]⟩,⟨#[62]⟩,⟨#[94]⟩,⟨#[124]⟩,⟨#[63]⟩,⟨#[58]⟩,⟨#[61]⟩]
theorem markT_length:markT.length = 45:=rfl
def isKeyB (s:ByteArray):Bool:=Lib.containsS keyT s
def isNameB (s:ByteArray):Bool:=decide (0 < s.size) && (decide (s.size ≤ 31) && ((s.data.toList.head?.any letB) && (decide (wlen s.data.toList = s.size) && !isKeyB s)))
theorem head_at (s:ByteArray) (h:0 < s.size):s.data.toList.head? = some s[0]:=by
 rw [List.head?_eq_getElem?,List.getElem?_eq_getElem (by simpa using h)];rfl
theorem extract_toList' (s:ByteArray) (k:Nat) (_h:k ≤ s.size):(s.extract 0 k).data.toList = s.data.toList.take k:=by
 simp [ByteArray.data_extract]
theorem extract_all (s:ByteArray):s.extract 0 s.size = s:=by
 rw [ByteArray.ext_iff,ByteArray.data_extract];exact Array.extract_size
theorem toList_eq {a b:ByteArray} (h:a.data.toList = b.data.toList):a = b:=by
 obtain ⟨⟨a⟩⟩:=a;obtain ⟨⟨b⟩⟩:=b;simpa using h
def hexd (n:Nat):UInt8:=if n < 10 then (48 + n).toUInt8 else (87 + n).toUInt8
def speltL (c q:UInt8):List UInt8:=
 if ((c.toNat:Int) == 10) = true then [92,110]
 else if ((c.toNat:Int) == 9) = true then [92,116]
 else if ((c.toNat:Int) == 13) = true then [92,114]
 else if ((c.toNat:Int) == 92) = true ∨ ((c.toNat:Int) == (q.toNat:Int)) = true then [92,c]
 else if (c.toNat:Int) < 32 ∨ (126:Int) < c.toNat then [92,120,hexd (c.toNat / 16),hexd (c.toNat % 16)]
 else [c]
theorem spelt1 {c q:UInt8} (h:((c.toNat:Int) == 10) = true):speltL c q = [92,110]:=by rw [speltL,if_pos h]
theorem spelt2 {c q:UInt8} (h0:((c.toNat:Int) == 10) = false) (h:((c.toNat:Int) == 9) = true):speltL c q = [92,116]:=by rw [speltL,if_neg (by simp [h0]),if_pos h]
theorem spelt3 {c q:UInt8} (h0:((c.toNat:Int) == 10) = false) (h1:((c.toNat:Int) == 9) = false) (h:((c.toNat:Int) == 13) = true):speltL c q = [92,114]:=by
 rw [speltL,if_neg (by simp [h0]),if_neg (by simp [h1]),if_pos h]
theorem spelt4 {c q:UInt8} (h0:((c.toNat:Int) == 10) = false) (h1:((c.toNat:Int) == 9) = false) (h2:((c.toNat:Int) == 13) = false) (h:((c.toNat:Int) == 92) = true ∨ ((c.toNat:Int) == (q.toNat:Int)) = true):speltL c q = [92,c]:=by
 rw [speltL,if_neg (by simp [h0]),if_neg (by simp [h1]),if_neg (by simp [h2]),if_pos h]
theorem spelt5 {c q:UInt8} (h0:((c.toNat:Int) == 10) = false) (h1:((c.toNat:Int) == 9) = false) (h2:((c.toNat:Int) == 13) = false) (h3:((c.toNat:Int) == 92) = false ∧ ((c.toNat:Int) == (q.toNat:Int)) = false) (h:(c.toNat:Int) < 32 ∨ (126:Int) < c.toNat):speltL c q = [92,120,hexd (c.toNat / 16),hexd (c.toNat % 16)]:=by
 rw [speltL,if_neg (by simp [h0]),if_neg (by simp [h1]),if_neg (by simp [h2]),if_neg (by simp [h3]),if_pos h]
theorem spelt6 {c q:UInt8} (h0:((c.toNat:Int) == 10) = false) (h1:((c.toNat:Int) == 9) = false) (h2:((c.toNat:Int) == 13) = false) (h3:((c.toNat:Int) == 92) = false ∧ ((c.toNat:Int) == (q.toNat:Int)) = false) (h:32 ≤ (c.toNat:Int)) (h':(c.toNat:Int) ≤ 126):speltL c q = [c]:=by
 rw [speltL,if_neg (by simp [h0]),if_neg (by simp [h1]),if_neg (by simp [h2]),if_neg (by simp [h3]),if_neg (by omega)]
theorem speltL_bd (c q:UInt8):(speltL c q).length ≤ 4:=by
 unfold speltL;repeat' (split;· simp)
 simp
def midL (l:List UInt8):List UInt8:=l.flatMap fun c=>speltL c 34
def quoteL (l:List UInt8):List UInt8:=34 :: midL l ++ [34]
theorem midL_bd (l:List UInt8):(midL l).length ≤ 4 * l.length:=by
 unfold midL
 induction l with
 | nil=>simp
 | cons c l ih=>simp only [List.flatMap_cons,List.length_append,List.length_cons];have:=speltL_bd c 34;omega
theorem midL_snoc (s:ByteArray) (k:Nat) (h:k < s.size):midL (s.data.toList.take (k + 1)) = midL (s.data.toList.take k) ++ speltL s[k] 34:=by
 rw [take_snoc s k h];simp [midL]
structure Tok where
 kind:Int
 place:Int
 num:Int
 text:ByteArray
def Tok.cells (t:Tok):List Value:=[.int .i64 t.kind,.int .i64 t.place,.int .i64 t.num,.string t.text]
def uText:ByteArray:=⟨#[117]⟩
def goodNum (t:Tok):Bool:=if t.text = uText then decide (0 ≤ t.num ∧ t.num < 4294967296) else decide (t.text = ByteArray.empty) && decide (-128 ≤ t.num ∧ t.num < 2147483648)
def goodB (t:Tok):Bool:=
 if t.kind = 3 then goodNum t
 else if t.num ≠ 0 then false
 else if t.kind = 1 then isNameB t.text
 else if t.kind = 2 then isKeyB t.text
 else if t.kind = 4 then decide (t.text.size ≤ 4096)
 else if t.kind = 5 then Lib.containsS markT t.text
 else false
def charL (c:UInt8):List UInt8:=[39] ++ speltL c 39 ++ [39]
def numL (t:Tok):List UInt8:=if t.num < 0 then charL (UInt8.ofNat (t.num + 256).toNat) else if t.text = uText ∧ t.num < 2147483648 then Lib.itoa t.num ++ [117] else Lib.itoa t.num
def wordL (t:Tok):List UInt8:=if t.kind = 4 then quoteL t.text.data.toList else if t.kind = 3 then numL t else t.text.data.toList
theorem letB_mk {c:UInt8} {b:Bool} (h:b = true ↔ (97 ≤ c.toNat ∧ c.toNat ≤ 122 ∨ 65 ≤ c.toNat ∧ c.toNat ≤ 90 ∨ c.toNat = 95)):Ending.returned (.bool b) = .returned (.bool (letB c)):=by
 have:b = letB c:=by rw [Bool.eq_iff_iff,h,letB,decide_eq_true_iff]
 rw [this]
theorem digB_mk {c:UInt8} {b:Bool} (h:b = true ↔ (48 ≤ c.toNat ∧ c.toNat ≤ 57)):Ending.returned (.bool b) = .returned (.bool (digB c)):=by
 have:b = digB c:=by rw [Bool.eq_iff_iff,h,digB,decide_eq_true_iff]
 rw [this]
theorem lexDigit_ok (c:UInt8) (w:World) :
 Calls Tryz.prog 190 #[.int .u8 (c.toNat:Int)] w fun e w'=>e = .returned (.bool (digB c)) ∧ w' = w:=by
 go_enter Tryz.func190,Tryz.ntmps190
 go_wp2
 all_goals go_ret
 all_goals exact ⟨digB_mk (by simp;omega),rfl⟩
set_option maxHeartbeats 400000 in
theorem lexLetter_ok (c:UInt8) (w:World) :
 Calls Tryz.prog 167 #[.int .u8 (c.toNat:Int)] w fun e w'=>e = .returned (.bool (letB c)) ∧ w' = w:=by
 go_enter Tryz.func167,Tryz.ntmps167
 go_wp2
 all_goals go_ret
 all_goals refine ⟨letB_mk ?_,rfl⟩
 all_goals (simp;omega)
structure TextAt (w:World) (b:Nat) (cs:Array Value) (T:TypeId) (s:ByteArray) (k:Nat):Prop where
 blk:w.heap[b]? = some (.cells (cs.setIfInBounds 1 (.int .i64 (k:Int))) T (0,0))
 text:cs[0]? = some (.string s)
 two:1 < cs.size
theorem TextAt.c0 {w b cs T s k} (h:TextAt w b cs T s k):w.cell? ⟨b,0,none⟩ = some (.string s):=by
 simp [World.cell?,h.blk,h.text]
theorem TextAt.c1 {w b cs T s k} (h:TextAt w b cs T s k):w.cell? ⟨b,1,none⟩ = some (.int .i64 (k:Int)):=by
 simp [World.cell?,h.blk,h.two]
theorem TextAt.f1 {w b cs T s k} (h:TextAt w b cs T s k) (j:Nat):w.frozen? ⟨b,j,none⟩ = false:=by
 simp [World.frozen?,h.blk]
theorem TextAt.next {w b cs T s k} (h:TextAt w b cs T s k) (m:Nat):TextAt (w.setCell ⟨b,1,none⟩ (.int .i64 (m:Int))) b cs T s m:=by
 refine ⟨?_,h.text,h.two⟩
 simp [World.setCell,Array.getElem?_modify,h.blk,Array.setIfInBounds_setIfInBounds]
theorem TextAt.drew {w b cs T s k n} (h:TextAt w b cs T s k):TextAt (w.drewN n) b cs T s k:=⟨h.blk,h.text,h.two⟩
theorem TextAt.below {w w' b cs T s k} (h:TextAt w b cs T s k) (hb:Below w.heap.size w w'):TextAt w' b cs T s k:=
 ⟨by rw [hb.block b (lt_of_heap h.blk)];exact h.blk,h.text,h.two⟩
theorem grown_set {w w':World} {b:Nat} (h:w.grownBy w' (some b)) (a:Addr) (ha:a.block = b) (v:Value):w.grownBy (w'.setCell a v) (some b):=
 ⟨h.os,h.tape,h.output,by simpa [World.setCell] using h.size,fun k hk hne=>by
   rw [Below.heap_setCell _ _ _ _ (by rw [ha];intro e;exact hne (by rw [e])),h.block k hk hne]⟩
theorem grown_refl (w:World) (r:Option Nat):w.grownBy w r:=⟨rfl,rfl,rfl,Nat.le_refl _,fun _ _ _=>rfl⟩
theorem grown_drewN {w w':World} {r:Option Nat} (h:w.grownBy w' r) (n:Nat):w.grownBy (w'.drewN n) r:=⟨h.os,h.tape,h.output,h.size,h.block⟩
theorem grown_trans {w w' w'':World} {r:Option Nat} (h:w.grownBy w' r) (h':w'.grownBy w'' r):w.grownBy w'' r:=
 ⟨h'.os.trans h.os,h'.tape.trans h.tape,h'.output.trans h.output,Nat.le_trans h.size h'.size,fun k hk hne=>(h'.block k (Nat.lt_of_lt_of_le hk h.size) hne).trans (h.block k hk hne)⟩
theorem grown_below {w w' w'':World} {r:Option Nat} (h:w.grownBy w' r) (h':Below w'.heap.size w' w''):w.grownBy w'' r:=
 grown_trans h ⟨h'.os,h'.tape,h'.output,h'.size,fun k hk _=>h'.block k hk⟩
theorem below_grown {B:Nat} {w w':World} {b:Nat} (h:w.grownBy w' (some b)) (hb:B ≤ b) (hB:B ≤ w.heap.size):Below B w w':=
 ⟨h.os,h.tape,h.output,h.size,fun k hk=>h.block k (Nat.lt_of_lt_of_le hk hB) (by simp;omega)⟩
theorem more_ok (b k:Nat) (cs:Array Value) (T:TypeId) (s:ByteArray) (w:World) (h:TextAt w b cs T s k) :
 Calls Tryz.prog 153 #[.pointer (some ⟨b,0,none⟩)] w fun e w'=>e = .returned (.bool (decide ((k:Int) < s.size))) ∧ ∃ n,w' = w.drewN n:=by
 have c0:=h.c0
 have c1:=h.c1
 clear h
 go_enter Tryz.func153,Tryz.ntmps153
 go_wp2
 go_quiet (fail)
 go_wp2
 go_ret
 exact ⟨by simp,_,rfl⟩
theorem more_is (r:Bool) (b k:Nat) (cs:Array Value) (T:TypeId) (s:ByteArray) (w:World) (h:TextAt w b cs T s k) (hr:decide (k < s.size) = r) :
 Calls Tryz.prog 153 #[.pointer (some ⟨b,0,none⟩)] w fun e w'=>e = .returned (.bool r) ∧ ∃ n,w' = w.drewN n:=
 (more_ok b k cs T s w h).mono fun _ _ ⟨he,hw⟩=>⟨by rw [he,← hr];simp,hw⟩
theorem lexLetter_is (r:Bool) (c:UInt8) (w:World) (h:letB c = r):Calls Tryz.prog 167 #[.int .u8 (c.toNat:Int)] w fun e w'=>e = .returned (.bool r) ∧ w' = w:=by
 subst h;exact lexLetter_ok c w
theorem lexDigit_is (r:Bool) (c:UInt8) (w:World) (h:digB c = r):Calls Tryz.prog 190 #[.int .u8 (c.toNat:Int)] w fun e w'=>e = .returned (.bool r) ∧ w' = w:=by
 subst h;exact lexDigit_ok c w
theorem word_byte {s:ByteArray} {a j:Nat} (h1:a ≤ j) (h2:j < a + wlen (s.data.toList.drop a)):∃ h:j < s.size,wordB s[j] = true:=by
 obtain ⟨c,hc,hw⟩:=wlen_lt (l:=s.data.toList.drop a) (k:=j - a) (by omega)
 rw [List.getElem?_drop,show a + (j - a) = j by omega] at hc
 obtain ⟨h3,h4⟩:=List.getElem?_eq_some_iff.1 hc
 have h5:j < s.size:=by simpa using h3
 refine ⟨h5,?_⟩
 rw [← h4] at hw;exact hw
theorem word_end {s:ByteArray} {a:Nat} (ha:a ≤ s.size):a + wlen (s.data.toList.drop a) ≤ s.size ∧ ∀ h:a + wlen (s.data.toList.drop a) < s.size,wordB s[a + wlen (s.data.toList.drop a)] = false:=by
 have hl:(s.data.toList.drop a).length = s.size - a:=by simp
 have hle:=wlen_le (s.data.toList.drop a)
 refine ⟨by omega,fun h=>?_⟩
 obtain ⟨c,hc,hw⟩:=wlen_at (l:=s.data.toList.drop a) (by omega)
 rw [List.getElem?_drop] at hc
 obtain ⟨h3,h4⟩:=List.getElem?_eq_some_iff.1 hc
 rw [← h4] at hw;exact hw
set_option maxHeartbeats 2000000 in
theorem word_ok (b a:Nat) (cs:Array Value) (T:TypeId) (s:ByteArray) (w:World) (h:TextAt w b cs T s a) (ha:a ≤ s.size) (hs:s.size ≤ 1048576) :
 Calls Tryz.prog 168 #[.pointer (some ⟨b,0,none⟩)] w fun e w'=>
  e = .returned (.string (s.extract a (a + wlen (s.data.toList.drop a)))) ∧ TextAt w' b cs T s (a + wlen (s.data.toList.drop a)) ∧ w.grownBy w' (some b):=by
 have c0:=h.c0
 have c1:=h.c1
 have H:=Hd h
 have HE:=Hd (word_end ha)
 clear h
 obtain ⟨m,em⟩:∃ m,m = a + wlen (s.data.toList.drop a):=⟨_,rfl⟩
 rw [← em]
 have EM:=Hd em
 have ham:a ≤ m:=by omega
 have hms:m ≤ s.size:=by have:=HE.out.1;omega
 clear em
 go_enter Tryz.func168,Tryz.ntmps168
 go_wp2_with fail
 clear c0 c1
 go_loopw [33] (fun _ wr=>∃ j:Nat,a ≤ j ∧ j ≤ m ∧ TextAt wr b cs T s j ∧ w.grownBy wr (some b)) (fun _ wr=>s.size - (intOf ((wr.cell? ⟨b,1,none⟩).getD undef)).toNat)
 case atStart=>exact ⟨a,Nat.le_refl _,ham,H.out,grown_refl _ _⟩
 case round=>
  obtain ⟨j,hj1,hj2,hT,hgr⟩:=hrel
  have c0:=hT.c0
  have c1:=hT.c1
  have f1:=hT.f1 1
  have HT:=Hd hT
  have HG:=Hd hgr
  have C1:=Hd c1
  clear hT hgr
  by_cases hlt:j < m
  ·obtain ⟨hjs,hw⟩:=word_byte (s:=s) hj1 (by have:=EM.out;omega)
   have hM:=Hd (show decide (j < s.size) = true by simpa using hjs)
   rcases hL:letB s[j] with _ | _
   ·have hD:digB s[j] = true:=by simpa [wordB,hL] using hw
    have HL:=Hd hL
    have HD:=Hd hD
    clear hL hD hw
    go_wp2_with fail
    go_quiet ((first | (go_at_call 153;exact Calls.quiet_of (more_is true _ _ _ _ _ _ HT.out.drew hM.out)) | (go_at_call 167;exact Calls.quiet_of_same (lexLetter_is false _ _ HL.out)) | (go_at_call 190;exact Calls.quiet_of_same (lexDigit_is true _ _ HD.out))))
    go_wp2
    go_roundw
    case rel=>exact ⟨j + 1,by omega,by omega,HT.out.drew.next (j + 1),grown_set (grown_drewN HG.out _) _ rfl _⟩
    case measure=>
     have e1:=(HT.out.drew (n:=nq)).next (j + 1) |>.c1
     rw [show ((j + 1:Nat):Int) = (j:Int) + 1 from by omega] at e1
     rw [C1.out,e1]
     simp [intOf];omega
   ·have HL:=Hd hL
    clear hL hw
    go_wp2_with fail
    go_quiet ((first | (go_at_call 153;exact Calls.quiet_of (more_is true _ _ _ _ _ _ HT.out.drew hM.out)) | (go_at_call 167;exact Calls.quiet_of_same (lexLetter_is true _ _ HL.out))))
    go_wp2
    go_roundw
    case rel=>exact ⟨j + 1,by omega,by omega,HT.out.drew.next (j + 1),grown_set (grown_drewN HG.out _) _ rfl _⟩
    case measure=>
     have e1:=(HT.out.drew (n:=nq)).next (j + 1) |>.c1
     rw [show ((j + 1:Nat):Int) = (j:Int) + 1 from by omega] at e1
     rw [C1.out,e1]
     simp [intOf];omega
  ·obtain rfl:j = m:=by omega
   by_cases hjs:j < s.size
   ·have hw:=HE.out.2 (by have:=EM.out;omega)
    have hw':wordB s[j] = false:=by have e:=EM.out;subst e;exact hw
    have hM:=Hd (show decide (j < s.size) = true by simpa using hjs)
    have HL:=Hd (show letB s[j] = false by simp [wordB] at hw';exact hw'.1)
    have HD:=Hd (show digB s[j] = false by simp [wordB] at hw';exact hw'.2)
    clear hw hw'
    go_wp2_with fail
    go_quiet ((first | (go_at_call 153;exact Calls.quiet_of (more_is true _ _ _ _ _ _ HT.out.drew hM.out)) | (go_at_call 167;exact Calls.quiet_of_same (lexLetter_is false _ _ HL.out)) | (go_at_call 190;exact Calls.quiet_of_same (lexDigit_is false _ _ HD.out))))
    go_wp2
    go_quiet (fail)
    go_wp2
    go_ret
    exact ⟨rfl,HT.out.drew.drew,grown_drewN (grown_drewN HG.out _) _⟩
   ·have hM:=Hd (show decide (j < s.size) = false by simpa using hjs)
    go_wp2_with fail
    go_quiet ((go_at_call 153;exact Calls.quiet_of (more_is false _ _ _ _ _ _ HT.out.drew hM.out)))
    go_wp2
    go_quiet (fail)
    go_wp2
    go_ret
    exact ⟨rfl,HT.out.drew.drew,grown_drewN (grown_drewN HG.out _) _⟩
def KeysAt (w:World):Prop:=∀ j,j < keyT.length → w.cell? ⟨1,0 + j,none⟩ = some (.string (keyT.getD j ByteArray.empty))
theorem KeysAt.below {w w':World} (h:KeysAt w) (hb:Below w.heap.size w w'):KeysAt w':=fun j hj=>by
 have h1:=h j hj
 rw [hb.cell (World.block_lt_of_cell? w _ h1)];exact h1
theorem KeysAt.drew {w:World} (h:KeysAt w):KeysAt w.drew:=h
theorem KeysAt.drewN {w:World} (h:KeysAt w) (n:Nat):KeysAt (w.drewN n):=h
theorem lexIsKey_ok (s:ByteArray) (w:World) (hK:KeysAt w) :
 Calls Tryz.prog 169 #[.string s] w fun e w'=>e = .returned (.bool (isKeyB s)) ∧ w' = w:=by
 have HK:=Hd hK
 clear hK
 go_enter Tryz.func169,Tryz.ntmps169
 go_wp2_with (go_at_call 174;refine (Tryz.slices_Contains_string _ 0 keyT.length _ keyT s _ (Nat.le_refl _) (by decide) HK.out).mono ?_;rintro e w' ⟨rfl,rfl⟩)
 go_ret
 exact ⟨rfl,rfl⟩
set_option maxHeartbeats 1000000 in
theorem lexIsName_ok (s:ByteArray) (w:World) (hK:KeysAt w) (hs:s.size ≤ 1048576) :
 Calls Tryz.prog 124 #[.string s] w fun e w'=>e = .returned (.bool (isNameB s)) ∧ Below w.heap.size w w':=by
 have HK:=Hd hK
 clear hK
 by_cases h0:0 < s.size
 ·by_cases h31:s.size ≤ 31
  ·have t1:s.toList.isEmpty = false:=by
    rw [Lib.toList_data,List.isEmpty_eq_false_iff];intro e;have:s.data.toList.length = 0:=by rw [e];rfl
    rw [Array.length_toList] at this;exact absurd this (by show ¬ s.size = 0;omega)
   rcases hL:letB s[0] with _ | _
   ·have hfin:=Hd (show isNameB s = false by simp [isNameB,head_at s h0,hL])
    have HL:=Hd hL
    clear hL
    go_enter Tryz.func124,Tryz.ntmps124
    go_wp2_with (go_at_call 167;refine (lexLetter_is false _ _ HL.out).mono ?_;rintro e w' ⟨rfl,rfl⟩)
    go_ret
    exact ⟨by rw [hfin.out];rfl,(Below.refl _ _).alloc (Nat.le_refl _) _⟩
   ·have HL:=Hd hL
    clear hL
    have hT:TextAt (w.alloc (.cells #[.string s,.int .i64 0] 199)) w.heap.size #[.string s,.int .i64 0] 199 s 0:=⟨heap_alloc_new w _,rfl,by simp⟩
    have HT:=Hd hT
    clear hT
    go_enter Tryz.func124,Tryz.ntmps124
    go_wp2_with (go_at_call 167;refine (lexLetter_is true _ _ HL.out).mono ?_;rintro e w' ⟨rfl,rfl⟩)
    refine (word_ok w.heap.size 0 _ 199 s _ HT.out (Nat.zero_le _) hs).mono ?_
    rintro e w1 ⟨rfl,hT1,hg1⟩
    clear hT1
    have hb1:=below_grown (B:=w.heap.size) hg1 (Nat.le_refl _) (by simp)
    have hbw:=((Below.refl w.heap.size w).alloc (Nat.le_refl _) _).trans hb1
    have HK1:=Hd (HK.out.below hbw)
    have HB:=Hd hbw
    clear hg1 hb1 hbw
    by_cases hn:wlen s.data.toList = s.size
    ·have hx:s.extract 0 (0 + wlen (s.data.toList.drop 0)) = s:=by rw [List.drop_zero,Nat.zero_add,hn];exact extract_all s
     rw [hx]
     rcases hk:isKeyB s with _ | _
     ·have hfin:=Hd (show isNameB s = true by simp [isNameB,head_at s h0,HL.out,h0,h31,hn,hk])
      have HKy:=Hd hk
      clear hk hx hn
      go_wp2_with (go_at_call 169;refine (lexIsKey_ok s _ HK1.out).mono ?_;rintro e w' ⟨rfl,rfl⟩;rw [HKy.out])
      go_ret
      exact ⟨by rw [hfin.out];rfl,HB.out⟩
     ·have hfin:=Hd (show isNameB s = false by simp [isNameB,hk])
      have HKy:=Hd hk
      clear hk hx hn
      go_wp2_with (go_at_call 169;refine (lexIsKey_ok s _ HK1.out).mono ?_;rintro e w' ⟨rfl,rfl⟩;rw [HKy.out])
      go_ret
      exact ⟨by rw [hfin.out];rfl,HB.out⟩
    ·have hfin:=Hd (show isNameB s = false by simp [isNameB,hn])
     have hne:((s.extract 0 (0 + wlen (s.data.toList.drop 0))).toList == s.toList) = false:=by
      rw [beq_eq_false_iff_ne]
      intro e
      rw [Lib.toList_data,Lib.toList_data] at e
      have:=congrArg List.length e
      have hle:=wlen_le s.data.toList
      have hl:s.data.toList.length = s.size:=by rw [Array.length_toList];rfl
      rw [extract_toList' s _ (by simpa using hle),List.length_take] at this
      simp at this
      omega
     obtain ⟨z,ez⟩:∃ z,z = s.extract 0 (0 + wlen (s.data.toList.drop 0)):=⟨_,rfl⟩
     rw [← ez] at hne ⊢
     clear ez hn
     go_wp2
     go_ret
     exact ⟨by rw [hfin.out];rfl,HB.out⟩
  ·have hfin:=Hd (show isNameB s = false by simp [isNameB,h31])
   have t1:decide ((s.size:Int) ≤ 31) = false:=by simp;omega
   go_enter Tryz.func124,Tryz.ntmps124
   go_wp2_with fail
   all_goals go_ret
   all_goals exact ⟨by rw [hfin.out];rfl,(Below.refl _ _).alloc (Nat.le_refl _) _⟩
 ·have hfin:=Hd (show isNameB s = false by simp [isNameB,h0])
  have t1:s.toList.isEmpty = true:=by
   rw [Lib.toList_data,List.isEmpty_iff]
   apply List.eq_nil_of_length_eq_zero
   rw [Array.length_toList];show s.size = 0;omega
  go_enter Tryz.func124,Tryz.ntmps124
  go_wp2_with fail
  all_goals go_ret
  all_goals exact ⟨by rw [hfin.out];rfl,(Below.refl _ _).alloc (Nat.le_refl _) _⟩
theorem str_eqb {a b:ByteArray}:(a.toList == b.toList) = decide (a = b):=by
 rw [Bool.eq_iff_iff,beq_iff_eq,decide_eq_true_iff,Lib.toList_data,Lib.toList_data]
 exact ⟨toList_eq,fun h=>by rw [h]⟩
theorem bytes_str (W:World) (b:Nat) (ns:List Int) (k cap:Nat) (hk:k = ns.length) (hc:∀ j v,(ns.map (Value.int .u8))[j]? = some v → W.cell? ⟨b,j,none⟩ = some v) :
 (convert 120 9 (.slice (some ⟨b,0,none⟩) k cap)).run Tryz.prog W = .ok (.string ⟨(ns.map fun n=>UInt8.ofNat n.toNat).toArray⟩) W:=by
 subst hk
 rw [run_convert_bytes_string _ 120 9 5 _ _ _ Tryz.underlying120 Tryz.underlying5 Tryz.underlying9]
 have hl:=run_loadCells_list (P:=Tryz.prog) W ⟨b,0,none⟩ (ns.map (Value.int .u8)) (fun j v hj=>by
  rw [addr_add];exact hc j v hj)
 simp only [List.length_map] at hl
 rw [run_bytesToString _ _ _ _ ns hl]
 have h:∀ (l:List Int) (r:ByteArray),l.foldl (fun r n=>r.push (UInt8.ofNat n.toNat)) r = ⟨r.data ++ (l.map fun n=>UInt8.ofNat n.toNat).toArray⟩:=by
  intro l
  induction l with
  | nil=>intro r;simp
  | cons b l ih=>intro r;rw [List.foldl_cons,ih];simp [ByteArray.push]
 rw [h]
 have he0:ByteArray.empty.data = #[]:=rfl
 rw [he0]
 simp
theorem bytes_new_d (w:World) (ns:List Int) (k:Nat) (hk:k = ns.length):(convert 120 9 (.slice (some ⟨w.heap.size,0,none⟩) k k)).run Tryz.prog (w.alloc (.cells (ns.map (Value.int .u8)).toArray 5)).drew =
 .ok (.string ⟨(ns.map fun n=>UInt8.ofNat n.toNat).toArray⟩) (w.alloc (.cells (ns.map (Value.int .u8)).toArray 5)).drew:=
 bytes_str _ _ ns k k hk (fun j v hj=>by show (w.alloc _).cell? _ = _;rw [World.cell?_alloc_at _ _ _ _ rfl];simpa using hj)
theorem hex_index (n:Nat) (h:n < 16) (w:World):(Instr.index 9 (.string ⟨#[48,49,50,51,52,53,54,55,56,57,97,98,99,100,101,102]⟩) (.int .u8 (n:Int))).run Tryz.prog w = .ok (.int .u8 ((hexd n).toNat:Int)) w:=by
 have key:n = 0 ∨ n = 1 ∨ n = 2 ∨ n = 3 ∨ n = 4 ∨ n = 5 ∨ n = 6 ∨ n = 7 ∨ n = 8 ∨ n = 9 ∨ n = 10 ∨ n = 11 ∨ n = 12 ∨ n = 13 ∨ n = 14 ∨ n = 15:=by omega
 rcases key with rfl | rfl | rfl | rfl | rfl | rfl | rfl | rfl | rfl | rfl | rfl | rfl | rfl | rfl | rfl | rfl <;> (show _ = _;kernel_rfl)
theorem and15 (c:UInt8):bits .and .u8 (c.toNat:Int) 15 = (c.toNat:Int) % 16:=by
 have h:=u8_and_nat c.toNat 15 c.toNat_lt (by decide)
 have e:c.toNat &&& 15 = c.toNat % 16:=Nat.and_two_pow_sub_one_eq_mod c.toNat 4
 rw [e] at h
 exact h
theorem enc_ascii (c:UInt8) (h:c.toNat < 128):Utf8.encode (wrap32 (c.toNat:Int)) = ⟨#[c]⟩:=by
 have e:wrap32 (c.toNat:Int) = c.toNat:=by unfold wrap32;omega
 rw [e]
 have hv:Utf8.valid (c.toNat:Int) = true:=by simp [Utf8.valid];omega
 simp [Utf8.encode,hv,h]
theorem enc_ascii' (c:UInt8) (h:c.toNat < 128):Utf8.encode (c.toNat:Int) = ⟨#[c]⟩:=by
 have e:wrap32 (c.toNat:Int) = c.toNat:=by unfold wrap32;omega
 rw [← e];exact enc_ascii c h
theorem enc_ascii92:Utf8.encode 92 = ⟨#[92]⟩:=rfl
set_option maxRecDepth 100000 in
set_option maxHeartbeats 400000 in
theorem lexSpelt_lo (c q:UInt8) (w:World) (h128:c.toNat < 128) :
 Calls Tryz.prog 140 #[.int .u8 (c.toNat:Int),.int .u8 (q.toNat:Int)] w fun e w'=>e = .returned (.string ⟨(speltL c q).toArray⟩) ∧ Below w.heap.size w w':=by
 have cv2:=fun (w:World) (n m:Int)=>bytes_new_d w [n,m] 2 rfl
 simp only [List.map_cons,List.map_nil] at cv2
 have hx1:∀ w,(Instr.index 9 (.string ⟨#[48,49,50,51,52,53,54,55,56,57,97,98,99,100,101,102]⟩) (.int .u8 ((c.toNat:Int) / 16))).run Tryz.prog w = .ok (.int .u8 ((hexd (c.toNat / 16)).toNat:Int)) w:=hex_index (c.toNat / 16) (by have:=c.toNat_lt;omega)
 have hx2:∀ w,(Instr.index 9 (.string ⟨#[48,49,50,51,52,53,54,55,56,57,97,98,99,100,101,102]⟩) (.int .u8 ((c.toNat:Int) % 16))).run Tryz.prog w = .ok (.int .u8 ((hexd (c.toNat % 16)).toNat:Int)) w:=hex_index (c.toNat % 16) (by have:=c.toNat_lt;omega)
 have h15:=and15 c
 have he:=enc_ascii c h128
 have he92:=enc_ascii92
 have h128':=Hd h128
 clear h128
 go_enter Tryz.func140,Tryz.ntmps140
 go_wp2
 all_goals try go_region
 all_goals try go_wp2
 all_goals go_ret
 all_goals refine ⟨?_,by repeat (first | exact Below.refl _ _ | apply Below.drew | refine Below.alloc ?_ (by simp) _)⟩
 ·exact ret_bs (spelt1 ‹_›).symm
 ·exact ret_bs (spelt2 ‹_› ‹_›).symm
 ·exact ret_bs (spelt3 ‹_› ‹_› ‹_›).symm
 ·have e:c = 92:=by rw [← UInt8.toNat_inj];show c.toNat = 92;omega
  subst e
  exact ret_bs (spelt4 (c:=92) rfl rfl rfl (Or.inl rfl)).symm
 ·exact ret_bs (spelt4 ‹_› ‹_› ‹_› ‹_›).symm
 ·exact ret_bs (spelt5 ‹_› ‹_› ‹_› ‹_› ‹_›).symm
 ·refine ret_bs ?_
  show (Utf8.encode (c.toNat:Int)).data.toList = _
  rw [enc_ascii' c h128'.out]
  exact (spelt6 ‹_› ‹_› ‹_› ‹_› ‹_› (by omega)).symm
 ·exact ret_bs (spelt5 ‹_› ‹_› ‹_› ‹_› (Or.inl ‹_›)).symm
theorem hi_tests {c:UInt8} (h:128 ≤ c.toNat):((c.toNat:Int) == 10) = false ∧ ((c.toNat:Int) == 9) = false ∧ ((c.toNat:Int) == 13) = false ∧ ((c.toNat:Int) == 92) = false:=by
 refine ⟨?_,?_,?_,?_⟩ <;> (rw [beq_eq_false_iff_ne];omega)
set_option maxRecDepth 100000 in
set_option maxHeartbeats 400000 in
theorem lexSpelt_hi (c q:UInt8) (w:World) (h128:128 ≤ c.toNat) (hq:q.toNat < 128) :
 Calls Tryz.prog 140 #[.int .u8 (c.toNat:Int),.int .u8 (q.toNat:Int)] w fun e w'=>e = .returned (.string ⟨(speltL c q).toArray⟩) ∧ Below w.heap.size w w':=by
 have cv2:=fun (w:World) (n m:Int)=>bytes_new_d w [n,m] 2 rfl
 simp only [List.map_cons,List.map_nil] at cv2
 have hx1:∀ w,(Instr.index 9 (.string ⟨#[48,49,50,51,52,53,54,55,56,57,97,98,99,100,101,102]⟩) (.int .u8 ((c.toNat:Int) / 16))).run Tryz.prog w = .ok (.int .u8 ((hexd (c.toNat / 16)).toNat:Int)) w:=hex_index (c.toNat / 16) (by have:=c.toNat_lt;omega)
 have hx2:∀ w,(Instr.index 9 (.string ⟨#[48,49,50,51,52,53,54,55,56,57,97,98,99,100,101,102]⟩) (.int .u8 ((c.toNat:Int) % 16))).run Tryz.prog w = .ok (.int .u8 ((hexd (c.toNat % 16)).toNat:Int)) w:=hex_index (c.toNat % 16) (by have:=c.toNat_lt;omega)
 have h15:=and15 c
 obtain ⟨t1,t2,t3,t4⟩:=hi_tests h128
 have t5:((c.toNat:Int) == (q.toNat:Int)) = false:=by rw [beq_eq_false_iff_ne];omega
 have t6:decide ((126:Int) < (c.toNat:Int)) = true:=by simp;omega
 have hfin:=Hd (spelt5 (q:=q) t1 t2 t3 ⟨t4,t5⟩ (Or.inr (by omega)))
 clear h128 hq
 go_enter Tryz.func140,Tryz.ntmps140
 go_wp2
 all_goals try go_region
 all_goals try go_wp2
 all_goals go_ret
 all_goals refine ⟨?_,by repeat (first | exact Below.refl _ _ | apply Below.drew | refine Below.alloc ?_ (by simp) _)⟩
 all_goals exact ret_str hfin.out.symm
theorem lexSpelt_ok (c q:UInt8) (w:World) (hq:q.toNat < 128) :
 Calls Tryz.prog 140 #[.int .u8 (c.toNat:Int),.int .u8 (q.toNat:Int)] w fun e w'=>e = .returned (.string ⟨(speltL c q).toArray⟩) ∧ Below w.heap.size w w':=by
 rcases Nat.lt_or_ge c.toNat 128 with h | h
 ·exact lexSpelt_lo c q w h
 ·exact lexSpelt_hi c q w h hq
set_option maxHeartbeats 400000 in
theorem lexChar_ok (c:UInt8) (w:World) :
 Calls Tryz.prog 212 #[.int .u8 (c.toNat:Int)] w fun e w'=>e = .returned (.string ⟨([39] ++ speltL c 39 ++ [39]).toArray⟩) ∧ Below w.heap.size w w':=by
 have hbd:=speltL_bd c 39
 go_enter Tryz.func212,Tryz.ntmps212
 go_wp2_with (go_at_call 140;refine (lexSpelt_ok c 39 _ (by decide)).mono ?_;rintro e w' ⟨rfl,hb⟩)
 go_ret
 exact ⟨ret_bs (by simp),hb⟩
end Go.Proofs.YtkokdafkjjcgoaaGreatDoor
