/- Small lemmas that all walks share; nothing of the program. · The plain words of the language: bytes, words, tables, token · Letters, digits, words, keywords and names, of both texts. · The tables of the language: keywords, marks; what the world · The tokens of a text, plainly: no program here. · The library's own bound on its search, as it stands in the w · Types as trees; their codes; a code is read · What is told of types: shapes, sizes, structs -/
import Derived.WalkKit
import Derived.WalkLawsBesides
import Derived.WalkSpells
import Derived.Lib.Hide
import Derived.Lib.AppendStr
import Derived.Lib.UnsafeStr
import Derived.Lib.BufferRead
import Derived.ChangeSame
import Derived.Lib.ItoaNum
import Derived.Lib.SlicesS
import Derived.Lib.IndexLaws
import Derived.Lib.IndexMore
import Derived.Test.YtbbaooeioogijaaGreatDoorChecked
import Derived.Test.YtbbaooeioogijaaGreatDoorShelf
import Derived.Deep.QuietTactic
import Derived.BigQuiet
import Derived.Lib.Bytes2
namespace Go.Proofs.YtbbaooeioogijaaGreatDoor
open Go.RowKit Go.WideShapes Go.ChangeShapes
theorem Hd {p : Prop} (h : p) : Go.RowKit.Hid p := h
theorem Ht {w w1 w2 : World} (h : Go.RowKit.Hid (Below w.heap.size w w1)) (g : Below w1.heap.size w1 w2) : Go.RowKit.Hid (Below w.heap.size w w2) := h.out.trans (g.mono h.out.size)
theorem take_snoc (s:ByteArray) (k:Nat) (h:k < s.size):s.data.toList.take (k + 1) = s.data.toList.take k ++ [s[k]]:=by
 rw [List.take_succ_eq_append_getElem (by simpa using h)];rfl
theorem cell_one (w:World) (v:Value) (T:TypeId):∀ j u,[v][j]? = some u → (w.alloc (.cells #[v] T)).cell? ((⟨w.heap.size,0,none⟩:Addr).add j) = some u
 | 0,u,h=>by simp at h;subst h;simp [Addr.add]
 | _ + 1,_,h=>by simp at h
theorem lt_of_heap {w:World} {b:Nat} {o:Obj} (h:w.heap[b]? = some o):b < w.heap.size:=by
 rcases Nat.lt_or_ge b w.heap.size with h' | h'
 ·exact h'
 ·simp [Array.getElem?_eq_none h'] at h
theorem addr_add (b j:Nat):((⟨b,0,none⟩:Addr).add j) = ⟨b,j,none⟩:=by unfold Addr.add;split <;> simp_all
theorem own_new (w:World) (T:TypeId) (l:List Value):(w.alloc (.cells l.toArray T)).ownsRow w.heap.size T 1 (.slice (some ⟨w.heap.size,0,none⟩) l.length l.length) l.length l ∨ maxLen < l.length:=by
 rcases Nat.lt_or_ge maxLen l.length with h | h
 ·exact Or.inr h
 ·exact Or.inl ⟨by simp,.inr ⟨w.heap.size,l.length,l.toArray,rfl,Nat.le_refl _,heap_alloc_new w _,Nat.le_refl _,h,by simp,by simp⟩⟩
theorem _root_.Go.World.ownsRow.belowed {W W':World} {B n:Nat} {T:TypeId} {sz:Nat} {v:Value} {xs:List Value} (h:W.ownsRow B T sz v n xs) (hb:Below W.heap.size W W'):W'.ownsRow B T sz v n xs:=
 h.kept (row:=none) ⟨hb.os,hb.tape,hb.output,hb.size,fun k hk _=>hb.block k hk⟩ (by cases v.ownBlock <;> simp)
theorem own_new1 (w:World) (T:TypeId) (v:Value):(w.alloc (.cells #[v] T)).ownsRow w.heap.size T 1 (.slice (some ⟨w.heap.size,0,none⟩) 1 1) 1 [v]:=
 (own_new w T [v]).resolve_right (by simp [maxLen])
theorem _root_.Go.Below.drewN' (w:World) (n:Nat):Below w.heap.size w (w.drewN n):=⟨rfl,rfl,rfl,Nat.le_refl _,fun _ _=>rfl⟩
theorem getD_lt {α:Type} (l:List α) (d:α) {j:Nat} (h:j < l.length):l.getD j d = l[j]:=by simp [List.getD,h]
theorem blw_drewN {B:Nat} {w w':World} (h:Below B w w') (n:Nat):Below B w (w'.drewN n):=⟨h.os,h.tape,h.output,h.size,h.block⟩
end Go.Proofs.YtbbaooeioogijaaGreatDoor
namespace Go.Proofs.YtbbaooeioogijaaGreatDoor
open Go.RowKit
def letB (c:UInt8):Bool:=decide (97 ≤ c.toNat ∧ c.toNat ≤ 122 ∨ 65 ≤ c.toNat ∧ c.toNat ≤ 90 ∨ c.toNat = 95)
def digB (c:UInt8):Bool:=decide (48 ≤ c.toNat ∧ c.toNat ≤ 57)
def wordB (c:UInt8):Bool:=letB c || digB c
def wlen:List UInt8 → Nat
 | []=>0
 | c :: l=>if wordB c = true then wlen l + 1 else 0
theorem wlen_le (l:List UInt8):wlen l ≤ l.length:=by
 induction l with
 | nil=>simp [wlen]
 | cons c l ih=>simp only [wlen];split <;> simp <;> omega
theorem wlen_lt {l:List UInt8}:∀ {k:Nat},k < wlen l → ∃ c,l[k]? = some c ∧ wordB c = true:=by
 induction l with
 | nil=>intro k h;simp [wlen] at h
 | cons c l ih=>
   intro k h
   by_cases hc:wordB c = true
   ·rw [wlen,if_pos hc] at h
    match k,h with
    | 0,_=>exact ⟨c,by simp,hc⟩
    | k + 1,h=>simpa using ih (k:=k) (by omega)
   ·rw [wlen,if_neg hc] at h;omega
theorem wlen_at {l:List UInt8} (h:wlen l < l.length):∃ c,l[wlen l]? = some c ∧ wordB c = false:=by
 induction l with
 | nil=>simp at h
 | cons c l ih=>
   by_cases hc:wordB c = true
   ·rw [wlen,if_pos hc] at h ⊢
    simpa using ih (by simp at h;omega)
   ·rw [wlen,if_neg hc]
    exact ⟨c,by simp,by simpa using hc⟩
def keyT:List ByteArray:=[⟨#[118,111,105,100]⟩,⟨#[99,104,97,114]⟩,⟨#[115,104,111,114,116]⟩,⟨#[105,110,116]⟩,⟨#[117,110,115,105,103,110,101,100]⟩,⟨#[115,116,114,117,99,116]⟩,⟨#[118,111,108,97,116,105,108,101]⟩,⟨#[105,102]⟩,⟨#[101,108,115,101]⟩,⟨#[119,104,105,108,101]⟩,⟨#[100,111]⟩,⟨#[102,111,114]⟩,⟨#[115,119,105,116,99,104]⟩,⟨#[99,97,115,101]⟩,⟨#[100,101,102,97,117,108,116]⟩,⟨#[98,114,101,97,107]⟩,⟨#[99,111,110,116,105,110,117,101]⟩,⟨#[114,101,116,117,114,110]⟩,⟨#[115,105,122,101,111,102]⟩,⟨#[106,109,112,95,98,117,102]⟩]
def isKeyB (s:ByteArray):Bool:=Lib.containsS keyT s
def isNameB (s:ByteArray):Bool:=decide (0 < s.size) && (decide (s.size ≤ 31) && ((s.data.toList.head?.any letB) && (decide (wlen s.data.toList = s.size) && !isKeyB s)))
theorem head_at (s:ByteArray) (h:0 < s.size):s.data.toList.head? = some s[0]:=by
 rw [List.head?_eq_getElem?,List.getElem?_eq_getElem (by simpa using h)];rfl
theorem extract_toList' (s:ByteArray) (k:Nat) (_h:k ≤ s.size):(s.extract 0 k).data.toList = s.data.toList.take k:=by
 simp [ByteArray.data_extract]
theorem extract_all (s:ByteArray):s.extract 0 s.size = s:=by
 rw [ByteArray.ext_iff,ByteArray.data_extract];exact Array.extract_size
theorem toList_eq {a b:ByteArray} (h:a.data.toList = b.data.toList):a = b:=by
 obtain ⟨⟨a⟩⟩:=a;obtain ⟨⟨b⟩⟩:=b;simpa using h
end Go.Proofs.YtbbaooeioogijaaGreatDoor
namespace Go.Proofs.YtbbaooeioogijaaGreatDoor
open Go.RowKit
theorem letB_mk {c:UInt8} {b:Bool} (h:b = true ↔ (97 ≤ c.toNat ∧ c.toNat ≤ 122 ∨ 65 ≤ c.toNat ∧ c.toNat ≤ 90 ∨ c.toNat = 95)):Ending.returned (.bool b) = .returned (.bool (letB c)):=by
 have:b = letB c:=by rw [Bool.eq_iff_iff,h,letB,decide_eq_true_iff]
 rw [this]
theorem digB_mk {c:UInt8} {b:Bool} (h:b = true ↔ (48 ≤ c.toNat ∧ c.toNat ≤ 57)):Ending.returned (.bool b) = .returned (.bool (digB c)):=by
 have:b = digB c:=by rw [Bool.eq_iff_iff,h,digB,decide_eq_true_iff]
 rw [this]
theorem lexDigit_ok (c:UInt8) (w:World) :
 Calls Tryz.prog 129 #[.int .u8 (c.toNat:Int)] w fun e w'=>e = .returned (.bool (digB c)) ∧ w' = w:=by
 go_enter Tryz.func129,Tryz.ntmps129
 go_wp2
 all_goals go_ret
 all_goals exact ⟨digB_mk (by simp;omega),rfl⟩
set_option maxHeartbeats 400000 in
theorem lexLetter_ok (c:UInt8) (w:World) :
 Calls Tryz.prog 108 #[.int .u8 (c.toNat:Int)] w fun e w'=>e = .returned (.bool (letB c)) ∧ w' = w:=by
 go_enter Tryz.func108,Tryz.ntmps108
 go_wp2
 all_goals go_ret
 all_goals refine ⟨letB_mk ?_,rfl⟩
 all_goals (simp;omega)
structure TextAt (w:World) (b:Nat) (cs:Array Value) (T:TypeId) (s:ByteArray) (k:Nat):Prop where
 blk:w.heap[b]? = some (.cells (cs.setIfInBounds 1 (.int .i64 (k:Int))) T (0,0))
 text:cs[0]? = some (.string s)
 two:1 < cs.size
theorem TextAt.c0 {w b cs T s k} (h:TextAt w b cs T s k):w.cell? ⟨b,0,none⟩ = some (.string s):=by
 simp [World.cell?,h.blk,h.text]
theorem TextAt.c1 {w b cs T s k} (h:TextAt w b cs T s k):w.cell? ⟨b,1,none⟩ = some (.int .i64 (k:Int)):=by
 simp [World.cell?,h.blk,h.two]
theorem TextAt.f1 {w b cs T s k} (h:TextAt w b cs T s k) (j:Nat):w.frozen? ⟨b,j,none⟩ = false:=by
 simp [World.frozen?,h.blk]
theorem TextAt.next {w b cs T s k} (h:TextAt w b cs T s k) (m:Nat):TextAt (w.setCell ⟨b,1,none⟩ (.int .i64 (m:Int))) b cs T s m:=by
 refine ⟨?_,h.text,h.two⟩
 simp [World.setCell,Array.getElem?_modify,h.blk,Array.setIfInBounds_setIfInBounds]
theorem TextAt.drew {w b cs T s k n} (h:TextAt w b cs T s k):TextAt (w.drewN n) b cs T s k:=⟨h.blk,h.text,h.two⟩
theorem TextAt.below {w w' b cs T s k} (h:TextAt w b cs T s k) (hb:Below w.heap.size w w'):TextAt w' b cs T s k:=
 ⟨by rw [hb.block b (lt_of_heap h.blk)];exact h.blk,h.text,h.two⟩
theorem grown_set {w w':World} {b:Nat} (h:w.grownBy w' (some b)) (a:Addr) (ha:a.block = b) (v:Value):w.grownBy (w'.setCell a v) (some b):=
 ⟨h.os,h.tape,h.output,by simpa [World.setCell] using h.size,fun k hk hne=>by
   rw [Below.heap_setCell _ _ _ _ (by rw [ha];intro e;exact hne (by rw [e])),h.block k hk hne]⟩
theorem grown_refl (w:World) (r:Option Nat):w.grownBy w r:=⟨rfl,rfl,rfl,Nat.le_refl _,fun _ _ _=>rfl⟩
theorem grown_drewN {w w':World} {r:Option Nat} (h:w.grownBy w' r) (n:Nat):w.grownBy (w'.drewN n) r:=⟨h.os,h.tape,h.output,h.size,h.block⟩
theorem grown_trans {w w' w'':World} {r:Option Nat} (h:w.grownBy w' r) (h':w'.grownBy w'' r):w.grownBy w'' r:=
 ⟨h'.os.trans h.os,h'.tape.trans h.tape,h'.output.trans h.output,Nat.le_trans h.size h'.size,fun k hk hne=>(h'.block k (Nat.lt_of_lt_of_le hk h.size) hne).trans (h.block k hk hne)⟩
theorem grown_below {w w' w'':World} {r:Option Nat} (h:w.grownBy w' r) (h':Below w'.heap.size w' w''):w.grownBy w'' r:=
 grown_trans h ⟨h'.os,h'.tape,h'.output,h'.size,fun k hk _=>h'.block k hk⟩
theorem below_grown {B:Nat} {w w':World} {b:Nat} (h:w.grownBy w' (some b)) (hb:B ≤ b) (hB:B ≤ w.heap.size):Below B w w':=
 ⟨h.os,h.tape,h.output,h.size,fun k hk=>h.block k (Nat.lt_of_lt_of_le hk hB) (by simp;omega)⟩
theorem more_ok (b k:Nat) (cs:Array Value) (T:TypeId) (s:ByteArray) (w:World) (h:TextAt w b cs T s k) :
 Calls Tryz.prog 128 #[.pointer (some ⟨b,0,none⟩)] w fun e w'=>e = .returned (.bool (decide ((k:Int) < s.size))) ∧ ∃ n,w' = w.drewN n:=by
 have c0:=h.c0
 have c1:=h.c1
 clear h
 go_enter Tryz.func128,Tryz.ntmps128
 go_wp2
 go_quiet (fail)
 go_wp2
 go_ret
 exact ⟨by simp,_,rfl⟩
theorem more_is (r:Bool) (b k:Nat) (cs:Array Value) (T:TypeId) (s:ByteArray) (w:World) (h:TextAt w b cs T s k) (hr:decide (k < s.size) = r) :
 Calls Tryz.prog 128 #[.pointer (some ⟨b,0,none⟩)] w fun e w'=>e = .returned (.bool r) ∧ ∃ n,w' = w.drewN n:=
 (more_ok b k cs T s w h).mono fun _ _ ⟨he,hw⟩=>⟨by rw [he,← hr];simp,hw⟩
theorem lexLetter_is (r:Bool) (c:UInt8) (w:World) (h:letB c = r):Calls Tryz.prog 108 #[.int .u8 (c.toNat:Int)] w fun e w'=>e = .returned (.bool r) ∧ w' = w:=by
 subst h;exact lexLetter_ok c w
theorem lexDigit_is (r:Bool) (c:UInt8) (w:World) (h:digB c = r):Calls Tryz.prog 129 #[.int .u8 (c.toNat:Int)] w fun e w'=>e = .returned (.bool r) ∧ w' = w:=by
 subst h;exact lexDigit_ok c w
theorem word_byte {s:ByteArray} {a j:Nat} (h1:a ≤ j) (h2:j < a + wlen (s.data.toList.drop a)):∃ h:j < s.size,wordB s[j] = true:=by
 obtain ⟨c,hc,hw⟩:=wlen_lt (l:=s.data.toList.drop a) (k:=j - a) (by omega)
 rw [List.getElem?_drop,show a + (j - a) = j by omega] at hc
 obtain ⟨h3,h4⟩:=List.getElem?_eq_some_iff.1 hc
 have h5:j < s.size:=by simpa using h3
 refine ⟨h5,?_⟩
 rw [← h4] at hw;exact hw
theorem word_end {s:ByteArray} {a:Nat} (ha:a ≤ s.size):a + wlen (s.data.toList.drop a) ≤ s.size ∧ ∀ h:a + wlen (s.data.toList.drop a) < s.size,wordB s[a + wlen (s.data.toList.drop a)] = false:=by
 have hl:(s.data.toList.drop a).length = s.size - a:=by simp
 have hle:=wlen_le (s.data.toList.drop a)
 refine ⟨by omega,fun h=>?_⟩
 obtain ⟨c,hc,hw⟩:=wlen_at (l:=s.data.toList.drop a) (by omega)
 rw [List.getElem?_drop] at hc
 obtain ⟨h3,h4⟩:=List.getElem?_eq_some_iff.1 hc
 rw [← h4] at hw;exact hw
set_option maxHeartbeats 2000000 in
theorem word_ok (b a:Nat) (cs:Array Value) (T:TypeId) (s:ByteArray) (w:World) (h:TextAt w b cs T s a) (ha:a ≤ s.size) (hs:s.size ≤ 1048576) :
 Calls Tryz.prog 109 #[.pointer (some ⟨b,0,none⟩)] w fun e w'=>
  e = .returned (.string (s.extract a (a + wlen (s.data.toList.drop a)))) ∧ TextAt w' b cs T s (a + wlen (s.data.toList.drop a)) ∧ w.grownBy w' (some b):=by
 have c0:=h.c0
 have c1:=h.c1
 have H:=Hd h
 have HE:=Hd (word_end ha)
 clear h
 obtain ⟨m,em⟩:∃ m,m = a + wlen (s.data.toList.drop a):=⟨_,rfl⟩
 rw [← em]
 have EM:=Hd em
 have ham:a ≤ m:=by omega
 have hms:m ≤ s.size:=by have:=HE.out.1;omega
 clear em
 go_enter Tryz.func109,Tryz.ntmps109
 go_wp2_with fail
 clear c0 c1
 go_loopw [33] (fun _ wr=>∃ j:Nat,a ≤ j ∧ j ≤ m ∧ TextAt wr b cs T s j ∧ w.grownBy wr (some b)) (fun _ wr=>s.size - (intOf ((wr.cell? ⟨b,1,none⟩).getD undef)).toNat)
 case atStart=>exact ⟨a,Nat.le_refl _,ham,H.out,grown_refl _ _⟩
 case round=>
  obtain ⟨j,hj1,hj2,hT,hgr⟩:=hrel
  have c0:=hT.c0
  have c1:=hT.c1
  have f1:=hT.f1 1
  have HT:=Hd hT
  have HG:=Hd hgr
  have C1:=Hd c1
  clear hT hgr
  by_cases hlt:j < m
  ·obtain ⟨hjs,hw⟩:=word_byte (s:=s) hj1 (by have:=EM.out;omega)
   have hM:=Hd (show decide (j < s.size) = true by simpa using hjs)
   rcases hL:letB s[j] with _ | _
   ·have hD:digB s[j] = true:=by simpa [wordB,hL] using hw
    have HL:=Hd hL
    have HD:=Hd hD
    clear hL hD hw
    go_wp2_with fail
    go_quiet ((first | (go_at_call 128;exact Calls.quiet_of (more_is true _ _ _ _ _ _ HT.out.drew hM.out)) | (go_at_call 108;exact Calls.quiet_of_same (lexLetter_is false _ _ HL.out)) | (go_at_call 129;exact Calls.quiet_of_same (lexDigit_is true _ _ HD.out))))
    go_wp2
    go_roundw
    case rel=>exact ⟨j + 1,by omega,by omega,HT.out.drew.next (j + 1),grown_set (grown_drewN HG.out _) _ rfl _⟩
    case measure=>
     have e1:=(HT.out.drew (n:=nq)).next (j + 1) |>.c1
     rw [show ((j + 1:Nat):Int) = (j:Int) + 1 from by omega] at e1
     rw [C1.out,e1]
     simp [intOf];omega
   ·have HL:=Hd hL
    clear hL hw
    go_wp2_with fail
    go_quiet ((first | (go_at_call 128;exact Calls.quiet_of (more_is true _ _ _ _ _ _ HT.out.drew hM.out)) | (go_at_call 108;exact Calls.quiet_of_same (lexLetter_is true _ _ HL.out))))
    go_wp2
    go_roundw
    case rel=>exact ⟨j + 1,by omega,by omega,HT.out.drew.next (j + 1),grown_set (grown_drewN HG.out _) _ rfl _⟩
    case measure=>
     have e1:=(HT.out.drew (n:=nq)).next (j + 1) |>.c1
     rw [show ((j + 1:Nat):Int) = (j:Int) + 1 from by omega] at e1
     rw [C1.out,e1]
     simp [intOf];omega
  ·obtain rfl:j = m:=by omega
   by_cases hjs:j < s.size
   ·have hw:=HE.out.2 (by have:=EM.out;omega)
    have hw':wordB s[j] = false:=by have e:=EM.out;subst e;exact hw
    have hM:=Hd (show decide (j < s.size) = true by simpa using hjs)
    have HL:=Hd (show letB s[j] = false by simp [wordB] at hw';exact hw'.1)
    have HD:=Hd (show digB s[j] = false by simp [wordB] at hw';exact hw'.2)
    clear hw hw'
    go_wp2_with fail
    go_quiet ((first | (go_at_call 128;exact Calls.quiet_of (more_is true _ _ _ _ _ _ HT.out.drew hM.out)) | (go_at_call 108;exact Calls.quiet_of_same (lexLetter_is false _ _ HL.out)) | (go_at_call 129;exact Calls.quiet_of_same (lexDigit_is false _ _ HD.out))))
    go_wp2
    go_quiet (fail)
    go_wp2
    go_ret
    exact ⟨rfl,HT.out.drew.drew,grown_drewN (grown_drewN HG.out _) _⟩
   ·have hM:=Hd (show decide (j < s.size) = false by simpa using hjs)
    go_wp2_with fail
    go_quiet ((go_at_call 128;exact Calls.quiet_of (more_is false _ _ _ _ _ _ HT.out.drew hM.out)))
    go_wp2
    go_quiet (fail)
    go_wp2
    go_ret
    exact ⟨rfl,HT.out.drew.drew,grown_drewN (grown_drewN HG.out _) _⟩
end Go.Proofs.YtbbaooeioogijaaGreatDoor
namespace Go.Proofs.YtbbaooeioogijaaGreatDoor
open Go.RowKit
def KeysAt (w:World):Prop:=∀ j,j < keyT.length → w.cell? ⟨0,0 + j,none⟩ = some (.string (keyT.getD j ByteArray.empty))
theorem KeysAt.below {w w':World} (h:KeysAt w) (hb:Below w.heap.size w w'):KeysAt w':=fun j hj=>by
 have h1:=h j hj
 rw [hb.cell (World.block_lt_of_cell? w _ h1)];exact h1
theorem KeysAt.drew {w:World} (h:KeysAt w):KeysAt w.drew:=h
theorem KeysAt.drewN {w:World} (h:KeysAt w) (n:Nat):KeysAt (w.drewN n):=h
theorem lexIsKey_ok (s:ByteArray) (w:World) (hK:KeysAt w) :
 Calls Tryz.prog 110 #[.string s] w fun e w'=>e = .returned (.bool (isKeyB s)) ∧ w' = w:=by
 have HK:=Hd hK
 clear hK
 go_enter Tryz.func110,Tryz.ntmps110
 go_wp2_with (go_at_call 31;refine (Tryz.slices_Contains_string _ 0 keyT.length _ keyT s _ (Nat.le_refl _) (by decide) HK.out).mono ?_;rintro e w' ⟨rfl,rfl⟩)
 go_ret
 exact ⟨rfl,rfl⟩
set_option maxHeartbeats 1000000 in
theorem lexIsName_ok (s:ByteArray) (w:World) (hK:KeysAt w) (hs:s.size ≤ 1048576) :
 Calls Tryz.prog 80 #[.string s] w fun e w'=>e = .returned (.bool (isNameB s)) ∧ Below w.heap.size w w':=by
 have HK:=Hd hK
 clear hK
 by_cases h0:0 < s.size
 ·by_cases h31:s.size ≤ 31
  ·have t1:s.toList.isEmpty = false:=by
    rw [Lib.toList_data,List.isEmpty_eq_false_iff];intro e;have:s.data.toList.length = 0:=by rw [e];rfl
    rw [Array.length_toList] at this;exact absurd this (by show ¬ s.size = 0;omega)
   rcases hL:letB s[0] with _ | _
   ·have hfin:=Hd (show isNameB s = false by simp [isNameB,head_at s h0,hL])
    have HL:=Hd hL
    clear hL
    go_enter Tryz.func80,Tryz.ntmps80
    go_wp2_with (go_at_call 108;refine (lexLetter_is false _ _ HL.out).mono ?_;rintro e w' ⟨rfl,rfl⟩)
    go_ret
    exact ⟨by rw [hfin.out];rfl,(Below.refl _ _).alloc (Nat.le_refl _) _⟩
   ·have HL:=Hd hL
    clear hL
    have hT:TextAt (w.alloc (.cells #[.string s,.int .i64 0] 172)) w.heap.size #[.string s,.int .i64 0] 172 s 0:=⟨heap_alloc_new w _,rfl,by simp⟩
    have HT:=Hd hT
    clear hT
    go_enter Tryz.func80,Tryz.ntmps80
    go_wp2_with (go_at_call 108;refine (lexLetter_is true _ _ HL.out).mono ?_;rintro e w' ⟨rfl,rfl⟩)
    refine (word_ok w.heap.size 0 _ 172 s _ HT.out (Nat.zero_le _) hs).mono ?_
    rintro e w1 ⟨rfl,hT1,hg1⟩
    clear hT1
    have hb1:=below_grown (B:=w.heap.size) hg1 (Nat.le_refl _) (by simp)
    have hbw:=((Below.refl w.heap.size w).alloc (Nat.le_refl _) _).trans hb1
    have HK1:=Hd (HK.out.below hbw)
    have HB:=Hd hbw
    clear hg1 hb1 hbw
    by_cases hn:wlen s.data.toList = s.size
    ·have hx:s.extract 0 (0 + wlen (s.data.toList.drop 0)) = s:=by rw [List.drop_zero,Nat.zero_add,hn];exact extract_all s
     rw [hx]
     rcases hk:isKeyB s with _ | _
     ·have hfin:=Hd (show isNameB s = true by simp [isNameB,head_at s h0,HL.out,h0,h31,hn,hk])
      have HKy:=Hd hk
      clear hk hx hn
      go_wp2_with (go_at_call 110;refine (lexIsKey_ok s _ HK1.out).mono ?_;rintro e w' ⟨rfl,rfl⟩;rw [HKy.out])
      go_ret
      exact ⟨by rw [hfin.out];rfl,HB.out⟩
     ·have hfin:=Hd (show isNameB s = false by simp [isNameB,hk])
      have HKy:=Hd hk
      clear hk hx hn
      go_wp2_with (go_at_call 110;refine (lexIsKey_ok s _ HK1.out).mono ?_;rintro e w' ⟨rfl,rfl⟩;rw [HKy.out])
      go_ret
      exact ⟨by rw [hfin.out];rfl,HB.out⟩
    ·have hfin:=Hd (show isNameB s = false by simp [isNameB,hn])
     have hne:((s.extract 0 (0 + wlen (s.data.toList.drop 0))).toList == s.toList) = false:=by
      rw [beq_eq_false_iff_ne]
      intro e
      rw [Lib.toList_data,Lib.toList_data] at e
      have:=congrArg List.length e
      have hle:=wlen_le s.data.toList
      have hl:s.data.toList.length = s.size:=by rw [Array.length_toList];rfl
      rw [extract_toList' s _ (by simpa using hle),List.length_take] at this
      simp at this
      omega
     obtain ⟨z,ez⟩:∃ z,z = s.extract 0 (0 + wlen (s.data.toList.drop 0)):=⟨_,rfl⟩
     rw [← ez] at hne ⊢
     clear ez hn
     go_wp2
     go_ret
     exact ⟨by rw [hfin.out];rfl,HB.out⟩
  ·have hfin:=Hd (show isNameB s = false by simp [isNameB,h31])
   have t1:decide ((s.size:Int) ≤ 31) = false:=by simp;omega
   go_enter Tryz.func80,Tryz.ntmps80
   go_wp2_with fail
   all_goals go_ret
   all_goals exact ⟨by rw [hfin.out];rfl,(Below.refl _ _).alloc (Nat.le_refl _) _⟩
 ·have hfin:=Hd (show isNameB s = false by simp [isNameB,h0])
  have t1:s.toList.isEmpty = true:=by
   rw [Lib.toList_data,List.isEmpty_iff]
   apply List.eq_nil_of_length_eq_zero
   rw [Array.length_toList];show s.size = 0;omega
  go_enter Tryz.func80,Tryz.ntmps80
  go_wp2_with fail
  all_goals go_ret
  all_goals exact ⟨by rw [hfin.out];rfl,(Below.refl _ _).alloc (Nat.le_refl _) _⟩
end Go.Proofs.YtbbaooeioogijaaGreatDoor
namespace Go.Proofs.YtbbaooeioogijaaGreatDoor
open Go.RowKit
def sfx (s:ByteArray) (k:Nat):List UInt8:=s.data.toList.drop k
theorem sfx_length (s:ByteArray) (k:Nat):(sfx s k).length = s.size - k:=by simp [sfx]
theorem sfx_drop (s:ByteArray) (k m:Nat):(sfx s k).drop m = sfx s (k + m):=by simp [sfx]
theorem sfx_cons (s:ByteArray) (k:Nat) (h:k < s.size):sfx s k = s[k] :: sfx s (k + 1):=by
 rw [sfx,sfx,List.drop_eq_getElem_cons (by simpa using h)];rfl
theorem sfx_nil (s:ByteArray) (k:Nat) (h:s.size ≤ k):sfx s k = []:=by rw [sfx,List.drop_eq_nil_iff];simpa using h
theorem sfx_extract (s:ByteArray) (k:Nat):(s.extract k s.size).data.toList = sfx s k:=by
 rw [ByteArray.data_extract,Array.toList_extract,List.extract_eq_take_drop,sfx,List.take_of_length_le]
 simp
theorem extract_take (s:ByteArray) (a n:Nat):(s.extract a (a + n)).data.toList = (sfx s a).take n:=by
 rw [ByteArray.data_extract,Array.toList_extract,List.extract_eq_take_drop,sfx,Nat.add_sub_cancel_left]
theorem int_cases {o:Int} (h:-1 ≤ o):o = -1 ∨ ∃ n:Nat,o = n:=by
 by_cases h0:o < 0
 ·left;omega
 ·right;exact ⟨o.toNat,by omega⟩
theorem indexByte_at:∀ {l:List UInt8} {c:UInt8} {n:Nat},l[n]? = some c → (∀ k,k < n → l[k]? ≠ some c) → Lib.indexByte l c = n
 | [],_,_,h,_=>by simp at h
 | x :: l,c,0,h,_=>by
   simp at h
   simp [Lib.indexByte,h]
 | x :: l,c,n + 1,h,hn=>by
   have h0:=hn 0 (by omega)
   simp at h0 h
   have ih:=indexByte_at (l:=l) (c:=c) (n:=n) h (fun k hk=>by have:=hn (k + 1) (by omega);simpa using this)
   unfold Lib.indexByte
   rw [ih]
   have e1:((n:Int) == -1) = false:=by rw [beq_eq_false_iff_ne];omega
   simp [h0,e1]
theorem indexByte_no {l:List UInt8} {c:UInt8} (h:∀ k:Nat,l[k]? ≠ some c):Lib.indexByte l c = -1:=by
 rcases int_cases (Lib.indexByte_ge l c) with e | ⟨n,e⟩
 ·exact e
 ·exact absurd (Lib.indexByte_some e).1 (h n)
end Go.Proofs.YtbbaooeioogijaaGreatDoor
namespace Go.Proofs.YtbbaooeioogijaaGreatDoor
open Go.RowKit
def MaxLenAt (w:World):Prop:=∃ m:Int,w.cell? ⟨1,0,none⟩ = some (.int .i64 m)
theorem MaxLenAt.below {w w':World} (h:MaxLenAt w) (hb:Below w.heap.size w w'):MaxLenAt w':=by
 obtain ⟨m,hm⟩:=h
 exact ⟨m,by rw [hb.cell (World.block_lt_of_cell? w _ hm)];exact hm⟩
theorem MaxLenAt.drewN {w:World} (h:MaxLenAt w) (n:Nat):MaxLenAt (w.drewN n):=h
theorem MaxLenAt.drew {w:World} (h:MaxLenAt w):MaxLenAt w.drew:=h
theorem MaxLenAt.grown {w w':World} {b:Nat} (h:MaxLenAt w) (hg:w.grownBy w' (some b)) (hb:1 < b):MaxLenAt w':=by
 obtain ⟨m,hm⟩:=h
 refine ⟨m,?_⟩
 have hlt:=World.block_lt_of_cell? w _ hm
 unfold World.cell? at hm ⊢
 rw [hg.block _ hlt (by simp;omega)];exact hm
end Go.Proofs.YtbbaooeioogijaaGreatDoor
namespace Go.Proofs.YtbbaooeioogijaaGreatDoor
inductive Ty where
 | base (c:UInt8)
 | ptr (t:Ty)
 | arr (n:Nat) (t:Ty)
 | str (s:List UInt8)
 | fn (ps:List Ty) (r:Ty)
def valT (l:List UInt8):Nat:=l.foldl (fun n c=>10 * n + (c.toNat - 48)) 0
def numT (l:List UInt8):Option Nat:=
 if l = [] ∨ 15 < l.length ∨ (1 < l.length ∧ l.head? = some 48) then none
 else if l.all digB = true ∧ valT l ≤ 1099511627776 then some (valT l) else none
def cutAt (c:UInt8):List UInt8 → Option (List UInt8 × List UInt8)
 | []=>none
 | x :: l=>if x = c then some ([],l) else (cutAt c l).map fun q=>(x :: q.1,q.2)
def isBase (c:UInt8):Bool:=[118,99,115,105,117,106].contains c
def nameL (l:List UInt8):Bool:=isNameB ⟨l.toArray⟩
def behind (c:UInt8):List UInt8 → Option (List UInt8)
 | []=>none
 | x :: l=>if x = c then some l else none
theorem behind_some {c:UInt8} {l r:List UInt8} (h:behind c l = some r):l = c :: r:=by
 match l,h with
 | [],h=>cases h
 | x :: l,h=>
   rw [behind] at h
   split at h
   ·rename_i e;rw [e,Option.some.inj h]
   ·cases h
mutual
def tyF:Nat → List UInt8 → Option (Ty × List UInt8)
 | 0,_=>none
 | _ + 1,[]=>none
 | k + 1,c :: l=>
   if isBase c = true then some (.base c,l)
   else if c = 112 then (tyF k l).map fun q=>(.ptr q.1,q.2)
   else if c = 97 then
    (cutAt 58 l).bind fun q=>(numT q.1).bind fun n=>(tyF k q.2).map fun x=>(.arr n x.1,x.2)
   else if c = 83 then (cutAt 59 l).bind fun q=>if nameL q.1 = true then some (.str q.1,q.2) else none
   else if c = 102 then (behind 40 l).bind fun r=>(parsF k r).bind fun q=>(tyF k q.2).map fun x=>(.fn q.1 x.1,x.2)
   else none
def parsF:Nat → List UInt8 → Option (List Ty × List UInt8)
 | 0,_=>none
 | _ + 1,[]=>none
 | k + 1,c :: r=>if c = 41 then some ([],r) else moreF k (c :: r)
def moreF:Nat → List UInt8 → Option (List Ty × List UInt8)
 | 0,_=>none
 | k + 1,l=>
   (tyF k l).bind fun q=>match q.2 with
   | 41 :: r=>some ([q.1],r)
   | 44 :: r=>(moreF k r).map fun x=>(q.1 :: x.1,x.2)
   | _=>none
end
mutual
def code:Ty → List UInt8
 | .base c=>[c]
 | .ptr t=>112 :: code t
 | .arr n t=>97 :: (Lib.decDigits n ++ 58 :: code t)
 | .str s=>83 :: (s ++ [59])
 | .fn ps r=>102 :: 40 :: (codes ps ++ 41 :: code r)
def codes:List Ty → List UInt8
 | []=>[]
 | t :: l=>code t ++ codes' l
def codes':List Ty → List UInt8
 | []=>[]
 | t :: l=>44 :: (code t ++ codes' l)
end
mutual
def Right:Ty → Prop
 | .base c=>isBase c = true
 | .ptr t=>Right t
 | .arr n t=>n ≤ 1099511627776 ∧ Right t
 | .str s=>nameL s = true
 | .fn ps r=>Rights ps ∧ Right r
def Rights:List Ty → Prop
 | []=>True
 | t :: l=>Right t ∧ Rights l
end
mutual
def deepT:Ty → Nat
 | .base _=>1
 | .ptr t=>deepT t + 1
 | .arr _ t=>deepT t + 1
 | .str _=>1
 | .fn ps r=>max (deepL ps) (deepT r) + 1
def deepL:List Ty → Nat
 | []=>0
 | t :: l=>max (deepT t) (deepL l)
end
theorem cutAt_some {c:UInt8}:∀ {l w r:List UInt8},cutAt c l = some (w,r) → l = w ++ c :: r ∧ c ∉ w
 | [],w,r,h=>by cases h
 | x :: l,w,r,h=>by
   rw [cutAt] at h
   split at h
   ·rename_i e
    simp only [Option.some.injEq,Prod.mk.injEq] at h
    obtain ⟨rfl,rfl⟩:=h
    subst e
    simp
   ·rename_i e
    rw [Option.map_eq_some_iff] at h
    obtain ⟨⟨w',r'⟩,h1,h2⟩:=h
    simp only [Prod.mk.injEq] at h2
    obtain ⟨rfl,rfl⟩:=h2
    obtain ⟨rfl,h3⟩:=cutAt_some h1
    exact ⟨rfl,by simp [h3];exact fun e'=>e e'.symm⟩
theorem cutAt_mk {c:UInt8}:∀ {w r:List UInt8},c ∉ w → cutAt c (w ++ c :: r) = some (w,r)
 | [],r,_=>by simp [cutAt]
 | x :: w,r,h=>by
   rw [List.cons_append,cutAt,if_neg (fun e=>h (by simp [e])),cutAt_mk (fun e=>h (by simp [e]))]
   rfl
theorem cutAt_none {c:UInt8}:∀ {l:List UInt8},cutAt c l = none ↔ c ∉ l
 | []=>by simp [cutAt]
 | x :: l=>by
   rw [cutAt]
   split
   ·rename_i e;simp [e]
   ·rename_i e
    rw [Option.map_eq_none_iff,cutAt_none]
    simp
    exact fun _ e'=>e e'.symm
theorem valT_snoc (l:List UInt8) (c:UInt8):valT (l ++ [c]) = 10 * valT l + (c.toNat - 48):=by simp [valT,List.foldl_append]
theorem digit_ofNat {c:UInt8} (h:digB c = true):UInt8.ofNat (48 + (c.toNat - 48) % 10) = c:=by
 unfold digB at h
 rw [decide_eq_true_iff] at h
 have:48 + (c.toNat - 48) % 10 = c.toNat:=by omega
 rw [this];simp
theorem dec_of:∀ (n:Nat) (l:List UInt8),l.length = n → l ≠ [] → l.all digB = true → (1 < l.length → l.head? ≠ some 48) → Lib.decDigits (valT l) = l
 | 0,l,hn,h0,_,_=>by simp at hn;exact absurd hn h0
 | n + 1,l,hn,h0,hd,h1=>by
   rcases List.eq_nil_or_concat l with rfl | ⟨m,c,rfl⟩
   ·exact absurd rfl h0
   ·rw [List.concat_eq_append] at *
    rw [List.all_append,Bool.and_eq_true] at hd
    obtain ⟨hm,hc⟩:=hd
    have hc':digB c = true:=by simpa using hc
    have hd:=digit_ofNat hc'
    have hb:c.toNat - 48 < 10:=by unfold digB at hc';rw [decide_eq_true_iff] at hc';omega
    rw [valT_snoc]
    by_cases hm0:m = []
    ·subst hm0
     have hv:valT [] = 0:=rfl
     rw [hv,Lib.decDigits,dif_pos (by omega)]
     rw [Nat.mod_eq_of_lt hb] at hd
     simp [hd]
    ·have hl:1 < (m ++ [c]).length:=by
      have:=List.length_pos_iff.2 hm0
      simp;omega
     have hh:=h1 hl
     rw [List.head?_append,List.head?_eq_some_head hm0] at hh
     have ih:=dec_of n m (by simpa using hn) hm0 hm (fun _=>by rw [List.head?_eq_some_head hm0];simpa using hh)
     have hv:valT m ≠ 0:=fun e=>by
      rw [e,Lib.decDigits,dif_pos (by omega)] at ih
      subst ih
      simp at hh
     rw [Lib.decDigits,dif_neg (by omega),show (10 * valT m + (c.toNat - 48)) / 10 = valT m by omega,ih,show (10 * valT m + (c.toNat - 48)) % 10 = (c.toNat - 48) % 10 by omega,hd]
theorem dec_digits (n:Nat):(Lib.decDigits n).all digB = true ∧ valT (Lib.decDigits n) = n ∧ Lib.decDigits n ≠ [] ∧ (1 < (Lib.decDigits n).length → (Lib.decDigits n).head? ≠ some 48) ∧ (0 < n → (Lib.decDigits n).head? ≠ some 48):=by
 induction n using Nat.strongRecOn with
 | ind n ih=>
   have hk:∀ d,d < 10 → (UInt8.ofNat (48 + d)).toNat = 48 + d:=fun d h=>by
    rw [UInt8.toNat_ofNat'];omega
   rw [Lib.decDigits]
   split
   ·rename_i h
    have:=hk n h
    refine ⟨by rw [List.all_cons,digB,this];simp;omega,by show 10 * 0 + ((UInt8.ofNat (48 + n)).toNat - 48) = n;rw [this];omega,by simp,by simp,fun h0=>?_⟩
    simp only [List.head?_cons,ne_eq,Option.some.injEq]
    intro e
    have e':=congrArg UInt8.toNat e
    rw [this] at e'
    simp at e'
    omega
   ·rename_i h
    obtain ⟨h1,h2,h3,h4,h5⟩:=ih (n / 10) (by omega)
    have:=hk (n % 10) (by omega)
    have hh:(Lib.decDigits (n / 10) ++ [UInt8.ofNat (48 + n % 10)]).head? ≠ some 48:=by
     rw [List.head?_append,List.head?_eq_some_head h3]
     have:=h5 (by omega)
     rw [List.head?_eq_some_head h3] at this
     simpa using this
    refine ⟨?_,?_,by simp,fun _=>hh,fun _=>hh⟩
    ·rw [List.all_append,h1,List.all_cons,digB,this];simp;omega
    ·rw [valT_snoc,h2,this];omega
theorem dec_len {n:Nat} (hn:n ≤ 1099511627776):(Lib.decDigits n).length ≤ 15:=by
 have key:∀ (d u:Nat),u < 10 ^ d → 1 ≤ d → (Lib.decDigits u).length ≤ d:=by
  intro d
  induction d with
  | zero=>intro u _ h;omega
  | succ d ih=>
    intro u hu _
    rw [Lib.decDigits]
    split
    ·simp
    ·rename_i h10
     have h1:1 ≤ d:=by
      rcases Nat.eq_zero_or_pos d with rfl | h
      ·simp at hu;omega
      ·exact h
     have:=ih (u / 10) (by rw [Nat.pow_succ] at hu;omega) h1
     simp only [List.length_append,List.length_cons,List.length_nil]
     omega
 exact key 15 n (by omega) (by decide)
theorem numT_some {l:List UInt8} {n:Nat} (h:numT l = some n):l = Lib.decDigits n ∧ n ≤ 1099511627776:=by
 unfold numT at h
 split at h
 ·cases h
 ·rename_i h1
  split at h
  ·rename_i h2
   obtain rfl:=Option.some.inj h
   have h3:l ≠ []:=fun e=>h1 (.inl e)
   exact ⟨(dec_of _ l rfl h3 h2.1 (fun a b=>h1 (.inr (.inr ⟨a,b⟩)))).symm,h2.2⟩
  ·cases h
theorem numT_mk {n:Nat} (hn:n ≤ 1099511627776):numT (Lib.decDigits n) = some n:=by
 obtain ⟨h1,h2,h3,h4,_⟩:=dec_digits n
 have h5:=dec_len hn
 unfold numT
 rw [if_neg (by rintro (h | h | h);exact h3 h;omega;exact h4 h.1 h.2),if_pos ⟨h1,by rw [h2];exact hn⟩,h2]
theorem base_ne {c:UInt8} (h:isBase c = true):c ≠ 41 ∧ c ≠ 44 ∧ c ≠ 112 ∧ c ≠ 97 ∧ c ≠ 83 ∧ c ≠ 102 ∧ c ≠ 58 ∧ c ≠ 59:=by
 unfold isBase at h
 rw [List.contains_iff_mem] at h
 simp at h
 rcases h with rfl | rfl | rfl | rfl | rfl | rfl <;> decide
theorem codes_cons (t:Ty) (l:List Ty):codes (t :: l) = code t ++ codes' l:=by rw [codes]
theorem codes'_cons (t:Ty) (l:List Ty):codes' (t :: l) = 44 :: codes (t :: l):=by rw [codes',codes]
theorem tyF_code:∀ k,(∀ l t r,tyF k l = some (t,r) → l = code t ++ r ∧ Right t) ∧ (∀ l ps r,parsF k l = some (ps,r) → l = codes ps ++ 41 :: r ∧ Rights ps) ∧ (∀ l ps r,moreF k l = some (ps,r) → l = codes ps ++ 41 :: r ∧ Rights ps ∧ ps ≠ [])
 | 0=>⟨(fun l t r h=>by rw [tyF] at h;cases h),(fun l t r h=>by rw [parsF] at h;cases h),(fun l t r h=>by rw [moreF] at h;cases h)⟩
 | k + 1=>by
   obtain ⟨i1,i2,i3⟩:=tyF_code k
   refine ⟨?_,?_,?_⟩
   ·intro l t r h
    match l,h with
    | [],h=>rw [tyF] at h;cases h
    | c :: l,h=>
      rw [tyF] at h
      split at h
      ·rename_i hb
       obtain ⟨rfl,rfl⟩:=Prod.mk.inj (Option.some.inj h)
       exact ⟨rfl,hb⟩
      ·split at h
       ·rename_i hc
        subst hc
        obtain ⟨⟨t',r'⟩,h1,h2⟩:=Option.map_eq_some_iff.1 h
        obtain ⟨rfl,rfl⟩:=Prod.mk.inj h2
        obtain ⟨rfl,h3⟩:=i1 _ _ _ h1
        exact ⟨rfl,h3⟩
       ·split at h
        ·rename_i hc
         subst hc
         obtain ⟨⟨w,q⟩,h1,h2⟩:=Option.bind_eq_some_iff.1 h
         obtain ⟨n,h3,h4⟩:=Option.bind_eq_some_iff.1 h2
         obtain ⟨⟨t',r'⟩,h5,h6⟩:=Option.map_eq_some_iff.1 h4
         obtain ⟨rfl,rfl⟩:=Prod.mk.inj h6
         obtain ⟨rfl,_⟩:=cutAt_some h1
         obtain ⟨rfl,h7⟩:=numT_some h3
         obtain ⟨rfl,h8⟩:=i1 _ _ _ h5
         exact ⟨by simp [code],h7,h8⟩
        ·split at h
         ·rename_i hc
          subst hc
          obtain ⟨⟨w,q⟩,h1,h2⟩:=Option.bind_eq_some_iff.1 h
          split at h2
          ·rename_i hn
           obtain ⟨rfl,rfl⟩:=Prod.mk.inj (Option.some.inj h2)
           obtain ⟨rfl,_⟩:=cutAt_some h1
           exact ⟨by simp [code],hn⟩
          ·cases h2
         ·split at h
          ·rename_i hc
           subst hc
           obtain ⟨q,h0,hq⟩:=Option.bind_eq_some_iff.1 h
           obtain rfl:=behind_some h0
           obtain ⟨⟨ps,x⟩,h1,h2⟩:=Option.bind_eq_some_iff.1 hq
           obtain ⟨⟨t',r'⟩,h3,h4⟩:=Option.map_eq_some_iff.1 h2
           obtain ⟨rfl,rfl⟩:=Prod.mk.inj h4
           obtain ⟨rfl,h5⟩:=i2 _ _ _ h1
           obtain ⟨h6,h7⟩:=i1 _ _ _ h3
           simp only at h6
           subst h6
           exact ⟨by simp [code],h5,h7⟩
          ·cases h
   ·intro l ps r h
    match l,h with
    | [],h=>rw [parsF] at h;cases h
    | c :: l,h=>
      rw [parsF] at h
      split at h
      ·rename_i hc
       obtain ⟨rfl,rfl⟩:=Prod.mk.inj (Option.some.inj h)
       subst hc
       exact ⟨by simp [codes],trivial⟩
      ·obtain ⟨h1,h2,_⟩:=i3 _ _ _ h
       exact ⟨h1,h2⟩
   ·intro l ps r h
    rw [moreF] at h
    obtain ⟨⟨t,q⟩,h1,h2⟩:=Option.bind_eq_some_iff.1 h
    obtain ⟨rfl,h3⟩:=i1 _ _ _ h1
    simp only at h2
    split at h2
    ·obtain ⟨rfl,rfl⟩:=Prod.mk.inj (Option.some.inj h2)
     exact ⟨by simp [codes,codes'],⟨h3,trivial⟩,by simp⟩
    ·obtain ⟨⟨ps',r'⟩,h4,h5⟩:=Option.map_eq_some_iff.1 h2
     obtain ⟨rfl,rfl⟩:=Prod.mk.inj h5
     obtain ⟨rfl,h6,h7⟩:=i3 _ _ _ h4
     obtain ⟨t',l',rfl⟩:=List.exists_cons_of_ne_nil h7
     refine ⟨?_,⟨h3,h6⟩,by simp⟩
     rw [codes_cons t,codes'_cons];simp
    ·cases h2
theorem code_head (t:Ty) (h:Right t):∃ c l,code t = c :: l ∧ c ≠ 41 ∧ c ≠ 44:=by
 cases t with
 | base c=>exact ⟨c,[],rfl,(base_ne h).1,(base_ne h).2.1⟩
 | ptr t=>exact ⟨_,_,rfl,by decide,by decide⟩
 | arr n t=>exact ⟨_,_,rfl,by decide,by decide⟩
 | str s=>exact ⟨_,_,rfl,by decide,by decide⟩
 | fn ps r=>exact ⟨_,_,rfl,by decide,by decide⟩
theorem name_no {s:List UInt8} (h:nameL s = true):59 ∉ s ∧ 58 ∉ s ∧ s.length ≤ 31 ∧ s ≠ []:=by
 unfold nameL isNameB at h
 simp only [Bool.and_eq_true,decide_eq_true_iff] at h
 obtain ⟨h0,h1,h2,h3,_⟩:=h
 have e:ByteArray.size ⟨s.toArray⟩ = s.length:=by simp [ByteArray.size]
 have e2:(⟨s.toArray⟩:ByteArray).data.toList = s:=by simp
 rw [e] at h0 h1
 replace h3:wlen s = s.length:=h3
 have key:∀ c ∈ s,wordB c = true:=fun c hc=>by
  obtain ⟨k,hk,rfl⟩:=List.getElem_of_mem hc
  obtain ⟨c',h4,h5⟩:=wlen_lt (l:=s) (k:=k) (by omega)
  rw [List.getElem?_eq_getElem hk] at h4
  obtain rfl:=Option.some.inj h4
  exact h5
 exact ⟨fun hm=>absurd (key _ hm) (by decide),fun hm=>absurd (key _ hm) (by decide),h1,by rintro rfl;simp at h0⟩
mutual
theorem code_tyF:∀ (t:Ty),Right t → ∀ k r,(code t).length < k → tyF k (code t ++ r) = some (t,r)
 | .base c,h,k + 1,r,_=>by
   rw [code,List.cons_append,tyF,if_pos (show isBase c = true from h)];rfl
 | .ptr t,h,k + 1,r,hk=>by
   rw [code] at hk ⊢
   rw [List.cons_append,tyF,if_neg (by decide),if_pos rfl,code_tyF t h k r (by simpa using hk)];rfl
 | .arr n t,h,k + 1,r,hk=>by
   rw [code] at hk ⊢
   have hc:(58:UInt8) ∉ Lib.decDigits n:=fun hm=>by
    have:=List.all_eq_true.1 (dec_digits n).1 _ hm
    exact absurd this (by decide)
   rw [List.cons_append,tyF,if_neg (by decide),if_neg (by decide),if_pos rfl,List.append_assoc,List.cons_append,cutAt_mk hc]
   simp only [Option.bind_some,numT_mk h.1]
   rw [code_tyF t h.2 k r (by simp at hk;omega)];rfl
 | .str s,h,k + 1,r,hk=>by
   rw [code,List.cons_append,tyF,if_neg (by decide),if_neg (by decide),if_neg (by decide),if_pos rfl,List.append_assoc,List.singleton_append,cutAt_mk (name_no h).1]
   simp only [Option.bind_some]
   rw [if_pos (show nameL s = true from h)]
 | .fn ps x,h,k + 1,r,hk=>by
   rw [code] at hk ⊢
   simp only [List.length_cons,List.length_append] at hk
   rw [List.cons_append,tyF,if_neg (by decide),if_neg (by decide),if_neg (by decide),if_neg (by decide),if_pos rfl]
   simp only [List.cons_append,List.append_assoc,behind,if_true,Option.bind_some]
   rw [code_parsF ps h.1 k _ (by omega)]
   simp only [Option.bind_some]
   rw [code_tyF x h.2 k r (by omega)];rfl
theorem code_parsF:∀ (ps:List Ty),Rights ps → ∀ k r,(codes ps).length + 2 < k → parsF k (codes ps ++ 41 :: r) = some (ps,r)
 | [],_,k + 1,r,_=>by
   simp [codes,parsF]
 | t :: l,h,k + 2,r,hk=>by
   obtain ⟨c,q,hc,h1,_⟩:=code_head t h.1
   have hm:=code_moreF t l h.1 h.2 (k + 1) r (by omega)
   rw [codes_cons] at hm ⊢
   rw [hc] at hm ⊢
   rw [List.cons_append,List.cons_append,parsF,if_neg h1]
   exact hm
theorem code_moreF:∀ (t:Ty) (l:List Ty),Right t → Rights l → ∀ k r,(codes (t :: l)).length + 1 < k → moreF k (codes (t :: l) ++ 41 :: r) = some (t :: l,r)
 | t,[],ht,hl,k + 1,r,hk=>by
   rw [codes_cons,codes',List.append_nil] at *
   rw [moreF,code_tyF t ht k _ (by omega)];rfl
 | t,t' :: l,ht,hl,k + 1,r,hk=>by
   rw [codes_cons,codes'_cons] at *
   simp only [List.length_append,List.length_cons] at hk
   rw [moreF,List.append_assoc,code_tyF t ht k _ (by omega)]
   simp only [Option.bind_some,List.cons_append]
   rw [code_moreF t' l hl.1 hl.2 k r (by omega)];rfl
end
def tyE (l:List UInt8):Option Ty:=(tyF (2 * l.length + 1) l).bind fun q=>if q.2 = [] then some q.1 else none
theorem tyE_some {l:List UInt8} {t:Ty}:tyE l = some t ↔ l = code t ∧ Right t:=by
 unfold tyE
 constructor
 ·intro h
  obtain ⟨⟨t',r⟩,h1,h2⟩:=Option.bind_eq_some_iff.1 h
  split at h2
  ·rename_i e
   simp only at e
   subst e
   obtain rfl:=Option.some.inj h2
   have:=(tyF_code _).1 _ _ _ h1
   simpa using this
  ·cases h2
 ·rintro ⟨rfl,h⟩
  have:=code_tyF t h (2 * (code t).length + 1) [] (by omega)
  rw [List.append_nil] at this
  rw [this];rfl
end Go.Proofs.YtbbaooeioogijaaGreatDoor
namespace Go.Proofs.YtbbaooeioogijaaGreatDoor
def isIntT:Ty → Bool
 | .base c=>decide (c = 99 ∨ c = 115 ∨ c = 105 ∨ c = 117)
 | _=>false
def isPtrT:Ty → Bool
 | .ptr _=>true
 | _=>false
def isScalarT (t:Ty):Bool:=isIntT t || isPtrT t
def isFnT:Ty → Bool
 | .fn _ _=>true
 | _=>false
def isVoidT:Ty → Bool
 | .base c=>decide (c = 118)
 | _=>false
def objectT (t:Ty):Bool:=!isVoidT t && !isFnT t
mutual
def shapeT:Ty → Bool
 | .base _=>true
 | .ptr t=>shapeT t
 | .arr n t=>decide (1 ≤ n ∧ n ≤ 65536) && (objectT t && shapeT t)
 | .str _=>true
 | .fn ps r=>decide (ps.length ≤ 8) && ((isVoidT r || isScalarT r) && (shapeT r && shapesT ps))
def shapesT:List Ty → Bool
 | []=>true
 | t :: l=>(isScalarT t && shapeT t) && shapesT l
end
structure Sr where
 name:ByteArray
 mems:List (ByteArray × ByteArray)
structure Kn extends Sr where
 size:Nat
 align:Nat
def findK (K:List Kn) (s:List UInt8):Option Nat:=K.findIdx? fun k=>decide (k.name.data.toList = s)
def thereT (K:List Kn):Ty → Bool
 | .arr _ t=>thereT K t
 | .str s=>(findK K s).isSome
 | _=>true
def measT (K:List Kn):Ty → Nat × Nat
 | .base c=>if c = 99 then (1,1) else if c = 115 then (2,2) else if c = 106 then (64,4) else (4,4)
 | .ptr _=>(4,4)
 | .arr n t=>(n * (measT K t).1,(measT K t).2)
 | .str s=>match (findK K s).bind (K[·]?) with
   | some k=>(k.size,k.align)
   | none=>(4,4)
 | .fn _ _=>(4,4)
mutual
def sizedT (K:List Kn):Ty → Bool
 | .base _=>true
 | .ptr t=>sizedT K t
 | .arr n t=>sizedT K t && (!thereT K t || decide (n * (measT K t).1 ≤ 65536))
 | .str _=>true
 | .fn ps r=>sizedT K r && sizedsT K ps
def sizedsT (K:List Kn):List Ty → Bool
 | []=>true
 | t :: l=>sizedT K t && sizedsT K l
end
def tyS (s:ByteArray):Option Ty:=if s.size ≤ 65536 then tyE s.data.toList else none
def checkT (K:List Kn) (t:Ty):Int:=if 48 < deepT t then 3 else if shapeT t = false then 5 else if thereT K t = false then 4 else if sizedT K t = false then 3 else 0
def checkS (K:List Kn) (s:ByteArray):Int:=match tyS s with
 | none=>2
 | some t=>checkT K t
def fitN (at_ a:Nat):Nat:=(at_ + a - 1) / a * a
def memsK (K:List Kn):List (ByteArray × ByteArray) → List ByteArray → Nat → Nat → Int ⊕ (Nat × Nat)
 | [],_,at_,most=>.inr (at_,most)
 | m :: l,seen,at_,most=>
   if isNameB m.1 = false then .inl 2
   else if Lib.containsS seen m.1 = true then .inl 6
   else match tyS m.2 with
    | none=>.inl 2
    | some t=>
      if checkT K t ≠ 0 then .inl (checkT K t)
      else if objectT t = false then .inl 5
      else memsK K l (seen ++ [m.1]) (fitN at_ (measT K t).2 + (measT K t).1) (max most (measT K t).2)
def addK (K:List Kn) (x:Sr):Int ⊕ Kn:=
 if isNameB x.name = false then .inl 2
 else if (findK K x.name.data.toList).isSome = true then .inl 6
 else if 64 < x.mems.length then .inl 3
 else if x.mems = [] then .inl 5
 else match memsK K x.mems [] 0 1 with
  | .inl e=>.inl e
  | .inr (at_,most)=>if 65536 < fitN at_ most then .inl 3 else .inr { x with size:=fitN at_ most,align:=most }
def learnF:List Kn → List Sr → (Nat × Int) ⊕ List Kn
 | K,[]=>.inr K
 | K,x :: l=>match addK K x with
   | .inl e=>.inl (K.length,e)
   | .inr k=>learnF (K ++ [k]) l
def learnK (l:List Sr):(Nat × Int) ⊕ List Kn:=if 64 < l.length then .inl (0,3) else learnF [] l
end Go.Proofs.YtbbaooeioogijaaGreatDoor
