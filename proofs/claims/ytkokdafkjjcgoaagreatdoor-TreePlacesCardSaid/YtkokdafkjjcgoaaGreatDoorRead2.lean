/- The reader of types: a type, by its first letter. -/
import Derived.Test.YtkokdafkjjcgoaaGreatDoorMg11
namespace Go.Proofs.YtkokdafkjjcgoaaGreatDoor
open Go.RowKit
theorem nextG (r:Int) (b k d:Nat) (s:ByteArray) (w:World) (h:RdAt w b s k d) (hr:(byteAt s k:Int) = r) :
 Calls Tryz.prog 215 #[.pointer (some ⟨b,0,none⟩)] w fun e w'=>e = .returned (.int .u8 r) ∧ RdAt w' b s k d ∧ w.grownBy w' (some b):=
 (next_is r b k d s w h hr).mono fun _ _ ⟨he,n,hw⟩=>⟨he,by rw [hw];exact h.drewN n,by rw [hw];exact grown_drewN (grown_refl _ _) _⟩
theorem takeNG (x:Int) (c:UInt8) (b k d:Nat) (s:ByteArray) (w:World) (hx:x = (c.toNat:Int)) (h:RdAt w b s k d) (hc0:c.toNat ≠ 0) (hc:∀ h:k < s.size,s[k] ≠ c) :
 Calls Tryz.prog 183 #[.pointer (some ⟨b,0,none⟩),.int .u8 x] w fun e w'=>e = .returned (.bool false) ∧ RdAt w' b s k d ∧ w.grownBy w' (some b):=
 (takeN x c b k d s w hx h hc0 hc).mono fun _ _ ⟨he,n,hw⟩=>⟨he,by rw [hw];exact h.drewN n,by rw [hw];exact grown_drewN (grown_refl _ _) _⟩
theorem tillYG (y:Int) (c:UInt8) (b k d:Nat) (s:ByteArray) (u r:List UInt8) (w:World) (hy:y = (c.toNat:Int)) (h:RdAt w b s k d) (hk:k ≤ s.size) (hc:cutAt c (sfx s k) = some (u,r)) (hs:s.size ≤ 1048576) :
 Calls Tryz.prog 216 #[.pointer (some ⟨b,0,none⟩),.int .u8 y] w fun e w'=>∃ x:ByteArray,e = .returned (.tuple #[.string x,.bool true]) ∧ x.data.toList = u ∧ RdAt w' b s (k + u.length + 1) d ∧ w.grownBy w' (some b):=by
 subst hy
 exact (till_yes c b k d s u r w h hk hc hs).mono fun _ _ ⟨he,h1,h2⟩=>⟨_,he,by rw [extract_take,(cutAt_some hc).1,List.take_left],h1,h2⟩
theorem tillNG (y:Int) (c:UInt8) (b k d:Nat) (s:ByteArray) (w:World) (hy:y = (c.toNat:Int)) (h:RdAt w b s k d) (hk:k ≤ s.size) (hc:cutAt c (sfx s k) = none) :
 Calls Tryz.prog 216 #[.pointer (some ⟨b,0,none⟩),.int .u8 y] w fun e w'=>e = .returned (.tuple #[.string ⟨#[]⟩,.bool false]) ∧ RdAt w' b s k d ∧ w.grownBy w' (some b):=by
 subst hy
 exact (till_no c b k d s w h hk hc).mono fun _ _ ⟨he,n,hw⟩=>⟨he,by rw [hw];exact h.drewN n,by rw [hw];exact grown_drewN (grown_refl _ _) _⟩
theorem idxB_is (o x:Int) (c:UInt8) (w:World) (hx:x = (c.toNat:Int)) (ho:Lib.indexByte [118,99,115,105,117,106] c = o) :
 Calls Tryz.prog 188 #[.string ⟨#[118,99,115,105,117,106]⟩,.int .u8 x] w fun e w'=>e = .returned (.int .i64 o) ∧ w' = w:=by
 subst hx
 exact (Tryz.strings_IndexByte _ (c.toNat:Int) w).mono fun _ _ ⟨he,hw⟩=>⟨by rw [he,← ho];simp,hw⟩
theorem idx_base {c:UInt8} (h:isBase c = true):0 ≤ Lib.indexByte [118,99,115,105,117,106] c:=by
 unfold isBase at h
 rw [List.contains_iff_mem] at h
 simp at h
 rcases h with rfl | rfl | rfl | rfl | rfl | rfl <;> decide
theorem idx_other {c:UInt8} (h:isBase c = false):Lib.indexByte [118,99,115,105,117,106] c = -1:=by
 refine indexByte_no fun k e=>?_
 have hm:=List.mem_of_getElem? e
 unfold isBase at h
 rw [← List.contains_iff_mem] at hm
 rw [hm] at h;cases h
theorem number_is (r:Option Nat) (x:ByteArray) (w:World) (hr:numT x.data.toList = r):Calls Tryz.prog 182 #[.string x] w (Numbered r w):=by subst hr;exact number_ok x w
set_option maxHeartbeats 8000000 in
set_option maxRecDepth 100000 in
theorem read_base (n:Nat) (ih:∀ m,m < n + 1 → ReadC m) (b k d dd:Nat) (s:ByteArray) (w:World) (h:RdAt w b s k dd) (_hk:k ≤ s.size) (_hn:2 * (s.size - k) < n + 1) (hs:s.size ≤ 65536) (_hd:d + (s.size - k) ≤ 70000) (hK:KeysAt w) (_hb:1 < b) (hlt:k < s.size) (hc:isBase s[k] = true) :
 Calls Tryz.prog 184 #[.pointer (some ⟨b,0,none⟩),.int .i64 d] w (ReadP w b s d dd (tyF (n + 1) (sfx s k))):=by
 obtain ⟨r,er⟩:∃ r,r = tyF (n + 1) (sfx s k):=⟨_,rfl⟩
 rw [← er]
 have ER:=Hd er
 have H:=Hd h
 have HK:=Hd hK
 have IH:=Hd ih
 have hs':s.size ≤ 1048576:=by omega
 obtain ⟨⟨c0,c1,c2⟩,hf⟩:=h.cells
 have f2:=hf 2
 clear er h hK ih hf
 have HN:=Hd (show (byteAt s k:Int) = (s[k].toNat:Int) by rw [byteAt_in hlt])
 have hfin:=Hd (show r = some (.base s[k],sfx s (k + 1)) by rw [ER.out,sfx_cons s k hlt,tyF,if_pos hc])
 have hne:((s[k].toNat:Int) != 0) = true:=by
  rw [bne_iff_ne]
  intro e
  have e':s[k] = 0:=UInt8.toNat_inj.1 (by simpa using e)
  rw [e'] at hc
  exact absurd hc (by decide)
 obtain ⟨o,eo⟩:∃ o,o = Lib.indexByte [118,99,115,105,117,106] s[k]:=⟨_,rfl⟩
 have ho:0 ≤ o:=by rw [eo];exact idx_base hc
 have HO:=Hd eo.symm
 have hle:=Hd (show k + 1 = s.size - (sfx s (k + 1)).length by rw [sfx_length];omega)
 have hk1:k + 1 ≤ s.size:=hlt
 clear hc eo
 go_enter Tryz.func184,Tryz.ntmps184
 go_upto_region 2 with fail
 generalize hw1:World.setCell _ _ _ = w1
 have H1:=Hd (show RdAt w1 b s k (max dd d) by rw [← hw1];exact H.out.at2 (by omega))
 have G1:=Hd (show w.grownBy w1 (some b) by rw [← hw1];exact grown_set (grown_refl _ _) _ rfl _)
 clear hw1 c0 c1 c2 f2
 go_wp2_with (go_at_call 215;(with_reducible refine (nextG _ b k _ s _ H1.out HN.out).mono ?_);rintro e w2 ⟨rfl,hT,hg⟩;have H2:=Hd hT;obtain ⟨⟨c0,c1,c2⟩,hf⟩:=hT.cells;have f1:=hf 1;have G2:=Hd (grown_trans G1.out hg);clear hT hg hf)
 go_wp2_with (go_at_call 188;(with_reducible refine (idxB_is _ _ s[k] _ rfl HO.out).mono ?_);rintro e w' ⟨rfl,rfl⟩)
 go_ret
 exact readP_yes hfin.out (H2.out.at1 (by omega)) hle.out (by simp [deepT]) (grown_set G2.out _ rfl _)
set_option maxHeartbeats 8000000 in
set_option maxRecDepth 100000 in
theorem read_p (n:Nat) (ih:∀ m,m < n + 1 → ReadC m) (b k d dd:Nat) (s:ByteArray) (w:World) (h:RdAt w b s k dd) (_hk:k ≤ s.size) (hn:2 * (s.size - k) < n + 1) (hs:s.size ≤ 65536) (hd:d + (s.size - k) ≤ 70000) (hK:KeysAt w) (hb:1 < b) (hlt:k < s.size) (hc:s[k] = 112) :
 Calls Tryz.prog 184 #[.pointer (some ⟨b,0,none⟩),.int .i64 d] w (ReadP w b s d dd (tyF (n + 1) (sfx s k))):=by
 obtain ⟨r,er⟩:∃ r,r = tyF (n + 1) (sfx s k):=⟨_,rfl⟩
 rw [← er]
 have ER:=Hd er
 have H:=Hd h
 have HK:=Hd hK
 have IH:=Hd ih
 have hs':s.size ≤ 1048576:=by omega
 obtain ⟨⟨c0,c1,c2⟩,hf⟩:=h.cells
 have f2:=hf 2
 clear er h hK ih hf
 have HN:=Hd (show (byteAt s k:Int) = 112 by rw [byteAt_in hlt,hc];rfl)
 have HC0:=Hd hc
 have HO:=Hd (show Lib.indexByte [118,99,115,105,117,106] 112 = -1 by decide)
 have hk1:k + 1 ≤ s.size:=hlt
 have HL:=Hd hlt
 have ES:=Hd (show r = (tyF n (sfx s (k + 1))).map fun q=>(.ptr q.1,q.2) by rw [ER.out,sfx_cons s k hlt,hc,tyF,if_neg (by decide),if_pos rfl])
 clear hc
 go_enter Tryz.func184,Tryz.ntmps184
 go_upto_region 2 with fail
 generalize hw1:World.setCell _ _ _ = w1
 have H1:=Hd (show RdAt w1 b s k (max dd d) by rw [← hw1];exact H.out.at2 (by omega))
 have G1:=Hd (show w.grownBy w1 (some b) by rw [← hw1];exact grown_set (grown_refl _ _) _ rfl _)
 clear hw1 c0 c1 c2 f2
 go_wp2_with (first | (go_at_call 188;(with_reducible refine (idxB_is _ 112 112 _ rfl HO.out).mono ?_);rintro e w' ⟨rfl,rfl⟩) | (go_at_call 215;(with_reducible refine (nextG _ b k _ s _ H1.out HN.out).mono ?_);rintro e w2 ⟨rfl,hT,hg⟩;have H2:=Hd hT;have G2:=Hd (grown_trans G1.out hg);clear hT hg))
 go_wp2_with (first | (go_at_call 188;(with_reducible refine (idxB_is _ 112 112 _ rfl HO.out).mono ?_);rintro e w' ⟨rfl,rfl⟩) | (go_at_call 183;(with_reducible refine (takeY 112 112 b k _ s _ rfl H2.out HL.out HC0.out hs').mono ?_);rintro e w3 ⟨rfl,hT,hg⟩;have H3:=Hd hT;have G3:=Hd (grown_trans G2.out hg);clear hT hg))
 have HRd:=Hd (IH.out n (by omega) b (k + 1) (d + 1) _ s _ H3.out hk1 (by omega) hs (by omega) (HK.out.grown G3.out hb) hb)
 rcases hty:tyF n (sfx s (k + 1)) with _ | ⟨t,q⟩
 ·rw [hty] at HRd
  have hfin:=Hd (show r = none by rw [ES.out,hty];rfl)
  clear hty
  go_wp2_with (go_at_call 184;refine HRd.out.mono ?_;rintro e w4 ⟨⟨rfl,k2,d2,hT⟩,hg⟩;have H4:=Hd hT;have G4:=Hd (grown_trans G3.out hg);clear hT hg)
  go_ret
  exact readP_no hfin.out H4.out G4.out
 ·rw [hty] at HRd
  have hfin:=Hd (show r = some (.ptr t,q) by rw [ES.out,hty];rfl)
  clear hty
  go_wp2_with (go_at_call 184;refine HRd.out.mono ?_;rintro e w4 ⟨⟨rfl,hT⟩,hg⟩;have H4:=Hd hT;have G4:=Hd (grown_trans G3.out hg);clear hT hg)
  go_ret
  exact readP_yes hfin.out H4.out rfl (by have:=deepT_pos t;simp only [deepT];omega) G4.out
set_option maxHeartbeats 8000000 in
set_option maxRecDepth 100000 in
theorem read_a (n:Nat) (ih:∀ m,m < n + 1 → ReadC m) (b k d dd:Nat) (s:ByteArray) (w:World) (h:RdAt w b s k dd) (_hk:k ≤ s.size) (hn:2 * (s.size - k) < n + 1) (hs:s.size ≤ 65536) (hd:d + (s.size - k) ≤ 70000) (hK:KeysAt w) (hb:1 < b) (hlt:k < s.size) (hc:s[k] = 97) :
 Calls Tryz.prog 184 #[.pointer (some ⟨b,0,none⟩),.int .i64 d] w (ReadP w b s d dd (tyF (n + 1) (sfx s k))):=by
 obtain ⟨r,er⟩:∃ r,r = tyF (n + 1) (sfx s k):=⟨_,rfl⟩
 rw [← er]
 have ER:=Hd er
 have H:=Hd h
 have HK:=Hd hK
 have IH:=Hd ih
 have hs':s.size ≤ 1048576:=by omega
 obtain ⟨⟨c0,c1,c2⟩,hf⟩:=h.cells
 have f2:=hf 2
 clear er h hK ih hf
 have HN:=Hd (show (byteAt s k:Int) = 97 by rw [byteAt_in hlt,hc];rfl)
 have HC0:=Hd hc
 have HO:=Hd (show Lib.indexByte [118,99,115,105,117,106] 97 = -1 by decide)
 have HC112:=Hd (show ∀ h:k < s.size,s[k] ≠ 112 from fun _ e=>by rw [hc] at e;exact absurd e (by decide))
 have hk1:k + 1 ≤ s.size:=hlt
 have HL:=Hd hlt
 have ES:=Hd (show r = (cutAt 58 (sfx s (k + 1))).bind fun q=>(numT q.1).bind fun m=>(tyF n q.2).map fun x=>(.arr m x.1,x.2) by rw [ER.out,sfx_cons s k hlt,hc,tyF,if_neg (by decide),if_neg (by decide),if_pos rfl])
 clear hc
 go_enter Tryz.func184,Tryz.ntmps184
 go_upto_region 2 with fail
 generalize hw1:World.setCell _ _ _ = w1
 have H1:=Hd (show RdAt w1 b s k (max dd d) by rw [← hw1];exact H.out.at2 (by omega))
 have G1:=Hd (show w.grownBy w1 (some b) by rw [← hw1];exact grown_set (grown_refl _ _) _ rfl _)
 clear hw1 c0 c1 c2 f2
 go_wp2_with (first | (go_at_call 188;(with_reducible refine (idxB_is _ 97 97 _ rfl HO.out).mono ?_);rintro e w' ⟨rfl,rfl⟩) | (go_at_call 215;(with_reducible refine (nextG _ b k _ s _ H1.out HN.out).mono ?_);rintro e w2 ⟨rfl,hT,hg⟩;have H2:=Hd hT;have G2:=Hd (grown_trans G1.out hg);clear hT hg))
 go_wp2_with (first | (go_at_call 188;(with_reducible refine (idxB_is _ 97 97 _ rfl HO.out).mono ?_);rintro e w' ⟨rfl,rfl⟩) | (go_at_call 183;(with_reducible refine (takeNG 112 112 b k _ s _ rfl H2.out (by decide) HC112.out).mono ?_);rintro e w3 ⟨rfl,hT,hg⟩;have H3:=Hd hT;have G3:=Hd (grown_trans G2.out hg);clear hT hg))
 go_wp2_with (first | (go_at_call 188;(with_reducible refine (idxB_is _ 97 97 _ rfl HO.out).mono ?_);rintro e w' ⟨rfl,rfl⟩) | (go_at_call 183;(with_reducible refine (takeY 97 97 b k _ s _ rfl H3.out HL.out HC0.out hs').mono ?_);rintro e w4 ⟨rfl,hT,hg⟩;have H4:=Hd hT;have G4:=Hd (grown_trans G3.out hg);clear hT hg))
 rcases hcut:cutAt 58 (sfx s (k + 1)) with _ | ⟨u,v⟩
 ·have hfin:=Hd (show r = none by rw [ES.out,hcut];rfl)
  have HCt:=Hd hcut
  have HNm:=Hd (fun w=>number_is none ⟨#[]⟩ w rfl)
  clear hcut
  go_wp2_with (first | (go_at_call 216;(with_reducible refine (tillNG 58 58 b (k + 1) _ s _ rfl H4.out hk1 HCt.out).mono ?_);rintro e w5 ⟨rfl,hT,hg⟩;have H5:=Hd hT;have G5:=Hd (grown_trans G4.out hg);clear hT hg) | (go_at_call 182;(with_reducible refine (HNm.out _).mono ?_);rintro e w6 ⟨⟨x,rfl⟩,hb6⟩;have H6:=Hd (H5.out.below hb6);have G6:=Hd (grown_below G5.out hb6);clear hb6))
  go_ret
  exact readP_no hfin.out H6.out G6.out
 ·obtain ⟨h1,_⟩:=cutAt_some hcut
  have h1':sfx s (k + 1) = (u ++ [58]) ++ v:=by rw [h1];simp
  obtain ⟨hq,hpos,hle,_⟩:=rest_sfx h1' hk1
  rw [hpos] at hq
  have hul:(u ++ [58]).length = u.length + 1:=by simp
  rw [hul] at hq hle
  have HCt:=Hd hcut
  have HQ:=Hd (show sfx s (k + 1 + u.length + 1) = v by rw [← hq];rfl)
  have hk3:k + 1 + u.length + 1 ≤ s.size:=by omega
  have hk4:k + 1 < k + 1 + u.length + 1:=by omega
  have ES2:=Hd (show r = (numT u).bind fun m=>(tyF n (sfx s (k + 1 + u.length + 1))).map fun x=>(.arr m x.1,x.2) by rw [ES.out,hcut,HQ.out];rfl)
  clear hcut h1 h1' hq hpos hle hul
  go_wp2_with (go_at_call 216;(with_reducible refine (tillYG 58 58 b (k + 1) _ s u v _ rfl H4.out hk1 HCt.out hs').mono ?_))
  rintro e w5 ⟨x,rfl,hx,hT,hg⟩
  have H5:=Hd hT
  have G5:=Hd (grown_trans G4.out hg)
  have HNm:=Hd (number_is (numT u) x w5 (by rw [hx]))
  clear hT hg hx HCt HQ
  generalize k + 1 + u.length + 1 = k3 at *
  rcases hnu:numT u with _ | m
  ·rw [hnu] at HNm
   have hfin:=Hd (show r = none by rw [ES2.out,hnu];rfl)
   clear hnu
   go_wp2_with (go_at_call 182;(with_reducible refine HNm.out.mono ?_);rintro e w6 ⟨⟨x,rfl⟩,hb6⟩;have H6:=Hd (H5.out.below hb6);have G6:=Hd (grown_below G5.out hb6);clear hb6)
   go_ret
   exact readP_no hfin.out H6.out G6.out
  ·rw [hnu] at HNm
   have ES3:=Hd (show r = (tyF n (sfx s k3)).map fun x=>(.arr m x.1,x.2) by rw [ES2.out,hnu];rfl)
   clear hnu
   go_wp2_with (go_at_call 182;(with_reducible refine HNm.out.mono ?_);rintro e w6 ⟨rfl,hb6⟩;have H6:=Hd (H5.out.below hb6);have G6:=Hd (grown_below G5.out hb6);clear hb6)
   have HRd:=Hd (IH.out n (by omega) b k3 (d + 1) _ s _ H6.out hk3 (by omega) hs (by omega) (HK.out.grown G6.out hb) hb)
   rcases hty:tyF n (sfx s k3) with _ | ⟨t,q⟩
   ·rw [hty] at HRd
    have hfin:=Hd (show r = none by rw [ES3.out,hty];rfl)
    clear hty
    refine HRd.out.mono ?_
    rintro e w7 ⟨⟨rfl,k2,d2,hT⟩,hg⟩
    have H7:=Hd hT
    have G7:=Hd (grown_trans G6.out hg)
    clear hT hg
    go_wp2_with fail
    go_ret
    exact readP_no hfin.out H7.out G7.out
   ·rw [hty] at HRd
    have hfin:=Hd (show r = some (.arr m t,q) by rw [ES3.out,hty];rfl)
    clear hty
    refine HRd.out.mono ?_
    rintro e w7 ⟨⟨rfl,hT⟩,hg⟩
    have H7:=Hd hT
    have G7:=Hd (grown_trans G6.out hg)
    clear hT hg
    go_wp2_with fail
    go_ret
    exact readP_yes hfin.out H7.out rfl (by have:=deepT_pos t;simp only [deepT];omega) G7.out
set_option maxHeartbeats 8000000 in
set_option maxRecDepth 100000 in
theorem read_S (n:Nat) (ih:∀ m,m < n + 1 → ReadC m) (b k d dd:Nat) (s:ByteArray) (w:World) (h:RdAt w b s k dd) (_hk:k ≤ s.size) (_hn:2 * (s.size - k) < n + 1) (hs:s.size ≤ 65536) (_hd:d + (s.size - k) ≤ 70000) (hK:KeysAt w) (hb:1 < b) (hlt:k < s.size) (hc:s[k] = 83) :
 Calls Tryz.prog 184 #[.pointer (some ⟨b,0,none⟩),.int .i64 d] w (ReadP w b s d dd (tyF (n + 1) (sfx s k))):=by
 obtain ⟨r,er⟩:∃ r,r = tyF (n + 1) (sfx s k):=⟨_,rfl⟩
 rw [← er]
 have ER:=Hd er
 have H:=Hd h
 have HK:=Hd hK
 have IH:=Hd ih
 have hs':s.size ≤ 1048576:=by omega
 obtain ⟨⟨c0,c1,c2⟩,hf⟩:=h.cells
 have f2:=hf 2
 clear er h hK ih hf
 have HN:=Hd (show (byteAt s k:Int) = 83 by rw [byteAt_in hlt,hc];rfl)
 have HC0:=Hd hc
 have HO:=Hd (show Lib.indexByte [118,99,115,105,117,106] 83 = -1 by decide)
 have HC112:=Hd (show ∀ h:k < s.size,s[k] ≠ 112 from fun _ e=>by rw [hc] at e;exact absurd e (by decide))
 have HC97:=Hd (show ∀ h:k < s.size,s[k] ≠ 97 from fun _ e=>by rw [hc] at e;exact absurd e (by decide))
 have hk1:k + 1 ≤ s.size:=hlt
 have HL:=Hd hlt
 have ES:=Hd (show r = (cutAt 59 (sfx s (k + 1))).bind fun q=>if nameL q.1 = true then some (.str q.1,q.2) else none by rw [ER.out,sfx_cons s k hlt,hc,tyF,if_neg (by decide),if_neg (by decide),if_neg (by decide),if_pos rfl])
 clear hc
 go_enter Tryz.func184,Tryz.ntmps184
 go_upto_region 2 with fail
 generalize hw1:World.setCell _ _ _ = w1
 have H1:=Hd (show RdAt w1 b s k (max dd d) by rw [← hw1];exact H.out.at2 (by omega))
 have G1:=Hd (show w.grownBy w1 (some b) by rw [← hw1];exact grown_set (grown_refl _ _) _ rfl _)
 clear hw1 c0 c1 c2 f2
 go_wp2_with (first | (go_at_call 188;(with_reducible refine (idxB_is _ 83 83 _ rfl HO.out).mono ?_);rintro e w' ⟨rfl,rfl⟩) | (go_at_call 215;(with_reducible refine (nextG _ b k _ s _ H1.out HN.out).mono ?_);rintro e w2 ⟨rfl,hT,hg⟩;have H2:=Hd hT;have G2:=Hd (grown_trans G1.out hg);clear hT hg))
 go_wp2_with (first | (go_at_call 188;(with_reducible refine (idxB_is _ 83 83 _ rfl HO.out).mono ?_);rintro e w' ⟨rfl,rfl⟩) | (go_at_call 183;(with_reducible refine (takeNG 112 112 b k _ s _ rfl H2.out (by decide) HC112.out).mono ?_);rintro e w3 ⟨rfl,hT,hg⟩;have H3:=Hd hT;have G3:=Hd (grown_trans G2.out hg);clear hT hg))
 go_wp2_with (first | (go_at_call 188;(with_reducible refine (idxB_is _ 83 83 _ rfl HO.out).mono ?_);rintro e w' ⟨rfl,rfl⟩) | (go_at_call 183;(with_reducible refine (takeNG 97 97 b k _ s _ rfl H3.out (by decide) HC97.out).mono ?_);rintro e w4 ⟨rfl,hT,hg⟩;have H4:=Hd hT;have G4:=Hd (grown_trans G3.out hg);clear hT hg))
 go_wp2_with (first | (go_at_call 188;(with_reducible refine (idxB_is _ 83 83 _ rfl HO.out).mono ?_);rintro e w' ⟨rfl,rfl⟩) | (go_at_call 183;(with_reducible refine (takeY 83 83 b k _ s _ rfl H4.out HL.out HC0.out hs').mono ?_);rintro e w5 ⟨rfl,hT,hg⟩;have H5:=Hd hT;have G5:=Hd (grown_trans G4.out hg);clear hT hg))
 rcases hcut:cutAt 59 (sfx s (k + 1)) with _ | ⟨u,v⟩
 ·have hfin:=Hd (show r = none by rw [ES.out,hcut];rfl)
  have HCt:=Hd hcut
  clear hcut
  go_wp2_with (first | (go_at_call 216;(with_reducible refine (tillNG 59 59 b (k + 1) _ s _ rfl H5.out hk1 HCt.out).mono ?_);rintro e w6 ⟨rfl,hT,hg⟩;have H6:=Hd hT;have G6:=Hd (grown_trans G5.out hg);clear hT hg))
  go_ret
  exact readP_no hfin.out H6.out G6.out
 ·obtain ⟨h1,_⟩:=cutAt_some hcut
  have h1':sfx s (k + 1) = (u ++ [59]) ++ v:=by rw [h1];simp
  obtain ⟨hq,hpos,hle,_⟩:=rest_sfx h1' hk1
  have hul:(u ++ [59]).length = u.length + 1:=by simp
  rw [hul] at hpos
  have HP:=Hd (show k + 1 + u.length + 1 = s.size - v.length by omega)
  have HCt:=Hd hcut
  have ES2:=Hd (show r = if nameL u = true then some (.str u,v) else none by rw [ES.out,hcut];rfl)
  clear hcut h1 h1' hq hpos hle hul
  go_wp2_with (go_at_call 216;(with_reducible refine (tillYG 59 59 b (k + 1) _ s u v _ rfl H5.out hk1 HCt.out hs').mono ?_))
  rintro e w6 ⟨x,rfl,hx,hT,hg⟩
  have H6:=Hd hT
  have G6:=Hd (grown_trans G5.out hg)
  have HNm:=Hd (show nameL u = isNameB x by rw [nameL,← hx])
  have HK6:=Hd (HK.out.grown G6.out hb)
  clear hT hg hx HCt
  rcases hnm:isNameB x with _ | _
  ·have hfin:=Hd (show r = none by rw [ES2.out,HNm.out,hnm];rfl)
   have HI:=Hd hnm
   clear hnm
   go_wp2_with (go_at_call 124;(with_reducible refine (lexIsName_any x _ HK6.out).mono ?_))
   rintro e w7 ⟨rfl,hb7⟩
   rw [HI.out]
   have H7:=Hd (H6.out.below hb7)
   have G7:=Hd (grown_below G6.out hb7)
   clear hb7
   go_wp2_with fail
   go_ret
   exact readP_no hfin.out H7.out G7.out
  ·have hfin:=Hd (show r = some (.str u,v) by rw [ES2.out,HNm.out,hnm];rfl)
   have HI:=Hd hnm
   clear hnm
   go_wp2_with (go_at_call 124;(with_reducible refine (lexIsName_any x _ HK6.out).mono ?_))
   rintro e w7 ⟨rfl,hb7⟩
   rw [HI.out]
   have H7:=Hd (H6.out.below hb7)
   have G7:=Hd (grown_below G6.out hb7)
   clear hb7
   go_wp2_with fail
   go_ret
   exact readP_yes hfin.out H7.out HP.out (by simp [deepT]) G7.out
set_option maxHeartbeats 8000000 in
set_option maxRecDepth 100000 in
theorem read_f (n:Nat) (ih:∀ m,m < n + 1 → ReadC m) (b k d dd:Nat) (s:ByteArray) (w:World) (h:RdAt w b s k dd) (_hk:k ≤ s.size) (hn:2 * (s.size - k) < n + 1) (hs:s.size ≤ 65536) (hd:d + (s.size - k) ≤ 70000) (hK:KeysAt w) (hb:1 < b) (hlt:k < s.size) (hc:s[k] = 102) :
 Calls Tryz.prog 184 #[.pointer (some ⟨b,0,none⟩),.int .i64 d] w (ReadP w b s d dd (tyF (n + 1) (sfx s k))):=by
 obtain ⟨r,er⟩:∃ r,r = tyF (n + 1) (sfx s k):=⟨_,rfl⟩
 rw [← er]
 have ER:=Hd er
 have H:=Hd h
 have HK:=Hd hK
 have IH:=Hd ih
 have hs':s.size ≤ 1048576:=by omega
 obtain ⟨⟨c0,c1,c2⟩,hf⟩:=h.cells
 have f2:=hf 2
 clear er h hK ih hf
 have HN:=Hd (show (byteAt s k:Int) = 102 by rw [byteAt_in hlt,hc];rfl)
 have HC0:=Hd hc
 have HO:=Hd (show Lib.indexByte [118,99,115,105,117,106] 102 = -1 by decide)
 have HC112:=Hd (show ∀ h:k < s.size,s[k] ≠ 112 from fun _ e=>by rw [hc] at e;exact absurd e (by decide))
 have HC97:=Hd (show ∀ h:k < s.size,s[k] ≠ 97 from fun _ e=>by rw [hc] at e;exact absurd e (by decide))
 have HC83:=Hd (show ∀ h:k < s.size,s[k] ≠ 83 from fun _ e=>by rw [hc] at e;exact absurd e (by decide))
 have hk1:k + 1 ≤ s.size:=hlt
 have HL:=Hd hlt
 have ES:=Hd (show r = (behind 40 (sfx s (k + 1))).bind fun v=>(parsF n v).bind fun q=>(tyF n q.2).map fun x=>(.fn q.1 x.1,x.2) by rw [ER.out,sfx_cons s k hlt,hc,tyF,if_neg (by decide),if_neg (by decide),if_neg (by decide),if_neg (by decide),if_pos rfl])
 clear hc
 go_enter Tryz.func184,Tryz.ntmps184
 go_upto_region 2 with fail
 generalize hw1:World.setCell _ _ _ = w1
 have H1:=Hd (show RdAt w1 b s k (max dd d) by rw [← hw1];exact H.out.at2 (by omega))
 have G1:=Hd (show w.grownBy w1 (some b) by rw [← hw1];exact grown_set (grown_refl _ _) _ rfl _)
 clear hw1 c0 c1 c2 f2
 go_wp2_with (first | (go_at_call 188;(with_reducible refine (idxB_is _ 102 102 _ rfl HO.out).mono ?_);rintro e w' ⟨rfl,rfl⟩) | (go_at_call 215;(with_reducible refine (nextG _ b k _ s _ H1.out HN.out).mono ?_);rintro e w2 ⟨rfl,hT,hg⟩;have H2:=Hd hT;have G2:=Hd (grown_trans G1.out hg);clear hT hg))
 go_wp2_with (first | (go_at_call 188;(with_reducible refine (idxB_is _ 102 102 _ rfl HO.out).mono ?_);rintro e w' ⟨rfl,rfl⟩) | (go_at_call 183;(with_reducible refine (takeNG 112 112 b k _ s _ rfl H2.out (by decide) HC112.out).mono ?_);rintro e w3 ⟨rfl,hT,hg⟩;have H3:=Hd hT;have G3:=Hd (grown_trans G2.out hg);clear hT hg))
 go_wp2_with (first | (go_at_call 188;(with_reducible refine (idxB_is _ 102 102 _ rfl HO.out).mono ?_);rintro e w' ⟨rfl,rfl⟩) | (go_at_call 183;(with_reducible refine (takeNG 97 97 b k _ s _ rfl H3.out (by decide) HC97.out).mono ?_);rintro e w4 ⟨rfl,hT,hg⟩;have H4:=Hd hT;have G4:=Hd (grown_trans G3.out hg);clear hT hg))
 go_wp2_with (first | (go_at_call 188;(with_reducible refine (idxB_is _ 102 102 _ rfl HO.out).mono ?_);rintro e w' ⟨rfl,rfl⟩) | (go_at_call 183;(with_reducible refine (takeNG 83 83 b k _ s _ rfl H4.out (by decide) HC83.out).mono ?_);rintro e w5 ⟨rfl,hT,hg⟩;have H5:=Hd hT;have G5:=Hd (grown_trans G4.out hg);clear hT hg))
 go_wp2_with (first | (go_at_call 188;(with_reducible refine (idxB_is _ 102 102 _ rfl HO.out).mono ?_);rintro e w' ⟨rfl,rfl⟩) | (go_at_call 183;(with_reducible refine (takeY 102 102 b k _ s _ rfl H5.out HL.out HC0.out hs').mono ?_);rintro e w6 ⟨rfl,hT,hg⟩;have H6:=Hd hT;have G6:=Hd (grown_trans G5.out hg);clear hT hg))
 by_cases h40:∃ l,sfx s (k + 1) = 40 :: l
 ·obtain ⟨l,hl⟩:=h40
  obtain ⟨hlt1,hb1,hr1⟩:=sfx_head hl
  have HL1:=Hd hlt1
  have HB1:=Hd hb1
  have ES2:=Hd (show r = (parsF n (sfx s (k + 1 + 1))).bind fun q=>(tyF n q.2).map fun x=>(.fn q.1 x.1,x.2) by rw [ES.out,hl,behind,if_pos rfl,hr1];rfl)
  have hk2:k + 1 + 1 ≤ s.size:=hlt1
  clear hl hb1 hr1
  go_wp2_with (first | (go_at_call 188;(with_reducible refine (idxB_is _ 102 102 _ rfl HO.out).mono ?_);rintro e w' ⟨rfl,rfl⟩) | (go_at_call 183;(with_reducible refine (takeY 40 40 b (k + 1) _ s _ rfl H6.out HL1.out HB1.out hs').mono ?_);rintro e w7 ⟨rfl,hT,hg⟩;have H7:=Hd hT;have G7:=Hd (grown_trans G6.out hg);clear hT hg))
  have HPr:=Hd (params_ok n (fun m hm=>IH.out m (by omega)) b (k + 1 + 1) d _ s _ H7.out hk2 (by omega) hs (by omega) (by omega) (HK.out.grown G7.out hb) hb)
  rcases hps:parsF n (sfx s (k + 1 + 1)) with _ | ⟨ps,v⟩
  ·rw [hps] at HPr
   have hfin:=Hd (show r = none by rw [ES2.out,hps];rfl)
   clear hps
   go_wp2_with (go_at_call 217;(with_reducible refine HPr.out.mono ?_);rintro e w8 ⟨⟨rfl,k2,d2,hT⟩,hg⟩;have H8:=Hd hT;have G8:=Hd (grown_trans G7.out hg);clear hT hg)
   go_ret
   exact readP_no hfin.out H8.out G8.out
  ·rw [hps] at HPr
   obtain ⟨h1,_⟩:=(tyF_code n).2.1 _ _ _ hps
   have h1':sfx s (k + 1 + 1) = (codes ps ++ [41]) ++ v:=by rw [h1];simp
   obtain ⟨hq,hpos,hle,_⟩:=rest_sfx h1' hk2
   have hul:(codes ps ++ [41]).length = (codes ps).length + 1:=by simp
   rw [hul] at hpos
   obtain ⟨k3,ek⟩:∃ k3,k3 = s.size - v.length:=⟨_,rfl⟩
   have hk3:k3 ≤ s.size:=by omega
   have hk4:k + 1 + 1 < k3:=by omega
   rw [← ek] at hq
   have EK:=Hd ek
   have ES3:=Hd (show r = (tyF n (sfx s k3)).map fun x=>(.fn ps x.1,x.2) by rw [ES2.out,hps,hq];rfl)
   clear hps h1 h1' hq hpos hle hul ek
   go_wp2_with (go_at_call 217;(with_reducible refine HPr.out.mono ?_))
   rintro e w8 ⟨⟨rfl,hT⟩,hg⟩
   rw [← EK.out] at hT
   have H8:=Hd hT
   have G8:=Hd (grown_trans G7.out hg)
   clear hT hg
   have HRd:=Hd (IH.out n (by omega) b k3 (d + 1) _ s _ H8.out hk3 (by omega) hs (by omega) (HK.out.grown G8.out hb) hb)
   rcases hty:tyF n (sfx s k3) with _ | ⟨t,q⟩
   ·rw [hty] at HRd
    have hfin:=Hd (show r = none by rw [ES3.out,hty];rfl)
    clear hty
    go_wp2_with (go_at_call 184;refine HRd.out.mono ?_;rintro e w9 ⟨⟨rfl,k2,d2,hT⟩,hg⟩;have H9:=Hd hT;have G9:=Hd (grown_trans G8.out hg);clear hT hg)
    go_ret
    exact readP_no hfin.out H9.out G9.out
   ·rw [hty] at HRd
    have hfin:=Hd (show r = some (.fn ps t,q) by rw [ES3.out,hty];rfl)
    clear hty
    go_wp2_with (go_at_call 184;refine HRd.out.mono ?_;rintro e w9 ⟨⟨rfl,hT⟩,hg⟩;have H9:=Hd hT;have G9:=Hd (grown_trans G8.out hg);clear hT hg)
    go_ret
    exact readP_yes hfin.out H9.out rfl (by have:=deepT_pos t;simp only [deepT];omega) G9.out
 ·have hfin:=Hd (show r = none by
   rw [ES.out]
   rcases hx:sfx s (k + 1) with _ | ⟨c,l⟩
   ·rfl
   ·rw [behind,if_neg (fun e=>h40 ⟨l,by rw [hx,e]⟩)];rfl)
  have HC40:=Hd (sfx_not (s:=s) (k:=k + 1) (c:=40) (fun l e=>h40 ⟨l,e⟩))
  clear h40
  go_wp2_with (go_at_call 183;(with_reducible refine (takeNG 40 40 b (k + 1) _ s _ rfl H6.out (by decide) HC40.out).mono ?_);rintro e w7 ⟨rfl,hT,hg⟩;have H7:=Hd hT;have G7:=Hd (grown_trans G6.out hg);clear hT hg)
  go_ret
  exact readP_no hfin.out H7.out G7.out
set_option maxHeartbeats 8000000 in
set_option maxRecDepth 100000 in
theorem read_else (n:Nat) (ih:∀ m,m < n + 1 → ReadC m) (b k d dd:Nat) (s:ByteArray) (w:World) (h:RdAt w b s k dd) (_hk:k ≤ s.size) (_hn:2 * (s.size - k) < n + 1) (hs:s.size ≤ 65536) (_hd:d + (s.size - k) ≤ 70000) (hK:KeysAt w) (_hb:1 < b) (c:Nat) (hbt:byteAt s k = c) (hc:∀ h:k < s.size,isBase s[k] = false ∧ s[k] ≠ 112 ∧ s[k] ≠ 97 ∧ s[k] ≠ 83 ∧ s[k] ≠ 102) (hr:c = 0 ∨ k < s.size) :
 Calls Tryz.prog 184 #[.pointer (some ⟨b,0,none⟩),.int .i64 d] w (ReadP w b s d dd (tyF (n + 1) (sfx s k))):=by
 obtain ⟨r,er⟩:∃ r,r = tyF (n + 1) (sfx s k):=⟨_,rfl⟩
 rw [← er]
 have ER:=Hd er
 have H:=Hd h
 have HK:=Hd hK
 have IH:=Hd ih
 have hs':s.size ≤ 1048576:=by omega
 obtain ⟨⟨c0,c1,c2⟩,hf⟩:=h.cells
 have f2:=hf 2
 clear er h hK ih hf
 have HN:=Hd (show (byteAt s k:Int) = (c:Int) by rw [hbt])
 have HC112:=Hd (fun h:k < s.size=>(hc h).2.1)
 have HC97:=Hd (fun h:k < s.size=>(hc h).2.2.1)
 have HC83:=Hd (fun h:k < s.size=>(hc h).2.2.2.1)
 have HC102:=Hd (fun h:k < s.size=>(hc h).2.2.2.2)
 have hfin:=Hd (show r = none by
  rw [ER.out]
  rcases hx:sfx s k with _ | ⟨a,l⟩
  ·rw [tyF]
  ·obtain ⟨hlt,h1,_⟩:=sfx_head hx
   obtain ⟨h2,h3,h4,h5,h6⟩:=hc hlt
   rw [h1] at h2 h3 h4 h5 h6
   rw [tyF,if_neg (by rw [h2];simp),if_neg h3,if_neg h4,if_neg h5,if_neg h6])
 have hcase:((c:Int) != 0) = false ∨ (((c:Int) != 0) = true ∧ ∃ h:k < s.size,c = s[k].toNat ∧ Lib.indexByte [118,99,115,105,117,106] s[k] = -1):=by
  by_cases h0:c = 0
  ·left;simp [h0]
  ·right
   have hlt:k < s.size:=by rcases hr with h | h;exact absurd h h0;exact h
   exact ⟨by simpa using h0,hlt,by rw [← hbt,byteAt_in hlt],idx_other (hc hlt).1⟩
 clear hc hr hbt
 go_enter Tryz.func184,Tryz.ntmps184
 go_upto_region 2 with fail
 generalize hw1:World.setCell _ _ _ = w1
 have H1:=Hd (show RdAt w1 b s k (max dd d) by rw [← hw1];exact H.out.at2 (by omega))
 have G1:=Hd (show w.grownBy w1 (some b) by rw [← hw1];exact grown_set (grown_refl _ _) _ rfl _)
 clear hw1 c0 c1 c2 f2
 rcases hcase with h0 | ⟨h0,hlt,he,ho⟩
 ·skip
  go_wp2_with (first | (go_at_call 188;(with_reducible refine (idxB_is _ 0 0 _ rfl rfl).mono ?_);rintro e w' ⟨rfl,rfl⟩) | (go_at_call 215;(with_reducible refine (nextG _ b k _ s _ H1.out HN.out).mono ?_);rintro e w2 ⟨rfl,hT,hg⟩;have H2:=Hd hT;have G2:=Hd (grown_trans G1.out hg);clear hT hg))
  go_wp2_with (first | (go_at_call 188;(with_reducible refine (idxB_is _ 0 0 _ rfl rfl).mono ?_);rintro e w' ⟨rfl,rfl⟩) | (go_at_call 183;(with_reducible refine (takeNG 112 112 b k _ s _ rfl H2.out (by decide) HC112.out).mono ?_);rintro e w3 ⟨rfl,hT,hg⟩;have H3:=Hd hT;have G3:=Hd (grown_trans G2.out hg);clear hT hg))
  go_wp2_with (first | (go_at_call 188;(with_reducible refine (idxB_is _ 0 0 _ rfl rfl).mono ?_);rintro e w' ⟨rfl,rfl⟩) | (go_at_call 183;(with_reducible refine (takeNG 97 97 b k _ s _ rfl H3.out (by decide) HC97.out).mono ?_);rintro e w4 ⟨rfl,hT,hg⟩;have H4:=Hd hT;have G4:=Hd (grown_trans G3.out hg);clear hT hg))
  go_wp2_with (first | (go_at_call 188;(with_reducible refine (idxB_is _ 0 0 _ rfl rfl).mono ?_);rintro e w' ⟨rfl,rfl⟩) | (go_at_call 183;(with_reducible refine (takeNG 83 83 b k _ s _ rfl H4.out (by decide) HC83.out).mono ?_);rintro e w5 ⟨rfl,hT,hg⟩;have H5:=Hd hT;have G5:=Hd (grown_trans G4.out hg);clear hT hg))
  go_wp2_with (first | (go_at_call 188;(with_reducible refine (idxB_is _ 0 0 _ rfl rfl).mono ?_);rintro e w' ⟨rfl,rfl⟩) | (go_at_call 183;(with_reducible refine (takeNG 102 102 b k _ s _ rfl H5.out (by decide) HC102.out).mono ?_);rintro e w6 ⟨rfl,hT,hg⟩;have H6:=Hd hT;have G6:=Hd (grown_trans G5.out hg);clear hT hg))
  go_ret
  exact readP_no hfin.out H6.out G6.out
 ·have HX:=Hd (show (c:Int) = (s[k].toNat:Int) by rw [he])
  have HO:=Hd ho
  clear he ho
  go_wp2_with (first | (go_at_call 188;(with_reducible refine (idxB_is _ _ s[k] _ HX.out HO.out).mono ?_);rintro e w' ⟨rfl,rfl⟩) | (go_at_call 215;(with_reducible refine (nextG _ b k _ s _ H1.out HN.out).mono ?_);rintro e w2 ⟨rfl,hT,hg⟩;have H2:=Hd hT;have G2:=Hd (grown_trans G1.out hg);clear hT hg))
  go_wp2_with (first | (go_at_call 188;(with_reducible refine (idxB_is _ _ s[k] _ HX.out HO.out).mono ?_);rintro e w' ⟨rfl,rfl⟩) | (go_at_call 183;(with_reducible refine (takeNG 112 112 b k _ s _ rfl H2.out (by decide) HC112.out).mono ?_);rintro e w3 ⟨rfl,hT,hg⟩;have H3:=Hd hT;have G3:=Hd (grown_trans G2.out hg);clear hT hg))
  go_wp2_with (first | (go_at_call 188;(with_reducible refine (idxB_is _ _ s[k] _ HX.out HO.out).mono ?_);rintro e w' ⟨rfl,rfl⟩) | (go_at_call 183;(with_reducible refine (takeNG 97 97 b k _ s _ rfl H3.out (by decide) HC97.out).mono ?_);rintro e w4 ⟨rfl,hT,hg⟩;have H4:=Hd hT;have G4:=Hd (grown_trans G3.out hg);clear hT hg))
  go_wp2_with (first | (go_at_call 188;(with_reducible refine (idxB_is _ _ s[k] _ HX.out HO.out).mono ?_);rintro e w' ⟨rfl,rfl⟩) | (go_at_call 183;(with_reducible refine (takeNG 83 83 b k _ s _ rfl H4.out (by decide) HC83.out).mono ?_);rintro e w5 ⟨rfl,hT,hg⟩;have H5:=Hd hT;have G5:=Hd (grown_trans G4.out hg);clear hT hg))
  go_wp2_with (first | (go_at_call 188;(with_reducible refine (idxB_is _ _ s[k] _ HX.out HO.out).mono ?_);rintro e w' ⟨rfl,rfl⟩) | (go_at_call 183;(with_reducible refine (takeNG 102 102 b k _ s _ rfl H5.out (by decide) HC102.out).mono ?_);rintro e w6 ⟨rfl,hT,hg⟩;have H6:=Hd hT;have G6:=Hd (grown_trans G5.out hg);clear hT hg))
  go_ret
  exact readP_no hfin.out H6.out G6.out
theorem read_all:∀ n,ReadC n:=by
 intro n
 induction n using Nat.strongRecOn with
 | ind n ih=>
   cases n with
   | zero=>intro b k d dd s w h hk hn;omega
   | succ n=>
     intro b k d dd s w h hk hn hs hd hK hb
     by_cases hlt:k < s.size
     ·by_cases hB:isBase s[k] = true
      ·exact read_base n ih b k d dd s w h hk hn hs hd hK hb hlt hB
      ·by_cases h1:s[k] = 112
       ·exact read_p n ih b k d dd s w h hk hn hs hd hK hb hlt h1
       ·by_cases h2:s[k] = 97
        ·exact read_a n ih b k d dd s w h hk hn hs hd hK hb hlt h2
        ·by_cases h3:s[k] = 83
         ·exact read_S n ih b k d dd s w h hk hn hs hd hK hb hlt h3
         ·by_cases h4:s[k] = 102
          ·exact read_f n ih b k d dd s w h hk hn hs hd hK hb hlt h4
          ·exact read_else n ih b k d dd s w h hk hn hs hd hK hb _ (byteAt_in hlt) (fun _=>⟨by simpa using hB,h1,h2,h3,h4⟩) (.inr hlt)
     ·exact read_else n ih b k d dd s w h hk hn hs hd hK hb 0 (byteAt_out (by omega)) (fun h=>absurd h hlt) (.inl rfl)
end Go.Proofs.YtkokdafkjjcgoaaGreatDoor
