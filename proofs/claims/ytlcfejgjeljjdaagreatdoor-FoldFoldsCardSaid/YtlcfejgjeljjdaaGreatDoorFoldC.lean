/- A comparison of numbers: the program -/
import Derived.Test.YtlcfejgjeljjdaaGreatDoorFoldX
namespace Go.Proofs.YtlcfejgjeljjdaaGreatDoor
open Go.RowKit
theorem compared_Lt (a b:Int) (w:World):Calls Tryz.prog 60 #[.string mLt,.int .i64 a,.int .i64 b] w fun e w'=>e = .returned (.tuple #[numV (iText12,truthI (decide (a < b))),.bool true]) ∧ Below w.heap.size w w':=by
 have hb:=ba1 w (numO ((⟨#[]⟩,0):Num))
 have hR:=numAt_new w ((⟨#[]⟩,0):Num)
 have t0:(mLt.toList == [60]) = true:=lit_eq rfl rfl
 have HB:=Hd hb
 have HR:=Hd hR
 have HT:=Hd (fun w=>truth_ok (decide (a < b)) w)
 generalize truthI (decide (a < b)) = r at *
 unfold numV at *
 simp only [numO] at HR HB ⊢
 clear hb hR
 generalize mLt = m at *
 go_enter Tryz.func60,Tryz.ntmps60
 go_upto_region 1 with fail
 generalize w.alloc (.cells #[.string ⟨#[]⟩,.int .i64 0] 50) = w1 at *
 have HT1:=Hd (HT.out w1)
 go_wp2_with (go_at_call 53;(with_reducible refine HT1.out.mono ?_);rintro e w2 ⟨rfl,hb2⟩;have HB2:=Hd hb2;clear hb2;obtain ⟨⟨r0,r1⟩,rf⟩:=(HR.out.below HB2.out).cells;have f0:=rf 0;have f1:=rf 1;clear rf)
 exact bodyPost_ret (v:=.tuple #[numV (iText12,r),.bool true]) (by simp [results,Tryz.results60,go_sem,r0,r1];rfl) rfl ⟨rfl,below_set2 (HB.out.trans (HB2.out.mono HB.out.size)) (Nat.le_refl _) _ _⟩
theorem compared_Gt (a b:Int) (w:World):Calls Tryz.prog 60 #[.string mGt,.int .i64 a,.int .i64 b] w fun e w'=>e = .returned (.tuple #[numV (iText12,truthI (decide (b < a))),.bool true]) ∧ Below w.heap.size w w':=by
 have hb:=ba1 w (numO ((⟨#[]⟩,0):Num))
 have hR:=numAt_new w ((⟨#[]⟩,0):Num)
 have t0:(mGt.toList == [60]) = false:=lit_eq rfl rfl
 have t1:(mGt.toList == [62]) = true:=lit_eq rfl rfl
 have HB:=Hd hb
 have HR:=Hd hR
 have HT:=Hd (fun w=>truth_ok (decide (b < a)) w)
 generalize truthI (decide (b < a)) = r at *
 unfold numV at *
 simp only [numO] at HR HB ⊢
 clear hb hR
 generalize mGt = m at *
 go_enter Tryz.func60,Tryz.ntmps60
 go_upto_region 1 with fail
 generalize w.alloc (.cells #[.string ⟨#[]⟩,.int .i64 0] 50) = w1 at *
 have HT1:=Hd (HT.out w1)
 go_wp2_with (go_at_call 53;(with_reducible refine HT1.out.mono ?_);rintro e w2 ⟨rfl,hb2⟩;have HB2:=Hd hb2;clear hb2;obtain ⟨⟨r0,r1⟩,rf⟩:=(HR.out.below HB2.out).cells;have f0:=rf 0;have f1:=rf 1;clear rf)
 exact bodyPost_ret (v:=.tuple #[numV (iText12,r),.bool true]) (by simp [results,Tryz.results60,go_sem,r0,r1];rfl) rfl ⟨rfl,below_set2 (HB.out.trans (HB2.out.mono HB.out.size)) (Nat.le_refl _) _ _⟩
theorem compared_Le (a b:Int) (w:World):Calls Tryz.prog 60 #[.string mLe,.int .i64 a,.int .i64 b] w fun e w'=>e = .returned (.tuple #[numV (iText12,truthI (decide (a ≤ b))),.bool true]) ∧ Below w.heap.size w w':=by
 have hb:=ba1 w (numO ((⟨#[]⟩,0):Num))
 have hR:=numAt_new w ((⟨#[]⟩,0):Num)
 have t0:(mLe.toList == [60]) = false:=lit_eq rfl rfl
 have t1:(mLe.toList == [62]) = false:=lit_eq rfl rfl
 have t2:(mLe.toList == [60,61]) = true:=lit_eq rfl rfl
 have HB:=Hd hb
 have HR:=Hd hR
 have HT:=Hd (fun w=>truth_ok (decide (a ≤ b)) w)
 generalize truthI (decide (a ≤ b)) = r at *
 unfold numV at *
 simp only [numO] at HR HB ⊢
 clear hb hR
 generalize mLe = m at *
 go_enter Tryz.func60,Tryz.ntmps60
 go_upto_region 1 with fail
 generalize w.alloc (.cells #[.string ⟨#[]⟩,.int .i64 0] 50) = w1 at *
 have HT1:=Hd (HT.out w1)
 go_wp2_with (go_at_call 53;(with_reducible refine HT1.out.mono ?_);rintro e w2 ⟨rfl,hb2⟩;have HB2:=Hd hb2;clear hb2;obtain ⟨⟨r0,r1⟩,rf⟩:=(HR.out.below HB2.out).cells;have f0:=rf 0;have f1:=rf 1;clear rf)
 exact bodyPost_ret (v:=.tuple #[numV (iText12,r),.bool true]) (by simp [results,Tryz.results60,go_sem,r0,r1];rfl) rfl ⟨rfl,below_set2 (HB.out.trans (HB2.out.mono HB.out.size)) (Nat.le_refl _) _ _⟩
theorem compared_Ge (a b:Int) (w:World):Calls Tryz.prog 60 #[.string mGe,.int .i64 a,.int .i64 b] w fun e w'=>e = .returned (.tuple #[numV (iText12,truthI (decide (b ≤ a))),.bool true]) ∧ Below w.heap.size w w':=by
 have hb:=ba1 w (numO ((⟨#[]⟩,0):Num))
 have hR:=numAt_new w ((⟨#[]⟩,0):Num)
 have t0:(mGe.toList == [60]) = false:=lit_eq rfl rfl
 have t1:(mGe.toList == [62]) = false:=lit_eq rfl rfl
 have t2:(mGe.toList == [60,61]) = false:=lit_eq rfl rfl
 have t3:(mGe.toList == [62,61]) = true:=lit_eq rfl rfl
 have HB:=Hd hb
 have HR:=Hd hR
 have HT:=Hd (fun w=>truth_ok (decide (b ≤ a)) w)
 generalize truthI (decide (b ≤ a)) = r at *
 unfold numV at *
 simp only [numO] at HR HB ⊢
 clear hb hR
 generalize mGe = m at *
 go_enter Tryz.func60,Tryz.ntmps60
 go_upto_region 1 with fail
 generalize w.alloc (.cells #[.string ⟨#[]⟩,.int .i64 0] 50) = w1 at *
 have HT1:=Hd (HT.out w1)
 go_wp2_with (go_at_call 53;(with_reducible refine HT1.out.mono ?_);rintro e w2 ⟨rfl,hb2⟩;have HB2:=Hd hb2;clear hb2;obtain ⟨⟨r0,r1⟩,rf⟩:=(HR.out.below HB2.out).cells;have f0:=rf 0;have f1:=rf 1;clear rf)
 exact bodyPost_ret (v:=.tuple #[numV (iText12,r),.bool true]) (by simp [results,Tryz.results60,go_sem,r0,r1];rfl) rfl ⟨rfl,below_set2 (HB.out.trans (HB2.out.mono HB.out.size)) (Nat.le_refl _) _ _⟩
theorem compared_Eq (a b:Int) (w:World):Calls Tryz.prog 60 #[.string mEq,.int .i64 a,.int .i64 b] w fun e w'=>e = .returned (.tuple #[numV (iText12,truthI ((a == b))),.bool true]) ∧ Below w.heap.size w w':=by
 have hb:=ba1 w (numO ((⟨#[]⟩,0):Num))
 have hR:=numAt_new w ((⟨#[]⟩,0):Num)
 have t0:(mEq.toList == [60]) = false:=lit_eq rfl rfl
 have t1:(mEq.toList == [62]) = false:=lit_eq rfl rfl
 have t2:(mEq.toList == [60,61]) = false:=lit_eq rfl rfl
 have t3:(mEq.toList == [62,61]) = false:=lit_eq rfl rfl
 have t4:(mEq.toList == [61,61]) = true:=lit_eq rfl rfl
 have HB:=Hd hb
 have HR:=Hd hR
 have HT:=Hd (fun w=>truth_ok ((a == b)) w)
 generalize truthI ((a == b)) = r at *
 unfold numV at *
 simp only [numO] at HR HB ⊢
 clear hb hR
 generalize mEq = m at *
 go_enter Tryz.func60,Tryz.ntmps60
 go_upto_region 1 with fail
 generalize w.alloc (.cells #[.string ⟨#[]⟩,.int .i64 0] 50) = w1 at *
 have HT1:=Hd (HT.out w1)
 go_wp2_with (go_at_call 53;(with_reducible refine HT1.out.mono ?_);rintro e w2 ⟨rfl,hb2⟩;have HB2:=Hd hb2;clear hb2;obtain ⟨⟨r0,r1⟩,rf⟩:=(HR.out.below HB2.out).cells;have f0:=rf 0;have f1:=rf 1;clear rf)
 exact bodyPost_ret (v:=.tuple #[numV (iText12,r),.bool true]) (by simp [results,Tryz.results60,go_sem,r0,r1];rfl) rfl ⟨rfl,below_set2 (HB.out.trans (HB2.out.mono HB.out.size)) (Nat.le_refl _) _ _⟩
theorem compared_Ne (a b:Int) (w:World):Calls Tryz.prog 60 #[.string mNe,.int .i64 a,.int .i64 b] w fun e w'=>e = .returned (.tuple #[numV (iText12,truthI ((a != b))),.bool true]) ∧ Below w.heap.size w w':=by
 have hb:=ba1 w (numO ((⟨#[]⟩,0):Num))
 have hR:=numAt_new w ((⟨#[]⟩,0):Num)
 have t0:(mNe.toList == [60]) = false:=lit_eq rfl rfl
 have t1:(mNe.toList == [62]) = false:=lit_eq rfl rfl
 have t2:(mNe.toList == [60,61]) = false:=lit_eq rfl rfl
 have t3:(mNe.toList == [62,61]) = false:=lit_eq rfl rfl
 have t4:(mNe.toList == [61,61]) = false:=lit_eq rfl rfl
 have t5:(mNe.toList == [33,61]) = true:=lit_eq rfl rfl
 have HB:=Hd hb
 have HR:=Hd hR
 have HT:=Hd (fun w=>truth_ok ((a != b)) w)
 generalize truthI ((a != b)) = r at *
 unfold numV at *
 simp only [numO] at HR HB ⊢
 clear hb hR
 generalize mNe = m at *
 go_enter Tryz.func60,Tryz.ntmps60
 go_upto_region 1 with fail
 generalize w.alloc (.cells #[.string ⟨#[]⟩,.int .i64 0] 50) = w1 at *
 have HT1:=Hd (HT.out w1)
 go_wp2_with (go_at_call 53;(with_reducible refine HT1.out.mono ?_);rintro e w2 ⟨rfl,hb2⟩;have HB2:=Hd hb2;clear hb2;obtain ⟨⟨r0,r1⟩,rf⟩:=(HR.out.below HB2.out).cells;have f0:=rf 0;have f1:=rf 1;clear rf)
 exact bodyPost_ret (v:=.tuple #[numV (iText12,r),.bool true]) (by simp [results,Tryz.results60,go_sem,r0,r1];rfl) rfl ⟨rfl,below_set2 (HB.out.trans (HB2.out.mono HB.out.size)) (Nat.le_refl _) _ _⟩
theorem compared_no (m:ByteArray) (h0:(m.toList == [60]) = false) (h1:(m.toList == [62]) = false) (h2:(m.toList == [60,61]) = false) (h3:(m.toList == [62,61]) = false) (h4:(m.toList == [61,61]) = false) (h5:(m.toList == [33,61]) = false) (a b:Int) (w:World):Calls Tryz.prog 60 #[.string m,.int .i64 a,.int .i64 b] w fun e w'=>e = .returned (.tuple #[numV (⟨#[]⟩,0),.bool false]) ∧ Below w.heap.size w w':=by
 have hb:=ba1 w (numO ((⟨#[]⟩,0):Num))
 have hR:=numAt_new w ((⟨#[]⟩,0):Num)
 have HB:=Hd hb
 have HR:=Hd hR
 unfold numV at *
 simp only [numO] at HR HB ⊢
 clear hb hR
 go_enter Tryz.func60,Tryz.ntmps60
 go_upto_region 1 with fail
 generalize w.alloc (.cells #[.string ⟨#[]⟩,.int .i64 0] 50) = w1 at *
 obtain ⟨⟨r0,r1⟩,rf⟩:=HR.out.cells
 have f0:=rf 0
 have f1:=rf 1
 clear rf
 go_wp2_with fail
 exact bodyPost_ret (v:=.tuple #[numV (⟨#[]⟩,0),.bool false]) (by simp [results,Tryz.results60,go_sem,r0,r1];rfl) rfl ⟨rfl,below_set2 HB.out (Nat.le_refl _) _ _⟩
end Go.Proofs.YtlcfejgjeljjdaaGreatDoor
