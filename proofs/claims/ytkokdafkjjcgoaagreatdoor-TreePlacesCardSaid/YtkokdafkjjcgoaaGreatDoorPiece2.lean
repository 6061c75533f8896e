/- Pieces of what stands in quotes, behind a backslash: the pro -/
import Derived.Test.YtkokdafkjjcgoaaGreatDoorMg4
import Derived.IntWalk
namespace Go.Proofs.YtkokdafkjjcgoaaGreatDoor
open Go.RowKit
def escL (d:UInt8) (r:List UInt8):Option (UInt8 × Nat):=
 if d.toNat = 110 then some (10,2)
 else if d.toNat = 116 then some (9,2)
 else if d.toNat = 114 then some (13,2)
 else if d.toNat = 48 then (match r with
  | []=>some (0,2)
  | x :: _=>if digB x = true then none else some (0,2))
 else if d.toNat = 92 ∨ d.toNat = 39 ∨ d.toNat = 34 then some (d,2)
 else if d.toNat = 120 then (match r with
  | x :: y :: _=>(match hexN x,hexN y with
    | some a,some b=>some (UInt8.ofNat (16 * a + b),4)
    | _,_=>none)
  | _=>none)
 else none
theorem pieceL_esc {s:ByteArray} {k:Nat} (hk:k < s.size) (h:s[k].toNat = 92) (h2:k + 1 < s.size):pieceL (sfx s k) = escL s[k + 1] (sfx s (k + 2)):=by
 rw [sfx_cons s k hk,sfx_cons s (k + 1) h2,pieceL.eq_def];exact (if_neg (by omega)).trans (if_neg (by omega))
theorem esc_zero {d:UInt8} (r:List UInt8) (h:d.toNat = 48):escL d r = match r with
  | []=>some (0,2)
  | x :: _=>if digB x = true then none else some (0,2):=by
 unfold escL
 rw [if_neg (by omega),if_neg (by omega),if_neg (by omega),if_pos h]
theorem esc_hex {d:UInt8} (r:List UInt8) (h:d.toNat = 120):escL d r = match r with
  | x :: y :: _=>(match hexN x,hexN y with
    | some a,some b=>some (UInt8.ofNat (16 * a + b),4)
    | _,_=>none)
  | _=>none:=by
 unfold escL
 rw [if_neg (by omega),if_neg (by omega),if_neg (by omega),if_neg (by omega),if_neg (by omega),if_pos h]
theorem esc_none {d:UInt8} (r:List UInt8) (h:d.toNat ≠ 110 ∧ d.toNat ≠ 116 ∧ d.toNat ≠ 114 ∧ d.toNat ≠ 48 ∧ d.toNat ≠ 92 ∧ d.toNat ≠ 39 ∧ d.toNat ≠ 34 ∧ d.toNat ≠ 120):escL d r = none:=by
 unfold escL
 rw [if_neg (by omega),if_neg (by omega),if_neg (by omega),if_neg (by omega),if_neg (by omega),if_neg (by omega)]
theorem hexN_lt {c:UInt8} {a:Nat} (h:hexN c = some a):a < 16 ∧ hexI c = a:=by
 refine ⟨?_,by simp [hexI,h]⟩
 unfold hexN at h
 repeat' split at h
 all_goals first
  | (cases h;done)
  | (obtain rfl:=Option.some.inj h;omega)
theorem hexN_no {c:UInt8} (h:hexN c = none):hexI c = -1:=by simp [hexI,h]
theorem lexHex_is (x:Int) (c:UInt8) (w:World) (h:hexI c = x):Calls Tryz.prog 247 #[.int .u8 (c.toNat:Int)] w fun e w'=>e = .returned (.int .i64 x) ∧ w' = w:=by
 subst h;exact lexHex_ok c w
set_option maxHeartbeats 2000000 in
set_option maxRecDepth 100000 in
theorem piece_esc110 (b k:Nat) (cs:Array Value) (T:TypeId) (s:ByteArray) (q:UInt8) (w:World) (h:TextAt w b cs T s k) (hk:k < s.size) (hs:s.size ≤ 1048576) (h92:s[k].toNat = 92) (hq:s[k] ≠ q) (hc:k + 1 < s.size) (hd:s[k + 1].toNat = 110) :
 Calls Tryz.prog 223 #[.pointer (some ⟨b,0,none⟩),.int .u8 (q.toNat:Int)] w (Pieced w b cs T s k (pieceL (sfx s k))):=by
 have hfin:=Hd (show pieceL (sfx s k) = some (10,2) by rw [pieceL_esc hk h92 hc];exact if_pos hd)
 have c0:=h.c0
 have c1:=h.c1
 have f1:=h.f1 1
 have H:=Hd h
 have t1:decide ((s[k].toNat:Int) < 32) = false:=by simp;omega
 have t2:decide ((126:Int) < s[k].toNat) = false:=by simp;omega
 have t3:((s[k].toNat:Int) == q.toNat) = false:=by
  rw [beq_eq_false_iff_ne];intro e;exact hq (UInt8.toNat_inj.1 (by omega))
 have t4:((s[k].toNat:Int) != 92) = false:=by simp;omega
 have hM:=Hd (show decide (k + 1 < s.size) = true by simpa using hc)
 have u110:((s[k + 1].toNat:Int) == 110) = true:=by simp [hd]
 clear h h92 hq hd
 have e1:((k:Int) + 1).toNat = k + 1:=by omega
 have p1:0 ≤ (k:Int) + 1:=by omega
 have l1:(k:Int) + 1 < s.size:=by omega
 go_enter Tryz.func223,Tryz.ntmps223
 go_wp2_with fail
 go_quiet (fail)
 go_wp2_with (go_at_call 153;refine (more_is true b (k + 1) cs T s _ H.out.drew.step hM.out).mono ?_;rintro e w1 ⟨rfl,n1,rfl⟩)
 go_quiet (fail)
 go_wp2_with fail
 go_ret2
 exact pieced_yes hfin.out rfl H.out.drew.step.drew.step (grown_set (grown_drewN (grown_set (grown_drewN (grown_refl _ _) _) _ rfl _) _) _ rfl _)
set_option maxHeartbeats 2000000 in
set_option maxRecDepth 100000 in
theorem piece_esc116 (b k:Nat) (cs:Array Value) (T:TypeId) (s:ByteArray) (q:UInt8) (w:World) (h:TextAt w b cs T s k) (hk:k < s.size) (hs:s.size ≤ 1048576) (h92:s[k].toNat = 92) (hq:s[k] ≠ q) (hc:k + 1 < s.size) (hd:s[k + 1].toNat = 116) :
 Calls Tryz.prog 223 #[.pointer (some ⟨b,0,none⟩),.int .u8 (q.toNat:Int)] w (Pieced w b cs T s k (pieceL (sfx s k))):=by
 have hfin:=Hd (show pieceL (sfx s k) = some (9,2) by rw [pieceL_esc hk h92 hc];exact (if_neg (by omega)).trans (if_pos hd))
 have c0:=h.c0
 have c1:=h.c1
 have f1:=h.f1 1
 have H:=Hd h
 have t1:decide ((s[k].toNat:Int) < 32) = false:=by simp;omega
 have t2:decide ((126:Int) < s[k].toNat) = false:=by simp;omega
 have t3:((s[k].toNat:Int) == q.toNat) = false:=by
  rw [beq_eq_false_iff_ne];intro e;exact hq (UInt8.toNat_inj.1 (by omega))
 have t4:((s[k].toNat:Int) != 92) = false:=by simp;omega
 have hM:=Hd (show decide (k + 1 < s.size) = true by simpa using hc)
 have u110:((s[k + 1].toNat:Int) == 110) = false:=by simp;omega
 have u116:((s[k + 1].toNat:Int) == 116) = true:=by simp [hd]
 clear h h92 hq hd
 have e1:((k:Int) + 1).toNat = k + 1:=by omega
 have p1:0 ≤ (k:Int) + 1:=by omega
 have l1:(k:Int) + 1 < s.size:=by omega
 go_enter Tryz.func223,Tryz.ntmps223
 go_wp2_with fail
 go_quiet (fail)
 go_wp2_with (go_at_call 153;refine (more_is true b (k + 1) cs T s _ H.out.drew.step hM.out).mono ?_;rintro e w1 ⟨rfl,n1,rfl⟩)
 go_quiet (fail)
 go_wp2_with fail
 go_ret2
 exact pieced_yes hfin.out rfl H.out.drew.step.drew.step (grown_set (grown_drewN (grown_set (grown_drewN (grown_refl _ _) _) _ rfl _) _) _ rfl _)
set_option maxHeartbeats 2000000 in
set_option maxRecDepth 100000 in
theorem piece_esc114 (b k:Nat) (cs:Array Value) (T:TypeId) (s:ByteArray) (q:UInt8) (w:World) (h:TextAt w b cs T s k) (hk:k < s.size) (hs:s.size ≤ 1048576) (h92:s[k].toNat = 92) (hq:s[k] ≠ q) (hc:k + 1 < s.size) (hd:s[k + 1].toNat = 114) :
 Calls Tryz.prog 223 #[.pointer (some ⟨b,0,none⟩),.int .u8 (q.toNat:Int)] w (Pieced w b cs T s k (pieceL (sfx s k))):=by
 have hfin:=Hd (show pieceL (sfx s k) = some (13,2) by rw [pieceL_esc hk h92 hc];exact (if_neg (by omega)).trans ((if_neg (by omega)).trans (if_pos hd)))
 have c0:=h.c0
 have c1:=h.c1
 have f1:=h.f1 1
 have H:=Hd h
 have t1:decide ((s[k].toNat:Int) < 32) = false:=by simp;omega
 have t2:decide ((126:Int) < s[k].toNat) = false:=by simp;omega
 have t3:((s[k].toNat:Int) == q.toNat) = false:=by
  rw [beq_eq_false_iff_ne];intro e;exact hq (UInt8.toNat_inj.1 (by omega))
 have t4:((s[k].toNat:Int) != 92) = false:=by simp;omega
 have hM:=Hd (show decide (k + 1 < s.size) = true by simpa using hc)
 have u110:((s[k + 1].toNat:Int) == 110) = false:=by simp;omega
 have u116:((s[k + 1].toNat:Int) == 116) = false:=by simp;omega
 have u114:((s[k + 1].toNat:Int) == 114) = true:=by simp [hd]
 clear h h92 hq hd
 have e1:((k:Int) + 1).toNat = k + 1:=by omega
 have p1:0 ≤ (k:Int) + 1:=by omega
 have l1:(k:Int) + 1 < s.size:=by omega
 go_enter Tryz.func223,Tryz.ntmps223
 go_wp2_with fail
 go_quiet (fail)
 go_wp2_with (go_at_call 153;refine (more_is true b (k + 1) cs T s _ H.out.drew.step hM.out).mono ?_;rintro e w1 ⟨rfl,n1,rfl⟩)
 go_quiet (fail)
 go_wp2_with fail
 go_ret2
 exact pieced_yes hfin.out rfl H.out.drew.step.drew.step (grown_set (grown_drewN (grown_set (grown_drewN (grown_refl _ _) _) _ rfl _) _) _ rfl _)
set_option maxHeartbeats 2000000 in
set_option maxRecDepth 100000 in
theorem piece_esc92 (b k:Nat) (cs:Array Value) (T:TypeId) (s:ByteArray) (q:UInt8) (w:World) (h:TextAt w b cs T s k) (hk:k < s.size) (hs:s.size ≤ 1048576) (h92:s[k].toNat = 92) (hq:s[k] ≠ q) (hc:k + 1 < s.size) (hd:s[k + 1].toNat = 92) :
 Calls Tryz.prog 223 #[.pointer (some ⟨b,0,none⟩),.int .u8 (q.toNat:Int)] w (Pieced w b cs T s k (pieceL (sfx s k))):=by
 have hfin:=Hd (show pieceL (sfx s k) = some (s[k + 1],2) by rw [pieceL_esc hk h92 hc];exact (if_neg (by omega)).trans ((if_neg (by omega)).trans ((if_neg (by omega)).trans ((if_neg (by omega)).trans (if_pos (by omega))))))
 have c0:=h.c0
 have c1:=h.c1
 have f1:=h.f1 1
 have H:=Hd h
 have t1:decide ((s[k].toNat:Int) < 32) = false:=by simp;omega
 have t2:decide ((126:Int) < s[k].toNat) = false:=by simp;omega
 have t3:((s[k].toNat:Int) == q.toNat) = false:=by
  rw [beq_eq_false_iff_ne];intro e;exact hq (UInt8.toNat_inj.1 (by omega))
 have t4:((s[k].toNat:Int) != 92) = false:=by simp;omega
 have hM:=Hd (show decide (k + 1 < s.size) = true by simpa using hc)
 have u110:((s[k + 1].toNat:Int) == 110) = false:=by simp;omega
 have u116:((s[k + 1].toNat:Int) == 116) = false:=by simp;omega
 have u114:((s[k + 1].toNat:Int) == 114) = false:=by simp;omega
 have u48:((s[k + 1].toNat:Int) == 48) = false:=by simp;omega
 have u92:((s[k + 1].toNat:Int) == 92) = true:=by simp [hd]
 clear h h92 hq hd
 have e1:((k:Int) + 1).toNat = k + 1:=by omega
 have p1:0 ≤ (k:Int) + 1:=by omega
 have l1:(k:Int) + 1 < s.size:=by omega
 go_enter Tryz.func223,Tryz.ntmps223
 go_wp2_with fail
 go_quiet (fail)
 go_wp2_with (go_at_call 153;refine (more_is true b (k + 1) cs T s _ H.out.drew.step hM.out).mono ?_;rintro e w1 ⟨rfl,n1,rfl⟩)
 go_quiet (fail)
 go_wp2_with fail
 go_ret2
 exact pieced_yes hfin.out rfl H.out.drew.step.drew.step (grown_set (grown_drewN (grown_set (grown_drewN (grown_refl _ _) _) _ rfl _) _) _ rfl _)
set_option maxHeartbeats 2000000 in
set_option maxRecDepth 100000 in
theorem piece_esc39 (b k:Nat) (cs:Array Value) (T:TypeId) (s:ByteArray) (q:UInt8) (w:World) (h:TextAt w b cs T s k) (hk:k < s.size) (hs:s.size ≤ 1048576) (h92:s[k].toNat = 92) (hq:s[k] ≠ q) (hc:k + 1 < s.size) (hd:s[k + 1].toNat = 39) :
 Calls Tryz.prog 223 #[.pointer (some ⟨b,0,none⟩),.int .u8 (q.toNat:Int)] w (Pieced w b cs T s k (pieceL (sfx s k))):=by
 have hfin:=Hd (show pieceL (sfx s k) = some (s[k + 1],2) by rw [pieceL_esc hk h92 hc];exact (if_neg (by omega)).trans ((if_neg (by omega)).trans ((if_neg (by omega)).trans ((if_neg (by omega)).trans (if_pos (by omega))))))
 have c0:=h.c0
 have c1:=h.c1
 have f1:=h.f1 1
 have H:=Hd h
 have t1:decide ((s[k].toNat:Int) < 32) = false:=by simp;omega
 have t2:decide ((126:Int) < s[k].toNat) = false:=by simp;omega
 have t3:((s[k].toNat:Int) == q.toNat) = false:=by
  rw [beq_eq_false_iff_ne];intro e;exact hq (UInt8.toNat_inj.1 (by omega))
 have t4:((s[k].toNat:Int) != 92) = false:=by simp;omega
 have hM:=Hd (show decide (k + 1 < s.size) = true by simpa using hc)
 have u110:((s[k + 1].toNat:Int) == 110) = false:=by simp;omega
 have u116:((s[k + 1].toNat:Int) == 116) = false:=by simp;omega
 have u114:((s[k + 1].toNat:Int) == 114) = false:=by simp;omega
 have u48:((s[k + 1].toNat:Int) == 48) = false:=by simp;omega
 have u92:((s[k + 1].toNat:Int) == 92) = false:=by simp;omega
 have u39:((s[k + 1].toNat:Int) == 39) = true:=by simp [hd]
 clear h h92 hq hd
 have e1:((k:Int) + 1).toNat = k + 1:=by omega
 have p1:0 ≤ (k:Int) + 1:=by omega
 have l1:(k:Int) + 1 < s.size:=by omega
 go_enter Tryz.func223,Tryz.ntmps223
 go_wp2_with fail
 go_quiet (fail)
 go_wp2_with (go_at_call 153;refine (more_is true b (k + 1) cs T s _ H.out.drew.step hM.out).mono ?_;rintro e w1 ⟨rfl,n1,rfl⟩)
 go_quiet (fail)
 go_wp2_with fail
 go_ret2
 exact pieced_yes hfin.out rfl H.out.drew.step.drew.step (grown_set (grown_drewN (grown_set (grown_drewN (grown_refl _ _) _) _ rfl _) _) _ rfl _)
set_option maxHeartbeats 2000000 in
set_option maxRecDepth 100000 in
theorem piece_esc34 (b k:Nat) (cs:Array Value) (T:TypeId) (s:ByteArray) (q:UInt8) (w:World) (h:TextAt w b cs T s k) (hk:k < s.size) (hs:s.size ≤ 1048576) (h92:s[k].toNat = 92) (hq:s[k] ≠ q) (hc:k + 1 < s.size) (hd:s[k + 1].toNat = 34) :
 Calls Tryz.prog 223 #[.pointer (some ⟨b,0,none⟩),.int .u8 (q.toNat:Int)] w (Pieced w b cs T s k (pieceL (sfx s k))):=by
 have hfin:=Hd (show pieceL (sfx s k) = some (s[k + 1],2) by rw [pieceL_esc hk h92 hc];exact (if_neg (by omega)).trans ((if_neg (by omega)).trans ((if_neg (by omega)).trans ((if_neg (by omega)).trans (if_pos (by omega))))))
 have c0:=h.c0
 have c1:=h.c1
 have f1:=h.f1 1
 have H:=Hd h
 have t1:decide ((s[k].toNat:Int) < 32) = false:=by simp;omega
 have t2:decide ((126:Int) < s[k].toNat) = false:=by simp;omega
 have t3:((s[k].toNat:Int) == q.toNat) = false:=by
  rw [beq_eq_false_iff_ne];intro e;exact hq (UInt8.toNat_inj.1 (by omega))
 have t4:((s[k].toNat:Int) != 92) = false:=by simp;omega
 have hM:=Hd (show decide (k + 1 < s.size) = true by simpa using hc)
 have u110:((s[k + 1].toNat:Int) == 110) = false:=by simp;omega
 have u116:((s[k + 1].toNat:Int) == 116) = false:=by simp;omega
 have u114:((s[k + 1].toNat:Int) == 114) = false:=by simp;omega
 have u48:((s[k + 1].toNat:Int) == 48) = false:=by simp;omega
 have u92:((s[k + 1].toNat:Int) == 92) = false:=by simp;omega
 have u39:((s[k + 1].toNat:Int) == 39) = false:=by simp;omega
 have u34:((s[k + 1].toNat:Int) == 34) = true:=by simp [hd]
 clear h h92 hq hd
 have e1:((k:Int) + 1).toNat = k + 1:=by omega
 have p1:0 ≤ (k:Int) + 1:=by omega
 have l1:(k:Int) + 1 < s.size:=by omega
 go_enter Tryz.func223,Tryz.ntmps223
 go_wp2_with fail
 go_quiet (fail)
 go_wp2_with (go_at_call 153;refine (more_is true b (k + 1) cs T s _ H.out.drew.step hM.out).mono ?_;rintro e w1 ⟨rfl,n1,rfl⟩)
 go_quiet (fail)
 go_wp2_with fail
 go_ret2
 exact pieced_yes hfin.out rfl H.out.drew.step.drew.step (grown_set (grown_drewN (grown_set (grown_drewN (grown_refl _ _) _) _ rfl _) _) _ rfl _)
set_option maxHeartbeats 2000000 in
set_option maxRecDepth 100000 in
theorem piece_escno (b k:Nat) (cs:Array Value) (T:TypeId) (s:ByteArray) (q:UInt8) (w:World) (h:TextAt w b cs T s k) (hk:k < s.size) (hs:s.size ≤ 1048576) (h92:s[k].toNat = 92) (hq:s[k] ≠ q) (hc:k + 1 < s.size) (hd:s[k + 1].toNat ≠ 110 ∧ s[k + 1].toNat ≠ 116 ∧ s[k + 1].toNat ≠ 114 ∧ s[k + 1].toNat ≠ 48 ∧ s[k + 1].toNat ≠ 92 ∧ s[k + 1].toNat ≠ 39 ∧ s[k + 1].toNat ≠ 34 ∧ s[k + 1].toNat ≠ 120) :
 Calls Tryz.prog 223 #[.pointer (some ⟨b,0,none⟩),.int .u8 (q.toNat:Int)] w (Pieced w b cs T s k (pieceL (sfx s k))):=by
 have hfin:=Hd (show pieceL (sfx s k) = none by rw [pieceL_esc hk h92 hc,esc_none _ hd])
 have c0:=h.c0
 have c1:=h.c1
 have f1:=h.f1 1
 have H:=Hd h
 have t1:decide ((s[k].toNat:Int) < 32) = false:=by simp;omega
 have t2:decide ((126:Int) < s[k].toNat) = false:=by simp;omega
 have t3:((s[k].toNat:Int) == q.toNat) = false:=by
  rw [beq_eq_false_iff_ne];intro e;exact hq (UInt8.toNat_inj.1 (by omega))
 have t4:((s[k].toNat:Int) != 92) = false:=by simp;omega
 have hM:=Hd (show decide (k + 1 < s.size) = true by simpa using hc)
 have u110:((s[k + 1].toNat:Int) == 110) = false:=by simp;omega
 have u116:((s[k + 1].toNat:Int) == 116) = false:=by simp;omega
 have u114:((s[k + 1].toNat:Int) == 114) = false:=by simp;omega
 have u48:((s[k + 1].toNat:Int) == 48) = false:=by simp;omega
 have u92:((s[k + 1].toNat:Int) == 92) = false:=by simp;omega
 have u39:((s[k + 1].toNat:Int) == 39) = false:=by simp;omega
 have u34:((s[k + 1].toNat:Int) == 34) = false:=by simp;omega
 have u120:((s[k + 1].toNat:Int) == 120) = false:=by simp;omega
 clear h h92 hq hd
 have e1:((k:Int) + 1).toNat = k + 1:=by omega
 have p1:0 ≤ (k:Int) + 1:=by omega
 have l1:(k:Int) + 1 < s.size:=by omega
 go_enter Tryz.func223,Tryz.ntmps223
 go_wp2_with fail
 go_quiet (fail)
 go_wp2_with (go_at_call 153;refine (more_is true b (k + 1) cs T s _ H.out.drew.step hM.out).mono ?_;rintro e w1 ⟨rfl,n1,rfl⟩)
 go_quiet (fail)
 go_wp2_with fail
 go_ret2
 exact pieced_no hfin.out (grown_set (grown_drewN (grown_set (grown_drewN (grown_refl _ _) _) _ rfl _) _) _ rfl _)
set_option maxHeartbeats 2000000 in
set_option maxRecDepth 100000 in
theorem piece_esc48_end (b k:Nat) (cs:Array Value) (T:TypeId) (s:ByteArray) (q:UInt8) (w:World) (h:TextAt w b cs T s k) (hk:k < s.size) (hs:s.size ≤ 1048576) (h92:s[k].toNat = 92) (hq:s[k] ≠ q) (hc:k + 1 < s.size) (hd:s[k + 1].toNat = 48) (hx:s.size ≤ k + 2) :
 Calls Tryz.prog 223 #[.pointer (some ⟨b,0,none⟩),.int .u8 (q.toNat:Int)] w (Pieced w b cs T s k (pieceL (sfx s k))):=by
 have hfin:=Hd (show pieceL (sfx s k) = some (0,2) by rw [pieceL_esc hk h92 hc,esc_zero _ hd,sfx_nil s (k + 2) hx])
 have c0:=h.c0
 have c1:=h.c1
 have f1:=h.f1 1
 have H:=Hd h
 have t1:decide ((s[k].toNat:Int) < 32) = false:=by simp;omega
 have t2:decide ((126:Int) < s[k].toNat) = false:=by simp;omega
 have t3:((s[k].toNat:Int) == q.toNat) = false:=by
  rw [beq_eq_false_iff_ne];intro e;exact hq (UInt8.toNat_inj.1 (by omega))
 have t4:((s[k].toNat:Int) != 92) = false:=by simp;omega
 have hM:=Hd (show decide (k + 1 < s.size) = true by simpa using hc)
 have u110:((s[k + 1].toNat:Int) == 110) = false:=by simp;omega
 have u116:((s[k + 1].toNat:Int) == 116) = false:=by simp;omega
 have u114:((s[k + 1].toNat:Int) == 114) = false:=by simp;omega
 have u48:((s[k + 1].toNat:Int) == 48) = true:=by simp [hd]
 have e2:((k:Int) + 1 + 1).toNat = k + 2:=by omega
 have p2:0 ≤ (k:Int) + 1 + 1:=by omega
 have hM2:=Hd (show decide (k + 2 < s.size) = false by simpa using hx)
 have HD:Hid (digB 0 = false):=rfl
 clear h h92 hq hd
 have e1:((k:Int) + 1).toNat = k + 1:=by omega
 have p1:0 ≤ (k:Int) + 1:=by omega
 have l1:(k:Int) + 1 < s.size:=by omega
 go_enter Tryz.func223,Tryz.ntmps223
 go_wp2_with fail
 go_quiet (fail)
 go_wp2_with (go_at_call 153;refine (more_is true b (k + 1) cs T s _ H.out.drew.step hM.out).mono ?_;rintro e w1 ⟨rfl,n1,rfl⟩)
 go_quiet (fail)
 go_wp2_with fail
 go_quiet ((first | (go_at_call 153;exact Calls.quiet_of (more_is false b (k + 2) cs T s _ H.out.drew.step.drew.step.drew hM2.out)) | (go_at_call 190;exact Calls.quiet_of_same (lexDigit_is false _ _ HD.out))))
 go_wp2_with fail
 go_ret2
 exact pieced_yes hfin.out rfl H.out.drew.step.drew.step.drew (grown_drewN (grown_set (grown_drewN (grown_set (grown_drewN (grown_refl _ _) _) _ rfl _) _) _ rfl _) _)
set_option maxHeartbeats 2000000 in
set_option maxRecDepth 100000 in
theorem piece_esc48_no (b k:Nat) (cs:Array Value) (T:TypeId) (s:ByteArray) (q:UInt8) (w:World) (h:TextAt w b cs T s k) (hk:k < s.size) (hs:s.size ≤ 1048576) (h92:s[k].toNat = 92) (hq:s[k] ≠ q) (hc:k + 1 < s.size) (hd:s[k + 1].toNat = 48) (hx:k + 2 < s.size) (hg:digB s[k + 2] = true) :
 Calls Tryz.prog 223 #[.pointer (some ⟨b,0,none⟩),.int .u8 (q.toNat:Int)] w (Pieced w b cs T s k (pieceL (sfx s k))):=by
 have hfin:=Hd (show pieceL (sfx s k) = none by rw [pieceL_esc hk h92 hc,esc_zero _ hd,sfx_cons s (k + 2) hx];exact if_pos hg)
 have c0:=h.c0
 have c1:=h.c1
 have f1:=h.f1 1
 have H:=Hd h
 have t1:decide ((s[k].toNat:Int) < 32) = false:=by simp;omega
 have t2:decide ((126:Int) < s[k].toNat) = false:=by simp;omega
 have t3:((s[k].toNat:Int) == q.toNat) = false:=by
  rw [beq_eq_false_iff_ne];intro e;exact hq (UInt8.toNat_inj.1 (by omega))
 have t4:((s[k].toNat:Int) != 92) = false:=by simp;omega
 have hM:=Hd (show decide (k + 1 < s.size) = true by simpa using hc)
 have u110:((s[k + 1].toNat:Int) == 110) = false:=by simp;omega
 have u116:((s[k + 1].toNat:Int) == 116) = false:=by simp;omega
 have u114:((s[k + 1].toNat:Int) == 114) = false:=by simp;omega
 have u48:((s[k + 1].toNat:Int) == 48) = true:=by simp [hd]
 have e2:((k:Int) + 1 + 1).toNat = k + 2:=by omega
 have p2:0 ≤ (k:Int) + 1 + 1:=by omega
 have hM2:=Hd (show decide (k + 2 < s.size) = true by simpa using hx)
 have HD:=Hd hg
 have l2:(k:Int) + 1 + 1 < s.size:=by omega
 clear hg
 clear h h92 hq hd
 have e1:((k:Int) + 1).toNat = k + 1:=by omega
 have p1:0 ≤ (k:Int) + 1:=by omega
 have l1:(k:Int) + 1 < s.size:=by omega
 go_enter Tryz.func223,Tryz.ntmps223
 go_wp2_with fail
 go_quiet (fail)
 go_wp2_with (go_at_call 153;refine (more_is true b (k + 1) cs T s _ H.out.drew.step hM.out).mono ?_;rintro e w1 ⟨rfl,n1,rfl⟩)
 go_quiet (fail)
 go_wp2_with fail
 go_quiet ((first | (go_at_call 153;exact Calls.quiet_of (more_is true b (k + 2) cs T s _ H.out.drew.step.drew.step.drew hM2.out)) | (go_at_call 190;exact Calls.quiet_of_same (lexDigit_is true _ _ HD.out))))
 go_wp2_with fail
 go_ret2
 exact pieced_no hfin.out (grown_drewN (grown_set (grown_drewN (grown_set (grown_drewN (grown_refl _ _) _) _ rfl _) _) _ rfl _) _)
set_option maxHeartbeats 2000000 in
set_option maxRecDepth 100000 in
theorem piece_esc48_yes (b k:Nat) (cs:Array Value) (T:TypeId) (s:ByteArray) (q:UInt8) (w:World) (h:TextAt w b cs T s k) (hk:k < s.size) (hs:s.size ≤ 1048576) (h92:s[k].toNat = 92) (hq:s[k] ≠ q) (hc:k + 1 < s.size) (hd:s[k + 1].toNat = 48) (hx:k + 2 < s.size) (hg:digB s[k + 2] = false) :
 Calls Tryz.prog 223 #[.pointer (some ⟨b,0,none⟩),.int .u8 (q.toNat:Int)] w (Pieced w b cs T s k (pieceL (sfx s k))):=by
 have hfin:=Hd (show pieceL (sfx s k) = some (0,2) by rw [pieceL_esc hk h92 hc,esc_zero _ hd,sfx_cons s (k + 2) hx];exact if_neg (by simp [hg]))
 have c0:=h.c0
 have c1:=h.c1
 have f1:=h.f1 1
 have H:=Hd h
 have t1:decide ((s[k].toNat:Int) < 32) = false:=by simp;omega
 have t2:decide ((126:Int) < s[k].toNat) = false:=by simp;omega
 have t3:((s[k].toNat:Int) == q.toNat) = false:=by
  rw [beq_eq_false_iff_ne];intro e;exact hq (UInt8.toNat_inj.1 (by omega))
 have t4:((s[k].toNat:Int) != 92) = false:=by simp;omega
 have hM:=Hd (show decide (k + 1 < s.size) = true by simpa using hc)
 have u110:((s[k + 1].toNat:Int) == 110) = false:=by simp;omega
 have u116:((s[k + 1].toNat:Int) == 116) = false:=by simp;omega
 have u114:((s[k + 1].toNat:Int) == 114) = false:=by simp;omega
 have u48:((s[k + 1].toNat:Int) == 48) = true:=by simp [hd]
 have e2:((k:Int) + 1 + 1).toNat = k + 2:=by omega
 have p2:0 ≤ (k:Int) + 1 + 1:=by omega
 have hM2:=Hd (show decide (k + 2 < s.size) = true by simpa using hx)
 have HD:=Hd hg
 have l2:(k:Int) + 1 + 1 < s.size:=by omega
 clear hg
 clear h h92 hq hd
 have e1:((k:Int) + 1).toNat = k + 1:=by omega
 have p1:0 ≤ (k:Int) + 1:=by omega
 have l1:(k:Int) + 1 < s.size:=by omega
 go_enter Tryz.func223,Tryz.ntmps223
 go_wp2_with fail
 go_quiet (fail)
 go_wp2_with (go_at_call 153;refine (more_is true b (k + 1) cs T s _ H.out.drew.step hM.out).mono ?_;rintro e w1 ⟨rfl,n1,rfl⟩)
 go_quiet (fail)
 go_wp2_with fail
 go_quiet ((first | (go_at_call 153;exact Calls.quiet_of (more_is true b (k + 2) cs T s _ H.out.drew.step.drew.step.drew hM2.out)) | (go_at_call 190;exact Calls.quiet_of_same (lexDigit_is false _ _ HD.out))))
 go_wp2_with fail
 go_ret2
 exact pieced_yes hfin.out rfl H.out.drew.step.drew.step.drew (grown_drewN (grown_set (grown_drewN (grown_set (grown_drewN (grown_refl _ _) _) _ rfl _) _) _ rfl _) _)
set_option maxHeartbeats 2000000 in
set_option maxRecDepth 100000 in
theorem piece_esc120_end (b k:Nat) (cs:Array Value) (T:TypeId) (s:ByteArray) (q:UInt8) (w:World) (h:TextAt w b cs T s k) (hk:k < s.size) (hs:s.size ≤ 1048576) (h92:s[k].toNat = 92) (hq:s[k] ≠ q) (hc:k + 1 < s.size) (hd:s[k + 1].toNat = 120) (hx:s.size ≤ k + 3) :
 Calls Tryz.prog 223 #[.pointer (some ⟨b,0,none⟩),.int .u8 (q.toNat:Int)] w (Pieced w b cs T s k (pieceL (sfx s k))):=by
 have hfin:=Hd (show pieceL (sfx s k) = none by
  rw [pieceL_esc hk h92 hc,esc_hex _ hd]
  rcases Nat.lt_or_ge (k + 2) s.size with h2 | h2
  ·rw [sfx_cons s (k + 2) h2,sfx_nil s (k + 3) hx]
  ·rw [sfx_nil s (k + 2) h2])
 have c0:=h.c0
 have c1:=h.c1
 have f1:=h.f1 1
 have H:=Hd h
 have t1:decide ((s[k].toNat:Int) < 32) = false:=by simp;omega
 have t2:decide ((126:Int) < s[k].toNat) = false:=by simp;omega
 have t3:((s[k].toNat:Int) == q.toNat) = false:=by
  rw [beq_eq_false_iff_ne];intro e;exact hq (UInt8.toNat_inj.1 (by omega))
 have t4:((s[k].toNat:Int) != 92) = false:=by simp;omega
 have hM:=Hd (show decide (k + 1 < s.size) = true by simpa using hc)
 have u110:((s[k + 1].toNat:Int) == 110) = false:=by simp;omega
 have u116:((s[k + 1].toNat:Int) == 116) = false:=by simp;omega
 have u114:((s[k + 1].toNat:Int) == 114) = false:=by simp;omega
 have u48:((s[k + 1].toNat:Int) == 48) = false:=by simp;omega
 have u92:((s[k + 1].toNat:Int) == 92) = false:=by simp;omega
 have u39:((s[k + 1].toNat:Int) == 39) = false:=by simp;omega
 have u34:((s[k + 1].toNat:Int) == 34) = false:=by simp;omega
 have u120:((s[k + 1].toNat:Int) == 120) = true:=by simp [hd]
 have e2:((k:Int) + 1 + 1).toNat = k + 2:=by omega
 have p2:0 ≤ (k:Int) + 1 + 1:=by omega
 have e3:((k:Int) + 1 + 1 + 1).toNat = k + 3:=by omega
 have p3:0 ≤ (k:Int) + 1 + 1 + 1:=by omega
 have w3:IntKind.i64.wrap ((k:Int) + 1 + 1 + 1) = (k:Int) + 1 + 1 + 1:=IntWalk.i64_in _ (by omega)
 have v3:decide ((k:Int) + 1 + 1 + 1 < s.size) = false:=by simp;omega
 have HX:Hid (hexI 0 = -1):=rfl
 have HY:=HX
 clear h h92 hq hd
 have e1:((k:Int) + 1).toNat = k + 1:=by omega
 have p1:0 ≤ (k:Int) + 1:=by omega
 have l1:(k:Int) + 1 < s.size:=by omega
 go_enter Tryz.func223,Tryz.ntmps223
 go_wp2_with fail
 go_quiet (fail)
 go_wp2_with (go_at_call 153;refine (more_is true b (k + 1) cs T s _ H.out.drew.step hM.out).mono ?_;rintro e w1 ⟨rfl,n1,rfl⟩)
 go_quiet (fail)
 go_wp2_with fail
 go_quiet ((go_at_call 247;first | exact Calls.quiet_of_same (lexHex_is (-1) _ _ HX.out) | exact Calls.quiet_of_same (lexHex_is (-1) _ _ HY.out)))
 go_wp2_with fail
 go_ret2
 exact pieced_no hfin.out (grown_drewN (grown_set (grown_drewN (grown_set (grown_drewN (grown_refl _ _) _) _ rfl _) _) _ rfl _) _)
set_option maxHeartbeats 2000000 in
set_option maxRecDepth 100000 in
theorem piece_esc120_no1 (b k:Nat) (cs:Array Value) (T:TypeId) (s:ByteArray) (q:UInt8) (w:World) (h:TextAt w b cs T s k) (hk:k < s.size) (hs:s.size ≤ 1048576) (h92:s[k].toNat = 92) (hq:s[k] ≠ q) (hc:k + 1 < s.size) (hd:s[k + 1].toNat = 120) (hx:k + 3 < s.size) (hg:hexN s[k + 2] = none) :
 Calls Tryz.prog 223 #[.pointer (some ⟨b,0,none⟩),.int .u8 (q.toNat:Int)] w (Pieced w b cs T s k (pieceL (sfx s k))):=by
 have hfin:=Hd (show pieceL (sfx s k) = none by
  rw [pieceL_esc hk h92 hc,esc_hex _ hd,sfx_cons s (k + 2) (by omega),sfx_cons s (k + 3) (by omega)]
  simp only [hg])
 have c0:=h.c0
 have c1:=h.c1
 have f1:=h.f1 1
 have H:=Hd h
 have t1:decide ((s[k].toNat:Int) < 32) = false:=by simp;omega
 have t2:decide ((126:Int) < s[k].toNat) = false:=by simp;omega
 have t3:((s[k].toNat:Int) == q.toNat) = false:=by
  rw [beq_eq_false_iff_ne];intro e;exact hq (UInt8.toNat_inj.1 (by omega))
 have t4:((s[k].toNat:Int) != 92) = false:=by simp;omega
 have hM:=Hd (show decide (k + 1 < s.size) = true by simpa using hc)
 have u110:((s[k + 1].toNat:Int) == 110) = false:=by simp;omega
 have u116:((s[k + 1].toNat:Int) == 116) = false:=by simp;omega
 have u114:((s[k + 1].toNat:Int) == 114) = false:=by simp;omega
 have u48:((s[k + 1].toNat:Int) == 48) = false:=by simp;omega
 have u92:((s[k + 1].toNat:Int) == 92) = false:=by simp;omega
 have u39:((s[k + 1].toNat:Int) == 39) = false:=by simp;omega
 have u34:((s[k + 1].toNat:Int) == 34) = false:=by simp;omega
 have u120:((s[k + 1].toNat:Int) == 120) = true:=by simp [hd]
 have e2:((k:Int) + 1 + 1).toNat = k + 2:=by omega
 have p2:0 ≤ (k:Int) + 1 + 1:=by omega
 have e3:((k:Int) + 1 + 1 + 1).toNat = k + 3:=by omega
 have p3:0 ≤ (k:Int) + 1 + 1 + 1:=by omega
 have w3:IntKind.i64.wrap ((k:Int) + 1 + 1 + 1) = (k:Int) + 1 + 1 + 1:=IntWalk.i64_in _ (by omega)
 have v3:decide ((k:Int) + 1 + 1 + 1 < s.size) = true:=by simp;omega
 have l2:(k:Int) + 1 + 1 < s.size:=by omega
 have l3:(k:Int) + 1 + 1 + 1 < s.size:=by omega
 have HX:=Hd (hexN_no hg)
 have HY:=HX
 clear hg
 clear h h92 hq hd
 have e1:((k:Int) + 1).toNat = k + 1:=by omega
 have p1:0 ≤ (k:Int) + 1:=by omega
 have l1:(k:Int) + 1 < s.size:=by omega
 go_enter Tryz.func223,Tryz.ntmps223
 go_wp2_with fail
 go_quiet (fail)
 go_wp2_with (go_at_call 153;refine (more_is true b (k + 1) cs T s _ H.out.drew.step hM.out).mono ?_;rintro e w1 ⟨rfl,n1,rfl⟩)
 go_quiet (fail)
 go_wp2_with fail
 go_quiet ((go_at_call 247;first | exact Calls.quiet_of_same (lexHex_is (-1) _ _ HX.out) | exact Calls.quiet_of_same (lexHex_is (-1) _ _ HY.out)))
 go_wp2_with fail
 go_ret2
 exact pieced_no hfin.out (grown_drewN (grown_set (grown_drewN (grown_set (grown_drewN (grown_refl _ _) _) _ rfl _) _) _ rfl _) _)
set_option maxHeartbeats 2000000 in
set_option maxRecDepth 100000 in
theorem piece_esc120_no2 (b k:Nat) (cs:Array Value) (T:TypeId) (s:ByteArray) (q:UInt8) (w:World) (h:TextAt w b cs T s k) (hk:k < s.size) (hs:s.size ≤ 1048576) (h92:s[k].toNat = 92) (hq:s[k] ≠ q) (hc:k + 1 < s.size) (hd:s[k + 1].toNat = 120) (hx:k + 3 < s.size) (a:Nat) (hg:hexN s[k + 2] = some a) (hg2:hexN s[k + 3] = none) :
 Calls Tryz.prog 223 #[.pointer (some ⟨b,0,none⟩),.int .u8 (q.toNat:Int)] w (Pieced w b cs T s k (pieceL (sfx s k))):=by
 have hfin:=Hd (show pieceL (sfx s k) = none by
  rw [pieceL_esc hk h92 hc,esc_hex _ hd,sfx_cons s (k + 2) (by omega),sfx_cons s (k + 3) (by omega)]
  simp only [hg,hg2])
 have c0:=h.c0
 have c1:=h.c1
 have f1:=h.f1 1
 have H:=Hd h
 have t1:decide ((s[k].toNat:Int) < 32) = false:=by simp;omega
 have t2:decide ((126:Int) < s[k].toNat) = false:=by simp;omega
 have t3:((s[k].toNat:Int) == q.toNat) = false:=by
  rw [beq_eq_false_iff_ne];intro e;exact hq (UInt8.toNat_inj.1 (by omega))
 have t4:((s[k].toNat:Int) != 92) = false:=by simp;omega
 have hM:=Hd (show decide (k + 1 < s.size) = true by simpa using hc)
 have u110:((s[k + 1].toNat:Int) == 110) = false:=by simp;omega
 have u116:((s[k + 1].toNat:Int) == 116) = false:=by simp;omega
 have u114:((s[k + 1].toNat:Int) == 114) = false:=by simp;omega
 have u48:((s[k + 1].toNat:Int) == 48) = false:=by simp;omega
 have u92:((s[k + 1].toNat:Int) == 92) = false:=by simp;omega
 have u39:((s[k + 1].toNat:Int) == 39) = false:=by simp;omega
 have u34:((s[k + 1].toNat:Int) == 34) = false:=by simp;omega
 have u120:((s[k + 1].toNat:Int) == 120) = true:=by simp [hd]
 have e2:((k:Int) + 1 + 1).toNat = k + 2:=by omega
 have p2:0 ≤ (k:Int) + 1 + 1:=by omega
 have e3:((k:Int) + 1 + 1 + 1).toNat = k + 3:=by omega
 have p3:0 ≤ (k:Int) + 1 + 1 + 1:=by omega
 have w3:IntKind.i64.wrap ((k:Int) + 1 + 1 + 1) = (k:Int) + 1 + 1 + 1:=IntWalk.i64_in _ (by omega)
 have v3:decide ((k:Int) + 1 + 1 + 1 < s.size) = true:=by simp;omega
 have l2:(k:Int) + 1 + 1 < s.size:=by omega
 have l3:(k:Int) + 1 + 1 + 1 < s.size:=by omega
 have HX:=Hd (hexN_lt hg).2
 have HY:=Hd (hexN_no hg2)
 clear hg hg2
 clear h h92 hq hd
 have e1:((k:Int) + 1).toNat = k + 1:=by omega
 have p1:0 ≤ (k:Int) + 1:=by omega
 have l1:(k:Int) + 1 < s.size:=by omega
 go_enter Tryz.func223,Tryz.ntmps223
 go_wp2_with fail
 go_quiet (fail)
 go_wp2_with (go_at_call 153;refine (more_is true b (k + 1) cs T s _ H.out.drew.step hM.out).mono ?_;rintro e w1 ⟨rfl,n1,rfl⟩)
 go_quiet (fail)
 go_wp2_with fail
 go_quiet ((go_at_call 247;first | exact Calls.quiet_of_same (lexHex_is a _ _ HX.out) | exact Calls.quiet_of_same (lexHex_is (-1) _ _ HY.out)))
 go_wp2_with fail
 go_ret2
 exact pieced_no hfin.out (grown_drewN (grown_set (grown_drewN (grown_set (grown_drewN (grown_refl _ _) _) _ rfl _) _) _ rfl _) _)
end Go.Proofs.YtkokdafkjjcgoaaGreatDoor
