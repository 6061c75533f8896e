/- Kinds of nodes; what may be whose part: the program; kinds:  -/
import Derived.Test.YtbbaooeioogijaaGreatDoorMg11
import Derived.Test.YtbbaooeioogijaaGreatDoorMg4
namespace Go.Proofs.YtbbaooeioogijaaGreatDoor
open Go.RowKit
theorem expr_ok (k:Int) (w:World):Calls Tryz.prog 84 #[.int .i64 k] w fun e w'=>e = .returned (.bool (exprK k)) ∧ w' = w:=by
 by_cases h1:1 ≤ k
 ·have t1:decide (1 ≤ k) = true:=by simpa using h1
  by_cases h2:k ≤ 17
  ·have t2:decide (k ≤ 17) = true:=by simpa using h2
   have hr:exprK k = true:=by unfold exprK;simp;omega
   rw [hr]
   go_enter Tryz.func84,Tryz.ntmps84
   go_wp2_with fail
   go_ret
   exact ⟨rfl,rfl⟩
  ·have t2:decide (k ≤ 17) = false:=by simpa using h2
   have hr:exprK k = false:=by unfold exprK;simp;omega
   rw [hr]
   go_enter Tryz.func84,Tryz.ntmps84
   go_wp2_with fail
   go_ret
   exact ⟨rfl,rfl⟩
 ·have t1:decide (1 ≤ k) = false:=by simpa using h1
  have hr:exprK k = false:=by unfold exprK;simp;omega
  rw [hr]
  go_enter Tryz.func84,Tryz.ntmps84
  go_wp2_with fail
  go_ret
  exact ⟨rfl,rfl⟩
theorem refExpr_ok (k:Int) (w:World):Calls Tryz.prog 61 #[.int .i64 k] w fun e w'=>e = .returned (.bool (exprK k)) ∧ w' = w:=by
 by_cases h1:1 ≤ k
 ·have t1:decide (1 ≤ k) = true:=by simpa using h1
  by_cases h2:k ≤ 17
  ·have t2:decide (k ≤ 17) = true:=by simpa using h2
   have hr:exprK k = true:=by unfold exprK;simp;omega
   rw [hr]
   go_enter Tryz.func61,Tryz.ntmps61
   go_wp2_with fail
   go_ret
   exact ⟨rfl,rfl⟩
  ·have t2:decide (k ≤ 17) = false:=by simpa using h2
   have hr:exprK k = false:=by unfold exprK;simp;omega
   rw [hr]
   go_enter Tryz.func61,Tryz.ntmps61
   go_wp2_with fail
   go_ret
   exact ⟨rfl,rfl⟩
 ·have t1:decide (1 ≤ k) = false:=by simpa using h1
  have hr:exprK k = false:=by unfold exprK;simp;omega
  rw [hr]
  go_enter Tryz.func61,Tryz.ntmps61
  go_wp2_with fail
  go_ret
  exact ⟨rfl,rfl⟩
theorem stmt_ok (k:Int) (w:World):Calls Tryz.prog 124 #[.int .i64 k] w fun e w'=>e = .returned (.bool (stmtK k)) ∧ w' = w:=by
 by_cases h1:20 ≤ k
 ·have t1:decide (20 ≤ k) = true:=by simpa using h1
  by_cases h2:k ≤ 32
  ·have t2:decide (k ≤ 32) = true:=by simpa using h2
   by_cases h3:k = 22
   ·have t3:(k != 22) = false:=by simpa using h3
    have hr:stmtK k = false:=by unfold stmtK;simp;omega
    rw [hr]
    go_enter Tryz.func124,Tryz.ntmps124
    go_wp2_with fail
    go_ret
    exact ⟨rfl,rfl⟩
   ·have t3:(k != 22) = true:=by simpa using h3
    have hr:stmtK k = true:=by unfold stmtK;simp;omega
    rw [hr]
    go_enter Tryz.func124,Tryz.ntmps124
    go_wp2_with fail
    go_ret
    exact ⟨rfl,rfl⟩
  ·have t2:decide (k ≤ 32) = false:=by simpa using h2
   have hr:stmtK k = false:=by unfold stmtK;simp;omega
   rw [hr]
   go_enter Tryz.func124,Tryz.ntmps124
   go_wp2_with fail
   go_ret
   exact ⟨rfl,rfl⟩
 ·have t1:decide (20 ≤ k) = false:=by simpa using h1
  have hr:stmtK k = false:=by unfold stmtK;simp;omega
  rw [hr]
  go_enter Tryz.func124,Tryz.ntmps124
  go_wp2_with fail
  go_ret
  exact ⟨rfl,rfl⟩
theorem refStmt_ok (k:Int) (w:World):Calls Tryz.prog 105 #[.int .i64 k] w fun e w'=>e = .returned (.bool (stmtK k)) ∧ w' = w:=by
 by_cases h1:20 ≤ k
 ·have t1:decide (20 ≤ k) = true:=by simpa using h1
  by_cases h2:k ≤ 32
  ·have t2:decide (k ≤ 32) = true:=by simpa using h2
   by_cases h3:k = 22
   ·have t3:(k != 22) = false:=by simpa using h3
    have hr:stmtK k = false:=by unfold stmtK;simp;omega
    rw [hr]
    go_enter Tryz.func105,Tryz.ntmps105
    go_wp2_with fail
    go_ret
    exact ⟨rfl,rfl⟩
   ·have t3:(k != 22) = true:=by simpa using h3
    have hr:stmtK k = true:=by unfold stmtK;simp;omega
    rw [hr]
    go_enter Tryz.func105,Tryz.ntmps105
    go_wp2_with fail
    go_ret
    exact ⟨rfl,rfl⟩
  ·have t2:decide (k ≤ 32) = false:=by simpa using h2
   have hr:stmtK k = false:=by unfold stmtK;simp;omega
   rw [hr]
   go_enter Tryz.func105,Tryz.ntmps105
   go_wp2_with fail
   go_ret
   exact ⟨rfl,rfl⟩
 ·have t1:decide (20 ≤ k) = false:=by simpa using h1
  have hr:stmtK k = false:=by unfold stmtK;simp;omega
  rw [hr]
  go_enter Tryz.func105,Tryz.ntmps105
  go_wp2_with fail
  go_ret
  exact ⟨rfl,rfl⟩
theorem may_expr (k q:Int) (i:Nat) (w:World) (hx:exprK k = true):Calls Tryz.prog 101 #[.int .i64 k,.int .i64 (i:Int),.int .i64 q] w fun e w'=>e = .returned (.bool (exprK q)) ∧ w' = w:=by
 have HEk:=Hd (fun w=>expr_ok k w)
 have HEq:=Hd (fun w=>expr_ok q w)
 have HSq:=Hd (fun w=>stmt_ok q w)
 rw [hx] at HEk
 generalize exprK q = E at *
 go_enter Tryz.func101,Tryz.ntmps101
 go_wp2_with (first | (go_at_call 84;(with_reducible refine (HEk.out _).mono ?_);rintro e w2 ⟨rfl,hw2⟩;subst w2) | (go_at_call 84;(with_reducible refine (HEq.out _).mono ?_);rintro e w2 ⟨rfl,hw2⟩;subst w2) | (go_at_call 124;(with_reducible refine (HSq.out _).mono ?_);rintro e w2 ⟨rfl,hw2⟩;subst w2))
 go_ret
 exact ⟨rfl,rfl⟩
theorem may_20 (k q:Int) (i:Nat) (w:World) (hk:k = 20):Calls Tryz.prog 101 #[.int .i64 k,.int .i64 (i:Int),.int .i64 q] w fun e w'=>e = .returned (.bool (exprK q)) ∧ w' = w:=by
 have HEk:=Hd (fun w=>expr_ok k w)
 have HEq:=Hd (fun w=>expr_ok q w)
 have HSq:=Hd (fun w=>stmt_ok q w)
 have hx:exprK k = false:=by rw [hk];rfl
 rw [hx] at HEk
 have g20:(k == 20) = true:=by rw [hk];rfl
 have g21:(k == 21) = false:=by rw [hk];rfl
 have g22:(k == 22) = false:=by rw [hk];rfl
 have g23:(k == 23) = false:=by rw [hk];rfl
 have g24:(k == 24) = false:=by rw [hk];rfl
 have g25:(k == 25) = false:=by rw [hk];rfl
 have g26:(k == 26) = false:=by rw [hk];rfl
 have g27:(k == 27) = false:=by rw [hk];rfl
 have g28:(k == 28) = false:=by rw [hk];rfl
 have g32:(k == 32) = false:=by rw [hk];rfl
 clear hk hx
 generalize exprK q = E at *
 go_enter Tryz.func101,Tryz.ntmps101
 go_wp2_with (first | (go_at_call 84;(with_reducible refine (HEk.out _).mono ?_);rintro e w2 ⟨rfl,hw2⟩;subst w2) | (go_at_call 84;(with_reducible refine (HEq.out _).mono ?_);rintro e w2 ⟨rfl,hw2⟩;subst w2) | (go_at_call 124;(with_reducible refine (HSq.out _).mono ?_);rintro e w2 ⟨rfl,hw2⟩;subst w2))
 go_ret
 exact ⟨rfl,rfl⟩
theorem may_22 (k q:Int) (i:Nat) (w:World) (hk:k = 22):Calls Tryz.prog 101 #[.int .i64 k,.int .i64 (i:Int),.int .i64 q] w fun e w'=>e = .returned (.bool (exprK q)) ∧ w' = w:=by
 have HEk:=Hd (fun w=>expr_ok k w)
 have HEq:=Hd (fun w=>expr_ok q w)
 have HSq:=Hd (fun w=>stmt_ok q w)
 have hx:exprK k = false:=by rw [hk];rfl
 rw [hx] at HEk
 have g20:(k == 20) = false:=by rw [hk];rfl
 have g21:(k == 21) = false:=by rw [hk];rfl
 have g22:(k == 22) = true:=by rw [hk];rfl
 have g23:(k == 23) = false:=by rw [hk];rfl
 have g24:(k == 24) = false:=by rw [hk];rfl
 have g25:(k == 25) = false:=by rw [hk];rfl
 have g26:(k == 26) = false:=by rw [hk];rfl
 have g27:(k == 27) = false:=by rw [hk];rfl
 have g28:(k == 28) = false:=by rw [hk];rfl
 have g32:(k == 32) = false:=by rw [hk];rfl
 clear hk hx
 generalize exprK q = E at *
 go_enter Tryz.func101,Tryz.ntmps101
 go_wp2_with (first | (go_at_call 84;(with_reducible refine (HEk.out _).mono ?_);rintro e w2 ⟨rfl,hw2⟩;subst w2) | (go_at_call 84;(with_reducible refine (HEq.out _).mono ?_);rintro e w2 ⟨rfl,hw2⟩;subst w2) | (go_at_call 124;(with_reducible refine (HSq.out _).mono ?_);rintro e w2 ⟨rfl,hw2⟩;subst w2))
 go_ret
 exact ⟨rfl,rfl⟩
theorem may_32 (k q:Int) (i:Nat) (w:World) (hk:k = 32):Calls Tryz.prog 101 #[.int .i64 k,.int .i64 (i:Int),.int .i64 q] w fun e w'=>e = .returned (.bool (exprK q)) ∧ w' = w:=by
 have HEk:=Hd (fun w=>expr_ok k w)
 have HEq:=Hd (fun w=>expr_ok q w)
 have HSq:=Hd (fun w=>stmt_ok q w)
 have hx:exprK k = false:=by rw [hk];rfl
 rw [hx] at HEk
 have g20:(k == 20) = false:=by rw [hk];rfl
 have g21:(k == 21) = false:=by rw [hk];rfl
 have g22:(k == 22) = false:=by rw [hk];rfl
 have g23:(k == 23) = false:=by rw [hk];rfl
 have g24:(k == 24) = false:=by rw [hk];rfl
 have g25:(k == 25) = false:=by rw [hk];rfl
 have g26:(k == 26) = false:=by rw [hk];rfl
 have g27:(k == 27) = false:=by rw [hk];rfl
 have g28:(k == 28) = false:=by rw [hk];rfl
 have g32:(k == 32) = true:=by rw [hk];rfl
 clear hk hx
 generalize exprK q = E at *
 go_enter Tryz.func101,Tryz.ntmps101
 go_wp2_with (first | (go_at_call 84;(with_reducible refine (HEk.out _).mono ?_);rintro e w2 ⟨rfl,hw2⟩;subst w2) | (go_at_call 84;(with_reducible refine (HEq.out _).mono ?_);rintro e w2 ⟨rfl,hw2⟩;subst w2) | (go_at_call 124;(with_reducible refine (HSq.out _).mono ?_);rintro e w2 ⟨rfl,hw2⟩;subst w2))
 go_ret
 exact ⟨rfl,rfl⟩
theorem may_26_0 (k q:Int) (i:Nat) (w:World) (hk:k = 26) (hi:i = 0):Calls Tryz.prog 101 #[.int .i64 k,.int .i64 (i:Int),.int .i64 q] w fun e w'=>e = .returned (.bool (decide (q = 20 ∨ q = 22 ∨ q = 33))) ∧ w' = w:=by
 have HEk:=Hd (fun w=>expr_ok k w)
 have HEq:=Hd (fun w=>expr_ok q w)
 have HSq:=Hd (fun w=>stmt_ok q w)
 have hx:exprK k = false:=by rw [hk];rfl
 rw [hx] at HEk
 have g20:(k == 20) = false:=by rw [hk];rfl
 have g21:(k == 21) = false:=by rw [hk];rfl
 have g22:(k == 22) = false:=by rw [hk];rfl
 have g23:(k == 23) = false:=by rw [hk];rfl
 have g24:(k == 24) = false:=by rw [hk];rfl
 have g25:(k == 25) = false:=by rw [hk];rfl
 have g26:(k == 26) = true:=by rw [hk];rfl
 have g27:(k == 27) = false:=by rw [hk];rfl
 have g28:(k == 28) = false:=by rw [hk];rfl
 have g32:(k == 32) = false:=by rw [hk];rfl
 clear hk hx
 subst hi
 by_cases q20:q = 20
 ·have f1:(q == 20) = true:=by rw [q20];rfl
  have hv:decide (q = 20 ∨ q = 22 ∨ q = 33) = true:=by simp [q20]
  rw [hv]
  clear q20 hv
  go_enter Tryz.func101,Tryz.ntmps101
  go_wp2_with (first | (go_at_call 84;(with_reducible refine (HEk.out _).mono ?_);rintro e w2 ⟨rfl,hw2⟩;subst w2) | (go_at_call 84;(with_reducible refine (HEq.out _).mono ?_);rintro e w2 ⟨rfl,hw2⟩;subst w2) | (go_at_call 124;(with_reducible refine (HSq.out _).mono ?_);rintro e w2 ⟨rfl,hw2⟩;subst w2))
  go_ret
  exact ⟨rfl,rfl⟩
 ·have f1:(q == 20) = false:=by simpa using q20
  by_cases q22:q = 22
  ·have f2:(q == 22) = true:=by rw [q22];rfl
   have hv:decide (q = 20 ∨ q = 22 ∨ q = 33) = true:=by simp [q22]
   rw [hv]
   clear q20 q22 hv
   go_enter Tryz.func101,Tryz.ntmps101
   go_wp2_with (first | (go_at_call 84;(with_reducible refine (HEk.out _).mono ?_);rintro e w2 ⟨rfl,hw2⟩;subst w2) | (go_at_call 84;(with_reducible refine (HEq.out _).mono ?_);rintro e w2 ⟨rfl,hw2⟩;subst w2) | (go_at_call 124;(with_reducible refine (HSq.out _).mono ?_);rintro e w2 ⟨rfl,hw2⟩;subst w2))
   go_ret
   exact ⟨rfl,rfl⟩
  ·have f2:(q == 22) = false:=by simpa using q22
   by_cases q33:q = 33
   ·have f3:(q == 33) = true:=by rw [q33];rfl
    have hv:decide (q = 20 ∨ q = 22 ∨ q = 33) = true:=by simp [q33]
    rw [hv]
    clear q20 q22 q33 hv
    go_enter Tryz.func101,Tryz.ntmps101
    go_wp2_with (first | (go_at_call 84;(with_reducible refine (HEk.out _).mono ?_);rintro e w2 ⟨rfl,hw2⟩;subst w2) | (go_at_call 84;(with_reducible refine (HEq.out _).mono ?_);rintro e w2 ⟨rfl,hw2⟩;subst w2) | (go_at_call 124;(with_reducible refine (HSq.out _).mono ?_);rintro e w2 ⟨rfl,hw2⟩;subst w2))
    go_ret
    exact ⟨rfl,rfl⟩
   ·have f3:(q == 33) = false:=by simpa using q33
    have hv:decide (q = 20 ∨ q = 22 ∨ q = 33) = false:=by simp [q20,q22,q33]
    rw [hv]
    clear q20 q22 q33 hv
    go_enter Tryz.func101,Tryz.ntmps101
    go_wp2_with (first | (go_at_call 84;(with_reducible refine (HEk.out _).mono ?_);rintro e w2 ⟨rfl,hw2⟩;subst w2) | (go_at_call 84;(with_reducible refine (HEq.out _).mono ?_);rintro e w2 ⟨rfl,hw2⟩;subst w2) | (go_at_call 124;(with_reducible refine (HSq.out _).mono ?_);rintro e w2 ⟨rfl,hw2⟩;subst w2))
    go_ret
    exact ⟨rfl,rfl⟩
theorem may_26_3 (k q:Int) (i:Nat) (w:World) (hk:k = 26) (hi:i = 3):Calls Tryz.prog 101 #[.int .i64 k,.int .i64 (i:Int),.int .i64 q] w fun e w'=>e = .returned (.bool (stmtK q)) ∧ w' = w:=by
 have HEk:=Hd (fun w=>expr_ok k w)
 have HEq:=Hd (fun w=>expr_ok q w)
 have HSq:=Hd (fun w=>stmt_ok q w)
 have hx:exprK k = false:=by rw [hk];rfl
 rw [hx] at HEk
 have g20:(k == 20) = false:=by rw [hk];rfl
 have g21:(k == 21) = false:=by rw [hk];rfl
 have g22:(k == 22) = false:=by rw [hk];rfl
 have g23:(k == 23) = false:=by rw [hk];rfl
 have g24:(k == 24) = false:=by rw [hk];rfl
 have g25:(k == 25) = false:=by rw [hk];rfl
 have g26:(k == 26) = true:=by rw [hk];rfl
 have g27:(k == 27) = false:=by rw [hk];rfl
 have g28:(k == 28) = false:=by rw [hk];rfl
 have g32:(k == 32) = false:=by rw [hk];rfl
 clear hk hx
 subst hi
 generalize stmtK q = S at *
 go_enter Tryz.func101,Tryz.ntmps101
 go_wp2_with (first | (go_at_call 84;(with_reducible refine (HEk.out _).mono ?_);rintro e w2 ⟨rfl,hw2⟩;subst w2) | (go_at_call 84;(with_reducible refine (HEq.out _).mono ?_);rintro e w2 ⟨rfl,hw2⟩;subst w2) | (go_at_call 124;(with_reducible refine (HSq.out _).mono ?_);rintro e w2 ⟨rfl,hw2⟩;subst w2))
 go_ret
 exact ⟨rfl,rfl⟩
theorem may_26_x (k q:Int) (i:Nat) (w:World) (hk:k = 26) (hi0:i ≠ 0) (hi3:i ≠ 3):Calls Tryz.prog 101 #[.int .i64 k,.int .i64 (i:Int),.int .i64 q] w fun e w'=>e = .returned (.bool (exprK q || decide (q = 33))) ∧ w' = w:=by
 have HEk:=Hd (fun w=>expr_ok k w)
 have HEq:=Hd (fun w=>expr_ok q w)
 have HSq:=Hd (fun w=>stmt_ok q w)
 have hx:exprK k = false:=by rw [hk];rfl
 rw [hx] at HEk
 have g20:(k == 20) = false:=by rw [hk];rfl
 have g21:(k == 21) = false:=by rw [hk];rfl
 have g22:(k == 22) = false:=by rw [hk];rfl
 have g23:(k == 23) = false:=by rw [hk];rfl
 have g24:(k == 24) = false:=by rw [hk];rfl
 have g25:(k == 25) = false:=by rw [hk];rfl
 have g26:(k == 26) = true:=by rw [hk];rfl
 have g27:(k == 27) = false:=by rw [hk];rfl
 have g28:(k == 28) = false:=by rw [hk];rfl
 have g32:(k == 32) = false:=by rw [hk];rfl
 clear hk hx
 have e0:((i:Int) == 0) = false:=by simp;omega
 have e3:((i:Int) == 3) = false:=by simp;omega
 clear hi0 hi3
 generalize exprK q = E at *
 rcases E with _ | _
 ·by_cases qc:q = 33
  ·have f1:(q == 33) = true:=by rw [qc];rfl
   have hv:(false || decide (q = 33)) = true:=by simp [qc]
   rw [hv]
   clear qc hv
   go_enter Tryz.func101,Tryz.ntmps101
   go_wp2_with (first | (go_at_call 84;(with_reducible refine (HEk.out _).mono ?_);rintro e w2 ⟨rfl,hw2⟩;subst w2) | (go_at_call 84;(with_reducible refine (HEq.out _).mono ?_);rintro e w2 ⟨rfl,hw2⟩;subst w2) | (go_at_call 124;(with_reducible refine (HSq.out _).mono ?_);rintro e w2 ⟨rfl,hw2⟩;subst w2))
   go_ret
   exact ⟨rfl,rfl⟩
  ·have f1:(q == 33) = false:=by simpa using qc
   have hv:(false || decide (q = 33)) = false:=by simp [qc]
   rw [hv]
   clear qc hv
   go_enter Tryz.func101,Tryz.ntmps101
   go_wp2_with (first | (go_at_call 84;(with_reducible refine (HEk.out _).mono ?_);rintro e w2 ⟨rfl,hw2⟩;subst w2) | (go_at_call 84;(with_reducible refine (HEq.out _).mono ?_);rintro e w2 ⟨rfl,hw2⟩;subst w2) | (go_at_call 124;(with_reducible refine (HSq.out _).mono ?_);rintro e w2 ⟨rfl,hw2⟩;subst w2))
   go_ret
   exact ⟨rfl,rfl⟩
 ·have hv:(true || decide (q = 33)) = true:=by simp
  rw [hv]
  clear hv
  go_enter Tryz.func101,Tryz.ntmps101
  go_wp2_with (first | (go_at_call 84;(with_reducible refine (HEk.out _).mono ?_);rintro e w2 ⟨rfl,hw2⟩;subst w2) | (go_at_call 84;(with_reducible refine (HEq.out _).mono ?_);rintro e w2 ⟨rfl,hw2⟩;subst w2) | (go_at_call 124;(with_reducible refine (HSq.out _).mono ?_);rintro e w2 ⟨rfl,hw2⟩;subst w2))
  go_ret
  exact ⟨rfl,rfl⟩
theorem may_21 (k q:Int) (i:Nat) (w:World) (hk:k = 21):Calls Tryz.prog 101 #[.int .i64 k,.int .i64 (i:Int),.int .i64 q] w fun e w'=>e = .returned (.bool (stmtK q || decide (q = 22))) ∧ w' = w:=by
 have HEk:=Hd (fun w=>expr_ok k w)
 have HEq:=Hd (fun w=>expr_ok q w)
 have HSq:=Hd (fun w=>stmt_ok q w)
 have hx:exprK k = false:=by rw [hk];rfl
 rw [hx] at HEk
 have g20:(k == 20) = false:=by rw [hk];rfl
 have g21:(k == 21) = true:=by rw [hk];rfl
 have g22:(k == 22) = false:=by rw [hk];rfl
 have g23:(k == 23) = false:=by rw [hk];rfl
 have g24:(k == 24) = false:=by rw [hk];rfl
 have g25:(k == 25) = false:=by rw [hk];rfl
 have g26:(k == 26) = false:=by rw [hk];rfl
 have g27:(k == 27) = false:=by rw [hk];rfl
 have g28:(k == 28) = false:=by rw [hk];rfl
 have g32:(k == 32) = false:=by rw [hk];rfl
 clear hk hx
 generalize stmtK q = S at *
 rcases S with _ | _
 ·by_cases qc:q = 22
  ·have f1:(q == 22) = true:=by rw [qc];rfl
   have hv:(false || decide (q = 22)) = true:=by simp [qc]
   rw [hv]
   clear qc hv
   go_enter Tryz.func101,Tryz.ntmps101
   go_wp2_with (first | (go_at_call 84;(with_reducible refine (HEk.out _).mono ?_);rintro e w2 ⟨rfl,hw2⟩;subst w2) | (go_at_call 84;(with_reducible refine (HEq.out _).mono ?_);rintro e w2 ⟨rfl,hw2⟩;subst w2) | (go_at_call 124;(with_reducible refine (HSq.out _).mono ?_);rintro e w2 ⟨rfl,hw2⟩;subst w2))
   go_ret
   exact ⟨rfl,rfl⟩
  ·have f1:(q == 22) = false:=by simpa using qc
   have hv:(false || decide (q = 22)) = false:=by simp [qc]
   rw [hv]
   clear qc hv
   go_enter Tryz.func101,Tryz.ntmps101
   go_wp2_with (first | (go_at_call 84;(with_reducible refine (HEk.out _).mono ?_);rintro e w2 ⟨rfl,hw2⟩;subst w2) | (go_at_call 84;(with_reducible refine (HEq.out _).mono ?_);rintro e w2 ⟨rfl,hw2⟩;subst w2) | (go_at_call 124;(with_reducible refine (HSq.out _).mono ?_);rintro e w2 ⟨rfl,hw2⟩;subst w2))
   go_ret
   exact ⟨rfl,rfl⟩
 ·have hv:(true || decide (q = 22)) = true:=by simp
  rw [hv]
  clear hv
  go_enter Tryz.func101,Tryz.ntmps101
  go_wp2_with (first | (go_at_call 84;(with_reducible refine (HEk.out _).mono ?_);rintro e w2 ⟨rfl,hw2⟩;subst w2) | (go_at_call 84;(with_reducible refine (HEq.out _).mono ?_);rintro e w2 ⟨rfl,hw2⟩;subst w2) | (go_at_call 124;(with_reducible refine (HSq.out _).mono ?_);rintro e w2 ⟨rfl,hw2⟩;subst w2))
  go_ret
  exact ⟨rfl,rfl⟩
theorem may_25_0 (k q:Int) (i:Nat) (w:World) (hk:k = 25) (hi:i = 0):Calls Tryz.prog 101 #[.int .i64 k,.int .i64 (i:Int),.int .i64 q] w fun e w'=>e = .returned (.bool (stmtK q)) ∧ w' = w:=by
 have HEk:=Hd (fun w=>expr_ok k w)
 have HEq:=Hd (fun w=>expr_ok q w)
 have HSq:=Hd (fun w=>stmt_ok q w)
 have hx:exprK k = false:=by rw [hk];rfl
 rw [hx] at HEk
 have g20:(k == 20) = false:=by rw [hk];rfl
 have g21:(k == 21) = false:=by rw [hk];rfl
 have g22:(k == 22) = false:=by rw [hk];rfl
 have g23:(k == 23) = false:=by rw [hk];rfl
 have g24:(k == 24) = false:=by rw [hk];rfl
 have g25:(k == 25) = true:=by rw [hk];rfl
 have g26:(k == 26) = false:=by rw [hk];rfl
 have g27:(k == 27) = false:=by rw [hk];rfl
 have g28:(k == 28) = false:=by rw [hk];rfl
 have g32:(k == 32) = false:=by rw [hk];rfl
 clear hk hx
 subst hi
 generalize stmtK q = S at *
 cases S
 ·go_enter Tryz.func101,Tryz.ntmps101
  go_wp2_with (first | (go_at_call 84;(with_reducible refine (HEk.out _).mono ?_);rintro e w2 ⟨rfl,hw2⟩;subst w2) | (go_at_call 84;(with_reducible refine (HEq.out _).mono ?_);rintro e w2 ⟨rfl,hw2⟩;subst w2) | (go_at_call 124;(with_reducible refine (HSq.out _).mono ?_);rintro e w2 ⟨rfl,hw2⟩;subst w2))
  go_ret
  exact ⟨rfl,rfl⟩
 ·go_enter Tryz.func101,Tryz.ntmps101
  go_wp2_with (first | (go_at_call 84;(with_reducible refine (HEk.out _).mono ?_);rintro e w2 ⟨rfl,hw2⟩;subst w2) | (go_at_call 84;(with_reducible refine (HEq.out _).mono ?_);rintro e w2 ⟨rfl,hw2⟩;subst w2) | (go_at_call 124;(with_reducible refine (HSq.out _).mono ?_);rintro e w2 ⟨rfl,hw2⟩;subst w2))
  go_ret
  exact ⟨rfl,rfl⟩
theorem may_25_1 (k q:Int) (i:Nat) (w:World) (hk:k = 25) (hi:i = 1):Calls Tryz.prog 101 #[.int .i64 k,.int .i64 (i:Int),.int .i64 q] w fun e w'=>e = .returned (.bool (exprK q)) ∧ w' = w:=by
 have HEk:=Hd (fun w=>expr_ok k w)
 have HEq:=Hd (fun w=>expr_ok q w)
 have HSq:=Hd (fun w=>stmt_ok q w)
 have hx:exprK k = false:=by rw [hk];rfl
 rw [hx] at HEk
 have g20:(k == 20) = false:=by rw [hk];rfl
 have g21:(k == 21) = false:=by rw [hk];rfl
 have g22:(k == 22) = false:=by rw [hk];rfl
 have g23:(k == 23) = false:=by rw [hk];rfl
 have g24:(k == 24) = false:=by rw [hk];rfl
 have g25:(k == 25) = true:=by rw [hk];rfl
 have g26:(k == 26) = false:=by rw [hk];rfl
 have g27:(k == 27) = false:=by rw [hk];rfl
 have g28:(k == 28) = false:=by rw [hk];rfl
 have g32:(k == 32) = false:=by rw [hk];rfl
 clear hk hx
 subst hi
 generalize exprK q = E at *
 cases E
 ·go_enter Tryz.func101,Tryz.ntmps101
  go_wp2_with (first | (go_at_call 84;(with_reducible refine (HEk.out _).mono ?_);rintro e w2 ⟨rfl,hw2⟩;subst w2) | (go_at_call 84;(with_reducible refine (HEq.out _).mono ?_);rintro e w2 ⟨rfl,hw2⟩;subst w2) | (go_at_call 124;(with_reducible refine (HSq.out _).mono ?_);rintro e w2 ⟨rfl,hw2⟩;subst w2))
  go_ret
  exact ⟨rfl,rfl⟩
 ·go_enter Tryz.func101,Tryz.ntmps101
  go_wp2_with (first | (go_at_call 84;(with_reducible refine (HEk.out _).mono ?_);rintro e w2 ⟨rfl,hw2⟩;subst w2) | (go_at_call 84;(with_reducible refine (HEq.out _).mono ?_);rintro e w2 ⟨rfl,hw2⟩;subst w2) | (go_at_call 124;(with_reducible refine (HSq.out _).mono ?_);rintro e w2 ⟨rfl,hw2⟩;subst w2))
  go_ret
  exact ⟨rfl,rfl⟩
theorem may_23_0 (k q:Int) (i:Nat) (w:World) (hk:k = 23) (hi:i = 0):Calls Tryz.prog 101 #[.int .i64 k,.int .i64 (i:Int),.int .i64 q] w fun e w'=>e = .returned (.bool (exprK q)) ∧ w' = w:=by
 have HEk:=Hd (fun w=>expr_ok k w)
 have HEq:=Hd (fun w=>expr_ok q w)
 have HSq:=Hd (fun w=>stmt_ok q w)
 have hx:exprK k = false:=by rw [hk];rfl
 rw [hx] at HEk
 have g20:(k == 20) = false:=by rw [hk];rfl
 have g21:(k == 21) = false:=by rw [hk];rfl
 have g22:(k == 22) = false:=by rw [hk];rfl
 have g23:(k == 23) = true:=by rw [hk];rfl
 have g24:(k == 24) = false:=by rw [hk];rfl
 have g25:(k == 25) = false:=by rw [hk];rfl
 have g26:(k == 26) = false:=by rw [hk];rfl
 have g27:(k == 27) = false:=by rw [hk];rfl
 have g28:(k == 28) = false:=by rw [hk];rfl
 have g32:(k == 32) = false:=by rw [hk];rfl
 clear hk hx
 subst hi
 generalize exprK q = E at *
 cases E
 ·go_enter Tryz.func101,Tryz.ntmps101
  go_wp2_with (first | (go_at_call 84;(with_reducible refine (HEk.out _).mono ?_);rintro e w2 ⟨rfl,hw2⟩;subst w2) | (go_at_call 84;(with_reducible refine (HEq.out _).mono ?_);rintro e w2 ⟨rfl,hw2⟩;subst w2) | (go_at_call 124;(with_reducible refine (HSq.out _).mono ?_);rintro e w2 ⟨rfl,hw2⟩;subst w2))
  go_ret
  exact ⟨rfl,rfl⟩
 ·go_enter Tryz.func101,Tryz.ntmps101
  go_wp2_with (first | (go_at_call 84;(with_reducible refine (HEk.out _).mono ?_);rintro e w2 ⟨rfl,hw2⟩;subst w2) | (go_at_call 84;(with_reducible refine (HEq.out _).mono ?_);rintro e w2 ⟨rfl,hw2⟩;subst w2) | (go_at_call 124;(with_reducible refine (HSq.out _).mono ?_);rintro e w2 ⟨rfl,hw2⟩;subst w2))
  go_ret
  exact ⟨rfl,rfl⟩
theorem may_23_x (k q:Int) (i:Nat) (w:World) (hk:k = 23) (hi:i ≠ 0):Calls Tryz.prog 101 #[.int .i64 k,.int .i64 (i:Int),.int .i64 q] w fun e w'=>e = .returned (.bool (stmtK q)) ∧ w' = w:=by
 have HEk:=Hd (fun w=>expr_ok k w)
 have HEq:=Hd (fun w=>expr_ok q w)
 have HSq:=Hd (fun w=>stmt_ok q w)
 have hx:exprK k = false:=by rw [hk];rfl
 rw [hx] at HEk
 have g20:(k == 20) = false:=by rw [hk];rfl
 have g21:(k == 21) = false:=by rw [hk];rfl
 have g22:(k == 22) = false:=by rw [hk];rfl
 have g23:(k == 23) = true:=by rw [hk];rfl
 have g24:(k == 24) = false:=by rw [hk];rfl
 have g25:(k == 25) = false:=by rw [hk];rfl
 have g26:(k == 26) = false:=by rw [hk];rfl
 have g27:(k == 27) = false:=by rw [hk];rfl
 have g28:(k == 28) = false:=by rw [hk];rfl
 have g32:(k == 32) = false:=by rw [hk];rfl
 clear hk hx
 have e0:((i:Int) == 0) = false:=by simp;omega
 have e1:0 < i:=by omega
 have e2:0 < (i:Int):=by omega
 clear hi
 generalize stmtK q = S at *
 cases S
 ·go_enter Tryz.func101,Tryz.ntmps101
  go_wp2_with (first | (go_at_call 84;(with_reducible refine (HEk.out _).mono ?_);rintro e w2 ⟨rfl,hw2⟩;subst w2) | (go_at_call 84;(with_reducible refine (HEq.out _).mono ?_);rintro e w2 ⟨rfl,hw2⟩;subst w2) | (go_at_call 124;(with_reducible refine (HSq.out _).mono ?_);rintro e w2 ⟨rfl,hw2⟩;subst w2))
  go_ret
  exact ⟨rfl,rfl⟩
 ·go_enter Tryz.func101,Tryz.ntmps101
  go_wp2_with (first | (go_at_call 84;(with_reducible refine (HEk.out _).mono ?_);rintro e w2 ⟨rfl,hw2⟩;subst w2) | (go_at_call 84;(with_reducible refine (HEq.out _).mono ?_);rintro e w2 ⟨rfl,hw2⟩;subst w2) | (go_at_call 124;(with_reducible refine (HSq.out _).mono ?_);rintro e w2 ⟨rfl,hw2⟩;subst w2))
  go_ret
  exact ⟨rfl,rfl⟩
theorem may_24_0 (k q:Int) (i:Nat) (w:World) (hk:k = 24) (hi:i = 0):Calls Tryz.prog 101 #[.int .i64 k,.int .i64 (i:Int),.int .i64 q] w fun e w'=>e = .returned (.bool (exprK q)) ∧ w' = w:=by
 have HEk:=Hd (fun w=>expr_ok k w)
 have HEq:=Hd (fun w=>expr_ok q w)
 have HSq:=Hd (fun w=>stmt_ok q w)
 have hx:exprK k = false:=by rw [hk];rfl
 rw [hx] at HEk
 have g20:(k == 20) = false:=by rw [hk];rfl
 have g21:(k == 21) = false:=by rw [hk];rfl
 have g22:(k == 22) = false:=by rw [hk];rfl
 have g23:(k == 23) = false:=by rw [hk];rfl
 have g24:(k == 24) = true:=by rw [hk];rfl
 have g25:(k == 25) = false:=by rw [hk];rfl
 have g26:(k == 26) = false:=by rw [hk];rfl
 have g27:(k == 27) = false:=by rw [hk];rfl
 have g28:(k == 28) = false:=by rw [hk];rfl
 have g32:(k == 32) = false:=by rw [hk];rfl
 clear hk hx
 subst hi
 generalize exprK q = E at *
 cases E
 ·go_enter Tryz.func101,Tryz.ntmps101
  go_wp2_with (first | (go_at_call 84;(with_reducible refine (HEk.out _).mono ?_);rintro e w2 ⟨rfl,hw2⟩;subst w2) | (go_at_call 84;(with_reducible refine (HEq.out _).mono ?_);rintro e w2 ⟨rfl,hw2⟩;subst w2) | (go_at_call 124;(with_reducible refine (HSq.out _).mono ?_);rintro e w2 ⟨rfl,hw2⟩;subst w2))
  go_ret
  exact ⟨rfl,rfl⟩
 ·go_enter Tryz.func101,Tryz.ntmps101
  go_wp2_with (first | (go_at_call 84;(with_reducible refine (HEk.out _).mono ?_);rintro e w2 ⟨rfl,hw2⟩;subst w2) | (go_at_call 84;(with_reducible refine (HEq.out _).mono ?_);rintro e w2 ⟨rfl,hw2⟩;subst w2) | (go_at_call 124;(with_reducible refine (HSq.out _).mono ?_);rintro e w2 ⟨rfl,hw2⟩;subst w2))
  go_ret
  exact ⟨rfl,rfl⟩
theorem may_24_x (k q:Int) (i:Nat) (w:World) (hk:k = 24) (hi:i ≠ 0):Calls Tryz.prog 101 #[.int .i64 k,.int .i64 (i:Int),.int .i64 q] w fun e w'=>e = .returned (.bool (stmtK q)) ∧ w' = w:=by
 have HEk:=Hd (fun w=>expr_ok k w)
 have HEq:=Hd (fun w=>expr_ok q w)
 have HSq:=Hd (fun w=>stmt_ok q w)
 have hx:exprK k = false:=by rw [hk];rfl
 rw [hx] at HEk
 have g20:(k == 20) = false:=by rw [hk];rfl
 have g21:(k == 21) = false:=by rw [hk];rfl
 have g22:(k == 22) = false:=by rw [hk];rfl
 have g23:(k == 23) = false:=by rw [hk];rfl
 have g24:(k == 24) = true:=by rw [hk];rfl
 have g25:(k == 25) = false:=by rw [hk];rfl
 have g26:(k == 26) = false:=by rw [hk];rfl
 have g27:(k == 27) = false:=by rw [hk];rfl
 have g28:(k == 28) = false:=by rw [hk];rfl
 have g32:(k == 32) = false:=by rw [hk];rfl
 clear hk hx
 have e0:((i:Int) == 0) = false:=by simp;omega
 have e1:0 < i:=by omega
 have e2:0 < (i:Int):=by omega
 clear hi
 generalize stmtK q = S at *
 cases S
 ·go_enter Tryz.func101,Tryz.ntmps101
  go_wp2_with (first | (go_at_call 84;(with_reducible refine (HEk.out _).mono ?_);rintro e w2 ⟨rfl,hw2⟩;subst w2) | (go_at_call 84;(with_reducible refine (HEq.out _).mono ?_);rintro e w2 ⟨rfl,hw2⟩;subst w2) | (go_at_call 124;(with_reducible refine (HSq.out _).mono ?_);rintro e w2 ⟨rfl,hw2⟩;subst w2))
  go_ret
  exact ⟨rfl,rfl⟩
 ·go_enter Tryz.func101,Tryz.ntmps101
  go_wp2_with (first | (go_at_call 84;(with_reducible refine (HEk.out _).mono ?_);rintro e w2 ⟨rfl,hw2⟩;subst w2) | (go_at_call 84;(with_reducible refine (HEq.out _).mono ?_);rintro e w2 ⟨rfl,hw2⟩;subst w2) | (go_at_call 124;(with_reducible refine (HSq.out _).mono ?_);rintro e w2 ⟨rfl,hw2⟩;subst w2))
  go_ret
  exact ⟨rfl,rfl⟩
theorem may_27_0 (k q:Int) (i:Nat) (w:World) (hk:k = 27) (hi:i = 0):Calls Tryz.prog 101 #[.int .i64 k,.int .i64 (i:Int),.int .i64 q] w fun e w'=>e = .returned (.bool (exprK q)) ∧ w' = w:=by
 have HEk:=Hd (fun w=>expr_ok k w)
 have HEq:=Hd (fun w=>expr_ok q w)
 have HSq:=Hd (fun w=>stmt_ok q w)
 have hx:exprK k = false:=by rw [hk];rfl
 rw [hx] at HEk
 have g20:(k == 20) = false:=by rw [hk];rfl
 have g21:(k == 21) = false:=by rw [hk];rfl
 have g22:(k == 22) = false:=by rw [hk];rfl
 have g23:(k == 23) = false:=by rw [hk];rfl
 have g24:(k == 24) = false:=by rw [hk];rfl
 have g25:(k == 25) = false:=by rw [hk];rfl
 have g26:(k == 26) = false:=by rw [hk];rfl
 have g27:(k == 27) = true:=by rw [hk];rfl
 have g28:(k == 28) = false:=by rw [hk];rfl
 have g32:(k == 32) = false:=by rw [hk];rfl
 clear hk hx
 subst hi
 generalize exprK q = E at *
 cases E
 ·go_enter Tryz.func101,Tryz.ntmps101
  go_wp2_with (first | (go_at_call 84;(with_reducible refine (HEk.out _).mono ?_);rintro e w2 ⟨rfl,hw2⟩;subst w2) | (go_at_call 84;(with_reducible refine (HEq.out _).mono ?_);rintro e w2 ⟨rfl,hw2⟩;subst w2) | (go_at_call 124;(with_reducible refine (HSq.out _).mono ?_);rintro e w2 ⟨rfl,hw2⟩;subst w2))
  go_ret
  exact ⟨rfl,rfl⟩
 ·go_enter Tryz.func101,Tryz.ntmps101
  go_wp2_with (first | (go_at_call 84;(with_reducible refine (HEk.out _).mono ?_);rintro e w2 ⟨rfl,hw2⟩;subst w2) | (go_at_call 84;(with_reducible refine (HEq.out _).mono ?_);rintro e w2 ⟨rfl,hw2⟩;subst w2) | (go_at_call 124;(with_reducible refine (HSq.out _).mono ?_);rintro e w2 ⟨rfl,hw2⟩;subst w2))
  go_ret
  exact ⟨rfl,rfl⟩
theorem may_27_x (k q:Int) (i:Nat) (w:World) (hk:k = 27) (hi:i ≠ 0):Calls Tryz.prog 101 #[.int .i64 k,.int .i64 (i:Int),.int .i64 q] w fun e w'=>e = .returned (.bool (stmtK q)) ∧ w' = w:=by
 have HEk:=Hd (fun w=>expr_ok k w)
 have HEq:=Hd (fun w=>expr_ok q w)
 have HSq:=Hd (fun w=>stmt_ok q w)
 have hx:exprK k = false:=by rw [hk];rfl
 rw [hx] at HEk
 have g20:(k == 20) = false:=by rw [hk];rfl
 have g21:(k == 21) = false:=by rw [hk];rfl
 have g22:(k == 22) = false:=by rw [hk];rfl
 have g23:(k == 23) = false:=by rw [hk];rfl
 have g24:(k == 24) = false:=by rw [hk];rfl
 have g25:(k == 25) = false:=by rw [hk];rfl
 have g26:(k == 26) = false:=by rw [hk];rfl
 have g27:(k == 27) = true:=by rw [hk];rfl
 have g28:(k == 28) = false:=by rw [hk];rfl
 have g32:(k == 32) = false:=by rw [hk];rfl
 clear hk hx
 have e0:((i:Int) == 0) = false:=by simp;omega
 have e1:0 < i:=by omega
 have e2:0 < (i:Int):=by omega
 clear hi
 generalize stmtK q = S at *
 cases S
 ·go_enter Tryz.func101,Tryz.ntmps101
  go_wp2_with (first | (go_at_call 84;(with_reducible refine (HEk.out _).mono ?_);rintro e w2 ⟨rfl,hw2⟩;subst w2) | (go_at_call 84;(with_reducible refine (HEq.out _).mono ?_);rintro e w2 ⟨rfl,hw2⟩;subst w2) | (go_at_call 124;(with_reducible refine (HSq.out _).mono ?_);rintro e w2 ⟨rfl,hw2⟩;subst w2))
  go_ret
  exact ⟨rfl,rfl⟩
 ·go_enter Tryz.func101,Tryz.ntmps101
  go_wp2_with (first | (go_at_call 84;(with_reducible refine (HEk.out _).mono ?_);rintro e w2 ⟨rfl,hw2⟩;subst w2) | (go_at_call 84;(with_reducible refine (HEq.out _).mono ?_);rintro e w2 ⟨rfl,hw2⟩;subst w2) | (go_at_call 124;(with_reducible refine (HSq.out _).mono ?_);rintro e w2 ⟨rfl,hw2⟩;subst w2))
  go_ret
  exact ⟨rfl,rfl⟩
theorem may_28_0 (k q:Int) (i:Nat) (w:World) (hk:k = 28) (hi:i = 0):Calls Tryz.prog 101 #[.int .i64 k,.int .i64 (i:Int),.int .i64 q] w fun e w'=>e = .returned (.bool (exprK q)) ∧ w' = w:=by
 have HEk:=Hd (fun w=>expr_ok k w)
 have HEq:=Hd (fun w=>expr_ok q w)
 have HSq:=Hd (fun w=>stmt_ok q w)
 have hx:exprK k = false:=by rw [hk];rfl
 rw [hx] at HEk
 have g20:(k == 20) = false:=by rw [hk];rfl
 have g21:(k == 21) = false:=by rw [hk];rfl
 have g22:(k == 22) = false:=by rw [hk];rfl
 have g23:(k == 23) = false:=by rw [hk];rfl
 have g24:(k == 24) = false:=by rw [hk];rfl
 have g25:(k == 25) = false:=by rw [hk];rfl
 have g26:(k == 26) = false:=by rw [hk];rfl
 have g27:(k == 27) = false:=by rw [hk];rfl
 have g28:(k == 28) = true:=by rw [hk];rfl
 have g32:(k == 32) = false:=by rw [hk];rfl
 clear hk hx
 subst hi
 generalize exprK q = E at *
 cases E
 ·go_enter Tryz.func101,Tryz.ntmps101
  go_wp2_with (first | (go_at_call 84;(with_reducible refine (HEk.out _).mono ?_);rintro e w2 ⟨rfl,hw2⟩;subst w2) | (go_at_call 84;(with_reducible refine (HEq.out _).mono ?_);rintro e w2 ⟨rfl,hw2⟩;subst w2) | (go_at_call 124;(with_reducible refine (HSq.out _).mono ?_);rintro e w2 ⟨rfl,hw2⟩;subst w2))
  go_ret
  exact ⟨rfl,rfl⟩
 ·go_enter Tryz.func101,Tryz.ntmps101
  go_wp2_with (first | (go_at_call 84;(with_reducible refine (HEk.out _).mono ?_);rintro e w2 ⟨rfl,hw2⟩;subst w2) | (go_at_call 84;(with_reducible refine (HEq.out _).mono ?_);rintro e w2 ⟨rfl,hw2⟩;subst w2) | (go_at_call 124;(with_reducible refine (HSq.out _).mono ?_);rintro e w2 ⟨rfl,hw2⟩;subst w2))
  go_ret
  exact ⟨rfl,rfl⟩
theorem may_28_x (k q:Int) (i:Nat) (w:World) (hk:k = 28) (hi:i ≠ 0):Calls Tryz.prog 101 #[.int .i64 k,.int .i64 (i:Int),.int .i64 q] w fun e w'=>e = .returned (.bool (stmtK q)) ∧ w' = w:=by
 have HEk:=Hd (fun w=>expr_ok k w)
 have HEq:=Hd (fun w=>expr_ok q w)
 have HSq:=Hd (fun w=>stmt_ok q w)
 have hx:exprK k = false:=by rw [hk];rfl
 rw [hx] at HEk
 have g20:(k == 20) = false:=by rw [hk];rfl
 have g21:(k == 21) = false:=by rw [hk];rfl
 have g22:(k == 22) = false:=by rw [hk];rfl
 have g23:(k == 23) = false:=by rw [hk];rfl
 have g24:(k == 24) = false:=by rw [hk];rfl
 have g25:(k == 25) = false:=by rw [hk];rfl
 have g26:(k == 26) = false:=by rw [hk];rfl
 have g27:(k == 27) = false:=by rw [hk];rfl
 have g28:(k == 28) = true:=by rw [hk];rfl
 have g32:(k == 32) = false:=by rw [hk];rfl
 clear hk hx
 have e0:((i:Int) == 0) = false:=by simp;omega
 have e1:0 < i:=by omega
 have e2:0 < (i:Int):=by omega
 clear hi
 generalize stmtK q = S at *
 cases S
 ·go_enter Tryz.func101,Tryz.ntmps101
  go_wp2_with (first | (go_at_call 84;(with_reducible refine (HEk.out _).mono ?_);rintro e w2 ⟨rfl,hw2⟩;subst w2) | (go_at_call 84;(with_reducible refine (HEq.out _).mono ?_);rintro e w2 ⟨rfl,hw2⟩;subst w2) | (go_at_call 124;(with_reducible refine (HSq.out _).mono ?_);rintro e w2 ⟨rfl,hw2⟩;subst w2))
  go_ret
  exact ⟨rfl,rfl⟩
 ·go_enter Tryz.func101,Tryz.ntmps101
  go_wp2_with (first | (go_at_call 84;(with_reducible refine (HEk.out _).mono ?_);rintro e w2 ⟨rfl,hw2⟩;subst w2) | (go_at_call 84;(with_reducible refine (HEq.out _).mono ?_);rintro e w2 ⟨rfl,hw2⟩;subst w2) | (go_at_call 124;(with_reducible refine (HSq.out _).mono ?_);rintro e w2 ⟨rfl,hw2⟩;subst w2))
  go_ret
  exact ⟨rfl,rfl⟩
theorem may_x (k q:Int) (i:Nat) (w:World) (hx:exprK k = false) (hk:k ≠ 20 ∧ k ≠ 21 ∧ k ≠ 22 ∧ k ≠ 23 ∧ k ≠ 24 ∧ k ≠ 25 ∧ k ≠ 26 ∧ k ≠ 27 ∧ k ≠ 28 ∧ k ≠ 32):Calls Tryz.prog 101 #[.int .i64 k,.int .i64 (i:Int),.int .i64 q] w fun e w'=>e = .returned (.bool (stmtK q)) ∧ w' = w:=by
 have HEk:=Hd (fun w=>expr_ok k w)
 have HEq:=Hd (fun w=>expr_ok q w)
 have HSq:=Hd (fun w=>stmt_ok q w)
 rw [hx] at HEk
 have g20:(k == 20) = false:=by simp;omega
 have g21:(k == 21) = false:=by simp;omega
 have g22:(k == 22) = false:=by simp;omega
 have g23:(k == 23) = false:=by simp;omega
 have g24:(k == 24) = false:=by simp;omega
 have g25:(k == 25) = false:=by simp;omega
 have g26:(k == 26) = false:=by simp;omega
 have g27:(k == 27) = false:=by simp;omega
 have g28:(k == 28) = false:=by simp;omega
 have g32:(k == 32) = false:=by simp;omega
 clear hk hx
 generalize stmtK q = S at *
 go_enter Tryz.func101,Tryz.ntmps101
 go_wp2_with (first | (go_at_call 84;(with_reducible refine (HEk.out _).mono ?_);rintro e w2 ⟨rfl,hw2⟩;subst w2) | (go_at_call 84;(with_reducible refine (HEq.out _).mono ?_);rintro e w2 ⟨rfl,hw2⟩;subst w2) | (go_at_call 124;(with_reducible refine (HSq.out _).mono ?_);rintro e w2 ⟨rfl,hw2⟩;subst w2))
 go_ret
 exact ⟨rfl,rfl⟩
theorem may_ok (k q:Int) (i:Nat) (w:World) (h:k = 25 → i < 2):Calls Tryz.prog 101 #[.int .i64 k,.int .i64 (i:Int),.int .i64 q] w fun e w'=>e = .returned (.bool (mayN k i q)) ∧ w' = w:=by
 unfold mayN
 rcases hx:exprK k with _ | _
 ·by_cases h20:k = 20 ∨ k = 32 ∨ k = 22
  ·rw [if_pos (Or.inr h20)]
   rcases h20 with e | e | e
   ·exact may_20 k q i w e
   ·exact may_32 k q i w e
   ·exact may_22 k q i w e
  ·rw [if_neg (by simp;omega)]
   by_cases h26:k = 26
   ·rw [if_pos h26]
    by_cases i0:i = 0
    ·rw [if_pos i0];exact may_26_0 k q i w h26 i0
    ·rw [if_neg i0]
     by_cases i3:i = 3
     ·rw [if_pos i3];exact may_26_3 k q i w h26 i3
     ·rw [if_neg i3];exact may_26_x k q i w h26 i0 i3
   ·rw [if_neg h26]
    by_cases h21:k = 21
    ·rw [if_pos h21];exact may_21 k q i w h21
    ·rw [if_neg h21]
     by_cases h25:k = 25
     ·rw [if_pos h25]
      by_cases i0:i = 0
      ·rw [if_pos i0];exact may_25_0 k q i w h25 i0
      ·rw [if_neg i0];exact may_25_1 k q i w h25 (by have:=h h25;omega)
     ·rw [if_neg h25]
      by_cases h23:k = 23 ∨ k = 24 ∨ k = 27 ∨ k = 28
      ·rw [if_pos h23]
       by_cases i0:i = 0
       ·rw [if_pos i0]
        rcases h23 with e | e | e | e
        ·exact may_23_0 k q i w e i0
        ·exact may_24_0 k q i w e i0
        ·exact may_27_0 k q i w e i0
        ·exact may_28_0 k q i w e i0
       ·rw [if_neg i0]
        rcases h23 with e | e | e | e
        ·exact may_23_x k q i w e i0
        ·exact may_24_x k q i w e i0
        ·exact may_27_x k q i w e i0
        ·exact may_28_x k q i w e i0
      ·rw [if_neg h23]
       exact may_x k q i w hx (by omega)
 ·rw [if_pos (Or.inl rfl)]
  exact may_expr k q i w hx
end Go.Proofs.YtbbaooeioogijaaGreatDoor
