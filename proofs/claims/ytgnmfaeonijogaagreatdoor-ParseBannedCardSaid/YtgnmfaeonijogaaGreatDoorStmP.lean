/- The tie: a statement as a whole. -/
import Derived.Test.YtgnmfaeonijogaaGreatDoorExprP
import Derived.Test.YtgnmfaeonijogaaGreatDoorStmA
import Derived.Test.YtgnmfaeonijogaaGreatDoorStmB
import Derived.Test.YtgnmfaeonijogaaGreatDoorStmC
import Derived.Test.YtgnmfaeonijogaaGreatDoorStmD
import Derived.Test.YtgnmfaeonijogaaGreatDoorStmE
import Derived.Test.YtgnmfaeonijogaaGreatDoorStmF
import Derived.Test.YtgnmfaeonijogaaGreatDoorStmH
namespace Go.Proofs.YtgnmfaeonijogaaGreatDoor
open Go.RowKit

theorem stmt_any (c : PC) (rx : Pp.Bytes → Int) (hR : RxOk c.T rx) : ∀ k, k ≤ 1000000 → IsN c 69 (Pp.stmt rx c.T k)
  | 0, _ => by intro w s n s' h hh; cases hh
  | k + 1, hk =>
    have hS := stmt_any c rx hR k (by omega)
    have hE := expr_any c rx hR k (by omega)
    have hKE := Pp.kd_expr (T := c.T) rx k
    have hB := body_any c _ hS
    have hC := cat_is c rx hR _ k (by omega) hE hKE
    have hSi := simple_any c rx _ k hE (fun op w s n s' h hh => output_any c rx _ k (by omega) hE hC op w s n s' h hh)
    stmt_step c rx _ _ k hE hB (block_any c _ hS k (by omega)) (choice_any c _ _ hE hB) (loop_any c rx _ _ k hE hB hSi) hSi hKE (Pp.kd_stmt rx k)
theorem blk_is (c : PC) (rx : Pp.Bytes → Int) (hR : RxOk c.T rx) (k : Nat) (hk : k ≤ 1000000) : IsN c 41 (Pp.block c.T (Pp.stmt rx c.T k) k) :=
  block_any c _ (stmt_any c rx hR k hk) k hk

end Go.Proofs.YtgnmfaeonijogaaGreatDoor
