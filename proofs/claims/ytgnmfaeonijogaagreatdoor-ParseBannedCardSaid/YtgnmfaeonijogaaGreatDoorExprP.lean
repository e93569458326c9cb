/- The tie: an expression as a whole. -/
import Derived.Test.YtgnmfaeonijogaaGreatDoorExprB
import Derived.Test.YtgnmfaeonijogaaGreatDoorExprD
import Derived.Test.YtgnmfaeonijogaaGreatDoorExprE
import Derived.Test.YtgnmfaeonijogaaGreatDoorExprF
import Derived.Test.YtgnmfaeonijogaaGreatDoorExprI
import Derived.Test.YtgnmfaeonijogaaGreatDoorExprJ
import Derived.Test.YtgnmfaeonijogaaGreatDoorExprN
import Derived.Test.YtgnmfaeonijogaaGreatDoorExprO
namespace Go.Proofs.YtgnmfaeonijogaaGreatDoor
open Go.RowKit

section
variable (c : PC) (rx : Pp.Bytes → Int) (hR : RxOk c.T rx) (E : Pp.PS → Option (Pp.Node × Pp.PS)) (k : Nat) (hk : k ≤ 1000000) (hE : IsN c 46 E) (hK : Pp.KD E)
include hR hk hE hK
theorem cat_is : IsN c 106 (Pp.catF rx c.T E k) :=
  have h1 := primary_any c rx hR E k hk hE (builtin_any c E hE k hk) (Pp.kd_primary rx hK k) (fun j => Pp.kd_post (Pp.kd_primary rx hK k j)) k
  have h2 := unary_any c rx E k (post_any c _ h1) (Pp.kd_unary rx hK k) k
  cat_any c _ (add_any c _ (mul_any c _ h2 k) k) k
theorem or_is : IsN c 73 (Pp.orF rx c.T E k) :=
  or_any c _ (and_any c _ (in_any c _ (match_any c _ (rel_any c _ (cat_is c rx hR E k hk hE hK)) k) k) k) k
end

theorem expr_any (c : PC) (rx : Pp.Bytes → Int) (hR : RxOk c.T rx) : ∀ k, k ≤ 1000000 → IsN c 46 (Pp.expr rx c.T k)
  | 0, _ => by intro w s n s' h hh; cases hh
  | k + 1, hk => expr_step c rx _ k (expr_any c rx hR k (by omega)) (or_is c rx hR _ k (by omega) (expr_any c rx hR k (by omega)) (Pp.kd_expr rx k)) (Pp.kd_expr rx k)

end Go.Proofs.YtgnmfaeonijogaaGreatDoor
