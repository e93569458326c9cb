/- Walked: a call of a builtin, whichever. -/
import Derived.Test.YtgnmfaeonijogaaGreatDoorExprK
import Derived.Test.YtgnmfaeonijogaaGreatDoorExprL
import Derived.Test.YtgnmfaeonijogaaGreatDoorExprM
namespace Go.Proofs.YtgnmfaeonijogaaGreatDoor
open Go.RowKit

theorem builtin_any (c : PC) (E : Pp.PS → Option (Pp.Node × Pp.PS)) (hE : IsN c 46 E) (k : Nat) (hk : k ≤ 1000000) : IsN c 130 (Pp.builtin c.T E k) := by
  intro w s n s' h hh
  obtain ⟨⟨tk, tx, tp⟩, ht⟩ : ∃ t, Pp.cur c.T s = t := ⟨_, rfl⟩
  by_cases h_length : tx = [108, 101, 110, 103, 116, 104]
  · subst h_length; exact built_length c E hE k hk w s n s' h tk tp ht hh
  by_cases h_substr : tx = [115, 117, 98, 115, 116, 114]
  · subst h_substr; exact built_substr c E hE k hk w s n s' h tk tp ht hh
  by_cases h_split : tx = [115, 112, 108, 105, 116]
  · subst h_split; exact built_split c E hE k hk w s n s' h tk tp ht hh
  by_cases h_sub : tx = [115, 117, 98]
  · subst h_sub; exact built_sub c E hE k hk w s n s' h tk tp ht hh
  by_cases h_gsub : tx = [103, 115, 117, 98]
  · subst h_gsub; exact built_gsub c E hE k hk w s n s' h tk tp ht hh
  by_cases h_index : tx = [105, 110, 100, 101, 120]
  · subst h_index; exact built_index c E hE k hk w s n s' h tk tp ht hh
  by_cases h_match : tx = [109, 97, 116, 99, 104]
  · subst h_match; exact built_match c E hE k hk w s n s' h tk tp ht hh
  by_cases h_sprintf : tx = [115, 112, 114, 105, 110, 116, 102]
  · subst h_sprintf; exact built_sprintf c E hE k hk w s n s' h tk tp ht hh
  by_cases h_rand : tx = [114, 97, 110, 100]
  · subst h_rand; exact built_rand c E hE k hk w s n s' h tk tp ht hh
  by_cases h_srand : tx = [115, 114, 97, 110, 100]
  · subst h_srand; exact built_srand c E hE k hk w s n s' h tk tp ht hh
  exact built_other c E hE k hk w s n s' h tk tp tx (by simpa using h_length) (by simpa using h_substr) (by simpa using h_split) (by simpa using h_sub) (by simpa using h_gsub) (by simpa using h_index) (by simpa using h_match) (by simpa using h_sprintf) (by simpa using h_rand) (by simpa using h_srand) ht hh

end Go.Proofs.YtgnmfaeonijogaaGreatDoor
