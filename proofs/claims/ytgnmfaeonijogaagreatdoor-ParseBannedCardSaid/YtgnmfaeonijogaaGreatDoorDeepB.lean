/- The parser as plain functions: a statement gives the depth back as it took it. -/
import Derived.Test.YtgnmfaeonijogaaGreatDoorDeep
namespace Go.Proofs.YtgnmfaeonijogaaGreatDoor.Pp

theorem deep_skipF (T : List Tok) : ∀ (k : Nat) (s : PS), (skipF T k s).deep = s.deep
  | 0, _ => rfl
  | k + 1, s => by unfold skipF; split <;> simp [deep_skipF T k, deep_step]
theorem deep_skip (T : List Tok) (s : PS) : (skip T s).deep = s.deep := deep_skipF T _ s
theorem deep_fin (T : List Tok) (s : PS) : (fin T s).deep = s.deep := by
  unfold fin
  repeat' split
  all_goals simp [deep_step, deep_fail]
section
variable {T : List Tok} {E S : PS → Option (Node × PS)}
theorem kd_outL (hE : KD E) : ∀ (k : Nat) (out : List Node), KD (outL T E k out)
  | 0, _ => by intro s n s' h; cases h
  | k + 1, out => by
    intro s n s' h
    unfold outL at h
    split at h
    · split at h
      · cases h
      · rename_i m s2 he
        have h1 := hE _ _ _ he
        rw [kd_outL hE k _ _ _ _ h, h1]
        split <;> simp [deep_lines, deep_expect]
    · cases h; rfl
theorem kd_output (rx : Bytes → Int) (hE : KD E) (k : Nat) (op : Bytes) : KD (output rx T E k op) := by
  intro s n s' h
  unfold output at h
  split at h
  · cases h
  · rename_i args s1 he
    have h1 : s1.deep = s.deep := by
      split at he
      · have := kd_list hE k _ _ _ _ he
        simpa [deep_step] using this
      · have := kd_outL hE k _ _ _ _ he
        simpa using this
    unfold outputEnd at h
    split at h
    · cases h
    · rename_i to s2 ho
      have h2 : s2.deep = s1.deep := by
        unfold outTo at ho
        split at ho
        · cases ho; rfl
        · split at ho
          · cases ho
          · rename_i m s3 hc
            cases ho
            rw [kd_cats rx hE k _ _ _ hc, deep_step]
      cases h
      split <;> simp [deep_fail, h2, h1]
theorem kd_simple (rx : Bytes → Int) (hE : KD E) (k : Nat) : KD (simple rx T E k) := by
  intro s n s' h
  unfold simple at h
  simp only at h
  split at h
  · split at h
    · cases h
    · rename_i m s1 he
      cases h
      exact hE _ _ _ he
  split at h
  · cases h; exact deep_step _ _
  split at h
  · split at h
    · cases h; exact deep_step _ _
    · split at h
      · cases h
      · rename_i m s1 he
        cases h
        rw [hE _ _ _ he, deep_step]
  split at h
  · split at h
    · split at h
      · cases h
      · rename_i m s1 he
        cases h
        rw [kd_inside hE _ _ _ _ he, deep_step, deep_name, deep_step]
    · cases h
      rw [deep_name, deep_step]
  split at h
  · rw [kd_output rx hE k _ _ _ _ h, deep_step]
  · cases h; exact deep_fail _ _
theorem kd_body (hS : KD S) : KD (body T S) := by
  intro s n s' h
  unfold body at h
  rw [hS _ _ _ h, deep_lines]
theorem kd_choice (hE : KD E) (hS : KD S) : KD (choice T E S) := by
  intro s n s' h
  unfold choice at h
  split at h
  · cases h
  · rename_i c s1 he
    have h1 := kd_inside hE _ _ _ _ he
    rw [deep_expect] at h1
    split at h
    · cases h
    · rename_i b s2 hb
      have h2 := kd_body hS _ _ _ hb
      have h4 : (if at_ T [[59]] (lines T s2) = true then lines T (step T (lines T s2)) else lines T s2).deep = s.deep := by
        split <;> simp [deep_lines, deep_step, h2, h1]
      simp only at h
      generalize (if at_ T [[59]] (lines T s2) = true then lines T (step T (lines T s2)) else lines T s2) = s4 at h h4
      split at h
      · split at h
        · cases h
        · rename_i e s5 he5
          cases h
          rw [kd_body hS _ _ _ he5, deep_step, h4]
      · cases h
        split <;> simp [h4]
theorem kd_loop (rx : Bytes → Int) (hE : KD E) (hS : KD S) (k : Nat) : KD (loop rx T E S k) := by
  intro s n s' h
  unfold loop at h
  simp only at h
  split at h
  · split at h
    · cases h
    · rename_i b s1 hb
      cases h
      rw [kd_body hS _ _ _ hb]
      simp [deep_step, deep_name, deep_expect]
  · split at h
    · cases h
    · rename_i a s1 ha
      have h1 : s1.deep = s.deep := by
        unfold optSimple at ha
        split at ha
        · cases ha; exact deep_expect _ _ _
        · rw [kd_simple rx hE k _ _ _ ha, deep_expect]
      split at h
      · cases h
      · rename_i b s2 hb
        have h2 : s2.deep = s.deep := by
          unfold optExpr at hb
          split at hb
          · cases hb; simp [deep_lines, deep_expect, h1]
          · rw [hE _ _ _ hb, deep_lines, deep_expect, h1]
        split at h
        · cases h
        · rename_i c s3 hc
          have h3 : s3.deep = s.deep := by
            unfold optSimple at hc
            split at hc
            · cases hc; simp [deep_lines, deep_expect, h2]
            · rw [kd_simple rx hE k _ _ _ hc, deep_lines, deep_expect, h2]
          split at h
          · cases h
          · rename_i d s4 hd
            cases h
            rw [kd_body hS _ _ _ hd, deep_expect, h3]
theorem kd_blockL (hS : KD S) : ∀ (k : Nat) (out : List Node), KD (blockL T S k out)
  | 0, _ => by intro s n s' h; cases h
  | k + 1, out => by
    intro s n s' h
    unfold blockL at h
    split at h
    · split at h
      · cases h; rw [deep_step, deep_skip]
      · split at h
        · cases h
        · rename_i m s2 he
          rw [kd_blockL hS k _ _ _ _ h, hS _ _ _ he, deep_skip]
    · cases h; rfl
theorem kd_block (hS : KD S) (k : Nat) : KD (block T S k) := by
  intro s n s' h
  unfold block at h
  split at h
  · cases h
  · rename_i out s1 he
    cases h
    rw [kd_blockL hS k _ _ _ _ he, deep_expect]
theorem kd_stmtG (rx : Bytes → Int) (hE : KD E) (hS : KD S) (k : Nat) : KD (stmtG rx T E S k) := by
  intro s n s' h
  unfold stmtG at h
  split at h
  · cases h
  · rename_i s0 hd
    have hd' := deep_down hd
    split at h
    · cases h
    · rename_i m s1 hm
      have h1 : s1.deep = s0.deep := by
        split at hm
        · exact kd_block hS k _ _ _ hm
        split at hm
        · cases hm; exact deep_step _ _
        split at hm
        · rw [kd_choice hE hS _ _ _ hm, deep_step]
        split at hm
        · split at hm
          · cases hm
          · rename_i c s2 hc
            split at hm
            · cases hm
            · rename_i b s3 hb
              cases hm
              rw [kd_body hS _ _ _ hb, kd_inside hE _ _ _ _ hc, deep_expect, deep_step]
        split at hm
        · rw [kd_loop rx hE hS k _ _ _ hm, deep_step]
        · split at hm
          · cases hm
          · rename_i b s2 hb
            cases hm
            rw [deep_fin, kd_simple rx hE k _ _ _ hb]
      cases h
      simp only [up]
      omega
theorem kd_stmt (rx : Bytes → Int) : ∀ k, KD (stmt rx T k)
  | 0 => by intro s n s' h; cases h
  | k + 1 => kd_stmtG rx (kd_expr rx k) (kd_stmt rx k) k
end
end Go.Proofs.YtgnmfaeonijogaaGreatDoor.Pp
