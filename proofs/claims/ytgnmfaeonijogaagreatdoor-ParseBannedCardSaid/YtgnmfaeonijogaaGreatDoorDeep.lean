/- The parser as plain functions: each gives the depth back as it took it. -/
import Derived.Test.YtgnmfaeonijogaaGreatDoorPure
namespace Go.Proofs.YtgnmfaeonijogaaGreatDoor.Pp

theorem deep_step (T : List Tok) (s : PS) : (step T s).deep = s.deep := by unfold step; split <;> rfl
theorem deep_fail (T : List Tok) (s : PS) : (fail T s).deep = s.deep := by
  unfold fail
  split
  · split <;> rfl
  · rfl
theorem deep_expect (T : List Tok) (x : Bytes) (s : PS) : (expect T x s).deep = s.deep := by unfold expect; split <;> simp [deep_step, deep_fail]
theorem deep_accept (T : List Tok) (x : Bytes) (s : PS) : (accept T x s).deep = s.deep := by unfold accept; split <;> simp [deep_step]
theorem deep_linesF (T : List Tok) : ∀ (k : Nat) (s : PS), (linesF T k s).deep = s.deep
  | 0, _ => rfl
  | k + 1, s => by unfold linesF; split <;> simp [deep_linesF T k, deep_step]
theorem deep_lines (T : List Tok) (s : PS) : (lines T s).deep = s.deep := deep_linesF T _ s
theorem deep_name (T : List Tok) (ks : List Int) (s : PS) : (name T ks s).2.deep = s.deep := by unfold name; split <;> simp [deep_step, deep_fail]
theorem deep_wrong (t : Tok) (b : Bool) (e : Int) (s : PS) : (wrong t b e s).deep = s.deep := by unfold wrong; split <;> rfl
theorem deep_args (t : Tok) (a : List Node) (s : PS) : (builtinArgs t a s).2.deep = s.deep := by
  unfold builtinArgs
  simp only
  repeat' split
  all_goals simp [deep_wrong]
theorem deep_down {T : List Tok} {s s' : PS} (h : down T s = some s') : s'.deep = s.deep + 1 := by
  unfold down at h
  split at h
  · cases h; split <;> rfl
  · cases h

def KD {α : Type} (F : PS → Option (α × PS)) : Prop := ∀ s n s', F s = some (n, s') → s'.deep = s.deep

section
variable {T : List Tok} {E : PS → Option (Node × PS)}

theorem KD.ite {α : Type} {F : PS → Option (α × PS)} (h : KD F) {s s0 : PS} {n : α} {s' : PS} (he : F s = some (n, s')) (h0 : s.deep = s0.deep) : s'.deep = s0.deep := (h _ _ _ he).trans h0

theorem kd_inside (hE : KD E) (fin : Bytes) : KD (inside T E fin) := by
  intro s n s' h
  unfold inside at h
  split at h
  · cases h
  · rename_i m s2 he
    cases h
    have := hE _ _ _ he
    simp only [deep_lines, deep_expect] at this ⊢
    exact this
theorem kd_listL (hE : KD E) (fin : Bytes) : ∀ (k : Nat) (out : List Node), KD (listL T E fin k out)
  | 0, _ => by intro s n s' h; cases h
  | k + 1, out => by
    intro s n s' h
    unfold listL at h
    split at h
    · split at h
      · cases h
      · rename_i m s2 he
        have h1 := hE _ _ _ he
        have h2 := kd_listL hE fin k _ _ _ _ h
        rw [deep_lines] at h2
        rw [h2, h1]
        split <;> simp [deep_lines, deep_expect]
    · cases h; rfl
theorem kd_list (hE : KD E) (k : Nat) (fin : Bytes) : KD (list T E k fin) := by
  intro s n s' h
  unfold list at h
  split at h
  · cases h
  · rename_i out s2 he
    cases h
    have := kd_listL hE fin k _ _ _ _ he
    simp only [deep_lines, deep_expect] at this ⊢
    exact this
theorem kd_builtin (hE : KD E) (k : Nat) : KD (builtin T E k) := by
  intro s n s' h
  unfold builtin at h
  simp only at h
  split at h
  · cases h; exact deep_step _ _
  · split at h
    · cases h
    · rename_i out s2 he
      cases h
      have := kd_list hE k _ _ _ _ he
      simp only [deep_args, deep_step, deep_expect] at this ⊢
      exact this
theorem kd_post {P : PS → Option (Node × PS)} (hP : KD P) : KD (post T P) := by
  intro s n s' h
  unfold post at h
  split at h
  · split at h
    · cases h
    · rename_i m s2 he
      have := hP _ _ _ he
      rw [deep_step] at this
      split at h <;> cases h <;> simp [deep_fail, this]
  · split at h
    · split at h
      · cases h
      · rename_i m s2 he
        have := hP _ _ _ he
        rw [deep_step] at this
        split at h <;> cases h <;> simp [deep_fail, this]
    · split at h
      · cases h
      · rename_i m s2 he
        have := hP _ _ _ he
        split at h
        · cases h; exact this
        · split at h
          · cases h; simp [deep_step, this]
          · split at h
            · cases h; simp [deep_step, this]
            · cases h; exact this
theorem kd_primary (rx : Bytes → Int) (hE : KD E) (k : Nat) : ∀ j, KD (primary rx T E k j)
  | 0 => by intro s n s' h; cases h
  | j + 1 => by
    have ih := kd_primary rx hE k j
    intro s n s' h
    unfold primary primaryG at h
    simp only at h
    split at h
    · cases h; exact deep_step _ _
    split at h
    · cases h; exact deep_step _ _
    split at h
    · cases h; rw [deep_step]; split <;> simp [deep_fail]
    split at h
    · split at h
      · split at h
        · cases h
        · rename_i m s2 he
          cases h
          have := kd_inside hE _ _ _ _ he
          simpa [deep_step] using this
      · cases h; exact deep_step _ _
    split at h
    · split at h
      · cases h
      · rename_i m s2 he
        cases h
        have := kd_list hE k _ _ _ _ he
        simpa [deep_step, deep_expect] using this
    split at h
    · exact kd_builtin hE k _ _ _ h
    split at h
    · have := kd_inside hE _ _ _ _ h
      simpa [deep_step] using this
    split at h
    · split at h
      · cases h
      · rename_i s1 hd
        have hd' := deep_down hd
        rw [deep_step] at hd'
        split at h
        · cases h
        · rename_i m s2 he
          cases h
          have : s2.deep = s1.deep := by
            split at he
            · exact kd_post ih _ _ _ he
            · exact ih _ _ _ he
          simp [up]
          omega
    · cases h; exact deep_fail _ _
theorem kd_unary (rx : Bytes → Int) (hE : KD E) (k : Nat) : ∀ j, KD (unary rx T E k j)
  | 0 => by intro s n s' h; cases h
  | j + 1 => by
    have ih := kd_unary rx hE k j
    intro s n s' h
    unfold unary at h
    split at h
    · exact kd_post (kd_primary rx hE k k) _ _ _ h
    · split at h
      · cases h
      · rename_i s1 hd
        have hd' := deep_down hd
        rw [deep_step] at hd'
        split at h
        · cases h
        · rename_i m s2 he
          cases h
          have := ih _ _ _ he
          simp [up]
          omega
theorem kd_chainL {next : PS → Option (Node × PS)} (hN : KD next) (lns : Bool) (ops : List (Bytes × Bytes)) : ∀ (k : Nat) (n : Node), KD (chainL T next lns ops k n)
  | 0, _ => by intro s n s' h; cases h
  | k + 1, n => by
    intro s m s' h
    unfold chainL at h
    split at h
    · cases h; rfl
    · split at h
      · cases h
      · rename_i m s2 he
        have h1 := hN _ _ _ he
        rw [kd_chainL hN lns ops k _ _ _ _ h, h1]
        split <;> simp [deep_lines, deep_step]
theorem kd_chain {next : PS → Option (Node × PS)} (hN : KD next) (k : Nat) (lns : Bool) (ops : List (Bytes × Bytes)) : KD (chain T next k lns ops) := by
  intro s m s' h
  unfold chain at h
  split at h
  · cases h
  · rename_i m s2 he
    rw [kd_chainL hN lns ops k _ _ _ _ h, hN _ _ _ he]
theorem kd_catL {next : PS → Option (Node × PS)} (hN : KD next) : ∀ (k : Nat) (n : Node), KD (catL T next k n)
  | 0, _ => by intro s n s' h; cases h
  | k + 1, n => by
    intro s m s' h
    unfold catL at h
    split at h
    · cases h; rfl
    · split at h
      · cases h
      · rename_i m s2 he
        rw [kd_catL hN k _ _ _ _ h, hN _ _ _ he]
theorem kd_cat {next : PS → Option (Node × PS)} (hN : KD next) (k : Nat) : KD (cat T next k) := by
  intro s m s' h
  unfold cat at h
  split at h
  · cases h
  · rename_i m s2 he
    rw [kd_catL hN k _ _ _ _ h, hN _ _ _ he]
theorem kd_rel {next : PS → Option (Node × PS)} (hN : KD next) : KD (rel T next) := by
  intro s m s' h
  unfold rel at h
  split at h
  · cases h
  · rename_i m s2 he
    split at h
    · cases h; exact hN _ _ _ he
    · split at h
      · cases h
      · rename_i m s3 he2
        cases h
        rw [hN _ _ _ he2, deep_step, hN _ _ _ he]
theorem deep_inL : ∀ (k : Nat) (n : Node), KD (inL T k n)
  | 0, _ => by intro s n s' h; cases h
  | k + 1, n => by
    intro s m s' h
    unfold inL at h
    split at h
    · rw [deep_inL k _ _ _ _ h, deep_name, deep_step]
    · cases h; rfl
theorem kd_in {next : PS → Option (Node × PS)} (hN : KD next) (k : Nat) : KD (in_ T next k) := by
  intro s m s' h
  unfold in_ at h
  split at h
  · cases h
  · rename_i m s2 he
    rw [deep_inL k _ _ _ _ h, hN _ _ _ he]
theorem kd_cats (rx : Bytes → Int) (hE : KD E) (k : Nat) : KD (catF rx T E k) := kd_cat (kd_chain (kd_chain (kd_unary rx hE k k) _ _ _) _ _ _) _
theorem kd_or (rx : Bytes → Int) (hE : KD E) (k : Nat) : KD (orF rx T E k) :=
  kd_chain (kd_chain (kd_in (kd_chain (kd_rel (kd_cats rx hE k)) _ _ _) _) _ _ _) _ _ _
theorem kd_exprG (rx : Bytes → Int) (hE : KD E) (k : Nat) : KD (exprG rx T E k) := by
  intro s m s' h
  unfold exprG at h
  split at h
  · cases h
  · rename_i s0 hd
    have hd' := deep_down hd
    split at h
    · cases h
    · rename_i n s1 he
      have h1 := kd_or rx hE k _ _ _ he
      split at h
      · split at h
        · cases h
        · rename_i a s2 he2
          have h2 := hE _ _ _ he2
          split at h
          · cases h
          · rename_i b s3 he3
            have h3 := hE _ _ _ he3
            cases h
            simp only [deep_lines, deep_expect, deep_step, up] at *
            omega
      · split at h
        · split at h
          · cases h
          · rename_i a s2 he2
            have h2 := hE _ _ _ he2
            cases h
            simp only [deep_lines, deep_step, up] at *
            omega
        · cases h
          simp only [up]
          omega
theorem kd_expr (rx : Bytes → Int) : ∀ k, KD (expr rx T k)
  | 0 => by intro s n s' h; cases h
  | k + 1 => kd_exprG rx (kd_expr rx k) k
end
end Go.Proofs.YtgnmfaeonijogaaGreatDoor.Pp
