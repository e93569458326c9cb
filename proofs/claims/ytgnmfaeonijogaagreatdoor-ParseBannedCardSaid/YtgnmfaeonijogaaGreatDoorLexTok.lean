/- The lexer as plain functions: its tokens' texts are short; the last one is the end. -/
import Derived.Test.YtgnmfaeonijogaaGreatDoorLexPure
namespace Go.Proofs.YtgnmfaeonijogaaGreatDoor.Lx
open Pp (Bytes Tok)

theorem part_len (S : Bytes) (i j : Nat) : (part S i j).length ≤ S.length := by
  unfold part; simp; omega
def Short (n : Nat) (l : List Tok) : Prop := ∀ t ∈ l, t.text.length ≤ n
theorem Short.snoc {n : Nat} {l : List Tok} {t : Tok} (h : Short n l) (ht : t.text.length ≤ n) : Short n (l ++ [t]) := by
  intro x hx
  rcases List.mem_append.1 hx with hx | hx
  · exact h x hx
  · rw [List.mem_singleton.1 hx]; exact ht
theorem inString_len (c : UInt8) (t : Bytes) (h : inString c = some t) : t.length ≤ 2 := by
  unfold inString at h
  split at h
  · cases h; simp
  · split at h
    · cases h; simp
    · split at h
      · cases h; simp
      · cases h
theorem inRegex_len (c : UInt8) (t : Bytes) (h : inRegex c = some t) : t.length ≤ 2 := by
  unfold inRegex at h
  split at h
  · cases h; simp
  · split at h
    · cases h
    · cases h; simp
theorem quotedF_short {kind : Int} {fin : UInt8} {how : UInt8 → Option Bytes} {S : Bytes} {out : List Tok} {fr n : Nat} (hh : ∀ c t, how c = some t → t.length ≤ 2) (ho : Short n out) :
    ∀ (f : Nat) (b : Bytes) (i : Nat) (o : List Tok) (j : Nat), b.length + 2 * f ≤ n → quotedF kind fin how S out fr f b i = .ok o j → Short n o := by
  intro f
  induction f with
  | zero => intro b i o j _ h; cases h
  | succ f ih =>
    intro b i o j hb h
    unfold quotedF at h
    split at h
    · cases h
    · split at h
      · cases h
        exact ho.snoc (by simp; omega)
      · split at h
        · split at h
          · cases h
          · rename_i t ht
            have := hh _ _ ht
            split at h
            · cases h
            · exact ih _ _ _ _ (by simp; omega) h
        · exact ih _ _ _ _ (by simp; omega) h
theorem next_short {S : Bytes} {out o : List Tok} {i j n : Nat} (hn : 2 * S.length + 2 ≤ n) (ho : Short n out) (h : next S out i = .ok o j) : Short n o := by
  unfold next at h
  simp only at h
  have hp := part_len S
  split at h
  · cases h; exact ho
  split at h
  · cases h; exact ho
  split at h
  · cases h; exact ho
  split at h
  · cases h; exact ho.snoc (by simp)
  split at h
  · unfold number at h
    simp only [Res.ok.injEq] at h
    obtain ⟨rfl, _⟩ := h
    exact ho.snoc (Nat.le_trans (hp _ _) (by omega))
  split at h
  · unfold word at h
    simp only [Res.ok.injEq] at h
    obtain ⟨rfl, _⟩ := h
    exact ho.snoc (Nat.le_trans (hp _ _) (by omega))
  split at h
  · exact quotedF_short inString_len ho _ _ _ _ _ (by simp; omega) h
  split at h
  · exact quotedF_short inRegex_len ho _ _ _ _ _ (by simp; omega) h
  · unfold sign at h
    simp only at h
    split at h
    · cases h
      exact ho.snoc (Nat.le_trans (hp _ _) (by omega))
    · split at h
      · cases h
        exact ho.snoc (by simp; omega)
      · cases h
theorem lexF_last {S : Bytes} {n : Nat} (hn : 2 * S.length + 2 ≤ n) : ∀ (f : Nat) (out : List Tok) (i : Nat) (T : List Tok) (j : Nat), Short n out → lexF S f out i = .ok T j → Short n T ∧ ∃ l p, T = l ++ [⟨0, [], p⟩] := by
  intro f
  induction f with
  | zero => intro out i T j _ h; cases h
  | succ f ih =>
    intro out i T j ho h
    unfold lexF at h
    split at h
    · split at h
      · cases h
      · rename_i o2 j2 hx
        exact ih _ _ _ _ (next_short hn ho hx) h
    · cases h
      exact ⟨ho.snoc (by simp), _, _, rfl⟩
theorem lex_last {S : Bytes} {T : List Tok} {j : Nat} (h : lex S = .ok T j) : (∀ t ∈ T, t.text.length ≤ 2 * S.length + 2) ∧ ∃ l p, T = l ++ [⟨0, [], p⟩] :=
  lexF_last (Nat.le_refl _) _ _ _ _ _ (by intro t ht; cases ht) h

end Go.Proofs.YtgnmfaeonijogaaGreatDoor.Lx
