/- The lexer, walked: a whole text. -/
import Derived.Test.YtgnmfaeonijogaaGreatDoorLexG
namespace Go.Proofs.YtgnmfaeonijogaaGreatDoor
open Go.RowKit

/-- Tokens in memory. -/
def ToksAt (w : World) (b : Nat) (T : List Pp.Tok) : Prop := ∀ (i : Nat) (t : Pp.Tok), T[i]? = some t → w.cell? ⟨b, i * 3, none⟩ = some (.int .i64 t.kind) ∧ w.cell? ⟨b, i * 3 + 1, none⟩ = some (vs t.text) ∧ w.cell? ⟨b, i * 3 + 2, none⟩ = some (.int .i64 t.pos)
/-- What the lexer leaves of a text. -/
def LexPost (S : Pp.Bytes) (w : World) (e : Ending) (w' : World) : Prop :=
  Below w.heap.size w w' ∧ if 4000 < S.length then e = .returned (.tuple #[.slice none 0 0, .int .i64 0, .int .i64 12])
    else match Lx.lex S with
      | .bad j => e = .returned (.tuple #[.slice none 0 0, .int .i64 j, .int .i64 9]) ∧ j ≤ S.length
      | .ok T _ => ∃ b q, e = .returned (.tuple #[.slice (some ⟨b, 0, none⟩) T.length q, .int .i64 0, .int .i64 0]) ∧ w.heap.size ≤ b ∧ b < w'.heap.size ∧ ToksAt w' b T ∧ T.length ≤ 100000

set_option maxRecDepth 100000 in
set_option maxHeartbeats 8000000 in
theorem lex_any (S : Pp.Bytes) (hS : S.length ≤ 1000000) (w : World) (hG : Glob w.heap.size w) : Calls Tryz.prog 24 #[vs S] w (LexPost S w) := by
  have HG := Lib.hid hG
  clear hG
  by_cases h4 : 4000 < S.length
  · have k4 : decide ((4000 : Int) < ((S.length : Nat) : Int)) = true := by simp; omega
    have H4 := Lib.hid h4
    clear h4
    go_enter Tryz.func24, Tryz.ntmps24
    go_wp2_with fail
    go_ret3
    refine ⟨Below.refl _ _, ?_⟩
    rw [if_pos H4.out]
    rfl
  · have k4 : decide ((4000 : Int) < ((S.length : Nat) : Int)) = false := by simp; omega
    have H4 := Lib.hid h4
    have h1 : LAt ⟨w.heap.size, S⟩ (w.heap.size + 1) (w.alloc (.cells #[vs S, .int .i64 0, .slice none 0 0] 80)) (.slice none 0 0) 0 [] :=
      ⟨Blk.new w 80 _, ⟨rfl, .inl ⟨rfl, rfl⟩⟩, by simp, by simp [Value.ownBlock], HG.out.below ((Below.refl _ _).alloc (Nat.le_refl _) _) (Nat.le_refl _), by simpa using h4, by omega, by simp⟩
    have H1 := Lib.hid h1
    have hS4 : S.length ≤ 4000 := by omega
    clear h1 h4
    go_enter Tryz.func24, Tryz.ntmps24
    go_wp2_with fail
    go_loopg [] (S.length + 1) (fun g wr => ∃ (v : Value) (i : Nat) (out : List Pp.Tok), LAt ⟨w.heap.size, S⟩ wr.heap.size wr v i out ∧ i ≤ S.length ∧ out.length ≤ i ∧ Below w.heap.size w wr ∧ S.length < i + g ∧ Hid (Lx.lexF S g out i = Lx.lex S))
    case atStart => exact ⟨.slice none 0 0, 0, [], H1.out.now, by omega, by simp, (Below.refl _ _).alloc (Nat.le_refl _) _, by omega, rfl⟩
    case round =>
      clear H1
      obtain ⟨v, i, out, h1, hi, ho, hb, hg, hq⟩ := hrel
      obtain ⟨gk', rfl⟩ : ∃ g', gk = g' + 1 := ⟨gk - 1, by omega⟩
      have hq := hq.out
      unfold Lx.lexF at hq
      have c1 := h1.c1
      have lb := h1.blk.lt
      have H1 := Lib.hid h1
      have HB := Lib.hid hb
      clear h1 hb
      by_cases hlt : i < S.length
      · have kl : decide ((i : Int) < ((S.length : Nat) : Int)) = true := by simpa using hlt
        rw [if_pos hlt] at hq
        have HQ := Lib.hid hq
        clear hq
        go_wp2_with fail
        refine (next_any ⟨w.heap.size, S⟩ _ wr v i out H1.out hlt (by omega)).mono ?_
        rintro e w2 hn
        cases hx : Lx.next S out i with
        | bad j =>
          obtain ⟨hb2, hm⟩ := hn
          have hm2 : e = .returned (.int .i64 9) ∧ (∃ v', LAt ⟨w.heap.size, S⟩ w2.heap.size w2 v' j out) ∧ j ≤ S.length := by
            have := hm
            simp only at this
            rw [hx] at this
            exact this
          obtain ⟨rfl, ⟨v', h2⟩, hj⟩ := hm2
          have hq := HQ.out
          rw [hx] at hq
          have HX := Lib.hid hq
          have HB2 := Lib.hid (HB.out.trans hb2)
          have d1 := h2.c1
          clear hq hm hx hb2 h2
          go_wp2_with fail
          go_quiet (fail)
          go_wp2_with fail
          go_ret3
          refine ⟨bl_drewN HB2.out _, ?_⟩
          rw [if_neg H4.out, ← HX.out]
          exact ⟨rfl, hj⟩
        | ok o j =>
          obtain ⟨hb2, hm⟩ := hn
          have hm2 : e = .returned (.int .i64 0) ∧ (∃ v', LAt ⟨w.heap.size, S⟩ w2.heap.size w2 v' j o) ∧ i < j ∧ j ≤ S.length ∧ o.length ≤ out.length + 1 := by
            have := hm
            simp only at this
            rw [hx] at this
            exact this
          obtain ⟨rfl, ⟨v', h2⟩, hij, hj, hol⟩ := hm2
          have hq := HQ.out
          rw [hx] at hq
          have HX := Lib.hid hq
          have HB2 := Lib.hid (HB.out.trans hb2)
          have H2 := Lib.hid h2
          clear hq hm hx hb2 h2
          go_wp2_with fail
          go_roundg gk'
          case measure => omega
          case rel => exact ⟨v', j, o, H2.out, hj, by omega, HB2.out, by omega, HX.out⟩
      · have kl : decide ((i : Int) < ((S.length : Nat) : Int)) = false := by simpa using hlt
        rw [if_neg hlt] at hq
        have HQ := Lib.hid hq
        clear hq
        go_wp2_with fail
        refine (put_any ⟨w.heap.size, S⟩ _ _ v i out H1.out 0 [] i (by omega)).mono ?_
        rintro e w9 ⟨rfl, ⟨v', h9⟩, hb9⟩
        have d2 := h9.c2
        have hr := h9.row
        obtain ⟨a', q', rfl⟩ := h9.val
        obtain ⟨g, rfl, hg1, hg2⟩ : ∃ g, a' = some ⟨g, 0, none⟩ ∧ w.heap.size ≤ g ∧ g < w9.heap.size := by
          rcases hr.2 with ⟨hv, h0⟩ | ⟨g, cap, cur, hv, r1, r2, _⟩
          · simp at h0
          · simp at hv
            exact ⟨g, hv.1, by simp at r1; omega, by
              rcases Nat.lt_or_ge g w9.heap.size with h' | h'
              · exact h'
              · rw [Array.getElem?_eq_none h'] at r2; cases r2⟩
        have HR := Lib.hid hr
        have HB9 := Lib.hid (HB.out.trans hb9)
        clear h9 hr hb9
        go_wp2_with fail
        go_ret3
        refine ⟨HB9.out, ?_⟩
        rw [if_neg H4.out, ← HQ.out]
        refine ⟨g, q', by simp, hg1, hg2, fun k t ht => ?_, by simp; omega⟩
        have hc := tokRow_get _ k t ht
        exact ⟨row_cell HR.out rfl _ _ hc.1, row_cell HR.out rfl _ _ hc.2.1, row_cell HR.out rfl _ _ hc.2.2⟩

end Go.Proofs.YtgnmfaeonijogaaGreatDoor
