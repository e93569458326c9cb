/- The lexer, walked: words, signs. -/
import Derived.Test.YtgnmfaeonijogaaGreatDoorLexC
import Derived.BigRegion
namespace Go.Proofs.YtgnmfaeonijogaaGreatDoor
open Go.RowKit

theorem containsG {B : Nat} {w : World} {g n : Nat} {l : List Pp.Bytes} (hn : n = l.length) (hl : n ≤ 1000000) (h : Words B w g n l) (x : Pp.Bytes) :
    ∃ b o q, w.cell? ⟨g, 0, none⟩ = some (.slice (some ⟨b, o, none⟩) n q) ∧ Calls Tryz.prog 39 #[.slice (some ⟨b, o, none⟩) n q, vs x] w fun e w' => e = .returned (.bool (l.contains x)) ∧ w = w' := by
  obtain ⟨b, o, q, h1, h2, _⟩ := h
  subst hn
  refine ⟨b, o, q, h1, ?_⟩
  refine (Tryz.slices_Contains_string b o l.length q (l.map fun t => (⟨t.toArray⟩ : ByteArray)) ⟨x.toArray⟩ w (by simp) (by omega) ?_).mono ?_
  · intro j hj
    simp only [List.length_map] at hj
    rw [h2 j _ (List.getElem?_eq_getElem hj)]
    simp [vs, hj]
  · rintro e w' ⟨rfl, rfl⟩
    rw [List.take_of_length_le (by simp), containsS_conv]
    exact ⟨rfl, rfl⟩

/-- What a function of the lexer that lays a token leaves. -/
def OnePost (c : LC) (w : World) (r : Lx.Res) (n : Nat) (i : Nat) (e : Ending) (w' : World) : Prop :=
  e = .returned (.tuple #[]) ∧ (∃ v' o j, r = .ok o j ∧ LAt c w'.heap.size w' v' j o ∧ i ≤ j ∧ j ≤ c.S.length ∧ o.length = n + 1) ∧ Below c.bp w w'

set_option maxRecDepth 100000 in
set_option maxHeartbeats 8000000 in
theorem word_any (c : LC) (hi : Nat) (w : World) (v : Value) (i : Nat) (out : List Pp.Tok) (h : LAt c hi w v i out) (hil : i < c.S.length) (hn : out.length < 100000) :
    Calls Tryz.prog 62 #[.pointer (some ⟨c.bp, 0, none⟩)] w (OnePost c w (Lx.word c.S out i) out.length i) := by
  have c1 := h.c1
  have H := Lib.hid h
  have hl := h.len
  clear h
  go_enter Tryz.func62, Tryz.ntmps62
  go_wp2_with fail
  refine (while_any c 80 (enters_of Tryz.func80 (by kernel_rfl) rfl) Lx.wordy wordy_any hi w v i out H.out (by omega)).mono ?_
  rintro e w1 ⟨rfl, h1, hb1⟩
  have hj := (skip_le Lx.wordy c.S i).2 (by omega)
  have hj0 := (skip_le Lx.wordy c.S i).1
  obtain ⟨j, hJ⟩ : ∃ j, Lx.skip Lx.wordy c.S i = j := ⟨_, rfl⟩
  rw [hJ] at h1 hj hj0
  have d0 := h1.c0
  have d1 := h1.c1
  have hx := ext_part c.S i j
  obtain ⟨s, hs⟩ : ∃ s, Lx.part c.S i j = s := ⟨_, rfl⟩
  rw [hs] at hx
  have E : Hid (∀ k, Lx.wordKind c.S s j = k → Lx.word c.S out i = .ok (out ++ [⟨k, s, i⟩]) j) := by
    rintro k rfl
    unfold Lx.word
    simp only [hJ, hs]
  have H1 := Lib.hid h1
  have HB1 := Lib.hid hb1
  clear h1 hJ hs hb1
  go_wp2_with fail
  go_quiet (fail)
  clear d0 d1 hx
  have h2 := H1.out.drewN nq
  obtain ⟨w2, hw2⟩ : ∃ W, W = w1.drewN nq := ⟨_, rfl⟩
  rw [← hw2] at h2 ⊢
  have hb2 : Below c.bp w w2 := by rw [hw2]; exact bl_drewN HB1.out _
  have H2 := Lib.hid h2
  have HB2 := Lib.hid hb2
  have hg := h2.glob
  clear hw2 h2 hb2
  obtain ⟨bw, ow, qw, x1, y1⟩ := containsG (n := 16) rfl (by omega) hg.words s
  obtain ⟨bb, ob, qb, x2, y2⟩ := containsG (n := 13) rfl (by omega) hg.builtins s
  obtain ⟨bn, on, qn, x3, y3⟩ := containsG (n := 6) rfl (by omega) hg.banned s
  have Y1 := Lib.hid y1
  have Y2 := Lib.hid y2
  have Y3 := Lib.hid y3
  have EK : Hid (Lx.wordKind c.S s j = (if Lx.words.contains s then 7 else if Lx.builtins.contains s then 9 else if Lx.banned.contains s then 10 else if Lx.peek c.S j = 40 then 6 else 5)) := rfl
  clear hg y1 y2 y3
  cases hw : Lx.words.contains s with
  | true =>
    have Z1 := Y1.out
    rw [hw] at Z1
    have E2 := Lib.hid (E.out 7 (by rw [EK.out, hw]; rfl))
    have ZZ1 := Lib.hid Z1
    clear hw Z1
    go_wp2_with fail
    refine ZZ1.out.mono ?_
    rintro e w' ⟨rfl, rfl⟩
    go_wp2_with fail
    refine (put_any c _ _ v j out H2.out 7 s i hn).mono ?_
    rintro e w9 ⟨rfl, ⟨v', h9⟩, hb9⟩
    go_wp2_with fail
    go_end0
    exact ⟨rfl, ⟨v', _, j, E2.out, h9, hj0, hj, by simp⟩, HB2.out.trans hb9⟩
  | false =>
  have Z1 := Y1.out
  rw [hw] at Z1
  have ZZ1 := Lib.hid Z1
  cases hbi : Lx.builtins.contains s with
  | true =>
    have Z2 := Y2.out
    rw [hbi] at Z2
    have ZZ2 := Lib.hid Z2
    have E2 := Lib.hid (E.out 9 (by rw [EK.out, hw, hbi]; rfl))
    clear hw hbi Z1 Z2
    go_wp2_with fail
    refine ZZ1.out.mono ?_
    rintro e w' ⟨rfl, rfl⟩
    go_wp2_with fail
    refine ZZ2.out.mono ?_
    rintro e w' ⟨rfl, rfl⟩
    go_wp2_with fail
    refine (put_any c _ _ v j out H2.out 9 s i hn).mono ?_
    rintro e w9 ⟨rfl, ⟨v', h9⟩, hb9⟩
    go_wp2_with fail
    go_end0
    exact ⟨rfl, ⟨v', _, j, E2.out, h9, hj0, hj, by simp⟩, HB2.out.trans hb9⟩
  | false =>
  have Z2 := Y2.out
  rw [hbi] at Z2
  have ZZ2 := Lib.hid Z2
  cases hba : Lx.banned.contains s with
  | true =>
    have Z3 := Y3.out
    rw [hba] at Z3
    have ZZ3 := Lib.hid Z3
    have E2 := Lib.hid (E.out 10 (by rw [EK.out, hw, hbi, hba]; rfl))
    clear hw hbi hba Z1 Z2 Z3
    go_wp2_with fail
    refine ZZ1.out.mono ?_
    rintro e w' ⟨rfl, rfl⟩
    go_wp2_with fail
    refine ZZ2.out.mono ?_
    rintro e w' ⟨rfl, rfl⟩
    go_wp2_with fail
    refine ZZ3.out.mono ?_
    rintro e w' ⟨rfl, rfl⟩
    go_wp2_with fail
    refine (put_any c _ _ v j out H2.out 10 s i hn).mono ?_
    rintro e w9 ⟨rfl, ⟨v', h9⟩, hb9⟩
    go_wp2_with fail
    go_end0
    exact ⟨rfl, ⟨v', _, j, E2.out, h9, hj0, hj, by simp⟩, HB2.out.trans hb9⟩
  | false =>
  have Z3 := Y3.out
  rw [hba] at Z3
  have ZZ3 := Lib.hid Z3
  by_cases hp : Lx.peek c.S j = 40
  · have kp : (((Lx.peek c.S j).toNat : Int) == 40) = true := by rw [hp]; rfl
    have E2 := Lib.hid (E.out 6 (by rw [EK.out, hw, hbi, hba, hp]; rfl))
    clear hw hbi hba Z1 Z2 Z3 hp
    go_wp2_with fail
    refine ZZ1.out.mono ?_
    rintro e w' ⟨rfl, rfl⟩
    go_wp2_with fail
    refine ZZ2.out.mono ?_
    rintro e w' ⟨rfl, rfl⟩
    go_wp2_with fail
    refine ZZ3.out.mono ?_
    rintro e w' ⟨rfl, rfl⟩
    go_wp2_with fail
    refine (peek_any c _ _ v j out H2.out 0 (by omega)).mono ?_
    rintro e w3 ⟨rfl, hb3⟩
    simp only [Nat.add_zero]
    have H3 := Lib.hid (H2.out.under hb3)
    have HB3 := Lib.hid (HB2.out.trans (hb3.mono (Nat.le_of_lt H2.out.blk.lt)))
    clear hb3
    go_wp2_with fail
    refine (put_any c _ _ v j out H3.out 6 s i hn).mono ?_
    rintro e w9 ⟨rfl, ⟨v', h9⟩, hb9⟩
    go_wp2_with fail
    go_end0
    exact ⟨rfl, ⟨v', _, j, E2.out, h9, hj0, hj, by simp⟩, HB3.out.trans hb9⟩
  · have kp := u8_ne (k := 40) (by omega) hp
    have E2 := Lib.hid (E.out 5 (by rw [EK.out, hw, hbi, hba, if_neg hp]; rfl))
    clear hw hbi hba Z1 Z2 Z3 hp
    go_wp2_with fail
    refine ZZ1.out.mono ?_
    rintro e w' ⟨rfl, rfl⟩
    go_wp2_with fail
    refine ZZ2.out.mono ?_
    rintro e w' ⟨rfl, rfl⟩
    go_wp2_with fail
    refine ZZ3.out.mono ?_
    rintro e w' ⟨rfl, rfl⟩
    go_wp2_with fail
    refine (peek_any c _ _ v j out H2.out 0 (by omega)).mono ?_
    rintro e w3 ⟨rfl, hb3⟩
    simp only [Nat.add_zero]
    have H3 := Lib.hid (H2.out.under hb3)
    have HB3 := Lib.hid (HB2.out.trans (hb3.mono (Nat.le_of_lt H2.out.blk.lt)))
    clear hb3
    go_wp2_with fail
    refine (put_any c _ _ v j out H3.out 5 s i hn).mono ?_
    rintro e w9 ⟨rfl, ⟨v', h9⟩, hb9⟩
    go_wp2_with fail
    go_end0
    exact ⟨rfl, ⟨v', _, j, E2.out, h9, hj0, hj, by simp⟩, HB3.out.trans hb9⟩

end Go.Proofs.YtgnmfaeonijogaaGreatDoor
