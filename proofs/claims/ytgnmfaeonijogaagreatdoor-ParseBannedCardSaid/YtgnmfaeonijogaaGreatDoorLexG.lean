/- The lexer, walked: what stands here; a whole text. -/
import Derived.Test.YtgnmfaeonijogaaGreatDoorLexF
namespace Go.Proofs.YtgnmfaeonijogaaGreatDoor
open Go.RowKit

theorem wskip_move {p : UInt8 → Bool} {S : Pp.Bytes} {i : Nat} (hlt : i < S.length) (h : p (Lx.peek S i) = true) : i < Lx.skip p S i := by
  rw [skip_go hlt h]
  have := (skip_le p S (i + 1)).1
  omega
theorem number_move {S : Pp.Bytes} {out o : List Pp.Tok} {i j : Nat} (hil : i < S.length) (h : Lx.digit (Lx.peek S i) = true ∨ Lx.peek S i = 46) (hn : Lx.number S out i = .ok o j) : i < j := by
  unfold Lx.number at hn
  simp only [Lx.Res.ok.injEq] at hn
  obtain ⟨_, rfl⟩ := hn
  rcases h with h | h
  · have := wskip_move hil h
    split
    · have := (skip_le Lx.digit S (Lx.skip Lx.digit S i + 1)).1
      omega
    · exact this
  · have hd : Lx.skip Lx.digit S i = i := wskip_stop (.inr (by rw [h]; rfl))
    rw [hd, if_pos h]
    have := (skip_le Lx.digit S (i + 1)).1
    omega
theorem word_move {S : Pp.Bytes} {out o : List Pp.Tok} {i j : Nat} (hil : i < S.length) (h : Lx.letter (Lx.peek S i) = true) (hn : Lx.word S out i = .ok o j) : i < j := by
  unfold Lx.word at hn
  simp only [Lx.Res.ok.injEq] at hn
  obtain ⟨_, rfl⟩ := hn
  exact wskip_move hil (by unfold Lx.wordy; rw [h]; rfl)

set_option maxRecDepth 100000 in
set_option maxHeartbeats 16000000 in
theorem next_any (c : LC) (hi : Nat) (w : World) (v : Value) (i : Nat) (out : List Pp.Tok) (h : LAt c hi w v i out) (hil : i < c.S.length) (hn : out.length < 100000) :
    Calls Tryz.prog 37 #[.pointer (some ⟨c.bp, 0, none⟩)] w (NextPost c w out i (Lx.next c.S out i)) := by
  have c0 := h.c0
  have c1 := h.c1
  have hl := h.len
  have H := Lib.hid h
  have hb := h.blk.lt
  have hidx := fun w => run_idx c.S i (i : Int) rfl hil w
  obtain ⟨pk, hpk⟩ : ∃ b, Lx.peek c.S i = b := ⟨_, rfl⟩
  rw [hpk] at hidx
  have HPK := Lib.hid hpk
  have HD := Lib.hid (digit_any pk)
  have HL := Lib.hid (letter_any pk)
  have HD2 := Lib.hid (digit_any (Lx.peek c.S (i + 1)))
  have E0 : Hid (Lx.next c.S out i = (if pk = 32 ∨ pk = 9 ∨ pk = 13 then .ok out (i + 1)
      else if pk = 35 then .ok out (Lx.skip Lx.noLine c.S i)
      else if pk = 92 ∧ Lx.peek c.S (i + 1) = 10 then .ok out (i + 2)
      else if pk = 10 then .ok (out ++ [⟨1, [], i⟩]) (i + 1)
      else if Lx.digit pk = true ∨ (pk = 46 ∧ Lx.digit (Lx.peek c.S (i + 1)) = true) then Lx.number c.S out i
      else if Lx.letter pk then Lx.word c.S out i
      else if pk = 34 then Lx.quoted 3 34 Lx.inString c.S out i
      else if pk = 47 ∧ Lx.slash out = true then Lx.quoted 4 47 Lx.inRegex c.S out i
      else Lx.sign c.S out i)) := by
    show Lx.next c.S out i = _
    unfold Lx.next
    simp only [hpk]
  clear h hpk
  by_cases h32 : pk = 32
  · have k32 : ((pk.toNat : Int) == 32) = true := by rw [h32]; rfl
    have E : Hid (Lx.next c.S out i = .ok out (i + 1)) := by
      show Lx.next c.S out i = _
      rw [E0.out, if_pos (.inl h32)]
    clear E0
    clear h32 
    go_enter Tryz.func37, Tryz.ntmps37
    go_wp2_with fail
    go_quiet (fail)
    obtain ⟨wq, hwq⟩ : ∃ W, W = w.drewN nq := ⟨_, rfl⟩
    rw [← hwq]
    have hq : LAt c hi wq v i out := hwq ▸ H.out.drewN nq
    have bq : Below c.bp w wq := hwq ▸ bl_drewN0 nq
    have d1 := hq.c1
    have f1 := hq.fz 1
    have lq := hq.blk.lt
    have Hq := Lib.hid hq
    have Bq := Lib.hid bq
    clear hwq hq bq c0 c1 hidx
    go_wp2_with fail
    go_ret
    refine ⟨bl_set1 Bq.out (Nat.le_refl _), ?_⟩
    rw [E.out]
    exact ⟨rfl, ⟨v, by simpa [World.setCell] using (Hq.out.set (i + 1) (by omega)).now⟩, by omega, by omega, by omega⟩
  have k32 : ((pk.toNat : Int) == 32) = false := u8_ne (k := 32) (by omega) h32
  by_cases h9 : pk = 9
  · have k9 : ((pk.toNat : Int) == 9) = true := by rw [h9]; rfl
    have E : Hid (Lx.next c.S out i = .ok out (i + 1)) := by
      show Lx.next c.S out i = _
      rw [E0.out, if_pos (.inr (.inl h9))]
    clear E0
    clear h9 h32
    go_enter Tryz.func37, Tryz.ntmps37
    go_wp2_with fail
    go_quiet (fail)
    obtain ⟨wq, hwq⟩ : ∃ W, W = w.drewN nq := ⟨_, rfl⟩
    rw [← hwq]
    have hq : LAt c hi wq v i out := hwq ▸ H.out.drewN nq
    have bq : Below c.bp w wq := hwq ▸ bl_drewN0 nq
    have d1 := hq.c1
    have f1 := hq.fz 1
    have lq := hq.blk.lt
    have Hq := Lib.hid hq
    have Bq := Lib.hid bq
    clear hwq hq bq c0 c1 hidx
    go_wp2_with fail
    go_ret
    refine ⟨bl_set1 Bq.out (Nat.le_refl _), ?_⟩
    rw [E.out]
    exact ⟨rfl, ⟨v, by simpa [World.setCell] using (Hq.out.set (i + 1) (by omega)).now⟩, by omega, by omega, by omega⟩
  have k9 : ((pk.toNat : Int) == 9) = false := u8_ne (k := 9) (by omega) h9
  by_cases h13 : pk = 13
  · have k13 : ((pk.toNat : Int) == 13) = true := by rw [h13]; rfl
    have E : Hid (Lx.next c.S out i = .ok out (i + 1)) := by
      show Lx.next c.S out i = _
      rw [E0.out, if_pos (.inr (.inr h13))]
    clear E0
    clear h13 h32 h9
    go_enter Tryz.func37, Tryz.ntmps37
    go_wp2_with fail
    go_quiet (fail)
    obtain ⟨wq, hwq⟩ : ∃ W, W = w.drewN nq := ⟨_, rfl⟩
    rw [← hwq]
    have hq : LAt c hi wq v i out := hwq ▸ H.out.drewN nq
    have bq : Below c.bp w wq := hwq ▸ bl_drewN0 nq
    have d1 := hq.c1
    have f1 := hq.fz 1
    have lq := hq.blk.lt
    have Hq := Lib.hid hq
    have Bq := Lib.hid bq
    clear hwq hq bq c0 c1 hidx
    go_wp2_with fail
    go_ret
    refine ⟨bl_set1 Bq.out (Nat.le_refl _), ?_⟩
    rw [E.out]
    exact ⟨rfl, ⟨v, by simpa [World.setCell] using (Hq.out.set (i + 1) (by omega)).now⟩, by omega, by omega, by omega⟩
  have k13 : ((pk.toNat : Int) == 13) = false := u8_ne (k := 13) (by omega) h13
  by_cases h35 : pk = 35
  · have k35 : ((pk.toNat : Int) == 35) = true := by rw [h35]; rfl
    have MV : Hid (i < Lx.skip Lx.noLine c.S i) := wskip_move hil (by rw [HPK.out, h35]; rfl)
    have E : Hid (Lx.next c.S out i = .ok out (Lx.skip Lx.noLine c.S i)) := by
      show Lx.next c.S out i = _
      rw [E0.out, if_neg (by rintro (h | h | h) <;> contradiction), if_pos h35]
    clear E0
    clear h35 h32 h9 h13
    go_enter Tryz.func37, Tryz.ntmps37
    go_wp2_with fail
    go_quiet (fail)
    obtain ⟨wq, hwq⟩ : ∃ W, W = w.drewN nq := ⟨_, rfl⟩
    rw [← hwq]
    have hq : LAt c hi wq v i out := hwq ▸ H.out.drewN nq
    have bq : Below c.bp w wq := hwq ▸ bl_drewN0 nq
    have d1 := hq.c1
    have f1 := hq.fz 1
    have lq := hq.blk.lt
    have Hq := Lib.hid hq
    have Bq := Lib.hid bq
    clear hwq hq bq c0 c1 hidx
    go_wp2_with fail
    refine (while_any c 57 (enters_of Tryz.func57 (by kernel_rfl) rfl) Lx.noLine noLine_any _ _ v i out Hq.out (by omega)).mono ?_
    rintro e w5 ⟨rfl, h5, hb5⟩
    go_wp2_with fail
    go_ret
    refine ⟨Bq.out.trans hb5, ?_⟩
    rw [E.out]
    exact ⟨rfl, ⟨v, h5.now⟩, MV.out, (skip_le Lx.noLine c.S i).2 (by omega), by omega⟩
  have k35 : ((pk.toNat : Int) == 35) = false := u8_ne (k := 35) (by omega) h35
  by_cases h92 : pk = 92
  · have k92 : ((pk.toNat : Int) == 92) = true := by rw [h92]; rfl
    by_cases hp : Lx.peek c.S (i + 1) = 10
    · have kp : (((Lx.peek c.S (i + 1)).toNat : Int) == 10) = true := by rw [hp]; rfl
      have hi2 : i + 1 < c.S.length := by
        rcases Nat.lt_or_ge (i + 1) c.S.length with h' | h'
        · exact h'
        · have : Lx.peek c.S (i + 1) = 0 := by simp [Lx.peek, List.getElem?_eq_none h']
          rw [hp] at this; cases this
      have E : Hid (Lx.next c.S out i = .ok out (i + 2)) := by
        show Lx.next c.S out i = _
        rw [E0.out, if_neg (by rintro (h | h | h) <;> contradiction), if_neg h35, if_pos ⟨h92, hp⟩]
      clear E0
      clear hp h92 h35 h32 h9 h13
      go_enter Tryz.func37, Tryz.ntmps37
      go_wp2_with fail
      go_quiet (fail)
      obtain ⟨wq, hwq⟩ : ∃ W, W = w.drewN nq := ⟨_, rfl⟩
      rw [← hwq]
      have hq : LAt c hi wq v i out := hwq ▸ H.out.drewN nq
      have bq : Below c.bp w wq := hwq ▸ bl_drewN0 nq
      have d1 := hq.c1
      have f1 := hq.fz 1
      have lq := hq.blk.lt
      have Hq := Lib.hid hq
      have Bq := Lib.hid bq
      clear hwq hq bq c0 c1 hidx
      go_wp2_with fail
      refine (peek_any c _ _ v i out Hq.out 1 (by omega)).mono ?_
      rintro e wp1 ⟨rfl, hbp⟩
      have hp1 := Hq.out.under hbp
      have d1 := hp1.c1
      have f1 := hp1.fz 1
      have lq := hp1.blk.lt
      have Hp1 := Lib.hid hp1
      have Bp1 := Lib.hid (Bq.out.trans (hbp.mono (by have := Hq.out.blk.lt; omega)))
      clear hp1 hbp
      go_wp2_with fail
      go_ret
      refine ⟨bl_set1 Bp1.out (Nat.le_refl _), ?_⟩
      rw [E.out]
      exact ⟨rfl, ⟨v, by simpa [World.setCell] using (Hp1.out.set (i + 2) (by omega)).now⟩, by omega, by omega, by omega⟩
    · have kp : (((Lx.peek c.S (i + 1)).toNat : Int) == 10) = false := u8_ne (k := 10) (by omega) hp
      have k10 : ((pk.toNat : Int) == 10) = false := by rw [h92]; rfl
      have k46 : ((pk.toNat : Int) == 46) = false := by rw [h92]; rfl
      have k34 : ((pk.toNat : Int) == 34) = false := by rw [h92]; rfl
      have k47 : ((pk.toNat : Int) == 47) = false := by rw [h92]; rfl
      have kd : Lx.digit pk = false := by rw [h92]; rfl
      have kl : Lx.letter pk = false := by rw [h92]; rfl
      have hd := HD.out
      have hle := HL.out
      rw [kd] at hd
      rw [kl] at hle
      have HD := Lib.hid hd
      have HL := Lib.hid hle
      clear hd hle
      have E : Hid (Lx.next c.S out i = Lx.sign c.S out i) := by
        show Lx.next c.S out i = _
        rw [E0.out, if_neg (by rintro (h | h | h) <;> contradiction), if_neg h35, if_neg (fun h => hp h.2), if_neg (by rw [h92]; decide), if_neg (by rw [h92]; simp; decide), if_neg (by rw [h92]; decide), if_neg (by rw [h92]; decide), if_neg (by rw [h92]; simp)]
      clear E0
      clear hp kd kl h92 h35 h32 h9 h13
      go_enter Tryz.func37, Tryz.ntmps37
      go_wp2_with fail
      go_quiet (fail)
      obtain ⟨wq, hwq⟩ : ∃ W, W = w.drewN nq := ⟨_, rfl⟩
      rw [← hwq]
      have hq : LAt c hi wq v i out := hwq ▸ H.out.drewN nq
      have bq : Below c.bp w wq := hwq ▸ bl_drewN0 nq
      have d1 := hq.c1
      have f1 := hq.fz 1
      have lq := hq.blk.lt
      have Hq := Lib.hid hq
      have Bq := Lib.hid bq
      clear hwq hq bq c0 c1 hidx
      go_wp2_with fail
      refine (peek_any c _ _ v i out Hq.out 1 (by omega)).mono ?_
      rintro e wp1 ⟨rfl, hbp⟩
      have hp1 := Hq.out.under hbp
      have d1 := hp1.c1
      have f1 := hp1.fz 1
      have lq := hp1.blk.lt
      have Hp1 := Lib.hid hp1
      have Bp1 := Lib.hid (Bq.out.trans (hbp.mono (by have := Hq.out.blk.lt; omega)))
      clear hp1 hbp
      go_wp2_with fail
      refine (HD.out _).mono ?_
      rintro e w' ⟨rfl, rfl⟩
      go_wp2_with fail
      refine (HL.out _).mono ?_
      rintro e w' ⟨rfl, rfl⟩
      go_wp2_with fail
      refine (sign_any c _ _ v i out Hp1.out hil hn).mono ?_
      rintro e w8 hs
      have HS := Lib.hid hs
      clear hs
      obtain ⟨er, rfl⟩ : ∃ k, e = .returned (.int .i64 k) := by
        have := HS.out.2
        revert this
        cases Lx.sign c.S out i with
        | ok o j => exact fun h => ⟨_, h.1⟩
        | bad j => exact fun h => ⟨_, h.1⟩
      go_wp2_with fail
      go_ret
      have hs := HS.out
      refine ⟨Bp1.out.trans hs.1, ?_⟩
      rw [E.out]
      exact hs.2
  have k92 : ((pk.toNat : Int) == 92) = false := u8_ne (k := 92) (by omega) h92
  by_cases h10 : pk = 10
  · have k10 : ((pk.toNat : Int) == 10) = true := by rw [h10]; rfl
    have E : Hid (Lx.next c.S out i = .ok (out ++ [⟨1, [], i⟩]) (i + 1)) := by
      show Lx.next c.S out i = _
      rw [E0.out, if_neg (by rintro (h | h | h) <;> contradiction), if_neg h35, if_neg (fun h => h92 h.1), if_pos h10]
    clear E0
    clear h10 h92 h35 h32 h9 h13
    go_enter Tryz.func37, Tryz.ntmps37
    go_wp2_with fail
    go_quiet (fail)
    obtain ⟨wq, hwq⟩ : ∃ W, W = w.drewN nq := ⟨_, rfl⟩
    rw [← hwq]
    have hq : LAt c hi wq v i out := hwq ▸ H.out.drewN nq
    have bq : Below c.bp w wq := hwq ▸ bl_drewN0 nq
    have d1 := hq.c1
    have f1 := hq.fz 1
    have lq := hq.blk.lt
    have Hq := Lib.hid hq
    have Bq := Lib.hid bq
    clear hwq hq bq c0 c1 hidx
    go_wp2_with fail
    refine (put_any c _ _ v i out Hq.out 1 [] i hn).mono ?_
    rintro e w9 ⟨rfl, ⟨v', h9'⟩, hb9⟩
    have d1 := h9'.c1
    have f1 := h9'.fz 1
    have F := Lib.hid (h9'.set (i + 1) (by omega))
    have B9 := Lib.hid (Bq.out.trans hb9)
    clear h9' hb9
    go_wp2_with fail
    go_ret
    refine ⟨bl_set1 B9.out (Nat.le_refl _), ?_⟩
    rw [E.out]
    exact ⟨rfl, ⟨v', by simpa [World.setCell] using F.out.now⟩, by omega, by omega, by simp⟩
  have k10 : ((pk.toNat : Int) == 10) = false := u8_ne (k := 10) (by omega) h10
  cases kd : Lx.digit pk with
  | true =>
    have hd_HD := HD.out
    rw [kd] at hd_HD
    have HD := Lib.hid hd_HD
    clear hd_HD
    have MV : Hid (Lx.digit (Lx.peek c.S i) = true ∨ Lx.peek c.S i = 46) := .inl (HPK.out ▸ kd)
    have E : Hid (Lx.next c.S out i = Lx.number c.S out i) := by
      show Lx.next c.S out i = _
      rw [E0.out, if_neg (by rintro (h | h | h) <;> contradiction), if_neg h35, if_neg (fun h => h92 h.1), if_neg h10, if_pos (.inl kd)]
    clear E0
    clear kd h10 h92 h35 h32 h9 h13
    go_enter Tryz.func37, Tryz.ntmps37
    go_wp2_with fail
    go_quiet (fail)
    obtain ⟨wq, hwq⟩ : ∃ W, W = w.drewN nq := ⟨_, rfl⟩
    rw [← hwq]
    have hq : LAt c hi wq v i out := hwq ▸ H.out.drewN nq
    have bq : Below c.bp w wq := hwq ▸ bl_drewN0 nq
    have d1 := hq.c1
    have f1 := hq.fz 1
    have lq := hq.blk.lt
    have Hq := Lib.hid hq
    have Bq := Lib.hid bq
    clear hwq hq bq c0 c1 hidx
    go_wp2_with fail
    refine (HD.out _).mono ?_
    rintro e w' ⟨rfl, rfl⟩
    go_wp2_with fail
    refine (number_any c _ _ v i out Hq.out hil hn).mono ?_
    rintro e w8 ⟨rfl, ⟨v', o, j, ho, h8, hj, hol⟩, hb8⟩
    have mv := number_move hil MV.out ho
    go_wp2_with fail
    go_ret
    refine ⟨Bq.out.trans hb8, ?_⟩
    rw [E.out, ho]
    exact ⟨rfl, ⟨v', h8⟩, mv, hj, by omega⟩
  | false =>
  have hd_HD := HD.out
  rw [kd] at hd_HD
  have HD := Lib.hid hd_HD
  clear hd_HD
  by_cases h46 : pk = 46
  · have k46 : ((pk.toNat : Int) == 46) = true := by rw [h46]; rfl
    cases kd2 : Lx.digit (Lx.peek c.S (i + 1)) with
    | true =>
      have hd_HD2 := HD2.out
      rw [kd2] at hd_HD2
      have HD2 := Lib.hid hd_HD2
      clear hd_HD2
      have MV : Hid (Lx.digit (Lx.peek c.S i) = true ∨ Lx.peek c.S i = 46) := .inr (HPK.out.trans h46)
      have E : Hid (Lx.next c.S out i = Lx.number c.S out i) := by
        show Lx.next c.S out i = _
        rw [E0.out, if_neg (by rintro (h | h | h) <;> contradiction), if_neg h35, if_neg (fun h => h92 h.1), if_neg h10, if_pos (.inr ⟨h46, kd2⟩)]
      clear E0
      clear kd kd2 h46 h10 h92 h35 h32 h9 h13
      go_enter Tryz.func37, Tryz.ntmps37
      go_wp2_with fail
      go_quiet (fail)
      obtain ⟨wq, hwq⟩ : ∃ W, W = w.drewN nq := ⟨_, rfl⟩
      rw [← hwq]
      have hq : LAt c hi wq v i out := hwq ▸ H.out.drewN nq
      have bq : Below c.bp w wq := hwq ▸ bl_drewN0 nq
      have d1 := hq.c1
      have f1 := hq.fz 1
      have lq := hq.blk.lt
      have Hq := Lib.hid hq
      have Bq := Lib.hid bq
      clear hwq hq bq c0 c1 hidx
      go_wp2_with fail
      refine (HD.out _).mono ?_
      rintro e w' ⟨rfl, rfl⟩
      go_wp2_with fail
      refine (peek_any c _ _ v i out Hq.out 1 (by omega)).mono ?_
      rintro e wp1 ⟨rfl, hbp⟩
      have hp1 := Hq.out.under hbp
      have d1 := hp1.c1
      have f1 := hp1.fz 1
      have lq := hp1.blk.lt
      have Hp1 := Lib.hid hp1
      have Bp1 := Lib.hid (Bq.out.trans (hbp.mono (by have := Hq.out.blk.lt; omega)))
      clear hp1 hbp
      go_wp2_with fail
      refine (HD2.out _).mono ?_
      rintro e w' ⟨rfl, rfl⟩
      go_wp2_with fail
      refine (number_any c _ _ v i out Hp1.out hil hn).mono ?_
      rintro e w8 ⟨rfl, ⟨v', o, j, ho, h8, hj, hol⟩, hb8⟩
      have mv := number_move hil MV.out ho
      go_wp2_with fail
      go_ret
      refine ⟨Bp1.out.trans hb8, ?_⟩
      rw [E.out, ho]
      exact ⟨rfl, ⟨v', h8⟩, mv, hj, by omega⟩
    | false =>
      have hd_HD2 := HD2.out
      rw [kd2] at hd_HD2
      have HD2 := Lib.hid hd_HD2
      clear hd_HD2
      have k34 : ((pk.toNat : Int) == 34) = false := by rw [h46]; rfl
      have k47 : ((pk.toNat : Int) == 47) = false := by rw [h46]; rfl
      have kl : Lx.letter pk = false := by rw [h46]; rfl
      have hd_HL := HL.out
      rw [kl] at hd_HL
      have HL := Lib.hid hd_HL
      clear hd_HL
      have E : Hid (Lx.next c.S out i = Lx.sign c.S out i) := by
        show Lx.next c.S out i = _
        rw [E0.out, if_neg (by rintro (h | h | h) <;> contradiction), if_neg h35, if_neg (fun h => h92 h.1), if_neg h10, if_neg (by rw [kd, kd2]; simp), if_neg (by rw [kl]; simp), if_neg (by rw [h46]; decide), if_neg (by rw [h46]; simp)]
      clear E0
      clear kd kd2 kl h46 h10 h92 h35 h32 h9 h13
      go_enter Tryz.func37, Tryz.ntmps37
      go_wp2_with fail
      go_quiet (fail)
      obtain ⟨wq, hwq⟩ : ∃ W, W = w.drewN nq := ⟨_, rfl⟩
      rw [← hwq]
      have hq : LAt c hi wq v i out := hwq ▸ H.out.drewN nq
      have bq : Below c.bp w wq := hwq ▸ bl_drewN0 nq
      have d1 := hq.c1
      have f1 := hq.fz 1
      have lq := hq.blk.lt
      have Hq := Lib.hid hq
      have Bq := Lib.hid bq
      clear hwq hq bq c0 c1 hidx
      go_wp2_with fail
      refine (HD.out _).mono ?_
      rintro e w' ⟨rfl, rfl⟩
      go_wp2_with fail
      refine (peek_any c _ _ v i out Hq.out 1 (by omega)).mono ?_
      rintro e wp1 ⟨rfl, hbp⟩
      have hp1 := Hq.out.under hbp
      have d1 := hp1.c1
      have f1 := hp1.fz 1
      have lq := hp1.blk.lt
      have Hp1 := Lib.hid hp1
      have Bp1 := Lib.hid (Bq.out.trans (hbp.mono (by have := Hq.out.blk.lt; omega)))
      clear hp1 hbp
      go_wp2_with fail
      refine (HD2.out _).mono ?_
      rintro e w' ⟨rfl, rfl⟩
      go_wp2_with fail
      refine (HL.out _).mono ?_
      rintro e w' ⟨rfl, rfl⟩
      go_wp2_with fail
      refine (sign_any c _ _ v i out Hp1.out hil hn).mono ?_
      rintro e w8 hs
      have HS := Lib.hid hs
      clear hs
      obtain ⟨er, rfl⟩ : ∃ k, e = .returned (.int .i64 k) := by
        have := HS.out.2
        revert this
        cases Lx.sign c.S out i with
        | ok o j => exact fun h => ⟨_, h.1⟩
        | bad j => exact fun h => ⟨_, h.1⟩
      go_wp2_with fail
      go_ret
      have hs := HS.out
      refine ⟨Bp1.out.trans hs.1, ?_⟩
      rw [E.out]
      exact hs.2
  have k46 : ((pk.toNat : Int) == 46) = false := u8_ne (k := 46) (by omega) h46
  cases kl : Lx.letter pk with
  | true =>
    have hd_HL := HL.out
    rw [kl] at hd_HL
    have HL := Lib.hid hd_HL
    clear hd_HL
    have MV : Hid (Lx.letter (Lx.peek c.S i) = true) := HPK.out ▸ kl
    have E : Hid (Lx.next c.S out i = Lx.word c.S out i) := by
      show Lx.next c.S out i = _
      rw [E0.out, if_neg (by rintro (h | h | h) <;> contradiction), if_neg h35, if_neg (fun h => h92 h.1), if_neg h10, if_neg (by rw [kd]; simp [h46]), if_pos kl]
    clear E0
    clear kl kd h46 h10 h92 h35 h32 h9 h13
    go_enter Tryz.func37, Tryz.ntmps37
    go_wp2_with fail
    go_quiet (fail)
    obtain ⟨wq, hwq⟩ : ∃ W, W = w.drewN nq := ⟨_, rfl⟩
    rw [← hwq]
    have hq : LAt c hi wq v i out := hwq ▸ H.out.drewN nq
    have bq : Below c.bp w wq := hwq ▸ bl_drewN0 nq
    have d1 := hq.c1
    have f1 := hq.fz 1
    have lq := hq.blk.lt
    have Hq := Lib.hid hq
    have Bq := Lib.hid bq
    clear hwq hq bq c0 c1 hidx
    go_wp2_with fail
    refine (HD.out _).mono ?_
    rintro e w' ⟨rfl, rfl⟩
    go_wp2_with fail
    refine (HL.out _).mono ?_
    rintro e w' ⟨rfl, rfl⟩
    go_wp2_with fail
    refine (word_any c _ _ v i out Hq.out hil hn).mono ?_
    rintro e w8 ⟨rfl, ⟨v', o, j, ho, h8, _, hj, hol⟩, hb8⟩
    have mv := word_move hil MV.out ho
    go_wp2_with fail
    go_ret
    refine ⟨Bq.out.trans hb8, ?_⟩
    rw [E.out, ho]
    exact ⟨rfl, ⟨v', h8⟩, mv, hj, by omega⟩
  | false =>
  have hd_HL := HL.out
  rw [kl] at hd_HL
  have HL := Lib.hid hd_HL
  clear hd_HL
  by_cases h34 : pk = 34
  · have k34 : ((pk.toNat : Int) == 34) = true := by rw [h34]; rfl
    have E : Hid (Lx.next c.S out i = Lx.quoted 3 34 Lx.inString c.S out i) := by
      show Lx.next c.S out i = _
      rw [E0.out, if_neg (by rintro (h | h | h) <;> contradiction), if_neg h35, if_neg (fun h => h92 h.1), if_neg h10, if_neg (by rw [kd]; simp [h46]), if_neg (by rw [kl]; simp), if_pos h34]
    clear E0
    clear h34 kl kd h46 h10 h92 h35 h32 h9 h13
    go_enter Tryz.func37, Tryz.ntmps37
    go_wp2_with fail
    go_quiet (fail)
    obtain ⟨wq, hwq⟩ : ∃ W, W = w.drewN nq := ⟨_, rfl⟩
    rw [← hwq]
    have hq : LAt c hi wq v i out := hwq ▸ H.out.drewN nq
    have bq : Below c.bp w wq := hwq ▸ bl_drewN0 nq
    have d1 := hq.c1
    have f1 := hq.fz 1
    have lq := hq.blk.lt
    have Hq := Lib.hid hq
    have Bq := Lib.hid bq
    clear hwq hq bq c0 c1 hidx
    go_wp2_with fail
    refine (HD.out _).mono ?_
    rintro e w' ⟨rfl, rfl⟩
    go_wp2_with fail
    refine (HL.out _).mono ?_
    rintro e w' ⟨rfl, rfl⟩
    go_wp2_with fail
    refine (quoted_any c 64 (enters_of Tryz.func64 (by kernel_rfl) rfl) Lx.inString inString_any 3 34 _ _ v i out Hq.out hil hn).mono ?_
    rintro e w8 hs
    have HS := Lib.hid hs
    clear hs
    obtain ⟨er, rfl⟩ : ∃ k, e = .returned (.int .i64 k) := by
      have := HS.out.2
      revert this
      cases Lx.quoted 3 34 Lx.inString c.S out i with
      | ok o j => exact fun h => ⟨_, h.1⟩
      | bad j => exact fun h => ⟨_, h.1⟩
    go_wp2_with fail
    go_ret
    have hs := HS.out
    refine ⟨Bq.out.trans hs.1, ?_⟩
    rw [E.out]
    exact hs.2
  have k34 : ((pk.toNat : Int) == 34) = false := u8_ne (k := 34) (by omega) h34
  by_cases h47 : pk = 47
  · have k47 : ((pk.toNat : Int) == 47) = true := by rw [h47]; rfl
    cases ks : Lx.slash out with
    | true =>
      have KS := Lib.hid ks
      have E : Hid (Lx.next c.S out i = Lx.quoted 4 47 Lx.inRegex c.S out i) := by
        show Lx.next c.S out i = _
        rw [E0.out, if_neg (by rintro (h | h | h) <;> contradiction), if_neg h35, if_neg (fun h => h92 h.1), if_neg h10, if_neg (by rw [kd]; simp [h46]), if_neg (by rw [kl]; simp), if_neg h34, if_pos ⟨h47, ks⟩]
      clear E0
      clear ks h47 h34 kl kd h46 h10 h92 h35 h32 h9 h13
      go_enter Tryz.func37, Tryz.ntmps37
      go_wp2_with fail
      go_quiet (fail)
      obtain ⟨wq, hwq⟩ : ∃ W, W = w.drewN nq := ⟨_, rfl⟩
      rw [← hwq]
      have hq : LAt c hi wq v i out := hwq ▸ H.out.drewN nq
      have bq : Below c.bp w wq := hwq ▸ bl_drewN0 nq
      have d1 := hq.c1
      have f1 := hq.fz 1
      have lq := hq.blk.lt
      have Hq := Lib.hid hq
      have Bq := Lib.hid bq
      clear hwq hq bq c0 c1 hidx
      go_wp2_with fail
      refine (HD.out _).mono ?_
      rintro e w' ⟨rfl, rfl⟩
      go_wp2_with fail
      refine (HL.out _).mono ?_
      rintro e w' ⟨rfl, rfl⟩
      go_wp2_with fail
      have hsl := slash_any c _ _ v i out Hq.out
      rw [KS.out] at hsl
      refine hsl.mono ?_
      rintro e wsl ⟨rfl, hbp⟩
      have hps := Hq.out.under hbp
      have Hps := Lib.hid hps
      have Bps := Lib.hid (Bq.out.trans (hbp.mono (by have := Hq.out.blk.lt; omega)))
      clear hps hbp hsl
      go_wp2_with fail
      refine (quoted_any c 66 (enters_of Tryz.func66 (by kernel_rfl) rfl) Lx.inRegex inRegex_any 4 47 _ _ v i out Hps.out hil hn).mono ?_
      rintro e w8 hs
      have HS := Lib.hid hs
      clear hs
      obtain ⟨er, rfl⟩ : ∃ k, e = .returned (.int .i64 k) := by
        have := HS.out.2
        revert this
        cases Lx.quoted 4 47 Lx.inRegex c.S out i with
        | ok o j => exact fun h => ⟨_, h.1⟩
        | bad j => exact fun h => ⟨_, h.1⟩
      go_wp2_with fail
      go_ret
      have hs := HS.out
      refine ⟨Bps.out.trans hs.1, ?_⟩
      rw [E.out]
      exact hs.2
    | false =>
      have KS := Lib.hid ks
      have E : Hid (Lx.next c.S out i = Lx.sign c.S out i) := by
        show Lx.next c.S out i = _
        rw [E0.out, if_neg (by rintro (h | h | h) <;> contradiction), if_neg h35, if_neg (fun h => h92 h.1), if_neg h10, if_neg (by rw [kd]; simp [h46]), if_neg (by rw [kl]; simp), if_neg h34, if_neg (by rw [ks]; simp)]
      clear E0
      clear ks h47 h34 kl kd h46 h10 h92 h35 h32 h9 h13
      go_enter Tryz.func37, Tryz.ntmps37
      go_wp2_with fail
      go_quiet (fail)
      obtain ⟨wq, hwq⟩ : ∃ W, W = w.drewN nq := ⟨_, rfl⟩
      rw [← hwq]
      have hq : LAt c hi wq v i out := hwq ▸ H.out.drewN nq
      have bq : Below c.bp w wq := hwq ▸ bl_drewN0 nq
      have d1 := hq.c1
      have f1 := hq.fz 1
      have lq := hq.blk.lt
      have Hq := Lib.hid hq
      have Bq := Lib.hid bq
      clear hwq hq bq c0 c1 hidx
      go_wp2_with fail
      refine (HD.out _).mono ?_
      rintro e w' ⟨rfl, rfl⟩
      go_wp2_with fail
      refine (HL.out _).mono ?_
      rintro e w' ⟨rfl, rfl⟩
      go_wp2_with fail
      have hsl := slash_any c _ _ v i out Hq.out
      rw [KS.out] at hsl
      refine hsl.mono ?_
      rintro e wsl ⟨rfl, hbp⟩
      have hps := Hq.out.under hbp
      have Hps := Lib.hid hps
      have Bps := Lib.hid (Bq.out.trans (hbp.mono (by have := Hq.out.blk.lt; omega)))
      clear hps hbp hsl
      go_wp2_with fail
      refine (sign_any c _ _ v i out Hps.out hil hn).mono ?_
      rintro e w8 hs
      have HS := Lib.hid hs
      clear hs
      obtain ⟨er, rfl⟩ : ∃ k, e = .returned (.int .i64 k) := by
        have := HS.out.2
        revert this
        cases Lx.sign c.S out i with
        | ok o j => exact fun h => ⟨_, h.1⟩
        | bad j => exact fun h => ⟨_, h.1⟩
      go_wp2_with fail
      go_ret
      have hs := HS.out
      refine ⟨Bps.out.trans hs.1, ?_⟩
      rw [E.out]
      exact hs.2
  have k47 : ((pk.toNat : Int) == 47) = false := u8_ne (k := 47) (by omega) h47
  have E : Hid (Lx.next c.S out i = Lx.sign c.S out i) := by
    show Lx.next c.S out i = _
    rw [E0.out, if_neg (by rintro (h | h | h) <;> contradiction), if_neg h35, if_neg (fun h => h92 h.1), if_neg h10, if_neg (by rw [kd]; simp [h46]), if_neg (by rw [kl]; simp), if_neg h34, if_neg (fun h => h47 h.1)]
  clear E0
  clear h47 h34 kl kd h46 h10 h92 h35 h32 h9 h13
  go_enter Tryz.func37, Tryz.ntmps37
  go_wp2_with fail
  go_quiet (fail)
  obtain ⟨wq, hwq⟩ : ∃ W, W = w.drewN nq := ⟨_, rfl⟩
  rw [← hwq]
  have hq : LAt c hi wq v i out := hwq ▸ H.out.drewN nq
  have bq : Below c.bp w wq := hwq ▸ bl_drewN0 nq
  have d1 := hq.c1
  have f1 := hq.fz 1
  have lq := hq.blk.lt
  have Hq := Lib.hid hq
  have Bq := Lib.hid bq
  clear hwq hq bq c0 c1 hidx
  go_wp2_with fail
  refine (HD.out _).mono ?_
  rintro e w' ⟨rfl, rfl⟩
  go_wp2_with fail
  refine (HL.out _).mono ?_
  rintro e w' ⟨rfl, rfl⟩
  go_wp2_with fail
  refine (sign_any c _ _ v i out Hq.out hil hn).mono ?_
  rintro e w8 hs
  have HS := Lib.hid hs
  clear hs
  obtain ⟨er, rfl⟩ : ∃ k, e = .returned (.int .i64 k) := by
    have := HS.out.2
    revert this
    cases Lx.sign c.S out i with
    | ok o j => exact fun h => ⟨_, h.1⟩
    | bad j => exact fun h => ⟨_, h.1⟩
  go_wp2_with fail
  go_ret
  have hs := HS.out
  refine ⟨Bq.out.trans hs.1, ?_⟩
  rw [E.out]
  exact hs.2

end Go.Proofs.YtgnmfaeonijogaaGreatDoor
