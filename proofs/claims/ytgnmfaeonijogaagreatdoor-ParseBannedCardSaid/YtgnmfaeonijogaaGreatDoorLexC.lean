/- The lexer, walked: may a pattern begin here? numbers. -/
import Derived.Test.YtgnmfaeonijogaaGreatDoorLexB
import Derived.Test.YtgnmfaeonijogaaGreatDoorPrimB
import Derived.Deep.RegionWith
namespace Go.Proofs.YtgnmfaeonijogaaGreatDoor
open Go.RowKit

theorem bl_alloc' {B : Nat} {w W : World} (h : Below B w W) (hB : B ≤ W.heap.size) (o : Obj) : Below B w (W.alloc o) := h.alloc hB o

theorem row_cell {w : World} {base e size n g : Nat} {v : Value} {xs : List Value} (h : w.ownsRow base e size v n xs) (hg : v.ownBlock = some g) (j : Nat) (u : Value) (hu : xs[j]? = some u) : w.cell? ⟨g, j, none⟩ = some u := by
  have := h.cells hg j u hu
  have e : Addr.add ⟨g, 0, none⟩ j = ⟨g, j, none⟩ := by simp [Addr.add]; intro h; rw [h]
  rwa [e] at this
theorem lastTok {out : List Pp.Tok} {m : Nat} (hm : out.length = m + 1) : ∃ t, out[m]? = some t ∧ out.getLast? = some t := by
  have : m < out.length := by omega
  refine ⟨out[m], by simp [this], ?_⟩
  rw [List.getLast?_eq_getElem?, hm]
  simp [this]

set_option maxRecDepth 100000 in
set_option maxHeartbeats 4000000 in
theorem slash_any (c : LC) (hi : Nat) (w : World) (v : Value) (i : Nat) (out : List Pp.Tok) (h : LAt c hi w v i out) :
    Calls Tryz.prog 65 #[.pointer (some ⟨c.bp, 0, none⟩)] w fun e w' => e = .returned (.bool (Lx.slash out)) ∧ Below w.heap.size w w' := by
  have c2 := h.c2
  have hb := h.blk.lt
  have hn := h.num
  obtain ⟨a, q, rfl⟩ := h.val
  cases hm : out.length with
  | zero =>
    have e : Lx.slash out = true := by
      have : out = [] := List.length_eq_zero_iff.1 hm
      subst this; rfl
    rw [e]
    rw [hm] at c2
    clear h hm hn e
    go_enter Tryz.func65, Tryz.ntmps65
    go_wp2_with fail
    go_ret
    exact ⟨rfl, Below.refl _ _⟩
  | succ m =>
    obtain ⟨t, ht, hl⟩ := lastTok hm
    have hr := h.row
    obtain ⟨g, rfl, hg1, hg2⟩ : ∃ g, a = some ⟨g, 0, none⟩ ∧ c.bp + 1 ≤ g ∧ g < w.heap.size := by
      rcases hr.2 with ⟨hv, h0⟩ | ⟨g, cap, cur, hv, r1, r2, _⟩
      · omega
      · simp at hv
        exact ⟨g, hv.1, r1, by
          rcases Nat.lt_or_ge g w.heap.size with h' | h'
          · exact h'
          · rw [Array.getElem?_eq_none h'] at r2; cases r2⟩
    have hcell := tokRow_get out m t ht
    have t0 : w.cell? ⟨g, m * 3, none⟩ = some (.int .i64 t.kind) := row_cell hr rfl _ _ hcell.1
    have t1 : w.cell? ⟨g, m * 3 + 1, none⟩ = some (vs t.text) := row_cell hr rfl _ _ hcell.2.1
    have t2 : w.cell? ⟨g, m * 3 + 2, none⟩ = some (.int .i64 t.pos) := row_cell hr rfl _ _ hcell.2.2
    have hn' : (out.length : Int) ≤ 100000 := by omega
    have hz0 : ((out.length : Int) == 0) = false := by rw [hm]; simp; omega
    have hsub : (out.length : Int) - 1 = (m : Int) := by omega
    have hm0 : (0 : Int) ≤ (m : Int) := by omega
    have hm1 : (m : Int) < (out.length : Int) := by omega
    have hm2 : m < out.length := by omega
    have e : Lx.slash out = (if t.kind = 2 ∨ t.kind = 3 ∨ t.kind = 4 ∨ t.kind = 5 then false else if t.kind = 9 then t.text != [108, 101, 110, 103, 116, 104] else if t.kind = 8 then !([[41], [93], [43, 43], [45, 45]] : List Pp.Bytes).contains t.text else true) := by
      unfold Lx.slash; rw [hl]
    rw [e]
    generalize out.length = n at *
    clear h hm hn e hr ht hl hcell
    by_cases h2345 : t.kind = 2 ∨ t.kind = 3 ∨ t.kind = 4 ∨ t.kind = 5
    · rw [if_pos h2345]
      by_cases h2 : t.kind = 2
      · have k2 : (t.kind == 2) = true := by simpa using h2
        clear h2345 h2
        go_enter Tryz.func65, Tryz.ntmps65
        go_wp2_with fail
        go_region
        go_wp2_with fail
        go_ret
        exact ⟨rfl, (by repeat (first | exact Below.refl _ _ | exact Nat.le_refl _ | apply Below.drew | apply bl_drewN | (refine bl_alloc ?_ (Nat.le_refl _) _) | (refine bl_put3 ?_ (by first | omega | (simp; omega)))))⟩
      have k2 : (t.kind == 2) = false := by simpa using h2
      by_cases h3 : t.kind = 3
      · have k3 : (t.kind == 3) = true := by simpa using h3
        clear h2345 h2 h3
        go_enter Tryz.func65, Tryz.ntmps65
        go_wp2_with fail
        go_region
        go_wp2_with fail
        go_ret
        exact ⟨rfl, (by repeat (first | exact Below.refl _ _ | exact Nat.le_refl _ | apply Below.drew | apply bl_drewN | (refine bl_alloc ?_ (Nat.le_refl _) _) | (refine bl_put3 ?_ (by first | omega | (simp; omega)))))⟩
      have k3 : (t.kind == 3) = false := by simpa using h3
      by_cases h4 : t.kind = 4
      · have k4 : (t.kind == 4) = true := by simpa using h4
        clear h2345 h2 h3 h4
        go_enter Tryz.func65, Tryz.ntmps65
        go_wp2_with fail
        go_region
        go_wp2_with fail
        go_ret
        exact ⟨rfl, (by repeat (first | exact Below.refl _ _ | exact Nat.le_refl _ | apply Below.drew | apply bl_drewN | (refine bl_alloc ?_ (Nat.le_refl _) _) | (refine bl_put3 ?_ (by first | omega | (simp; omega)))))⟩
      have k4 : (t.kind == 4) = false := by simpa using h4
      have k5 : (t.kind == 5) = true := by simp; omega
      clear h2345 h2 h3 h4
      go_enter Tryz.func65, Tryz.ntmps65
      go_wp2_with fail
      go_region
      go_wp2_with fail
      go_ret
      exact ⟨rfl, (by repeat (first | exact Below.refl _ _ | exact Nat.le_refl _ | apply Below.drew | apply bl_drewN | (refine bl_alloc ?_ (Nat.le_refl _) _) | (refine bl_put3 ?_ (by first | omega | (simp; omega)))))⟩
    rw [if_neg h2345]
    have k2 : (t.kind == 2) = false := by simp; omega
    have k3 : (t.kind == 3) = false := by simp; omega
    have k4 : (t.kind == 4) = false := by simp; omega
    have k5 : (t.kind == 5) = false := by simp; omega
    clear h2345
    by_cases h9 : t.kind = 9
    · rw [if_pos h9]
      have k9 : (t.kind == 9) = true := by simpa using h9
      clear h9
      go_enter Tryz.func65, Tryz.ntmps65
      go_wp2_with fail
      go_region
      go_wp2_with fail
      go_ret
      exact ⟨rfl, (by repeat (first | exact Below.refl _ _ | exact Nat.le_refl _ | apply Below.drew | apply bl_drewN | (refine bl_alloc ?_ (Nat.le_refl _) _) | (refine bl_put3 ?_ (by first | omega | (simp; omega)))))⟩
    rw [if_neg h9]
    have k9 : (t.kind == 9) = false := by simpa using h9
    by_cases h8 : t.kind = 8
    · rw [if_pos h8]
      have k8 : (t.kind == 8) = true := by simpa using h8
      clear h8 h9
      go_enter Tryz.func65, Tryz.ntmps65
      go_wp2_with fail
      go_region
      go_wp2_with fail
      refine (containsT _ (w.heap.size + 1) 4 [[41], [93], [43, 43], [45, 45]] t.text (StrsAt.of_blk [[41], [93], [43, 43], [45, 45]] (Blk.new1 w _ 9 _).drew) (by simp)).mono ?_
      rintro e w9 ⟨rfl, rfl⟩
      go_wp2_with fail
      go_ret
      exact ⟨by simp, (by repeat (first | exact Below.refl _ _ | exact Nat.le_refl _ | apply Below.drew | apply bl_drewN | (refine bl_alloc ?_ (Nat.le_refl _) _) | (refine bl_put3 ?_ (by first | omega | (simp; omega)))))⟩
    rw [if_neg h8]
    have k8 : (t.kind == 8) = false := by simpa using h8
    clear h8 h9
    go_enter Tryz.func65, Tryz.ntmps65
    go_wp2_with fail
    go_region
    go_wp2_with fail
    go_ret
    exact ⟨rfl, (by repeat (first | exact Below.refl _ _ | exact Nat.le_refl _ | apply Below.drew | apply bl_drewN | (refine bl_alloc ?_ (Nat.le_refl _) _) | (refine bl_put3 ?_ (by first | omega | (simp; omega)))))⟩

theorem ext_part (S : Pp.Bytes) (i j : Nat) : ByteArray.extract ⟨S.toArray⟩ i j = ⟨(Lx.part S i j).toArray⟩ := by
  apply ByteArray.ext
  apply Array.toList_inj.1
  rw [Lib.extract_data]
  simp [Lx.part]
theorem put_str (c : LC) (hi : Nat) (w : World) (v : Value) (i : Nat) (out : List Pp.Tok) (h : LAt c hi w v i out) (k : Int) (t : Pp.Bytes) (x : ByteArray) (hx : x = ⟨t.toArray⟩) (pos : Int) (hn : out.length < 100000) :
    Calls Tryz.prog 38 #[.pointer (some ⟨c.bp, 0, none⟩), .int .i64 k, .string x, .int .i64 pos] w fun e w' => e = .returned (.tuple #[]) ∧ (∃ v', LAt c w'.heap.size w' v' i (out ++ [⟨k, t, pos⟩])) ∧ Below c.bp w w' := by
  subst hx
  exact put_any c hi w v i out h k t pos hn

set_option maxRecDepth 100000 in
set_option maxHeartbeats 4000000 in
theorem number_any (c : LC) (hi : Nat) (w : World) (v : Value) (i : Nat) (out : List Pp.Tok) (h : LAt c hi w v i out) (hil : i < c.S.length) (hn : out.length < 100000) :
    Calls Tryz.prog 60 #[.pointer (some ⟨c.bp, 0, none⟩)] w fun e w' => e = .returned (.tuple #[]) ∧ (∃ v' o j, Lx.number c.S out i = .ok o j ∧ LAt c w'.heap.size w' v' j o ∧ j ≤ c.S.length ∧ o.length = out.length + 1) ∧ Below c.bp w w' := by
  have c1 := h.c1
  have H := Lib.hid h
  have hl := h.len
  clear h
  go_enter Tryz.func60, Tryz.ntmps60
  go_wp2_with fail
  refine (while_any c 59 (enters_of Tryz.func59 (by kernel_rfl) rfl) Lx.digit digit_any hi w v i out H.out (by omega)).mono ?_
  rintro e w1 ⟨rfl, h1, hb1⟩
  have hj := (skip_le Lx.digit c.S i).2 (by omega)
  have hj0 := (skip_le Lx.digit c.S i).1
  obtain ⟨j, hJ⟩ : ∃ j, Lx.skip Lx.digit c.S i = j := ⟨_, rfl⟩
  rw [hJ] at h1 hj hj0
  have H1 := Lib.hid h1
  have HJ := Lib.hid hJ
  clear h1 hJ
  go_wp2_with fail
  refine (peek_any c hi w1 v j out H1.out 0 (by omega)).mono ?_
  rintro e w2 ⟨rfl, hb2⟩
  simp only [Nat.add_zero]
  have h2 := H1.out.under hb2
  have d1 := h2.c1
  have d0 := h2.c0
  have z1 := h2.fz 1
  have H2 := Lib.hid h2
  clear h2
  by_cases hp : Lx.peek c.S j = 46
  · have kp : (((Lx.peek c.S j).toNat : Int) == 46) = true := by rw [hp]; rfl
    have HP := Lib.hid hp
    clear hp
    have hjl : j < c.S.length := by
      rcases Nat.lt_or_ge j c.S.length with h' | h'
      · exact h'
      · have : Lx.peek c.S j = 0 := by simp [Lx.peek, List.getElem?_eq_none h']
        rw [HP.out] at this
        cases this
    go_wp2_with fail
    refine (while_any c 59 (enters_of Tryz.func59 (by kernel_rfl) rfl) Lx.digit digit_any _ _ v (j + 1) out (by simpa using H2.out.set (j + 1) (by omega)) (by omega)).mono ?_
    rintro e w3 ⟨rfl, h3, hb3⟩
    have hk := (skip_le Lx.digit c.S (j + 1)).2 (by omega)
    have hk0 := (skip_le Lx.digit c.S (j + 1)).1
    obtain ⟨k, hK⟩ : ∃ k, Lx.skip Lx.digit c.S (j + 1) = k := ⟨_, rfl⟩
    rw [hK] at h3 hk hk0
    have g0 := h3.c0
    have g1 := h3.c1
    have H3 := Lib.hid h3
    have E : Hid (Lx.number c.S out i = .ok (out ++ [⟨2, Lx.part c.S i k, i⟩]) k) := by
      show Lx.number c.S out i = _
      unfold Lx.number
      simp only [HJ.out, HP.out, if_true, hK]
    have B3 := Lib.hid ((bl_set1 (k := 1) (u := .int .i64 ((j : Int) + 1)) (hb1.trans (hb2.mono (Nat.le_of_lt H1.out.blk.lt))) (Nat.le_refl c.bp)).trans hb3)
    clear h3 hK hb3 d0 d1 z1 hb2 hb1
    go_wp2_with fail
    go_region_with (first
      | (go_at_call 38; refine (put_str c _ _ v k out H3.out.drew 2 (Lx.part c.S i k) _ (ext_part c.S i k) i hn).mono ?_; rintro e w9 ⟨rfl, ⟨v', h9⟩, hb9⟩))
    all_goals
      go_wp2_with fail
      go_end0
      refine ⟨rfl, ⟨v', _, k, E.out, h9, hk, by simp⟩, B3.out.drew.trans hb9⟩
  · have kp := u8_ne (k := 46) (by omega) hp
    have E : Hid (Lx.number c.S out i = .ok (out ++ [⟨2, Lx.part c.S i j, i⟩]) j) := by
      show Lx.number c.S out i = _
      unfold Lx.number
      simp only [HJ.out, hp, if_false]
    have B2 := Lib.hid (hb1.trans (hb2.mono (Nat.le_of_lt H1.out.blk.lt)))
    clear hp hb1 hb2
    go_wp2_with fail
    go_region_with (first
      | (go_at_call 38; refine (put_str c _ _ v j out H2.out.drew 2 (Lx.part c.S i j) _ (ext_part c.S i j) i hn).mono ?_; rintro e w9 ⟨rfl, ⟨v', h9⟩, hb9⟩))
    all_goals
      go_wp2_with fail
      go_end0
      refine ⟨rfl, ⟨v', _, j, E.out, h9, hj, by simp⟩, B2.out.drew.trans hb9⟩

end Go.Proofs.YtgnmfaeonijogaaGreatDoor
