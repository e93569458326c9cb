/- The lexer, walked: signs. -/
import Derived.Test.YtgnmfaeonijogaaGreatDoorLexD
import Derived.WalkLawsBesides
namespace Go.Proofs.YtgnmfaeonijogaaGreatDoor
open Go.RowKit

/-- What a step of the lexer leaves. -/
def NextPost (c : LC) (w : World) (out : List Pp.Tok) (i : Nat) (r : Lx.Res) (e : Ending) (w' : World) : Prop :=
  Below c.bp w w' ∧ match r with
  | .ok o j => e = .returned (.int .i64 0) ∧ (∃ v', LAt c w'.heap.size w' v' j o) ∧ i < j ∧ j ≤ c.S.length ∧ o.length ≤ out.length + 1
  | .bad j => e = .returned (.int .i64 9) ∧ (∃ v', LAt c w'.heap.size w' v' j out) ∧ j ≤ c.S.length

theorem contains_any (S0 : Pp.Bytes) (hS : S0.length ≤ 1000) (w : World) (m : Int) (hm : w.cell? ⟨4, 0, none⟩ = some (.int .i64 m)) (x : ByteArray) :
    Calls Tryz.prog 81 #[vs S0, .string x] w fun e w' => e = .returned (.bool (Pp.sub S0 x.data.toList)) ∧ w = w' := by
  refine (Tryz.strings_Contains _ x m w (by show S0.toArray.size < _; simp; omega) hm).mono ?_
  rintro e w' ⟨rfl, rfl⟩
  rw [sub_contains]
  exact ⟨rfl, rfl⟩
theorem indexByte_has (l : Pp.Bytes) (b : UInt8) : decide (Lib.indexByte l b < 0) = !l.contains b ∧ -1 ≤ Lib.indexByte l b := by
  induction l with
  | nil => simp [Lib.indexByte]
  | cons a l ih =>
    unfold Lib.indexByte
    by_cases h : a = b
    · subst h; simp
    · have h' : (a == b) = false := by simpa using h
      have h2 : (b == a) = false := by simpa using fun e => h e.symm
      rw [h']
      simp only [Bool.false_eq_true, if_false, List.contains_cons, h2, Bool.false_or]
      rw [← ih.1]
      by_cases h1 : Lib.indexByte l b = -1
      · simp [h1]
      · have : (Lib.indexByte l b == -1) = false := by simpa using h1
        rw [this]
        have := ih.2
        simp
        omega
theorem part_min (S : Pp.Bytes) (i : Nat) : Lx.part S i (min (i + 2) S.length) = Lx.part S i (i + 2) := by
  unfold Lx.part
  rcases Nat.le_total (i + 2) S.length with h | h
  · rw [Nat.min_eq_left h]
  · rw [Nat.min_eq_right h, List.take_of_length_le (by simp), List.take_of_length_le (by simp; omega)]

set_option maxRecDepth 100000 in
set_option maxHeartbeats 8000000 in
theorem sign_any (c : LC) (hi : Nat) (w : World) (v : Value) (i : Nat) (out : List Pp.Tok) (h : LAt c hi w v i out) (hil : i < c.S.length) (hn : out.length < 100000) :
    Calls Tryz.prog 67 #[.pointer (some ⟨c.bp, 0, none⟩)] w (NextPost c w out i (Lx.sign c.S out i)) := by
  have c0 := h.c0
  have c1 := h.c1
  have hl := h.len
  have hx := ext_part c.S i (min (i + 2) c.S.length)
  have h2l : (Lx.part c.S i (i + 2)).length ≤ 2 ∧ ((Lx.part c.S i (i + 2)).length = 2 → i + 2 ≤ c.S.length) ∧ 1 ≤ (Lx.part c.S i (i + 2)).length := by
    unfold Lx.part
    simp
    omega
  rw [part_min] at hx
  have hmin : min ((i : Int) + 2) ((c.S.length : Nat) : Int) = ((min (i + 2) c.S.length : Nat) : Int) := by omega
  have hk1 : (i : Int) ≤ ((min (i + 2) c.S.length : Nat) : Int) := by omega
  have hk2 : ((min (i + 2) c.S.length : Nat) : Int) ≤ (c.S.length : Int) := by omega
  have hw : IntKind.i64.wrap ((i : Int) + 2) = (i : Int) + 2 := IntWalk.i64_in _ (by omega)
  obtain ⟨m, hm⟩ := h.glob.most
  have h4 := h.glob.small
  have hgs := h.glob.size
  have H := Lib.hid h
  have E : Hid (Lx.sign c.S out i = (if (Lx.part c.S i (i + 2)).length = 2 ∧ Pp.sub Lx.twos ([32] ++ (Lx.part c.S i (i + 2)) ++ [32]) = true then .ok (out ++ [⟨8, (Lx.part c.S i (i + 2)), i⟩]) (i + 2) else if Lx.ones.contains (Lx.peek c.S i) then .ok (out ++ [⟨8, (Lx.part c.S i (i + 2)).take 1, i⟩]) (i + 1) else .bad i)) := rfl
  have hidx := fun w => run_idx c.S i (i : Int) rfl hil w
  generalize Lx.part c.S i (i + 2) = two at *
  generalize min (i + 2) c.S.length = k2 at *
  generalize Lx.peek c.S i = pk at *
  clear h
  have hib := fun W => Tryz.strings_IndexByte ⟨Lx.ones.toArray⟩ (pk.toNat : Int) W
  have hx0 := (indexByte_has Lx.ones pk).1
  have hu : ((pk.toNat : Int)).toNat.toUInt8 = pk := by simp
  rw [hu] at hib
  have hib2 : ∀ W, Calls Tryz.prog 82 #[vs Lx.ones, bv pk] W fun e w' => e = .returned (.int .i64 (Lib.indexByte Lx.ones pk)) ∧ w' = W := hib
  clear hib
  generalize Lib.indexByte Lx.ones pk = x at *
  have IB := Lib.hid hib2
  have HX1 : Hid (ByteArray.extract ⟨two.toArray⟩ 0 1 = ⟨(two.take 1).toArray⟩) := by
    show ByteArray.extract ⟨two.toArray⟩ 0 1 = _
    rw [ext_part]
    simp [Lx.part]
  have h2a : two.length ≤ 2 := h2l.1
  have h2b : 1 ≤ two.length := h2l.2.2
  clear hib2
  by_cases ht : two.length = 2
  · have kt : ((two.length : Int) == 2) = true := by rw [ht]; rfl
    have hil2 := h2l.2.1 ht
    cases hsub : Pp.sub Lx.twos ([32] ++ two ++ [32]) with
    | true =>
      have E2 := Lib.hid (E.out.trans (if_pos ⟨ht, hsub⟩))
      have HS := Lib.hid hsub
      clear hsub ht h2l
      go_enter Tryz.func67, Tryz.ntmps67
      go_wp2_with fail
      go_quiet (fail)
      obtain ⟨wq, hwq⟩ : ∃ W, W = w.drewN nq := ⟨_, rfl⟩
      rw [← hwq]
      have hq : LAt c hi wq v i out := hwq ▸ H.out.drewN nq
      have Bq : Below c.bp w wq := hwq ▸ bl_drewN0 nq
      obtain ⟨m2, hm2⟩ := hq.glob.most
      have e0 := hq.c0
      have e1 := hq.c1
      have Hq := Lib.hid hq
      clear hwq hq c0 c1 hm
      go_wp2_with fail
      refine (contains_any Lx.twos (by decide) _ m2 hm2 _).mono ?_
      rintro e w' ⟨rfl, rfl⟩
      rw [vs_cat3, HS.out]
      have H1 := Hq
      have B1 := Bq
      clear hx hidx hmin
      go_wp2_with fail
      refine (put_any c _ _ v i out H1.out 8 two i hn).mono ?_
      rintro e w9 ⟨rfl, ⟨v', h9⟩, hb9⟩
      have d1 := h9.c1
      have z1 := h9.fz 1
      have F := Lib.hid (h9.set (i + 2) (by omega))
      have B9 := B1.trans hb9
      clear h9 hb9
      go_wp2_with fail
      go_ret
      refine ⟨bl_set1 B9 (Nat.le_refl _), ?_⟩
      rw [E2.out]
      exact ⟨rfl, ⟨v', by simpa [World.setCell] using F.out⟩, by omega, by omega, by simp⟩
    | false =>
      have HS := Lib.hid hsub
      cases hcn : Lx.ones.contains pk with
      | true =>
        have E2 := Lib.hid ((E.out.trans (if_neg (fun hx => by have := hx.2; rw [hsub] at this; cases this))).trans (if_pos hcn))
        have kx : decide (x < 0) = false := by rw [hx0, hcn]; rfl
        clear hsub ht h2l hcn hx0
        go_enter Tryz.func67, Tryz.ntmps67
        go_wp2_with fail
        go_quiet (fail)
        obtain ⟨wq, hwq⟩ : ∃ W, W = w.drewN nq := ⟨_, rfl⟩
        rw [← hwq]
        have hq : LAt c hi wq v i out := hwq ▸ H.out.drewN nq
        have Bq : Below c.bp w wq := hwq ▸ bl_drewN0 nq
        obtain ⟨m2, hm2⟩ := hq.glob.most
        have e0 := hq.c0
        have e1 := hq.c1
        have Hq := Lib.hid hq
        clear hwq hq c0 c1 hm
        go_wp2_with fail
        refine (contains_any Lx.twos (by decide) _ m2 hm2 _).mono ?_
        rintro e w' ⟨rfl, rfl⟩
        rw [vs_cat3, HS.out]
        go_wp2_with fail
        clear hx hmin
        go_quiet ((go_at_call 82; exact Calls.quiet_of_same (IB.out _)))
        have H1 := Lib.hid (Hq.out.drewN (nq + 1))
        have B1 := bl_drewN Bq nq
        clear hidx
        go_wp2_with fail
        go_region_with (first
          | (go_at_call 38; refine (put_str c _ _ v i out H1.out 8 (two.take 1) _ HX1.out i hn).mono ?_; rintro e w9 ⟨rfl, ⟨v', h9⟩, hb9⟩))
        all_goals
          have d1 := h9.c1
          have z1 := h9.fz 1
          have F := Lib.hid (h9.set (i + 1) (by omega))
          have B9 := (bl_drewN Bq (nq + 1)).trans hb9
          clear h9 hb9
          go_wp2_with fail
          go_ret
          refine ⟨bl_set1 B9 (Nat.le_refl _), ?_⟩
          rw [E2.out]
          exact ⟨rfl, ⟨v', by simpa [World.setCell] using F.out⟩, by omega, by omega, by simp⟩
      | false =>
        have E2 := Lib.hid ((E.out.trans (if_neg (fun hx => by have := hx.2; rw [hsub] at this; cases this))).trans (if_neg (by rw [hcn]; simp)))
        have kx : decide (x < 0) = true := by rw [hx0, hcn]; rfl
        clear hsub ht h2l hcn hx0
        go_enter Tryz.func67, Tryz.ntmps67
        go_wp2_with fail
        go_quiet (fail)
        obtain ⟨wq, hwq⟩ : ∃ W, W = w.drewN nq := ⟨_, rfl⟩
        rw [← hwq]
        have hq : LAt c hi wq v i out := hwq ▸ H.out.drewN nq
        have Bq : Below c.bp w wq := hwq ▸ bl_drewN0 nq
        obtain ⟨m2, hm2⟩ := hq.glob.most
        have e0 := hq.c0
        have e1 := hq.c1
        have Hq := Lib.hid hq
        clear hwq hq c0 c1 hm
        go_wp2_with fail
        refine (contains_any Lx.twos (by decide) _ m2 hm2 _).mono ?_
        rintro e w' ⟨rfl, rfl⟩
        rw [vs_cat3, HS.out]
        go_wp2_with fail
        clear hx hmin
        go_quiet ((go_at_call 82; exact Calls.quiet_of_same (IB.out _)))
        have H1 := Lib.hid ((Hq.out.drewN nq).now)
        have B1 := bl_drewN Bq nq
        clear hidx
        go_wp2_with fail
        go_ret
        refine ⟨B1, ?_⟩
        rw [E2.out]
        exact ⟨rfl, ⟨v, H1.out⟩, by omega⟩
  · have kt : ((two.length : Int) == 2) = false := by simp; omega
    cases hcn : Lx.ones.contains pk with
    | true =>
      have E2 := Lib.hid ((E.out.trans (if_neg (fun hx => ht hx.1))).trans (if_pos hcn))
      have kx : decide (x < 0) = false := by rw [hx0, hcn]; rfl
      clear ht h2l hcn hx0
      go_enter Tryz.func67, Tryz.ntmps67
      go_wp2_with fail
      go_quiet (fail)
      obtain ⟨wq, hwq⟩ : ∃ W, W = w.drewN nq := ⟨_, rfl⟩
      rw [← hwq]
      have hq : LAt c hi wq v i out := hwq ▸ H.out.drewN nq
      have Bq : Below c.bp w wq := hwq ▸ bl_drewN0 nq
      obtain ⟨m2, hm2⟩ := hq.glob.most
      have e0 := hq.c0
      have e1 := hq.c1
      have Hq := Lib.hid hq
      clear hwq hq c0 c1 hm
      go_wp2_with fail
      clear hx hmin
      go_quiet ((go_at_call 82; exact Calls.quiet_of_same (IB.out _)))
      have H1 := Lib.hid (Hq.out.drewN (nq + 1))
      have B1 := bl_drewN Bq nq
      clear hidx
      go_wp2_with fail
      go_region_with (first
        | (go_at_call 38; refine (put_str c _ _ v i out H1.out 8 (two.take 1) _ HX1.out i hn).mono ?_; rintro e w9 ⟨rfl, ⟨v', h9⟩, hb9⟩))
      all_goals
        have d1 := h9.c1
        have z1 := h9.fz 1
        have F := Lib.hid (h9.set (i + 1) (by omega))
        have B9 := (bl_drewN Bq (nq + 1)).trans hb9
        clear h9 hb9
        go_wp2_with fail
        go_ret
        refine ⟨bl_set1 B9 (Nat.le_refl _), ?_⟩
        rw [E2.out]
        exact ⟨rfl, ⟨v', by simpa [World.setCell] using F.out⟩, by omega, by omega, by simp⟩
    | false =>
      have E2 := Lib.hid ((E.out.trans (if_neg (fun hx => ht hx.1))).trans (if_neg (by rw [hcn]; simp)))
      have kx : decide (x < 0) = true := by rw [hx0, hcn]; rfl
      clear ht h2l hcn hx0
      go_enter Tryz.func67, Tryz.ntmps67
      go_wp2_with fail
      go_quiet (fail)
      obtain ⟨wq, hwq⟩ : ∃ W, W = w.drewN nq := ⟨_, rfl⟩
      rw [← hwq]
      have hq : LAt c hi wq v i out := hwq ▸ H.out.drewN nq
      have Bq : Below c.bp w wq := hwq ▸ bl_drewN0 nq
      obtain ⟨m2, hm2⟩ := hq.glob.most
      have e0 := hq.c0
      have e1 := hq.c1
      have Hq := Lib.hid hq
      clear hwq hq c0 c1 hm
      go_wp2_with fail
      clear hx hmin
      go_quiet ((go_at_call 82; exact Calls.quiet_of_same (IB.out _)))
      have H1 := Lib.hid ((Hq.out.drewN nq).now)
      have B1 := bl_drewN Bq nq
      clear hidx
      go_wp2_with fail
      go_ret
      refine ⟨B1, ?_⟩
      rw [E2.out]
      exact ⟨rfl, ⟨v, H1.out⟩, by omega⟩

end Go.Proofs.YtgnmfaeonijogaaGreatDoor
