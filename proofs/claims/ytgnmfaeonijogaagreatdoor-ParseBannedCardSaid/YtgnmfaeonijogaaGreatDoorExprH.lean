/- Walked: a thing with ++ or -- ahead or behind. -/
import Derived.Test.YtgnmfaeonijogaaGreatDoorExprA
import Derived.Test.YtgnmfaeonijogaaGreatDoorMaps
namespace Go.Proofs.YtgnmfaeonijogaaGreatDoor
open Go.RowKit

set_option maxRecDepth 100000 in
set_option maxHeartbeats 8000000 in
theorem post_any (c : PC) (P : Pp.PS → Option (Pp.Node × Pp.PS)) (hP : IsN c 128 P) : IsN c 127 (Pp.post c.T P) := by
  intro w s n s' h hh
  have HP := Lib.hid hP
  have P_0 := Lib.hid h
  have hb := h.blk.lt
  have hmm := @run_makeMap Tryz.prog
  have HH := Lib.hid hh
  clear hP h hh
  go_enter Tryz.func127, Tryz.ntmps127
  go_wp2_with fail
  go_loopg [9] 3 (fun g v wr => ∃ i : Int, v = .int .i64 i ∧ ((i = 0 ∧ g = 3) ∨ (i = 1 ∧ g = 2 ∧ Hid (Pp.at_ c.T [[43, 43]] s = false)) ∨ (i = 2 ∧ g = 1 ∧ Hid (Pp.at_ c.T [[43, 43]] s = false ∧ Pp.at_ c.T [[45, 45]] s = false))) ∧ PAt c wr s ∧ Kp c.bp w wr ∧ Blk wr w.heap.size 25 z4 ∧
      Blk wr (w.heap.size + 1) 9 #[vs [43, 43], vs [45, 45]])
  case atStart => exact ⟨0, rfl, .inl ⟨rfl, rfl⟩, (P_0.out.alloc _).alloc _, ((Kp.refl _ _).alloc _).alloc _, (Blk.new w 25 z4).alloc _, Blk.new1 w _ 9 _⟩
  case round =>
    clear P_0
    obtain ⟨i, rfl, hi, p1, K_1, r1, a1⟩ := hrel
    have P_1 := Lib.hid p1
    have R_1 := Lib.hid r1
    have G_1 := Lib.hid a1
    have lw := a1.lt
    have g0 : wr.cell? ⟨w.heap.size + 1, 0, none⟩ = some (vs [43, 43]) := by simpa using a1.cell 0
    have g1 : wr.cell? ⟨w.heap.size + 1, 1, none⟩ = some (vs [45, 45]) := by simpa using a1.cell 1
    clear p1 r1 a1
    have hh := HH.out
    unfold Pp.post at hh
    rcases hi with ⟨rfl, rfl⟩ | ⟨rfl, rfl, h0⟩ | ⟨rfl, rfl, h0⟩
    · cases hat : Pp.at_ c.T [[43, 43]] s with
      | true =>
        rw [if_pos hat] at hh
        cases hEm : P (Pp.step c.T s) with
        | none => rw [hEm] at hh; cases hh
        | some r =>
        obtain ⟨m, s2⟩ := r
        rw [hEm] at hh
        have HM := Lib.hid hEm
        have HA := Lib.hid hat
        clear hEm hat
        cases hpl : Pp.place m with
        | true =>
          simp only [hpl, if_true, Option.some.injEq, Prod.mk.injEq] at hh
          obtain ⟨rfl, rfl⟩ := hh
          go_wp2_with fail
          refine (accept_t c _ _ P_1.out [43, 43] HA.out).mono ?_
          rintro e w2 ⟨rfl, pp, kp⟩
          have P_2 := Lib.hid pp
          have R_2 := Lib.hid (R_1.out.kp kp (by omega))
          have G_2 := Lib.hid (G_1.out.kp kp (by omega))
          have K_2 := K_1.trans kp
          have l_2 : wr.heap.size + 0 ≤ w2.heap.size := by have := kp.size; simpa using this
          clear kp pp 
          go_wp2_with fail
          refine (HP.out _ _ _ _ P_2.out HM.out).mono ?_
          rintro e w3 ⟨ma, ml, mq, rfl, tt, pp, kp⟩
          have P_3 := Lib.hid pp
          have R_3 := Lib.hid (R_2.out.kp kp (by omega))
          have G_3 := Lib.hid (G_2.out.kp kp (by omega))
          have K_3 := K_2.trans kp
          have l_3 : w2.heap.size + 0 ≤ w3.heap.size := by have := kp.size; simpa using this
          clear kp pp 
          have Tm_3 := Lib.hid tt
          clear tt
          go_wp2_with fail
          refine (place_any _ m ma ml mq).mono ?_
          rintro e w4 ⟨rfl, hb⟩
          have kk := Kp.of_below (b := c.bp) hb
          have P_4 := Lib.hid ((P_3.out.alloc _).below hb)
          have R_4 := Lib.hid ((R_3.out.alloc _).kp kk (by omega))
          have G_4 := Lib.hid ((G_3.out.alloc _).kp kk (by omega))
          have B_4 := Lib.hid (((Blk.new w3 25 #[vs m.op, vs m.text, .int .i64 m.pos, .slice ma ml mq])).kp kk (by omega))
          have Tm_4 := Lib.hid ((Tm_3.out.alloc _).kp kk (by first | omega | (simp; omega)))
          have K_4 := (K_3.alloc _).trans kk
          have l_4 : w3.heap.size + 1 ≤ w4.heap.size := by have := kk.size; simpa using this
          clear kk hb
          rw [hpl]
          obtain ⟨b0, b1, b2, b3⟩ := B_4.out.four
          have q0 : (Instr.mapUpdate 122 (.map (some (w4.heap.size))) (.string ⟨#[43, 43]⟩) (.string ⟨#[112, 114, 101, 105, 110, 99]⟩)).run Tryz.prog (w4.alloc (.map #[] 0)) = .ok () (w4.alloc (.map #[{ key := .string ⟨#[43, 43]⟩, val := .string ⟨#[112, 114, 101, 105, 110, 99]⟩, born := 0 }] 1)) := run_put _ _ (by simp) _ _ _ _ rfl
          have q1 : (Instr.mapUpdate 122 (.map (some (w4.heap.size))) (.string ⟨#[45, 45]⟩) (.string ⟨#[112, 114, 101, 100, 101, 99]⟩)).run Tryz.prog (w4.alloc (.map #[{ key := .string ⟨#[43, 43]⟩, val := .string ⟨#[112, 114, 101, 105, 110, 99]⟩, born := 0 }] 1)) = .ok () (w4.alloc (.map #[{ key := .string ⟨#[43, 43]⟩, val := .string ⟨#[112, 114, 101, 105, 110, 99]⟩, born := 0 }, { key := .string ⟨#[45, 45]⟩, val := .string ⟨#[112, 114, 101, 100, 101, 99]⟩, born := 1 }] 2)) := run_put _ _ (by simp) _ _ _ _ rfl
          have hl : (Instr.lookup 122 (.map (some w4.heap.size)) (.string ⟨#[43, 43]⟩) false).run Tryz.prog (w4.alloc (.map #[{ key := .string ⟨#[43, 43]⟩, val := .string ⟨#[112, 114, 101, 105, 110, 99]⟩, born := 0 }, { key := .string ⟨#[45, 45]⟩, val := .string ⟨#[112, 114, 101, 100, 101, 99]⟩, born := 1 }] 2)) = .ok (.string ⟨#[112, 114, 101, 105, 110, 99]⟩) (w4.alloc (.map #[{ key := .string ⟨#[43, 43]⟩, val := .string ⟨#[112, 114, 101, 105, 110, 99]⟩, born := 0 }, { key := .string ⟨#[45, 45]⟩, val := .string ⟨#[112, 114, 101, 100, 101, 99]⟩, born := 1 }] 2)) := by
            refine run_look (l := [([43, 43], [112, 114, 101, 105, 110, 99]), ([45, 45], [112, 114, 101, 100, 101, 99])]) (.new _ _ rfl _ _ _ ?_) [43, 43]
            rfl
          have lb := B_4.out.lt
          go_wp2_with fail
          refine (node_any _ _ _ _ _).mono ?_
          rintro e w5 ⟨rfl, hb⟩
          have kk := Kp.of_below (b := c.bp) hb
          have P_5 := Lib.hid (((P_4.out.alloc _).alloc _).below hb)
          have R_5 := Lib.hid (((R_4.out.alloc _).alloc _).kp kk (by omega))
          have G_5 := Lib.hid (((G_4.out.alloc _).alloc _).kp kk (by omega))
          have B_5 := Lib.hid (((B_4.out.alloc _).alloc _).kp kk (by omega))
          have A_5 := Lib.hid (((Blk.new1 w4 _ 25 #[vs m.op, vs m.text, .int .i64 m.pos, .slice ma ml mq])).kp kk (by omega))
          have Tm_5 := Lib.hid (((Tm_4.out.alloc _).alloc _).kp kk (by first | omega | (simp; omega)))
          have K_5 := ((K_4.alloc _).alloc _).trans kk
          have l_5 : w4.heap.size + 2 ≤ w5.heap.size := by have := kk.size; simpa using this
          clear kk hb 
          obtain ⟨r0, r1, r2, r3⟩ := R_5.out.four
          have rf0 := R_5.out.frozen 0
          have rf1 := R_5.out.frozen 1
          have rf2 := R_5.out.frozen 2
          have rf3 := R_5.out.frozen 3
          go_wp2_with fail
          exact bodyPost_ret (results_node Tryz.results127 rfl R_5.out.put4) rfl ⟨_, 1, 1, rfl, ((KidsAt.one (n1 := m) (S := fun b => w.heap.size < b) A_5.out (by omega) (Tm_5.out.mono (fun b hb _ => by first | omega | (simp at hb; omega)))).put4 (by simp)).mono (fun b hb _ => by omega), P_5.out.put4 (by omega), K_5.put4 (Nat.le_refl _)⟩
        | false =>
          simp only [hpl, Bool.false_eq_true, if_false, Option.some.injEq, Prod.mk.injEq] at hh
          obtain ⟨rfl, rfl⟩ := hh
          go_wp2_with fail
          refine (accept_t c _ _ P_1.out [43, 43] HA.out).mono ?_
          rintro e w2 ⟨rfl, pp, kp⟩
          have P_2 := Lib.hid pp
          have R_2 := Lib.hid (R_1.out.kp kp (by omega))
          have G_2 := Lib.hid (G_1.out.kp kp (by omega))
          have K_2 := K_1.trans kp
          have l_2 : wr.heap.size + 0 ≤ w2.heap.size := by have := kp.size; simpa using this
          clear kp pp 
          go_wp2_with fail
          refine (HP.out _ _ _ _ P_2.out HM.out).mono ?_
          rintro e w3 ⟨ma, ml, mq, rfl, tt, pp, kp⟩
          have P_3 := Lib.hid pp
          have R_3 := Lib.hid (R_2.out.kp kp (by omega))
          have G_3 := Lib.hid (G_2.out.kp kp (by omega))
          have K_3 := K_2.trans kp
          have l_3 : w2.heap.size + 0 ≤ w3.heap.size := by have := kp.size; simpa using this
          clear kp pp 
          have Tm_3 := Lib.hid tt
          clear tt
          go_wp2_with fail
          refine (place_any _ m ma ml mq).mono ?_
          rintro e w4 ⟨rfl, hb⟩
          have kk := Kp.of_below (b := c.bp) hb
          have P_4 := Lib.hid ((P_3.out.alloc _).below hb)
          have R_4 := Lib.hid ((R_3.out.alloc _).kp kk (by omega))
          have G_4 := Lib.hid ((G_3.out.alloc _).kp kk (by omega))
          have B_4 := Lib.hid (((Blk.new w3 25 #[vs m.op, vs m.text, .int .i64 m.pos, .slice ma ml mq])).kp kk (by omega))
          have Tm_4 := Lib.hid ((Tm_3.out.alloc _).kp kk (by first | omega | (simp; omega)))
          have K_4 := (K_3.alloc _).trans kk
          have l_4 : w3.heap.size + 1 ≤ w4.heap.size := by have := kk.size; simpa using this
          clear kk hb
          rw [hpl]
          go_wp2_with fail
          refine (fail_any c _ _ P_4.out).mono ?_
          rintro e w5 ⟨rfl, pp, kp⟩
          have P_5 := Lib.hid pp
          have R_5 := Lib.hid (R_4.out.kp kp (by omega))
          have G_5 := Lib.hid (G_4.out.kp kp (by omega))
          have B_5 := Lib.hid (B_4.out.kp kp (by omega))
          have Tm_5 := Lib.hid (Tm_4.out.kp kp (by first | omega | (simp; omega)))
          have K_5 := K_4.trans kp
          have l_5 : w4.heap.size + 0 ≤ w5.heap.size := by have := kp.size; simpa using this
          clear kp pp 
          obtain ⟨r0, r1, r2, r3⟩ := R_5.out.four
          have rf0 := R_5.out.frozen 0
          have rf1 := R_5.out.frozen 1
          have rf2 := R_5.out.frozen 2
          have rf3 := R_5.out.frozen 3
          go_wp2_with fail
          exact bodyPost_ret (results_node Tryz.results127 rfl R_5.out.put4) rfl ⟨none, 0, 0, rfl, .nil _ _, P_5.out.put4 (by omega), K_5.put4 (Nat.le_refl _)⟩
      | false =>
        clear hh
        have HA := Lib.hid hat
        go_wp2_with fail
        refine (accept_f c _ _ P_1.out [43, 43] HA.out).mono ?_
        rintro e w2 ⟨rfl, pp, kp⟩
        have P_2 := Lib.hid pp
        have R_2 := Lib.hid (R_1.out.kp kp (by omega))
        have G_2 := Lib.hid (G_1.out.kp kp (by omega))
        have K_2 := K_1.trans kp
        have l_2 : wr.heap.size + 0 ≤ w2.heap.size := by have := kp.size; simpa using this
        clear kp pp 
        go_wp2_with fail
        go_roundg 2
        case measure => omega
        case rel => exact ⟨1, rfl, .inr (.inl ⟨rfl, rfl, HA.out⟩), P_2.out, K_2, R_2.out, G_2.out⟩
    · rw [if_neg (by simp [h0.out])] at hh
      cases hat : Pp.at_ c.T [[45, 45]] s with
      | true =>
        rw [if_pos hat] at hh
        cases hEm : P (Pp.step c.T s) with
        | none => rw [hEm] at hh; cases hh
        | some r =>
        obtain ⟨m, s2⟩ := r
        rw [hEm] at hh
        have HM := Lib.hid hEm
        have HA := Lib.hid hat
        clear hEm hat
        cases hpl : Pp.place m with
        | true =>
          simp only [hpl, if_true, Option.some.injEq, Prod.mk.injEq] at hh
          obtain ⟨rfl, rfl⟩ := hh
          go_wp2_with fail
          refine (accept_t c _ _ P_1.out [45, 45] HA.out).mono ?_
          rintro e w2 ⟨rfl, pp, kp⟩
          have P_2 := Lib.hid pp
          have R_2 := Lib.hid (R_1.out.kp kp (by omega))
          have G_2 := Lib.hid (G_1.out.kp kp (by omega))
          have K_2 := K_1.trans kp
          have l_2 : wr.heap.size + 0 ≤ w2.heap.size := by have := kp.size; simpa using this
          clear kp pp 
          go_wp2_with fail
          refine (HP.out _ _ _ _ P_2.out HM.out).mono ?_
          rintro e w3 ⟨ma, ml, mq, rfl, tt, pp, kp⟩
          have P_3 := Lib.hid pp
          have R_3 := Lib.hid (R_2.out.kp kp (by omega))
          have G_3 := Lib.hid (G_2.out.kp kp (by omega))
          have K_3 := K_2.trans kp
          have l_3 : w2.heap.size + 0 ≤ w3.heap.size := by have := kp.size; simpa using this
          clear kp pp 
          have Tm_3 := Lib.hid tt
          clear tt
          go_wp2_with fail
          refine (place_any _ m ma ml mq).mono ?_
          rintro e w4 ⟨rfl, hb⟩
          have kk := Kp.of_below (b := c.bp) hb
          have P_4 := Lib.hid ((P_3.out.alloc _).below hb)
          have R_4 := Lib.hid ((R_3.out.alloc _).kp kk (by omega))
          have G_4 := Lib.hid ((G_3.out.alloc _).kp kk (by omega))
          have B_4 := Lib.hid (((Blk.new w3 25 #[vs m.op, vs m.text, .int .i64 m.pos, .slice ma ml mq])).kp kk (by omega))
          have Tm_4 := Lib.hid ((Tm_3.out.alloc _).kp kk (by first | omega | (simp; omega)))
          have K_4 := (K_3.alloc _).trans kk
          have l_4 : w3.heap.size + 1 ≤ w4.heap.size := by have := kk.size; simpa using this
          clear kk hb
          rw [hpl]
          obtain ⟨b0, b1, b2, b3⟩ := B_4.out.four
          have q0 : (Instr.mapUpdate 122 (.map (some (w4.heap.size))) (.string ⟨#[43, 43]⟩) (.string ⟨#[112, 114, 101, 105, 110, 99]⟩)).run Tryz.prog (w4.alloc (.map #[] 0)) = .ok () (w4.alloc (.map #[{ key := .string ⟨#[43, 43]⟩, val := .string ⟨#[112, 114, 101, 105, 110, 99]⟩, born := 0 }] 1)) := run_put _ _ (by simp) _ _ _ _ rfl
          have q1 : (Instr.mapUpdate 122 (.map (some (w4.heap.size))) (.string ⟨#[45, 45]⟩) (.string ⟨#[112, 114, 101, 100, 101, 99]⟩)).run Tryz.prog (w4.alloc (.map #[{ key := .string ⟨#[43, 43]⟩, val := .string ⟨#[112, 114, 101, 105, 110, 99]⟩, born := 0 }] 1)) = .ok () (w4.alloc (.map #[{ key := .string ⟨#[43, 43]⟩, val := .string ⟨#[112, 114, 101, 105, 110, 99]⟩, born := 0 }, { key := .string ⟨#[45, 45]⟩, val := .string ⟨#[112, 114, 101, 100, 101, 99]⟩, born := 1 }] 2)) := run_put _ _ (by simp) _ _ _ _ rfl
          have hl : (Instr.lookup 122 (.map (some w4.heap.size)) (.string ⟨#[45, 45]⟩) false).run Tryz.prog (w4.alloc (.map #[{ key := .string ⟨#[43, 43]⟩, val := .string ⟨#[112, 114, 101, 105, 110, 99]⟩, born := 0 }, { key := .string ⟨#[45, 45]⟩, val := .string ⟨#[112, 114, 101, 100, 101, 99]⟩, born := 1 }] 2)) = .ok (.string ⟨#[112, 114, 101, 100, 101, 99]⟩) (w4.alloc (.map #[{ key := .string ⟨#[43, 43]⟩, val := .string ⟨#[112, 114, 101, 105, 110, 99]⟩, born := 0 }, { key := .string ⟨#[45, 45]⟩, val := .string ⟨#[112, 114, 101, 100, 101, 99]⟩, born := 1 }] 2)) := by
            refine run_look (l := [([43, 43], [112, 114, 101, 105, 110, 99]), ([45, 45], [112, 114, 101, 100, 101, 99])]) (.new _ _ rfl _ _ _ ?_) [45, 45]
            rfl
          have lb := B_4.out.lt
          go_wp2_with fail
          refine (node_any _ _ _ _ _).mono ?_
          rintro e w5 ⟨rfl, hb⟩
          have kk := Kp.of_below (b := c.bp) hb
          have P_5 := Lib.hid (((P_4.out.alloc _).alloc _).below hb)
          have R_5 := Lib.hid (((R_4.out.alloc _).alloc _).kp kk (by omega))
          have G_5 := Lib.hid (((G_4.out.alloc _).alloc _).kp kk (by omega))
          have B_5 := Lib.hid (((B_4.out.alloc _).alloc _).kp kk (by omega))
          have A_5 := Lib.hid (((Blk.new1 w4 _ 25 #[vs m.op, vs m.text, .int .i64 m.pos, .slice ma ml mq])).kp kk (by omega))
          have Tm_5 := Lib.hid (((Tm_4.out.alloc _).alloc _).kp kk (by first | omega | (simp; omega)))
          have K_5 := ((K_4.alloc _).alloc _).trans kk
          have l_5 : w4.heap.size + 2 ≤ w5.heap.size := by have := kk.size; simpa using this
          clear kk hb 
          obtain ⟨r0, r1, r2, r3⟩ := R_5.out.four
          have rf0 := R_5.out.frozen 0
          have rf1 := R_5.out.frozen 1
          have rf2 := R_5.out.frozen 2
          have rf3 := R_5.out.frozen 3
          go_wp2_with fail
          exact bodyPost_ret (results_node Tryz.results127 rfl R_5.out.put4) rfl ⟨_, 1, 1, rfl, ((KidsAt.one (n1 := m) (S := fun b => w.heap.size < b) A_5.out (by omega) (Tm_5.out.mono (fun b hb _ => by first | omega | (simp at hb; omega)))).put4 (by simp)).mono (fun b hb _ => by omega), P_5.out.put4 (by omega), K_5.put4 (Nat.le_refl _)⟩
        | false =>
          simp only [hpl, Bool.false_eq_true, if_false, Option.some.injEq, Prod.mk.injEq] at hh
          obtain ⟨rfl, rfl⟩ := hh
          go_wp2_with fail
          refine (accept_t c _ _ P_1.out [45, 45] HA.out).mono ?_
          rintro e w2 ⟨rfl, pp, kp⟩
          have P_2 := Lib.hid pp
          have R_2 := Lib.hid (R_1.out.kp kp (by omega))
          have G_2 := Lib.hid (G_1.out.kp kp (by omega))
          have K_2 := K_1.trans kp
          have l_2 : wr.heap.size + 0 ≤ w2.heap.size := by have := kp.size; simpa using this
          clear kp pp 
          go_wp2_with fail
          refine (HP.out _ _ _ _ P_2.out HM.out).mono ?_
          rintro e w3 ⟨ma, ml, mq, rfl, tt, pp, kp⟩
          have P_3 := Lib.hid pp
          have R_3 := Lib.hid (R_2.out.kp kp (by omega))
          have G_3 := Lib.hid (G_2.out.kp kp (by omega))
          have K_3 := K_2.trans kp
          have l_3 : w2.heap.size + 0 ≤ w3.heap.size := by have := kp.size; simpa using this
          clear kp pp 
          have Tm_3 := Lib.hid tt
          clear tt
          go_wp2_with fail
          refine (place_any _ m ma ml mq).mono ?_
          rintro e w4 ⟨rfl, hb⟩
          have kk := Kp.of_below (b := c.bp) hb
          have P_4 := Lib.hid ((P_3.out.alloc _).below hb)
          have R_4 := Lib.hid ((R_3.out.alloc _).kp kk (by omega))
          have G_4 := Lib.hid ((G_3.out.alloc _).kp kk (by omega))
          have B_4 := Lib.hid (((Blk.new w3 25 #[vs m.op, vs m.text, .int .i64 m.pos, .slice ma ml mq])).kp kk (by omega))
          have Tm_4 := Lib.hid ((Tm_3.out.alloc _).kp kk (by first | omega | (simp; omega)))
          have K_4 := (K_3.alloc _).trans kk
          have l_4 : w3.heap.size + 1 ≤ w4.heap.size := by have := kk.size; simpa using this
          clear kk hb
          rw [hpl]
          go_wp2_with fail
          refine (fail_any c _ _ P_4.out).mono ?_
          rintro e w5 ⟨rfl, pp, kp⟩
          have P_5 := Lib.hid pp
          have R_5 := Lib.hid (R_4.out.kp kp (by omega))
          have G_5 := Lib.hid (G_4.out.kp kp (by omega))
          have B_5 := Lib.hid (B_4.out.kp kp (by omega))
          have Tm_5 := Lib.hid (Tm_4.out.kp kp (by first | omega | (simp; omega)))
          have K_5 := K_4.trans kp
          have l_5 : w4.heap.size + 0 ≤ w5.heap.size := by have := kp.size; simpa using this
          clear kp pp 
          obtain ⟨r0, r1, r2, r3⟩ := R_5.out.four
          have rf0 := R_5.out.frozen 0
          have rf1 := R_5.out.frozen 1
          have rf2 := R_5.out.frozen 2
          have rf3 := R_5.out.frozen 3
          go_wp2_with fail
          exact bodyPost_ret (results_node Tryz.results127 rfl R_5.out.put4) rfl ⟨none, 0, 0, rfl, .nil _ _, P_5.out.put4 (by omega), K_5.put4 (Nat.le_refl _)⟩
      | false =>
        clear hh
        have HA := Lib.hid hat
        go_wp2_with fail
        refine (accept_f c _ _ P_1.out [45, 45] HA.out).mono ?_
        rintro e w2 ⟨rfl, pp, kp⟩
        have P_2 := Lib.hid pp
        have R_2 := Lib.hid (R_1.out.kp kp (by omega))
        have G_2 := Lib.hid (G_1.out.kp kp (by omega))
        have K_2 := K_1.trans kp
        have l_2 : wr.heap.size + 0 ≤ w2.heap.size := by have := kp.size; simpa using this
        clear kp pp 
        go_wp2_with fail
        go_roundg 1
        case measure => omega
        case rel => exact ⟨2, rfl, .inr (.inr ⟨rfl, rfl, h0.out, HA.out⟩), P_2.out, K_2, R_2.out, G_2.out⟩
    · obtain ⟨h0, h1⟩ := h0.out
      rw [if_neg (by simp [h0]), if_neg (by simp [h1])] at hh
      clear h0 h1
      cases hEm : P s with
      | none => rw [hEm] at hh; cases hh
      | some r =>
      obtain ⟨m, s2⟩ := r
      rw [hEm] at hh
      have HM := Lib.hid hEm
      clear hEm
      simp only [Option.some.injEq] at hh
      cases hpl : Pp.place m with
      | false =>
        rw [if_pos hpl] at hh
        simp only [Prod.mk.injEq] at hh
        obtain ⟨rfl, rfl⟩ := hh
        go_wp2_with fail
        refine (HP.out _ _ _ _ P_1.out HM.out).mono ?_
        rintro e w2 ⟨ma, ml, mq, rfl, tt, pp, kp⟩
        have P_2 := Lib.hid pp
        have R_2 := Lib.hid (R_1.out.kp kp (by omega))
        have G_2 := Lib.hid (G_1.out.kp kp (by omega))
        have K_2 := K_1.trans kp
        have l_2 : wr.heap.size + 0 ≤ w2.heap.size := by have := kp.size; simpa using this
        clear kp pp 
        have Tm_2 := Lib.hid tt
        clear tt
        go_wp2_with fail
        refine (place_any _ m ma ml mq).mono ?_
        rintro e w3 ⟨rfl, hb⟩
        have kk := Kp.of_below (b := c.bp) hb
        have P_3 := Lib.hid ((P_2.out.alloc _).below hb)
        have R_3 := Lib.hid ((R_2.out.alloc _).kp kk (by omega))
        have G_3 := Lib.hid ((G_2.out.alloc _).kp kk (by omega))
        have B_3 := Lib.hid (((Blk.new w2 25 #[vs m.op, vs m.text, .int .i64 m.pos, .slice ma ml mq])).kp kk (by omega))
        have Tm_3 := Lib.hid ((Tm_2.out.alloc _).kp kk (by first | omega | (simp; omega)))
        have K_3 := (K_2.alloc _).trans kk
        have l_3 : w2.heap.size + 1 ≤ w3.heap.size := by have := kk.size; simpa using this
        clear kk hb
        rw [hpl]
        obtain ⟨b0, b1, b2, b3⟩ := B_3.out.four
        obtain ⟨r0, r1, r2, r3⟩ := R_3.out.four
        have rf0 := R_3.out.frozen 0
        have rf1 := R_3.out.frozen 1
        have rf2 := R_3.out.frozen 2
        have rf3 := R_3.out.frozen 3
        have lb := B_3.out.lt
        go_wp2_with fail
        exact bodyPost_ret (results_node Tryz.results127 rfl R_3.out.put4) rfl ⟨ma, ml, mq, rfl, (Tm_3.out.put4 (by simp; omega)).mono (fun b hb _ => by first | omega | (simp at hb; omega)), P_3.out.put4 (by omega), K_3.put4 (Nat.le_refl _)⟩
      | true =>
        rw [if_neg (by simp [hpl])] at hh
        cases hat : Pp.at_ c.T [[43, 43]] s2 with
        | true =>
          rw [if_pos hat] at hh
          simp only [Prod.mk.injEq] at hh
          obtain ⟨rfl, rfl⟩ := hh
          have HA := Lib.hid hat
          clear hat
          go_wp2_with fail
          refine (HP.out _ _ _ _ P_1.out HM.out).mono ?_
          rintro e w2 ⟨ma, ml, mq, rfl, tt, pp, kp⟩
          have P_2 := Lib.hid pp
          have R_2 := Lib.hid (R_1.out.kp kp (by omega))
          have G_2 := Lib.hid (G_1.out.kp kp (by omega))
          have K_2 := K_1.trans kp
          have l_2 : wr.heap.size + 0 ≤ w2.heap.size := by have := kp.size; simpa using this
          clear kp pp 
          have Tm_2 := Lib.hid tt
          clear tt
          go_wp2_with fail
          refine (place_any _ m ma ml mq).mono ?_
          rintro e w3 ⟨rfl, hb⟩
          have kk := Kp.of_below (b := c.bp) hb
          have P_3 := Lib.hid ((P_2.out.alloc _).below hb)
          have R_3 := Lib.hid ((R_2.out.alloc _).kp kk (by omega))
          have G_3 := Lib.hid ((G_2.out.alloc _).kp kk (by omega))
          have B_3 := Lib.hid (((Blk.new w2 25 #[vs m.op, vs m.text, .int .i64 m.pos, .slice ma ml mq])).kp kk (by omega))
          have Tm_3 := Lib.hid ((Tm_2.out.alloc _).kp kk (by first | omega | (simp; omega)))
          have K_3 := (K_2.alloc _).trans kk
          have l_3 : w2.heap.size + 1 ≤ w3.heap.size := by have := kk.size; simpa using this
          clear kk hb
          rw [hpl]
          go_wp2_with fail
          refine (accept_t c _ _ P_3.out [43, 43] HA.out).mono ?_
          rintro e w4 ⟨rfl, pp, kp⟩
          have P_4 := Lib.hid pp
          have R_4 := Lib.hid (R_3.out.kp kp (by omega))
          have G_4 := Lib.hid (G_3.out.kp kp (by omega))
          have B_4 := Lib.hid (B_3.out.kp kp (by omega))
          have Tm_4 := Lib.hid (Tm_3.out.kp kp (by first | omega | (simp; omega)))
          have K_4 := K_3.trans kp
          have l_4 : w3.heap.size + 0 ≤ w4.heap.size := by have := kp.size; simpa using this
          clear kp pp 
          obtain ⟨b0, b1, b2, b3⟩ := B_4.out.four
          have lb := B_4.out.lt
          go_wp2_with fail
          refine (node_any _ _ _ _ _).mono ?_
          rintro e w5 ⟨rfl, hb⟩
          have kk := Kp.of_below (b := c.bp) hb
          have P_5 := Lib.hid ((P_4.out.alloc _).below hb)
          have R_5 := Lib.hid ((R_4.out.alloc _).kp kk (by omega))
          have G_5 := Lib.hid ((G_4.out.alloc _).kp kk (by omega))
          have B_5 := Lib.hid ((B_4.out.alloc _).kp kk (by omega))
          have A_5 := Lib.hid (((Blk.new w4 25 #[vs m.op, vs m.text, .int .i64 m.pos, .slice ma ml mq])).kp kk (by omega))
          have Tm_5 := Lib.hid ((Tm_4.out.alloc _).kp kk (by first | omega | (simp; omega)))
          have K_5 := (K_4.alloc _).trans kk
          have l_5 : w4.heap.size + 1 ≤ w5.heap.size := by have := kk.size; simpa using this
          clear kk hb 
          obtain ⟨r0, r1, r2, r3⟩ := R_5.out.four
          have rf0 := R_5.out.frozen 0
          have rf1 := R_5.out.frozen 1
          have rf2 := R_5.out.frozen 2
          have rf3 := R_5.out.frozen 3
          go_wp2_with fail
          exact bodyPost_ret (results_node Tryz.results127 rfl R_5.out.put4) rfl ⟨_, 1, 1, rfl, ((KidsAt.one (n1 := m) (S := fun b => w.heap.size < b) A_5.out (by omega) (Tm_5.out.mono (fun b hb _ => by first | omega | (simp at hb; omega)))).put4 (by simp)).mono (fun b hb _ => by omega), P_5.out.put4 (by omega), K_5.put4 (Nat.le_refl _)⟩
        | false =>
          rw [if_neg (by simp [hat])] at hh
          have HA := Lib.hid hat
          clear hat
          cases hat : Pp.at_ c.T [[45, 45]] s2 with
          | true =>
            rw [if_pos hat] at hh
            simp only [Prod.mk.injEq] at hh
            obtain ⟨rfl, rfl⟩ := hh
            have HB := Lib.hid hat
            clear hat
            go_wp2_with fail
            refine (HP.out _ _ _ _ P_1.out HM.out).mono ?_
            rintro e w2 ⟨ma, ml, mq, rfl, tt, pp, kp⟩
            have P_2 := Lib.hid pp
            have R_2 := Lib.hid (R_1.out.kp kp (by omega))
            have G_2 := Lib.hid (G_1.out.kp kp (by omega))
            have K_2 := K_1.trans kp
            have l_2 : wr.heap.size + 0 ≤ w2.heap.size := by have := kp.size; simpa using this
            clear kp pp 
            have Tm_2 := Lib.hid tt
            clear tt
            go_wp2_with fail
            refine (place_any _ m ma ml mq).mono ?_
            rintro e w3 ⟨rfl, hb⟩
            have kk := Kp.of_below (b := c.bp) hb
            have P_3 := Lib.hid ((P_2.out.alloc _).below hb)
            have R_3 := Lib.hid ((R_2.out.alloc _).kp kk (by omega))
            have G_3 := Lib.hid ((G_2.out.alloc _).kp kk (by omega))
            have B_3 := Lib.hid (((Blk.new w2 25 #[vs m.op, vs m.text, .int .i64 m.pos, .slice ma ml mq])).kp kk (by omega))
            have Tm_3 := Lib.hid ((Tm_2.out.alloc _).kp kk (by first | omega | (simp; omega)))
            have K_3 := (K_2.alloc _).trans kk
            have l_3 : w2.heap.size + 1 ≤ w3.heap.size := by have := kk.size; simpa using this
            clear kk hb
            rw [hpl]
            go_wp2_with fail
            refine (accept_f c _ _ P_3.out [43, 43] HA.out).mono ?_
            rintro e w4 ⟨rfl, pp, kp⟩
            have P_4 := Lib.hid pp
            have R_4 := Lib.hid (R_3.out.kp kp (by omega))
            have G_4 := Lib.hid (G_3.out.kp kp (by omega))
            have B_4 := Lib.hid (B_3.out.kp kp (by omega))
            have Tm_4 := Lib.hid (Tm_3.out.kp kp (by first | omega | (simp; omega)))
            have K_4 := K_3.trans kp
            have l_4 : w3.heap.size + 0 ≤ w4.heap.size := by have := kp.size; simpa using this
            clear kp pp 
            go_wp2_with fail
            refine (accept_t c _ _ P_4.out [45, 45] HB.out).mono ?_
            rintro e w5 ⟨rfl, pp, kp⟩
            have P_5 := Lib.hid pp
            have R_5 := Lib.hid (R_4.out.kp kp (by omega))
            have G_5 := Lib.hid (G_4.out.kp kp (by omega))
            have B_5 := Lib.hid (B_4.out.kp kp (by omega))
            have Tm_5 := Lib.hid (Tm_4.out.kp kp (by first | omega | (simp; omega)))
            have K_5 := K_4.trans kp
            have l_5 : w4.heap.size + 0 ≤ w5.heap.size := by have := kp.size; simpa using this
            clear kp pp 
            obtain ⟨b0, b1, b2, b3⟩ := B_5.out.four
            have lb := B_5.out.lt
            go_wp2_with fail
            refine (node_any _ _ _ _ _).mono ?_
            rintro e w6 ⟨rfl, hb⟩
            have kk := Kp.of_below (b := c.bp) hb
            have P_6 := Lib.hid ((P_5.out.alloc _).below hb)
            have R_6 := Lib.hid ((R_5.out.alloc _).kp kk (by omega))
            have G_6 := Lib.hid ((G_5.out.alloc _).kp kk (by omega))
            have B_6 := Lib.hid ((B_5.out.alloc _).kp kk (by omega))
            have A_6 := Lib.hid (((Blk.new w5 25 #[vs m.op, vs m.text, .int .i64 m.pos, .slice ma ml mq])).kp kk (by omega))
            have Tm_6 := Lib.hid ((Tm_5.out.alloc _).kp kk (by first | omega | (simp; omega)))
            have K_6 := (K_5.alloc _).trans kk
            have l_6 : w5.heap.size + 1 ≤ w6.heap.size := by have := kk.size; simpa using this
            clear kk hb 
            obtain ⟨r0, r1, r2, r3⟩ := R_6.out.four
            have rf0 := R_6.out.frozen 0
            have rf1 := R_6.out.frozen 1
            have rf2 := R_6.out.frozen 2
            have rf3 := R_6.out.frozen 3
            go_wp2_with fail
            exact bodyPost_ret (results_node Tryz.results127 rfl R_6.out.put4) rfl ⟨_, 1, 1, rfl, ((KidsAt.one (n1 := m) (S := fun b => w.heap.size < b) A_6.out (by omega) (Tm_6.out.mono (fun b hb _ => by first | omega | (simp at hb; omega)))).put4 (by simp)).mono (fun b hb _ => by omega), P_6.out.put4 (by omega), K_6.put4 (Nat.le_refl _)⟩
          | false =>
            rw [if_neg (by simp [hat])] at hh
            simp only [Prod.mk.injEq] at hh
            obtain ⟨rfl, rfl⟩ := hh
            have HB := Lib.hid hat
            clear hat
            go_wp2_with fail
            refine (HP.out _ _ _ _ P_1.out HM.out).mono ?_
            rintro e w2 ⟨ma, ml, mq, rfl, tt, pp, kp⟩
            have P_2 := Lib.hid pp
            have R_2 := Lib.hid (R_1.out.kp kp (by omega))
            have G_2 := Lib.hid (G_1.out.kp kp (by omega))
            have K_2 := K_1.trans kp
            have l_2 : wr.heap.size + 0 ≤ w2.heap.size := by have := kp.size; simpa using this
            clear kp pp 
            have Tm_2 := Lib.hid tt
            clear tt
            go_wp2_with fail
            refine (place_any _ m ma ml mq).mono ?_
            rintro e w3 ⟨rfl, hb⟩
            have kk := Kp.of_below (b := c.bp) hb
            have P_3 := Lib.hid ((P_2.out.alloc _).below hb)
            have R_3 := Lib.hid ((R_2.out.alloc _).kp kk (by omega))
            have G_3 := Lib.hid ((G_2.out.alloc _).kp kk (by omega))
            have B_3 := Lib.hid (((Blk.new w2 25 #[vs m.op, vs m.text, .int .i64 m.pos, .slice ma ml mq])).kp kk (by omega))
            have Tm_3 := Lib.hid ((Tm_2.out.alloc _).kp kk (by first | omega | (simp; omega)))
            have K_3 := (K_2.alloc _).trans kk
            have l_3 : w2.heap.size + 1 ≤ w3.heap.size := by have := kk.size; simpa using this
            clear kk hb
            rw [hpl]
            go_wp2_with fail
            refine (accept_f c _ _ P_3.out [43, 43] HA.out).mono ?_
            rintro e w4 ⟨rfl, pp, kp⟩
            have P_4 := Lib.hid pp
            have R_4 := Lib.hid (R_3.out.kp kp (by omega))
            have G_4 := Lib.hid (G_3.out.kp kp (by omega))
            have B_4 := Lib.hid (B_3.out.kp kp (by omega))
            have Tm_4 := Lib.hid (Tm_3.out.kp kp (by first | omega | (simp; omega)))
            have K_4 := K_3.trans kp
            have l_4 : w3.heap.size + 0 ≤ w4.heap.size := by have := kp.size; simpa using this
            clear kp pp 
            go_wp2_with fail
            refine (accept_f c _ _ P_4.out [45, 45] HB.out).mono ?_
            rintro e w5 ⟨rfl, pp, kp⟩
            have P_5 := Lib.hid pp
            have R_5 := Lib.hid (R_4.out.kp kp (by omega))
            have G_5 := Lib.hid (G_4.out.kp kp (by omega))
            have B_5 := Lib.hid (B_4.out.kp kp (by omega))
            have Tm_5 := Lib.hid (Tm_4.out.kp kp (by first | omega | (simp; omega)))
            have K_5 := K_4.trans kp
            have l_5 : w4.heap.size + 0 ≤ w5.heap.size := by have := kp.size; simpa using this
            clear kp pp 
            obtain ⟨b0, b1, b2, b3⟩ := B_5.out.four
            obtain ⟨r0, r1, r2, r3⟩ := R_5.out.four
            have rf0 := R_5.out.frozen 0
            have rf1 := R_5.out.frozen 1
            have rf2 := R_5.out.frozen 2
            have rf3 := R_5.out.frozen 3
            have lb := B_5.out.lt
            go_wp2_with fail
            exact bodyPost_ret (results_node Tryz.results127 rfl R_5.out.put4) rfl ⟨ma, ml, mq, rfl, (Tm_5.out.put4 (by simp; omega)).mono (fun b hb _ => by first | omega | (simp at hb; omega)), P_5.out.put4 (by omega), K_5.put4 (Nat.le_refl _)⟩

end Go.Proofs.YtgnmfaeonijogaaGreatDoor
