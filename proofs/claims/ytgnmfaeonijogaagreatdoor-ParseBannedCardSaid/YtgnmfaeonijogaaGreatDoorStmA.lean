/- Walked: what a loop or a choice holds; what ends a statement. -/
import Derived.Test.YtgnmfaeonijogaaGreatDoorExprA
namespace Go.Proofs.YtgnmfaeonijogaaGreatDoor
open Go.RowKit

theorem body_any (c : PC) (S : Pp.PS → Option (Pp.Node × Pp.PS)) (hS : IsN c 69 S) : IsN c 85 (Pp.body c.T S) := by
  intro w s m s' h hh
  unfold Pp.body at hh
  have HS := Lib.hid hS
  have P_0 := Lib.hid h
  have HM := Lib.hid hh
  have hb := h.blk.lt
  clear hS h hh
  go_enter Tryz.func85, Tryz.ntmps85
  go_wp2_with fail
  refine (lines_any c _ _ (P_0.out.alloc _)).mono ?_
  rintro e w1 ⟨rfl, pp, kp⟩
  have P_1 := Lib.hid pp
  have R_1 := Lib.hid (((Blk.new w 25 z4)).kp kp (by omega))
  have K_1 := ((Kp.refl c.bp w).alloc _).trans kp
  have l_1 : w.heap.size + 1 ≤ w1.heap.size := by have := kp.size; simpa using this
  clear kp pp 
  go_wp2_with fail
  refine (HS.out _ _ _ _ P_1.out HM.out).mono ?_
  rintro e w2 ⟨ma, ml, mq, rfl, tt, pp, kp⟩
  have P_2 := Lib.hid pp
  have R_2 := Lib.hid (R_1.out.kp kp (by omega))
  have K_2 := K_1.trans kp
  have l_2 : w1.heap.size + 0 ≤ w2.heap.size := by have := kp.size; simpa using this
  clear kp pp 
  have Tm_2 := Lib.hid tt
  clear tt
  obtain ⟨r0, r1, r2, r3⟩ := R_2.out.four
  have rf0 := R_2.out.frozen 0
  have rf1 := R_2.out.frozen 1
  have rf2 := R_2.out.frozen 2
  have rf3 := R_2.out.frozen 3
  go_wp2_with fail
  exact bodyPost_ret (results_node Tryz.results85 rfl R_2.out.put4) rfl ⟨ma, ml, mq, rfl, (Tm_2.out.put4 (by first | omega | (simp; omega))).mono (fun b hb _ => by first | omega | (simp at hb; omega)), P_2.out.put4 (by omega), K_2.put4 (Nat.le_refl _)⟩

theorem fin_any (c : PC) (w : World) (s : Pp.PS) (h : PAt c w s) :
    Calls Tryz.prog 88 #[.pointer (some ⟨c.bp, 0, none⟩)] w (VPost c w (Pp.fin c.T s)) := by
  have P_0 := Lib.hid h
  have hb := h.blk.lt
  have hcur := fun W hW => cur_any c W s hW
  unfold Pp.fin
  generalize ht : Pp.cur c.T s = t at *
  have Hcur := Lib.hid hcur
  clear h hcur ht
  cases hat : Pp.at_ c.T [[59]] s with
  | true =>
    have HA := Lib.hid hat
    rw [if_pos rfl]
    clear hat
    go_enter Tryz.func88, Tryz.ntmps88
    go_wp2_with fail
    refine (accept_t c _ _ P_0.out [59] HA.out).mono ?_
    rintro e w1 ⟨rfl, pp, kp⟩
    have P_1 := Lib.hid pp
    have K_1 := (Kp.refl c.bp w).trans kp
    have l_1 : w.heap.size + 0 ≤ w1.heap.size := by have := kp.size; simpa using this
    clear kp pp 
    go_wp2_with fail
    go_end0
    exact ⟨rfl, P_1.out, K_1⟩
  | false =>
  have HA := Lib.hid hat
  rw [if_neg (by simp)]
  clear hat
  cases hat : Pp.at_ c.T [[125]] s with
  | true =>
    have HB := Lib.hid hat
    rw [if_pos rfl]
    clear hat
    go_enter Tryz.func88, Tryz.ntmps88
    go_wp2_with fail
    refine (accept_f c _ _ P_0.out [59] HA.out).mono ?_
    rintro e w1 ⟨rfl, pp, kp⟩
    have P_1 := Lib.hid pp
    have K_1 := (Kp.refl c.bp w).trans kp
    have l_1 : w.heap.size + 0 ≤ w1.heap.size := by have := kp.size; simpa using this
    clear kp pp 
    go_wp2_with fail
    refine (at_new' c _ s P_1.out 1 [[125]] _ 1 (by simp) rfl _ rfl (by omega) _ HB.out).mono ?_
    rintro e w2 ⟨rfl, hb⟩
    have kk := Kp.of_below (b := c.bp) hb
    have P_2 := Lib.hid (P_1.out.below hb)
    have K_2 := K_1.trans kk
    have l_2 : w1.heap.size + 0 ≤ w2.heap.size := by have := kk.size; simpa using this
    clear kk hb 
    go_wp2_with fail
    go_end0
    exact ⟨rfl, P_2.out, K_2⟩
  | false =>
  have HB := Lib.hid hat
  rw [if_neg (by simp)]
  clear hat
  by_cases h1 : t.kind = 1
  · have k1 : (t.kind == 1) = true := by simpa using h1
    rw [if_pos h1]
    clear h1
    go_enter Tryz.func88, Tryz.ntmps88
    go_wp2_with fail
    refine (accept_f c _ _ P_0.out [59] HA.out).mono ?_
    rintro e w1 ⟨rfl, pp, kp⟩
    have P_1 := Lib.hid pp
    have K_1 := (Kp.refl c.bp w).trans kp
    have l_1 : w.heap.size + 0 ≤ w1.heap.size := by have := kp.size; simpa using this
    clear kp pp 
    go_wp2_with fail
    refine (at_new' c _ s P_1.out 1 [[125]] _ 1 (by simp) rfl _ rfl (by omega) _ HB.out).mono ?_
    rintro e w2 ⟨rfl, hb⟩
    have kk := Kp.of_below (b := c.bp) hb
    have P_2 := Lib.hid (P_1.out.below hb)
    have K_2 := K_1.trans kk
    have l_2 : w1.heap.size + 0 ≤ w2.heap.size := by have := kk.size; simpa using this
    clear kk hb 
    go_wp2_with fail
    refine (Hcur.out _ P_2.out).mono ?_
    rintro e w3 ⟨rfl, hb⟩
    have kk := Kp.of_below (b := c.bp) hb
    have P_3 := Lib.hid (P_2.out.below hb)
    have K_3 := K_2.trans kk
    have l_3 : w2.heap.size + 0 ≤ w3.heap.size := by have := kk.size; simpa using this
    clear kk hb 
    go_wp2_with fail
    refine (step_any c _ _ P_3.out).mono ?_
    rintro e w4 ⟨rfl, pp, kp⟩
    have P_4 := Lib.hid pp
    have K_4 := K_3.trans kp
    have l_4 : w3.heap.size + 0 ≤ w4.heap.size := by have := kp.size; simpa using this
    clear kp pp 
    go_wp2_with fail
    go_end0
    exact ⟨rfl, P_4.out, K_4⟩
  · have k1 : (t.kind == 1) = false := by simpa using h1
    rw [if_neg h1]
    clear h1
    go_enter Tryz.func88, Tryz.ntmps88
    go_wp2_with fail
    refine (accept_f c _ _ P_0.out [59] HA.out).mono ?_
    rintro e w1 ⟨rfl, pp, kp⟩
    have P_1 := Lib.hid pp
    have K_1 := (Kp.refl c.bp w).trans kp
    have l_1 : w.heap.size + 0 ≤ w1.heap.size := by have := kp.size; simpa using this
    clear kp pp 
    go_wp2_with fail
    refine (at_new' c _ s P_1.out 1 [[125]] _ 1 (by simp) rfl _ rfl (by omega) _ HB.out).mono ?_
    rintro e w2 ⟨rfl, hb⟩
    have kk := Kp.of_below (b := c.bp) hb
    have P_2 := Lib.hid (P_1.out.below hb)
    have K_2 := K_1.trans kk
    have l_2 : w1.heap.size + 0 ≤ w2.heap.size := by have := kk.size; simpa using this
    clear kk hb 
    go_wp2_with fail
    refine (Hcur.out _ P_2.out).mono ?_
    rintro e w3 ⟨rfl, hb⟩
    have kk := Kp.of_below (b := c.bp) hb
    have P_3 := Lib.hid (P_2.out.below hb)
    have K_3 := K_2.trans kk
    have l_3 : w2.heap.size + 0 ≤ w3.heap.size := by have := kk.size; simpa using this
    clear kk hb 
    go_wp2_with fail
    refine (fail_any c _ _ P_3.out).mono ?_
    rintro e w4 ⟨rfl, pp, kp⟩
    have P_4 := Lib.hid pp
    have K_4 := K_3.trans kp
    have l_4 : w3.heap.size + 0 ≤ w4.heap.size := by have := kp.size; simpa using this
    clear kp pp 
    go_wp2_with fail
    go_end0
    exact ⟨rfl, P_4.out, K_4⟩

end Go.Proofs.YtgnmfaeonijogaaGreatDoor
