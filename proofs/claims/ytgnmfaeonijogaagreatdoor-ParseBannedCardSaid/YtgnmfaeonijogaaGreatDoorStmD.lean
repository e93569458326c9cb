/- Walked: a simple statement. -/
import Derived.Test.YtgnmfaeonijogaaGreatDoorExprA
import Derived.Deep.RegionWith
namespace Go.Proofs.YtgnmfaeonijogaaGreatDoor
open Go.RowKit

theorem blk_new_at (W w : World) (h : W.heap.size = w.heap.size) (t : TypeId) (cs : Array Value) : Blk (W.alloc (.cells cs t)) w.heap.size t cs := h ▸ Blk.new W t cs

set_option maxRecDepth 100000 in
set_option maxHeartbeats 32000000 in
theorem simple_any (c : PC) (rx : Pp.Bytes → Int) (E : Pp.PS → Option (Pp.Node × Pp.PS)) (k : Nat) (hE : IsN c 46 E)
    (hO : ∀ op w s n s', PAt c w s → Pp.output rx c.T E k op s = some (n, s') → Calls Tryz.prog 98 #[.pointer (some ⟨c.bp, 0, none⟩), vs op] w (NPost c w n s')) : IsN c 87 (Pp.simple rx c.T E k) := by
  intro w s n s' h hh
  have HE := Lib.hid hE
  have HO := Lib.hid hO
  have P_0 := Lib.hid h
  have hb := h.blk.lt
  have hcur := fun W hW => cur_any c W s hW
  unfold Pp.simple at hh
  simp only at hh
  obtain ⟨⟨tk, tx, tp⟩, ht⟩ : ∃ t, Pp.cur c.T s = t := ⟨_, rfl⟩
  rw [ht] at hh hcur
  simp only at hh
  have Hcur := Lib.hid hcur
  clear hE hO h hcur ht
  by_cases h7 : tk = 7
  rotate_left
  · rw [if_pos h7] at hh
    have k7 : (tk != 7) = true := by simpa using h7
    clear h7
    cases hEm : E s with
    | none => rw [hEm] at hh; cases hh
    | some r =>
    obtain ⟨m, s2⟩ := r
    rw [hEm] at hh
    simp only at hh
    simp only [Option.some.injEq, Prod.mk.injEq] at hh
    obtain ⟨rfl, rfl⟩ := hh
    have HM := Lib.hid hEm
    clear hEm
    go_enter Tryz.func87, Tryz.ntmps87
    go_wp2_with fail
    refine (Hcur.out _ (P_0.out.alloc _)).mono ?_
    rintro e w1 ⟨rfl, hb⟩
    have kk := Kp.of_below (b := c.bp) hb
    have P_1 := Lib.hid ((P_0.out.alloc _).below hb)
    have R_1 := Lib.hid (((Blk.new w 25 z4)).kp kk (by omega))
    have K_1 := ((Kp.refl c.bp w).alloc _).trans kk
    have l_1 : w.heap.size + 1 ≤ w1.heap.size := by have := kk.size; simpa using this
    clear kk hb 
    go_wp2_with fail
    refine (HE.out _ _ _ _ (P_1.out.alloc _) HM.out).mono ?_
    rintro e w2 ⟨ma, ml, mq, rfl, tt, pp, kp⟩
    have P_2 := Lib.hid pp
    have R_2 := Lib.hid ((R_1.out.alloc _).kp kp (by omega))
    have K_2 := (K_1.alloc _).trans kp
    have l_2 : w1.heap.size + 1 ≤ w2.heap.size := by have := kp.size; simpa using this
    clear kp pp 
    have Tm_2 := Lib.hid tt
    clear tt
    go_wp2_with fail
    refine (node_any _ _ _ _ _).mono ?_
    rintro e w3 ⟨rfl, hb⟩
    have kk := Kp.of_below (b := c.bp) hb
    have P_3 := Lib.hid ((P_2.out.alloc _).below hb)
    have R_3 := Lib.hid ((R_2.out.alloc _).kp kk (by omega))
    have A_3 := Lib.hid (((Blk.new w2 25 #[vs m.op, vs m.text, .int .i64 m.pos, .slice ma ml mq])).kp kk (by omega))
    have Tm_3 := Lib.hid ((Tm_2.out.alloc _).kp kk (by first | omega | (simp; omega)))
    have K_3 := (K_2.alloc _).trans kk
    have l_3 : w2.heap.size + 1 ≤ w3.heap.size := by have := kk.size; simpa using this
    clear kk hb 
    obtain ⟨r0, r1, r2, r3⟩ := R_3.out.four
    have rf0 := R_3.out.frozen 0
    have rf1 := R_3.out.frozen 1
    have rf2 := R_3.out.frozen 2
    have rf3 := R_3.out.frozen 3
    go_wp2_with fail
    exact bodyPost_ret (results_node Tryz.results87 rfl R_3.out.put4) rfl ⟨_, 1, 1, rfl, ((KidsAt.one (n1 := m) (S := fun b => w.heap.size < b) A_3.out (by omega) (Tm_3.out.mono (fun b hb _ => by first | omega | (simp at hb; omega)))).put4 (by simp)).mono (fun b hb _ => by omega), P_3.out.put4 (by omega), K_3.put4 (Nat.le_refl _)⟩
  rw [if_neg (by simpa using h7)] at hh
  subst h7
  by_cases h_break : tx = [98, 114, 101, 97, 107]
  · subst h_break
    rw [if_pos (by simp)] at hh
    simp only [Option.some.injEq, Prod.mk.injEq] at hh
    obtain ⟨rfl, rfl⟩ := hh
    go_enter Tryz.func87, Tryz.ntmps87
    go_wp2_with fail
    refine (Hcur.out _ (P_0.out.alloc _)).mono ?_
    rintro e w1 ⟨rfl, hb⟩
    have kk := Kp.of_below (b := c.bp) hb
    have P_1 := Lib.hid ((P_0.out.alloc _).below hb)
    have R_1 := Lib.hid (((Blk.new w 25 z4)).kp kk (by omega))
    have K_1 := ((Kp.refl c.bp w).alloc _).trans kk
    have l_1 : w.heap.size + 1 ≤ w1.heap.size := by have := kk.size; simpa using this
    clear kk hb 
    go_wp2_with fail
    refine (step_any c _ _ (P_1.out.alloc _)).mono ?_
    rintro e w2 ⟨rfl, pp, kp⟩
    have P_2 := Lib.hid pp
    have R_2 := Lib.hid ((R_1.out.alloc _).kp kp (by omega))
    have B_2 := Lib.hid (((Blk.new w1 60 #[.int .i64 7, vs [98, 114, 101, 97, 107], .int .i64 tp])).kp kp (by omega))
    have K_2 := (K_1.alloc _).trans kp
    have l_2 : w1.heap.size + 1 ≤ w2.heap.size := by have := kp.size; simpa using this
    clear kp pp 
    obtain ⟨b0, b1, b2⟩ := B_2.out.tri
    obtain ⟨r0, r1, r2, r3⟩ := R_2.out.four
    have rf0 := R_2.out.frozen 0
    have rf1 := R_2.out.frozen 1
    have rf2 := R_2.out.frozen 2
    have rf3 := R_2.out.frozen 3
    go_wp2_with fail
    exact bodyPost_ret (results_node Tryz.results87 rfl R_2.out.put4) rfl ⟨none, 0, 0, rfl, .nil _ _, P_2.out.put4 (by omega), K_2.put4 (Nat.le_refl _)⟩
  by_cases h_continue : tx = [99, 111, 110, 116, 105, 110, 117, 101]
  · subst h_continue
    rw [if_pos (by simp)] at hh
    simp only [Option.some.injEq, Prod.mk.injEq] at hh
    obtain ⟨rfl, rfl⟩ := hh
    go_enter Tryz.func87, Tryz.ntmps87
    go_wp2_with fail
    refine (Hcur.out _ (P_0.out.alloc _)).mono ?_
    rintro e w1 ⟨rfl, hb⟩
    have kk := Kp.of_below (b := c.bp) hb
    have P_1 := Lib.hid ((P_0.out.alloc _).below hb)
    have R_1 := Lib.hid (((Blk.new w 25 z4)).kp kk (by omega))
    have K_1 := ((Kp.refl c.bp w).alloc _).trans kk
    have l_1 : w.heap.size + 1 ≤ w1.heap.size := by have := kk.size; simpa using this
    clear kk hb 
    go_wp2_with fail
    refine (step_any c _ _ (P_1.out.alloc _)).mono ?_
    rintro e w2 ⟨rfl, pp, kp⟩
    have P_2 := Lib.hid pp
    have R_2 := Lib.hid ((R_1.out.alloc _).kp kp (by omega))
    have B_2 := Lib.hid (((Blk.new w1 60 #[.int .i64 7, vs [99, 111, 110, 116, 105, 110, 117, 101], .int .i64 tp])).kp kp (by omega))
    have K_2 := (K_1.alloc _).trans kp
    have l_2 : w1.heap.size + 1 ≤ w2.heap.size := by have := kp.size; simpa using this
    clear kp pp 
    obtain ⟨b0, b1, b2⟩ := B_2.out.tri
    obtain ⟨r0, r1, r2, r3⟩ := R_2.out.four
    have rf0 := R_2.out.frozen 0
    have rf1 := R_2.out.frozen 1
    have rf2 := R_2.out.frozen 2
    have rf3 := R_2.out.frozen 3
    go_wp2_with fail
    exact bodyPost_ret (results_node Tryz.results87 rfl R_2.out.put4) rfl ⟨none, 0, 0, rfl, .nil _ _, P_2.out.put4 (by omega), K_2.put4 (Nat.le_refl _)⟩
  by_cases h_next : tx = [110, 101, 120, 116]
  · subst h_next
    rw [if_pos (by simp)] at hh
    simp only [Option.some.injEq, Prod.mk.injEq] at hh
    obtain ⟨rfl, rfl⟩ := hh
    go_enter Tryz.func87, Tryz.ntmps87
    go_wp2_with fail
    refine (Hcur.out _ (P_0.out.alloc _)).mono ?_
    rintro e w1 ⟨rfl, hb⟩
    have kk := Kp.of_below (b := c.bp) hb
    have P_1 := Lib.hid ((P_0.out.alloc _).below hb)
    have R_1 := Lib.hid (((Blk.new w 25 z4)).kp kk (by omega))
    have K_1 := ((Kp.refl c.bp w).alloc _).trans kk
    have l_1 : w.heap.size + 1 ≤ w1.heap.size := by have := kk.size; simpa using this
    clear kk hb 
    go_wp2_with fail
    refine (step_any c _ _ (P_1.out.alloc _)).mono ?_
    rintro e w2 ⟨rfl, pp, kp⟩
    have P_2 := Lib.hid pp
    have R_2 := Lib.hid ((R_1.out.alloc _).kp kp (by omega))
    have B_2 := Lib.hid (((Blk.new w1 60 #[.int .i64 7, vs [110, 101, 120, 116], .int .i64 tp])).kp kp (by omega))
    have K_2 := (K_1.alloc _).trans kp
    have l_2 : w1.heap.size + 1 ≤ w2.heap.size := by have := kp.size; simpa using this
    clear kp pp 
    obtain ⟨b0, b1, b2⟩ := B_2.out.tri
    obtain ⟨r0, r1, r2, r3⟩ := R_2.out.four
    have rf0 := R_2.out.frozen 0
    have rf1 := R_2.out.frozen 1
    have rf2 := R_2.out.frozen 2
    have rf3 := R_2.out.frozen 3
    go_wp2_with fail
    exact bodyPost_ret (results_node Tryz.results87 rfl R_2.out.put4) rfl ⟨none, 0, 0, rfl, .nil _ _, P_2.out.put4 (by omega), K_2.put4 (Nat.le_refl _)⟩
  rw [if_neg (by simp [h_break, h_continue, h_next])] at hh
  by_cases h_exit : tx = [101, 120, 105, 116]
  · subst h_exit
    rw [if_pos (by simp)] at hh
    cases hov : Pp.over c.T (Pp.step c.T s) with
    | true =>
      rw [if_pos hov] at hh
      have HV := Lib.hid (over_any c)
      simp only [Option.some.injEq, Prod.mk.injEq] at hh
      obtain ⟨rfl, rfl⟩ := hh
      go_enter Tryz.func87, Tryz.ntmps87
      go_wp2_with fail
      refine (Hcur.out _ (P_0.out.alloc _)).mono ?_
      rintro e w1 ⟨rfl, hb⟩
      have kk := Kp.of_below (b := c.bp) hb
      have P_1 := Lib.hid ((P_0.out.alloc _).below hb)
      have R_1 := Lib.hid (((Blk.new w 25 z4)).kp kk (by omega))
      have K_1 := ((Kp.refl c.bp w).alloc _).trans kk
      have l_1 : w.heap.size + 1 ≤ w1.heap.size := by have := kk.size; simpa using this
      clear kk hb 
      go_wp2_with fail
      refine (step_any c _ _ (P_1.out.alloc _)).mono ?_
      rintro e w2 ⟨rfl, pp, kp⟩
      have P_2 := Lib.hid pp
      have R_2 := Lib.hid ((R_1.out.alloc _).kp kp (by omega))
      have B_2 := Lib.hid (((Blk.new w1 60 #[.int .i64 7, vs [101, 120, 105, 116], .int .i64 tp])).kp kp (by omega))
      have K_2 := (K_1.alloc _).trans kp
      have l_2 : w1.heap.size + 1 ≤ w2.heap.size := by have := kp.size; simpa using this
      clear kp pp 
      obtain ⟨b0, b1, b2⟩ := B_2.out.tri
      have lb := B_2.out.lt
      go_wp2_with fail
      refine (over_any c _ _ (P_2.out.alloc _)).mono ?_
      rintro e w3 ⟨rfl, hb⟩
      have kk := Kp.of_below (b := c.bp) hb
      have P_3 := Lib.hid ((P_2.out.alloc _).below hb)
      have R_3 := Lib.hid ((R_2.out.alloc _).kp kk (by omega))
      have B_3 := Lib.hid ((B_2.out.alloc _).kp kk (by omega))
      have D_3 := Lib.hid (((Blk.new w2 25 #[vs [101, 120, 105, 116], vs [], .int .i64 tp, .slice none 0 0])).kp kk (by omega))
      have K_3 := (K_2.alloc _).trans kk
      have l_3 : w2.heap.size + 1 ≤ w3.heap.size := by have := kk.size; simpa using this
      clear kk hb 
      rw [hov]
      obtain ⟨d0, d1, d2, d3⟩ := D_3.out.four
      obtain ⟨r0, r1, r2, r3⟩ := R_3.out.four
      have rf0 := R_3.out.frozen 0
      have rf1 := R_3.out.frozen 1
      have rf2 := R_3.out.frozen 2
      have rf3 := R_3.out.frozen 3
      go_wp2_with fail
      exact bodyPost_ret (results_node Tryz.results87 rfl R_3.out.put4) rfl ⟨none, 0, 0, rfl, .nil _ _, P_3.out.put4 (by omega), K_3.put4 (Nat.le_refl _)⟩
    | false =>
      rw [if_neg (by simp [hov])] at hh
      cases hEm : E (Pp.step c.T s) with
      | none => rw [hEm] at hh; cases hh
      | some r =>
      obtain ⟨m, s2⟩ := r
      rw [hEm] at hh
      simp only at hh
      simp only [Option.some.injEq, Prod.mk.injEq] at hh
      obtain ⟨rfl, rfl⟩ := hh
      have HM := Lib.hid hEm
      clear hEm
      go_enter Tryz.func87, Tryz.ntmps87
      go_wp2_with fail
      refine (Hcur.out _ (P_0.out.alloc _)).mono ?_
      rintro e w1 ⟨rfl, hb⟩
      have kk := Kp.of_below (b := c.bp) hb
      have P_1 := Lib.hid ((P_0.out.alloc _).below hb)
      have R_1 := Lib.hid (((Blk.new w 25 z4)).kp kk (by omega))
      have K_1 := ((Kp.refl c.bp w).alloc _).trans kk
      have l_1 : w.heap.size + 1 ≤ w1.heap.size := by have := kk.size; simpa using this
      clear kk hb 
      go_wp2_with fail
      refine (step_any c _ _ (P_1.out.alloc _)).mono ?_
      rintro e w2 ⟨rfl, pp, kp⟩
      have P_2 := Lib.hid pp
      have R_2 := Lib.hid ((R_1.out.alloc _).kp kp (by omega))
      have B_2 := Lib.hid (((Blk.new w1 60 #[.int .i64 7, vs [101, 120, 105, 116], .int .i64 tp])).kp kp (by omega))
      have K_2 := (K_1.alloc _).trans kp
      have l_2 : w1.heap.size + 1 ≤ w2.heap.size := by have := kp.size; simpa using this
      clear kp pp 
      obtain ⟨b0, b1, b2⟩ := B_2.out.tri
      have lb := B_2.out.lt
      go_wp2_with fail
      refine (over_any c _ _ (P_2.out.alloc _)).mono ?_
      rintro e w3 ⟨rfl, hb⟩
      have kk := Kp.of_below (b := c.bp) hb
      have P_3 := Lib.hid ((P_2.out.alloc _).below hb)
      have R_3 := Lib.hid ((R_2.out.alloc _).kp kk (by omega))
      have B_3 := Lib.hid ((B_2.out.alloc _).kp kk (by omega))
      have D_3 := Lib.hid (((Blk.new w2 25 #[vs [101, 120, 105, 116], vs [], .int .i64 tp, .slice none 0 0])).kp kk (by omega))
      have K_3 := (K_2.alloc _).trans kk
      have l_3 : w2.heap.size + 1 ≤ w3.heap.size := by have := kk.size; simpa using this
      clear kk hb 
      rw [hov]
      go_wp2_with fail
      refine (HE.out _ _ _ _ P_3.out HM.out).mono ?_
      rintro e w4 ⟨ma, ml, mq, rfl, tt, pp, kp⟩
      have P_4 := Lib.hid pp
      have R_4 := Lib.hid (R_3.out.kp kp (by omega))
      have B_4 := Lib.hid (B_3.out.kp kp (by omega))
      have D_4 := Lib.hid (D_3.out.kp kp (by omega))
      have K_4 := K_3.trans kp
      have l_4 : w3.heap.size + 0 ≤ w4.heap.size := by have := kp.size; simpa using this
      clear kp pp 
      have Tm_4 := Lib.hid tt
      clear tt
      have GD := Lib.hid (D_4.out.alloc (.cells #[vs m.op, vs m.text, .int .i64 m.pos, .slice ma ml mq] 25))
      have df := D_4.out.frozen 3
      have ld := D_4.out.lt
      obtain ⟨d0, d1, d2, d3⟩ := D_4.out.four
      obtain ⟨r0, r1, r2, r3⟩ := R_4.out.four
      have rf0 := R_4.out.frozen 0
      have rf1 := R_4.out.frozen 1
      have rf2 := R_4.out.frozen 2
      have rf3 := R_4.out.frozen 3
      have lr := R_4.out.lt
      go_wp2_with fail
      exact bodyPost_ret (results_node Tryz.results87 rfl (((R_4.out.far (p := ⟨w2.heap.size, 3, none⟩) (by simp; omega) (.slice (some ⟨w4.heap.size, 0, none⟩) 1 1)).put4).alloc _)) rfl ⟨_, 1, 1, rfl, (KidsAt.one (n1 := m) (S := fun b => w.heap.size < b) (blk_new_at _ w4 (by simp) 25 _) (by omega) ((((Tm_4.out.kp ((Kp.refl w2.heap.size _).setB 3 (.slice (some ⟨w4.heap.size, 0, none⟩) 1 1)) (by first | omega | (simp; omega))).put4 (by first | omega | (simp; omega))).alloc _).mono (fun b hb _ => by first | omega | (simp at hb; omega)))).mono (fun b hb _ => by omega), ((P_4.out.far (p := ⟨w2.heap.size, 3, none⟩) (by simp; omega) (.slice (some ⟨w4.heap.size, 0, none⟩) 1 1)).put4 (by omega)).alloc _, ((K_4.setN (g := w2.heap.size) (by omega) 3 (.slice (some ⟨w4.heap.size, 0, none⟩) 1 1)).put4 (Nat.le_refl _)).alloc _⟩
  by_cases h_return : tx = [114, 101, 116, 117, 114, 110]
  · subst h_return
    rw [if_pos (by simp)] at hh
    cases hov : Pp.over c.T (Pp.step c.T s) with
    | true =>
      rw [if_pos hov] at hh
      have HV := Lib.hid (over_any c)
      simp only [Option.some.injEq, Prod.mk.injEq] at hh
      obtain ⟨rfl, rfl⟩ := hh
      go_enter Tryz.func87, Tryz.ntmps87
      go_wp2_with fail
      refine (Hcur.out _ (P_0.out.alloc _)).mono ?_
      rintro e w1 ⟨rfl, hb⟩
      have kk := Kp.of_below (b := c.bp) hb
      have P_1 := Lib.hid ((P_0.out.alloc _).below hb)
      have R_1 := Lib.hid (((Blk.new w 25 z4)).kp kk (by omega))
      have K_1 := ((Kp.refl c.bp w).alloc _).trans kk
      have l_1 : w.heap.size + 1 ≤ w1.heap.size := by have := kk.size; simpa using this
      clear kk hb 
      go_wp2_with fail
      refine (step_any c _ _ (P_1.out.alloc _)).mono ?_
      rintro e w2 ⟨rfl, pp, kp⟩
      have P_2 := Lib.hid pp
      have R_2 := Lib.hid ((R_1.out.alloc _).kp kp (by omega))
      have B_2 := Lib.hid (((Blk.new w1 60 #[.int .i64 7, vs [114, 101, 116, 117, 114, 110], .int .i64 tp])).kp kp (by omega))
      have K_2 := (K_1.alloc _).trans kp
      have l_2 : w1.heap.size + 1 ≤ w2.heap.size := by have := kp.size; simpa using this
      clear kp pp 
      obtain ⟨b0, b1, b2⟩ := B_2.out.tri
      have lb := B_2.out.lt
      go_wp2_with fail
      refine (over_any c _ _ (P_2.out.alloc _)).mono ?_
      rintro e w3 ⟨rfl, hb⟩
      have kk := Kp.of_below (b := c.bp) hb
      have P_3 := Lib.hid ((P_2.out.alloc _).below hb)
      have R_3 := Lib.hid ((R_2.out.alloc _).kp kk (by omega))
      have B_3 := Lib.hid ((B_2.out.alloc _).kp kk (by omega))
      have D_3 := Lib.hid (((Blk.new w2 25 #[vs [114, 101, 116, 117, 114, 110], vs [], .int .i64 tp, .slice none 0 0])).kp kk (by omega))
      have K_3 := (K_2.alloc _).trans kk
      have l_3 : w2.heap.size + 1 ≤ w3.heap.size := by have := kk.size; simpa using this
      clear kk hb 
      rw [hov]
      obtain ⟨d0, d1, d2, d3⟩ := D_3.out.four
      obtain ⟨r0, r1, r2, r3⟩ := R_3.out.four
      have rf0 := R_3.out.frozen 0
      have rf1 := R_3.out.frozen 1
      have rf2 := R_3.out.frozen 2
      have rf3 := R_3.out.frozen 3
      go_wp2_with fail
      exact bodyPost_ret (results_node Tryz.results87 rfl R_3.out.put4) rfl ⟨none, 0, 0, rfl, .nil _ _, P_3.out.put4 (by omega), K_3.put4 (Nat.le_refl _)⟩
    | false =>
      rw [if_neg (by simp [hov])] at hh
      cases hEm : E (Pp.step c.T s) with
      | none => rw [hEm] at hh; cases hh
      | some r =>
      obtain ⟨m, s2⟩ := r
      rw [hEm] at hh
      simp only at hh
      simp only [Option.some.injEq, Prod.mk.injEq] at hh
      obtain ⟨rfl, rfl⟩ := hh
      have HM := Lib.hid hEm
      clear hEm
      go_enter Tryz.func87, Tryz.ntmps87
      go_wp2_with fail
      refine (Hcur.out _ (P_0.out.alloc _)).mono ?_
      rintro e w1 ⟨rfl, hb⟩
      have kk := Kp.of_below (b := c.bp) hb
      have P_1 := Lib.hid ((P_0.out.alloc _).below hb)
      have R_1 := Lib.hid (((Blk.new w 25 z4)).kp kk (by omega))
      have K_1 := ((Kp.refl c.bp w).alloc _).trans kk
      have l_1 : w.heap.size + 1 ≤ w1.heap.size := by have := kk.size; simpa using this
      clear kk hb 
      go_wp2_with fail
      refine (step_any c _ _ (P_1.out.alloc _)).mono ?_
      rintro e w2 ⟨rfl, pp, kp⟩
      have P_2 := Lib.hid pp
      have R_2 := Lib.hid ((R_1.out.alloc _).kp kp (by omega))
      have B_2 := Lib.hid (((Blk.new w1 60 #[.int .i64 7, vs [114, 101, 116, 117, 114, 110], .int .i64 tp])).kp kp (by omega))
      have K_2 := (K_1.alloc _).trans kp
      have l_2 : w1.heap.size + 1 ≤ w2.heap.size := by have := kp.size; simpa using this
      clear kp pp 
      obtain ⟨b0, b1, b2⟩ := B_2.out.tri
      have lb := B_2.out.lt
      go_wp2_with fail
      refine (over_any c _ _ (P_2.out.alloc _)).mono ?_
      rintro e w3 ⟨rfl, hb⟩
      have kk := Kp.of_below (b := c.bp) hb
      have P_3 := Lib.hid ((P_2.out.alloc _).below hb)
      have R_3 := Lib.hid ((R_2.out.alloc _).kp kk (by omega))
      have B_3 := Lib.hid ((B_2.out.alloc _).kp kk (by omega))
      have D_3 := Lib.hid (((Blk.new w2 25 #[vs [114, 101, 116, 117, 114, 110], vs [], .int .i64 tp, .slice none 0 0])).kp kk (by omega))
      have K_3 := (K_2.alloc _).trans kk
      have l_3 : w2.heap.size + 1 ≤ w3.heap.size := by have := kk.size; simpa using this
      clear kk hb 
      rw [hov]
      go_wp2_with fail
      refine (HE.out _ _ _ _ P_3.out HM.out).mono ?_
      rintro e w4 ⟨ma, ml, mq, rfl, tt, pp, kp⟩
      have P_4 := Lib.hid pp
      have R_4 := Lib.hid (R_3.out.kp kp (by omega))
      have B_4 := Lib.hid (B_3.out.kp kp (by omega))
      have D_4 := Lib.hid (D_3.out.kp kp (by omega))
      have K_4 := K_3.trans kp
      have l_4 : w3.heap.size + 0 ≤ w4.heap.size := by have := kp.size; simpa using this
      clear kp pp 
      have Tm_4 := Lib.hid tt
      clear tt
      have GD := Lib.hid (D_4.out.alloc (.cells #[vs m.op, vs m.text, .int .i64 m.pos, .slice ma ml mq] 25))
      have df := D_4.out.frozen 3
      have ld := D_4.out.lt
      obtain ⟨d0, d1, d2, d3⟩ := D_4.out.four
      obtain ⟨r0, r1, r2, r3⟩ := R_4.out.four
      have rf0 := R_4.out.frozen 0
      have rf1 := R_4.out.frozen 1
      have rf2 := R_4.out.frozen 2
      have rf3 := R_4.out.frozen 3
      have lr := R_4.out.lt
      go_wp2_with fail
      exact bodyPost_ret (results_node Tryz.results87 rfl (((R_4.out.far (p := ⟨w2.heap.size, 3, none⟩) (by simp; omega) (.slice (some ⟨w4.heap.size, 0, none⟩) 1 1)).put4).alloc _)) rfl ⟨_, 1, 1, rfl, (KidsAt.one (n1 := m) (S := fun b => w.heap.size < b) (blk_new_at _ w4 (by simp) 25 _) (by omega) ((((Tm_4.out.kp ((Kp.refl w2.heap.size _).setB 3 (.slice (some ⟨w4.heap.size, 0, none⟩) 1 1)) (by first | omega | (simp; omega))).put4 (by first | omega | (simp; omega))).alloc _).mono (fun b hb _ => by first | omega | (simp at hb; omega)))).mono (fun b hb _ => by omega), ((P_4.out.far (p := ⟨w2.heap.size, 3, none⟩) (by simp; omega) (.slice (some ⟨w4.heap.size, 0, none⟩) 1 1)).put4 (by omega)).alloc _, ((K_4.setN (g := w2.heap.size) (by omega) 3 (.slice (some ⟨w4.heap.size, 0, none⟩) 1 1)).put4 (Nat.le_refl _)).alloc _⟩
  rw [if_neg (by simp [h_exit, h_return])] at hh
  by_cases h_delete : tx = [100, 101, 108, 101, 116, 101]
  · subst h_delete
    rw [if_pos rfl] at hh
    obtain ⟨⟨x, sx⟩, hx⟩ : ∃ r, Pp.name c.T [5] (Pp.step c.T s) = r := ⟨_, rfl⟩
    rw [hx] at hh
    simp only at hh
    have HX := Lib.hid hx
    cases hat : Pp.at_ c.T [[91]] sx with
    | true =>
      rw [if_pos hat] at hh
      have HA := Lib.hid hat
      clear hat hx
      cases hEm : Pp.inside c.T E [93] (Pp.step c.T sx) with
      | none => rw [hEm] at hh; cases hh
      | some r =>
      obtain ⟨m, s2⟩ := r
      rw [hEm] at hh
      simp only at hh
      simp only [Option.some.injEq, Prod.mk.injEq] at hh
      obtain ⟨rfl, rfl⟩ := hh
      have HM := Lib.hid hEm
      clear hEm
      go_enter Tryz.func87, Tryz.ntmps87
      go_wp2_with fail
      refine (Hcur.out _ (P_0.out.alloc _)).mono ?_
      rintro e w1 ⟨rfl, hb⟩
      have kk := Kp.of_below (b := c.bp) hb
      have P_1 := Lib.hid ((P_0.out.alloc _).below hb)
      have R_1 := Lib.hid (((Blk.new w 25 z4)).kp kk (by omega))
      have K_1 := ((Kp.refl c.bp w).alloc _).trans kk
      have l_1 : w.heap.size + 1 ≤ w1.heap.size := by have := kk.size; simpa using this
      clear kk hb 
      go_wp2_with fail
      refine (step_any c _ _ (P_1.out.alloc _)).mono ?_
      rintro e w2 ⟨rfl, pp, kp⟩
      have P_2 := Lib.hid pp
      have R_2 := Lib.hid ((R_1.out.alloc _).kp kp (by omega))
      have K_2 := (K_1.alloc _).trans kp
      have l_2 : w1.heap.size + 1 ≤ w2.heap.size := by have := kp.size; simpa using this
      clear kp pp 
      go_wp2_with fail
      have hnm := name_new c w2 _ P_2.out 1 [5] w2.heap.size 1 rfl rfl #[.int .i64 5] rfl (by omega)
      rw [HX.out] at hnm
      simp only at hnm
      refine (hnm).mono ?_
      rintro e w3 ⟨rfl, pp, kp⟩
      have P_3 := Lib.hid pp
      have R_3 := Lib.hid (R_2.out.kp kp (by omega))
      have K_3 := K_2.trans kp
      have l_3 : w2.heap.size + 0 ≤ w3.heap.size := by have := kp.size; simpa using this
      clear kp pp hnm
      go_wp2_with fail
      refine (accept_t c _ _ (P_3.out.alloc _) [91] HA.out).mono ?_
      rintro e w4 ⟨rfl, pp, kp⟩
      have P_4 := Lib.hid pp
      have R_4 := Lib.hid ((R_3.out.alloc _).kp kp (by omega))
      have B_4 := Lib.hid (((Blk.new w3 60 #[.int .i64 x.kind, vs x.text, .int .i64 x.pos])).kp kp (by omega))
      have K_4 := (K_3.alloc _).trans kp
      have l_4 : w3.heap.size + 1 ≤ w4.heap.size := by have := kp.size; simpa using this
      clear kp pp 
      go_wp2_with fail
      have GL := Lib.hid B_4.out.drew
      have GT := Lib.hid R_4.out.drew
      obtain ⟨ld0, ld1, ld2⟩ := B_4.out.tri
      go_region_with (first
        | (go_at_call 84; refine (inside_any c E HE.out [93] _ _ _ _ P_4.out.drew HM.out).mono ?_; rintro e w5 ⟨ma, ml, mq, rfl, tt, pp, kp⟩; have GL4 := Lib.hid (GL.out.kp kp (by omega)); have GT4 := Lib.hid (GT.out.kp kp (by omega)); obtain ⟨lq0, lq1, lq2⟩ := GL4.out.tri; have lk := GL4.out.lt; have PP := Lib.hid pp; have TT := Lib.hid tt; clear pp tt)
        | (go_at_call 42; refine (leaf_any _ _ x _ _ _).mono ?_; rintro e w6 ⟨rfl, hb⟩; have GT5 := Lib.hid ((GT4.out.alloc _).under hb); have ll := hb.size)
        | (go_at_call 25; refine (node_any _ _ _ _ _).mono ?_; rintro e w7 ⟨rfl, hb2⟩; have GT6 := Lib.hid ((GT5.out.alloc _).under hb2); obtain ⟨gt0, gt1, gt2, gt3⟩ := GT6.out.four; have gf0 := GT6.out.frozen 0; have gf1 := GT6.out.frozen 1; have gf2 := GT6.out.frozen 2; have gf3 := GT6.out.frozen 3))
      all_goals
        have P_5 := Lib.hid PP
        have R_5 := Lib.hid (R_4.out.drew.kp kp (by omega))
        have B_5 := Lib.hid (B_4.out.drew.kp kp (by omega))
        have K_5 := K_4.drew.trans kp
        have l_5 : w4.heap.size + 0 ≤ w5.heap.size := by have := kp.size; simpa using this
        have Tm_5 := TT
        have kk := Kp.of_below (b := c.bp) hb
        have P_6 := Lib.hid ((P_5.out.alloc _).below hb)
        have R_6 := Lib.hid ((R_5.out.alloc _).kp kk (by omega))
        have B_6 := Lib.hid ((B_5.out.alloc _).kp kk (by omega))
        have A_6 := Lib.hid (((Blk.new w5 25 #[vs m.op, vs m.text, .int .i64 m.pos, .slice ma ml mq])).kp kk (by omega))
        have Tm_6 := Lib.hid ((Tm_5.out.alloc _).kp kk (by first | omega | (simp; omega)))
        have K_6 := (K_5.alloc _).trans kk
        have l_6 : w5.heap.size + 1 ≤ w6.heap.size := by have := kk.size; simpa using this
        clear kk hb
        have hb := hb2
        have kk := Kp.of_below (b := c.bp) hb
        have P_7 := Lib.hid ((P_6.out.alloc _).below hb)
        have R_7 := Lib.hid ((R_6.out.alloc _).kp kk (by omega))
        have B_7 := Lib.hid ((B_6.out.alloc _).kp kk (by omega))
        have A_7 := Lib.hid ((A_6.out.alloc _).kp kk (by omega))
        have C_7 := Lib.hid (((Blk.new w6 25 #[vs [105, 110, 100, 101, 120], vs x.text, .int .i64 x.pos, .slice (some ⟨w5.heap.size, 0, none⟩) 1 1])).kp kk (by omega))
        have Tm_7 := Lib.hid ((Tm_6.out.alloc _).kp kk (by first | omega | (simp; omega)))
        have K_7 := (K_6.alloc _).trans kk
        have l_7 : w6.heap.size + 1 ≤ w7.heap.size := by have := kk.size; simpa using this
        clear kp kk hb
        have TC := Lib.hid (KidsAt.one (c := 1) (n1 := m) (S := fun b => w.heap.size < b) A_7.out (by omega) (Tm_7.out.mono (fun b hb _ => by first | omega | (simp at hb; omega))))
        obtain ⟨r0, r1, r2, r3⟩ := R_7.out.four
        have rf0 := R_7.out.frozen 0
        have rf1 := R_7.out.frozen 1
        have rf2 := R_7.out.frozen 2
        have rf3 := R_7.out.frozen 3
        go_wp2_with fail
        exact bodyPost_ret (results_node Tryz.results87 rfl R_7.out.put4) rfl ⟨_, 1, 1, rfl, ((KidsAt.one (n1 := .mk [105, 110, 100, 101, 120] x.text x.pos [m]) (S := fun b => w.heap.size < b) C_7.out (by omega) TC.out).put4 (by simp)).mono (fun b hb _ => by omega), P_7.out.put4 (by omega), K_7.put4 (Nat.le_refl _)⟩
    | false =>
      rw [if_neg (by simp [hat])] at hh
      have HA := Lib.hid hat
      clear hat hx
      simp only [Option.some.injEq, Prod.mk.injEq] at hh
      obtain ⟨rfl, rfl⟩ := hh
      go_enter Tryz.func87, Tryz.ntmps87
      go_wp2_with fail
      refine (Hcur.out _ (P_0.out.alloc _)).mono ?_
      rintro e w1 ⟨rfl, hb⟩
      have kk := Kp.of_below (b := c.bp) hb
      have P_1 := Lib.hid ((P_0.out.alloc _).below hb)
      have R_1 := Lib.hid (((Blk.new w 25 z4)).kp kk (by omega))
      have K_1 := ((Kp.refl c.bp w).alloc _).trans kk
      have l_1 : w.heap.size + 1 ≤ w1.heap.size := by have := kk.size; simpa using this
      clear kk hb 
      go_wp2_with fail
      refine (step_any c _ _ (P_1.out.alloc _)).mono ?_
      rintro e w2 ⟨rfl, pp, kp⟩
      have P_2 := Lib.hid pp
      have R_2 := Lib.hid ((R_1.out.alloc _).kp kp (by omega))
      have K_2 := (K_1.alloc _).trans kp
      have l_2 : w1.heap.size + 1 ≤ w2.heap.size := by have := kp.size; simpa using this
      clear kp pp 
      go_wp2_with fail
      have hnm := name_new c w2 _ P_2.out 1 [5] w2.heap.size 1 rfl rfl #[.int .i64 5] rfl (by omega)
      rw [HX.out] at hnm
      simp only at hnm
      refine (hnm).mono ?_
      rintro e w3 ⟨rfl, pp, kp⟩
      have P_3 := Lib.hid pp
      have R_3 := Lib.hid (R_2.out.kp kp (by omega))
      have K_3 := K_2.trans kp
      have l_3 : w2.heap.size + 0 ≤ w3.heap.size := by have := kp.size; simpa using this
      clear kp pp hnm
      go_wp2_with fail
      refine (accept_f c _ _ (P_3.out.alloc _) [91] HA.out).mono ?_
      rintro e w4 ⟨rfl, pp, kp⟩
      have P_4 := Lib.hid pp
      have R_4 := Lib.hid ((R_3.out.alloc _).kp kp (by omega))
      have B_4 := Lib.hid (((Blk.new w3 60 #[.int .i64 x.kind, vs x.text, .int .i64 x.pos])).kp kp (by omega))
      have K_4 := (K_3.alloc _).trans kp
      have l_4 : w3.heap.size + 1 ≤ w4.heap.size := by have := kp.size; simpa using this
      clear kp pp 
      obtain ⟨b0, b1, b2⟩ := B_4.out.tri
      go_wp2_with fail
      refine (leaf_any _ _ x _ _ _).mono ?_
      rintro e w5 ⟨rfl, hb⟩
      have kk := Kp.of_below (b := c.bp) hb
      have P_5 := Lib.hid (P_4.out.below hb)
      have R_5 := Lib.hid (R_4.out.kp kk (by omega))
      have B_5 := Lib.hid (B_4.out.kp kk (by omega))
      have K_5 := K_4.trans kk
      have l_5 : w4.heap.size + 0 ≤ w5.heap.size := by have := kk.size; simpa using this
      clear kk hb 
      go_wp2_with fail
      refine (node_any _ _ _ _ _).mono ?_
      rintro e w6 ⟨rfl, hb⟩
      have kk := Kp.of_below (b := c.bp) hb
      have P_6 := Lib.hid ((P_5.out.alloc _).below hb)
      have R_6 := Lib.hid ((R_5.out.alloc _).kp kk (by omega))
      have B_6 := Lib.hid ((B_5.out.alloc _).kp kk (by omega))
      have C_6 := Lib.hid (((Blk.new w5 25 #[vs [110, 97, 109, 101], vs x.text, .int .i64 x.pos, .slice none 0 0])).kp kk (by omega))
      have K_6 := (K_5.alloc _).trans kk
      have l_6 : w5.heap.size + 1 ≤ w6.heap.size := by have := kk.size; simpa using this
      clear kk hb 
      obtain ⟨r0, r1, r2, r3⟩ := R_6.out.four
      have rf0 := R_6.out.frozen 0
      have rf1 := R_6.out.frozen 1
      have rf2 := R_6.out.frozen 2
      have rf3 := R_6.out.frozen 3
      go_wp2_with fail
      exact bodyPost_ret (results_node Tryz.results87 rfl R_6.out.put4) rfl ⟨_, 1, 1, rfl, ((KidsAt.one (n1 := .mk [110, 97, 109, 101] x.text x.pos []) (S := fun b => w.heap.size < b) C_6.out (by omega) (.nil _ _)).put4 (by simp)).mono (fun b hb _ => by omega), P_6.out.put4 (by omega), K_6.put4 (Nat.le_refl _)⟩
  rw [if_neg h_delete] at hh
  by_cases h_print : tx = [112, 114, 105, 110, 116]
  · subst h_print
    rw [if_pos (by simp)] at hh
    have HM := Lib.hid hh
    clear hh
    go_enter Tryz.func87, Tryz.ntmps87
    go_wp2_with fail
    refine (Hcur.out _ (P_0.out.alloc _)).mono ?_
    rintro e w1 ⟨rfl, hb⟩
    have kk := Kp.of_below (b := c.bp) hb
    have P_1 := Lib.hid ((P_0.out.alloc _).below hb)
    have R_1 := Lib.hid (((Blk.new w 25 z4)).kp kk (by omega))
    have K_1 := ((Kp.refl c.bp w).alloc _).trans kk
    have l_1 : w.heap.size + 1 ≤ w1.heap.size := by have := kk.size; simpa using this
    clear kk hb 
    go_wp2_with fail
    refine (step_any c _ _ (P_1.out.alloc _)).mono ?_
    rintro e w2 ⟨rfl, pp, kp⟩
    have P_2 := Lib.hid pp
    have R_2 := Lib.hid ((R_1.out.alloc _).kp kp (by omega))
    have B_2 := Lib.hid (((Blk.new w1 60 #[.int .i64 7, vs [112, 114, 105, 110, 116], .int .i64 tp])).kp kp (by omega))
    have K_2 := (K_1.alloc _).trans kp
    have l_2 : w1.heap.size + 1 ≤ w2.heap.size := by have := kp.size; simpa using this
    clear kp pp 
    obtain ⟨b0, b1, b2⟩ := B_2.out.tri
    go_wp2_with fail
    refine (HO.out _ _ _ _ _ P_2.out HM.out).mono ?_
    rintro e w3 ⟨ma, ml, mq, rfl, tt, pp, kp⟩
    have P_3 := Lib.hid pp
    have R_3 := Lib.hid (R_2.out.kp kp (by omega))
    have B_3 := Lib.hid (B_2.out.kp kp (by omega))
    have K_3 := K_2.trans kp
    have l_3 : w2.heap.size + 0 ≤ w3.heap.size := by have := kp.size; simpa using this
    clear kp pp 
    have Tm_3 := Lib.hid tt
    clear tt
    obtain ⟨r0, r1, r2, r3⟩ := R_3.out.four
    have rf0 := R_3.out.frozen 0
    have rf1 := R_3.out.frozen 1
    have rf2 := R_3.out.frozen 2
    have rf3 := R_3.out.frozen 3
    go_wp2_with fail
    exact bodyPost_ret (results_node Tryz.results87 rfl R_3.out.put4) rfl ⟨ma, ml, mq, rfl, (Tm_3.out.put4 (by first | omega | (simp; omega))).mono (fun b hb _ => by first | omega | (simp at hb; omega)), P_3.out.put4 (by omega), K_3.put4 (Nat.le_refl _)⟩
  by_cases h_printf : tx = [112, 114, 105, 110, 116, 102]
  · subst h_printf
    rw [if_pos (by simp)] at hh
    have HM := Lib.hid hh
    clear hh
    go_enter Tryz.func87, Tryz.ntmps87
    go_wp2_with fail
    refine (Hcur.out _ (P_0.out.alloc _)).mono ?_
    rintro e w1 ⟨rfl, hb⟩
    have kk := Kp.of_below (b := c.bp) hb
    have P_1 := Lib.hid ((P_0.out.alloc _).below hb)
    have R_1 := Lib.hid (((Blk.new w 25 z4)).kp kk (by omega))
    have K_1 := ((Kp.refl c.bp w).alloc _).trans kk
    have l_1 : w.heap.size + 1 ≤ w1.heap.size := by have := kk.size; simpa using this
    clear kk hb 
    go_wp2_with fail
    refine (step_any c _ _ (P_1.out.alloc _)).mono ?_
    rintro e w2 ⟨rfl, pp, kp⟩
    have P_2 := Lib.hid pp
    have R_2 := Lib.hid ((R_1.out.alloc _).kp kp (by omega))
    have B_2 := Lib.hid (((Blk.new w1 60 #[.int .i64 7, vs [112, 114, 105, 110, 116, 102], .int .i64 tp])).kp kp (by omega))
    have K_2 := (K_1.alloc _).trans kp
    have l_2 : w1.heap.size + 1 ≤ w2.heap.size := by have := kp.size; simpa using this
    clear kp pp 
    obtain ⟨b0, b1, b2⟩ := B_2.out.tri
    go_wp2_with fail
    refine (HO.out _ _ _ _ _ P_2.out HM.out).mono ?_
    rintro e w3 ⟨ma, ml, mq, rfl, tt, pp, kp⟩
    have P_3 := Lib.hid pp
    have R_3 := Lib.hid (R_2.out.kp kp (by omega))
    have B_3 := Lib.hid (B_2.out.kp kp (by omega))
    have K_3 := K_2.trans kp
    have l_3 : w2.heap.size + 0 ≤ w3.heap.size := by have := kp.size; simpa using this
    clear kp pp 
    have Tm_3 := Lib.hid tt
    clear tt
    obtain ⟨r0, r1, r2, r3⟩ := R_3.out.four
    have rf0 := R_3.out.frozen 0
    have rf1 := R_3.out.frozen 1
    have rf2 := R_3.out.frozen 2
    have rf3 := R_3.out.frozen 3
    go_wp2_with fail
    exact bodyPost_ret (results_node Tryz.results87 rfl R_3.out.put4) rfl ⟨ma, ml, mq, rfl, (Tm_3.out.put4 (by first | omega | (simp; omega))).mono (fun b hb _ => by first | omega | (simp at hb; omega)), P_3.out.put4 (by omega), K_3.put4 (Nat.le_refl _)⟩
  rw [if_neg (by simp [h_print, h_printf])] at hh
  simp only [Option.some.injEq, Prod.mk.injEq] at hh
  obtain ⟨rfl, rfl⟩ := hh
  have b_break : (tx == [98, 114, 101, 97, 107]) = false := by simpa using h_break
  have b_continue : (tx == [99, 111, 110, 116, 105, 110, 117, 101]) = false := by simpa using h_continue
  have b_next : (tx == [110, 101, 120, 116]) = false := by simpa using h_next
  have b_exit : (tx == [101, 120, 105, 116]) = false := by simpa using h_exit
  have b_return : (tx == [114, 101, 116, 117, 114, 110]) = false := by simpa using h_return
  have b_delete : (tx == [100, 101, 108, 101, 116, 101]) = false := by simpa using h_delete
  have b_print : (tx == [112, 114, 105, 110, 116]) = false := by simpa using h_print
  have b_printf : (tx == [112, 114, 105, 110, 116, 102]) = false := by simpa using h_printf
  clear h_break h_continue h_next h_exit h_return h_delete h_print h_printf
  go_enter Tryz.func87, Tryz.ntmps87
  go_wp2_with fail
  refine (Hcur.out _ (P_0.out.alloc _)).mono ?_
  rintro e w1 ⟨rfl, hb⟩
  have kk := Kp.of_below (b := c.bp) hb
  have P_1 := Lib.hid ((P_0.out.alloc _).below hb)
  have R_1 := Lib.hid (((Blk.new w 25 z4)).kp kk (by omega))
  have K_1 := ((Kp.refl c.bp w).alloc _).trans kk
  have l_1 : w.heap.size + 1 ≤ w1.heap.size := by have := kk.size; simpa using this
  clear kk hb 
  go_wp2_with fail
  refine (fail_any c _ _ (P_1.out.alloc _)).mono ?_
  rintro e w2 ⟨rfl, pp, kp⟩
  have P_2 := Lib.hid pp
  have R_2 := Lib.hid ((R_1.out.alloc _).kp kp (by omega))
  have K_2 := (K_1.alloc _).trans kp
  have l_2 : w1.heap.size + 1 ≤ w2.heap.size := by have := kp.size; simpa using this
  clear kp pp 
  obtain ⟨r0, r1, r2, r3⟩ := R_2.out.four
  have rf0 := R_2.out.frozen 0
  have rf1 := R_2.out.frozen 1
  have rf2 := R_2.out.frozen 2
  have rf3 := R_2.out.frozen 3
  go_wp2_with fail
  exact bodyPost_ret (results_node Tryz.results87 rfl R_2.out.put4) rfl ⟨none, 0, 0, rfl, .nil _ _, P_2.out.put4 (by omega), K_2.put4 (Nat.le_refl _)⟩

end Go.Proofs.YtgnmfaeonijogaaGreatDoor
