/- Walked: a statement. -/
import Derived.Test.YtgnmfaeonijogaaGreatDoorExprA
import Derived.Test.YtgnmfaeonijogaaGreatDoorStmA
import Derived.Test.YtgnmfaeonijogaaGreatDoorDeepB
namespace Go.Proofs.YtgnmfaeonijogaaGreatDoor
open Go.RowKit

set_option maxRecDepth 100000 in
set_option maxHeartbeats 16000000 in
theorem stmt_step (c : PC) (rx : Pp.Bytes → Int) (E S : Pp.PS → Option (Pp.Node × Pp.PS)) (k : Nat) (hE : IsN c 46 E) (hB : IsN c 85 (Pp.body c.T S)) (hBl : IsN c 41 (Pp.block c.T S k)) (hC : IsN c 83 (Pp.choice c.T E S)) (hL : IsN c 86 (Pp.loop rx c.T E S k)) (hSi : IsN c 87 (Pp.simple rx c.T E k))
    (hKE : Pp.KD E) (hKS : Pp.KD S) : IsN c 69 (Pp.stmtG rx c.T E S k) := by
  intro w s n s' h hh
  have hKX := Pp.kd_stmtG (T := c.T) rx hKE hKS k s n s' hh
  have hlo := h.deep.1
  have HE := Lib.hid hE
  have HB := Lib.hid hB
  have HBl := Lib.hid hBl
  have HC := Lib.hid hC
  have HL := Lib.hid hL
  have HSi := Lib.hid hSi
  have P_0 := Lib.hid h
  have hb := h.blk.lt
  unfold Pp.stmtG at hh
  cases hdn : Pp.down c.T s with
  | none => rw [hdn] at hh; cases hh
  | some s0 =>
  rw [hdn] at hh
  simp only at hh
  have HDn := Lib.hid hdn
  clear hE hB hBl hC hL hSi h hdn hKE hKS
  cases h0 : Pp.at_ c.T [[123]] s0 with
  | true =>
    rw [if_pos h0] at hh
    have H0 := Lib.hid h0
    clear h0
    cases hEm : Pp.block c.T S k s0 with
    | none => rw [hEm] at hh; cases hh
    | some r =>
    obtain ⟨m, s1⟩ := r
    rw [hEm] at hh
    simp only at hh
    simp only [Option.some.injEq, Prod.mk.injEq] at hh
    obtain ⟨rfl, rfl⟩ := hh
    have hd3 : s1.deep = s.deep + 1 := by simp only [Pp.up] at hKX; omega
    have HM := Lib.hid hEm
    clear hEm hKX
    go_enter_defers Tryz.func69, Tryz.ntmps69
    go_wp2_with fail
    refine (down_any c _ _ s0 (P_0.out.alloc _) HDn.out).mono ?_
    rintro e w1 ⟨rfl, pp, kp⟩
    have P_1 := Lib.hid pp
    have R_1 := Lib.hid (((Blk.new w 25 z4)).kp kp (by omega))
    have K_1 := ((Kp.refl c.bp w).alloc _).trans kp
    have l_1 : w.heap.size + 1 ≤ w1.heap.size := by have := kp.size; simpa using this
    clear kp pp 
    go_wp2_with fail
    refine (at_new' c _ s0 P_1.out 1 [[123]] _ 1 (by simp) rfl _ rfl (by omega) _ H0.out).mono ?_
    rintro e w2 ⟨rfl, hb⟩
    have kk := Kp.of_below (b := c.bp) hb
    have P_2 := Lib.hid (P_1.out.below hb)
    have R_2 := Lib.hid (R_1.out.kp kk (by omega))
    have K_2 := K_1.trans kk
    have l_2 : w1.heap.size + 0 ≤ w2.heap.size := by have := kk.size; simpa using this
    clear kk hb 
    go_wp2_with fail
    refine (HBl.out _ _ _ _ P_2.out HM.out).mono ?_
    rintro e w3 ⟨ma, ml, mq, rfl, tt, pp, kp⟩
    have P_3 := Lib.hid pp
    have R_3 := Lib.hid (R_2.out.kp kp (by omega))
    have K_3 := K_2.trans kp
    have l_3 : w2.heap.size + 0 ≤ w3.heap.size := by have := kp.size; simpa using this
    clear kp pp 
    have Tm_3 := Lib.hid tt
    clear tt
    obtain ⟨r0, r1, r2, r3⟩ := R_3.out.four
    have rf0 := R_3.out.frozen 0
    have rf1 := R_3.out.frozen 1
    have rf2 := R_3.out.frozen 2
    have rf3 := R_3.out.frozen 3
    go_wp2_with fail
    refine leaves_cons (f := 72) (args := #[.pointer (some ⟨c.bp, 0, none⟩)]) (by simp) (by simp [go_sem]) ?_
    refine (up_deferred c _ _ (P_3.out.put4 (by omega)) (by omega) .returning).mono ?_
    rintro e u w4 ⟨rfl, rfl, pp, kp⟩
    have RZ := (R_3.out.put4 (a := vs m.op) (b := vs m.text) (c := .int .i64 m.pos) (d := .slice ma ml mq)).kp kp (by omega)
    refine ⟨_, results_node Tryz.results69 rfl RZ, _, _, _, rfl, ?_, pp, (K_3.put4 (Nat.le_refl _)).trans kp⟩
    exact (((Tm_3.out.put4 (by first | omega | (simp; omega))).mono (S' := fun b => w.heap.size < b) (fun b hb _ => by first | omega | (simp at hb; omega))).kp kp (by omega)).mono (fun b hb _ => by omega)
  | false =>
  rw [if_neg (by simp [h0])] at hh
  have H0 := Lib.hid h0
  clear h0
  cases h1 : Pp.at_ c.T [[59]] s0 with
  | true =>
    rw [if_pos h1] at hh
    have H1 := Lib.hid h1
    clear h1
    simp only at hh
    simp only [Option.some.injEq, Prod.mk.injEq] at hh
    obtain ⟨rfl, rfl⟩ := hh
    have hd3 : (Pp.step c.T s0).deep = s.deep + 1 := by simp only [Pp.up] at hKX; omega
    clear hKX
    go_enter_defers Tryz.func69, Tryz.ntmps69
    go_wp2_with fail
    refine (down_any c _ _ s0 (P_0.out.alloc _) HDn.out).mono ?_
    rintro e w1 ⟨rfl, pp, kp⟩
    have P_1 := Lib.hid pp
    have R_1 := Lib.hid (((Blk.new w 25 z4)).kp kp (by omega))
    have K_1 := ((Kp.refl c.bp w).alloc _).trans kp
    have l_1 : w.heap.size + 1 ≤ w1.heap.size := by have := kp.size; simpa using this
    clear kp pp 
    go_wp2_with fail
    refine (at_new' c _ s0 P_1.out 1 [[123]] _ 1 (by simp) rfl _ rfl (by omega) _ H0.out).mono ?_
    rintro e w2 ⟨rfl, hb⟩
    have kk := Kp.of_below (b := c.bp) hb
    have P_2 := Lib.hid (P_1.out.below hb)
    have R_2 := Lib.hid (R_1.out.kp kk (by omega))
    have K_2 := K_1.trans kk
    have l_2 : w1.heap.size + 0 ≤ w2.heap.size := by have := kk.size; simpa using this
    clear kk hb 
    go_wp2_with fail
    refine (accept_t c _ _ P_2.out [59] H1.out).mono ?_
    rintro e w3 ⟨rfl, pp, kp⟩
    have P_3 := Lib.hid pp
    have R_3 := Lib.hid (R_2.out.kp kp (by omega))
    have K_3 := K_2.trans kp
    have l_3 : w2.heap.size + 0 ≤ w3.heap.size := by have := kp.size; simpa using this
    clear kp pp 
    go_wp2_with fail
    refine (node_any _ [101, 109, 112, 116, 121] _ _ _).mono ?_
    rintro e w4 ⟨rfl, hb⟩
    have kk := Kp.of_below (b := c.bp) hb
    have P_4 := Lib.hid (P_3.out.below hb)
    have R_4 := Lib.hid (R_3.out.kp kk (by omega))
    have K_4 := K_3.trans kk
    have l_4 : w3.heap.size + 0 ≤ w4.heap.size := by have := kk.size; simpa using this
    clear kk hb 
    obtain ⟨r0, r1, r2, r3⟩ := R_4.out.four
    have rf0 := R_4.out.frozen 0
    have rf1 := R_4.out.frozen 1
    have rf2 := R_4.out.frozen 2
    have rf3 := R_4.out.frozen 3
    go_wp2_with fail
    refine leaves_cons (f := 72) (args := #[.pointer (some ⟨c.bp, 0, none⟩)]) (by simp) (by simp [go_sem]) ?_
    refine (up_deferred c _ _ (P_4.out.put4 (by omega)) (by omega) .returning).mono ?_
    rintro e u w5 ⟨rfl, rfl, pp, kp⟩
    have RZ := (R_4.out.put4 (a := vs [101, 109, 112, 116, 121]) (b := vs []) (c := .int .i64 0) (d := .slice none 0 0)).kp kp (by omega)
    refine ⟨_, results_node Tryz.results69 rfl RZ, _, _, _, rfl, ?_, pp, (K_4.put4 (Nat.le_refl _)).trans kp⟩
    exact ((KidsAt.nil (w := _) (S := fun b => w.heap.size < b) none 0).kp kp (by omega)).mono (fun b hb _ => by omega)
  | false =>
  rw [if_neg (by simp [h1])] at hh
  have H1 := Lib.hid h1
  clear h1
  cases h2 : Pp.at_ c.T [[105, 102]] s0 with
  | true =>
    rw [if_pos h2] at hh
    have H2 := Lib.hid h2
    clear h2
    cases hEm : Pp.choice c.T E S (Pp.step c.T s0) with
    | none => rw [hEm] at hh; cases hh
    | some r =>
    obtain ⟨m, s1⟩ := r
    rw [hEm] at hh
    simp only at hh
    simp only [Option.some.injEq, Prod.mk.injEq] at hh
    obtain ⟨rfl, rfl⟩ := hh
    have hd3 : s1.deep = s.deep + 1 := by simp only [Pp.up] at hKX; omega
    have HM := Lib.hid hEm
    clear hEm hKX
    go_enter_defers Tryz.func69, Tryz.ntmps69
    go_wp2_with fail
    refine (down_any c _ _ s0 (P_0.out.alloc _) HDn.out).mono ?_
    rintro e w1 ⟨rfl, pp, kp⟩
    have P_1 := Lib.hid pp
    have R_1 := Lib.hid (((Blk.new w 25 z4)).kp kp (by omega))
    have K_1 := ((Kp.refl c.bp w).alloc _).trans kp
    have l_1 : w.heap.size + 1 ≤ w1.heap.size := by have := kp.size; simpa using this
    clear kp pp 
    go_wp2_with fail
    refine (at_new' c _ s0 P_1.out 1 [[123]] _ 1 (by simp) rfl _ rfl (by omega) _ H0.out).mono ?_
    rintro e w2 ⟨rfl, hb⟩
    have kk := Kp.of_below (b := c.bp) hb
    have P_2 := Lib.hid (P_1.out.below hb)
    have R_2 := Lib.hid (R_1.out.kp kk (by omega))
    have K_2 := K_1.trans kk
    have l_2 : w1.heap.size + 0 ≤ w2.heap.size := by have := kk.size; simpa using this
    clear kk hb 
    go_wp2_with fail
    refine (accept_f c _ _ P_2.out [59] H1.out).mono ?_
    rintro e w3 ⟨rfl, pp, kp⟩
    have P_3 := Lib.hid pp
    have R_3 := Lib.hid (R_2.out.kp kp (by omega))
    have K_3 := K_2.trans kp
    have l_3 : w2.heap.size + 0 ≤ w3.heap.size := by have := kp.size; simpa using this
    clear kp pp 
    go_wp2_with fail
    refine (accept_t c _ _ P_3.out [105, 102] H2.out).mono ?_
    rintro e w4 ⟨rfl, pp, kp⟩
    have P_4 := Lib.hid pp
    have R_4 := Lib.hid (R_3.out.kp kp (by omega))
    have K_4 := K_3.trans kp
    have l_4 : w3.heap.size + 0 ≤ w4.heap.size := by have := kp.size; simpa using this
    clear kp pp 
    go_wp2_with fail
    refine (HC.out _ _ _ _ P_4.out HM.out).mono ?_
    rintro e w5 ⟨ma, ml, mq, rfl, tt, pp, kp⟩
    have P_5 := Lib.hid pp
    have R_5 := Lib.hid (R_4.out.kp kp (by omega))
    have K_5 := K_4.trans kp
    have l_5 : w4.heap.size + 0 ≤ w5.heap.size := by have := kp.size; simpa using this
    clear kp pp 
    have Tm_5 := Lib.hid tt
    clear tt
    obtain ⟨r0, r1, r2, r3⟩ := R_5.out.four
    have rf0 := R_5.out.frozen 0
    have rf1 := R_5.out.frozen 1
    have rf2 := R_5.out.frozen 2
    have rf3 := R_5.out.frozen 3
    go_wp2_with fail
    refine leaves_cons (f := 72) (args := #[.pointer (some ⟨c.bp, 0, none⟩)]) (by simp) (by simp [go_sem]) ?_
    refine (up_deferred c _ _ (P_5.out.put4 (by omega)) (by omega) .returning).mono ?_
    rintro e u w6 ⟨rfl, rfl, pp, kp⟩
    have RZ := (R_5.out.put4 (a := vs m.op) (b := vs m.text) (c := .int .i64 m.pos) (d := .slice ma ml mq)).kp kp (by omega)
    refine ⟨_, results_node Tryz.results69 rfl RZ, _, _, _, rfl, ?_, pp, (K_5.put4 (Nat.le_refl _)).trans kp⟩
    exact (((Tm_5.out.put4 (by first | omega | (simp; omega))).mono (S' := fun b => w.heap.size < b) (fun b hb _ => by first | omega | (simp at hb; omega))).kp kp (by omega)).mono (fun b hb _ => by omega)
  | false =>
  rw [if_neg (by simp [h2])] at hh
  have H2 := Lib.hid h2
  clear h2
  cases h3 : Pp.at_ c.T [[119, 104, 105, 108, 101]] s0 with
  | true =>
    rw [if_pos h3] at hh
    have H3 := Lib.hid h3
    clear h3
    cases hE1 : Pp.inside c.T E [41] (Pp.expect c.T [40] (Pp.step c.T s0)) with
    | none => rw [hE1] at hh; cases hh
    | some r =>
    obtain ⟨m1, s2⟩ := r
    rw [hE1] at hh
    simp only at hh
    cases hE2 : Pp.body c.T S s2 with
    | none => rw [hE2] at hh; cases hh
    | some r =>
    obtain ⟨m2, s1⟩ := r
    rw [hE2] at hh
    simp only at hh
    simp only [Option.some.injEq, Prod.mk.injEq] at hh
    obtain ⟨rfl, rfl⟩ := hh
    have hd3 : s1.deep = s.deep + 1 := by simp only [Pp.up] at hKX; omega
    have HM1 := Lib.hid hE1
    have HM2 := Lib.hid hE2
    clear hE1 hE2 hKX
    go_enter_defers Tryz.func69, Tryz.ntmps69
    go_wp2_with fail
    refine (down_any c _ _ s0 (P_0.out.alloc _) HDn.out).mono ?_
    rintro e w1 ⟨rfl, pp, kp⟩
    have P_1 := Lib.hid pp
    have R_1 := Lib.hid (((Blk.new w 25 z4)).kp kp (by omega))
    have K_1 := ((Kp.refl c.bp w).alloc _).trans kp
    have l_1 : w.heap.size + 1 ≤ w1.heap.size := by have := kp.size; simpa using this
    clear kp pp 
    go_wp2_with fail
    refine (at_new' c _ s0 P_1.out 1 [[123]] _ 1 (by simp) rfl _ rfl (by omega) _ H0.out).mono ?_
    rintro e w2 ⟨rfl, hb⟩
    have kk := Kp.of_below (b := c.bp) hb
    have P_2 := Lib.hid (P_1.out.below hb)
    have R_2 := Lib.hid (R_1.out.kp kk (by omega))
    have K_2 := K_1.trans kk
    have l_2 : w1.heap.size + 0 ≤ w2.heap.size := by have := kk.size; simpa using this
    clear kk hb 
    go_wp2_with fail
    refine (accept_f c _ _ P_2.out [59] H1.out).mono ?_
    rintro e w3 ⟨rfl, pp, kp⟩
    have P_3 := Lib.hid pp
    have R_3 := Lib.hid (R_2.out.kp kp (by omega))
    have K_3 := K_2.trans kp
    have l_3 : w2.heap.size + 0 ≤ w3.heap.size := by have := kp.size; simpa using this
    clear kp pp 
    go_wp2_with fail
    refine (accept_f c _ _ P_3.out [105, 102] H2.out).mono ?_
    rintro e w4 ⟨rfl, pp, kp⟩
    have P_4 := Lib.hid pp
    have R_4 := Lib.hid (R_3.out.kp kp (by omega))
    have K_4 := K_3.trans kp
    have l_4 : w3.heap.size + 0 ≤ w4.heap.size := by have := kp.size; simpa using this
    clear kp pp 
    go_wp2_with fail
    refine (accept_t c _ _ P_4.out [119, 104, 105, 108, 101] H3.out).mono ?_
    rintro e w5 ⟨rfl, pp, kp⟩
    have P_5 := Lib.hid pp
    have R_5 := Lib.hid (R_4.out.kp kp (by omega))
    have K_5 := K_4.trans kp
    have l_5 : w4.heap.size + 0 ≤ w5.heap.size := by have := kp.size; simpa using this
    clear kp pp 
    go_wp2_with fail
    refine (expect_any c _ _ P_5.out [40]).mono ?_
    rintro e w6 ⟨rfl, pp, kp⟩
    have P_6 := Lib.hid pp
    have R_6 := Lib.hid (R_5.out.kp kp (by omega))
    have K_6 := K_5.trans kp
    have l_6 : w5.heap.size + 0 ≤ w6.heap.size := by have := kp.size; simpa using this
    clear kp pp 
    go_wp2_with fail
    refine (inside_any c E HE.out [41] _ _ _ _ P_6.out HM1.out).mono ?_
    rintro e w7 ⟨ka, kl, kq, rfl, tt, pp, kp⟩
    have P_7 := Lib.hid pp
    have R_7 := Lib.hid (R_6.out.kp kp (by omega))
    have K_7 := K_6.trans kp
    have l_7 : w6.heap.size + 0 ≤ w7.heap.size := by have := kp.size; simpa using this
    clear kp pp 
    have Tk_7 := Lib.hid tt
    clear tt
    go_wp2_with fail
    refine (HB.out _ _ _ _ P_7.out HM2.out).mono ?_
    rintro e w8 ⟨la, ll, lq, rfl, tt, pp, kp⟩
    have P_8 := Lib.hid pp
    have R_8 := Lib.hid (R_7.out.kp kp (by omega))
    have Tk_8 := Lib.hid (Tk_7.out.kp kp (by first | omega | (simp; omega)))
    have K_8 := K_7.trans kp
    have l_8 : w7.heap.size + 0 ≤ w8.heap.size := by have := kp.size; simpa using this
    clear kp pp 
    have Tl_8 := Lib.hid tt
    clear tt
    go_wp2_with fail
    refine (node_any _ [119, 104, 105, 108, 101] _ _ _).mono ?_
    rintro e w9 ⟨rfl, hb⟩
    have kk := Kp.of_below (b := c.bp) hb
    have P_9 := Lib.hid ((P_8.out.alloc _).below hb)
    have R_9 := Lib.hid ((R_8.out.alloc _).kp kk (by omega))
    have A_9 := Lib.hid (((Blk.new w8 25 #[vs m1.op, vs m1.text, .int .i64 m1.pos, .slice ka kl kq, vs m2.op, vs m2.text, .int .i64 m2.pos, .slice la ll lq])).kp kk (by omega))
    have Tk_9 := Lib.hid ((Tk_8.out.alloc _).kp kk (by first | omega | (simp; omega)))
    have Tl_9 := Lib.hid ((Tl_8.out.alloc _).kp kk (by first | omega | (simp; omega)))
    have K_9 := (K_8.alloc _).trans kk
    have l_9 : w8.heap.size + 1 ≤ w9.heap.size := by have := kk.size; simpa using this
    clear kk hb 
    obtain ⟨r0, r1, r2, r3⟩ := R_9.out.four
    have rf0 := R_9.out.frozen 0
    have rf1 := R_9.out.frozen 1
    have rf2 := R_9.out.frozen 2
    have rf3 := R_9.out.frozen 3
    go_wp2_with fail
    refine leaves_cons (f := 72) (args := #[.pointer (some ⟨c.bp, 0, none⟩)]) (by simp) (by simp [go_sem]) ?_
    refine (up_deferred c _ _ (P_9.out.put4 (by omega)) (by omega) .returning).mono ?_
    rintro e u w10 ⟨rfl, rfl, pp, kp⟩
    have RZ := (R_9.out.put4 (a := vs [119, 104, 105, 108, 101]) (b := vs []) (c := .int .i64 0) (d := .slice (some ⟨w8.heap.size, 0, none⟩) 2 2)).kp kp (by omega)
    refine ⟨_, results_node Tryz.results69 rfl RZ, _, _, _, rfl, ?_, pp, (K_9.put4 (Nat.le_refl _)).trans kp⟩
    exact (((KidsAt.two (n1 := m1) (n2 := m2) (S := fun b => w.heap.size < b) A_9.out (by omega) (Tk_9.out.mono (fun b hb _ => by first | omega | (simp at hb; omega))) (Tl_9.out.mono (fun b hb _ => by first | omega | (simp at hb; omega)))).put4 (by simp)).kp kp (by omega)).mono (fun b hb _ => by omega)
  | false =>
  rw [if_neg (by simp [h3])] at hh
  have H3 := Lib.hid h3
  clear h3
  cases h4 : Pp.at_ c.T [[102, 111, 114]] s0 with
  | true =>
    rw [if_pos h4] at hh
    have H4 := Lib.hid h4
    clear h4
    cases hEm : Pp.loop rx c.T E S k (Pp.step c.T s0) with
    | none => rw [hEm] at hh; cases hh
    | some r =>
    obtain ⟨m, s1⟩ := r
    rw [hEm] at hh
    simp only at hh
    simp only [Option.some.injEq, Prod.mk.injEq] at hh
    obtain ⟨rfl, rfl⟩ := hh
    have hd3 : s1.deep = s.deep + 1 := by simp only [Pp.up] at hKX; omega
    have HM := Lib.hid hEm
    clear hEm hKX
    go_enter_defers Tryz.func69, Tryz.ntmps69
    go_wp2_with fail
    refine (down_any c _ _ s0 (P_0.out.alloc _) HDn.out).mono ?_
    rintro e w1 ⟨rfl, pp, kp⟩
    have P_1 := Lib.hid pp
    have R_1 := Lib.hid (((Blk.new w 25 z4)).kp kp (by omega))
    have K_1 := ((Kp.refl c.bp w).alloc _).trans kp
    have l_1 : w.heap.size + 1 ≤ w1.heap.size := by have := kp.size; simpa using this
    clear kp pp 
    go_wp2_with fail
    refine (at_new' c _ s0 P_1.out 1 [[123]] _ 1 (by simp) rfl _ rfl (by omega) _ H0.out).mono ?_
    rintro e w2 ⟨rfl, hb⟩
    have kk := Kp.of_below (b := c.bp) hb
    have P_2 := Lib.hid (P_1.out.below hb)
    have R_2 := Lib.hid (R_1.out.kp kk (by omega))
    have K_2 := K_1.trans kk
    have l_2 : w1.heap.size + 0 ≤ w2.heap.size := by have := kk.size; simpa using this
    clear kk hb 
    go_wp2_with fail
    refine (accept_f c _ _ P_2.out [59] H1.out).mono ?_
    rintro e w3 ⟨rfl, pp, kp⟩
    have P_3 := Lib.hid pp
    have R_3 := Lib.hid (R_2.out.kp kp (by omega))
    have K_3 := K_2.trans kp
    have l_3 : w2.heap.size + 0 ≤ w3.heap.size := by have := kp.size; simpa using this
    clear kp pp 
    go_wp2_with fail
    refine (accept_f c _ _ P_3.out [105, 102] H2.out).mono ?_
    rintro e w4 ⟨rfl, pp, kp⟩
    have P_4 := Lib.hid pp
    have R_4 := Lib.hid (R_3.out.kp kp (by omega))
    have K_4 := K_3.trans kp
    have l_4 : w3.heap.size + 0 ≤ w4.heap.size := by have := kp.size; simpa using this
    clear kp pp 
    go_wp2_with fail
    refine (accept_f c _ _ P_4.out [119, 104, 105, 108, 101] H3.out).mono ?_
    rintro e w5 ⟨rfl, pp, kp⟩
    have P_5 := Lib.hid pp
    have R_5 := Lib.hid (R_4.out.kp kp (by omega))
    have K_5 := K_4.trans kp
    have l_5 : w4.heap.size + 0 ≤ w5.heap.size := by have := kp.size; simpa using this
    clear kp pp 
    go_wp2_with fail
    refine (accept_t c _ _ P_5.out [102, 111, 114] H4.out).mono ?_
    rintro e w6 ⟨rfl, pp, kp⟩
    have P_6 := Lib.hid pp
    have R_6 := Lib.hid (R_5.out.kp kp (by omega))
    have K_6 := K_5.trans kp
    have l_6 : w5.heap.size + 0 ≤ w6.heap.size := by have := kp.size; simpa using this
    clear kp pp 
    go_wp2_with fail
    refine (HL.out _ _ _ _ P_6.out HM.out).mono ?_
    rintro e w7 ⟨ma, ml, mq, rfl, tt, pp, kp⟩
    have P_7 := Lib.hid pp
    have R_7 := Lib.hid (R_6.out.kp kp (by omega))
    have K_7 := K_6.trans kp
    have l_7 : w6.heap.size + 0 ≤ w7.heap.size := by have := kp.size; simpa using this
    clear kp pp 
    have Tm_7 := Lib.hid tt
    clear tt
    obtain ⟨r0, r1, r2, r3⟩ := R_7.out.four
    have rf0 := R_7.out.frozen 0
    have rf1 := R_7.out.frozen 1
    have rf2 := R_7.out.frozen 2
    have rf3 := R_7.out.frozen 3
    go_wp2_with fail
    refine leaves_cons (f := 72) (args := #[.pointer (some ⟨c.bp, 0, none⟩)]) (by simp) (by simp [go_sem]) ?_
    refine (up_deferred c _ _ (P_7.out.put4 (by omega)) (by omega) .returning).mono ?_
    rintro e u w8 ⟨rfl, rfl, pp, kp⟩
    have RZ := (R_7.out.put4 (a := vs m.op) (b := vs m.text) (c := .int .i64 m.pos) (d := .slice ma ml mq)).kp kp (by omega)
    refine ⟨_, results_node Tryz.results69 rfl RZ, _, _, _, rfl, ?_, pp, (K_7.put4 (Nat.le_refl _)).trans kp⟩
    exact (((Tm_7.out.put4 (by first | omega | (simp; omega))).mono (S' := fun b => w.heap.size < b) (fun b hb _ => by first | omega | (simp at hb; omega))).kp kp (by omega)).mono (fun b hb _ => by omega)
  | false =>
  rw [if_neg (by simp [h4])] at hh
  have H4 := Lib.hid h4
  clear h4
  cases hEm : Pp.simple rx c.T E k s0 with
  | none => rw [hEm] at hh; cases hh
  | some r =>
  obtain ⟨m, s1⟩ := r
  rw [hEm] at hh
  simp only at hh
  simp only [Option.some.injEq, Prod.mk.injEq] at hh
  obtain ⟨rfl, rfl⟩ := hh
  have hd3 : (Pp.fin c.T s1).deep = s.deep + 1 := by simp only [Pp.up] at hKX; omega
  have HM := Lib.hid hEm
  clear hEm hKX
  go_enter_defers Tryz.func69, Tryz.ntmps69
  go_wp2_with fail
  refine (down_any c _ _ s0 (P_0.out.alloc _) HDn.out).mono ?_
  rintro e w1 ⟨rfl, pp, kp⟩
  have P_1 := Lib.hid pp
  have R_1 := Lib.hid (((Blk.new w 25 z4)).kp kp (by omega))
  have K_1 := ((Kp.refl c.bp w).alloc _).trans kp
  have l_1 : w.heap.size + 1 ≤ w1.heap.size := by have := kp.size; simpa using this
  clear kp pp 
  go_wp2_with fail
  refine (at_new' c _ s0 P_1.out 1 [[123]] _ 1 (by simp) rfl _ rfl (by omega) _ H0.out).mono ?_
  rintro e w2 ⟨rfl, hb⟩
  have kk := Kp.of_below (b := c.bp) hb
  have P_2 := Lib.hid (P_1.out.below hb)
  have R_2 := Lib.hid (R_1.out.kp kk (by omega))
  have K_2 := K_1.trans kk
  have l_2 : w1.heap.size + 0 ≤ w2.heap.size := by have := kk.size; simpa using this
  clear kk hb 
  go_wp2_with fail
  refine (accept_f c _ _ P_2.out [59] H1.out).mono ?_
  rintro e w3 ⟨rfl, pp, kp⟩
  have P_3 := Lib.hid pp
  have R_3 := Lib.hid (R_2.out.kp kp (by omega))
  have K_3 := K_2.trans kp
  have l_3 : w2.heap.size + 0 ≤ w3.heap.size := by have := kp.size; simpa using this
  clear kp pp 
  go_wp2_with fail
  refine (accept_f c _ _ P_3.out [105, 102] H2.out).mono ?_
  rintro e w4 ⟨rfl, pp, kp⟩
  have P_4 := Lib.hid pp
  have R_4 := Lib.hid (R_3.out.kp kp (by omega))
  have K_4 := K_3.trans kp
  have l_4 : w3.heap.size + 0 ≤ w4.heap.size := by have := kp.size; simpa using this
  clear kp pp 
  go_wp2_with fail
  refine (accept_f c _ _ P_4.out [119, 104, 105, 108, 101] H3.out).mono ?_
  rintro e w5 ⟨rfl, pp, kp⟩
  have P_5 := Lib.hid pp
  have R_5 := Lib.hid (R_4.out.kp kp (by omega))
  have K_5 := K_4.trans kp
  have l_5 : w4.heap.size + 0 ≤ w5.heap.size := by have := kp.size; simpa using this
  clear kp pp 
  go_wp2_with fail
  refine (accept_f c _ _ P_5.out [102, 111, 114] H4.out).mono ?_
  rintro e w6 ⟨rfl, pp, kp⟩
  have P_6 := Lib.hid pp
  have R_6 := Lib.hid (R_5.out.kp kp (by omega))
  have K_6 := K_5.trans kp
  have l_6 : w5.heap.size + 0 ≤ w6.heap.size := by have := kp.size; simpa using this
  clear kp pp 
  go_wp2_with fail
  refine (HSi.out _ _ _ _ P_6.out HM.out).mono ?_
  rintro e w7 ⟨ma, ml, mq, rfl, tt, pp, kp⟩
  have P_7 := Lib.hid pp
  have R_7 := Lib.hid (R_6.out.kp kp (by omega))
  have K_7 := K_6.trans kp
  have l_7 : w6.heap.size + 0 ≤ w7.heap.size := by have := kp.size; simpa using this
  clear kp pp 
  have Tm_7 := Lib.hid tt
  clear tt
  go_wp2_with fail
  refine (fin_any c _ _ (P_7.out.alloc _)).mono ?_
  rintro e w8 ⟨rfl, pp, kp⟩
  have P_8 := Lib.hid pp
  have R_8 := Lib.hid ((R_7.out.alloc _).kp kp (by omega))
  have D_8 := Lib.hid (((Blk.new w7 25 #[vs m.op, vs m.text, .int .i64 m.pos, .slice ma ml mq])).kp kp (by omega))
  have Tm_8 := Lib.hid ((Tm_7.out.alloc _).kp kp (by first | omega | (simp; omega)))
  have K_8 := (K_7.alloc _).trans kp
  have l_8 : w7.heap.size + 1 ≤ w8.heap.size := by have := kp.size; simpa using this
  clear kp pp 
  obtain ⟨d0, d1, d2, d3⟩ := D_8.out.four
  obtain ⟨r0, r1, r2, r3⟩ := R_8.out.four
  have rf0 := R_8.out.frozen 0
  have rf1 := R_8.out.frozen 1
  have rf2 := R_8.out.frozen 2
  have rf3 := R_8.out.frozen 3
  go_wp2_with fail
  refine leaves_cons (f := 72) (args := #[.pointer (some ⟨c.bp, 0, none⟩)]) (by simp) (by simp [go_sem]) ?_
  refine (up_deferred c _ _ (P_8.out.put4 (by omega)) (by omega) .returning).mono ?_
  rintro e u w9 ⟨rfl, rfl, pp, kp⟩
  have RZ := (R_8.out.put4 (a := vs m.op) (b := vs m.text) (c := .int .i64 m.pos) (d := .slice ma ml mq)).kp kp (by omega)
  refine ⟨_, results_node Tryz.results69 rfl RZ, _, _, _, rfl, ?_, pp, (K_8.put4 (Nat.le_refl _)).trans kp⟩
  exact (((Tm_8.out.put4 (by first | omega | (simp; omega))).mono (S' := fun b => w.heap.size < b) (fun b hb _ => by first | omega | (simp at hb; omega))).kp kp (by omega)).mono (fun b hb _ => by omega)

end Go.Proofs.YtgnmfaeonijogaaGreatDoor
