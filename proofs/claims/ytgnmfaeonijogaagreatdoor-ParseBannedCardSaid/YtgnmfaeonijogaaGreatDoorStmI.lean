/- Walked: a rule, or a function. -/
import Derived.Test.YtgnmfaeonijogaaGreatDoorStmC
import Derived.Test.YtgnmfaeonijogaaGreatDoorStmP
namespace Go.Proofs.YtgnmfaeonijogaaGreatDoor
open Go.RowKit

theorem kp_size1 {b : Nat} {w w' : World} {o : Obj} (k : Kp b ((w.alloc o).drew) w') : w.heap.size + 1 ≤ w'.heap.size := by
  have := k.size
  simpa using this

set_option maxRecDepth 100000 in
set_option maxHeartbeats 32000000 in
theorem item_any (c : PC) (E S : Pp.PS → Option (Pp.Node × Pp.PS)) (k : Nat) (hk : k ≤ 1000000) (hE : IsN c 46 E) (hB : IsN c 41 (Pp.block c.T S k)) : IsN c 29 (Pp.item c.T E S k) := by
  intro w s n s' h hh
  unfold Pp.item at hh
  have HE := Lib.hid hE
  have HB := Lib.hid hB
  have P_0 := Lib.hid h
  have hb := h.blk.lt
  clear hE hB h
  cases hat : Pp.at_ c.T [[66, 69, 71, 73, 78]] s with
  | true =>
    rw [if_pos hat] at hh
    have HA0 := Lib.hid hat
    clear hat
    cases hEm : Pp.block c.T S k (Pp.step c.T s) with
    | none => rw [hEm] at hh; cases hh
    | some r =>
    obtain ⟨m, s2⟩ := r
    rw [hEm] at hh
    simp only at hh
    simp only [Option.some.injEq, Prod.mk.injEq] at hh
    obtain ⟨rfl, rfl⟩ := hh
    have HM := Lib.hid hEm
    clear hEm
    go_enter Tryz.func29, Tryz.ntmps29
    go_wp2_with fail
    refine (accept_t c _ _ (P_0.out.alloc _) [66, 69, 71, 73, 78] HA0.out).mono ?_
    rintro e w1 ⟨rfl, pp, kp⟩
    have P_1 := Lib.hid pp
    have R_1 := Lib.hid (((Blk.new w 25 z4)).kp kp (by omega))
    have K_1 := ((Kp.refl c.bp w).alloc _).trans kp
    have l_1 : w.heap.size + 1 ≤ w1.heap.size := by have := kp.size; simpa using this
    clear kp pp 
    go_wp2_with fail
    refine (HB.out _ _ _ _ P_1.out HM.out).mono ?_
    rintro e w2 ⟨ma, ml, mq, rfl, tt, pp, kp⟩
    have P_2 := Lib.hid pp
    have R_2 := Lib.hid (R_1.out.kp kp (by omega))
    have K_2 := K_1.trans kp
    have l_2 : w1.heap.size + 0 ≤ w2.heap.size := by have := kp.size; simpa using this
    clear kp pp 
    have Tm_2 := Lib.hid tt
    clear tt
    go_wp2_with fail
    refine (node_any _ _ _ _ _).mono ?_
    rintro e w3 ⟨rfl, hb⟩
    have kk := Kp.of_below (b := c.bp) hb
    have P_3 := Lib.hid ((P_2.out.alloc _).below hb)
    have R_3 := Lib.hid ((R_2.out.alloc _).kp kk (by omega))
    have A_3 := Lib.hid (((Blk.new w2 25 #[vs m.op, vs m.text, .int .i64 m.pos, .slice ma ml mq])).kp kk (by omega))
    have Tm_3 := Lib.hid ((Tm_2.out.alloc _).kp kk (by first | omega | (simp; omega)))
    have K_3 := (K_2.alloc _).trans kk
    have l_3 : w2.heap.size + 1 ≤ w3.heap.size := by have := kk.size; simpa using this
    clear kk hb 
    obtain ⟨r0, r1, r2, r3⟩ := R_3.out.four
    have rf0 := R_3.out.frozen 0
    have rf1 := R_3.out.frozen 1
    have rf2 := R_3.out.frozen 2
    have rf3 := R_3.out.frozen 3
    go_wp2_with fail
    exact bodyPost_ret (results_node Tryz.results29 rfl R_3.out.put4) rfl ⟨_, 1, 1, rfl, ((KidsAt.one (n1 := m) (S := fun b => w.heap.size < b) A_3.out (by omega) (Tm_3.out.mono (fun b hb _ => by first | omega | (simp at hb; omega)))).put4 (by simp)).mono (fun b hb _ => by omega), P_3.out.put4 (by omega), K_3.put4 (Nat.le_refl _)⟩
  | false =>
  rw [if_neg (by simp [hat])] at hh
  have HA0 := Lib.hid hat
  clear hat
  cases hat : Pp.at_ c.T [[69, 78, 68]] s with
  | true =>
    rw [if_pos hat] at hh
    have HA1 := Lib.hid hat
    clear hat
    cases hEm : Pp.block c.T S k (Pp.step c.T s) with
    | none => rw [hEm] at hh; cases hh
    | some r =>
    obtain ⟨m, s2⟩ := r
    rw [hEm] at hh
    simp only at hh
    simp only [Option.some.injEq, Prod.mk.injEq] at hh
    obtain ⟨rfl, rfl⟩ := hh
    have HM := Lib.hid hEm
    clear hEm
    go_enter Tryz.func29, Tryz.ntmps29
    go_wp2_with fail
    refine (accept_f c _ _ (P_0.out.alloc _) [66, 69, 71, 73, 78] HA0.out).mono ?_
    rintro e w1 ⟨rfl, pp, kp⟩
    have P_1 := Lib.hid pp
    have R_1 := Lib.hid (((Blk.new w 25 z4)).kp kp (by omega))
    have K_1 := ((Kp.refl c.bp w).alloc _).trans kp
    have l_1 : w.heap.size + 1 ≤ w1.heap.size := by have := kp.size; simpa using this
    clear kp pp 
    go_wp2_with fail
    refine (accept_t c _ _ P_1.out [69, 78, 68] HA1.out).mono ?_
    rintro e w2 ⟨rfl, pp, kp⟩
    have P_2 := Lib.hid pp
    have R_2 := Lib.hid (R_1.out.kp kp (by omega))
    have K_2 := K_1.trans kp
    have l_2 : w1.heap.size + 0 ≤ w2.heap.size := by have := kp.size; simpa using this
    clear kp pp 
    go_wp2_with fail
    refine (HB.out _ _ _ _ P_2.out HM.out).mono ?_
    rintro e w3 ⟨ma, ml, mq, rfl, tt, pp, kp⟩
    have P_3 := Lib.hid pp
    have R_3 := Lib.hid (R_2.out.kp kp (by omega))
    have K_3 := K_2.trans kp
    have l_3 : w2.heap.size + 0 ≤ w3.heap.size := by have := kp.size; simpa using this
    clear kp pp 
    have Tm_3 := Lib.hid tt
    clear tt
    go_wp2_with fail
    refine (node_any _ _ _ _ _).mono ?_
    rintro e w4 ⟨rfl, hb⟩
    have kk := Kp.of_below (b := c.bp) hb
    have P_4 := Lib.hid ((P_3.out.alloc _).below hb)
    have R_4 := Lib.hid ((R_3.out.alloc _).kp kk (by omega))
    have A_4 := Lib.hid (((Blk.new w3 25 #[vs m.op, vs m.text, .int .i64 m.pos, .slice ma ml mq])).kp kk (by omega))
    have Tm_4 := Lib.hid ((Tm_3.out.alloc _).kp kk (by first | omega | (simp; omega)))
    have K_4 := (K_3.alloc _).trans kk
    have l_4 : w3.heap.size + 1 ≤ w4.heap.size := by have := kk.size; simpa using this
    clear kk hb 
    obtain ⟨r0, r1, r2, r3⟩ := R_4.out.four
    have rf0 := R_4.out.frozen 0
    have rf1 := R_4.out.frozen 1
    have rf2 := R_4.out.frozen 2
    have rf3 := R_4.out.frozen 3
    go_wp2_with fail
    exact bodyPost_ret (results_node Tryz.results29 rfl R_4.out.put4) rfl ⟨_, 1, 1, rfl, ((KidsAt.one (n1 := m) (S := fun b => w.heap.size < b) A_4.out (by omega) (Tm_4.out.mono (fun b hb _ => by first | omega | (simp at hb; omega)))).put4 (by simp)).mono (fun b hb _ => by omega), P_4.out.put4 (by omega), K_4.put4 (Nat.le_refl _)⟩
  | false =>
  rw [if_neg (by simp [hat])] at hh
  have HA1 := Lib.hid hat
  clear hat
  cases hat : Pp.at_ c.T [[102, 117, 110, 99, 116, 105, 111, 110]] s with
  | true =>
    rw [if_pos hat] at hh
    have HA2 := Lib.hid hat
    clear hat
    simp only at hh
    obtain ⟨⟨x, sx⟩, hx⟩ : ∃ r, Pp.name c.T [5, 6] (Pp.step c.T s) = r := ⟨_, rfl⟩
    rw [hx] at hh
    simp only at hh
    cases hps : Pp.paramsL c.T k [] (Pp.lines c.T (Pp.expect c.T [40] sx)) with
    | none => rw [hps] at hh; cases hh
    | some r =>
    obtain ⟨ps, s1⟩ := r
    rw [hps] at hh
    simp only at hh
    cases hEm : Pp.block c.T S k (Pp.lines c.T (Pp.expect c.T [41] s1)) with
    | none => rw [hEm] at hh; cases hh
    | some r =>
    obtain ⟨m, s2⟩ := r
    rw [hEm] at hh
    simp only at hh
    simp only [Option.some.injEq, Prod.mk.injEq] at hh
    obtain ⟨rfl, rfl⟩ := hh
    have HM := Lib.hid hEm
    have HPS := Lib.hid hps
    have HX := Lib.hid hx
    clear hEm hps hx
    go_enter Tryz.func29, Tryz.ntmps29
    go_wp2_with fail
    refine (accept_f c _ _ (P_0.out.alloc _) [66, 69, 71, 73, 78] HA0.out).mono ?_
    rintro e w1 ⟨rfl, pp, kp⟩
    have P_1 := Lib.hid pp
    have R_1 := Lib.hid (((Blk.new w 25 z4)).kp kp (by omega))
    have K_1 := ((Kp.refl c.bp w).alloc _).trans kp
    have l_1 : w.heap.size + 1 ≤ w1.heap.size := by have := kp.size; simpa using this
    clear kp pp 
    go_wp2_with fail
    refine (accept_f c _ _ P_1.out [69, 78, 68] HA1.out).mono ?_
    rintro e w2 ⟨rfl, pp, kp⟩
    have P_2 := Lib.hid pp
    have R_2 := Lib.hid (R_1.out.kp kp (by omega))
    have K_2 := K_1.trans kp
    have l_2 : w1.heap.size + 0 ≤ w2.heap.size := by have := kp.size; simpa using this
    clear kp pp 
    go_wp2_with fail
    refine (accept_t c _ _ P_2.out [102, 117, 110, 99, 116, 105, 111, 110] HA2.out).mono ?_
    rintro e w3 ⟨rfl, pp, kp⟩
    have P_3 := Lib.hid pp
    have R_3 := Lib.hid (R_2.out.kp kp (by omega))
    have K_3 := K_2.trans kp
    have l_3 : w2.heap.size + 0 ≤ w3.heap.size := by have := kp.size; simpa using this
    clear kp pp 
    go_wp2_with fail
    have hnm := name_any c (w3.alloc (.cells #[.int .i64 5, .int .i64 6] 3)) _ (P_3.out.alloc _) w3.heap.size 2 [5, 6] (.of_blk [5, 6] (Blk.new w3 3 _)) (by simp) (by simp)
    rw [HX.out] at hnm
    simp only at hnm
    refine (hnm).mono ?_
    rintro e w4 ⟨rfl, pp, kp⟩
    have P_4 := Lib.hid pp
    have R_4 := Lib.hid ((R_3.out.alloc _).kp kp (by omega))
    have K_4 := (K_3.alloc _).trans kp
    have l_4 : w3.heap.size + 1 ≤ w4.heap.size := by have := kp.size; simpa using this
    clear kp pp hnm
    go_wp2_with fail
    refine (leaf_any _ [102, 117, 110, 99] x _ _ _).mono ?_
    rintro e w5 ⟨rfl, hb⟩
    have kk := Kp.of_below (b := c.bp) hb
    have P_5 := Lib.hid (P_4.out.below hb)
    have R_5 := Lib.hid (R_4.out.kp kk (by omega))
    have K_5 := K_4.trans kk
    have l_5 : w4.heap.size + 0 ≤ w5.heap.size := by have := kk.size; simpa using this
    clear kk hb 
    have hb := P_5.out.blk.lt
    go_wp2_with fail
    refine (expect_any c _ _ (P_5.out.alloc _) [40]).mono ?_
    rintro e w6 ⟨rfl, pp, kp⟩
    have P_6 := Lib.hid pp
    have R_6 := Lib.hid ((R_5.out.alloc _).kp kp (by omega))
    have N_6 := Lib.hid (((Blk.new w5 25 #[vs [102, 117, 110, 99], vs x.text, .int .i64 x.pos, .slice none 0 0])).kp kp (by omega))
    have K_6 := (K_5.alloc _).trans kp
    have l_6 : w5.heap.size + 1 ≤ w6.heap.size := by have := kp.size; simpa using this
    clear kp pp 
    go_wp2_with fail
    refine (lines_any c _ _ P_6.out).mono ?_
    rintro e w7 ⟨rfl, pp, kp⟩
    have P_7 := Lib.hid pp
    have R_7 := Lib.hid (R_6.out.kp kp (by omega))
    have N_7 := Lib.hid (N_6.out.kp kp (by omega))
    have K_7 := K_6.trans kp
    have l_7 : w6.heap.size + 0 ≤ w7.heap.size := by have := kp.size; simpa using this
    clear kp pp 
    go_wp2_with fail
    go_loopg [] k (fun g wr => ∃ (ks : List Pp.Node) (sy : Pp.PS) (a : Option Addr) (q : Nat), Blk wr w5.heap.size 25 #[vs [102, 117, 110, 99], vs x.text, .int .i64 x.pos, .slice a ks.length q] ∧ Blk wr w.heap.size 25 z4 ∧ OutAt wr (w5.heap.size + 1) (.slice a ks.length q) ks ∧ PAt c wr sy ∧ Kp c.bp w wr ∧ ks.length + g = k ∧
        Hid (Pp.paramsL c.T g ks sy = some (ps, s1)))
    case atStart => exact ⟨[], _, none, 0, N_7.out, R_7.out, .nil _ _, P_7.out, K_7, by simp, HPS.out⟩
    case round =>
      clear P_1 P_2 P_3 P_4 P_5 P_6 P_7 K_1 K_2 K_3 K_4 K_5 K_6 K_7 R_1 R_2 R_3 R_4 R_5 R_6 R_7 N_6 N_7 P_0 HPS HX HA0 HA1 HA2
      obtain ⟨ks, sy, a, q, n1, r1, o1, p1, K_1, hkk, hc⟩ := hrel
      have P_1 := Lib.hid p1
      have O_1 := Lib.hid o1
      have N_1 := Lib.hid n1
      have R_1 := Lib.hid r1
      have lw := K_1.size
      have ln := n1.lt
      have d4 := p1.c4
      have hc := hc.out
      clear p1 o1 n1 r1
      obtain ⟨j, rfl⟩ : ∃ j, gk = j + 1 := by cases gk with | zero => cases hc | succ j => exact ⟨j, rfl⟩
      have hkn : ks.length < 1000000 := by omega
      have hkk2 : ks.length + (j + 1) ≤ k ∧ k ≤ ks.length + (j + 1) := by omega
      clear hkk
      unfold Pp.paramsL at hc
      by_cases he : sy.err = 0
      · have he0 : (sy.err == 0) = true := by simpa using he
        cases hat : Pp.at_ c.T [[41]] sy with
        | true =>
          rw [if_neg (fun hx => by simp [hat] at hx)] at hc
          simp only [Option.some.injEq, Prod.mk.injEq] at hc
          obtain ⟨rfl, rfl⟩ := hc
          have HA := Lib.hid hat
          clear hat he
          go_wp2_with fail
          refine (at_new' c _ sy P_1.out 1 [[41]] _ 1 (by simp) rfl _ rfl (by omega) _ HA.out).mono ?_
          rintro e w11 ⟨rfl, hb⟩
          have kk := Kp.of_below (b := c.bp) hb
          have P_11 := Lib.hid (P_1.out.below hb)
          have N_11 := Lib.hid (N_1.out.kp kk (by omega))
          have R_11 := Lib.hid (R_1.out.kp kk (by omega))
          have O_11 := Lib.hid (O_1.out.kp kk (by first | omega | (simp; omega)))
          have K_11 := K_1.trans kk
          have l_11 : wr.heap.size + 0 ≤ w11.heap.size := by have := kk.size; simpa using this
          clear kk hb 
          go_wp2_with fail
          refine (expect_any c _ _ P_11.out [41]).mono ?_
          rintro e w12 ⟨rfl, pp, kp⟩
          have P_12 := Lib.hid pp
          have N_12 := Lib.hid (N_11.out.kp kp (by omega))
          have R_12 := Lib.hid (R_11.out.kp kp (by omega))
          have O_12 := Lib.hid (O_11.out.kp kp (by first | omega | (simp; omega)))
          have K_12 := K_11.trans kp
          have l_12 : w11.heap.size + 0 ≤ w12.heap.size := by have := kp.size; simpa using this
          clear kp pp 
          go_wp2_with fail
          refine (lines_any c _ _ P_12.out).mono ?_
          rintro e w13 ⟨rfl, pp, kp⟩
          have P_13 := Lib.hid pp
          have N_13 := Lib.hid (N_12.out.kp kp (by omega))
          have R_13 := Lib.hid (R_12.out.kp kp (by omega))
          have O_13 := Lib.hid (O_12.out.kp kp (by first | omega | (simp; omega)))
          have K_13 := K_12.trans kp
          have l_13 : w12.heap.size + 0 ≤ w13.heap.size := by have := kp.size; simpa using this
          clear kp pp 
          go_wp2_with fail
          have GN := Lib.hid N_13.out.drew
          have GO := Lib.hid O_13.out.drew
          obtain ⟨y0, y1, y2, y3⟩ := N_13.out.four
          go_region_law (first
            | (go_simp; go_at_call 41; refine (HB.out _ _ _ _ P_13.out.drew HM.out).mono ?_; rintro e w14 ⟨ma, ml, mq, rfl, tt, pp, kp⟩; have GN4 := Lib.hid (GN.out.kp kp (by omega)); have GO4 := Lib.hid (GO.out.kp kp (by omega)); have lk : w13.heap.size ≤ w14.heap.size := kp.size; have ln4 := GN4.out.lt; obtain ⟨z0, z1, z2, z3⟩ := GN4.out.four; have PP := Lib.hid pp; have TT := Lib.hid tt; clear pp tt)
            | (refine step_append_node _ rfl (.tmp 66) (.tmp 69) rfl rfl (w5.heap.size + 1) (.slice a ks.length q) ks m (.slice ma ml mq) w14.heap.size 1 rfl rfl (GO4.out.alloc _) (Blk.new w14 25 #[vs m.op, vs m.text, .int .i64 m.pos, .slice ma ml mq]).four ((KidsAt.mono (fun b (hb : w13.heap.size ≤ b) _ => ⟨by omega, fun e => by have := O_13.out.lt_ e; omega⟩) TT.out).alloc _) (by omega) (by simp; omega) ?_; rintro v' w15 ⟨hO, hG, hlo, _⟩; obtain ⟨a', q', rfl⟩ := hO.len; have GN5 := Lib.hid ((GN4.out.alloc _).grown hG (fun e => by have := hlo _ e.symm; omega)); obtain ⟨x0, x1, x2, x3⟩ := GN5.out.four; have xf := GN5.out.frozen 3; have GHO := Lib.hid hO; have GHG := Lib.hid hG; clear hO hG))
          all_goals
            have P_14 := Lib.hid PP
            have N_14 := Lib.hid (N_13.out.drew.kp kp (by omega))
            have R_14 := Lib.hid (R_13.out.drew.kp kp (by omega))
            have O_14 := Lib.hid (O_13.out.drew.kp kp (by first | omega | (simp; omega)))
            have K_14 := K_13.drew.trans kp
            have l_14 : w13.heap.size + 0 ≤ w14.heap.size := by have := kp.size; simpa using this
            have PA := Lib.hid (((P_14.out.alloc (.cells #[vs m.op, vs m.text, .int .i64 m.pos, .slice ma ml mq] 25)).grown GHG.out (fun k hk => by have := hlo k hk; omega)).far (p := ⟨w5.heap.size, 3, none⟩) (by simp; omega) (.slice a' (ks ++ [m]).length q'))
            have KA := ((K_14.alloc (.cells #[vs m.op, vs m.text, .int .i64 m.pos, .slice ma ml mq] 25)).grown GHG.out (fun k hk => by have := hlo k hk; omega)).setN (g := w5.heap.size) (by omega) 3 (.slice a' (ks ++ [m]).length q')
            have RA := Lib.hid (((R_14.out.alloc (.cells #[vs m.op, vs m.text, .int .i64 m.pos, .slice ma ml mq] 25)).grown GHG.out (fun e => by have := hlo _ e.symm; omega)).far (p := ⟨w5.heap.size, 3, none⟩) (by simp; omega) (.slice a' (ks ++ [m]).length q'))
            have NA := Lib.hid (GN5.out.set_ 3 (.slice a' (ks ++ [m]).length q'))
            simp at NA
            have OA := Lib.hid (GHO.out.kp ((Kp.refl w5.heap.size _).setB 3 (.slice a' (ks ++ [m]).length q')) (by omega))
            simp only [List.length_append, List.length_cons, List.length_nil, Nat.zero_add] at PA RA OA KA
            obtain ⟨u0, u1, u2, u3⟩ := NA.out.four
            obtain ⟨r0, r1, r2, r3⟩ := RA.out.four
            have rf0 := RA.out.frozen 0
            have rf1 := RA.out.frozen 1
            have rf2 := RA.out.frozen 2
            have rf3 := RA.out.frozen 3
            go_wp2_with fail
            exact bodyPost_ret (results_node Tryz.results29 rfl RA.out.put4) rfl ⟨a', _, q', by simp [Pp.leaf, Pp.Node.op, Pp.Node.text, Pp.Node.pos], (KidsAt.put4 (R := w.heap.size) OA.out.kids (by omega)).mono (fun b hb _ => by omega), PA.out.put4 (by omega), KA.put4 (Nat.le_refl _)⟩
        | false =>
          rw [if_pos ⟨he, hat⟩] at hc
          simp only at hc
          have HA := Lib.hid hat
          by_cases hks : ks = []
          · rw [if_pos hks] at hc
            have hl0 : ks.length ≤ 0 := by simp [hks]
            obtain ⟨sz, hz⟩ : ∃ r, sy = r := ⟨_, rfl⟩
            rw [hz] at hc
            obtain ⟨⟨y, sv⟩, hy⟩ : ∃ r, Pp.name c.T [5] sz = r := ⟨_, rfl⟩
            rw [hy] at hc
            simp only at hc
            have HZ : Hid (sy = sz) := Lib.hid hz
            have HY := Lib.hid hy
            have HD := Lib.hid hc
            clear hc hz hy hat he hks
            go_wp2_with fail
            refine (at_new' c _ sy P_1.out 1 [[41]] _ 1 (by simp) rfl _ rfl (by omega) _ HA.out).mono ?_
            rintro e w11 ⟨rfl, hb⟩
            have kk := Kp.of_below (b := c.bp) hb
            have P_11 := Lib.hid (P_1.out.below hb)
            have N_11 := Lib.hid (N_1.out.kp kk (by omega))
            have R_11 := Lib.hid (R_1.out.kp kk (by omega))
            have O_11 := Lib.hid (O_1.out.kp kk (by first | omega | (simp; omega)))
            have K_11 := K_1.trans kk
            have l_11 : wr.heap.size + 0 ≤ w11.heap.size := by have := kk.size; simpa using this
            clear kk hb 
            obtain ⟨q0, q1, q2, q3⟩ := N_11.out.four
            go_wp2_with fail
            have hnm : ∀ W b, PAt c W sz → IntsAt W b [5] → b < W.heap.size → Calls Tryz.prog 43 #[.pointer (some ⟨c.bp, 0, none⟩), .slice (some ⟨b, 0, none⟩) 1 1] W (fun e w' => e = .returned (tv y) ∧ PAt c w' sv ∧ Kp c.bp W w') := fun W b h1 h2 h3 => by
              have := name_any c W sz h1 b 1 [5] h2 (by simp) h3
              rw [HY.out] at this
              exact this
            have HNM := Lib.hid hnm
            clear hnm
            obtain ⟨y0, y1, y2, y3⟩ := N_11.out.four
            have lnN := N_11.out.lt
            have HPX : PAt c w11 sz := HZ.out ▸ P_11.out
            have HPZ := Lib.hid HPX
            clear HPX
            go_region_law (first
              | (go_simp; go_at_call 43; refine (HNM.out _ _ (HPZ.out.alloc _).drew (IntsAt.of_blk [5] (Blk.new w11 3 #[.int .i64 5]).drew) (Blk.new w11 3 #[.int .i64 5]).drew.lt).mono ?_; rintro e w12 ⟨rfl, pp, kp⟩; have GN4 := Lib.hid ((N_11.out.alloc _).drew.kp kp (by omega)); have GO4 := Lib.hid ((O_11.out.alloc _).drew.kp kp (by omega)); have lk := kp_size1 kp; have ln4 := GN4.out.lt; obtain ⟨z0, z1, z2, z3⟩ := GN4.out.four; have PP := Lib.hid pp; clear pp)
              | (go_simp; go_at_call 42; refine (leaf_any _ [112, 97, 114, 97, 109] y none 0 0).mono ?_; rintro e w13 ⟨rfl, hb⟩; have GN5 := Lib.hid (GN4.out.under hb); have GO5 := Lib.hid (GO4.out.kp (Kp.of_below (b := c.bp) hb) (by omega)); have ln5 := GN5.out.lt; have lk5 := hb.size; obtain ⟨v0, v1, v2, v3⟩ := GN5.out.four)
              | (refine step_append_node _ rfl (.tmp 51) (.tmp 56) rfl rfl (w5.heap.size + 1) (.slice a ks.length q) ks (Pp.leaf [112, 97, 114, 97, 109] y []) (.slice none 0 0) w13.heap.size 1 rfl rfl (GO5.out.alloc _) (Blk.new w13 25 #[vs [112, 97, 114, 97, 109], vs y.text, .int .i64 y.pos, .slice none 0 0]).four (.nil _ _) (by omega) (by simp; omega) ?_; rintro v' w14 ⟨hO, hG, hlo, _⟩; obtain ⟨a', q', rfl⟩ := hO.len; have GN6 := Lib.hid ((GN5.out.alloc _).grown hG (fun e => by have := hlo _ e.symm; omega)); obtain ⟨x0, x1, x2, x3⟩ := GN6.out.four; have xf := GN6.out.frozen 3; have GHO := Lib.hid hO; have GHG := Lib.hid hG; clear hO hG))
            all_goals
              have kk := Kp.of_below (b := c.bp) hb
              have PB := Lib.hid (PP.out.below hb)
              have KB := (((K_11.alloc _).drew).trans kp).trans kk
              have RB_ := Lib.hid (((R_11.out.alloc _).drew.kp kp (by omega)).kp kk (by omega))
              have PA := Lib.hid ((PB.out.alloc (.cells #[vs [112, 97, 114, 97, 109], vs y.text, .int .i64 y.pos, .slice none 0 0] 25)).grown GHG.out (fun k hk => by have := hlo k hk; omega))
              have KA := (KB.alloc (.cells #[vs [112, 97, 114, 97, 109], vs y.text, .int .i64 y.pos, .slice none 0 0] 25)).grown GHG.out (fun k hk => by have := hlo k hk; omega)
              have RA := Lib.hid ((RB_.out.alloc (.cells #[vs [112, 97, 114, 97, 109], vs y.text, .int .i64 y.pos, .slice none 0 0] 25)).grown GHG.out (fun e => by have := hlo _ e.symm; omega))
              have NA := Lib.hid (GN6.out.set_ 3 (.slice a' (ks ++ [Pp.leaf [112, 97, 114, 97, 109] y []]).length q'))
              simp at NA
              have PF := Lib.hid (PA.out.far (p := ⟨w5.heap.size, 3, none⟩) (by simp; omega) (.slice a' (ks ++ [Pp.leaf [112, 97, 114, 97, 109] y []]).length q'))
              have RF := Lib.hid (RA.out.far (p := ⟨w5.heap.size, 3, none⟩) (by simp; omega) (.slice a' (ks ++ [Pp.leaf [112, 97, 114, 97, 109] y []]).length q'))
              have KF := KA.setN (g := w5.heap.size) (by omega) 3 (.slice a' (ks ++ [Pp.leaf [112, 97, 114, 97, 109] y []]).length q')
              have OF := Lib.hid (GHO.out.kp ((Kp.refl w5.heap.size _).setB 3 (.slice a' (ks ++ [Pp.leaf [112, 97, 114, 97, 109] y []]).length q')) (by omega))
              simp only [List.length_append, List.length_cons, List.length_nil, Nat.zero_add] at PF RF OF KF
              clear PA KA RA PB KB RB_ kk kp hb
              go_wp2_with fail
              refine (lines_any c _ _ PF.out).mono ?_
              rintro e w30 ⟨rfl, pp, kp⟩
              have P_30 := Lib.hid pp
              have N_30 := Lib.hid (NA.out.kp kp (by omega))
              have R_30 := Lib.hid (RF.out.kp kp (by omega))
              have O_30 := Lib.hid (OF.out.kp kp (by omega))
              have K_30 := KF.trans kp
              clear kp pp
              go_wp2_with fail
              go_roundg j
              case measure => omega
              case rel => exact ⟨ks ++ [Pp.leaf [112, 97, 114, 97, 109] y []], _, a', q', by simpa using N_30.out, R_30.out, by simpa using O_30.out, P_30.out, K_30, by simp; omega, HD.out⟩
          · rw [if_neg hks] at hc
            have hl0 : 0 < ks.length := List.length_pos_iff.2 hks
            obtain ⟨sz, hz⟩ : ∃ r, Pp.lines c.T (Pp.expect c.T [44] sy) = r := ⟨_, rfl⟩
            rw [hz] at hc
            obtain ⟨⟨y, sv⟩, hy⟩ : ∃ r, Pp.name c.T [5] sz = r := ⟨_, rfl⟩
            rw [hy] at hc
            simp only at hc
            have HZ : Hid (Pp.lines c.T (Pp.expect c.T [44] sy) = sz) := Lib.hid hz
            have HY := Lib.hid hy
            have HD := Lib.hid hc
            clear hc hz hy hat he hks
            go_wp2_with fail
            refine (at_new' c _ sy P_1.out 1 [[41]] _ 1 (by simp) rfl _ rfl (by omega) _ HA.out).mono ?_
            rintro e w11 ⟨rfl, hb⟩
            have kk := Kp.of_below (b := c.bp) hb
            have P_11 := Lib.hid (P_1.out.below hb)
            have N_11 := Lib.hid (N_1.out.kp kk (by omega))
            have R_11 := Lib.hid (R_1.out.kp kk (by omega))
            have O_11 := Lib.hid (O_1.out.kp kk (by first | omega | (simp; omega)))
            have K_11 := K_1.trans kk
            have l_11 : wr.heap.size + 0 ≤ w11.heap.size := by have := kk.size; simpa using this
            clear kk hb 
            obtain ⟨q0, q1, q2, q3⟩ := N_11.out.four
            go_wp2_with fail
            refine (expect_any c _ _ P_11.out [44]).mono ?_
            rintro e w12 ⟨rfl, pp, kp⟩
            have P_12 := Lib.hid pp
            have N_12 := Lib.hid (N_11.out.kp kp (by omega))
            have R_12 := Lib.hid (R_11.out.kp kp (by omega))
            have O_12 := Lib.hid (O_11.out.kp kp (by first | omega | (simp; omega)))
            have K_12 := K_11.trans kp
            have l_12 : w11.heap.size + 0 ≤ w12.heap.size := by have := kp.size; simpa using this
            clear kp pp 
            go_wp2_with fail
            refine (lines_any c _ _ P_12.out).mono ?_
            rintro e w13 ⟨rfl, pp, kp⟩
            have P_13 := Lib.hid pp
            have N_13 := Lib.hid (N_12.out.kp kp (by omega))
            have R_13 := Lib.hid (R_12.out.kp kp (by omega))
            have O_13 := Lib.hid (O_12.out.kp kp (by first | omega | (simp; omega)))
            have K_13 := K_12.trans kp
            have l_13 : w12.heap.size + 0 ≤ w13.heap.size := by have := kp.size; simpa using this
            clear kp pp 
            go_wp2_with fail
            have hnm : ∀ W b, PAt c W sz → IntsAt W b [5] → b < W.heap.size → Calls Tryz.prog 43 #[.pointer (some ⟨c.bp, 0, none⟩), .slice (some ⟨b, 0, none⟩) 1 1] W (fun e w' => e = .returned (tv y) ∧ PAt c w' sv ∧ Kp c.bp W w') := fun W b h1 h2 h3 => by
              have := name_any c W sz h1 b 1 [5] h2 (by simp) h3
              rw [HY.out] at this
              exact this
            have HNM := Lib.hid hnm
            clear hnm
            obtain ⟨y0, y1, y2, y3⟩ := N_13.out.four
            have lnN := N_13.out.lt
            have HPX : PAt c w13 sz := HZ.out ▸ P_13.out
            have HPZ := Lib.hid HPX
            clear HPX
            go_region_law (first
              | (go_simp; go_at_call 43; refine (HNM.out _ _ (HPZ.out.alloc _).drew (IntsAt.of_blk [5] (Blk.new w13 3 #[.int .i64 5]).drew) (Blk.new w13 3 #[.int .i64 5]).drew.lt).mono ?_; rintro e w14 ⟨rfl, pp, kp⟩; have GN4 := Lib.hid ((N_13.out.alloc _).drew.kp kp (by omega)); have GO4 := Lib.hid ((O_13.out.alloc _).drew.kp kp (by omega)); have lk := kp_size1 kp; have ln4 := GN4.out.lt; obtain ⟨z0, z1, z2, z3⟩ := GN4.out.four; have PP := Lib.hid pp; clear pp)
              | (go_simp; go_at_call 42; refine (leaf_any _ [112, 97, 114, 97, 109] y none 0 0).mono ?_; rintro e w15 ⟨rfl, hb⟩; have GN5 := Lib.hid (GN4.out.under hb); have GO5 := Lib.hid (GO4.out.kp (Kp.of_below (b := c.bp) hb) (by omega)); have ln5 := GN5.out.lt; have lk5 := hb.size; obtain ⟨v0, v1, v2, v3⟩ := GN5.out.four)
              | (refine step_append_node _ rfl (.tmp 51) (.tmp 56) rfl rfl (w5.heap.size + 1) (.slice a ks.length q) ks (Pp.leaf [112, 97, 114, 97, 109] y []) (.slice none 0 0) w15.heap.size 1 rfl rfl (GO5.out.alloc _) (Blk.new w15 25 #[vs [112, 97, 114, 97, 109], vs y.text, .int .i64 y.pos, .slice none 0 0]).four (.nil _ _) (by omega) (by simp; omega) ?_; rintro v' w16 ⟨hO, hG, hlo, _⟩; obtain ⟨a', q', rfl⟩ := hO.len; have GN6 := Lib.hid ((GN5.out.alloc _).grown hG (fun e => by have := hlo _ e.symm; omega)); obtain ⟨x0, x1, x2, x3⟩ := GN6.out.four; have xf := GN6.out.frozen 3; have GHO := Lib.hid hO; have GHG := Lib.hid hG; clear hO hG))
            all_goals
              have kk := Kp.of_below (b := c.bp) hb
              have PB := Lib.hid (PP.out.below hb)
              have KB := (((K_13.alloc _).drew).trans kp).trans kk
              have RB_ := Lib.hid (((R_13.out.alloc _).drew.kp kp (by omega)).kp kk (by omega))
              have PA := Lib.hid ((PB.out.alloc (.cells #[vs [112, 97, 114, 97, 109], vs y.text, .int .i64 y.pos, .slice none 0 0] 25)).grown GHG.out (fun k hk => by have := hlo k hk; omega))
              have KA := (KB.alloc (.cells #[vs [112, 97, 114, 97, 109], vs y.text, .int .i64 y.pos, .slice none 0 0] 25)).grown GHG.out (fun k hk => by have := hlo k hk; omega)
              have RA := Lib.hid ((RB_.out.alloc (.cells #[vs [112, 97, 114, 97, 109], vs y.text, .int .i64 y.pos, .slice none 0 0] 25)).grown GHG.out (fun e => by have := hlo _ e.symm; omega))
              have NA := Lib.hid (GN6.out.set_ 3 (.slice a' (ks ++ [Pp.leaf [112, 97, 114, 97, 109] y []]).length q'))
              simp at NA
              have PF := Lib.hid (PA.out.far (p := ⟨w5.heap.size, 3, none⟩) (by simp; omega) (.slice a' (ks ++ [Pp.leaf [112, 97, 114, 97, 109] y []]).length q'))
              have RF := Lib.hid (RA.out.far (p := ⟨w5.heap.size, 3, none⟩) (by simp; omega) (.slice a' (ks ++ [Pp.leaf [112, 97, 114, 97, 109] y []]).length q'))
              have KF := KA.setN (g := w5.heap.size) (by omega) 3 (.slice a' (ks ++ [Pp.leaf [112, 97, 114, 97, 109] y []]).length q')
              have OF := Lib.hid (GHO.out.kp ((Kp.refl w5.heap.size _).setB 3 (.slice a' (ks ++ [Pp.leaf [112, 97, 114, 97, 109] y []]).length q')) (by omega))
              simp only [List.length_append, List.length_cons, List.length_nil, Nat.zero_add] at PF RF OF KF
              clear PA KA RA PB KB RB_ kk kp hb
              go_wp2_with fail
              refine (lines_any c _ _ PF.out).mono ?_
              rintro e w30 ⟨rfl, pp, kp⟩
              have P_30 := Lib.hid pp
              have N_30 := Lib.hid (NA.out.kp kp (by omega))
              have R_30 := Lib.hid (RF.out.kp kp (by omega))
              have O_30 := Lib.hid (OF.out.kp kp (by omega))
              have K_30 := KF.trans kp
              clear kp pp
              go_wp2_with fail
              go_roundg j
              case measure => omega
              case rel => exact ⟨ks ++ [Pp.leaf [112, 97, 114, 97, 109] y []], _, a', q', by simpa using N_30.out, R_30.out, by simpa using O_30.out, P_30.out, K_30, by simp; omega, HD.out⟩
      · have he0 : (sy.err == 0) = false := by simpa using he
        rw [if_neg (fun hx => he hx.1)] at hc
        simp only [Option.some.injEq, Prod.mk.injEq] at hc
        obtain ⟨rfl, rfl⟩ := hc
        clear he
        go_wp2_with fail
        refine (expect_any c _ _ P_1.out [41]).mono ?_
        rintro e w11 ⟨rfl, pp, kp⟩
        have P_11 := Lib.hid pp
        have N_11 := Lib.hid (N_1.out.kp kp (by omega))
        have R_11 := Lib.hid (R_1.out.kp kp (by omega))
        have O_11 := Lib.hid (O_1.out.kp kp (by first | omega | (simp; omega)))
        have K_11 := K_1.trans kp
        have l_11 : wr.heap.size + 0 ≤ w11.heap.size := by have := kp.size; simpa using this
        clear kp pp 
        go_wp2_with fail
        refine (lines_any c _ _ P_11.out).mono ?_
        rintro e w12 ⟨rfl, pp, kp⟩
        have P_12 := Lib.hid pp
        have N_12 := Lib.hid (N_11.out.kp kp (by omega))
        have R_12 := Lib.hid (R_11.out.kp kp (by omega))
        have O_12 := Lib.hid (O_11.out.kp kp (by first | omega | (simp; omega)))
        have K_12 := K_11.trans kp
        have l_12 : w11.heap.size + 0 ≤ w12.heap.size := by have := kp.size; simpa using this
        clear kp pp 
        go_wp2_with fail
        have GN := Lib.hid N_12.out.drew
        have GO := Lib.hid O_12.out.drew
        obtain ⟨y0, y1, y2, y3⟩ := N_12.out.four
        go_region_law (first
          | (go_simp; go_at_call 41; refine (HB.out _ _ _ _ P_12.out.drew HM.out).mono ?_; rintro e w13 ⟨ma, ml, mq, rfl, tt, pp, kp⟩; have GN4 := Lib.hid (GN.out.kp kp (by omega)); have GO4 := Lib.hid (GO.out.kp kp (by omega)); have lk : w12.heap.size ≤ w13.heap.size := kp.size; have ln4 := GN4.out.lt; obtain ⟨z0, z1, z2, z3⟩ := GN4.out.four; have PP := Lib.hid pp; have TT := Lib.hid tt; clear pp tt)
          | (refine step_append_node _ rfl (.tmp 66) (.tmp 69) rfl rfl (w5.heap.size + 1) (.slice a ks.length q) ks m (.slice ma ml mq) w13.heap.size 1 rfl rfl (GO4.out.alloc _) (Blk.new w13 25 #[vs m.op, vs m.text, .int .i64 m.pos, .slice ma ml mq]).four ((KidsAt.mono (fun b (hb : w12.heap.size ≤ b) _ => ⟨by omega, fun e => by have := O_12.out.lt_ e; omega⟩) TT.out).alloc _) (by omega) (by simp; omega) ?_; rintro v' w14 ⟨hO, hG, hlo, _⟩; obtain ⟨a', q', rfl⟩ := hO.len; have GN5 := Lib.hid ((GN4.out.alloc _).grown hG (fun e => by have := hlo _ e.symm; omega)); obtain ⟨x0, x1, x2, x3⟩ := GN5.out.four; have xf := GN5.out.frozen 3; have GHO := Lib.hid hO; have GHG := Lib.hid hG; clear hO hG))
        all_goals
          have P_13 := Lib.hid PP
          have N_13 := Lib.hid (N_12.out.drew.kp kp (by omega))
          have R_13 := Lib.hid (R_12.out.drew.kp kp (by omega))
          have O_13 := Lib.hid (O_12.out.drew.kp kp (by first | omega | (simp; omega)))
          have K_13 := K_12.drew.trans kp
          have l_13 : w12.heap.size + 0 ≤ w13.heap.size := by have := kp.size; simpa using this
          have PA := Lib.hid (((P_13.out.alloc (.cells #[vs m.op, vs m.text, .int .i64 m.pos, .slice ma ml mq] 25)).grown GHG.out (fun k hk => by have := hlo k hk; omega)).far (p := ⟨w5.heap.size, 3, none⟩) (by simp; omega) (.slice a' (ks ++ [m]).length q'))
          have KA := ((K_13.alloc (.cells #[vs m.op, vs m.text, .int .i64 m.pos, .slice ma ml mq] 25)).grown GHG.out (fun k hk => by have := hlo k hk; omega)).setN (g := w5.heap.size) (by omega) 3 (.slice a' (ks ++ [m]).length q')
          have RA := Lib.hid (((R_13.out.alloc (.cells #[vs m.op, vs m.text, .int .i64 m.pos, .slice ma ml mq] 25)).grown GHG.out (fun e => by have := hlo _ e.symm; omega)).far (p := ⟨w5.heap.size, 3, none⟩) (by simp; omega) (.slice a' (ks ++ [m]).length q'))
          have NA := Lib.hid (GN5.out.set_ 3 (.slice a' (ks ++ [m]).length q'))
          simp at NA
          have OA := Lib.hid (GHO.out.kp ((Kp.refl w5.heap.size _).setB 3 (.slice a' (ks ++ [m]).length q')) (by omega))
          simp only [List.length_append, List.length_cons, List.length_nil, Nat.zero_add] at PA RA OA KA
          obtain ⟨u0, u1, u2, u3⟩ := NA.out.four
          obtain ⟨r0, r1, r2, r3⟩ := RA.out.four
          have rf0 := RA.out.frozen 0
          have rf1 := RA.out.frozen 1
          have rf2 := RA.out.frozen 2
          have rf3 := RA.out.frozen 3
          go_wp2_with fail
          exact bodyPost_ret (results_node Tryz.results29 rfl RA.out.put4) rfl ⟨a', _, q', by simp [Pp.leaf, Pp.Node.op, Pp.Node.text, Pp.Node.pos], (KidsAt.put4 (R := w.heap.size) OA.out.kids (by omega)).mono (fun b hb _ => by omega), PA.out.put4 (by omega), KA.put4 (Nat.le_refl _)⟩
  | false =>
  rw [if_neg (by simp [hat])] at hh
  have HA2 := Lib.hid hat
  clear hat
  cases hbr : Pp.at_ c.T [[123]] s with
  | true =>
    rw [if_pos hbr] at hh
    have HA3 := Lib.hid hbr
    clear hbr
    cases hEm : Pp.block c.T S k s with
    | none => rw [hEm] at hh; cases hh
    | some r =>
    obtain ⟨m, s2⟩ := r
    rw [hEm] at hh
    simp only at hh
    simp only [Option.some.injEq, Prod.mk.injEq] at hh
    obtain ⟨rfl, rfl⟩ := hh
    have HM := Lib.hid hEm
    clear hEm
    go_enter Tryz.func29, Tryz.ntmps29
    go_wp2_with fail
    refine (accept_f c _ _ (P_0.out.alloc _) [66, 69, 71, 73, 78] HA0.out).mono ?_
    rintro e w1 ⟨rfl, pp, kp⟩
    have P_1 := Lib.hid pp
    have R_1 := Lib.hid (((Blk.new w 25 z4)).kp kp (by omega))
    have K_1 := ((Kp.refl c.bp w).alloc _).trans kp
    have l_1 : w.heap.size + 1 ≤ w1.heap.size := by have := kp.size; simpa using this
    clear kp pp 
    go_wp2_with fail
    refine (accept_f c _ _ P_1.out [69, 78, 68] HA1.out).mono ?_
    rintro e w2 ⟨rfl, pp, kp⟩
    have P_2 := Lib.hid pp
    have R_2 := Lib.hid (R_1.out.kp kp (by omega))
    have K_2 := K_1.trans kp
    have l_2 : w1.heap.size + 0 ≤ w2.heap.size := by have := kp.size; simpa using this
    clear kp pp 
    go_wp2_with fail
    refine (accept_f c _ _ P_2.out [102, 117, 110, 99, 116, 105, 111, 110] HA2.out).mono ?_
    rintro e w3 ⟨rfl, pp, kp⟩
    have P_3 := Lib.hid pp
    have R_3 := Lib.hid (R_2.out.kp kp (by omega))
    have K_3 := K_2.trans kp
    have l_3 : w2.heap.size + 0 ≤ w3.heap.size := by have := kp.size; simpa using this
    clear kp pp 
    go_wp2_with fail
    refine (at_new' c _ s P_3.out 1 [[123]] _ 1 (by simp) rfl _ rfl (by omega) _ HA3.out).mono ?_
    rintro e w4 ⟨rfl, hb⟩
    have kk := Kp.of_below (b := c.bp) hb
    have P_4 := Lib.hid (P_3.out.below hb)
    have R_4 := Lib.hid (R_3.out.kp kk (by omega))
    have K_4 := K_3.trans kk
    have l_4 : w3.heap.size + 0 ≤ w4.heap.size := by have := kk.size; simpa using this
    clear kk hb 
    go_wp2_with fail
    refine (node_any _ [97, 108, 119, 97, 121, 115] _ _ _).mono ?_
    rintro e w5 ⟨rfl, hb⟩
    have kk := Kp.of_below (b := c.bp) hb
    have P_5 := Lib.hid (P_4.out.below hb)
    have R_5 := Lib.hid (R_4.out.kp kk (by omega))
    have K_5 := K_4.trans kk
    have l_5 : w4.heap.size + 0 ≤ w5.heap.size := by have := kk.size; simpa using this
    clear kk hb 
    go_wp2_with fail
    refine (HB.out _ _ _ _ P_5.out HM.out).mono ?_
    rintro e w6 ⟨ma, ml, mq, rfl, tt, pp, kp⟩
    have P_6 := Lib.hid pp
    have R_6 := Lib.hid (R_5.out.kp kp (by omega))
    have K_6 := K_5.trans kp
    have l_6 : w5.heap.size + 0 ≤ w6.heap.size := by have := kp.size; simpa using this
    clear kp pp 
    have Tm_6 := Lib.hid tt
    clear tt
    go_wp2_with fail
    refine (node_any _ _ _ _ _).mono ?_
    rintro e w7 ⟨rfl, hb⟩
    have kk := Kp.of_below (b := c.bp) hb
    have P_7 := Lib.hid ((P_6.out.alloc _).below hb)
    have R_7 := Lib.hid ((R_6.out.alloc _).kp kk (by omega))
    have A_7 := Lib.hid (((Blk.new w6 25 #[vs [97, 108, 119, 97, 121, 115], vs [], .int .i64 0, .slice none 0 0, vs m.op, vs m.text, .int .i64 m.pos, .slice ma ml mq])).kp kk (by omega))
    have Tm_7 := Lib.hid ((Tm_6.out.alloc _).kp kk (by first | omega | (simp; omega)))
    have K_7 := (K_6.alloc _).trans kk
    have l_7 : w6.heap.size + 1 ≤ w7.heap.size := by have := kk.size; simpa using this
    clear kk hb 
    obtain ⟨r0, r1, r2, r3⟩ := R_7.out.four
    have rf0 := R_7.out.frozen 0
    have rf1 := R_7.out.frozen 1
    have rf2 := R_7.out.frozen 2
    have rf3 := R_7.out.frozen 3
    go_wp2_with fail
    exact bodyPost_ret (results_node Tryz.results29 rfl R_7.out.put4) rfl ⟨_, 2, 2, rfl, ((KidsAt.two (n1 := .mk [97, 108, 119, 97, 121, 115] [] 0 []) (n2 := m) (S := fun b => w.heap.size < b) A_7.out (by omega) (.nil _ _) (Tm_7.out.mono (fun b hb _ => by first | omega | (simp at hb; omega)))).put4 (by simp)).mono (fun b hb _ => by omega), P_7.out.put4 (by omega), K_7.put4 (Nat.le_refl _)⟩
  | false =>
  rw [if_neg (by simp [hbr])] at hh
  have HA3 := Lib.hid hbr
  clear hbr
  cases hE1 : E s with
  | none => rw [hE1] at hh; cases hh
  | some r =>
  obtain ⟨m1, s1⟩ := r
  rw [hE1] at hh
  simp only at hh
  have HM1 := Lib.hid hE1
  clear hE1
  cases hbr : Pp.at_ c.T [[123]] s1 with
  | true =>
    rw [if_pos hbr] at hh
    have HA4 := Lib.hid hbr
    clear hbr
    cases hEm : Pp.block c.T S k s1 with
    | none => rw [hEm] at hh; cases hh
    | some r =>
    obtain ⟨m, s2⟩ := r
    rw [hEm] at hh
    simp only at hh
    simp only [Option.some.injEq, Prod.mk.injEq] at hh
    obtain ⟨rfl, rfl⟩ := hh
    have HM := Lib.hid hEm
    clear hEm
    go_enter Tryz.func29, Tryz.ntmps29
    go_wp2_with fail
    refine (accept_f c _ _ (P_0.out.alloc _) [66, 69, 71, 73, 78] HA0.out).mono ?_
    rintro e w1 ⟨rfl, pp, kp⟩
    have P_1 := Lib.hid pp
    have R_1 := Lib.hid (((Blk.new w 25 z4)).kp kp (by omega))
    have K_1 := ((Kp.refl c.bp w).alloc _).trans kp
    have l_1 : w.heap.size + 1 ≤ w1.heap.size := by have := kp.size; simpa using this
    clear kp pp 
    go_wp2_with fail
    refine (accept_f c _ _ P_1.out [69, 78, 68] HA1.out).mono ?_
    rintro e w2 ⟨rfl, pp, kp⟩
    have P_2 := Lib.hid pp
    have R_2 := Lib.hid (R_1.out.kp kp (by omega))
    have K_2 := K_1.trans kp
    have l_2 : w1.heap.size + 0 ≤ w2.heap.size := by have := kp.size; simpa using this
    clear kp pp 
    go_wp2_with fail
    refine (accept_f c _ _ P_2.out [102, 117, 110, 99, 116, 105, 111, 110] HA2.out).mono ?_
    rintro e w3 ⟨rfl, pp, kp⟩
    have P_3 := Lib.hid pp
    have R_3 := Lib.hid (R_2.out.kp kp (by omega))
    have K_3 := K_2.trans kp
    have l_3 : w2.heap.size + 0 ≤ w3.heap.size := by have := kp.size; simpa using this
    clear kp pp 
    go_wp2_with fail
    refine (at_new' c _ s P_3.out 1 [[123]] _ 1 (by simp) rfl _ rfl (by omega) _ HA3.out).mono ?_
    rintro e w4 ⟨rfl, hb⟩
    have kk := Kp.of_below (b := c.bp) hb
    have P_4 := Lib.hid (P_3.out.below hb)
    have R_4 := Lib.hid (R_3.out.kp kk (by omega))
    have K_4 := K_3.trans kk
    have l_4 : w3.heap.size + 0 ≤ w4.heap.size := by have := kk.size; simpa using this
    clear kk hb 
    go_wp2_with fail
    refine (HE.out _ _ _ _ P_4.out HM1.out).mono ?_
    rintro e w5 ⟨ka, kl, kq, rfl, tt, pp, kp⟩
    have P_5 := Lib.hid pp
    have R_5 := Lib.hid (R_4.out.kp kp (by omega))
    have K_5 := K_4.trans kp
    have l_5 : w4.heap.size + 0 ≤ w5.heap.size := by have := kp.size; simpa using this
    clear kp pp 
    have Tk_5 := Lib.hid tt
    clear tt
    have Ux_5 := Lib.hid (Tk_5.out.mono (S' := fun b => w.heap.size + 1 ≤ b ∧ b < w5.heap.size) (fun b hb hl => ⟨by omega, hl⟩))
    go_wp2_with fail
    refine (node_any _ [114, 117, 108, 101] _ _ _).mono ?_
    rintro e w6 ⟨rfl, hb⟩
    have kk := Kp.of_below (b := c.bp) hb
    have P_6 := Lib.hid ((P_5.out.alloc _).below hb)
    have R_6 := Lib.hid ((R_5.out.alloc _).kp kk (by omega))
    have A_6 := Lib.hid (((Blk.new w5 25 #[vs m1.op, vs m1.text, .int .i64 m1.pos, .slice ka kl kq])).kp kk (by omega))
    have Ux_6 := Lib.hid ((Ux_5.out.alloc _).kp kk (by first | omega | (simp; omega)))
    have K_6 := (K_5.alloc _).trans kk
    have l_6 : w5.heap.size + 1 ≤ w6.heap.size := by have := kk.size; simpa using this
    clear kk hb 
    have lp := P_6.out.blk.lt
    go_wp2_with fail
    refine (at_new' c _ s1 (P_6.out.alloc _) 1 [[123]] _ 1 (by simp) rfl _ rfl (by omega) _ HA4.out).mono ?_
    rintro e w7 ⟨rfl, hb⟩
    have kk := Kp.of_below (b := c.bp) hb
    have P_7 := Lib.hid ((P_6.out.alloc _).below hb)
    have R_7 := Lib.hid ((R_6.out.alloc _).kp kk (by omega))
    have A_7 := Lib.hid ((A_6.out.alloc _).kp kk (by omega))
    have N_7 := Lib.hid (((Blk.new w6 25 #[vs [114, 117, 108, 101], vs [], .int .i64 0, .slice (some ⟨w5.heap.size, 0, none⟩) 1 1])).kp kk (by omega))
    have Ux_7 := Lib.hid ((Ux_6.out.alloc _).kp kk (by first | omega | (simp; omega)))
    have K_7 := (K_6.alloc _).trans kk
    have l_7 : w6.heap.size + 1 ≤ w7.heap.size := by have := kk.size; simpa using this
    clear kk hb 
    have O_7 : Hid (OutX w7 (w.heap.size + 1) w6.heap.size (.slice (some ⟨w5.heap.size, 0, none⟩) 1 1) [m1]) := OutX.of_blk [(m1, .slice ka kl kq)] 1 rfl (by simp) (by omega) (by omega) _ rfl A_7.out (by
        intro n k hm
        simp only [List.mem_cons, List.not_mem_nil, or_false, Prod.mk.injEq] at hm
        obtain ⟨rfl, rfl⟩ := hm
        exact Ux_7.out.mono (fun b hb _ => ⟨by omega, by omega, by omega⟩))
    go_wp2_with fail
    have GN := Lib.hid N_7.out.drew
    have GO := Lib.hid O_7.out.drew
    obtain ⟨y0, y1, y2, y3⟩ := N_7.out.four
    go_region_law (first
      | (go_simp; go_at_call 41; refine (HB.out _ _ _ _ P_7.out.drew HM.out).mono ?_; rintro e w8 ⟨ma, ml, mq, rfl, tt, pp, kp⟩; have GN4 := Lib.hid (GN.out.kp kp (by omega)); have GO4 := Lib.hid (GO.out.kp kp (by omega)); have lk : w7.heap.size ≤ w8.heap.size := kp.size; have ln4 := GN4.out.lt; obtain ⟨z0, z1, z2, z3⟩ := GN4.out.four; have PP := Lib.hid pp; have TT := Lib.hid tt; clear pp tt)
      | (refine step_append_x _ rfl (.tmp 90) (.tmp 93) rfl rfl (w.heap.size + 1) w6.heap.size (.slice (some ⟨w5.heap.size, 0, none⟩) 1 1) [m1] [(m, .slice ma ml mq)] _ rfl rfl (GO4.out.alloc _) (by simp) (by simp; omega) (.inr ⟨w8.heap.size, 1, rfl, row1 (Blk.new w8 25 #[vs m.op, vs m.text, .int .i64 m.pos, .slice ma ml mq])⟩) ?hka (by simp) (by simp; omega) ?_; (case hka => intro n k hm; simp only [List.mem_cons, List.not_mem_nil, or_false, Prod.mk.injEq] at hm; obtain ⟨rfl, rfl⟩ := hm; exact (KidsAt.mono (fun b (hb : w7.heap.size ≤ b) _ => ⟨by omega, by (intro e; have e : w5.heap.size = b := Option.some.inj e; omega), by omega⟩) TT.out).alloc _); rintro v' w9 ⟨hO, hG, hlo⟩; obtain ⟨a', q', rfl⟩ := hO.len; have GN5 := Lib.hid ((GN4.out.alloc _).grown hG (fun e => (hlo _ e.symm).2 rfl)); obtain ⟨x0, x1, x2, x3⟩ := GN5.out.four; have xf := GN5.out.frozen 3; have GHO := Lib.hid hO; have GHG := Lib.hid hG; clear hO hG))
    all_goals
      have P_8 := Lib.hid PP
      have R_8 := Lib.hid (R_7.out.drew.kp kp (by omega))
      have N_8 := Lib.hid (N_7.out.drew.kp kp (by omega))
      have O_8 := Lib.hid (O_7.out.drew.kp kp (by first | omega | (simp; omega)))
      have K_8 := K_7.drew.trans kp
      have l_8 : w7.heap.size + 0 ≤ w8.heap.size := by have := kp.size; simpa using this
      have PA := Lib.hid (((P_8.out.alloc (.cells #[vs m.op, vs m.text, .int .i64 m.pos, .slice ma ml mq] 25)).grown GHG.out (fun k hk => by have := hlo k hk; omega)).far (p := ⟨w6.heap.size, 3, none⟩) (by simp; omega) (.slice a' 2 q'))
      have KA := ((K_8.alloc (.cells #[vs m.op, vs m.text, .int .i64 m.pos, .slice ma ml mq] 25)).grown GHG.out (fun k hk => by have := hlo k hk; omega)).setN (g := w6.heap.size) (by omega) 3 (.slice a' 2 q')
      have RA := Lib.hid (((R_8.out.alloc (.cells #[vs m.op, vs m.text, .int .i64 m.pos, .slice ma ml mq] 25)).grown GHG.out (fun e => by have := hlo _ e.symm; omega)).far (p := ⟨w6.heap.size, 3, none⟩) (by simp; omega) (.slice a' 2 q'))
      have NA := Lib.hid (GN5.out.set_ 3 (.slice a' 2 q'))
      simp at NA
      have OA := Lib.hid ((GHO.out.kids.mono (fun b hb _ => by omega) : KidsAt _ (fun b => w.heap.size + 1 ≤ b ∧ b ≠ w6.heap.size) (.slice a' 2 q') [m1, m]).kp ((Kp.refl w6.heap.size _).setB 3 (.slice a' 2 q')) (by simp))
      obtain ⟨u0, u1, u2, u3⟩ := NA.out.four
      obtain ⟨r0, r1, r2, r3⟩ := RA.out.four
      have rf0 := RA.out.frozen 0
      have rf1 := RA.out.frozen 1
      have rf2 := RA.out.frozen 2
      have rf3 := RA.out.frozen 3
      go_wp2_with fail
      exact bodyPost_ret (results_node Tryz.results29 rfl RA.out.put4) rfl ⟨a', 2, q', rfl, (OA.out.put4 (fun hx => by have := hx.1; omega)).mono (fun b hb _ => by omega), PA.out.put4 (by omega), KA.put4 (Nat.le_refl _)⟩
  | false =>
    rw [if_neg (by simp [hbr])] at hh
    simp only [Option.some.injEq, Prod.mk.injEq] at hh
    obtain ⟨rfl, hs'⟩ := hh
    have HA4 := Lib.hid hbr
    have hcur := fun W hW => cur_any c W s1 hW
    clear hbr
    generalize Pp.cur c.T s1 = tk at *
    have Hcur := Lib.hid hcur
    clear hcur
    by_cases h1 : tk.kind = 1
    · have k1 : (tk.kind != 1) = false := by simp [h1]
      rw [if_pos (.inl h1)] at hs'
      subst hs'
      clear h1
      go_enter Tryz.func29, Tryz.ntmps29
      go_wp2_with fail
      refine (accept_f c _ _ (P_0.out.alloc _) [66, 69, 71, 73, 78] HA0.out).mono ?_
      rintro e w1 ⟨rfl, pp, kp⟩
      have P_1 := Lib.hid pp
      have R_1 := Lib.hid (((Blk.new w 25 z4)).kp kp (by omega))
      have K_1 := ((Kp.refl c.bp w).alloc _).trans kp
      have l_1 : w.heap.size + 1 ≤ w1.heap.size := by have := kp.size; simpa using this
      clear kp pp 
      go_wp2_with fail
      refine (accept_f c _ _ P_1.out [69, 78, 68] HA1.out).mono ?_
      rintro e w2 ⟨rfl, pp, kp⟩
      have P_2 := Lib.hid pp
      have R_2 := Lib.hid (R_1.out.kp kp (by omega))
      have K_2 := K_1.trans kp
      have l_2 : w1.heap.size + 0 ≤ w2.heap.size := by have := kp.size; simpa using this
      clear kp pp 
      go_wp2_with fail
      refine (accept_f c _ _ P_2.out [102, 117, 110, 99, 116, 105, 111, 110] HA2.out).mono ?_
      rintro e w3 ⟨rfl, pp, kp⟩
      have P_3 := Lib.hid pp
      have R_3 := Lib.hid (R_2.out.kp kp (by omega))
      have K_3 := K_2.trans kp
      have l_3 : w2.heap.size + 0 ≤ w3.heap.size := by have := kp.size; simpa using this
      clear kp pp 
      go_wp2_with fail
      refine (at_new' c _ s P_3.out 1 [[123]] _ 1 (by simp) rfl _ rfl (by omega) _ HA3.out).mono ?_
      rintro e w4 ⟨rfl, hb⟩
      have kk := Kp.of_below (b := c.bp) hb
      have P_4 := Lib.hid (P_3.out.below hb)
      have R_4 := Lib.hid (R_3.out.kp kk (by omega))
      have K_4 := K_3.trans kk
      have l_4 : w3.heap.size + 0 ≤ w4.heap.size := by have := kk.size; simpa using this
      clear kk hb 
      go_wp2_with fail
      refine (HE.out _ _ _ _ P_4.out HM1.out).mono ?_
      rintro e w5 ⟨ka, kl, kq, rfl, tt, pp, kp⟩
      have P_5 := Lib.hid pp
      have R_5 := Lib.hid (R_4.out.kp kp (by omega))
      have K_5 := K_4.trans kp
      have l_5 : w4.heap.size + 0 ≤ w5.heap.size := by have := kp.size; simpa using this
      clear kp pp 
      have Tk_5 := Lib.hid tt
      clear tt
      have Ux_5 := Lib.hid (Tk_5.out.mono (S' := fun b => w.heap.size + 1 ≤ b ∧ b < w5.heap.size) (fun b hb hl => ⟨by omega, hl⟩))
      go_wp2_with fail
      refine (node_any _ [114, 117, 108, 101] _ _ _).mono ?_
      rintro e w6 ⟨rfl, hb⟩
      have kk := Kp.of_below (b := c.bp) hb
      have P_6 := Lib.hid ((P_5.out.alloc _).below hb)
      have R_6 := Lib.hid ((R_5.out.alloc _).kp kk (by omega))
      have A_6 := Lib.hid (((Blk.new w5 25 #[vs m1.op, vs m1.text, .int .i64 m1.pos, .slice ka kl kq])).kp kk (by omega))
      have Ux_6 := Lib.hid ((Ux_5.out.alloc _).kp kk (by first | omega | (simp; omega)))
      have K_6 := (K_5.alloc _).trans kk
      have l_6 : w5.heap.size + 1 ≤ w6.heap.size := by have := kk.size; simpa using this
      clear kk hb 
      have lp := P_6.out.blk.lt
      go_wp2_with fail
      refine (at_new' c _ s1 (P_6.out.alloc _) 1 [[123]] _ 1 (by simp) rfl _ rfl (by omega) _ HA4.out).mono ?_
      rintro e w7 ⟨rfl, hb⟩
      have kk := Kp.of_below (b := c.bp) hb
      have P_7 := Lib.hid ((P_6.out.alloc _).below hb)
      have R_7 := Lib.hid ((R_6.out.alloc _).kp kk (by omega))
      have A_7 := Lib.hid ((A_6.out.alloc _).kp kk (by omega))
      have N_7 := Lib.hid (((Blk.new w6 25 #[vs [114, 117, 108, 101], vs [], .int .i64 0, .slice (some ⟨w5.heap.size, 0, none⟩) 1 1])).kp kk (by omega))
      have Ux_7 := Lib.hid ((Ux_6.out.alloc _).kp kk (by first | omega | (simp; omega)))
      have K_7 := (K_6.alloc _).trans kk
      have l_7 : w6.heap.size + 1 ≤ w7.heap.size := by have := kk.size; simpa using this
      clear kk hb 
      have O_7 : Hid (OutX w7 (w.heap.size + 1) w6.heap.size (.slice (some ⟨w5.heap.size, 0, none⟩) 1 1) [m1]) := OutX.of_blk [(m1, .slice ka kl kq)] 1 rfl (by simp) (by omega) (by omega) _ rfl A_7.out (by
          intro n k hm
          simp only [List.mem_cons, List.not_mem_nil, or_false, Prod.mk.injEq] at hm
          obtain ⟨rfl, rfl⟩ := hm
          exact Ux_7.out.mono (fun b hb _ => ⟨by omega, by omega, by omega⟩))
      go_wp2_with fail
      refine (Hcur.out _ P_7.out).mono ?_
      rintro e w8 ⟨rfl, hb⟩
      have kk := Kp.of_below (b := c.bp) hb
      have P_8 := Lib.hid (P_7.out.below hb)
      have R_8 := Lib.hid (R_7.out.kp kk (by omega))
      have N_8 := Lib.hid (N_7.out.kp kk (by omega))
      have O_8 := Lib.hid (O_7.out.kp kk (by first | omega | (simp; omega)))
      have K_8 := K_7.trans kk
      have l_8 : w7.heap.size + 0 ≤ w8.heap.size := by have := kk.size; simpa using this
      clear kk hb 
      go_wp2_with fail
      obtain ⟨wz, hwz⟩ : ∃ W, W = w8.alloc (.cells #[.int .i64 tk.kind, vs tk.text, .int .i64 tk.pos] 60) := ⟨_, rfl⟩
      rw [← hwz]
      have kk : Kp c.bp w8 wz := by rw [hwz]; exact (Kp.refl _ _).alloc _
      have hbz : Below w8.heap.size w8 wz := by rw [hwz]; exact (Below.refl _ _).alloc (Nat.le_refl _) _
      have hb := hbz
      have P_9 := Lib.hid (P_8.out.below hb)
      have R_9 := Lib.hid (R_8.out.kp kk (by omega))
      have N_9 := Lib.hid (N_8.out.kp kk (by omega))
      have O_9 := Lib.hid (O_8.out.kp kk (by first | omega | (simp; omega)))
      have K_9 := K_8.trans kk
      have l_9 : w8.heap.size + 0 ≤ wz.heap.size := by have := kk.size; simpa using this
      clear kk hb hbz hwz
      have GN := Lib.hid N_9.out.drew
      have GO := Lib.hid O_9.out.drew
      obtain ⟨y0, y1, y2, y3⟩ := N_9.out.four
      go_region_law (first
        | (go_simp; go_at_call 25; refine (node_any _ [100, 101, 102, 97, 117, 108, 116] none 0 0).mono ?_; rintro e w10 ⟨rfl, hb9⟩; have kp := Kp.of_below (b := c.bp) hb9; have pp := P_9.out.drew.below hb9; have GN4 := Lib.hid (GN.out.kp kp (by omega)); have GO4 := Lib.hid (GO.out.kp kp (by omega)); have lk : wz.heap.size ≤ w10.heap.size := kp.size; have ln4 := GN4.out.lt; obtain ⟨z0, z1, z2, z3⟩ := GN4.out.four; have PP := Lib.hid pp; clear pp hb9)
        | (refine step_append_x _ rfl (.tmp 116) (.tmp 118) rfl rfl (w.heap.size + 1) w6.heap.size (.slice (some ⟨w5.heap.size, 0, none⟩) 1 1) [m1] [((.mk [100, 101, 102, 97, 117, 108, 116] [] 0 []), .slice none 0 0)] _ rfl rfl (GO4.out.alloc _) (by simp) (by simp; omega) (.inr ⟨w10.heap.size, 1, rfl, row1 (Blk.new w10 25 #[vs [100, 101, 102, 97, 117, 108, 116], vs [], .int .i64 0, .slice none 0 0])⟩) ?hkb (by simp) (by simp; omega) ?_; (case hkb => intro n k hm; simp only [List.mem_cons, List.not_mem_nil, or_false, Prod.mk.injEq] at hm; obtain ⟨rfl, rfl⟩ := hm; exact .nil _ _); rintro v' w11 ⟨hO, hG, hlo⟩; obtain ⟨a', q', rfl⟩ := hO.len; have GN5 := Lib.hid ((GN4.out.alloc _).grown hG (fun e => (hlo _ e.symm).2 rfl)); obtain ⟨x0, x1, x2, x3⟩ := GN5.out.four; have xf := GN5.out.frozen 3; have GHO := Lib.hid hO; have GHG := Lib.hid hG; clear hO hG))
      all_goals
        have P_10 := Lib.hid PP
        have R_10 := Lib.hid (R_9.out.drew.kp kp (by omega))
        have N_10 := Lib.hid (N_9.out.drew.kp kp (by omega))
        have O_10 := Lib.hid (O_9.out.drew.kp kp (by first | omega | (simp; omega)))
        have K_10 := K_9.drew.trans kp
        have l_10 : wz.heap.size + 0 ≤ w10.heap.size := by have := kp.size; simpa using this
        have PA := Lib.hid (((P_10.out.alloc (.cells #[vs [100, 101, 102, 97, 117, 108, 116], vs [], .int .i64 0, .slice none 0 0] 25)).grown GHG.out (fun k hk => by have := hlo k hk; omega)).far (p := ⟨w6.heap.size, 3, none⟩) (by simp; omega) (.slice a' 2 q'))
        have KA := ((K_10.alloc (.cells #[vs [100, 101, 102, 97, 117, 108, 116], vs [], .int .i64 0, .slice none 0 0] 25)).grown GHG.out (fun k hk => by have := hlo k hk; omega)).setN (g := w6.heap.size) (by omega) 3 (.slice a' 2 q')
        have RA := Lib.hid (((R_10.out.alloc (.cells #[vs [100, 101, 102, 97, 117, 108, 116], vs [], .int .i64 0, .slice none 0 0] 25)).grown GHG.out (fun e => by have := hlo _ e.symm; omega)).far (p := ⟨w6.heap.size, 3, none⟩) (by simp; omega) (.slice a' 2 q'))
        have NA := Lib.hid (GN5.out.set_ 3 (.slice a' 2 q'))
        simp at NA
        have OA := Lib.hid ((GHO.out.kids.mono (fun b hb _ => by omega) : KidsAt _ (fun b => w.heap.size + 1 ≤ b ∧ b ≠ w6.heap.size) (.slice a' 2 q') [m1, (.mk [100, 101, 102, 97, 117, 108, 116] [] 0 [])]).kp ((Kp.refl w6.heap.size _).setB 3 (.slice a' 2 q')) (by simp))
        obtain ⟨u0, u1, u2, u3⟩ := NA.out.four
        obtain ⟨r0, r1, r2, r3⟩ := RA.out.four
        have rf0 := RA.out.frozen 0
        have rf1 := RA.out.frozen 1
        have rf2 := RA.out.frozen 2
        have rf3 := RA.out.frozen 3
        go_wp2_with fail
        exact bodyPost_ret (results_node Tryz.results29 rfl RA.out.put4) rfl ⟨a', 2, q', rfl, (OA.out.put4 (fun hx => by have := hx.1; omega)).mono (fun b hb _ => by omega), PA.out.put4 (by omega), KA.put4 (Nat.le_refl _)⟩
    · have k1 : (tk.kind != 1) = true := by simpa using h1
      by_cases h0 : tk.kind = 0
      · have k0 : (tk.kind != 0) = false := by simp [h0]
        rw [if_pos (.inr (.inl h0))] at hs'
        subst hs'
        clear h0 h1
        go_enter Tryz.func29, Tryz.ntmps29
        go_wp2_with fail
        refine (accept_f c _ _ (P_0.out.alloc _) [66, 69, 71, 73, 78] HA0.out).mono ?_
        rintro e w1 ⟨rfl, pp, kp⟩
        have P_1 := Lib.hid pp
        have R_1 := Lib.hid (((Blk.new w 25 z4)).kp kp (by omega))
        have K_1 := ((Kp.refl c.bp w).alloc _).trans kp
        have l_1 : w.heap.size + 1 ≤ w1.heap.size := by have := kp.size; simpa using this
        clear kp pp 
        go_wp2_with fail
        refine (accept_f c _ _ P_1.out [69, 78, 68] HA1.out).mono ?_
        rintro e w2 ⟨rfl, pp, kp⟩
        have P_2 := Lib.hid pp
        have R_2 := Lib.hid (R_1.out.kp kp (by omega))
        have K_2 := K_1.trans kp
        have l_2 : w1.heap.size + 0 ≤ w2.heap.size := by have := kp.size; simpa using this
        clear kp pp 
        go_wp2_with fail
        refine (accept_f c _ _ P_2.out [102, 117, 110, 99, 116, 105, 111, 110] HA2.out).mono ?_
        rintro e w3 ⟨rfl, pp, kp⟩
        have P_3 := Lib.hid pp
        have R_3 := Lib.hid (R_2.out.kp kp (by omega))
        have K_3 := K_2.trans kp
        have l_3 : w2.heap.size + 0 ≤ w3.heap.size := by have := kp.size; simpa using this
        clear kp pp 
        go_wp2_with fail
        refine (at_new' c _ s P_3.out 1 [[123]] _ 1 (by simp) rfl _ rfl (by omega) _ HA3.out).mono ?_
        rintro e w4 ⟨rfl, hb⟩
        have kk := Kp.of_below (b := c.bp) hb
        have P_4 := Lib.hid (P_3.out.below hb)
        have R_4 := Lib.hid (R_3.out.kp kk (by omega))
        have K_4 := K_3.trans kk
        have l_4 : w3.heap.size + 0 ≤ w4.heap.size := by have := kk.size; simpa using this
        clear kk hb 
        go_wp2_with fail
        refine (HE.out _ _ _ _ P_4.out HM1.out).mono ?_
        rintro e w5 ⟨ka, kl, kq, rfl, tt, pp, kp⟩
        have P_5 := Lib.hid pp
        have R_5 := Lib.hid (R_4.out.kp kp (by omega))
        have K_5 := K_4.trans kp
        have l_5 : w4.heap.size + 0 ≤ w5.heap.size := by have := kp.size; simpa using this
        clear kp pp 
        have Tk_5 := Lib.hid tt
        clear tt
        have Ux_5 := Lib.hid (Tk_5.out.mono (S' := fun b => w.heap.size + 1 ≤ b ∧ b < w5.heap.size) (fun b hb hl => ⟨by omega, hl⟩))
        go_wp2_with fail
        refine (node_any _ [114, 117, 108, 101] _ _ _).mono ?_
        rintro e w6 ⟨rfl, hb⟩
        have kk := Kp.of_below (b := c.bp) hb
        have P_6 := Lib.hid ((P_5.out.alloc _).below hb)
        have R_6 := Lib.hid ((R_5.out.alloc _).kp kk (by omega))
        have A_6 := Lib.hid (((Blk.new w5 25 #[vs m1.op, vs m1.text, .int .i64 m1.pos, .slice ka kl kq])).kp kk (by omega))
        have Ux_6 := Lib.hid ((Ux_5.out.alloc _).kp kk (by first | omega | (simp; omega)))
        have K_6 := (K_5.alloc _).trans kk
        have l_6 : w5.heap.size + 1 ≤ w6.heap.size := by have := kk.size; simpa using this
        clear kk hb 
        have lp := P_6.out.blk.lt
        go_wp2_with fail
        refine (at_new' c _ s1 (P_6.out.alloc _) 1 [[123]] _ 1 (by simp) rfl _ rfl (by omega) _ HA4.out).mono ?_
        rintro e w7 ⟨rfl, hb⟩
        have kk := Kp.of_below (b := c.bp) hb
        have P_7 := Lib.hid ((P_6.out.alloc _).below hb)
        have R_7 := Lib.hid ((R_6.out.alloc _).kp kk (by omega))
        have A_7 := Lib.hid ((A_6.out.alloc _).kp kk (by omega))
        have N_7 := Lib.hid (((Blk.new w6 25 #[vs [114, 117, 108, 101], vs [], .int .i64 0, .slice (some ⟨w5.heap.size, 0, none⟩) 1 1])).kp kk (by omega))
        have Ux_7 := Lib.hid ((Ux_6.out.alloc _).kp kk (by first | omega | (simp; omega)))
        have K_7 := (K_6.alloc _).trans kk
        have l_7 : w6.heap.size + 1 ≤ w7.heap.size := by have := kk.size; simpa using this
        clear kk hb 
        have O_7 : Hid (OutX w7 (w.heap.size + 1) w6.heap.size (.slice (some ⟨w5.heap.size, 0, none⟩) 1 1) [m1]) := OutX.of_blk [(m1, .slice ka kl kq)] 1 rfl (by simp) (by omega) (by omega) _ rfl A_7.out (by
            intro n k hm
            simp only [List.mem_cons, List.not_mem_nil, or_false, Prod.mk.injEq] at hm
            obtain ⟨rfl, rfl⟩ := hm
            exact Ux_7.out.mono (fun b hb _ => ⟨by omega, by omega, by omega⟩))
        go_wp2_with fail
        refine (Hcur.out _ P_7.out).mono ?_
        rintro e w8 ⟨rfl, hb⟩
        have kk := Kp.of_below (b := c.bp) hb
        have P_8 := Lib.hid (P_7.out.below hb)
        have R_8 := Lib.hid (R_7.out.kp kk (by omega))
        have N_8 := Lib.hid (N_7.out.kp kk (by omega))
        have O_8 := Lib.hid (O_7.out.kp kk (by first | omega | (simp; omega)))
        have K_8 := K_7.trans kk
        have l_8 : w7.heap.size + 0 ≤ w8.heap.size := by have := kk.size; simpa using this
        clear kk hb 
        go_wp2_with fail
        obtain ⟨wz, hwz⟩ : ∃ W, W = w8.alloc (.cells #[.int .i64 tk.kind, vs tk.text, .int .i64 tk.pos] 60) := ⟨_, rfl⟩
        rw [← hwz]
        have kk : Kp c.bp w8 wz := by rw [hwz]; exact (Kp.refl _ _).alloc _
        have hbz : Below w8.heap.size w8 wz := by rw [hwz]; exact (Below.refl _ _).alloc (Nat.le_refl _) _
        have hb := hbz
        have P_9 := Lib.hid (P_8.out.below hb)
        have R_9 := Lib.hid (R_8.out.kp kk (by omega))
        have N_9 := Lib.hid (N_8.out.kp kk (by omega))
        have O_9 := Lib.hid (O_8.out.kp kk (by first | omega | (simp; omega)))
        have K_9 := K_8.trans kk
        have l_9 : w8.heap.size + 0 ≤ wz.heap.size := by have := kk.size; simpa using this
        clear kk hb hbz hwz
        have GN := Lib.hid N_9.out.drew
        have GO := Lib.hid O_9.out.drew
        obtain ⟨y0, y1, y2, y3⟩ := N_9.out.four
        go_region_law (first
          | (go_simp; go_at_call 25; refine (node_any _ [100, 101, 102, 97, 117, 108, 116] none 0 0).mono ?_; rintro e w10 ⟨rfl, hb9⟩; have kp := Kp.of_below (b := c.bp) hb9; have pp := P_9.out.drew.below hb9; have GN4 := Lib.hid (GN.out.kp kp (by omega)); have GO4 := Lib.hid (GO.out.kp kp (by omega)); have lk : wz.heap.size ≤ w10.heap.size := kp.size; have ln4 := GN4.out.lt; obtain ⟨z0, z1, z2, z3⟩ := GN4.out.four; have PP := Lib.hid pp; clear pp hb9)
          | (refine step_append_x _ rfl (.tmp 116) (.tmp 118) rfl rfl (w.heap.size + 1) w6.heap.size (.slice (some ⟨w5.heap.size, 0, none⟩) 1 1) [m1] [((.mk [100, 101, 102, 97, 117, 108, 116] [] 0 []), .slice none 0 0)] _ rfl rfl (GO4.out.alloc _) (by simp) (by simp; omega) (.inr ⟨w10.heap.size, 1, rfl, row1 (Blk.new w10 25 #[vs [100, 101, 102, 97, 117, 108, 116], vs [], .int .i64 0, .slice none 0 0])⟩) ?hkc (by simp) (by simp; omega) ?_; (case hkc => intro n k hm; simp only [List.mem_cons, List.not_mem_nil, or_false, Prod.mk.injEq] at hm; obtain ⟨rfl, rfl⟩ := hm; exact .nil _ _); rintro v' w11 ⟨hO, hG, hlo⟩; obtain ⟨a', q', rfl⟩ := hO.len; have GN5 := Lib.hid ((GN4.out.alloc _).grown hG (fun e => (hlo _ e.symm).2 rfl)); obtain ⟨x0, x1, x2, x3⟩ := GN5.out.four; have xf := GN5.out.frozen 3; have GHO := Lib.hid hO; have GHG := Lib.hid hG; clear hO hG))
        all_goals
          have P_10 := Lib.hid PP
          have R_10 := Lib.hid (R_9.out.drew.kp kp (by omega))
          have N_10 := Lib.hid (N_9.out.drew.kp kp (by omega))
          have O_10 := Lib.hid (O_9.out.drew.kp kp (by first | omega | (simp; omega)))
          have K_10 := K_9.drew.trans kp
          have l_10 : wz.heap.size + 0 ≤ w10.heap.size := by have := kp.size; simpa using this
          have PA := Lib.hid (((P_10.out.alloc (.cells #[vs [100, 101, 102, 97, 117, 108, 116], vs [], .int .i64 0, .slice none 0 0] 25)).grown GHG.out (fun k hk => by have := hlo k hk; omega)).far (p := ⟨w6.heap.size, 3, none⟩) (by simp; omega) (.slice a' 2 q'))
          have KA := ((K_10.alloc (.cells #[vs [100, 101, 102, 97, 117, 108, 116], vs [], .int .i64 0, .slice none 0 0] 25)).grown GHG.out (fun k hk => by have := hlo k hk; omega)).setN (g := w6.heap.size) (by omega) 3 (.slice a' 2 q')
          have RA := Lib.hid (((R_10.out.alloc (.cells #[vs [100, 101, 102, 97, 117, 108, 116], vs [], .int .i64 0, .slice none 0 0] 25)).grown GHG.out (fun e => by have := hlo _ e.symm; omega)).far (p := ⟨w6.heap.size, 3, none⟩) (by simp; omega) (.slice a' 2 q'))
          have NA := Lib.hid (GN5.out.set_ 3 (.slice a' 2 q'))
          simp at NA
          have OA := Lib.hid ((GHO.out.kids.mono (fun b hb _ => by omega) : KidsAt _ (fun b => w.heap.size + 1 ≤ b ∧ b ≠ w6.heap.size) (.slice a' 2 q') [m1, (.mk [100, 101, 102, 97, 117, 108, 116] [] 0 [])]).kp ((Kp.refl w6.heap.size _).setB 3 (.slice a' 2 q')) (by simp))
          obtain ⟨u0, u1, u2, u3⟩ := NA.out.four
          obtain ⟨r0, r1, r2, r3⟩ := RA.out.four
          have rf0 := RA.out.frozen 0
          have rf1 := RA.out.frozen 1
          have rf2 := RA.out.frozen 2
          have rf3 := RA.out.frozen 3
          go_wp2_with fail
          exact bodyPost_ret (results_node Tryz.results29 rfl RA.out.put4) rfl ⟨a', 2, q', rfl, (OA.out.put4 (fun hx => by have := hx.1; omega)).mono (fun b hb _ => by omega), PA.out.put4 (by omega), KA.put4 (Nat.le_refl _)⟩
      · have k0 : (tk.kind != 0) = true := by simpa using h0
        cases hse : Pp.at_ c.T [[59]] s1 with
        | true =>
          rw [if_pos (.inr (.inr hse))] at hs'
          subst hs'
          have HS := Lib.hid hse
          clear h0 h1 hse
          go_enter Tryz.func29, Tryz.ntmps29
          go_wp2_with fail
          refine (accept_f c _ _ (P_0.out.alloc _) [66, 69, 71, 73, 78] HA0.out).mono ?_
          rintro e w1 ⟨rfl, pp, kp⟩
          have P_1 := Lib.hid pp
          have R_1 := Lib.hid (((Blk.new w 25 z4)).kp kp (by omega))
          have K_1 := ((Kp.refl c.bp w).alloc _).trans kp
          have l_1 : w.heap.size + 1 ≤ w1.heap.size := by have := kp.size; simpa using this
          clear kp pp 
          go_wp2_with fail
          refine (accept_f c _ _ P_1.out [69, 78, 68] HA1.out).mono ?_
          rintro e w2 ⟨rfl, pp, kp⟩
          have P_2 := Lib.hid pp
          have R_2 := Lib.hid (R_1.out.kp kp (by omega))
          have K_2 := K_1.trans kp
          have l_2 : w1.heap.size + 0 ≤ w2.heap.size := by have := kp.size; simpa using this
          clear kp pp 
          go_wp2_with fail
          refine (accept_f c _ _ P_2.out [102, 117, 110, 99, 116, 105, 111, 110] HA2.out).mono ?_
          rintro e w3 ⟨rfl, pp, kp⟩
          have P_3 := Lib.hid pp
          have R_3 := Lib.hid (R_2.out.kp kp (by omega))
          have K_3 := K_2.trans kp
          have l_3 : w2.heap.size + 0 ≤ w3.heap.size := by have := kp.size; simpa using this
          clear kp pp 
          go_wp2_with fail
          refine (at_new' c _ s P_3.out 1 [[123]] _ 1 (by simp) rfl _ rfl (by omega) _ HA3.out).mono ?_
          rintro e w4 ⟨rfl, hb⟩
          have kk := Kp.of_below (b := c.bp) hb
          have P_4 := Lib.hid (P_3.out.below hb)
          have R_4 := Lib.hid (R_3.out.kp kk (by omega))
          have K_4 := K_3.trans kk
          have l_4 : w3.heap.size + 0 ≤ w4.heap.size := by have := kk.size; simpa using this
          clear kk hb 
          go_wp2_with fail
          refine (HE.out _ _ _ _ P_4.out HM1.out).mono ?_
          rintro e w5 ⟨ka, kl, kq, rfl, tt, pp, kp⟩
          have P_5 := Lib.hid pp
          have R_5 := Lib.hid (R_4.out.kp kp (by omega))
          have K_5 := K_4.trans kp
          have l_5 : w4.heap.size + 0 ≤ w5.heap.size := by have := kp.size; simpa using this
          clear kp pp 
          have Tk_5 := Lib.hid tt
          clear tt
          have Ux_5 := Lib.hid (Tk_5.out.mono (S' := fun b => w.heap.size + 1 ≤ b ∧ b < w5.heap.size) (fun b hb hl => ⟨by omega, hl⟩))
          go_wp2_with fail
          refine (node_any _ [114, 117, 108, 101] _ _ _).mono ?_
          rintro e w6 ⟨rfl, hb⟩
          have kk := Kp.of_below (b := c.bp) hb
          have P_6 := Lib.hid ((P_5.out.alloc _).below hb)
          have R_6 := Lib.hid ((R_5.out.alloc _).kp kk (by omega))
          have A_6 := Lib.hid (((Blk.new w5 25 #[vs m1.op, vs m1.text, .int .i64 m1.pos, .slice ka kl kq])).kp kk (by omega))
          have Ux_6 := Lib.hid ((Ux_5.out.alloc _).kp kk (by first | omega | (simp; omega)))
          have K_6 := (K_5.alloc _).trans kk
          have l_6 : w5.heap.size + 1 ≤ w6.heap.size := by have := kk.size; simpa using this
          clear kk hb 
          have lp := P_6.out.blk.lt
          go_wp2_with fail
          refine (at_new' c _ s1 (P_6.out.alloc _) 1 [[123]] _ 1 (by simp) rfl _ rfl (by omega) _ HA4.out).mono ?_
          rintro e w7 ⟨rfl, hb⟩
          have kk := Kp.of_below (b := c.bp) hb
          have P_7 := Lib.hid ((P_6.out.alloc _).below hb)
          have R_7 := Lib.hid ((R_6.out.alloc _).kp kk (by omega))
          have A_7 := Lib.hid ((A_6.out.alloc _).kp kk (by omega))
          have N_7 := Lib.hid (((Blk.new w6 25 #[vs [114, 117, 108, 101], vs [], .int .i64 0, .slice (some ⟨w5.heap.size, 0, none⟩) 1 1])).kp kk (by omega))
          have Ux_7 := Lib.hid ((Ux_6.out.alloc _).kp kk (by first | omega | (simp; omega)))
          have K_7 := (K_6.alloc _).trans kk
          have l_7 : w6.heap.size + 1 ≤ w7.heap.size := by have := kk.size; simpa using this
          clear kk hb 
          have O_7 : Hid (OutX w7 (w.heap.size + 1) w6.heap.size (.slice (some ⟨w5.heap.size, 0, none⟩) 1 1) [m1]) := OutX.of_blk [(m1, .slice ka kl kq)] 1 rfl (by simp) (by omega) (by omega) _ rfl A_7.out (by
              intro n k hm
              simp only [List.mem_cons, List.not_mem_nil, or_false, Prod.mk.injEq] at hm
              obtain ⟨rfl, rfl⟩ := hm
              exact Ux_7.out.mono (fun b hb _ => ⟨by omega, by omega, by omega⟩))
          go_wp2_with fail
          refine (Hcur.out _ P_7.out).mono ?_
          rintro e w8 ⟨rfl, hb⟩
          have kk := Kp.of_below (b := c.bp) hb
          have P_8 := Lib.hid (P_7.out.below hb)
          have R_8 := Lib.hid (R_7.out.kp kk (by omega))
          have N_8 := Lib.hid (N_7.out.kp kk (by omega))
          have O_8 := Lib.hid (O_7.out.kp kk (by first | omega | (simp; omega)))
          have K_8 := K_7.trans kk
          have l_8 : w7.heap.size + 0 ≤ w8.heap.size := by have := kk.size; simpa using this
          clear kk hb 
          go_wp2_with fail
          refine (at_new' c _ s1 (P_8.out.alloc _) 1 [[59]] _ 1 (by simp) rfl _ rfl (by first | omega | simp) _ HS.out).mono ?_
          rintro e w9 ⟨rfl, hb⟩
          have kk := Kp.of_below (b := c.bp) hb
          have P_9 := Lib.hid ((P_8.out.alloc _).below hb)
          have R_9 := Lib.hid ((R_8.out.alloc _).kp kk (by omega))
          have N_9 := Lib.hid ((N_8.out.alloc _).kp kk (by omega))
          have O_9 := Lib.hid ((O_8.out.alloc _).kp kk (by first | omega | (simp; omega)))
          have K_9 := (K_8.alloc _).trans kk
          have l_9 : w8.heap.size + 1 ≤ w9.heap.size := by have := kk.size; simpa using this
          clear kk hb 
          go_wp2_with fail
          have GN := Lib.hid N_9.out.drew
          have GO := Lib.hid O_9.out.drew
          obtain ⟨y0, y1, y2, y3⟩ := N_9.out.four
          go_region_law (first
            | (go_simp; go_at_call 25; refine (node_any _ [100, 101, 102, 97, 117, 108, 116] none 0 0).mono ?_; rintro e w10 ⟨rfl, hb9⟩; have kp := Kp.of_below (b := c.bp) hb9; have pp := P_9.out.drew.below hb9; have GN4 := Lib.hid (GN.out.kp kp (by omega)); have GO4 := Lib.hid (GO.out.kp kp (by omega)); have lk : w9.heap.size ≤ w10.heap.size := kp.size; have ln4 := GN4.out.lt; obtain ⟨z0, z1, z2, z3⟩ := GN4.out.four; have PP := Lib.hid pp; clear pp hb9)
            | (refine step_append_x _ rfl (.tmp 116) (.tmp 118) rfl rfl (w.heap.size + 1) w6.heap.size (.slice (some ⟨w5.heap.size, 0, none⟩) 1 1) [m1] [((.mk [100, 101, 102, 97, 117, 108, 116] [] 0 []), .slice none 0 0)] _ rfl rfl (GO4.out.alloc _) (by simp) (by simp; omega) (.inr ⟨w10.heap.size, 1, rfl, row1 (Blk.new w10 25 #[vs [100, 101, 102, 97, 117, 108, 116], vs [], .int .i64 0, .slice none 0 0])⟩) ?hkd (by simp) (by simp; omega) ?_; (case hkd => intro n k hm; simp only [List.mem_cons, List.not_mem_nil, or_false, Prod.mk.injEq] at hm; obtain ⟨rfl, rfl⟩ := hm; exact .nil _ _); rintro v' w11 ⟨hO, hG, hlo⟩; obtain ⟨a', q', rfl⟩ := hO.len; have GN5 := Lib.hid ((GN4.out.alloc _).grown hG (fun e => (hlo _ e.symm).2 rfl)); obtain ⟨x0, x1, x2, x3⟩ := GN5.out.four; have xf := GN5.out.frozen 3; have GHO := Lib.hid hO; have GHG := Lib.hid hG; clear hO hG))
          all_goals
            have P_10 := Lib.hid PP
            have R_10 := Lib.hid (R_9.out.drew.kp kp (by omega))
            have N_10 := Lib.hid (N_9.out.drew.kp kp (by omega))
            have O_10 := Lib.hid (O_9.out.drew.kp kp (by first | omega | (simp; omega)))
            have K_10 := K_9.drew.trans kp
            have l_10 : w9.heap.size + 0 ≤ w10.heap.size := by have := kp.size; simpa using this
            have PA := Lib.hid (((P_10.out.alloc (.cells #[vs [100, 101, 102, 97, 117, 108, 116], vs [], .int .i64 0, .slice none 0 0] 25)).grown GHG.out (fun k hk => by have := hlo k hk; omega)).far (p := ⟨w6.heap.size, 3, none⟩) (by simp; omega) (.slice a' 2 q'))
            have KA := ((K_10.alloc (.cells #[vs [100, 101, 102, 97, 117, 108, 116], vs [], .int .i64 0, .slice none 0 0] 25)).grown GHG.out (fun k hk => by have := hlo k hk; omega)).setN (g := w6.heap.size) (by omega) 3 (.slice a' 2 q')
            have RA := Lib.hid (((R_10.out.alloc (.cells #[vs [100, 101, 102, 97, 117, 108, 116], vs [], .int .i64 0, .slice none 0 0] 25)).grown GHG.out (fun e => by have := hlo _ e.symm; omega)).far (p := ⟨w6.heap.size, 3, none⟩) (by simp; omega) (.slice a' 2 q'))
            have NA := Lib.hid (GN5.out.set_ 3 (.slice a' 2 q'))
            simp at NA
            have OA := Lib.hid ((GHO.out.kids.mono (fun b hb _ => by omega) : KidsAt _ (fun b => w.heap.size + 1 ≤ b ∧ b ≠ w6.heap.size) (.slice a' 2 q') [m1, (.mk [100, 101, 102, 97, 117, 108, 116] [] 0 [])]).kp ((Kp.refl w6.heap.size _).setB 3 (.slice a' 2 q')) (by simp))
            obtain ⟨u0, u1, u2, u3⟩ := NA.out.four
            obtain ⟨r0, r1, r2, r3⟩ := RA.out.four
            have rf0 := RA.out.frozen 0
            have rf1 := RA.out.frozen 1
            have rf2 := RA.out.frozen 2
            have rf3 := RA.out.frozen 3
            go_wp2_with fail
            exact bodyPost_ret (results_node Tryz.results29 rfl RA.out.put4) rfl ⟨a', 2, q', rfl, (OA.out.put4 (fun hx => by have := hx.1; omega)).mono (fun b hb _ => by omega), PA.out.put4 (by omega), KA.put4 (Nat.le_refl _)⟩
        | false =>
          rw [if_neg (by simp [h0, h1, hse])] at hs'
          subst hs'
          have HS := Lib.hid hse
          clear h0 h1 hse
          go_enter Tryz.func29, Tryz.ntmps29
          go_wp2_with fail
          refine (accept_f c _ _ (P_0.out.alloc _) [66, 69, 71, 73, 78] HA0.out).mono ?_
          rintro e w1 ⟨rfl, pp, kp⟩
          have P_1 := Lib.hid pp
          have R_1 := Lib.hid (((Blk.new w 25 z4)).kp kp (by omega))
          have K_1 := ((Kp.refl c.bp w).alloc _).trans kp
          have l_1 : w.heap.size + 1 ≤ w1.heap.size := by have := kp.size; simpa using this
          clear kp pp 
          go_wp2_with fail
          refine (accept_f c _ _ P_1.out [69, 78, 68] HA1.out).mono ?_
          rintro e w2 ⟨rfl, pp, kp⟩
          have P_2 := Lib.hid pp
          have R_2 := Lib.hid (R_1.out.kp kp (by omega))
          have K_2 := K_1.trans kp
          have l_2 : w1.heap.size + 0 ≤ w2.heap.size := by have := kp.size; simpa using this
          clear kp pp 
          go_wp2_with fail
          refine (accept_f c _ _ P_2.out [102, 117, 110, 99, 116, 105, 111, 110] HA2.out).mono ?_
          rintro e w3 ⟨rfl, pp, kp⟩
          have P_3 := Lib.hid pp
          have R_3 := Lib.hid (R_2.out.kp kp (by omega))
          have K_3 := K_2.trans kp
          have l_3 : w2.heap.size + 0 ≤ w3.heap.size := by have := kp.size; simpa using this
          clear kp pp 
          go_wp2_with fail
          refine (at_new' c _ s P_3.out 1 [[123]] _ 1 (by simp) rfl _ rfl (by omega) _ HA3.out).mono ?_
          rintro e w4 ⟨rfl, hb⟩
          have kk := Kp.of_below (b := c.bp) hb
          have P_4 := Lib.hid (P_3.out.below hb)
          have R_4 := Lib.hid (R_3.out.kp kk (by omega))
          have K_4 := K_3.trans kk
          have l_4 : w3.heap.size + 0 ≤ w4.heap.size := by have := kk.size; simpa using this
          clear kk hb 
          go_wp2_with fail
          refine (HE.out _ _ _ _ P_4.out HM1.out).mono ?_
          rintro e w5 ⟨ka, kl, kq, rfl, tt, pp, kp⟩
          have P_5 := Lib.hid pp
          have R_5 := Lib.hid (R_4.out.kp kp (by omega))
          have K_5 := K_4.trans kp
          have l_5 : w4.heap.size + 0 ≤ w5.heap.size := by have := kp.size; simpa using this
          clear kp pp 
          have Tk_5 := Lib.hid tt
          clear tt
          have Ux_5 := Lib.hid (Tk_5.out.mono (S' := fun b => w.heap.size + 1 ≤ b ∧ b < w5.heap.size) (fun b hb hl => ⟨by omega, hl⟩))
          go_wp2_with fail
          refine (node_any _ [114, 117, 108, 101] _ _ _).mono ?_
          rintro e w6 ⟨rfl, hb⟩
          have kk := Kp.of_below (b := c.bp) hb
          have P_6 := Lib.hid ((P_5.out.alloc _).below hb)
          have R_6 := Lib.hid ((R_5.out.alloc _).kp kk (by omega))
          have A_6 := Lib.hid (((Blk.new w5 25 #[vs m1.op, vs m1.text, .int .i64 m1.pos, .slice ka kl kq])).kp kk (by omega))
          have Ux_6 := Lib.hid ((Ux_5.out.alloc _).kp kk (by first | omega | (simp; omega)))
          have K_6 := (K_5.alloc _).trans kk
          have l_6 : w5.heap.size + 1 ≤ w6.heap.size := by have := kk.size; simpa using this
          clear kk hb 
          have lp := P_6.out.blk.lt
          go_wp2_with fail
          refine (at_new' c _ s1 (P_6.out.alloc _) 1 [[123]] _ 1 (by simp) rfl _ rfl (by omega) _ HA4.out).mono ?_
          rintro e w7 ⟨rfl, hb⟩
          have kk := Kp.of_below (b := c.bp) hb
          have P_7 := Lib.hid ((P_6.out.alloc _).below hb)
          have R_7 := Lib.hid ((R_6.out.alloc _).kp kk (by omega))
          have A_7 := Lib.hid ((A_6.out.alloc _).kp kk (by omega))
          have N_7 := Lib.hid (((Blk.new w6 25 #[vs [114, 117, 108, 101], vs [], .int .i64 0, .slice (some ⟨w5.heap.size, 0, none⟩) 1 1])).kp kk (by omega))
          have Ux_7 := Lib.hid ((Ux_6.out.alloc _).kp kk (by first | omega | (simp; omega)))
          have K_7 := (K_6.alloc _).trans kk
          have l_7 : w6.heap.size + 1 ≤ w7.heap.size := by have := kk.size; simpa using this
          clear kk hb 
          have O_7 : Hid (OutX w7 (w.heap.size + 1) w6.heap.size (.slice (some ⟨w5.heap.size, 0, none⟩) 1 1) [m1]) := OutX.of_blk [(m1, .slice ka kl kq)] 1 rfl (by simp) (by omega) (by omega) _ rfl A_7.out (by
              intro n k hm
              simp only [List.mem_cons, List.not_mem_nil, or_false, Prod.mk.injEq] at hm
              obtain ⟨rfl, rfl⟩ := hm
              exact Ux_7.out.mono (fun b hb _ => ⟨by omega, by omega, by omega⟩))
          go_wp2_with fail
          refine (Hcur.out _ P_7.out).mono ?_
          rintro e w8 ⟨rfl, hb⟩
          have kk := Kp.of_below (b := c.bp) hb
          have P_8 := Lib.hid (P_7.out.below hb)
          have R_8 := Lib.hid (R_7.out.kp kk (by omega))
          have N_8 := Lib.hid (N_7.out.kp kk (by omega))
          have O_8 := Lib.hid (O_7.out.kp kk (by first | omega | (simp; omega)))
          have K_8 := K_7.trans kk
          have l_8 : w7.heap.size + 0 ≤ w8.heap.size := by have := kk.size; simpa using this
          clear kk hb 
          go_wp2_with fail
          refine (at_new' c _ s1 (P_8.out.alloc _) 1 [[59]] _ 1 (by simp) rfl _ rfl (by first | omega | simp) _ HS.out).mono ?_
          rintro e w9 ⟨rfl, hb⟩
          have kk := Kp.of_below (b := c.bp) hb
          have P_9 := Lib.hid ((P_8.out.alloc _).below hb)
          have R_9 := Lib.hid ((R_8.out.alloc _).kp kk (by omega))
          have N_9 := Lib.hid ((N_8.out.alloc _).kp kk (by omega))
          have O_9 := Lib.hid ((O_8.out.alloc _).kp kk (by first | omega | (simp; omega)))
          have K_9 := (K_8.alloc _).trans kk
          have l_9 : w8.heap.size + 1 ≤ w9.heap.size := by have := kk.size; simpa using this
          clear kk hb 
          go_wp2_with fail
          refine (fail_any c _ _ P_9.out).mono ?_
          rintro e w10 ⟨rfl, pp, kp⟩
          have P_10 := Lib.hid pp
          have R_10 := Lib.hid (R_9.out.kp kp (by omega))
          have N_10 := Lib.hid (N_9.out.kp kp (by omega))
          have O_10 := Lib.hid (O_9.out.kp kp (by first | omega | (simp; omega)))
          have K_10 := K_9.trans kp
          have l_10 : w9.heap.size + 0 ≤ w10.heap.size := by have := kp.size; simpa using this
          clear kp pp 
          go_wp2_with fail
          have GN := Lib.hid N_10.out.drew
          have GO := Lib.hid O_10.out.drew
          obtain ⟨y0, y1, y2, y3⟩ := N_10.out.four
          go_region_law (first
            | (go_simp; go_at_call 25; refine (node_any _ [100, 101, 102, 97, 117, 108, 116] none 0 0).mono ?_; rintro e w11 ⟨rfl, hb9⟩; have kp := Kp.of_below (b := c.bp) hb9; have pp := P_10.out.drew.below hb9; have GN4 := Lib.hid (GN.out.kp kp (by omega)); have GO4 := Lib.hid (GO.out.kp kp (by omega)); have lk : w10.heap.size ≤ w11.heap.size := kp.size; have ln4 := GN4.out.lt; obtain ⟨z0, z1, z2, z3⟩ := GN4.out.four; have PP := Lib.hid pp; clear pp hb9)
            | (refine step_append_x _ rfl (.tmp 116) (.tmp 118) rfl rfl (w.heap.size + 1) w6.heap.size (.slice (some ⟨w5.heap.size, 0, none⟩) 1 1) [m1] [((.mk [100, 101, 102, 97, 117, 108, 116] [] 0 []), .slice none 0 0)] _ rfl rfl (GO4.out.alloc _) (by simp) (by simp; omega) (.inr ⟨w11.heap.size, 1, rfl, row1 (Blk.new w11 25 #[vs [100, 101, 102, 97, 117, 108, 116], vs [], .int .i64 0, .slice none 0 0])⟩) ?hke (by simp) (by simp; omega) ?_; (case hke => intro n k hm; simp only [List.mem_cons, List.not_mem_nil, or_false, Prod.mk.injEq] at hm; obtain ⟨rfl, rfl⟩ := hm; exact .nil _ _); rintro v' w12 ⟨hO, hG, hlo⟩; obtain ⟨a', q', rfl⟩ := hO.len; have GN5 := Lib.hid ((GN4.out.alloc _).grown hG (fun e => (hlo _ e.symm).2 rfl)); obtain ⟨x0, x1, x2, x3⟩ := GN5.out.four; have xf := GN5.out.frozen 3; have GHO := Lib.hid hO; have GHG := Lib.hid hG; clear hO hG))
          all_goals
            have P_11 := Lib.hid PP
            have R_11 := Lib.hid (R_10.out.drew.kp kp (by omega))
            have N_11 := Lib.hid (N_10.out.drew.kp kp (by omega))
            have O_11 := Lib.hid (O_10.out.drew.kp kp (by first | omega | (simp; omega)))
            have K_11 := K_10.drew.trans kp
            have l_11 : w10.heap.size + 0 ≤ w11.heap.size := by have := kp.size; simpa using this
            have PA := Lib.hid (((P_11.out.alloc (.cells #[vs [100, 101, 102, 97, 117, 108, 116], vs [], .int .i64 0, .slice none 0 0] 25)).grown GHG.out (fun k hk => by have := hlo k hk; omega)).far (p := ⟨w6.heap.size, 3, none⟩) (by simp; omega) (.slice a' 2 q'))
            have KA := ((K_11.alloc (.cells #[vs [100, 101, 102, 97, 117, 108, 116], vs [], .int .i64 0, .slice none 0 0] 25)).grown GHG.out (fun k hk => by have := hlo k hk; omega)).setN (g := w6.heap.size) (by omega) 3 (.slice a' 2 q')
            have RA := Lib.hid (((R_11.out.alloc (.cells #[vs [100, 101, 102, 97, 117, 108, 116], vs [], .int .i64 0, .slice none 0 0] 25)).grown GHG.out (fun e => by have := hlo _ e.symm; omega)).far (p := ⟨w6.heap.size, 3, none⟩) (by simp; omega) (.slice a' 2 q'))
            have NA := Lib.hid (GN5.out.set_ 3 (.slice a' 2 q'))
            simp at NA
            have OA := Lib.hid ((GHO.out.kids.mono (fun b hb _ => by omega) : KidsAt _ (fun b => w.heap.size + 1 ≤ b ∧ b ≠ w6.heap.size) (.slice a' 2 q') [m1, (.mk [100, 101, 102, 97, 117, 108, 116] [] 0 [])]).kp ((Kp.refl w6.heap.size _).setB 3 (.slice a' 2 q')) (by simp))
            obtain ⟨u0, u1, u2, u3⟩ := NA.out.four
            obtain ⟨r0, r1, r2, r3⟩ := RA.out.four
            have rf0 := RA.out.frozen 0
            have rf1 := RA.out.frozen 1
            have rf2 := RA.out.frozen 2
            have rf3 := RA.out.frozen 3
            go_wp2_with fail
            exact bodyPost_ret (results_node Tryz.results29 rfl RA.out.put4) rfl ⟨a', 2, q', rfl, (OA.out.put4 (fun hx => by have := hx.1; omega)).mono (fun b hb _ => by omega), PA.out.put4 (by omega), KA.put4 (Nat.le_refl _)⟩

end Go.Proofs.YtgnmfaeonijogaaGreatDoor
