/- Walked: a choice. -/
import Derived.Test.YtgnmfaeonijogaaGreatDoorExprA
import Derived.Test.YtgnmfaeonijogaaGreatDoorOutX
import Derived.Deep.RegionLaw
namespace Go.Proofs.YtgnmfaeonijogaaGreatDoor
open Go.RowKit

theorem row1 {w : World} {g : Nat} {t : TypeId} {n : Pp.Node} {k : Value} (h : Blk w g t #[vs n.op, vs n.text, .int .i64 n.pos, k]) : ∀ j u, (rowOf [(n, k)])[j]? = some u → w.cell? ⟨g, j, none⟩ = some u := by
  intro j u hu
  rw [h.cell j]
  simpa [rowOf] using hu

set_option maxRecDepth 100000 in
set_option maxHeartbeats 16000000 in
theorem choice_any (c : PC) (E S : Pp.PS → Option (Pp.Node × Pp.PS)) (hE : IsN c 46 E) (hB : IsN c 85 (Pp.body c.T S)) : IsN c 83 (Pp.choice c.T E S) := by
  intro w s n s' h hh
  unfold Pp.choice at hh
  have HE := Lib.hid hE
  have HB := Lib.hid hB
  have P_0 := Lib.hid h
  have hb := h.blk.lt
  clear hE hB h
  cases hE1 : Pp.inside c.T E [41] (Pp.expect c.T [40] s) with
  | none => rw [hE1] at hh; cases hh
  | some r =>
  obtain ⟨m1, s1⟩ := r
  rw [hE1] at hh
  simp only at hh
  cases hE2 : Pp.body c.T S s1 with
  | none => rw [hE2] at hh; cases hh
  | some r =>
  obtain ⟨m2, s2⟩ := r
  rw [hE2] at hh
  simp only at hh
  have HM1 := Lib.hid hE1
  have HM2 := Lib.hid hE2
  clear hE1 hE2
  cases hat : Pp.at_ c.T [[59]] (Pp.lines c.T s2) with
  | true =>
    rw [hat] at hh
    simp only [if_true] at hh
    have HA := Lib.hid hat
    clear hat
    cases hel : Pp.at_ c.T [[101, 108, 115, 101]] (Pp.lines c.T (Pp.step c.T (Pp.lines c.T s2))) with
    | false =>
      rw [if_neg (by simp [hel])] at hh
      have HL := Lib.hid hel
      clear hel
      go_enter Tryz.func83, Tryz.ntmps83
      go_wp2_with fail
      refine (expect_any c _ _ (P_0.out.alloc _) [40]).mono ?_
      rintro e w1 ⟨rfl, pp, kp⟩
      have P_1 := Lib.hid pp
      have R_1 := Lib.hid (((Blk.new w 25 z4)).kp kp (by omega))
      have K_1 := ((Kp.refl c.bp w).alloc _).trans kp
      have l_1 : w.heap.size + 1 ≤ w1.heap.size := by have := kp.size; simpa using this
      clear kp pp 
      go_wp2_with fail
      refine (inside_any c E HE.out [41] _ _ _ _ P_1.out HM1.out).mono ?_
      rintro e w2 ⟨ka, kl, kq, rfl, tt, pp, kp⟩
      have P_2 := Lib.hid pp
      have R_2 := Lib.hid (R_1.out.kp kp (by omega))
      have K_2 := K_1.trans kp
      have l_2 : w1.heap.size + 0 ≤ w2.heap.size := by have := kp.size; simpa using this
      clear kp pp 
      have Tk_2 := Lib.hid tt
      clear tt
      go_wp2_with fail
      refine (HB.out _ _ _ _ P_2.out HM2.out).mono ?_
      rintro e w3 ⟨la, ll, lq, rfl, tt, pp, kp⟩
      have P_3 := Lib.hid pp
      have R_3 := Lib.hid (R_2.out.kp kp (by omega))
      have Tk_3 := Lib.hid (Tk_2.out.kp kp (by first | omega | (simp; omega)))
      have K_3 := K_2.trans kp
      have l_3 : w2.heap.size + 0 ≤ w3.heap.size := by have := kp.size; simpa using this
      clear kp pp 
      have Tl_3 := Lib.hid tt
      clear tt
      have hi2 := P_3.out.lt
      have Ux_3 := Lib.hid (Tk_3.out.mono (S' := fun b => w.heap.size + 1 ≤ b ∧ b < w3.heap.size) (fun b hb hl => ⟨by omega, hl⟩))
      have Uy_3 := Lib.hid (Tl_3.out.mono (S' := fun b => w.heap.size + 1 ≤ b ∧ b < w3.heap.size) (fun b hb hl => ⟨by omega, hl⟩))
      go_wp2_with fail
      refine (node_any _ [105, 102] _ _ _).mono ?_
      rintro e w4 ⟨rfl, hb⟩
      have kk := Kp.of_below (b := c.bp) hb
      have P_4 := Lib.hid ((P_3.out.alloc _).below hb)
      have R_4 := Lib.hid ((R_3.out.alloc _).kp kk (by omega))
      have A_4 := Lib.hid (((Blk.new w3 25 #[vs m1.op, vs m1.text, .int .i64 m1.pos, .slice ka kl kq, vs m2.op, vs m2.text, .int .i64 m2.pos, .slice la ll lq])).kp kk (by omega))
      have Ux_4 := Lib.hid ((Ux_3.out.alloc _).kp kk (by first | omega | (simp; omega)))
      have Uy_4 := Lib.hid ((Uy_3.out.alloc _).kp kk (by first | omega | (simp; omega)))
      have K_4 := (K_3.alloc _).trans kk
      have l_4 : w3.heap.size + 1 ≤ w4.heap.size := by have := kk.size; simpa using this
      clear kk hb 
      have d1 := P_4.out.c1
      have lp := P_4.out.blk.lt
      go_wp2_with fail
      refine (lines_any c _ _ (P_4.out.alloc _)).mono ?_
      rintro e w5 ⟨rfl, pp, kp⟩
      have P_5 := Lib.hid pp
      have R_5 := Lib.hid ((R_4.out.alloc _).kp kp (by omega))
      have A_5 := Lib.hid ((A_4.out.alloc _).kp kp (by omega))
      have N_5 := Lib.hid (((Blk.new w4 25 #[vs [105, 102], vs [], .int .i64 0, .slice (some ⟨w3.heap.size, 0, none⟩) 2 2])).kp kp (by omega))
      have Ux_5 := Lib.hid ((Ux_4.out.alloc _).kp kp (by first | omega | (simp; omega)))
      have Uy_5 := Lib.hid ((Uy_4.out.alloc _).kp kp (by first | omega | (simp; omega)))
      have K_5 := (K_4.alloc _).trans kp
      have l_5 : w4.heap.size + 1 ≤ w5.heap.size := by have := kp.size; simpa using this
      clear kp pp 
      have O_5 : Hid (OutX w5 (w.heap.size + 1) w4.heap.size (.slice (some ⟨w3.heap.size, 0, none⟩) 2 2) [m1, m2]) := OutX.of_blk [(m1, .slice ka kl kq), (m2, .slice la ll lq)] 2 rfl (by simp) (by omega) (by omega) _ rfl A_5.out (by
          intro n k hm
          simp only [List.mem_cons, List.not_mem_nil, or_false, Prod.mk.injEq] at hm
          rcases hm with ⟨rfl, rfl⟩ | ⟨rfl, rfl⟩
          · exact Ux_5.out.mono (fun b hb _ => ⟨by omega, by omega, by omega⟩)
          · exact Uy_5.out.mono (fun b hb _ => ⟨by omega, by omega, by omega⟩))
      clear d1
      go_wp2_with fail
      refine (accept_t c _ _ P_5.out [59] HA.out).mono ?_
      rintro e w6 ⟨rfl, pp, kp⟩
      have P_6 := Lib.hid pp
      have R_6 := Lib.hid (R_5.out.kp kp (by omega))
      have N_6 := Lib.hid (N_5.out.kp kp (by omega))
      have O_6 := Lib.hid (O_5.out.kp kp (by first | omega | (simp; omega)))
      have K_6 := K_5.trans kp
      have l_6 : w5.heap.size + 0 ≤ w6.heap.size := by have := kp.size; simpa using this
      clear kp pp 
      go_wp2_with fail
      refine (lines_any c _ _ P_6.out).mono ?_
      rintro e w7 ⟨rfl, pp, kp⟩
      have P_7 := Lib.hid pp
      have R_7 := Lib.hid (R_6.out.kp kp (by omega))
      have N_7 := Lib.hid (N_6.out.kp kp (by omega))
      have O_7 := Lib.hid (O_6.out.kp kp (by first | omega | (simp; omega)))
      have K_7 := K_6.trans kp
      have l_7 : w6.heap.size + 0 ≤ w7.heap.size := by have := kp.size; simpa using this
      clear kp pp 
      go_wp2_with fail
      refine (accept_f c _ _ P_7.out [101, 108, 115, 101] HL.out).mono ?_
      rintro e w8 ⟨rfl, pp, kp⟩
      have P_8 := Lib.hid pp
      have R_8 := Lib.hid (R_7.out.kp kp (by omega))
      have N_8 := Lib.hid (N_7.out.kp kp (by omega))
      have O_8 := Lib.hid (O_7.out.kp kp (by first | omega | (simp; omega)))
      have K_8 := K_7.trans kp
      have l_8 : w7.heap.size + 0 ≤ w8.heap.size := by have := kp.size; simpa using this
      clear kp pp 
      have d4 := P_8.out.c4
      have z1 := P_8.out.fz 1
      have d1 := P_8.out.c1
      obtain ⟨y0, y1, y2, y3⟩ := N_8.out.four
      obtain ⟨r0, r1, r2, r3⟩ := R_8.out.four
      have rf0 := R_8.out.frozen 0
      have rf1 := R_8.out.frozen 1
      have rf2 := R_8.out.frozen 2
      have rf3 := R_8.out.frozen 3
      by_cases he : ((Pp.lines c.T (Pp.step c.T (Pp.lines c.T s2)))).err = 0
      · have he0 : (((Pp.lines c.T (Pp.step c.T (Pp.lines c.T s2)))).err == 0) = true := by simpa using he
        rw [if_pos he] at hh
        simp only [Option.some.injEq, Prod.mk.injEq] at hh
        obtain ⟨rfl, rfl⟩ := hh
        have PE := Lib.hid (P_8.out.set { (Pp.lines c.T (Pp.step c.T (Pp.lines c.T s2))) with i := s2.i } 1 (.int .i64 s2.i) (by simp) hi2 P_8.out.deep)
        have RE := Lib.hid (R_8.out.kp ((Kp.refl c.bp _).setB 1 (.int .i64 s2.i)) (by omega))
        have OE := Lib.hid (O_8.out.kp ((Kp.refl c.bp _).setB 1 (.int .i64 s2.i)) (by omega))
        have KE := K_8.setB 1 (.int .i64 s2.i)
        go_wp2_with fail
        exact bodyPost_ret (results_node Tryz.results83 rfl RE.out.put4) rfl ⟨_, 2, 2, rfl, (OE.out.out.kids.put4 (by simp)).mono (fun b hb _ => by omega), PE.out.put4 (by omega), KE.put4 (Nat.le_refl _)⟩
      · have he0 : (((Pp.lines c.T (Pp.step c.T (Pp.lines c.T s2)))).err == 0) = false := by simpa using he
        rw [if_neg he] at hh
        simp only [Option.some.injEq, Prod.mk.injEq] at hh
        obtain ⟨rfl, rfl⟩ := hh
        go_wp2_with fail
        exact bodyPost_ret (results_node Tryz.results83 rfl R_8.out.put4) rfl ⟨_, 2, 2, rfl, (O_8.out.out.kids.put4 (by simp)).mono (fun b hb _ => by omega), P_8.out.put4 (by omega), K_8.put4 (Nat.le_refl _)⟩
    | true =>
      rw [if_pos hel] at hh
      have HL := Lib.hid hel
      clear hel
      cases hE3 : Pp.body c.T S (Pp.step c.T (Pp.lines c.T (Pp.step c.T (Pp.lines c.T s2)))) with
      | none => rw [hE3] at hh; cases hh
      | some r =>
      obtain ⟨m, s5⟩ := r
      rw [hE3] at hh
      simp only at hh
      simp only [Option.some.injEq, Prod.mk.injEq] at hh
      obtain ⟨rfl, rfl⟩ := hh
      have HM := Lib.hid hE3
      clear hE3
      go_enter Tryz.func83, Tryz.ntmps83
      go_wp2_with fail
      refine (expect_any c _ _ (P_0.out.alloc _) [40]).mono ?_
      rintro e w1 ⟨rfl, pp, kp⟩
      have P_1 := Lib.hid pp
      have R_1 := Lib.hid (((Blk.new w 25 z4)).kp kp (by omega))
      have K_1 := ((Kp.refl c.bp w).alloc _).trans kp
      have l_1 : w.heap.size + 1 ≤ w1.heap.size := by have := kp.size; simpa using this
      clear kp pp 
      go_wp2_with fail
      refine (inside_any c E HE.out [41] _ _ _ _ P_1.out HM1.out).mono ?_
      rintro e w2 ⟨ka, kl, kq, rfl, tt, pp, kp⟩
      have P_2 := Lib.hid pp
      have R_2 := Lib.hid (R_1.out.kp kp (by omega))
      have K_2 := K_1.trans kp
      have l_2 : w1.heap.size + 0 ≤ w2.heap.size := by have := kp.size; simpa using this
      clear kp pp 
      have Tk_2 := Lib.hid tt
      clear tt
      go_wp2_with fail
      refine (HB.out _ _ _ _ P_2.out HM2.out).mono ?_
      rintro e w3 ⟨la, ll, lq, rfl, tt, pp, kp⟩
      have P_3 := Lib.hid pp
      have R_3 := Lib.hid (R_2.out.kp kp (by omega))
      have Tk_3 := Lib.hid (Tk_2.out.kp kp (by first | omega | (simp; omega)))
      have K_3 := K_2.trans kp
      have l_3 : w2.heap.size + 0 ≤ w3.heap.size := by have := kp.size; simpa using this
      clear kp pp 
      have Tl_3 := Lib.hid tt
      clear tt
      have hi2 := P_3.out.lt
      have Ux_3 := Lib.hid (Tk_3.out.mono (S' := fun b => w.heap.size + 1 ≤ b ∧ b < w3.heap.size) (fun b hb hl => ⟨by omega, hl⟩))
      have Uy_3 := Lib.hid (Tl_3.out.mono (S' := fun b => w.heap.size + 1 ≤ b ∧ b < w3.heap.size) (fun b hb hl => ⟨by omega, hl⟩))
      go_wp2_with fail
      refine (node_any _ [105, 102] _ _ _).mono ?_
      rintro e w4 ⟨rfl, hb⟩
      have kk := Kp.of_below (b := c.bp) hb
      have P_4 := Lib.hid ((P_3.out.alloc _).below hb)
      have R_4 := Lib.hid ((R_3.out.alloc _).kp kk (by omega))
      have A_4 := Lib.hid (((Blk.new w3 25 #[vs m1.op, vs m1.text, .int .i64 m1.pos, .slice ka kl kq, vs m2.op, vs m2.text, .int .i64 m2.pos, .slice la ll lq])).kp kk (by omega))
      have Ux_4 := Lib.hid ((Ux_3.out.alloc _).kp kk (by first | omega | (simp; omega)))
      have Uy_4 := Lib.hid ((Uy_3.out.alloc _).kp kk (by first | omega | (simp; omega)))
      have K_4 := (K_3.alloc _).trans kk
      have l_4 : w3.heap.size + 1 ≤ w4.heap.size := by have := kk.size; simpa using this
      clear kk hb 
      have d1 := P_4.out.c1
      have lp := P_4.out.blk.lt
      go_wp2_with fail
      refine (lines_any c _ _ (P_4.out.alloc _)).mono ?_
      rintro e w5 ⟨rfl, pp, kp⟩
      have P_5 := Lib.hid pp
      have R_5 := Lib.hid ((R_4.out.alloc _).kp kp (by omega))
      have A_5 := Lib.hid ((A_4.out.alloc _).kp kp (by omega))
      have N_5 := Lib.hid (((Blk.new w4 25 #[vs [105, 102], vs [], .int .i64 0, .slice (some ⟨w3.heap.size, 0, none⟩) 2 2])).kp kp (by omega))
      have Ux_5 := Lib.hid ((Ux_4.out.alloc _).kp kp (by first | omega | (simp; omega)))
      have Uy_5 := Lib.hid ((Uy_4.out.alloc _).kp kp (by first | omega | (simp; omega)))
      have K_5 := (K_4.alloc _).trans kp
      have l_5 : w4.heap.size + 1 ≤ w5.heap.size := by have := kp.size; simpa using this
      clear kp pp 
      have O_5 : Hid (OutX w5 (w.heap.size + 1) w4.heap.size (.slice (some ⟨w3.heap.size, 0, none⟩) 2 2) [m1, m2]) := OutX.of_blk [(m1, .slice ka kl kq), (m2, .slice la ll lq)] 2 rfl (by simp) (by omega) (by omega) _ rfl A_5.out (by
          intro n k hm
          simp only [List.mem_cons, List.not_mem_nil, or_false, Prod.mk.injEq] at hm
          rcases hm with ⟨rfl, rfl⟩ | ⟨rfl, rfl⟩
          · exact Ux_5.out.mono (fun b hb _ => ⟨by omega, by omega, by omega⟩)
          · exact Uy_5.out.mono (fun b hb _ => ⟨by omega, by omega, by omega⟩))
      clear d1
      go_wp2_with fail
      refine (accept_t c _ _ P_5.out [59] HA.out).mono ?_
      rintro e w6 ⟨rfl, pp, kp⟩
      have P_6 := Lib.hid pp
      have R_6 := Lib.hid (R_5.out.kp kp (by omega))
      have N_6 := Lib.hid (N_5.out.kp kp (by omega))
      have O_6 := Lib.hid (O_5.out.kp kp (by first | omega | (simp; omega)))
      have K_6 := K_5.trans kp
      have l_6 : w5.heap.size + 0 ≤ w6.heap.size := by have := kp.size; simpa using this
      clear kp pp 
      go_wp2_with fail
      refine (lines_any c _ _ P_6.out).mono ?_
      rintro e w7 ⟨rfl, pp, kp⟩
      have P_7 := Lib.hid pp
      have R_7 := Lib.hid (R_6.out.kp kp (by omega))
      have N_7 := Lib.hid (N_6.out.kp kp (by omega))
      have O_7 := Lib.hid (O_6.out.kp kp (by first | omega | (simp; omega)))
      have K_7 := K_6.trans kp
      have l_7 : w6.heap.size + 0 ≤ w7.heap.size := by have := kp.size; simpa using this
      clear kp pp 
      go_wp2_with fail
      refine (accept_t c _ _ P_7.out [101, 108, 115, 101] HL.out).mono ?_
      rintro e w8 ⟨rfl, pp, kp⟩
      have P_8 := Lib.hid pp
      have R_8 := Lib.hid (R_7.out.kp kp (by omega))
      have N_8 := Lib.hid (N_7.out.kp kp (by omega))
      have O_8 := Lib.hid (O_7.out.kp kp (by first | omega | (simp; omega)))
      have K_8 := K_7.trans kp
      have l_8 : w7.heap.size + 0 ≤ w8.heap.size := by have := kp.size; simpa using this
      clear kp pp 
      go_wp2_with fail
      have GN := Lib.hid N_8.out.drew
      have GO := Lib.hid O_8.out.drew
      obtain ⟨y0, y1, y2, y3⟩ := N_8.out.four
      go_region_law (first
        | (go_simp; go_at_call 85; refine (HB.out _ _ _ _ P_8.out.drew HM.out).mono ?_; rintro e w9 ⟨ma, ml, mq, rfl, tt, pp, kp⟩; have GN4 := Lib.hid (GN.out.kp kp (by omega)); have GO4 := Lib.hid (GO.out.kp kp (by omega)); have lk : w8.heap.size ≤ w9.heap.size := kp.size; have ln4 := GN4.out.lt; obtain ⟨z0, z1, z2, z3⟩ := GN4.out.four; have PP := Lib.hid pp; have TT := Lib.hid tt; clear pp tt)
        | (refine step_append_x _ rfl (.tmp 26) (.tmp 29) rfl rfl (w.heap.size + 1) w4.heap.size (.slice (some ⟨w3.heap.size, 0, none⟩) 2 2) [m1, m2] [(m, .slice ma ml mq)] _ rfl rfl (GO4.out.alloc _) (by simp) (by simp; omega) (.inr ⟨w9.heap.size, 1, rfl, row1 (Blk.new w9 25 #[vs m.op, vs m.text, .int .i64 m.pos, .slice ma ml mq])⟩) ?hk (by simp) (by simp; omega) ?_; (case hk => intro n k hm; simp only [List.mem_cons, List.not_mem_nil, or_false, Prod.mk.injEq] at hm; obtain ⟨rfl, rfl⟩ := hm; exact (KidsAt.mono (fun b (hb : w8.heap.size ≤ b) _ => ⟨by omega, by (intro e; have e : w3.heap.size = b := Option.some.inj e; omega), by omega⟩) TT.out).alloc _); rintro v' w10 ⟨hO, hG, hlo⟩; obtain ⟨a', q', rfl⟩ := hO.len; have GN5 := Lib.hid ((GN4.out.alloc _).grown hG (fun e => (hlo _ e.symm).2 rfl)); obtain ⟨x0, x1, x2, x3⟩ := GN5.out.four; have xf := GN5.out.frozen 3; have GHO := Lib.hid hO; have GHG := Lib.hid hG; clear hO hG))
      all_goals
        have P_9 := Lib.hid PP
        have R_9 := Lib.hid (R_8.out.drew.kp kp (by omega))
        have N_9 := Lib.hid (N_8.out.drew.kp kp (by omega))
        have O_9 := Lib.hid (O_8.out.drew.kp kp (by first | omega | (simp; omega)))
        have K_9 := K_8.drew.trans kp
        have l_9 : w8.heap.size + 0 ≤ w9.heap.size := by have := kp.size; simpa using this
        have PA := Lib.hid (((P_9.out.alloc (.cells #[vs m.op, vs m.text, .int .i64 m.pos, .slice ma ml mq] 25)).grown GHG.out (fun k hk => by have := hlo k hk; omega)).far (p := ⟨w4.heap.size, 3, none⟩) (by simp; omega) (.slice a' 3 q'))
        have KA := ((K_9.alloc (.cells #[vs m.op, vs m.text, .int .i64 m.pos, .slice ma ml mq] 25)).grown GHG.out (fun k hk => by have := hlo k hk; omega)).setN (g := w4.heap.size) (by omega) 3 (.slice a' 3 q')
        have RA := Lib.hid (((R_9.out.alloc (.cells #[vs m.op, vs m.text, .int .i64 m.pos, .slice ma ml mq] 25)).grown GHG.out (fun e => by have := hlo _ e.symm; omega)).far (p := ⟨w4.heap.size, 3, none⟩) (by simp; omega) (.slice a' 3 q'))
        have NA := Lib.hid (GN5.out.set_ 3 (.slice a' 3 q'))
        simp at NA
        have OA := Lib.hid ((GHO.out.kids.mono (fun b hb _ => by omega) : KidsAt _ (fun b => w.heap.size + 1 ≤ b ∧ b ≠ w4.heap.size) (.slice a' 3 q') [m1, m2, m]).kp ((Kp.refl w4.heap.size _).setB 3 (.slice a' 3 q')) (by simp))
        obtain ⟨u0, u1, u2, u3⟩ := NA.out.four
        obtain ⟨r0, r1, r2, r3⟩ := RA.out.four
        have rf0 := RA.out.frozen 0
        have rf1 := RA.out.frozen 1
        have rf2 := RA.out.frozen 2
        have rf3 := RA.out.frozen 3
        go_wp2_with fail
        exact bodyPost_ret (results_node Tryz.results83 rfl RA.out.put4) rfl ⟨a', 3, q', rfl, (OA.out.put4 (fun hx => by have := hx.1; omega)).mono (fun b hb _ => by omega), PA.out.put4 (by omega), KA.put4 (Nat.le_refl _)⟩
  | false =>
    rw [hat] at hh
    simp only [Bool.false_eq_true, if_false] at hh
    have HA := Lib.hid hat
    clear hat
    cases hel : Pp.at_ c.T [[101, 108, 115, 101]] (Pp.lines c.T s2) with
    | false =>
      rw [if_neg (by simp [hel])] at hh
      have HL := Lib.hid hel
      clear hel
      go_enter Tryz.func83, Tryz.ntmps83
      go_wp2_with fail
      refine (expect_any c _ _ (P_0.out.alloc _) [40]).mono ?_
      rintro e w1 ⟨rfl, pp, kp⟩
      have P_1 := Lib.hid pp
      have R_1 := Lib.hid (((Blk.new w 25 z4)).kp kp (by omega))
      have K_1 := ((Kp.refl c.bp w).alloc _).trans kp
      have l_1 : w.heap.size + 1 ≤ w1.heap.size := by have := kp.size; simpa using this
      clear kp pp 
      go_wp2_with fail
      refine (inside_any c E HE.out [41] _ _ _ _ P_1.out HM1.out).mono ?_
      rintro e w2 ⟨ka, kl, kq, rfl, tt, pp, kp⟩
      have P_2 := Lib.hid pp
      have R_2 := Lib.hid (R_1.out.kp kp (by omega))
      have K_2 := K_1.trans kp
      have l_2 : w1.heap.size + 0 ≤ w2.heap.size := by have := kp.size; simpa using this
      clear kp pp 
      have Tk_2 := Lib.hid tt
      clear tt
      go_wp2_with fail
      refine (HB.out _ _ _ _ P_2.out HM2.out).mono ?_
      rintro e w3 ⟨la, ll, lq, rfl, tt, pp, kp⟩
      have P_3 := Lib.hid pp
      have R_3 := Lib.hid (R_2.out.kp kp (by omega))
      have Tk_3 := Lib.hid (Tk_2.out.kp kp (by first | omega | (simp; omega)))
      have K_3 := K_2.trans kp
      have l_3 : w2.heap.size + 0 ≤ w3.heap.size := by have := kp.size; simpa using this
      clear kp pp 
      have Tl_3 := Lib.hid tt
      clear tt
      have hi2 := P_3.out.lt
      have Ux_3 := Lib.hid (Tk_3.out.mono (S' := fun b => w.heap.size + 1 ≤ b ∧ b < w3.heap.size) (fun b hb hl => ⟨by omega, hl⟩))
      have Uy_3 := Lib.hid (Tl_3.out.mono (S' := fun b => w.heap.size + 1 ≤ b ∧ b < w3.heap.size) (fun b hb hl => ⟨by omega, hl⟩))
      go_wp2_with fail
      refine (node_any _ [105, 102] _ _ _).mono ?_
      rintro e w4 ⟨rfl, hb⟩
      have kk := Kp.of_below (b := c.bp) hb
      have P_4 := Lib.hid ((P_3.out.alloc _).below hb)
      have R_4 := Lib.hid ((R_3.out.alloc _).kp kk (by omega))
      have A_4 := Lib.hid (((Blk.new w3 25 #[vs m1.op, vs m1.text, .int .i64 m1.pos, .slice ka kl kq, vs m2.op, vs m2.text, .int .i64 m2.pos, .slice la ll lq])).kp kk (by omega))
      have Ux_4 := Lib.hid ((Ux_3.out.alloc _).kp kk (by first | omega | (simp; omega)))
      have Uy_4 := Lib.hid ((Uy_3.out.alloc _).kp kk (by first | omega | (simp; omega)))
      have K_4 := (K_3.alloc _).trans kk
      have l_4 : w3.heap.size + 1 ≤ w4.heap.size := by have := kk.size; simpa using this
      clear kk hb 
      have d1 := P_4.out.c1
      have lp := P_4.out.blk.lt
      go_wp2_with fail
      refine (lines_any c _ _ (P_4.out.alloc _)).mono ?_
      rintro e w5 ⟨rfl, pp, kp⟩
      have P_5 := Lib.hid pp
      have R_5 := Lib.hid ((R_4.out.alloc _).kp kp (by omega))
      have A_5 := Lib.hid ((A_4.out.alloc _).kp kp (by omega))
      have N_5 := Lib.hid (((Blk.new w4 25 #[vs [105, 102], vs [], .int .i64 0, .slice (some ⟨w3.heap.size, 0, none⟩) 2 2])).kp kp (by omega))
      have Ux_5 := Lib.hid ((Ux_4.out.alloc _).kp kp (by first | omega | (simp; omega)))
      have Uy_5 := Lib.hid ((Uy_4.out.alloc _).kp kp (by first | omega | (simp; omega)))
      have K_5 := (K_4.alloc _).trans kp
      have l_5 : w4.heap.size + 1 ≤ w5.heap.size := by have := kp.size; simpa using this
      clear kp pp 
      have O_5 : Hid (OutX w5 (w.heap.size + 1) w4.heap.size (.slice (some ⟨w3.heap.size, 0, none⟩) 2 2) [m1, m2]) := OutX.of_blk [(m1, .slice ka kl kq), (m2, .slice la ll lq)] 2 rfl (by simp) (by omega) (by omega) _ rfl A_5.out (by
          intro n k hm
          simp only [List.mem_cons, List.not_mem_nil, or_false, Prod.mk.injEq] at hm
          rcases hm with ⟨rfl, rfl⟩ | ⟨rfl, rfl⟩
          · exact Ux_5.out.mono (fun b hb _ => ⟨by omega, by omega, by omega⟩)
          · exact Uy_5.out.mono (fun b hb _ => ⟨by omega, by omega, by omega⟩))
      clear d1
      go_wp2_with fail
      refine (accept_f c _ _ P_5.out [59] HA.out).mono ?_
      rintro e w6 ⟨rfl, pp, kp⟩
      have P_6 := Lib.hid pp
      have R_6 := Lib.hid (R_5.out.kp kp (by omega))
      have N_6 := Lib.hid (N_5.out.kp kp (by omega))
      have O_6 := Lib.hid (O_5.out.kp kp (by first | omega | (simp; omega)))
      have K_6 := K_5.trans kp
      have l_6 : w5.heap.size + 0 ≤ w6.heap.size := by have := kp.size; simpa using this
      clear kp pp 
      go_wp2_with fail
      refine (accept_f c _ _ P_6.out [101, 108, 115, 101] HL.out).mono ?_
      rintro e w7 ⟨rfl, pp, kp⟩
      have P_7 := Lib.hid pp
      have R_7 := Lib.hid (R_6.out.kp kp (by omega))
      have N_7 := Lib.hid (N_6.out.kp kp (by omega))
      have O_7 := Lib.hid (O_6.out.kp kp (by first | omega | (simp; omega)))
      have K_7 := K_6.trans kp
      have l_7 : w6.heap.size + 0 ≤ w7.heap.size := by have := kp.size; simpa using this
      clear kp pp 
      have d4 := P_7.out.c4
      have z1 := P_7.out.fz 1
      have d1 := P_7.out.c1
      obtain ⟨y0, y1, y2, y3⟩ := N_7.out.four
      obtain ⟨r0, r1, r2, r3⟩ := R_7.out.four
      have rf0 := R_7.out.frozen 0
      have rf1 := R_7.out.frozen 1
      have rf2 := R_7.out.frozen 2
      have rf3 := R_7.out.frozen 3
      by_cases he : ((Pp.lines c.T s2)).err = 0
      · have he0 : (((Pp.lines c.T s2)).err == 0) = true := by simpa using he
        rw [if_pos he] at hh
        simp only [Option.some.injEq, Prod.mk.injEq] at hh
        obtain ⟨rfl, rfl⟩ := hh
        have PE := Lib.hid (P_7.out.set { (Pp.lines c.T s2) with i := s2.i } 1 (.int .i64 s2.i) (by simp) hi2 P_7.out.deep)
        have RE := Lib.hid (R_7.out.kp ((Kp.refl c.bp _).setB 1 (.int .i64 s2.i)) (by omega))
        have OE := Lib.hid (O_7.out.kp ((Kp.refl c.bp _).setB 1 (.int .i64 s2.i)) (by omega))
        have KE := K_7.setB 1 (.int .i64 s2.i)
        go_wp2_with fail
        exact bodyPost_ret (results_node Tryz.results83 rfl RE.out.put4) rfl ⟨_, 2, 2, rfl, (OE.out.out.kids.put4 (by simp)).mono (fun b hb _ => by omega), PE.out.put4 (by omega), KE.put4 (Nat.le_refl _)⟩
      · have he0 : (((Pp.lines c.T s2)).err == 0) = false := by simpa using he
        rw [if_neg he] at hh
        simp only [Option.some.injEq, Prod.mk.injEq] at hh
        obtain ⟨rfl, rfl⟩ := hh
        go_wp2_with fail
        exact bodyPost_ret (results_node Tryz.results83 rfl R_7.out.put4) rfl ⟨_, 2, 2, rfl, (O_7.out.out.kids.put4 (by simp)).mono (fun b hb _ => by omega), P_7.out.put4 (by omega), K_7.put4 (Nat.le_refl _)⟩
    | true =>
      rw [if_pos hel] at hh
      have HL := Lib.hid hel
      clear hel
      cases hE3 : Pp.body c.T S (Pp.step c.T (Pp.lines c.T s2)) with
      | none => rw [hE3] at hh; cases hh
      | some r =>
      obtain ⟨m, s5⟩ := r
      rw [hE3] at hh
      simp only at hh
      simp only [Option.some.injEq, Prod.mk.injEq] at hh
      obtain ⟨rfl, rfl⟩ := hh
      have HM := Lib.hid hE3
      clear hE3
      go_enter Tryz.func83, Tryz.ntmps83
      go_wp2_with fail
      refine (expect_any c _ _ (P_0.out.alloc _) [40]).mono ?_
      rintro e w1 ⟨rfl, pp, kp⟩
      have P_1 := Lib.hid pp
      have R_1 := Lib.hid (((Blk.new w 25 z4)).kp kp (by omega))
      have K_1 := ((Kp.refl c.bp w).alloc _).trans kp
      have l_1 : w.heap.size + 1 ≤ w1.heap.size := by have := kp.size; simpa using this
      clear kp pp 
      go_wp2_with fail
      refine (inside_any c E HE.out [41] _ _ _ _ P_1.out HM1.out).mono ?_
      rintro e w2 ⟨ka, kl, kq, rfl, tt, pp, kp⟩
      have P_2 := Lib.hid pp
      have R_2 := Lib.hid (R_1.out.kp kp (by omega))
      have K_2 := K_1.trans kp
      have l_2 : w1.heap.size + 0 ≤ w2.heap.size := by have := kp.size; simpa using this
      clear kp pp 
      have Tk_2 := Lib.hid tt
      clear tt
      go_wp2_with fail
      refine (HB.out _ _ _ _ P_2.out HM2.out).mono ?_
      rintro e w3 ⟨la, ll, lq, rfl, tt, pp, kp⟩
      have P_3 := Lib.hid pp
      have R_3 := Lib.hid (R_2.out.kp kp (by omega))
      have Tk_3 := Lib.hid (Tk_2.out.kp kp (by first | omega | (simp; omega)))
      have K_3 := K_2.trans kp
      have l_3 : w2.heap.size + 0 ≤ w3.heap.size := by have := kp.size; simpa using this
      clear kp pp 
      have Tl_3 := Lib.hid tt
      clear tt
      have hi2 := P_3.out.lt
      have Ux_3 := Lib.hid (Tk_3.out.mono (S' := fun b => w.heap.size + 1 ≤ b ∧ b < w3.heap.size) (fun b hb hl => ⟨by omega, hl⟩))
      have Uy_3 := Lib.hid (Tl_3.out.mono (S' := fun b => w.heap.size + 1 ≤ b ∧ b < w3.heap.size) (fun b hb hl => ⟨by omega, hl⟩))
      go_wp2_with fail
      refine (node_any _ [105, 102] _ _ _).mono ?_
      rintro e w4 ⟨rfl, hb⟩
      have kk := Kp.of_below (b := c.bp) hb
      have P_4 := Lib.hid ((P_3.out.alloc _).below hb)
      have R_4 := Lib.hid ((R_3.out.alloc _).kp kk (by omega))
      have A_4 := Lib.hid (((Blk.new w3 25 #[vs m1.op, vs m1.text, .int .i64 m1.pos, .slice ka kl kq, vs m2.op, vs m2.text, .int .i64 m2.pos, .slice la ll lq])).kp kk (by omega))
      have Ux_4 := Lib.hid ((Ux_3.out.alloc _).kp kk (by first | omega | (simp; omega)))
      have Uy_4 := Lib.hid ((Uy_3.out.alloc _).kp kk (by first | omega | (simp; omega)))
      have K_4 := (K_3.alloc _).trans kk
      have l_4 : w3.heap.size + 1 ≤ w4.heap.size := by have := kk.size; simpa using this
      clear kk hb 
      have d1 := P_4.out.c1
      have lp := P_4.out.blk.lt
      go_wp2_with fail
      refine (lines_any c _ _ (P_4.out.alloc _)).mono ?_
      rintro e w5 ⟨rfl, pp, kp⟩
      have P_5 := Lib.hid pp
      have R_5 := Lib.hid ((R_4.out.alloc _).kp kp (by omega))
      have A_5 := Lib.hid ((A_4.out.alloc _).kp kp (by omega))
      have N_5 := Lib.hid (((Blk.new w4 25 #[vs [105, 102], vs [], .int .i64 0, .slice (some ⟨w3.heap.size, 0, none⟩) 2 2])).kp kp (by omega))
      have Ux_5 := Lib.hid ((Ux_4.out.alloc _).kp kp (by first | omega | (simp; omega)))
      have Uy_5 := Lib.hid ((Uy_4.out.alloc _).kp kp (by first | omega | (simp; omega)))
      have K_5 := (K_4.alloc _).trans kp
      have l_5 : w4.heap.size + 1 ≤ w5.heap.size := by have := kp.size; simpa using this
      clear kp pp 
      have O_5 : Hid (OutX w5 (w.heap.size + 1) w4.heap.size (.slice (some ⟨w3.heap.size, 0, none⟩) 2 2) [m1, m2]) := OutX.of_blk [(m1, .slice ka kl kq), (m2, .slice la ll lq)] 2 rfl (by simp) (by omega) (by omega) _ rfl A_5.out (by
          intro n k hm
          simp only [List.mem_cons, List.not_mem_nil, or_false, Prod.mk.injEq] at hm
          rcases hm with ⟨rfl, rfl⟩ | ⟨rfl, rfl⟩
          · exact Ux_5.out.mono (fun b hb _ => ⟨by omega, by omega, by omega⟩)
          · exact Uy_5.out.mono (fun b hb _ => ⟨by omega, by omega, by omega⟩))
      clear d1
      go_wp2_with fail
      refine (accept_f c _ _ P_5.out [59] HA.out).mono ?_
      rintro e w6 ⟨rfl, pp, kp⟩
      have P_6 := Lib.hid pp
      have R_6 := Lib.hid (R_5.out.kp kp (by omega))
      have N_6 := Lib.hid (N_5.out.kp kp (by omega))
      have O_6 := Lib.hid (O_5.out.kp kp (by first | omega | (simp; omega)))
      have K_6 := K_5.trans kp
      have l_6 : w5.heap.size + 0 ≤ w6.heap.size := by have := kp.size; simpa using this
      clear kp pp 
      go_wp2_with fail
      refine (accept_t c _ _ P_6.out [101, 108, 115, 101] HL.out).mono ?_
      rintro e w7 ⟨rfl, pp, kp⟩
      have P_7 := Lib.hid pp
      have R_7 := Lib.hid (R_6.out.kp kp (by omega))
      have N_7 := Lib.hid (N_6.out.kp kp (by omega))
      have O_7 := Lib.hid (O_6.out.kp kp (by first | omega | (simp; omega)))
      have K_7 := K_6.trans kp
      have l_7 : w6.heap.size + 0 ≤ w7.heap.size := by have := kp.size; simpa using this
      clear kp pp 
      go_wp2_with fail
      have GN := Lib.hid N_7.out.drew
      have GO := Lib.hid O_7.out.drew
      obtain ⟨y0, y1, y2, y3⟩ := N_7.out.four
      go_region_law (first
        | (go_simp; go_at_call 85; refine (HB.out _ _ _ _ P_7.out.drew HM.out).mono ?_; rintro e w8 ⟨ma, ml, mq, rfl, tt, pp, kp⟩; have GN4 := Lib.hid (GN.out.kp kp (by omega)); have GO4 := Lib.hid (GO.out.kp kp (by omega)); have lk : w7.heap.size ≤ w8.heap.size := kp.size; have ln4 := GN4.out.lt; obtain ⟨z0, z1, z2, z3⟩ := GN4.out.four; have PP := Lib.hid pp; have TT := Lib.hid tt; clear pp tt)
        | (refine step_append_x _ rfl (.tmp 26) (.tmp 29) rfl rfl (w.heap.size + 1) w4.heap.size (.slice (some ⟨w3.heap.size, 0, none⟩) 2 2) [m1, m2] [(m, .slice ma ml mq)] _ rfl rfl (GO4.out.alloc _) (by simp) (by simp; omega) (.inr ⟨w8.heap.size, 1, rfl, row1 (Blk.new w8 25 #[vs m.op, vs m.text, .int .i64 m.pos, .slice ma ml mq])⟩) ?hk (by simp) (by simp; omega) ?_; (case hk => intro n k hm; simp only [List.mem_cons, List.not_mem_nil, or_false, Prod.mk.injEq] at hm; obtain ⟨rfl, rfl⟩ := hm; exact (KidsAt.mono (fun b (hb : w7.heap.size ≤ b) _ => ⟨by omega, by (intro e; have e : w3.heap.size = b := Option.some.inj e; omega), by omega⟩) TT.out).alloc _); rintro v' w9 ⟨hO, hG, hlo⟩; obtain ⟨a', q', rfl⟩ := hO.len; have GN5 := Lib.hid ((GN4.out.alloc _).grown hG (fun e => (hlo _ e.symm).2 rfl)); obtain ⟨x0, x1, x2, x3⟩ := GN5.out.four; have xf := GN5.out.frozen 3; have GHO := Lib.hid hO; have GHG := Lib.hid hG; clear hO hG))
      all_goals
        have P_8 := Lib.hid PP
        have R_8 := Lib.hid (R_7.out.drew.kp kp (by omega))
        have N_8 := Lib.hid (N_7.out.drew.kp kp (by omega))
        have O_8 := Lib.hid (O_7.out.drew.kp kp (by first | omega | (simp; omega)))
        have K_8 := K_7.drew.trans kp
        have l_8 : w7.heap.size + 0 ≤ w8.heap.size := by have := kp.size; simpa using this
        have PA := Lib.hid (((P_8.out.alloc (.cells #[vs m.op, vs m.text, .int .i64 m.pos, .slice ma ml mq] 25)).grown GHG.out (fun k hk => by have := hlo k hk; omega)).far (p := ⟨w4.heap.size, 3, none⟩) (by simp; omega) (.slice a' 3 q'))
        have KA := ((K_8.alloc (.cells #[vs m.op, vs m.text, .int .i64 m.pos, .slice ma ml mq] 25)).grown GHG.out (fun k hk => by have := hlo k hk; omega)).setN (g := w4.heap.size) (by omega) 3 (.slice a' 3 q')
        have RA := Lib.hid (((R_8.out.alloc (.cells #[vs m.op, vs m.text, .int .i64 m.pos, .slice ma ml mq] 25)).grown GHG.out (fun e => by have := hlo _ e.symm; omega)).far (p := ⟨w4.heap.size, 3, none⟩) (by simp; omega) (.slice a' 3 q'))
        have NA := Lib.hid (GN5.out.set_ 3 (.slice a' 3 q'))
        simp at NA
        have OA := Lib.hid ((GHO.out.kids.mono (fun b hb _ => by omega) : KidsAt _ (fun b => w.heap.size + 1 ≤ b ∧ b ≠ w4.heap.size) (.slice a' 3 q') [m1, m2, m]).kp ((Kp.refl w4.heap.size _).setB 3 (.slice a' 3 q')) (by simp))
        obtain ⟨u0, u1, u2, u3⟩ := NA.out.four
        obtain ⟨r0, r1, r2, r3⟩ := RA.out.four
        have rf0 := RA.out.frozen 0
        have rf1 := RA.out.frozen 1
        have rf2 := RA.out.frozen 2
        have rf3 := RA.out.frozen 3
        go_wp2_with fail
        exact bodyPost_ret (results_node Tryz.results83 rfl RA.out.put4) rfl ⟨a', 3, q', rfl, (OA.out.put4 (fun hx => by have := hx.1; omega)).mono (fun b hb _ => by omega), PA.out.put4 (by omega), KA.put4 (Nat.le_refl _)⟩

end Go.Proofs.YtgnmfaeonijogaaGreatDoor
