/- Walked: an expression. -/
import Derived.Test.YtgnmfaeonijogaaGreatDoorExprA
import Derived.Test.YtgnmfaeonijogaaGreatDoorDeep
import Derived.Deep.RegionWith
namespace Go.Proofs.YtgnmfaeonijogaaGreatDoor
open Go.RowKit

theorem blk_new_put4 (w : World) (R : Nat) (a b c d : Value) (t : TypeId) (cs : Array Value) : Blk (((((w.setCell ⟨R, 0, none⟩ a).setCell ⟨R, 1, none⟩ b).setCell ⟨R, 2, none⟩ c).setCell ⟨R, 3, none⟩ d).alloc (.cells cs t)) w.heap.size t cs := by
  have := Blk.new ((((w.setCell ⟨R, 0, none⟩ a).setCell ⟨R, 1, none⟩ b).setCell ⟨R, 2, none⟩ c).setCell ⟨R, 3, none⟩ d) t cs
  simpa using this

set_option maxRecDepth 100000 in
set_option maxHeartbeats 16000000 in
theorem expr_step (c : PC) (rx : Pp.Bytes → Int) (E : Pp.PS → Option (Pp.Node × Pp.PS)) (k : Nat) (hE : IsN c 46 E) (hO : IsN c 73 (Pp.orF rx c.T E k)) (hKE : Pp.KD E) : IsN c 46 (Pp.exprG rx c.T E k) := by
  intro w s n s' h hh
  have hKO := Pp.kd_or (T := c.T) rx hKE k
  have hKX := Pp.kd_exprG (T := c.T) rx hKE k s n s' hh
  have hlo := h.deep.1
  have HE := Lib.hid hE
  have HO := Lib.hid hO
  have P_0 := Lib.hid h
  have hb := h.blk.lt
  unfold Pp.exprG at hh
  cases hdn : Pp.down c.T s with
  | none => rw [hdn] at hh; cases hh
  | some s0 =>
  rw [hdn] at hh
  simp only at hh
  have HDn := Lib.hid hdn
  have hdd := down_deep hdn
  cases hEm : Pp.orF rx c.T E k s0 with
  | none => rw [hEm] at hh; cases hh
  | some r =>
  obtain ⟨n1, s1⟩ := r
  rw [hEm] at hh
  simp only at hh
  have HM := Lib.hid hEm
  have hd1 := hKO _ _ _ hEm
  clear hE hO h hdn hEm hKO
  cases hq : Pp.at_ c.T [[63]] s1 with
  | true =>
    rw [if_pos hq] at hh
    have HQ := Lib.hid hq
    clear hq
    cases hE2 : E (Pp.lines c.T (Pp.step c.T s1)) with
    | none => rw [hE2] at hh; cases hh
    | some r =>
    obtain ⟨m2, s2⟩ := r
    rw [hE2] at hh
    simp only at hh
    cases hE3 : E (Pp.lines c.T (Pp.expect c.T [58] (Pp.lines c.T s2))) with
    | none => rw [hE3] at hh; cases hh
    | some r =>
    obtain ⟨m3, s3⟩ := r
    rw [hE3] at hh
    simp only at hh
    simp only [Option.some.injEq, Prod.mk.injEq] at hh
    obtain ⟨rfl, rfl⟩ := hh
    have HM2 := Lib.hid hE2
    have HM3 := Lib.hid hE3
    have hd3 : s3.deep = s.deep + 1 := by simp only [Pp.up] at hKX; omega
    clear hE2 hE3 hdd hd1 hKX
    go_enter_defers Tryz.func46, Tryz.ntmps46
    go_wp2_with fail
    refine (down_any c _ _ s0 (P_0.out.alloc _) HDn.out).mono ?_
    rintro e w1 ⟨rfl, pp, kp⟩
    have P_1 := Lib.hid pp
    have R_1 := Lib.hid (((Blk.new w 25 z4)).kp kp (by omega))
    have K_1 := ((Kp.refl c.bp w).alloc _).trans kp
    have l_1 : w.heap.size + 1 ≤ w1.heap.size := by have := kp.size; simpa using this
    clear kp pp 
    go_wp2_with fail
    refine (HO.out _ _ _ _ P_1.out HM.out).mono ?_
    rintro e w2 ⟨ka, kl, kq, rfl, tt, pp, kp⟩
    have P_2 := Lib.hid pp
    have R_2 := Lib.hid (R_1.out.kp kp (by omega))
    have K_2 := K_1.trans kp
    have l_2 : w1.heap.size + 0 ≤ w2.heap.size := by have := kp.size; simpa using this
    clear kp pp 
    have Tk_2 := Lib.hid tt
    clear tt
    go_wp2_with fail
    refine (accept_t c _ _ (P_2.out.alloc _) [63] HQ.out).mono ?_
    rintro e w3 ⟨rfl, pp, kp⟩
    have P_3 := Lib.hid pp
    have R_3 := Lib.hid ((R_2.out.alloc _).kp kp (by omega))
    have B_3 := Lib.hid (((Blk.new w2 25 #[vs n1.op, vs n1.text, .int .i64 n1.pos, .slice ka kl kq])).kp kp (by omega))
    have Tk_3 := Lib.hid ((Tk_2.out.alloc _).kp kp (by first | omega | (simp; omega)))
    have K_3 := (K_2.alloc _).trans kp
    have l_3 : w2.heap.size + 1 ≤ w3.heap.size := by have := kp.size; simpa using this
    clear kp pp 
    go_wp2_with fail
    refine (lines_any c _ _ P_3.out).mono ?_
    rintro e w4 ⟨rfl, pp, kp⟩
    have P_4 := Lib.hid pp
    have R_4 := Lib.hid (R_3.out.kp kp (by omega))
    have B_4 := Lib.hid (B_3.out.kp kp (by omega))
    have Tk_4 := Lib.hid (Tk_3.out.kp kp (by first | omega | (simp; omega)))
    have K_4 := K_3.trans kp
    have l_4 : w3.heap.size + 0 ≤ w4.heap.size := by have := kp.size; simpa using this
    clear kp pp 
    go_wp2_with fail
    refine (HE.out _ _ _ _ P_4.out HM2.out).mono ?_
    rintro e w5 ⟨la, ll, lq, rfl, tt, pp, kp⟩
    have P_5 := Lib.hid pp
    have R_5 := Lib.hid (R_4.out.kp kp (by omega))
    have B_5 := Lib.hid (B_4.out.kp kp (by omega))
    have Tk_5 := Lib.hid (Tk_4.out.kp kp (by first | omega | (simp; omega)))
    have K_5 := K_4.trans kp
    have l_5 : w4.heap.size + 0 ≤ w5.heap.size := by have := kp.size; simpa using this
    clear kp pp 
    have Tl_5 := Lib.hid tt
    clear tt
    go_wp2_with fail
    refine (lines_any c _ _ (P_5.out.alloc _)).mono ?_
    rintro e w6 ⟨rfl, pp, kp⟩
    have P_6 := Lib.hid pp
    have R_6 := Lib.hid ((R_5.out.alloc _).kp kp (by omega))
    have B_6 := Lib.hid ((B_5.out.alloc _).kp kp (by omega))
    have C_6 := Lib.hid (((Blk.new w5 25 #[vs m2.op, vs m2.text, .int .i64 m2.pos, .slice la ll lq])).kp kp (by omega))
    have Tk_6 := Lib.hid ((Tk_5.out.alloc _).kp kp (by first | omega | (simp; omega)))
    have Tl_6 := Lib.hid ((Tl_5.out.alloc _).kp kp (by first | omega | (simp; omega)))
    have K_6 := (K_5.alloc _).trans kp
    have l_6 : w5.heap.size + 1 ≤ w6.heap.size := by have := kp.size; simpa using this
    clear kp pp 
    go_wp2_with fail
    refine (expect_any c _ _ P_6.out [58]).mono ?_
    rintro e w7 ⟨rfl, pp, kp⟩
    have P_7 := Lib.hid pp
    have R_7 := Lib.hid (R_6.out.kp kp (by omega))
    have B_7 := Lib.hid (B_6.out.kp kp (by omega))
    have C_7 := Lib.hid (C_6.out.kp kp (by omega))
    have Tk_7 := Lib.hid (Tk_6.out.kp kp (by first | omega | (simp; omega)))
    have Tl_7 := Lib.hid (Tl_6.out.kp kp (by first | omega | (simp; omega)))
    have K_7 := K_6.trans kp
    have l_7 : w6.heap.size + 0 ≤ w7.heap.size := by have := kp.size; simpa using this
    clear kp pp 
    go_wp2_with fail
    refine (lines_any c _ _ P_7.out).mono ?_
    rintro e w8 ⟨rfl, pp, kp⟩
    have P_8 := Lib.hid pp
    have R_8 := Lib.hid (R_7.out.kp kp (by omega))
    have B_8 := Lib.hid (B_7.out.kp kp (by omega))
    have C_8 := Lib.hid (C_7.out.kp kp (by omega))
    have Tk_8 := Lib.hid (Tk_7.out.kp kp (by first | omega | (simp; omega)))
    have Tl_8 := Lib.hid (Tl_7.out.kp kp (by first | omega | (simp; omega)))
    have K_8 := K_7.trans kp
    have l_8 : w7.heap.size + 0 ≤ w8.heap.size := by have := kp.size; simpa using this
    clear kp pp 
    go_wp2_with fail
    have GB := Lib.hid B_8.out.drew
    have GC := Lib.hid C_8.out.drew
    have GT := Lib.hid R_8.out.drew
    obtain ⟨ld0, ld1, ld2, ld3⟩ := B_8.out.four
    obtain ⟨lc0, lc1, lc2, lc3⟩ := C_8.out.four
    refine wp_region_noPanic ?_
    go_region_with (first
      | (go_at_call 46; refine (HE.out _ _ _ _ P_8.out.drew HM3.out).mono ?_; rintro e w9 ⟨ma, ml, mq, rfl, tt, pp, kp⟩; have GB4 := Lib.hid (GB.out.kp kp (by omega)); have GC4 := Lib.hid (GC.out.kp kp (by omega)); have GT4 := Lib.hid (GT.out.kp kp (by omega)); obtain ⟨lq0, lq1, lq2, lq3⟩ := GB4.out.four; obtain ⟨lr0, lr1, lr2, lr3⟩ := GC4.out.four; have PP := Lib.hid pp; have TT := Lib.hid tt; clear pp tt)
      | (go_at_call 25; refine (node_any _ _ _ _ _).mono ?_; rintro e w10 ⟨rfl, hb⟩; have lk := kp.size; have GT5 := Lib.hid ((GT4.out.alloc _).under hb); obtain ⟨gt0, gt1, gt2, gt3⟩ := GT5.out.four; have gf0 := GT5.out.frozen 0; have gf1 := GT5.out.frozen 1; have gf2 := GT5.out.frozen 2; have gf3 := GT5.out.frozen 3))
    all_goals
      refine NoPanic.normal ?_
      have P_9 := Lib.hid PP
      have R_9 := Lib.hid (R_8.out.drew.kp kp (by omega))
      have B_9 := Lib.hid (B_8.out.drew.kp kp (by omega))
      have C_9 := Lib.hid (C_8.out.drew.kp kp (by omega))
      have Tk_9 := Lib.hid (Tk_8.out.drew.kp kp (by first | omega | (simp; omega)))
      have Tl_9 := Lib.hid (Tl_8.out.drew.kp kp (by first | omega | (simp; omega)))
      have K_9 := K_8.drew.trans kp
      have l_9 : w8.heap.size + 0 ≤ w9.heap.size := by have := kp.size; simpa using this
      have Tm_9 := TT
      have kk := Kp.of_below (b := c.bp) hb
      have P_10 := Lib.hid ((P_9.out.alloc _).below hb)
      have R_10 := Lib.hid ((R_9.out.alloc _).kp kk (by omega))
      have B_10 := Lib.hid ((B_9.out.alloc _).kp kk (by omega))
      have C_10 := Lib.hid ((C_9.out.alloc _).kp kk (by omega))
      have A_10 := Lib.hid (((Blk.new w9 25 #[vs n1.op, vs n1.text, .int .i64 n1.pos, .slice ka kl kq, vs m2.op, vs m2.text, .int .i64 m2.pos, .slice la ll lq, vs m3.op, vs m3.text, .int .i64 m3.pos, .slice ma ml mq])).kp kk (by omega))
      have Tk_10 := Lib.hid ((Tk_9.out.alloc _).kp kk (by first | omega | (simp; omega)))
      have Tl_10 := Lib.hid ((Tl_9.out.alloc _).kp kk (by first | omega | (simp; omega)))
      have Tm_10 := Lib.hid ((Tm_9.out.alloc _).kp kk (by first | omega | (simp; omega)))
      have K_10 := (K_9.alloc _).trans kk
      have l_10 : w9.heap.size + 1 ≤ w10.heap.size := by have := kk.size; simpa using this
      clear kp kk hb
      go_wp2_with fail
      refine leaves_cons (f := 72) (args := #[.pointer (some ⟨c.bp, 0, none⟩)]) (by simp) (by simp [go_sem]) ?_
      refine (up_deferred c _ _ (P_10.out.put4 (by omega)) (by omega) .returning).mono ?_
      rintro e u w11 ⟨rfl, rfl, pp, kp⟩
      have RZ := (R_10.out.put4 (a := vs [99, 111, 110, 100]) (b := vs []) (c := .int .i64 0) (d := .slice (some ⟨w9.heap.size, 0, none⟩) 3 3))
      have RZ := (RZ).kp kp (by omega)
      refine ⟨_, results_node Tryz.results46 rfl RZ, _, _, _, rfl, ?_, pp, (K_10.put4 (Nat.le_refl _)).trans kp⟩
      exact (((KidsAt.three (n1 := n1) (n2 := m2) (n3 := m3) (S := fun b => w.heap.size < b) A_10.out (by omega) (Tk_10.out.mono (fun b hb _ => by first | omega | (simp at hb; omega))) (Tl_10.out.mono (fun b hb _ => by first | omega | (simp at hb; omega))) (Tm_10.out.mono (fun b hb _ => by first | omega | (simp at hb; omega)))).put4 (by simp)).kp kp (by omega)).mono (fun b hb _ => by omega)
  | false =>
  rw [if_neg (by simp [hq])] at hh
  have HQ := Lib.hid hq
  have hcur := fun W hW => cur_any c W s1 hW
  generalize ht : Pp.cur c.T s1 = tk at *
  have Hcur := Lib.hid hcur
  clear hq hcur ht
  cases hpl : Pp.place n1 with
  | false =>
    rw [if_neg (by simp [hpl])] at hh
    simp only [Option.some.injEq, Prod.mk.injEq] at hh
    obtain ⟨rfl, rfl⟩ := hh
    have hd3 : s1.deep = s.deep + 1 := by omega
    clear hdd hd1 hKX
    go_enter_defers Tryz.func46, Tryz.ntmps46
    go_wp2_with fail
    refine (down_any c _ _ s0 (P_0.out.alloc _) HDn.out).mono ?_
    rintro e w1 ⟨rfl, pp, kp⟩
    have P_1 := Lib.hid pp
    have R_1 := Lib.hid (((Blk.new w 25 z4)).kp kp (by omega))
    have K_1 := ((Kp.refl c.bp w).alloc _).trans kp
    have l_1 : w.heap.size + 1 ≤ w1.heap.size := by have := kp.size; simpa using this
    clear kp pp 
    go_wp2_with fail
    refine (HO.out _ _ _ _ P_1.out HM.out).mono ?_
    rintro e w2 ⟨ka, kl, kq, rfl, tt, pp, kp⟩
    have P_2 := Lib.hid pp
    have R_2 := Lib.hid (R_1.out.kp kp (by omega))
    have K_2 := K_1.trans kp
    have l_2 : w1.heap.size + 0 ≤ w2.heap.size := by have := kp.size; simpa using this
    clear kp pp 
    have Tk_2 := Lib.hid tt
    clear tt
    go_wp2_with fail
    refine (accept_f c _ _ (P_2.out.alloc _) [63] HQ.out).mono ?_
    rintro e w3 ⟨rfl, pp, kp⟩
    have P_3 := Lib.hid pp
    have R_3 := Lib.hid ((R_2.out.alloc _).kp kp (by omega))
    have B_3 := Lib.hid (((Blk.new w2 25 #[vs n1.op, vs n1.text, .int .i64 n1.pos, .slice ka kl kq])).kp kp (by omega))
    have Tk_3 := Lib.hid ((Tk_2.out.alloc _).kp kp (by first | omega | (simp; omega)))
    have K_3 := (K_2.alloc _).trans kp
    have l_3 : w2.heap.size + 1 ≤ w3.heap.size := by have := kp.size; simpa using this
    clear kp pp 
    go_wp2_with fail
    refine (Hcur.out _ P_3.out).mono ?_
    rintro e w4 ⟨rfl, hb⟩
    have kk := Kp.of_below (b := c.bp) hb
    have P_4 := Lib.hid (P_3.out.below hb)
    have R_4 := Lib.hid (R_3.out.kp kk (by omega))
    have B_4 := Lib.hid (B_3.out.kp kk (by omega))
    have Tk_4 := Lib.hid (Tk_3.out.kp kk (by first | omega | (simp; omega)))
    have K_4 := K_3.trans kk
    have l_4 : w3.heap.size + 0 ≤ w4.heap.size := by have := kk.size; simpa using this
    clear kk hb 
    obtain ⟨b0, b1, b2, b3⟩ := B_4.out.four
    have lb := B_4.out.lt
    go_wp2_with fail
    refine (place_any _ n1 ka kl kq).mono ?_
    rintro e w5 ⟨rfl, hb⟩
    have kk := Kp.of_below (b := c.bp) hb
    have P_5 := Lib.hid ((P_4.out.alloc _).below hb)
    have R_5 := Lib.hid ((R_4.out.alloc _).kp kk (by omega))
    have B_5 := Lib.hid ((B_4.out.alloc _).kp kk (by omega))
    have D_5 := Lib.hid (((Blk.new w4 60 #[.int .i64 tk.kind, vs tk.text, .int .i64 tk.pos])).kp kk (by omega))
    have Tk_5 := Lib.hid ((Tk_4.out.alloc _).kp kk (by first | omega | (simp; omega)))
    have K_5 := (K_4.alloc _).trans kk
    have l_5 : w4.heap.size + 1 ≤ w5.heap.size := by have := kk.size; simpa using this
    clear kk hb 
    rw [hpl]
    obtain ⟨y0, y1, y2, y3⟩ := B_5.out.four
    obtain ⟨r0, r1, r2, r3⟩ := R_5.out.four
    have rf0 := R_5.out.frozen 0
    have rf1 := R_5.out.frozen 1
    have rf2 := R_5.out.frozen 2
    have rf3 := R_5.out.frozen 3
    go_wp2_with fail
    refine leaves_cons (f := 72) (args := #[.pointer (some ⟨c.bp, 0, none⟩)]) (by simp) (by simp [go_sem]) ?_
    refine (up_deferred c _ _ ((P_5.out.put4 (by omega))) (by omega) .returning).mono ?_
    rintro e u w6 ⟨rfl, rfl, pp, kp⟩
    have RZ := (R_5.out.put4 (a := vs n1.op) (b := vs n1.text) (c := .int .i64 n1.pos) (d := .slice ka kl kq))
    have RZ := (RZ).kp kp (by omega)
    refine ⟨_, results_node Tryz.results46 rfl RZ, _, _, _, rfl, ?_, pp, ((K_5.put4 (Nat.le_refl _))).trans kp⟩
    exact (((((Tk_5.out.put4 (by first | omega | (simp; omega))))).mono (S' := fun b => w.heap.size < b) (fun b hb _ => by first | omega | (simp at hb; omega))).kp kp (by omega)).mono (fun b hb _ => by omega)
  | true =>
  by_cases h8 : tk.kind = 8
  · have k8 : (tk.kind == 8) = true := by simpa using h8
    cases hc : Pp.assignOps.contains tk.text with
    | false =>
      rw [if_neg (fun x => by have := x.2.2; rw [hc] at this; cases this)] at hh
      clear h8
      simp only [Option.some.injEq, Prod.mk.injEq] at hh
      obtain ⟨rfl, rfl⟩ := hh
      have hd3 : s1.deep = s.deep + 1 := by omega
      clear hdd hd1 hKX
      go_enter_defers Tryz.func46, Tryz.ntmps46
      go_wp2_with fail
      refine (down_any c _ _ s0 (P_0.out.alloc _) HDn.out).mono ?_
      rintro e w1 ⟨rfl, pp, kp⟩
      have P_1 := Lib.hid pp
      have R_1 := Lib.hid (((Blk.new w 25 z4)).kp kp (by omega))
      have K_1 := ((Kp.refl c.bp w).alloc _).trans kp
      have l_1 : w.heap.size + 1 ≤ w1.heap.size := by have := kp.size; simpa using this
      clear kp pp 
      go_wp2_with fail
      refine (HO.out _ _ _ _ P_1.out HM.out).mono ?_
      rintro e w2 ⟨ka, kl, kq, rfl, tt, pp, kp⟩
      have P_2 := Lib.hid pp
      have R_2 := Lib.hid (R_1.out.kp kp (by omega))
      have K_2 := K_1.trans kp
      have l_2 : w1.heap.size + 0 ≤ w2.heap.size := by have := kp.size; simpa using this
      clear kp pp 
      have Tk_2 := Lib.hid tt
      clear tt
      go_wp2_with fail
      refine (accept_f c _ _ (P_2.out.alloc _) [63] HQ.out).mono ?_
      rintro e w3 ⟨rfl, pp, kp⟩
      have P_3 := Lib.hid pp
      have R_3 := Lib.hid ((R_2.out.alloc _).kp kp (by omega))
      have B_3 := Lib.hid (((Blk.new w2 25 #[vs n1.op, vs n1.text, .int .i64 n1.pos, .slice ka kl kq])).kp kp (by omega))
      have Tk_3 := Lib.hid ((Tk_2.out.alloc _).kp kp (by first | omega | (simp; omega)))
      have K_3 := (K_2.alloc _).trans kp
      have l_3 : w2.heap.size + 1 ≤ w3.heap.size := by have := kp.size; simpa using this
      clear kp pp 
      go_wp2_with fail
      refine (Hcur.out _ P_3.out).mono ?_
      rintro e w4 ⟨rfl, hb⟩
      have kk := Kp.of_below (b := c.bp) hb
      have P_4 := Lib.hid (P_3.out.below hb)
      have R_4 := Lib.hid (R_3.out.kp kk (by omega))
      have B_4 := Lib.hid (B_3.out.kp kk (by omega))
      have Tk_4 := Lib.hid (Tk_3.out.kp kk (by first | omega | (simp; omega)))
      have K_4 := K_3.trans kk
      have l_4 : w3.heap.size + 0 ≤ w4.heap.size := by have := kk.size; simpa using this
      clear kk hb 
      obtain ⟨b0, b1, b2, b3⟩ := B_4.out.four
      have lb := B_4.out.lt
      go_wp2_with fail
      refine (place_any _ n1 ka kl kq).mono ?_
      rintro e w5 ⟨rfl, hb⟩
      have kk := Kp.of_below (b := c.bp) hb
      have P_5 := Lib.hid ((P_4.out.alloc _).below hb)
      have R_5 := Lib.hid ((R_4.out.alloc _).kp kk (by omega))
      have B_5 := Lib.hid ((B_4.out.alloc _).kp kk (by omega))
      have D_5 := Lib.hid (((Blk.new w4 60 #[.int .i64 tk.kind, vs tk.text, .int .i64 tk.pos])).kp kk (by omega))
      have Tk_5 := Lib.hid ((Tk_4.out.alloc _).kp kk (by first | omega | (simp; omega)))
      have K_5 := (K_4.alloc _).trans kk
      have l_5 : w4.heap.size + 1 ≤ w5.heap.size := by have := kk.size; simpa using this
      clear kk hb 
      rw [hpl]
      obtain ⟨d0, d1, d2⟩ := D_5.out.tri
      have ldd := D_5.out.lt
      go_wp2_with fail
      refine (containsT_new _ 6 Pp.assignOps _ 6 rfl rfl _ rfl (by omega) tk.text).mono ?_
      rintro e w6 ⟨rfl, rfl⟩
      rw [hc]
      have lB := B_5.out.lt
      have lR := R_5.out.lt
      obtain ⟨y0, y1, y2, y3⟩ := B_5.out.four
      obtain ⟨r0, r1, r2, r3⟩ := R_5.out.four
      have rf0 := R_5.out.frozen 0
      have rf1 := R_5.out.frozen 1
      have rf2 := R_5.out.frozen 2
      have rf3 := R_5.out.frozen 3
      go_wp2_with fail
      refine leaves_cons (f := 72) (args := #[.pointer (some ⟨c.bp, 0, none⟩)]) (by simp) (by simp [go_sem]) ?_
      refine (up_deferred c _ _ ((P_5.out.put4 (by omega)) |>.alloc _) (by omega) .returning).mono ?_
      rintro e u w6 ⟨rfl, rfl, pp, kp⟩
      have RZ := (R_5.out.put4 (a := vs n1.op) (b := vs n1.text) (c := .int .i64 n1.pos) (d := .slice ka kl kq))
      have RZ := (RZ |>.alloc _).kp kp (by omega)
      refine ⟨_, results_node Tryz.results46 rfl RZ, _, _, _, rfl, ?_, pp, ((K_5.put4 (Nat.le_refl _)) |>.alloc _).trans kp⟩
      exact (((((Tk_5.out.put4 (by first | omega | (simp; omega))) |>.alloc _)).mono (S' := fun b => w.heap.size < b) (fun b hb _ => by first | omega | (simp at hb; omega))).kp kp (by omega)).mono (fun b hb _ => by omega)
    | true =>
      rw [if_pos ⟨hpl, h8, hc⟩] at hh
      clear h8
      cases hE2 : E (Pp.lines c.T (Pp.step c.T s1)) with
      | none => rw [hE2] at hh; cases hh
      | some r =>
      obtain ⟨m2, s2⟩ := r
      rw [hE2] at hh
      simp only at hh
      simp only [Option.some.injEq, Prod.mk.injEq] at hh
      obtain ⟨rfl, rfl⟩ := hh
      have HM2 := Lib.hid hE2
      have hd3 : s2.deep = s.deep + 1 := by simp only [Pp.up] at hKX; omega
      clear hE2 hdd hd1 hKX
      go_enter_defers Tryz.func46, Tryz.ntmps46
      go_wp2_with fail
      refine (down_any c _ _ s0 (P_0.out.alloc _) HDn.out).mono ?_
      rintro e w1 ⟨rfl, pp, kp⟩
      have P_1 := Lib.hid pp
      have R_1 := Lib.hid (((Blk.new w 25 z4)).kp kp (by omega))
      have K_1 := ((Kp.refl c.bp w).alloc _).trans kp
      have l_1 : w.heap.size + 1 ≤ w1.heap.size := by have := kp.size; simpa using this
      clear kp pp 
      go_wp2_with fail
      refine (HO.out _ _ _ _ P_1.out HM.out).mono ?_
      rintro e w2 ⟨ka, kl, kq, rfl, tt, pp, kp⟩
      have P_2 := Lib.hid pp
      have R_2 := Lib.hid (R_1.out.kp kp (by omega))
      have K_2 := K_1.trans kp
      have l_2 : w1.heap.size + 0 ≤ w2.heap.size := by have := kp.size; simpa using this
      clear kp pp 
      have Tk_2 := Lib.hid tt
      clear tt
      go_wp2_with fail
      refine (accept_f c _ _ (P_2.out.alloc _) [63] HQ.out).mono ?_
      rintro e w3 ⟨rfl, pp, kp⟩
      have P_3 := Lib.hid pp
      have R_3 := Lib.hid ((R_2.out.alloc _).kp kp (by omega))
      have B_3 := Lib.hid (((Blk.new w2 25 #[vs n1.op, vs n1.text, .int .i64 n1.pos, .slice ka kl kq])).kp kp (by omega))
      have Tk_3 := Lib.hid ((Tk_2.out.alloc _).kp kp (by first | omega | (simp; omega)))
      have K_3 := (K_2.alloc _).trans kp
      have l_3 : w2.heap.size + 1 ≤ w3.heap.size := by have := kp.size; simpa using this
      clear kp pp 
      go_wp2_with fail
      refine (Hcur.out _ P_3.out).mono ?_
      rintro e w4 ⟨rfl, hb⟩
      have kk := Kp.of_below (b := c.bp) hb
      have P_4 := Lib.hid (P_3.out.below hb)
      have R_4 := Lib.hid (R_3.out.kp kk (by omega))
      have B_4 := Lib.hid (B_3.out.kp kk (by omega))
      have Tk_4 := Lib.hid (Tk_3.out.kp kk (by first | omega | (simp; omega)))
      have K_4 := K_3.trans kk
      have l_4 : w3.heap.size + 0 ≤ w4.heap.size := by have := kk.size; simpa using this
      clear kk hb 
      obtain ⟨b0, b1, b2, b3⟩ := B_4.out.four
      have lb := B_4.out.lt
      go_wp2_with fail
      refine (place_any _ n1 ka kl kq).mono ?_
      rintro e w5 ⟨rfl, hb⟩
      have kk := Kp.of_below (b := c.bp) hb
      have P_5 := Lib.hid ((P_4.out.alloc _).below hb)
      have R_5 := Lib.hid ((R_4.out.alloc _).kp kk (by omega))
      have B_5 := Lib.hid ((B_4.out.alloc _).kp kk (by omega))
      have D_5 := Lib.hid (((Blk.new w4 60 #[.int .i64 tk.kind, vs tk.text, .int .i64 tk.pos])).kp kk (by omega))
      have Tk_5 := Lib.hid ((Tk_4.out.alloc _).kp kk (by first | omega | (simp; omega)))
      have K_5 := (K_4.alloc _).trans kk
      have l_5 : w4.heap.size + 1 ≤ w5.heap.size := by have := kk.size; simpa using this
      clear kk hb 
      rw [hpl]
      obtain ⟨d0, d1, d2⟩ := D_5.out.tri
      have ldd := D_5.out.lt
      go_wp2_with fail
      refine (containsT_new _ 6 Pp.assignOps _ 6 rfl rfl _ rfl (by omega) tk.text).mono ?_
      rintro e w6 ⟨rfl, rfl⟩
      rw [hc]
      go_wp2_with fail
      refine (step_any c _ _ (P_5.out.alloc _)).mono ?_
      rintro e w6 ⟨rfl, pp, kp⟩
      have P_6 := Lib.hid pp
      have R_6 := Lib.hid ((R_5.out.alloc _).kp kp (by omega))
      have B_6 := Lib.hid ((B_5.out.alloc _).kp kp (by omega))
      have D_6 := Lib.hid ((D_5.out.alloc _).kp kp (by omega))
      have Tk_6 := Lib.hid ((Tk_5.out.alloc _).kp kp (by first | omega | (simp; omega)))
      have K_6 := (K_5.alloc _).trans kp
      have l_6 : w5.heap.size + 1 ≤ w6.heap.size := by have := kp.size; simpa using this
      clear kp pp 
      go_wp2_with fail
      refine (lines_any c _ _ P_6.out).mono ?_
      rintro e w7 ⟨rfl, pp, kp⟩
      have P_7 := Lib.hid pp
      have R_7 := Lib.hid (R_6.out.kp kp (by omega))
      have B_7 := Lib.hid (B_6.out.kp kp (by omega))
      have D_7 := Lib.hid (D_6.out.kp kp (by omega))
      have Tk_7 := Lib.hid (Tk_6.out.kp kp (by first | omega | (simp; omega)))
      have K_7 := K_6.trans kp
      have l_7 : w6.heap.size + 0 ≤ w7.heap.size := by have := kp.size; simpa using this
      clear kp pp 
      go_wp2_with fail
      have GB := Lib.hid B_7.out.drew
      have GD := Lib.hid D_7.out.drew
      have GT := Lib.hid R_7.out.drew
      obtain ⟨ld0, ld1, ld2, ld3⟩ := B_7.out.four
      obtain ⟨lc0, lc1, lc2⟩ := D_7.out.tri
      refine wp_region_noPanic ?_
      go_region_with (
        (go_at_call 46; refine (HE.out _ _ _ _ P_7.out.drew HM2.out).mono ?_; rintro e w8 ⟨ma, ml, mq, rfl, tt, pp, kp⟩; have GB4 := Lib.hid (GB.out.kp kp (by omega)); have GD4 := Lib.hid (GD.out.kp kp (by omega)); have GT4 := Lib.hid (GT.out.kp kp (by omega)); obtain ⟨lq0, lq1, lq2, lq3⟩ := GB4.out.four; obtain ⟨lr0, lr1, lr2⟩ := GD4.out.tri; obtain ⟨gt0, gt1, gt2, gt3⟩ := GT4.out.four; have gf0 := GT4.out.frozen 0; have gf1 := GT4.out.frozen 1; have gf2 := GT4.out.frozen 2; have gf3 := GT4.out.frozen 3; have lk := kp.size; have lkR := GT4.out.lt; have lkB := GB4.out.lt; have lkD := GD4.out.lt; have PP := Lib.hid pp; have TT := Lib.hid tt; clear pp tt))
      all_goals
        refine NoPanic.normal ?_
        have P_8 := Lib.hid PP
        have R_8 := Lib.hid (R_7.out.drew.kp kp (by omega))
        have B_8 := Lib.hid (B_7.out.drew.kp kp (by omega))
        have D_8 := Lib.hid (D_7.out.drew.kp kp (by omega))
        have Tk_8 := Lib.hid (Tk_7.out.drew.kp kp (by first | omega | (simp; omega)))
        have K_8 := K_7.drew.trans kp
        have l_8 : w7.heap.size + 0 ≤ w8.heap.size := by have := kp.size; simpa using this
        have Tm_8 := TT
        clear kp
        go_wp2_with fail
        refine leaves_cons (f := 72) (args := #[.pointer (some ⟨c.bp, 0, none⟩)]) (by simp) (by simp [go_sem]) ?_
        refine (up_deferred c _ _ ((P_8.out.put4 (by omega)).alloc _) (by omega) .returning).mono ?_
        rintro e u w9 ⟨rfl, rfl, pp, kp⟩
        have RZ := (R_8.out.put4 (a := vs [97, 115, 115, 105, 103, 110]) (b := vs tk.text) (c := .int .i64 0) (d := .slice (some ⟨w8.heap.size, 0, none⟩) 2 2))
        have RZ := (RZ.alloc _).kp kp (by omega)
        refine ⟨_, results_node Tryz.results46 rfl RZ, _, _, _, rfl, ?_, pp, ((K_8.put4 (Nat.le_refl _)).alloc _).trans kp⟩
        exact ((KidsAt.two (n1 := n1) (n2 := m2) (S := fun b => w.heap.size < b) (blk_new_put4 _ _ _ _ _ _ 25 _) (by omega) (((Tk_8.out.put4 (R := w.heap.size) (by first | omega | (simp; omega))).alloc _).mono (fun b hb _ => by first | omega | (simp at hb; omega))) (((Tm_8.out.put4 (R := w.heap.size) (by first | omega | (simp; omega))).alloc _).mono (fun b hb _ => by first | omega | (simp at hb; omega)))).kp kp (by omega)).mono (fun b hb _ => by omega)
  · have k8 : (tk.kind == 8) = false := by simpa using h8
    rw [if_neg (by simp [h8])] at hh
    clear h8
    simp only [Option.some.injEq, Prod.mk.injEq] at hh
    obtain ⟨rfl, rfl⟩ := hh
    have hd3 : s1.deep = s.deep + 1 := by omega
    clear hdd hd1 hKX
    go_enter_defers Tryz.func46, Tryz.ntmps46
    go_wp2_with fail
    refine (down_any c _ _ s0 (P_0.out.alloc _) HDn.out).mono ?_
    rintro e w1 ⟨rfl, pp, kp⟩
    have P_1 := Lib.hid pp
    have R_1 := Lib.hid (((Blk.new w 25 z4)).kp kp (by omega))
    have K_1 := ((Kp.refl c.bp w).alloc _).trans kp
    have l_1 : w.heap.size + 1 ≤ w1.heap.size := by have := kp.size; simpa using this
    clear kp pp 
    go_wp2_with fail
    refine (HO.out _ _ _ _ P_1.out HM.out).mono ?_
    rintro e w2 ⟨ka, kl, kq, rfl, tt, pp, kp⟩
    have P_2 := Lib.hid pp
    have R_2 := Lib.hid (R_1.out.kp kp (by omega))
    have K_2 := K_1.trans kp
    have l_2 : w1.heap.size + 0 ≤ w2.heap.size := by have := kp.size; simpa using this
    clear kp pp 
    have Tk_2 := Lib.hid tt
    clear tt
    go_wp2_with fail
    refine (accept_f c _ _ (P_2.out.alloc _) [63] HQ.out).mono ?_
    rintro e w3 ⟨rfl, pp, kp⟩
    have P_3 := Lib.hid pp
    have R_3 := Lib.hid ((R_2.out.alloc _).kp kp (by omega))
    have B_3 := Lib.hid (((Blk.new w2 25 #[vs n1.op, vs n1.text, .int .i64 n1.pos, .slice ka kl kq])).kp kp (by omega))
    have Tk_3 := Lib.hid ((Tk_2.out.alloc _).kp kp (by first | omega | (simp; omega)))
    have K_3 := (K_2.alloc _).trans kp
    have l_3 : w2.heap.size + 1 ≤ w3.heap.size := by have := kp.size; simpa using this
    clear kp pp 
    go_wp2_with fail
    refine (Hcur.out _ P_3.out).mono ?_
    rintro e w4 ⟨rfl, hb⟩
    have kk := Kp.of_below (b := c.bp) hb
    have P_4 := Lib.hid (P_3.out.below hb)
    have R_4 := Lib.hid (R_3.out.kp kk (by omega))
    have B_4 := Lib.hid (B_3.out.kp kk (by omega))
    have Tk_4 := Lib.hid (Tk_3.out.kp kk (by first | omega | (simp; omega)))
    have K_4 := K_3.trans kk
    have l_4 : w3.heap.size + 0 ≤ w4.heap.size := by have := kk.size; simpa using this
    clear kk hb 
    obtain ⟨b0, b1, b2, b3⟩ := B_4.out.four
    have lb := B_4.out.lt
    go_wp2_with fail
    refine (place_any _ n1 ka kl kq).mono ?_
    rintro e w5 ⟨rfl, hb⟩
    have kk := Kp.of_below (b := c.bp) hb
    have P_5 := Lib.hid ((P_4.out.alloc _).below hb)
    have R_5 := Lib.hid ((R_4.out.alloc _).kp kk (by omega))
    have B_5 := Lib.hid ((B_4.out.alloc _).kp kk (by omega))
    have D_5 := Lib.hid (((Blk.new w4 60 #[.int .i64 tk.kind, vs tk.text, .int .i64 tk.pos])).kp kk (by omega))
    have Tk_5 := Lib.hid ((Tk_4.out.alloc _).kp kk (by first | omega | (simp; omega)))
    have K_5 := (K_4.alloc _).trans kk
    have l_5 : w4.heap.size + 1 ≤ w5.heap.size := by have := kk.size; simpa using this
    clear kk hb 
    rw [hpl]
    obtain ⟨d0, d1, d2⟩ := D_5.out.tri
    obtain ⟨y0, y1, y2, y3⟩ := B_5.out.four
    obtain ⟨r0, r1, r2, r3⟩ := R_5.out.four
    have rf0 := R_5.out.frozen 0
    have rf1 := R_5.out.frozen 1
    have rf2 := R_5.out.frozen 2
    have rf3 := R_5.out.frozen 3
    go_wp2_with fail
    refine leaves_cons (f := 72) (args := #[.pointer (some ⟨c.bp, 0, none⟩)]) (by simp) (by simp [go_sem]) ?_
    refine (up_deferred c _ _ ((P_5.out.put4 (by omega))) (by omega) .returning).mono ?_
    rintro e u w6 ⟨rfl, rfl, pp, kp⟩
    have RZ := (R_5.out.put4 (a := vs n1.op) (b := vs n1.text) (c := .int .i64 n1.pos) (d := .slice ka kl kq))
    have RZ := (RZ).kp kp (by omega)
    refine ⟨_, results_node Tryz.results46 rfl RZ, _, _, _, rfl, ?_, pp, ((K_5.put4 (Nat.le_refl _))).trans kp⟩
    exact (((((Tk_5.out.put4 (by first | omega | (simp; omega))))).mono (S' := fun b => w.heap.size < b) (fun b hb _ => by first | omega | (simp at hb; omega))).kp kp (by omega)).mono (fun b hb _ => by omega)

end Go.Proofs.YtgnmfaeonijogaaGreatDoor
