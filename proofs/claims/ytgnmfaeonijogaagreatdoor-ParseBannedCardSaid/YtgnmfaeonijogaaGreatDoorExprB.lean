/- Walked: things side by side. -/
import Derived.Test.YtgnmfaeonijogaaGreatDoorExprA
import Derived.Deep.RegionWith
namespace Go.Proofs.YtgnmfaeonijogaaGreatDoor
open Go.RowKit

set_option maxRecDepth 100000 in
set_option maxHeartbeats 2000000 in
theorem cat_any (c : PC) (next : Pp.PS → Option (Pp.Node × Pp.PS)) (hN : IsN c 115 next) (k : Nat) : IsN c 106 (Pp.cat c.T next k) := by
  intro w s n s' h hh
  unfold Pp.cat at hh
  cases hEm : next s with
  | none => rw [hEm] at hh; cases hh
  | some r =>
    obtain ⟨m, s2⟩ := r
    rw [hEm] at hh
    simp only at hh
    have HN := Lib.hid hN
    have P_0 := Lib.hid h
    have HH := Lib.hid hh
    have HM := Lib.hid hEm
    have hb := h.blk.lt
    clear hN h hh hEm
    go_enter Tryz.func106, Tryz.ntmps106
    go_wp2_with fail
    refine (HN.out _ _ _ _ (P_0.out.alloc _) HM.out).mono ?_
    rintro e w1 ⟨ka, kl, kq, rfl, tt, pp, kp⟩
    have P_1 := Lib.hid pp
    have R_1 := Lib.hid (((Blk.new w 25 z4)).kp kp (by omega))
    have K_1 := ((Kp.refl c.bp w).alloc _).trans kp
    have l_1 : w.heap.size + 1 ≤ w1.heap.size := by have := kp.size; simpa using this
    clear kp pp 
    have Tk_1 := Lib.hid tt
    clear tt
    clear HM
    go_wp2_with fail
    go_loopg [] k (fun g wr => ∃ (n1 : Pp.Node) (s1 : Pp.PS) (ka : Option Addr) (kl kq : Nat), PAt c wr s1 ∧ Kp c.bp w wr ∧ Blk wr w.heap.size 25 z4 ∧ Blk wr w1.heap.size 25 #[vs n1.op, vs n1.text, .int .i64 n1.pos, .slice ka kl kq] ∧
          KidsAt wr (fun b => w.heap.size < b ∧ b ≠ w1.heap.size) (.slice ka kl kq) n1.kids ∧ Hid (Pp.catL c.T next g n1 s1 = some (n, s')))
    case atStart => exact ⟨m, s2, ka, kl, kq, P_1.out.alloc _, K_1.alloc _, R_1.out.alloc _, Blk.new w1 25 _, (Tk_1.out.mono (fun b hb hl => by simp at hb; omega)).alloc _, HH.out⟩
    case round =>
      clear P_0 P_1 R_1 K_1 Tk_1 HH
      obtain ⟨n1, s1, ka, kl, kq, p1, K_1, r1, b1, t1, hc⟩ := hrel
      have P_1 := Lib.hid p1
      have R_1 := Lib.hid r1
      have B_1 := Lib.hid b1
      have T_1 := Lib.hid t1
      have lw := b1.lt
      have hc := hc.out
      clear p1 r1 b1 t1
      obtain ⟨j, rfl⟩ : ∃ j, gk = j + 1 := by cases gk with | zero => cases hc | succ j => exact ⟨j, rfl⟩
      unfold Pp.catL at hc
      have hcur := cur_any c wr s1 P_1.out
      generalize ht : Pp.cur c.T s1 = t at *
      have Hcur := Lib.hid hcur
      clear hcur ht
      by_cases hk : t.kind ∈ ([2, 3, 5, 6, 9] : List Int)
      · rw [if_neg (fun hx => by simp at hx hk; omega)] at hc
        cases hEm : next s1 with
        | none => rw [hEm] at hc; cases hc
        | some r =>
        obtain ⟨m', s3⟩ := r
        rw [hEm] at hc
        simp only at hc
        have HC := Lib.hid hc
        have HM := Lib.hid hEm
        clear hc hEm
        go_wp2_with fail
        refine (Hcur.out).mono ?_
        rintro e w2 ⟨rfl, hb⟩
        have kk := Kp.of_below (b := c.bp) hb
        have P_2 := Lib.hid (P_1.out.below hb)
        have R_2 := Lib.hid (R_1.out.kp kk (by omega))
        have B_2 := Lib.hid (B_1.out.kp kk (by omega))
        have T_2 := Lib.hid (T_1.out.kp kk (by first | omega | (simp; omega)))
        have K_2 := K_1.trans kk
        have l_2 : wr.heap.size + 0 ≤ w2.heap.size := by have := kk.size; simpa using this
        clear kk hb 
        go_wp2_with fail
        refine (containsI_new _ 5 [2, 3, 5, 6, 9] _ 5 (by simp) rfl _ rfl (by omega) t.kind).mono ?_
        rintro e w3 ⟨rfl, hw⟩
        have hb : Below (w2.heap.size) w2 w3 := hw ▸ ((Below.refl _ _).alloc (Nat.le_refl _) _).alloc (by simp) _
        have kk := Kp.of_below (b := c.bp) hb
        have P_3 := Lib.hid (P_2.out.below hb)
        have R_3 := Lib.hid (R_2.out.kp kk (by omega))
        have B_3 := Lib.hid (B_2.out.kp kk (by omega))
        have T_3 := Lib.hid (T_2.out.kp kk (by first | omega | (simp; omega)))
        have K_3 := K_2.trans kk
        have l_3 : w2.heap.size + 0 ≤ w3.heap.size := by have := kk.size; simpa using this
        have lt_3 : w2.heap.size + 2 = w3.heap.size := by rw [← hw]; simp
        have lt_3 := Nat.le_of_eq lt_3
        clear hw hb kk
        go_wp2_with fail
        have GL := Lib.hid B_3.out.drew
        have GT := Lib.hid B_3.out.drew
        obtain ⟨ld0, ld1, ld2, ld3⟩ := B_3.out.four
        go_region_with (first
          | (go_at_call 115; refine (HN.out _ _ _ _ P_3.out.drew HM.out).mono ?_; rintro e w4 ⟨ma, ml, mq, rfl, tt, pp, kp⟩; have GL4 := Lib.hid (GL.out.kp kp (by omega)); have GT4 := Lib.hid (GT.out.kp kp (by omega)); obtain ⟨lq0, lq1, lq2, lq3⟩ := GL4.out.four; have PP := Lib.hid pp; have TT := Lib.hid tt; clear pp tt)
          | (go_at_call 25; refine (node_any _ _ _ _ _).mono ?_; rintro e w5 ⟨rfl, hb⟩; have lk := kp.size; have GT5 := Lib.hid ((GT4.out.alloc _).under hb); obtain ⟨gt0, gt1, gt2, gt3⟩ := GT5.out.four; have gf0 := GT5.out.frozen 0; have gf1 := GT5.out.frozen 1; have gf2 := GT5.out.frozen 2; have gf3 := GT5.out.frozen 3))
        all_goals
          have P_4 := Lib.hid PP
          have R_4 := Lib.hid (R_3.out.drew.kp kp (by omega))
          have B_4 := Lib.hid (B_3.out.drew.kp kp (by omega))
          have T_4 := Lib.hid (T_3.out.drew.kp kp (by first | omega | (simp; omega)))
          have K_4 := K_3.drew.trans kp
          have l_4 : w3.heap.size + 0 ≤ w4.heap.size := by have := kp.size; simpa using this
          have Tm_4 := TT
          have kk := Kp.of_below (b := c.bp) hb
          have P_5 := Lib.hid ((P_4.out.alloc _).below hb)
          have R_5 := Lib.hid ((R_4.out.alloc _).kp kk (by omega))
          have B_5 := Lib.hid ((B_4.out.alloc _).kp kk (by omega))
          have A_5 := Lib.hid (((Blk.new w4 25 #[vs n1.op, vs n1.text, .int .i64 n1.pos, .slice ka kl kq, vs m'.op, vs m'.text, .int .i64 m'.pos, .slice ma ml mq])).kp kk (by omega))
          have T_5 := Lib.hid ((T_4.out.alloc _).kp kk (by first | omega | (simp; omega)))
          have Tm_5 := Lib.hid ((Tm_4.out.alloc _).kp kk (by first | omega | (simp; omega)))
          have K_5 := (K_4.alloc _).trans kk
          have l_5 : w4.heap.size + 1 ≤ w5.heap.size := by have := kk.size; simpa using this
          clear kp kk hb
          go_wp2_with fail
          go_roundg j
          case measure => omega
          case rel => exact ⟨Pp.node [99, 97, 116] [n1, m'], s3, some ⟨w4.heap.size, 0, none⟩, 2, 2, P_5.out.put4 (by omega), K_5.put4 (by omega), R_5.out.far4 (by omega), B_5.out.put4, (KidsAt.two A_5.out (by omega) T_5.out (Tm_5.out.mono (fun b hb _ => by simp at hb; omega))).put4 (by simp), HC.out⟩
      · cases hat : Pp.at_ c.T [[36], [40]] s1 with
        | false =>
        rw [if_pos ⟨by simpa using hk, hat⟩] at hc
        simp only [Option.some.injEq, Prod.mk.injEq] at hc
        obtain ⟨rfl, rfl⟩ := hc
        have HA := Lib.hid hat
        clear hat
        go_wp2_with fail
        refine (Hcur.out).mono ?_
        rintro e w2 ⟨rfl, hb⟩
        have kk := Kp.of_below (b := c.bp) hb
        have P_2 := Lib.hid (P_1.out.below hb)
        have R_2 := Lib.hid (R_1.out.kp kk (by omega))
        have B_2 := Lib.hid (B_1.out.kp kk (by omega))
        have T_2 := Lib.hid (T_1.out.kp kk (by first | omega | (simp; omega)))
        have K_2 := K_1.trans kk
        have l_2 : wr.heap.size + 0 ≤ w2.heap.size := by have := kk.size; simpa using this
        clear kk hb 
        go_wp2_with fail
        refine (containsI_new _ 5 [2, 3, 5, 6, 9] _ 5 (by simp) rfl _ rfl (by omega) t.kind).mono ?_
        rintro e w3 ⟨rfl, hw⟩
        have hb : Below (w2.heap.size) w2 w3 := hw ▸ ((Below.refl _ _).alloc (Nat.le_refl _) _).alloc (by simp) _
        have kk := Kp.of_below (b := c.bp) hb
        have P_3 := Lib.hid (P_2.out.below hb)
        have R_3 := Lib.hid (R_2.out.kp kk (by omega))
        have B_3 := Lib.hid (B_2.out.kp kk (by omega))
        have T_3 := Lib.hid (T_2.out.kp kk (by first | omega | (simp; omega)))
        have K_3 := K_2.trans kk
        have l_3 : w2.heap.size + 0 ≤ w3.heap.size := by have := kk.size; simpa using this
        have lt_3 : w2.heap.size + 2 = w3.heap.size := by rw [← hw]; simp
        have lt_3 := Nat.le_of_eq lt_3
        clear hw hb kk
        go_wp2_with fail
        refine (at_new' c _ s1 P_3.out 2 [[36], [40]] _ 2 (by simp) rfl _ rfl (by omega) _ HA.out).mono ?_
        rintro e w4 ⟨rfl, hb⟩
        have kk := Kp.of_below (b := c.bp) hb
        have P_4 := Lib.hid (P_3.out.below hb)
        have R_4 := Lib.hid (R_3.out.kp kk (by omega))
        have B_4 := Lib.hid (B_3.out.kp kk (by omega))
        have T_4 := Lib.hid (T_3.out.kp kk (by first | omega | (simp; omega)))
        have K_4 := K_3.trans kk
        have l_4 : w3.heap.size + 0 ≤ w4.heap.size := by have := kk.size; simpa using this
        clear kk hb 
        obtain ⟨b0, b1, b2, b3⟩ := B_4.out.four
        obtain ⟨r0, r1, r2, r3⟩ := R_4.out.four
        have rf0 := R_4.out.frozen 0
        have rf1 := R_4.out.frozen 1
        have rf2 := R_4.out.frozen 2
        have rf3 := R_4.out.frozen 3
        go_wp2_with fail
        refine bodyPost_ret (results_node Tryz.results106 rfl R_4.out.put4) rfl ⟨_, _, _, rfl, ?_, P_4.out.put4 (by omega), K_4.put4 (Nat.le_refl _)⟩
        exact (T_4.out.put4 (by omega)).mono (fun b hb _ => by omega)
        | true =>
          rw [if_neg (fun hx => by simp [hat] at hx)] at hc
          cases hEm : next s1 with
          | none => rw [hEm] at hc; cases hc
          | some r =>
          obtain ⟨m', s3⟩ := r
          rw [hEm] at hc
          simp only at hc
          have HC := Lib.hid hc
          have HM := Lib.hid hEm
          have HA := Lib.hid hat
          clear hc hEm hat
          go_wp2_with fail
          refine (Hcur.out).mono ?_
          rintro e w2 ⟨rfl, hb⟩
          have kk := Kp.of_below (b := c.bp) hb
          have P_2 := Lib.hid (P_1.out.below hb)
          have R_2 := Lib.hid (R_1.out.kp kk (by omega))
          have B_2 := Lib.hid (B_1.out.kp kk (by omega))
          have T_2 := Lib.hid (T_1.out.kp kk (by first | omega | (simp; omega)))
          have K_2 := K_1.trans kk
          have l_2 : wr.heap.size + 0 ≤ w2.heap.size := by have := kk.size; simpa using this
          clear kk hb 
          go_wp2_with fail
          refine (containsI_new _ 5 [2, 3, 5, 6, 9] _ 5 (by simp) rfl _ rfl (by omega) t.kind).mono ?_
          rintro e w3 ⟨rfl, hw⟩
          have hb : Below (w2.heap.size) w2 w3 := hw ▸ ((Below.refl _ _).alloc (Nat.le_refl _) _).alloc (by simp) _
          have kk := Kp.of_below (b := c.bp) hb
          have P_3 := Lib.hid (P_2.out.below hb)
          have R_3 := Lib.hid (R_2.out.kp kk (by omega))
          have B_3 := Lib.hid (B_2.out.kp kk (by omega))
          have T_3 := Lib.hid (T_2.out.kp kk (by first | omega | (simp; omega)))
          have K_3 := K_2.trans kk
          have l_3 : w2.heap.size + 0 ≤ w3.heap.size := by have := kk.size; simpa using this
          have lt_3 : w2.heap.size + 2 = w3.heap.size := by rw [← hw]; simp
          have lt_3 := Nat.le_of_eq lt_3
          clear hw hb kk
          go_wp2_with fail
          refine (at_new' c _ s1 P_3.out 2 [[36], [40]] _ 2 (by simp) rfl _ rfl (by omega) _ HA.out).mono ?_
          rintro e w4 ⟨rfl, hb⟩
          have kk := Kp.of_below (b := c.bp) hb
          have P_4 := Lib.hid (P_3.out.below hb)
          have R_4 := Lib.hid (R_3.out.kp kk (by omega))
          have B_4 := Lib.hid (B_3.out.kp kk (by omega))
          have T_4 := Lib.hid (T_3.out.kp kk (by first | omega | (simp; omega)))
          have K_4 := K_3.trans kk
          have l_4 : w3.heap.size + 0 ≤ w4.heap.size := by have := kk.size; simpa using this
          clear kk hb 
          go_wp2_with fail
          have GL := Lib.hid B_4.out.drew
          have GT := Lib.hid B_4.out.drew
          obtain ⟨ld0, ld1, ld2, ld3⟩ := B_4.out.four
          go_region_with (first
            | (go_at_call 115; refine (HN.out _ _ _ _ P_4.out.drew HM.out).mono ?_; rintro e w5 ⟨ma, ml, mq, rfl, tt, pp, kp⟩; have GL4 := Lib.hid (GL.out.kp kp (by omega)); have GT4 := Lib.hid (GT.out.kp kp (by omega)); obtain ⟨lq0, lq1, lq2, lq3⟩ := GL4.out.four; have PP := Lib.hid pp; have TT := Lib.hid tt; clear pp tt)
            | (go_at_call 25; refine (node_any _ _ _ _ _).mono ?_; rintro e w6 ⟨rfl, hb⟩; have lk := kp.size; have GT5 := Lib.hid ((GT4.out.alloc _).under hb); obtain ⟨gt0, gt1, gt2, gt3⟩ := GT5.out.four; have gf0 := GT5.out.frozen 0; have gf1 := GT5.out.frozen 1; have gf2 := GT5.out.frozen 2; have gf3 := GT5.out.frozen 3))
          all_goals
            have P_5 := Lib.hid PP
            have R_5 := Lib.hid (R_4.out.drew.kp kp (by omega))
            have B_5 := Lib.hid (B_4.out.drew.kp kp (by omega))
            have T_5 := Lib.hid (T_4.out.drew.kp kp (by first | omega | (simp; omega)))
            have K_5 := K_4.drew.trans kp
            have l_5 : w4.heap.size + 0 ≤ w5.heap.size := by have := kp.size; simpa using this
            have Tm_5 := TT
            have kk := Kp.of_below (b := c.bp) hb
            have P_6 := Lib.hid ((P_5.out.alloc _).below hb)
            have R_6 := Lib.hid ((R_5.out.alloc _).kp kk (by omega))
            have B_6 := Lib.hid ((B_5.out.alloc _).kp kk (by omega))
            have A_6 := Lib.hid (((Blk.new w5 25 #[vs n1.op, vs n1.text, .int .i64 n1.pos, .slice ka kl kq, vs m'.op, vs m'.text, .int .i64 m'.pos, .slice ma ml mq])).kp kk (by omega))
            have T_6 := Lib.hid ((T_5.out.alloc _).kp kk (by first | omega | (simp; omega)))
            have Tm_6 := Lib.hid ((Tm_5.out.alloc _).kp kk (by first | omega | (simp; omega)))
            have K_6 := (K_5.alloc _).trans kk
            have l_6 : w5.heap.size + 1 ≤ w6.heap.size := by have := kk.size; simpa using this
            clear kp kk hb
            go_wp2_with fail
            go_roundg j
            case measure => omega
            case rel => exact ⟨Pp.node [99, 97, 116] [n1, m'], s3, some ⟨w5.heap.size, 0, none⟩, 2, 2, P_6.out.put4 (by omega), K_6.put4 (by omega), R_6.out.far4 (by omega), B_6.out.put4, (KidsAt.two A_6.out (by omega) T_6.out (Tm_6.out.mono (fun b hb _ => by simp at hb; omega))).put4 (by simp), HC.out⟩

end Go.Proofs.YtgnmfaeonijogaaGreatDoor
