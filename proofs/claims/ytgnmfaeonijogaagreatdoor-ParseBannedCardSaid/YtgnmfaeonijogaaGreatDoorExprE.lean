/- Walked: 'in'. -/
import Derived.Test.YtgnmfaeonijogaaGreatDoorExprA
import Derived.Deep.RegionWith
namespace Go.Proofs.YtgnmfaeonijogaaGreatDoor
open Go.RowKit

set_option maxRecDepth 100000 in
set_option maxHeartbeats 2000000 in
theorem in_any (c : PC) (next : Pp.PS → Option (Pp.Node × Pp.PS)) (hN : IsN c 107 next) (k : Nat) : IsN c 99 (Pp.in_ c.T next k) := by
  intro w s n s' h hh
  unfold Pp.in_ at hh
  cases hEm : next s with
  | none => rw [hEm] at hh; cases hh
  | some r =>
    obtain ⟨m, s2⟩ := r
    rw [hEm] at hh
    simp only at hh
    have HN := Lib.hid hN
    have P_0 := Lib.hid h
    have HH := Lib.hid hh
    have HM := Lib.hid hEm
    have hb := h.blk.lt
    clear hN h hh hEm
    go_enter Tryz.func99, Tryz.ntmps99
    go_wp2_with fail
    refine (HN.out _ _ _ _ (P_0.out.alloc _) HM.out).mono ?_
    rintro e w1 ⟨ka, kl, kq, rfl, tt, pp, kp⟩
    have P_1 := Lib.hid pp
    have R_1 := Lib.hid (((Blk.new w 25 z4)).kp kp (by omega))
    have K_1 := ((Kp.refl c.bp w).alloc _).trans kp
    have l_1 : w.heap.size + 1 ≤ w1.heap.size := by have := kp.size; simpa using this
    clear kp pp 
    have Tk_1 := Lib.hid tt
    clear tt
    clear HM
    go_wp2_with fail
    go_loopg [] k (fun g wr => ∃ (n1 : Pp.Node) (s1 : Pp.PS) (ka : Option Addr) (kl kq : Nat), PAt c wr s1 ∧ Kp c.bp w wr ∧ Blk wr w.heap.size 25 z4 ∧ Blk wr w1.heap.size 25 #[vs n1.op, vs n1.text, .int .i64 n1.pos, .slice ka kl kq] ∧
          KidsAt wr (fun b => w.heap.size < b ∧ b ≠ w1.heap.size) (.slice ka kl kq) n1.kids ∧ Hid (Pp.inL c.T g n1 s1 = some (n, s')))
    case atStart => exact ⟨m, s2, ka, kl, kq, P_1.out.alloc _, K_1.alloc _, R_1.out.alloc _, Blk.new w1 25 _, (Tk_1.out.mono (fun b hb hl => by simp at hb; omega)).alloc _, HH.out⟩
    case round =>
      clear P_0 P_1 R_1 K_1 Tk_1 HH HN
      obtain ⟨n1, s1, ka, kl, kq, p1, K_1, r1, b1, t1, hc⟩ := hrel
      have P_1 := Lib.hid p1
      have R_1 := Lib.hid r1
      have B_1 := Lib.hid b1
      have T_1 := Lib.hid t1
      have lw := b1.lt
      have hc := hc.out
      clear p1 r1 b1 t1
      obtain ⟨j, rfl⟩ : ∃ j, gk = j + 1 := by cases gk with | zero => cases hc | succ j => exact ⟨j, rfl⟩
      unfold Pp.inL at hc
      cases hat : Pp.at_ c.T [[105, 110]] s1 with
      | false =>
        rw [if_neg (by simp [hat])] at hc
        simp only [Option.some.injEq, Prod.mk.injEq] at hc
        obtain ⟨rfl, rfl⟩ := hc
        have HA := Lib.hid hat
        clear hat
        go_wp2_with fail
        refine (accept_f c _ _ P_1.out [105, 110] HA.out).mono ?_
        rintro e w2 ⟨rfl, pp, kp⟩
        have P_2 := Lib.hid pp
        have R_2 := Lib.hid (R_1.out.kp kp (by omega))
        have B_2 := Lib.hid (B_1.out.kp kp (by omega))
        have T_2 := Lib.hid (T_1.out.kp kp (by first | omega | (simp; omega)))
        have K_2 := K_1.trans kp
        have l_2 : wr.heap.size + 0 ≤ w2.heap.size := by have := kp.size; simpa using this
        clear kp pp 
        obtain ⟨b0, b1, b2, b3⟩ := B_2.out.four
        obtain ⟨r0, r1, r2, r3⟩ := R_2.out.four
        have rf0 := R_2.out.frozen 0
        have rf1 := R_2.out.frozen 1
        have rf2 := R_2.out.frozen 2
        have rf3 := R_2.out.frozen 3
        go_wp2_with fail
        refine bodyPost_ret (results_node Tryz.results99 rfl R_2.out.put4) rfl ⟨_, _, _, rfl, ?_, P_2.out.put4 (by omega), K_2.put4 (Nat.le_refl _)⟩
        exact (T_2.out.put4 (by omega)).mono (fun b hb _ => by omega)
      | true =>
        rw [if_pos hat] at hc
        have HA := Lib.hid hat
        clear hat
        go_wp2_with fail
        refine (accept_t c _ _ P_1.out [105, 110] HA.out).mono ?_
        rintro e w2 ⟨rfl, pp, kp⟩
        have P_2 := Lib.hid pp
        have R_2 := Lib.hid (R_1.out.kp kp (by omega))
        have B_2 := Lib.hid (B_1.out.kp kp (by omega))
        have T_2 := Lib.hid (T_1.out.kp kp (by first | omega | (simp; omega)))
        have K_2 := K_1.trans kp
        have l_2 : wr.heap.size + 0 ≤ w2.heap.size := by have := kp.size; simpa using this
        clear kp pp 
        have hnm := fun (W : World) (hW : PAt c W (Pp.step c.T s1)) (b : Nat) (hi : IntsAt W b [5]) (hb : b < W.heap.size) => name_any c W (Pp.step c.T s1) hW b 1 [5] hi (by simp) hb
        generalize hx : Pp.name c.T [5] (Pp.step c.T s1) = x at *
        obtain ⟨x1, x2⟩ := x
        simp only at hnm hc
        have Hnm := Lib.hid hnm
        have HC := Lib.hid hc
        clear hnm hx hc
        go_wp2_with fail
        obtain ⟨ld0, ld1, ld2, ld3⟩ := B_2.out.four
        have llt := B_2.out.lt
        have HI := Lib.hid (fun (W : World) => (IntsAt.of_blk [5] (Blk.new W 3 _) : IntsAt (W.alloc (.cells #[.int .i64 5] 3)) W.heap.size [5]))
        have HI1 := Lib.hid (fun (W : World) (o : Obj) => (IntsAt.of_blk [5] (Blk.new1 W o 3 _) : IntsAt ((W.alloc o).alloc (.cells #[.int .i64 5] 3)) (W.heap.size + 1) [5]))
        have HI2 := Lib.hid (fun (W : World) (o : Obj) => (IntsAt.of_blk [5] ((Blk.new W 3 _).alloc o) : IntsAt ((W.alloc (.cells #[.int .i64 5] 3)).alloc o) W.heap.size [5]))
        go_region_with (first
          | (go_at_call 43; refine (Hnm.out _ (by first | exact (P_2.out.alloc _).drew | exact ((P_2.out.alloc _).alloc _).drew) _ (by first | exact (HI.out _).drew | exact (HI1.out _ _).drew | exact (HI2.out _ _).drew) (by first | (simp; done) | (simp; omega))).mono ?_; rintro e w3 ⟨rfl, pp, kp⟩; have kk : Kp c.bp w2 w3 := (by first | exact (((Kp.refl _ _).alloc _).drew.trans kp) | exact ((((Kp.refl _ _).alloc _).alloc _).drew.trans kp)); have GL4 := Lib.hid (B_2.out.kp kk (by omega)); obtain ⟨lq0, lq1, lq2, lq3⟩ := GL4.out.four; have PP := Lib.hid pp; clear pp)
          | (go_at_call 42; refine (leaf_any _ _ x1 _ _ _).mono ?_; rintro e w4 ⟨rfl, hb⟩; have kj : Kp c.bp w3 w4 := (by first | exact Kp.of_below hb | exact ((Kp.refl _ _).alloc _).trans (Kp.of_below hb)); have GT5 := Lib.hid (GL4.out.kp kj (by omega)); obtain ⟨gt0, gt1, gt2, gt3⟩ := GT5.out.four; have gf0 := GT5.out.frozen 0; have gf1 := GT5.out.frozen 1; have gf2 := GT5.out.frozen 2; have gf3 := GT5.out.frozen 3))
        all_goals
          have P_3 := Lib.hid PP
          have R_3 := Lib.hid (R_2.out.kp kk (by omega))
          have B_3 := Lib.hid (B_2.out.kp kk (by omega))
          have T_3 := Lib.hid (T_2.out.kp kk (by first | omega | (simp; omega)))
          have K_3 := K_2.trans kk
          have l_3 : w2.heap.size + 0 ≤ w3.heap.size := by have := kk.size; simpa using this
          have P_4 := Lib.hid (by first | exact PP.out.below hb | exact (PP.out.alloc _).below hb)
          have R_4 := Lib.hid (R_3.out.kp kj (by omega))
          have B_4 := Lib.hid (B_3.out.kp kj (by omega))
          have T_4 := Lib.hid (T_3.out.kp kj (by first | omega | (simp; omega)))
          have K_4 := K_3.trans kj
          have l_4 : w3.heap.size + 0 ≤ w4.heap.size := by have := kj.size; simpa using this
          go_wp2_with fail
          go_roundg j
          case measure => omega
          case rel =>
            refine ⟨Pp.leaf [105, 110] x1 [n1], x2, some ⟨_, 0, none⟩, 1, 1, P_4.out.put4 (by omega), K_4.put4 (by omega), R_4.out.far4 (by omega), B_4.out.put4, (KidsAt.one (k1 := .slice ka kl kq) (t := 25) ?_ ?_ T_4.out).put4 (by simp), HC.out⟩
            · first | exact (Blk.new w3 25 _).under hb | exact (((Blk.new w2 25 _).alloc _).drew.kp kp (by omega)).under hb | exact ((Blk.new1 w2 _ 25 _).drew.kp kp (by omega)).under hb
            · exact ⟨by omega, by omega⟩

end Go.Proofs.YtgnmfaeonijogaaGreatDoor
