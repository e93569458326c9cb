/- Walked: a block of statements. -/
import Derived.Test.YtgnmfaeonijogaaGreatDoorExprA
import Derived.Deep.RegionLaw
namespace Go.Proofs.YtgnmfaeonijogaaGreatDoor
open Go.RowKit

theorem skip_move (T : List Pp.Tok) (s : Pp.PS) (hlast : ∀ (i : Nat), i + 1 = T.length → (T.getD i Pp.tok0).kind = 0) (hlt : s.i < T.length) (h : Pp.at_ T [[59]] s = true ∨ (Pp.cur T s).kind = 1) :
    s.err = 0 ∧ s.i + 1 < T.length ∧ Pp.step T s = { s with i := s.i + 1 } := by
  by_cases he : s.err = 0
  · have hc : Pp.cur T s = T.getD s.i Pp.tok0 := by simp [Pp.cur, he]
    have hk : (T.getD s.i Pp.tok0).kind ≠ 0 := by
      rw [← hc]
      rcases h with h | h
      · intro h0
        simp [Pp.at_, h0] at h
      · omega
    have hi : s.i + 1 < T.length := by
      rcases Nat.lt_or_ge (s.i + 1) T.length with h1 | h1
      · exact h1
      · exact absurd (hlast s.i (by omega)) hk
    exact ⟨he, hi, by simp [Pp.step, he, hi]⟩
  · have hc : Pp.cur T s = Pp.tok0 := by simp [Pp.cur, he]
    rcases h with h | h
    · simp [Pp.at_, hc, Pp.tok0] at h
    · rw [hc] at h; simp [Pp.tok0] at h
theorem skipF_fuel (T : List Pp.Tok) (hlast : ∀ (i : Nat), i + 1 = T.length → (T.getD i Pp.tok0).kind = 0) : ∀ (k : Nat) (s : Pp.PS), s.i < T.length → T.length ≤ s.i + k → Pp.skipF T (k + 1) s = Pp.skipF T k s := by
  intro k
  induction k with
  | zero => intro s h1 h2; omega
  | succ k ih =>
    intro s h1 h2
    by_cases h : Pp.at_ T [[59]] s = true ∨ (Pp.cur T s).kind = 1
    · obtain ⟨_, hi, he⟩ := skip_move T s hlast h1 h
      rw [Pp.skipF, if_pos h]
      conv => rhs; rw [Pp.skipF, if_pos h]
      rw [he]
      exact ih _ hi (by simp; omega)
    · rw [Pp.skipF, if_neg h, Pp.skipF, if_neg h]
theorem skip_step (T : List Pp.Tok) (hlast : ∀ (i : Nat), i + 1 = T.length → (T.getD i Pp.tok0).kind = 0) (s : Pp.PS) (hlt : s.i < T.length) (h : Pp.at_ T [[59]] s = true ∨ (Pp.cur T s).kind = 1) : Pp.skip T s = Pp.skip T (Pp.step T s) := by
  unfold Pp.skip
  obtain ⟨_, hi, he⟩ := skip_move T s hlast hlt h
  obtain ⟨k, hk⟩ : ∃ k, T.length = k + 1 := ⟨T.length - 1, by omega⟩
  rw [hk, Pp.skipF, if_pos h, he]
  exact (skipF_fuel T hlast k _ hi (by simp; omega)).symm
theorem skip_stop (T : List Pp.Tok) (s : Pp.PS) (h : ¬ (Pp.at_ T [[59]] s = true ∨ (Pp.cur T s).kind = 1)) : Pp.skip T s = s := by
  unfold Pp.skip
  cases T.length <;> simp only [Pp.skipF, if_neg h]

abbrev opBlock : Pp.Bytes := [98, 108, 111, 99, 107]

set_option maxRecDepth 100000 in
set_option maxHeartbeats 16000000 in
theorem block_any (c : PC) (S : Pp.PS → Option (Pp.Node × Pp.PS)) (hS : IsN c 69 S) (k : Nat) (hk : k ≤ 1000000) : IsN c 41 (Pp.block c.T S k) := by
  intro w s n s' h hh
  unfold Pp.block at hh
  cases hEm : Pp.blockL c.T S k [] (Pp.expect c.T [123] s) with
  | none => rw [hEm] at hh; cases hh
  | some r =>
  obtain ⟨out, s2⟩ := r
  rw [hEm] at hh
  simp only [Option.some.injEq, Prod.mk.injEq] at hh
  obtain ⟨rfl, rfl⟩ := hh
  have hok := h.ok
  have hlast := hok.last
  have hb := h.blk.lt
  have HS := Lib.hid hS
  have P_0 := Lib.hid h
  have HH := Lib.hid hEm
  have Hlast := Lib.hid hlast
  clear hS h hEm hok hlast
  go_enter Tryz.func41, Tryz.ntmps41
  go_wp2_with fail
  refine (node_any _ [98, 108, 111, 99, 107] _ _ _).mono ?_
  rintro e w1 ⟨rfl, hb⟩
  have kk := Kp.of_below (b := c.bp) hb
  have P_1 := Lib.hid ((P_0.out.alloc _).below hb)
  have R_1 := Lib.hid (((Blk.new w 25 z4)).kp kk (by omega))
  have K_1 := ((Kp.refl c.bp w).alloc _).trans kk
  have l_1 : w.heap.size + 1 ≤ w1.heap.size := by have := kk.size; simpa using this
  clear kk hb 
  have hb := P_1.out.blk.lt
  go_wp2_with fail
  refine (expect_any c _ _ (P_1.out.alloc _) [123]).mono ?_
  rintro e w2 ⟨rfl, pp, kp⟩
  have P_2 := Lib.hid pp
  have R_2 := Lib.hid ((R_1.out.alloc _).kp kp (by omega))
  have N_2 := Lib.hid (((Blk.new w1 25 #[vs [98, 108, 111, 99, 107], vs [], .int .i64 0, .slice none 0 0])).kp kp (by omega))
  have K_2 := (K_1.alloc _).trans kp
  have l_2 : w1.heap.size + 1 ≤ w2.heap.size := by have := kp.size; simpa using this
  clear kp pp 
  go_wp2_with fail
  go_loopg [] k (fun g wr => ∃ (ks : List Pp.Node) (s1 : Pp.PS) (a : Option Addr) (q : Nat), Blk wr w1.heap.size 25 #[vs [98, 108, 111, 99, 107], vs [], .int .i64 0, .slice a ks.length q] ∧ Blk wr w.heap.size 25 z4 ∧ OutAt wr (w1.heap.size + 1) (.slice a ks.length q) ks ∧ PAt c wr s1 ∧ Kp c.bp w wr ∧ ks.length + g = k ∧
      Hid (Pp.blockL c.T S g ks s1 = some (out, s2)))
  case atStart => exact ⟨[], _, none, 0, N_2.out, R_2.out, .nil _ _, P_2.out, K_2, by simp, HH.out⟩
  case round =>
    clear P_0 P_1 P_2 K_1 K_2 HH R_1 R_2 N_2
    obtain ⟨ks, s1, a, q, n1, r1, o1, p1, K_1, hkk, hc⟩ := hrel
    have P_1 := Lib.hid p1
    have O_1 := Lib.hid o1
    have N_1 := Lib.hid n1
    have R_1 := Lib.hid r1
    have lw := K_1.size
    have ln := n1.lt
    have d4 := p1.c4
    have hc := hc.out
    clear p1 o1 n1 r1
    obtain ⟨j, rfl⟩ : ∃ j, gk = j + 1 := by cases gk with | zero => cases hc | succ j => exact ⟨j, rfl⟩
    have hkn : ks.length < 1000000 := by omega
    unfold Pp.blockL at hc
    by_cases he : s1.err = 0
    · have he0 : (s1.err == 0) = true := by simpa using he
      rw [if_pos he] at hc
      have HC := Lib.hid hc
      clear he hc
      go_wp2_with fail
      obtain ⟨wo, rfl⟩ : ∃ wo : World, wo = wr := ⟨_, rfl⟩
      go_loopg [] c.T.length (fun g wr => ∃ sx : Pp.PS, Hid (Pp.skip c.T sx = Pp.skip c.T s1) ∧ c.T.length ≤ sx.i + g ∧ Blk wr w1.heap.size 25 #[vs [98, 108, 111, 99, 107], vs [], .int .i64 0, .slice a ks.length q] ∧ Blk wr w.heap.size 25 z4 ∧ OutAt wr (w1.heap.size + 1) (.slice a ks.length q) ks ∧ PAt c wr sx ∧ Kp c.bp w wr)
      case atStart => exact ⟨s1, rfl, by omega, N_1.out, R_1.out, O_1.out, P_1.out, K_1⟩
      case round =>
        clear P_1 O_1 N_1 R_1 K_1 d4 he0
        obtain ⟨sx, hsk, hg, n1, r1, o1, p1, K_1⟩ := hrel
        have P_1 := Lib.hid p1
        have O_1 := Lib.hid o1
        have N_1 := Lib.hid n1
        have R_1 := Lib.hid r1
        have lw := K_1.size
        have ln := n1.lt
        have hlt := p1.lt
        have hcur := fun W hW => cur_any c W sx hW
        clear p1 o1 n1 r1
        obtain ⟨tk, ht⟩ : ∃ t, Pp.cur c.T sx = t := ⟨_, rfl⟩
        rw [ht] at hcur
        have Hcur := Lib.hid hcur
        clear hcur
        cases hat : Pp.at_ c.T [[59]] sx with
        | true =>
          obtain ⟨_, hi, hst⟩ := skip_move c.T sx Hlast.out hlt (.inl hat)
          have hsk2 : Hid (Pp.skip c.T (Pp.step c.T sx) = Pp.skip c.T s1) := ((skip_step c.T Hlast.out sx hlt (.inl hat)).symm.trans hsk.out)
          have hsi : (Pp.step c.T sx).i = sx.i + 1 := by rw [hst]
          clear hst
          have HA := Lib.hid hat
          clear hat ht
          go_wp2_with fail
          refine (at_new' c _ sx P_1.out 1 [[59]] _ 1 (by simp) rfl _ rfl (by omega) _ HA.out).mono ?_
          rintro e w11 ⟨rfl, hb⟩
          have kk := Kp.of_below (b := c.bp) hb
          have P_11 := Lib.hid (P_1.out.below hb)
          have N_11 := Lib.hid (N_1.out.kp kk (by omega))
          have R_11 := Lib.hid (R_1.out.kp kk (by omega))
          have O_11 := Lib.hid (O_1.out.kp kk (by first | omega | (simp; omega)))
          have K_11 := K_1.trans kk
          have l_11 : wr.heap.size + 0 ≤ w11.heap.size := by have := kk.size; simpa using this
          clear kk hb 
          go_wp2_with fail
          refine (step_any c _ _ P_11.out).mono ?_
          rintro e w12 ⟨rfl, pp, kp⟩
          have P_12 := Lib.hid pp
          have N_12 := Lib.hid (N_11.out.kp kp (by omega))
          have R_12 := Lib.hid (R_11.out.kp kp (by omega))
          have O_12 := Lib.hid (O_11.out.kp kp (by first | omega | (simp; omega)))
          have K_12 := K_11.trans kp
          have l_12 : w11.heap.size + 0 ≤ w12.heap.size := by have := kp.size; simpa using this
          clear kp pp 
          go_wp2_with fail
          go_roundg (gk - 1)
          case measure => omega
          case rel => exact ⟨Pp.step c.T sx, hsk2, by omega, N_12.out, R_12.out, O_12.out, P_12.out, K_12⟩
        | false =>
        by_cases h1 : tk.kind = 1
        · have k1 : (tk.kind == 1) = true := by simpa using h1
          obtain ⟨_, hi, hst⟩ := skip_move c.T sx Hlast.out hlt (.inr (ht ▸ h1))
          have hsk2 : Hid (Pp.skip c.T (Pp.step c.T sx) = Pp.skip c.T s1) := ((skip_step c.T Hlast.out sx hlt (.inr (ht ▸ h1))).symm.trans hsk.out)
          have hsi : (Pp.step c.T sx).i = sx.i + 1 := by rw [hst]
          clear hst
          have HA := Lib.hid hat
          clear hat ht h1
          go_wp2_with fail
          refine (at_new' c _ sx P_1.out 1 [[59]] _ 1 (by simp) rfl _ rfl (by omega) _ HA.out).mono ?_
          rintro e w11 ⟨rfl, hb⟩
          have kk := Kp.of_below (b := c.bp) hb
          have P_11 := Lib.hid (P_1.out.below hb)
          have N_11 := Lib.hid (N_1.out.kp kk (by omega))
          have R_11 := Lib.hid (R_1.out.kp kk (by omega))
          have O_11 := Lib.hid (O_1.out.kp kk (by first | omega | (simp; omega)))
          have K_11 := K_1.trans kk
          have l_11 : wr.heap.size + 0 ≤ w11.heap.size := by have := kk.size; simpa using this
          clear kk hb 
          go_wp2_with fail
          refine (Hcur.out _ P_11.out).mono ?_
          rintro e w12 ⟨rfl, hb⟩
          have kk := Kp.of_below (b := c.bp) hb
          have P_12 := Lib.hid (P_11.out.below hb)
          have N_12 := Lib.hid (N_11.out.kp kk (by omega))
          have R_12 := Lib.hid (R_11.out.kp kk (by omega))
          have O_12 := Lib.hid (O_11.out.kp kk (by first | omega | (simp; omega)))
          have K_12 := K_11.trans kk
          have l_12 : w11.heap.size + 0 ≤ w12.heap.size := by have := kk.size; simpa using this
          clear kk hb 
          go_wp2_with fail
          refine (step_any c _ _ P_12.out).mono ?_
          rintro e w13 ⟨rfl, pp, kp⟩
          have P_13 := Lib.hid pp
          have N_13 := Lib.hid (N_12.out.kp kp (by omega))
          have R_13 := Lib.hid (R_12.out.kp kp (by omega))
          have O_13 := Lib.hid (O_12.out.kp kp (by first | omega | (simp; omega)))
          have K_13 := K_12.trans kp
          have l_13 : w12.heap.size + 0 ≤ w13.heap.size := by have := kp.size; simpa using this
          clear kp pp 
          go_wp2_with fail
          go_roundg (gk - 1)
          case measure => omega
          case rel => exact ⟨Pp.step c.T sx, hsk2, by omega, N_13.out, R_13.out, O_13.out, P_13.out, K_13⟩
        · have k1 : (tk.kind == 1) = false := by simpa using h1
          have hstop : Pp.skip c.T s1 = sx := hsk.out.symm.trans (skip_stop c.T sx (by rw [ht, hat]; simp [h1]))
          have hc := HC.out
          rw [hstop] at hc
          have HA := Lib.hid hat
          clear hat ht h1 hstop hsk
          cases hbr : Pp.at_ c.T [[125]] sx with
          | true =>
            rw [if_pos hbr] at hc
            simp only [Option.some.injEq, Prod.mk.injEq] at hc
            obtain ⟨rfl, rfl⟩ := hc
            have HB := Lib.hid hbr
            clear hbr
            go_wp2_with fail
            refine (at_new' c _ sx P_1.out 1 [[59]] _ 1 (by simp) rfl _ rfl (by omega) _ HA.out).mono ?_
            rintro e w11 ⟨rfl, hb⟩
            have kk := Kp.of_below (b := c.bp) hb
            have P_11 := Lib.hid (P_1.out.below hb)
            have N_11 := Lib.hid (N_1.out.kp kk (by omega))
            have R_11 := Lib.hid (R_1.out.kp kk (by omega))
            have O_11 := Lib.hid (O_1.out.kp kk (by first | omega | (simp; omega)))
            have K_11 := K_1.trans kk
            have l_11 : wr.heap.size + 0 ≤ w11.heap.size := by have := kk.size; simpa using this
            clear kk hb 
            go_wp2_with fail
            refine (Hcur.out _ P_11.out).mono ?_
            rintro e w12 ⟨rfl, hb⟩
            have kk := Kp.of_below (b := c.bp) hb
            have P_12 := Lib.hid (P_11.out.below hb)
            have N_12 := Lib.hid (N_11.out.kp kk (by omega))
            have R_12 := Lib.hid (R_11.out.kp kk (by omega))
            have O_12 := Lib.hid (O_11.out.kp kk (by first | omega | (simp; omega)))
            have K_12 := K_11.trans kk
            have l_12 : w11.heap.size + 0 ≤ w12.heap.size := by have := kk.size; simpa using this
            clear kk hb 
            go_wp2_with fail
            refine (accept_t c _ _ P_12.out [125] HB.out).mono ?_
            rintro e w13 ⟨rfl, pp, kp⟩
            have P_13 := Lib.hid pp
            have N_13 := Lib.hid (N_12.out.kp kp (by omega))
            have R_13 := Lib.hid (R_12.out.kp kp (by omega))
            have O_13 := Lib.hid (O_12.out.kp kp (by first | omega | (simp; omega)))
            have K_13 := K_12.trans kp
            have l_13 : w12.heap.size + 0 ≤ w13.heap.size := by have := kp.size; simpa using this
            clear kp pp 
            obtain ⟨y0, y1, y2, y3⟩ := N_13.out.four
            obtain ⟨r0, r1, r2, r3⟩ := R_13.out.four
            have rf0 := R_13.out.frozen 0
            have rf1 := R_13.out.frozen 1
            have rf2 := R_13.out.frozen 2
            have rf3 := R_13.out.frozen 3
            go_wp2_with fail
            exact bodyPost_ret (results_node Tryz.results41 rfl R_13.out.put4) rfl ⟨a, _, q, rfl, (O_13.out.kids.put4 (by simp; omega)).mono (fun b hb _ => by first | omega | (simp at hb; omega)), P_13.out.put4 (by omega), K_13.put4 (Nat.le_refl _)⟩
          | false =>
            rw [if_neg (by simp [hbr])] at hc
            have HB := Lib.hid hbr
            clear hbr
            cases hEm : S sx with
            | none => rw [hEm] at hc; cases hc
            | some r =>
            obtain ⟨m, s3⟩ := r
            rw [hEm] at hc
            simp only at hc
            have HD := Lib.hid hc
            have HM := Lib.hid hEm
            clear hc hEm
            go_wp2_with fail
            refine (at_new' c _ sx P_1.out 1 [[59]] _ 1 (by simp) rfl _ rfl (by omega) _ HA.out).mono ?_
            rintro e w11 ⟨rfl, hb⟩
            have kk := Kp.of_below (b := c.bp) hb
            have P_11 := Lib.hid (P_1.out.below hb)
            have N_11 := Lib.hid (N_1.out.kp kk (by omega))
            have R_11 := Lib.hid (R_1.out.kp kk (by omega))
            have O_11 := Lib.hid (O_1.out.kp kk (by first | omega | (simp; omega)))
            have K_11 := K_1.trans kk
            have l_11 : wr.heap.size + 0 ≤ w11.heap.size := by have := kk.size; simpa using this
            clear kk hb 
            go_wp2_with fail
            refine (Hcur.out _ P_11.out).mono ?_
            rintro e w12 ⟨rfl, hb⟩
            have kk := Kp.of_below (b := c.bp) hb
            have P_12 := Lib.hid (P_11.out.below hb)
            have N_12 := Lib.hid (N_11.out.kp kk (by omega))
            have R_12 := Lib.hid (R_11.out.kp kk (by omega))
            have O_12 := Lib.hid (O_11.out.kp kk (by first | omega | (simp; omega)))
            have K_12 := K_11.trans kk
            have l_12 : w11.heap.size + 0 ≤ w12.heap.size := by have := kk.size; simpa using this
            clear kk hb 
            go_wp2_with fail
            refine (accept_f c _ _ P_12.out [125] HB.out).mono ?_
            rintro e w13 ⟨rfl, pp, kp⟩
            have P_13 := Lib.hid pp
            have N_13 := Lib.hid (N_12.out.kp kp (by omega))
            have R_13 := Lib.hid (R_12.out.kp kp (by omega))
            have O_13 := Lib.hid (O_12.out.kp kp (by first | omega | (simp; omega)))
            have K_13 := K_12.trans kp
            have l_13 : w12.heap.size + 0 ≤ w13.heap.size := by have := kp.size; simpa using this
            clear kp pp 
            go_wp2_with fail
            have GN := Lib.hid N_13.out.drew
            have GO := Lib.hid O_13.out.drew
            obtain ⟨y0, y1, y2, y3⟩ := N_13.out.four
            go_region_law (first
              | (go_simp; go_at_call 69; refine (HS.out _ _ _ _ P_13.out.drew HM.out).mono ?_; rintro e w14 ⟨ma, ml, mq, rfl, tt, pp, kp⟩; have GN4 := Lib.hid (GN.out.kp kp (by omega)); have GO4 := Lib.hid (GO.out.kp kp (by omega)); have lk : w13.heap.size ≤ w14.heap.size := kp.size; have ln4 := GN4.out.lt; obtain ⟨z0, z1, z2, z3⟩ := GN4.out.four; have PP := Lib.hid pp; have TT := Lib.hid tt; clear pp tt)
              | (refine step_append_node _ rfl (.tmp 26) (.tmp 29) rfl rfl (w1.heap.size + 1) (.slice a ks.length q) ks m (.slice ma ml mq) w14.heap.size 1 rfl rfl (GO4.out.alloc _) (Blk.new w14 25 #[vs m.op, vs m.text, .int .i64 m.pos, .slice ma ml mq]).four ((KidsAt.mono (fun b (hb : w13.heap.size ≤ b) _ => ⟨by omega, fun e => by have := O_13.out.lt_ e; omega⟩) TT.out).alloc _) (by omega) (by simp; omega) ?_; rintro v' w15 ⟨hO, hG, hlo, _⟩; obtain ⟨a', q', rfl⟩ := hO.len; have GN5 := Lib.hid ((GN4.out.alloc _).grown hG (fun e => by have := hlo _ e.symm; omega)); obtain ⟨x0, x1, x2, x3⟩ := GN5.out.four; have xf := GN5.out.frozen 3; have GHO := Lib.hid hO; have GHG := Lib.hid hG; clear hO hG))
            all_goals
              have P_14 := Lib.hid PP
              have N_14 := Lib.hid (N_13.out.drew.kp kp (by omega))
              have R_14 := Lib.hid (R_13.out.drew.kp kp (by omega))
              have O_14 := Lib.hid (O_13.out.drew.kp kp (by first | omega | (simp; omega)))
              have K_14 := K_13.drew.trans kp
              have l_14 : w13.heap.size + 0 ≤ w14.heap.size := by have := kp.size; simpa using this
              have PA := Lib.hid ((P_14.out.alloc (.cells #[vs m.op, vs m.text, .int .i64 m.pos, .slice ma ml mq] 25)).grown GHG.out (fun k hk => by have := hlo k hk; omega))
              have KA := (K_14.alloc (.cells #[vs m.op, vs m.text, .int .i64 m.pos, .slice ma ml mq] 25)).grown GHG.out (fun k hk => by have := hlo k hk; omega)
              have RA := Lib.hid ((R_14.out.alloc (.cells #[vs m.op, vs m.text, .int .i64 m.pos, .slice ma ml mq] 25)).grown GHG.out (fun e => by have := hlo _ e.symm; omega))
              have NA := Lib.hid (GN5.out.set_ 3 (.slice a' (ks ++ [m]).length q'))
              simp at NA
              go_wp2_with fail
              go_roundg j
              case measure => omega
              case rel => exact ⟨ks ++ [m], s3, a', q', by simpa using NA.out, RA.out.far (by simp; omega) _, by simpa using GHO.out.kp ((Kp.refl w1.heap.size _).setB 3 _) (by omega), PA.out.far (by simp; omega) _, KA.setN (by omega) 3 _, by simp; omega, HD.out⟩
    · have he0 : (s1.err == 0) = false := by simpa using he
      rw [if_neg he] at hc
      simp only [Option.some.injEq, Prod.mk.injEq] at hc
      obtain ⟨rfl, rfl⟩ := hc
      clear he
      obtain ⟨y0, y1, y2, y3⟩ := N_1.out.four
      obtain ⟨r0, r1, r2, r3⟩ := R_1.out.four
      have rf0 := R_1.out.frozen 0
      have rf1 := R_1.out.frozen 1
      have rf2 := R_1.out.frozen 2
      have rf3 := R_1.out.frozen 3
      go_wp2_with fail
      exact bodyPost_ret (results_node Tryz.results41 rfl R_1.out.put4) rfl ⟨a, _, q, rfl, (O_1.out.kids.put4 (by simp; omega)).mono (fun b hb _ => by first | omega | (simp at hb; omega)), P_1.out.put4 (by omega), K_1.put4 (Nat.le_refl _)⟩

end Go.Proofs.YtgnmfaeonijogaaGreatDoor
