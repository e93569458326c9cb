/- Walked: things of one level, with signs between. -/
import Derived.Test.YtgnmfaeonijogaaGreatDoorExprA
import Derived.Test.YtgnmfaeonijogaaGreatDoorMaps
import Derived.Deep.RegionWith
import Derived.Shelf.Abstract
namespace Go.Proofs.YtgnmfaeonijogaaGreatDoor
open Go.RowKit Go.Shelf

set_option maxRecDepth 100000 in
set_option maxHeartbeats 4000000 in
theorem chain_any (c : PC) (F : FuncId) (ef : ∀ args w, (callFunc F args).run Tryz.prog w = .ok (.enter F args) w) (next : Pp.PS → Option (Pp.Node × Pp.PS)) (hN : IsN c F next) (k : Nat) (lns : Bool) (ops : List (Pp.Bytes × Pp.Bytes)) (mb : Nat)
    (w : World) (s : Pp.PS) (n : Pp.Node) (s' : Pp.PS) (h : PAt c w s) (hm : MapAt w mb ops) (hmb : c.bp < mb) (hh : Pp.chain c.T next k lns ops s = some (n, s')) :
    Calls Tryz.prog 90 #[.pointer (some ⟨c.bp, 0, none⟩), .func (.func F) #[.pointer (some ⟨c.bp, 0, none⟩)] #[], .bool lns, .map (some mb)] w (NPost c w n s') := by
  unfold Pp.chain at hh
  cases hEm : next s with
  | none => rw [hEm] at hh; cases hh
  | some r =>
    obtain ⟨m, s2⟩ := r
    rw [hEm] at hh
    simp only at hh
    have HN := Lib.hid hN
    have P_0 := Lib.hid h
    have HH := Lib.hid hh
    have HM := Lib.hid hEm
    have hb := h.blk.lt
    have M_0 := Lib.hid hm
    have lm := hm.lt
    clear hN h hh hEm hm
    go_enter Tryz.func90, Tryz.ntmps90
    go_wp2_with fail
    refine (HN.out _ _ _ _ (P_0.out.alloc _) HM.out).mono ?_
    rintro e w1 ⟨ka, kl, kq, rfl, tt, pp, kp⟩
    have P_1 := Lib.hid pp
    have M_1 := Lib.hid ((M_0.out.alloc _).kp kp (by omega))
    have R_1 := Lib.hid (((Blk.new w 25 z4)).kp kp (by omega))
    have K_1 := ((Kp.refl c.bp w).alloc _).trans kp
    have l_1 : w.heap.size + 1 ≤ w1.heap.size := by have := kp.size; simpa using this
    clear kp pp 
    have Tk_1 := Lib.hid tt
    clear tt
    clear HM
    go_wp2_with fail
    go_loopg [] k (fun g wr => ∃ (n1 : Pp.Node) (s1 : Pp.PS) (ka : Option Addr) (kl kq : Nat), PAt c wr s1 ∧ Kp c.bp w wr ∧ Blk wr w.heap.size 25 z4 ∧ Blk wr w1.heap.size 25 #[vs n1.op, vs n1.text, .int .i64 n1.pos, .slice ka kl kq] ∧ MapAt wr mb ops ∧
          KidsAt wr (fun b => w.heap.size < b ∧ b ≠ w1.heap.size) (.slice ka kl kq) n1.kids ∧ Hid (Pp.chainL c.T next lns ops g n1 s1 = some (n, s')))
    case atStart => exact ⟨m, s2, ka, kl, kq, P_1.out.alloc _, K_1.alloc _, R_1.out.alloc _, Blk.new w1 25 _, M_1.out.alloc _, (Tk_1.out.mono (fun b hb hl => by simp at hb; omega)).alloc _, HH.out⟩
    case round =>
      clear P_0 P_1 R_1 K_1 Tk_1 HH M_0 M_1
      obtain ⟨n1, s1, ka, kl, kq, p1, K_1, r1, b1, m1, t1, hc⟩ := hrel
      have P_1 := Lib.hid p1
      have R_1 := Lib.hid r1
      have B_1 := Lib.hid b1
      have T_1 := Lib.hid t1
      have M_1 := Lib.hid m1
      have lw := b1.lt
      have hc := hc.out
      clear p1 r1 b1 t1 m1
      obtain ⟨j, rfl⟩ : ∃ j, gk = j + 1 := by cases gk with | zero => cases hc | succ j => exact ⟨j, rfl⟩
      unfold Pp.chainL at hc
      have hcur := cur_any c wr s1 P_1.out
      generalize ht : Pp.cur c.T s1 = t at *
      have Hcur := Lib.hid hcur
      have hlook : ∀ W, MapAt W mb ops → (Instr.lookup 122 (.map (some mb)) (.string ⟨t.text.toArray⟩) false).run Tryz.prog W = .ok (vs (Pp.look ops t.text)) W := fun W hW => run_look hW t.text
      generalize Pp.look ops t.text = opn at *
      have Hlook := Lib.hid hlook
      clear hcur ht hlook
      by_cases h8 : t.kind = 8
      · have k8 : (t.kind != 8) = false := by simp [h8]
        by_cases ho : opn = []
        · subst ho
          rw [if_pos (.inr rfl)] at hc
          simp only [Option.some.injEq, Prod.mk.injEq] at hc
          obtain ⟨rfl, rfl⟩ := hc
          clear h8
          go_wp2_with fail
          refine (Hcur.out).mono ?_
          rintro e w2 ⟨rfl, hb⟩
          have kk := Kp.of_below (b := c.bp) hb
          have P_2 := Lib.hid (P_1.out.below hb)
          have R_2 := Lib.hid (R_1.out.kp kk (by omega))
          have B_2 := Lib.hid (B_1.out.kp kk (by omega))
          have M_2 := Lib.hid (M_1.out.kp kk (by omega))
          have T_2 := Lib.hid (T_1.out.kp kk (by first | omega | (simp; omega)))
          have K_2 := K_1.trans kk
          have l_2 : wr.heap.size + 0 ≤ w2.heap.size := by have := kk.size; simpa using this
          clear kk hb 
          have hl := Hlook.out _ (M_2.out.alloc (.cells #[.int .i64 t.kind, vs t.text, .int .i64 t.pos] 60))
          have PE := Lib.hid (P_2.out.alloc (.cells #[.int .i64 t.kind, vs t.text, .int .i64 t.pos] 60))
          have RE := Lib.hid (R_2.out.alloc (.cells #[.int .i64 t.kind, vs t.text, .int .i64 t.pos] 60))
          have BE := Lib.hid (B_2.out.alloc (.cells #[.int .i64 t.kind, vs t.text, .int .i64 t.pos] 60))
          obtain ⟨b0, b1, b2, b3⟩ := B_2.out.four
          obtain ⟨r0, r1, r2, r3⟩ := R_2.out.four
          have lb := B_2.out.lt
          have lr := R_2.out.lt
          have rf0 := R_2.out.frozen 0
          have rf1 := R_2.out.frozen 1
          have rf2 := R_2.out.frozen 2
          have rf3 := R_2.out.frozen 3
          go_wp2_with fail
          refine bodyPost_ret (results_node Tryz.results90 rfl (R_2.out.put4.alloc _)) rfl ⟨_, _, _, rfl, ?_, (P_2.out.put4 (by omega)).alloc _, (K_2.put4 (Nat.le_refl _)).alloc _⟩
          exact ((T_2.out.put4 (by omega)).mono (fun b hb _ => by omega)).alloc _
        · have ho1 : opn.isEmpty = false := by cases opn with | nil => exact absurd rfl ho | cons a b => rfl
          have ho2 : (opn == []) = false := by simpa using ho
          rw [if_neg (by simp [h8, ho])] at hc
          cases hEm : next (if lns then Pp.lines c.T (Pp.step c.T s1) else Pp.step c.T s1) with
          | none => rw [hEm] at hc; cases hc
          | some r =>
          obtain ⟨m', s3⟩ := r
          rw [hEm] at hc
          simp only at hc
          have HC := Lib.hid hc
          cases lns with
          | true =>
          have HM := Lib.hid (show next (Pp.lines c.T (Pp.step c.T s1)) = some (m', s3) from hEm)
          clear hc hEm h8
          go_wp2_with fail
          refine (Hcur.out).mono ?_
          rintro e w2 ⟨rfl, hb⟩
          have kk := Kp.of_below (b := c.bp) hb
          have P_2 := Lib.hid (P_1.out.below hb)
          have R_2 := Lib.hid (R_1.out.kp kk (by omega))
          have B_2 := Lib.hid (B_1.out.kp kk (by omega))
          have M_2 := Lib.hid (M_1.out.kp kk (by omega))
          have T_2 := Lib.hid (T_1.out.kp kk (by first | omega | (simp; omega)))
          have K_2 := K_1.trans kk
          have l_2 : wr.heap.size + 0 ≤ w2.heap.size := by have := kk.size; simpa using this
          clear kk hb 
          have hl := Hlook.out _ (M_2.out.alloc (.cells #[.int .i64 t.kind, vs t.text, .int .i64 t.pos] 60))
          go_wp2_with fail
          refine (step_any c _ _ (P_2.out.alloc _)).mono ?_
          rintro e w3 ⟨rfl, pp, kp⟩
          have P_3 := Lib.hid pp
          have R_3 := Lib.hid ((R_2.out.alloc _).kp kp (by omega))
          have B_3 := Lib.hid ((B_2.out.alloc _).kp kp (by omega))
          have M_3 := Lib.hid ((M_2.out.alloc _).kp kp (by omega))
          have T_3 := Lib.hid ((T_2.out.alloc _).kp kp (by first | omega | (simp; omega)))
          have K_3 := (K_2.alloc _).trans kp
          have l_3 : w2.heap.size + 1 ≤ w3.heap.size := by have := kp.size; simpa using this
          clear kp pp 
          go_wp2_with fail
          refine (lines_any c _ _ P_3.out).mono ?_
          rintro e w4 ⟨rfl, pp, kp⟩
          have P_4 := Lib.hid pp
          have R_4 := Lib.hid (R_3.out.kp kp (by omega))
          have B_4 := Lib.hid (B_3.out.kp kp (by omega))
          have M_4 := Lib.hid (M_3.out.kp kp (by omega))
          have T_4 := Lib.hid (T_3.out.kp kp (by first | omega | (simp; omega)))
          have K_4 := K_3.trans kp
          have l_4 : w3.heap.size + 0 ≤ w4.heap.size := by have := kp.size; simpa using this
          clear kp pp 
          go_wp2_with fail
          have GL := Lib.hid B_4.out.drew
          have GT := Lib.hid B_4.out.drew
          obtain ⟨ld0, ld1, ld2, ld3⟩ := B_4.out.four
          go_region_with (first
            | (go_at_fn F; refine (HN.out _ _ _ _ P_4.out.drew HM.out).mono ?_; rintro e w5 ⟨ma, ml, mq, rfl, tt, pp, kp⟩; have GL4 := Lib.hid (GL.out.kp kp (by omega)); have GT4 := Lib.hid (GT.out.kp kp (by omega)); obtain ⟨lq0, lq1, lq2, lq3⟩ := GL4.out.four; have PP := Lib.hid pp; have TT := Lib.hid tt; clear pp tt)
            | (go_at_call 25; refine (node_any _ _ _ _ _).mono ?_; rintro e w6 ⟨rfl, hb⟩; have lk := kp.size; have GT5 := Lib.hid ((GT4.out.alloc _).under hb); obtain ⟨gt0, gt1, gt2, gt3⟩ := GT5.out.four; have gf0 := GT5.out.frozen 0; have gf1 := GT5.out.frozen 1; have gf2 := GT5.out.frozen 2; have gf3 := GT5.out.frozen 3))
          all_goals
            have P_5 := Lib.hid PP
            have R_5 := Lib.hid (R_4.out.drew.kp kp (by omega))
            have B_5 := Lib.hid (B_4.out.drew.kp kp (by omega))
            have M_5 := Lib.hid (M_4.out.drew.kp kp (by omega))
            have T_5 := Lib.hid (T_4.out.drew.kp kp (by first | omega | (simp; omega)))
            have K_5 := K_4.drew.trans kp
            have l_5 : w4.heap.size + 0 ≤ w5.heap.size := by have := kp.size; simpa using this
            have Tm_5 := TT
            have kk := Kp.of_below (b := c.bp) hb
            have P_6 := Lib.hid ((P_5.out.alloc _).below hb)
            have R_6 := Lib.hid ((R_5.out.alloc _).kp kk (by omega))
            have B_6 := Lib.hid ((B_5.out.alloc _).kp kk (by omega))
            have M_6 := Lib.hid ((M_5.out.alloc _).kp kk (by omega))
            have A_6 := Lib.hid (((Blk.new w5 25 #[vs n1.op, vs n1.text, .int .i64 n1.pos, .slice ka kl kq, vs m'.op, vs m'.text, .int .i64 m'.pos, .slice ma ml mq])).kp kk (by omega))
            have T_6 := Lib.hid ((T_5.out.alloc _).kp kk (by first | omega | (simp; omega)))
            have Tm_6 := Lib.hid ((Tm_5.out.alloc _).kp kk (by first | omega | (simp; omega)))
            have K_6 := (K_5.alloc _).trans kk
            have l_6 : w5.heap.size + 1 ≤ w6.heap.size := by have := kk.size; simpa using this
            clear kp kk hb
            go_wp2_with fail
            go_roundg j
            case measure => omega
            case rel => exact ⟨Pp.node opn [n1, m'], s3, some ⟨w5.heap.size, 0, none⟩, 2, 2, P_6.out.put4 (by omega), K_6.put4 (by omega), R_6.out.far4 (by omega), B_6.out.put4, M_6.out.kp ((((((Kp.refl w1.heap.size _).setB _ _).setB _ _).setB _ _).setB _ _)) (by omega), (KidsAt.two A_6.out (by omega) T_6.out (Tm_6.out.mono (fun b hb _ => by simp at hb; omega))).put4 (by simp), HC.out⟩
          | false =>
          have HM := Lib.hid (show next (Pp.step c.T s1) = some (m', s3) from hEm)
          clear hc hEm h8
          go_wp2_with fail
          refine (Hcur.out).mono ?_
          rintro e w2 ⟨rfl, hb⟩
          have kk := Kp.of_below (b := c.bp) hb
          have P_2 := Lib.hid (P_1.out.below hb)
          have R_2 := Lib.hid (R_1.out.kp kk (by omega))
          have B_2 := Lib.hid (B_1.out.kp kk (by omega))
          have M_2 := Lib.hid (M_1.out.kp kk (by omega))
          have T_2 := Lib.hid (T_1.out.kp kk (by first | omega | (simp; omega)))
          have K_2 := K_1.trans kk
          have l_2 : wr.heap.size + 0 ≤ w2.heap.size := by have := kk.size; simpa using this
          clear kk hb 
          have hl := Hlook.out _ (M_2.out.alloc (.cells #[.int .i64 t.kind, vs t.text, .int .i64 t.pos] 60))
          go_wp2_with fail
          refine (step_any c _ _ (P_2.out.alloc _)).mono ?_
          rintro e w3 ⟨rfl, pp, kp⟩
          have P_3 := Lib.hid pp
          have R_3 := Lib.hid ((R_2.out.alloc _).kp kp (by omega))
          have B_3 := Lib.hid ((B_2.out.alloc _).kp kp (by omega))
          have M_3 := Lib.hid ((M_2.out.alloc _).kp kp (by omega))
          have T_3 := Lib.hid ((T_2.out.alloc _).kp kp (by first | omega | (simp; omega)))
          have K_3 := (K_2.alloc _).trans kp
          have l_3 : w2.heap.size + 1 ≤ w3.heap.size := by have := kp.size; simpa using this
          clear kp pp 
          go_wp2_with fail
          have GL := Lib.hid B_3.out.drew
          have GT := Lib.hid B_3.out.drew
          obtain ⟨ld0, ld1, ld2, ld3⟩ := B_3.out.four
          go_region_with (first
            | (go_at_fn F; refine (HN.out _ _ _ _ P_3.out.drew HM.out).mono ?_; rintro e w4 ⟨ma, ml, mq, rfl, tt, pp, kp⟩; have GL4 := Lib.hid (GL.out.kp kp (by omega)); have GT4 := Lib.hid (GT.out.kp kp (by omega)); obtain ⟨lq0, lq1, lq2, lq3⟩ := GL4.out.four; have PP := Lib.hid pp; have TT := Lib.hid tt; clear pp tt)
            | (go_at_call 25; refine (node_any _ _ _ _ _).mono ?_; rintro e w5 ⟨rfl, hb⟩; have lk := kp.size; have GT5 := Lib.hid ((GT4.out.alloc _).under hb); obtain ⟨gt0, gt1, gt2, gt3⟩ := GT5.out.four; have gf0 := GT5.out.frozen 0; have gf1 := GT5.out.frozen 1; have gf2 := GT5.out.frozen 2; have gf3 := GT5.out.frozen 3))
          all_goals
            have P_4 := Lib.hid PP
            have R_4 := Lib.hid (R_3.out.drew.kp kp (by omega))
            have B_4 := Lib.hid (B_3.out.drew.kp kp (by omega))
            have M_4 := Lib.hid (M_3.out.drew.kp kp (by omega))
            have T_4 := Lib.hid (T_3.out.drew.kp kp (by first | omega | (simp; omega)))
            have K_4 := K_3.drew.trans kp
            have l_4 : w3.heap.size + 0 ≤ w4.heap.size := by have := kp.size; simpa using this
            have Tm_4 := TT
            have kk := Kp.of_below (b := c.bp) hb
            have P_5 := Lib.hid ((P_4.out.alloc _).below hb)
            have R_5 := Lib.hid ((R_4.out.alloc _).kp kk (by omega))
            have B_5 := Lib.hid ((B_4.out.alloc _).kp kk (by omega))
            have M_5 := Lib.hid ((M_4.out.alloc _).kp kk (by omega))
            have A_5 := Lib.hid (((Blk.new w4 25 #[vs n1.op, vs n1.text, .int .i64 n1.pos, .slice ka kl kq, vs m'.op, vs m'.text, .int .i64 m'.pos, .slice ma ml mq])).kp kk (by omega))
            have T_5 := Lib.hid ((T_4.out.alloc _).kp kk (by first | omega | (simp; omega)))
            have Tm_5 := Lib.hid ((Tm_4.out.alloc _).kp kk (by first | omega | (simp; omega)))
            have K_5 := (K_4.alloc _).trans kk
            have l_5 : w4.heap.size + 1 ≤ w5.heap.size := by have := kk.size; simpa using this
            clear kp kk hb
            go_wp2_with fail
            go_roundg j
            case measure => omega
            case rel => exact ⟨Pp.node opn [n1, m'], s3, some ⟨w4.heap.size, 0, none⟩, 2, 2, P_5.out.put4 (by omega), K_5.put4 (by omega), R_5.out.far4 (by omega), B_5.out.put4, M_5.out.kp ((((((Kp.refl w1.heap.size _).setB _ _).setB _ _).setB _ _).setB _ _)) (by omega), (KidsAt.two A_5.out (by omega) T_5.out (Tm_5.out.mono (fun b hb _ => by simp at hb; omega))).put4 (by simp), HC.out⟩
      · have k8 : (t.kind != 8) = true := by simpa using h8
        rw [if_pos (.inl h8)] at hc
        simp only [Option.some.injEq, Prod.mk.injEq] at hc
        obtain ⟨rfl, rfl⟩ := hc
        clear h8
        go_wp2_with fail
        refine (Hcur.out).mono ?_
        rintro e w2 ⟨rfl, hb⟩
        have kk := Kp.of_below (b := c.bp) hb
        have P_2 := Lib.hid (P_1.out.below hb)
        have R_2 := Lib.hid (R_1.out.kp kk (by omega))
        have B_2 := Lib.hid (B_1.out.kp kk (by omega))
        have M_2 := Lib.hid (M_1.out.kp kk (by omega))
        have T_2 := Lib.hid (T_1.out.kp kk (by first | omega | (simp; omega)))
        have K_2 := K_1.trans kk
        have l_2 : wr.heap.size + 0 ≤ w2.heap.size := by have := kk.size; simpa using this
        clear kk hb 
        have hl := Hlook.out _ (M_2.out.alloc (.cells #[.int .i64 t.kind, vs t.text, .int .i64 t.pos] 60))
        have PE := Lib.hid (P_2.out.alloc (.cells #[.int .i64 t.kind, vs t.text, .int .i64 t.pos] 60))
        have RE := Lib.hid (R_2.out.alloc (.cells #[.int .i64 t.kind, vs t.text, .int .i64 t.pos] 60))
        have BE := Lib.hid (B_2.out.alloc (.cells #[.int .i64 t.kind, vs t.text, .int .i64 t.pos] 60))
        obtain ⟨b0, b1, b2, b3⟩ := B_2.out.four
        obtain ⟨r0, r1, r2, r3⟩ := R_2.out.four
        have lb := B_2.out.lt
        have lr := R_2.out.lt
        have rf0 := R_2.out.frozen 0
        have rf1 := R_2.out.frozen 1
        have rf2 := R_2.out.frozen 2
        have rf3 := R_2.out.frozen 3
        go_wp2_with fail
        refine bodyPost_ret (results_node Tryz.results90 rfl (R_2.out.put4.alloc _)) rfl ⟨_, _, _, rfl, ?_, (P_2.out.put4 (by omega)).alloc _, (K_2.put4 (Nat.le_refl _)).alloc _⟩
        exact ((T_2.out.put4 (by omega)).mono (fun b hb _ => by omega)).alloc _

end Go.Proofs.YtgnmfaeonijogaaGreatDoor
