/- Walked: what binds closest. -/
import Derived.Test.YtgnmfaeonijogaaGreatDoorExprG
import Derived.Test.YtgnmfaeonijogaaGreatDoorExprH
import Derived.Deep.RegionWith
namespace Go.Proofs.YtgnmfaeonijogaaGreatDoor
open Go.RowKit

/-- What regex.Parse has to tell of a text: the error's number alone. -/
def RxAt (rx : Pp.Bytes → Int) (t : Pp.Bytes) : Prop := ∀ (w : World), Calls Tryz.prog 129 #[vs t] w fun e w' =>
  ∃ (o at_ : Int) (a b c d : Int) (ka : Option Addr) (kl kq : Nat), e = .returned (.tuple #[.agg #[.int .i64 o, .int .u64 a, .int .u64 b, .int .u64 c, .int .u64 d, .slice ka kl kq], .int .i64 at_, .int .i64 (rx t)]) ∧ Below w.heap.size w w'
/-- The same of all patterns among the tokens. -/
def RxOk (T : List Pp.Tok) (rx : Pp.Bytes → Int) : Prop := ∀ t ∈ T, t.kind = 4 → RxAt rx t.text
theorem RxOk.at_ {c : PC} {rx : Pp.Bytes → Int} {w : World} {s : Pp.PS} (hR : RxOk c.T rx) (h : PAt c w s) (hk : (Pp.cur c.T s).kind = 4) : RxAt rx (Pp.cur c.T s).text := by
  by_cases he : s.err = 0
  · have e : Pp.cur c.T s = c.T.getD s.i Pp.tok0 := by simp [Pp.cur, he]
    rw [e] at hk ⊢
    exact hR _ (List.mem_of_getElem? h.getT) hk
  · have e : Pp.cur c.T s = Pp.tok0 := by simp [Pp.cur, he]
    rw [e] at hk
    simp [Pp.tok0] at hk

theorem cur_text {c : PC} {w : World} {s : Pp.PS} (h : PAt c w s) : (Pp.cur c.T s).text.length ≤ 1000000 := by
  unfold Pp.cur
  split
  · exact h.ok.text _ _ h.getT
  · simp [Pp.tok0]

set_option maxRecDepth 100000 in
set_option maxHeartbeats 16000000 in
theorem primary_any (c : PC) (rx : Pp.Bytes → Int) (hR : RxOk c.T rx) (E : Pp.PS → Option (Pp.Node × Pp.PS)) (k : Nat) (hk : k ≤ 1000000) (hE : IsN c 46 E) (hB : IsN c 130 (Pp.builtin c.T E k))
    (hd : ∀ j s n s', Pp.primary rx c.T E k j s = some (n, s') → s'.deep = s.deep) (hdp : ∀ j s n s', Pp.post c.T (Pp.primary rx c.T E k j) s = some (n, s') → s'.deep = s.deep) :
    ∀ j, IsN c 128 (Pp.primary rx c.T E k j) := by
  intro j
  induction j with
  | zero => intro w s n s' h hh; cases hh
  | succ j ih =>
  intro w s n s' h hh
  have hr4 : (Pp.cur c.T s).kind = 4 → RxAt rx (Pp.cur c.T s).text := fun hk => hR.at_ h hk
  have HR := Lib.hid hr4
  have HE := Lib.hid hE
  have HB := Lib.hid hB
  have HI := Lib.hid ih
  have HP := Lib.hid (post_any c _ ih)
  have HD := Lib.hid hd
  have HDP := Lib.hid hdp
  have P_0 := Lib.hid h
  have hb := h.blk.lt
  have htx := cur_text h
  have hcur := fun W hW => cur_any c W s hW
  rw [Pp.primary] at hh
  unfold Pp.primaryG at hh
  simp only at hh
  generalize ht : Pp.cur c.T s = t at *
  have Hcur := Lib.hid hcur
  clear hR hr4 hE hB ih hd hdp h hcur ht
  by_cases n2 : t.kind = 2
  · rw [if_pos n2] at hh
    simp only [Option.some.injEq, Prod.mk.injEq] at hh
    obtain ⟨rfl, rfl⟩ := hh
    have k2 : (t.kind == 2) = true := by simpa using n2
    clear n2
    go_enter_defers Tryz.func128, Tryz.ntmps128
    go_wp2_with fail
    refine (Hcur.out _ (P_0.out.alloc _)).mono ?_
    rintro e w1 ⟨rfl, hb⟩
    have kk := Kp.of_below (b := c.bp) hb
    have P_1 := Lib.hid ((P_0.out.alloc _).below hb)
    have R_1 := Lib.hid (((Blk.new w 25 z4)).kp kk (by omega))
    have K_1 := ((Kp.refl c.bp w).alloc _).trans kk
    have l_1 : w.heap.size + 1 ≤ w1.heap.size := by have := kk.size; simpa using this
    clear kk hb 
    go_wp2_with fail
    refine (step_any c _ _ (P_1.out.alloc _)).mono ?_
    rintro e w2 ⟨rfl, pp, kp⟩
    have P_2 := Lib.hid pp
    have R_2 := Lib.hid ((R_1.out.alloc _).kp kp (by omega))
    have B_2 := Lib.hid (((Blk.new w1 60 #[.int .i64 t.kind, vs t.text, .int .i64 t.pos])).kp kp (by omega))
    have K_2 := (K_1.alloc _).trans kp
    have l_2 : w1.heap.size + 1 ≤ w2.heap.size := by have := kp.size; simpa using this
    clear kp pp 
    obtain ⟨b0, b1, b2⟩ := B_2.out.tri
    go_wp2_with fail
    refine (leaf_any _ _ t _ _ _).mono ?_
    rintro e w3 ⟨rfl, hb⟩
    have kk := Kp.of_below (b := c.bp) hb
    have P_3 := Lib.hid (P_2.out.below hb)
    have R_3 := Lib.hid (R_2.out.kp kk (by omega))
    have B_3 := Lib.hid (B_2.out.kp kk (by omega))
    have K_3 := K_2.trans kk
    have l_3 : w2.heap.size + 0 ≤ w3.heap.size := by have := kk.size; simpa using this
    clear kk hb 
    obtain ⟨r0, r1, r2, r3⟩ := R_3.out.four
    have rf0 := R_3.out.frozen 0
    have rf1 := R_3.out.frozen 1
    have rf2 := R_3.out.frozen 2
    have rf3 := R_3.out.frozen 3
    go_wp2_with fail
    exact ⟨_, results_node Tryz.results128 rfl R_3.out.put4, none, 0, 0, rfl, .nil _ _, P_3.out.put4 (by omega), K_3.put4 (Nat.le_refl _)⟩
  rw [if_neg n2] at hh
  by_cases n3 : t.kind = 3
  · rw [if_pos n3] at hh
    simp only [Option.some.injEq, Prod.mk.injEq] at hh
    obtain ⟨rfl, rfl⟩ := hh
    have k2 : (t.kind == 2) = false := by simpa using n2
    have k3 : (t.kind == 3) = true := by simpa using n3
    clear n3 n2
    go_enter_defers Tryz.func128, Tryz.ntmps128
    go_wp2_with fail
    refine (Hcur.out _ (P_0.out.alloc _)).mono ?_
    rintro e w1 ⟨rfl, hb⟩
    have kk := Kp.of_below (b := c.bp) hb
    have P_1 := Lib.hid ((P_0.out.alloc _).below hb)
    have R_1 := Lib.hid (((Blk.new w 25 z4)).kp kk (by omega))
    have K_1 := ((Kp.refl c.bp w).alloc _).trans kk
    have l_1 : w.heap.size + 1 ≤ w1.heap.size := by have := kk.size; simpa using this
    clear kk hb 
    go_wp2_with fail
    refine (step_any c _ _ (P_1.out.alloc _)).mono ?_
    rintro e w2 ⟨rfl, pp, kp⟩
    have P_2 := Lib.hid pp
    have R_2 := Lib.hid ((R_1.out.alloc _).kp kp (by omega))
    have B_2 := Lib.hid (((Blk.new w1 60 #[.int .i64 t.kind, vs t.text, .int .i64 t.pos])).kp kp (by omega))
    have K_2 := (K_1.alloc _).trans kp
    have l_2 : w1.heap.size + 1 ≤ w2.heap.size := by have := kp.size; simpa using this
    clear kp pp 
    obtain ⟨b0, b1, b2⟩ := B_2.out.tri
    go_wp2_with fail
    refine (leaf_any _ _ t _ _ _).mono ?_
    rintro e w3 ⟨rfl, hb⟩
    have kk := Kp.of_below (b := c.bp) hb
    have P_3 := Lib.hid (P_2.out.below hb)
    have R_3 := Lib.hid (R_2.out.kp kk (by omega))
    have B_3 := Lib.hid (B_2.out.kp kk (by omega))
    have K_3 := K_2.trans kk
    have l_3 : w2.heap.size + 0 ≤ w3.heap.size := by have := kk.size; simpa using this
    clear kk hb 
    obtain ⟨r0, r1, r2, r3⟩ := R_3.out.four
    have rf0 := R_3.out.frozen 0
    have rf1 := R_3.out.frozen 1
    have rf2 := R_3.out.frozen 2
    have rf3 := R_3.out.frozen 3
    go_wp2_with fail
    exact ⟨_, results_node Tryz.results128 rfl R_3.out.put4, none, 0, 0, rfl, .nil _ _, P_3.out.put4 (by omega), K_3.put4 (Nat.le_refl _)⟩
  rw [if_neg n3] at hh
  by_cases n4 : t.kind = 4
  · rw [if_pos n4] at hh
    simp only [Option.some.injEq, Prod.mk.injEq] at hh
    obtain ⟨rfl, rfl⟩ := hh
    have k2 : (t.kind == 2) = false := by simpa using n2
    have k3 : (t.kind == 3) = false := by simpa using n3
    have k4 : (t.kind == 4) = true := by simpa using n4
    have HRT := Lib.hid (HR.out n4)
    clear n4 n2 n3
    by_cases hrx : rx t.text = 0
    · have hrz : (rx t.text != 0) = false := by simp [hrx]
      rw [if_pos hrx]
      go_enter_defers Tryz.func128, Tryz.ntmps128
      go_wp2_with fail
      refine (Hcur.out _ (P_0.out.alloc _)).mono ?_
      rintro e w1 ⟨rfl, hb⟩
      have kk := Kp.of_below (b := c.bp) hb
      have P_1 := Lib.hid ((P_0.out.alloc _).below hb)
      have R_1 := Lib.hid (((Blk.new w 25 z4)).kp kk (by omega))
      have K_1 := ((Kp.refl c.bp w).alloc _).trans kk
      have l_1 : w.heap.size + 1 ≤ w1.heap.size := by have := kk.size; simpa using this
      clear kk hb 
      go_wp2_with fail
      refine (HRT.out _).mono ?_
      rintro e w2 ⟨o, p, a0, a1, a2, a3, ra, rl, rq, rfl, hb⟩
      have kk := Kp.of_below (b := c.bp) hb
      have P_2 := Lib.hid ((P_1.out.alloc _).below hb)
      have R_2 := Lib.hid ((R_1.out.alloc _).kp kk (by omega))
      have B_2 := Lib.hid (((Blk.new w1 60 #[.int .i64 t.kind, vs t.text, .int .i64 t.pos])).kp kk (by omega))
      have K_2 := (K_1.alloc _).trans kk
      have l_2 : w1.heap.size + 1 ≤ w2.heap.size := by have := kk.size; simpa using this
      clear kk hb 
      go_wp2_with fail
      refine (step_any c _ _ (P_2.out.alloc _)).mono ?_
      rintro e w3 ⟨rfl, pp, kp⟩
      have P_3 := Lib.hid pp
      have R_3 := Lib.hid ((R_2.out.alloc _).kp kp (by omega))
      have B_3 := Lib.hid ((B_2.out.alloc _).kp kp (by omega))
      have K_3 := (K_2.alloc _).trans kp
      have l_3 : w2.heap.size + 1 ≤ w3.heap.size := by have := kp.size; simpa using this
      clear kp pp 
      obtain ⟨b0, b1, b2⟩ := B_3.out.tri
      go_wp2_with fail
      refine (leaf_any _ _ t _ _ _).mono ?_
      rintro e w4 ⟨rfl, hb⟩
      have kk := Kp.of_below (b := c.bp) hb
      have P_4 := Lib.hid (P_3.out.below hb)
      have R_4 := Lib.hid (R_3.out.kp kk (by omega))
      have B_4 := Lib.hid (B_3.out.kp kk (by omega))
      have K_4 := K_3.trans kk
      have l_4 : w3.heap.size + 0 ≤ w4.heap.size := by have := kk.size; simpa using this
      clear kk hb 
      obtain ⟨r0, r1, r2, r3⟩ := R_4.out.four
      have rf0 := R_4.out.frozen 0
      have rf1 := R_4.out.frozen 1
      have rf2 := R_4.out.frozen 2
      have rf3 := R_4.out.frozen 3
      go_wp2_with fail
      exact ⟨_, results_node Tryz.results128 rfl R_4.out.put4, none, 0, 0, rfl, .nil _ _, P_4.out.put4 (by omega), K_4.put4 (Nat.le_refl _)⟩
    · have hrz : (rx t.text != 0) = true := by simpa using hrx
      rw [if_neg hrx]
      go_enter_defers Tryz.func128, Tryz.ntmps128
      go_wp2_with fail
      refine (Hcur.out _ (P_0.out.alloc _)).mono ?_
      rintro e w1 ⟨rfl, hb⟩
      have kk := Kp.of_below (b := c.bp) hb
      have P_1 := Lib.hid ((P_0.out.alloc _).below hb)
      have R_1 := Lib.hid (((Blk.new w 25 z4)).kp kk (by omega))
      have K_1 := ((Kp.refl c.bp w).alloc _).trans kk
      have l_1 : w.heap.size + 1 ≤ w1.heap.size := by have := kk.size; simpa using this
      clear kk hb 
      go_wp2_with fail
      refine (HRT.out _).mono ?_
      rintro e w2 ⟨o, p, a0, a1, a2, a3, ra, rl, rq, rfl, hb⟩
      have kk := Kp.of_below (b := c.bp) hb
      have P_2 := Lib.hid ((P_1.out.alloc _).below hb)
      have R_2 := Lib.hid ((R_1.out.alloc _).kp kk (by omega))
      have B_2 := Lib.hid (((Blk.new w1 60 #[.int .i64 t.kind, vs t.text, .int .i64 t.pos])).kp kk (by omega))
      have K_2 := (K_1.alloc _).trans kk
      have l_2 : w1.heap.size + 1 ≤ w2.heap.size := by have := kk.size; simpa using this
      clear kk hb 
      go_wp2_with fail
      refine (fail_any c _ _ (P_2.out.alloc _)).mono ?_
      rintro e w3 ⟨rfl, pp, kp⟩
      have P_3 := Lib.hid pp
      have R_3 := Lib.hid ((R_2.out.alloc _).kp kp (by omega))
      have B_3 := Lib.hid ((B_2.out.alloc _).kp kp (by omega))
      have K_3 := (K_2.alloc _).trans kp
      have l_3 : w2.heap.size + 1 ≤ w3.heap.size := by have := kp.size; simpa using this
      clear kp pp 
      go_wp2_with fail
      refine (step_any c _ _ P_3.out).mono ?_
      rintro e w4 ⟨rfl, pp, kp⟩
      have P_4 := Lib.hid pp
      have R_4 := Lib.hid (R_3.out.kp kp (by omega))
      have B_4 := Lib.hid (B_3.out.kp kp (by omega))
      have K_4 := K_3.trans kp
      have l_4 : w3.heap.size + 0 ≤ w4.heap.size := by have := kp.size; simpa using this
      clear kp pp 
      obtain ⟨b0, b1, b2⟩ := B_4.out.tri
      go_wp2_with fail
      refine (leaf_any _ _ t _ _ _).mono ?_
      rintro e w5 ⟨rfl, hb⟩
      have kk := Kp.of_below (b := c.bp) hb
      have P_5 := Lib.hid (P_4.out.below hb)
      have R_5 := Lib.hid (R_4.out.kp kk (by omega))
      have B_5 := Lib.hid (B_4.out.kp kk (by omega))
      have K_5 := K_4.trans kk
      have l_5 : w4.heap.size + 0 ≤ w5.heap.size := by have := kk.size; simpa using this
      clear kk hb 
      obtain ⟨r0, r1, r2, r3⟩ := R_5.out.four
      have rf0 := R_5.out.frozen 0
      have rf1 := R_5.out.frozen 1
      have rf2 := R_5.out.frozen 2
      have rf3 := R_5.out.frozen 3
      go_wp2_with fail
      exact ⟨_, results_node Tryz.results128 rfl R_5.out.put4, none, 0, 0, rfl, .nil _ _, P_5.out.put4 (by omega), K_5.put4 (Nat.le_refl _)⟩
  rw [if_neg n4] at hh
  by_cases n5 : t.kind = 5
  · rw [if_pos n5] at hh
    have k2 : (t.kind == 2) = false := by simpa using n2
    have k3 : (t.kind == 3) = false := by simpa using n3
    have k4 : (t.kind == 4) = false := by simpa using n4
    have k5 : (t.kind == 5) = true := by simpa using n5
    clear n5 n2 n3 n4
    cases hat : Pp.at_ c.T [[91]] (Pp.step c.T s) with
    | true =>
      rw [if_pos hat] at hh
      have HA := Lib.hid hat
      clear hat
      cases hEm : Pp.inside c.T E [93] (Pp.step c.T (Pp.step c.T s)) with
      | none => rw [hEm] at hh; cases hh
      | some r =>
      obtain ⟨m, s2⟩ := r
      rw [hEm] at hh
      simp only [Option.some.injEq, Prod.mk.injEq] at hh
      obtain ⟨rfl, rfl⟩ := hh
      have HM := Lib.hid hEm
      clear hEm
      go_enter_defers Tryz.func128, Tryz.ntmps128
      go_wp2_with fail
      refine (Hcur.out _ (P_0.out.alloc _)).mono ?_
      rintro e w1 ⟨rfl, hb⟩
      have kk := Kp.of_below (b := c.bp) hb
      have P_1 := Lib.hid ((P_0.out.alloc _).below hb)
      have R_1 := Lib.hid (((Blk.new w 25 z4)).kp kk (by omega))
      have K_1 := ((Kp.refl c.bp w).alloc _).trans kk
      have l_1 : w.heap.size + 1 ≤ w1.heap.size := by have := kk.size; simpa using this
      clear kk hb 
      go_wp2_with fail
      refine (step_any c _ _ (P_1.out.alloc _)).mono ?_
      rintro e w2 ⟨rfl, pp, kp⟩
      have P_2 := Lib.hid pp
      have R_2 := Lib.hid ((R_1.out.alloc _).kp kp (by omega))
      have B_2 := Lib.hid (((Blk.new w1 60 #[.int .i64 t.kind, vs t.text, .int .i64 t.pos])).kp kp (by omega))
      have K_2 := (K_1.alloc _).trans kp
      have l_2 : w1.heap.size + 1 ≤ w2.heap.size := by have := kp.size; simpa using this
      clear kp pp 
      go_wp2_with fail
      refine (accept_t c _ _ P_2.out [91] HA.out).mono ?_
      rintro e w3 ⟨rfl, pp, kp⟩
      have P_3 := Lib.hid pp
      have R_3 := Lib.hid (R_2.out.kp kp (by omega))
      have B_3 := Lib.hid (B_2.out.kp kp (by omega))
      have K_3 := K_2.trans kp
      have l_3 : w2.heap.size + 0 ≤ w3.heap.size := by have := kp.size; simpa using this
      clear kp pp 
      go_wp2_with fail
      have GL := Lib.hid B_3.out.drew
      have GT := Lib.hid R_3.out.drew
      obtain ⟨ld0, ld1, ld2⟩ := B_3.out.tri
      refine wp_region_noPanic ?_
      go_region_with (first
        | (go_at_call 84; refine (inside_any c E HE.out [93] _ _ _ _ P_3.out.drew HM.out).mono ?_; rintro e w4 ⟨ma, ml, mq, rfl, tt, pp, kp⟩; have GL4 := Lib.hid (GL.out.kp kp (by omega)); have GT4 := Lib.hid (GT.out.kp kp (by omega)); obtain ⟨lq0, lq1, lq2⟩ := GL4.out.tri; have lk := GL4.out.lt; have PP := Lib.hid pp; have TT := Lib.hid tt; clear pp tt)
        | (go_at_call 42; refine (leaf_any _ _ t _ _ _).mono ?_; rintro e w5 ⟨rfl, hb⟩; have GT5 := Lib.hid ((GT4.out.alloc _).under hb); obtain ⟨gt0, gt1, gt2, gt3⟩ := GT5.out.four; have gf0 := GT5.out.frozen 0; have gf1 := GT5.out.frozen 1; have gf2 := GT5.out.frozen 2; have gf3 := GT5.out.frozen 3))
      all_goals
        refine NoPanic.normal ?_
        have P_4 := Lib.hid PP
        have R_4 := Lib.hid (R_3.out.drew.kp kp (by omega))
        have B_4 := Lib.hid (B_3.out.drew.kp kp (by omega))
        have K_4 := K_3.drew.trans kp
        have l_4 : w3.heap.size + 0 ≤ w4.heap.size := by have := kp.size; simpa using this
        have Tm_4 := TT
        have kk := Kp.of_below (b := c.bp) hb
        have P_5 := Lib.hid ((P_4.out.alloc _).below hb)
        have R_5 := Lib.hid ((R_4.out.alloc _).kp kk (by omega))
        have B_5 := Lib.hid ((B_4.out.alloc _).kp kk (by omega))
        have A_5 := Lib.hid (((Blk.new w4 25 #[vs m.op, vs m.text, .int .i64 m.pos, .slice ma ml mq])).kp kk (by omega))
        have Tm_5 := Lib.hid ((Tm_4.out.alloc _).kp kk (by first | omega | (simp; omega)))
        have K_5 := (K_4.alloc _).trans kk
        have l_5 : w4.heap.size + 1 ≤ w5.heap.size := by have := kk.size; simpa using this
        clear kp kk hb
        obtain ⟨r0, r1, r2, r3⟩ := R_5.out.four
        have rf0 := R_5.out.frozen 0
        have rf1 := R_5.out.frozen 1
        have rf2 := R_5.out.frozen 2
        have rf3 := R_5.out.frozen 3
        go_wp2_with fail
        exact ⟨_, results_node Tryz.results128 rfl R_5.out.put4, _, 1, 1, rfl, ((KidsAt.one (n1 := m) (S := fun b => w.heap.size < b) A_5.out (by omega) (Tm_5.out.mono (fun b hb _ => by first | omega | (simp at hb; omega)))).put4 (by simp)).mono (fun b hb _ => by omega), P_5.out.put4 (by omega), K_5.put4 (Nat.le_refl _)⟩
    | false =>
      rw [if_neg (by simp [hat])] at hh
      have HA := Lib.hid hat
      clear hat
      simp only [Option.some.injEq, Prod.mk.injEq] at hh
      obtain ⟨rfl, rfl⟩ := hh
      go_enter_defers Tryz.func128, Tryz.ntmps128
      go_wp2_with fail
      refine (Hcur.out _ (P_0.out.alloc _)).mono ?_
      rintro e w1 ⟨rfl, hb⟩
      have kk := Kp.of_below (b := c.bp) hb
      have P_1 := Lib.hid ((P_0.out.alloc _).below hb)
      have R_1 := Lib.hid (((Blk.new w 25 z4)).kp kk (by omega))
      have K_1 := ((Kp.refl c.bp w).alloc _).trans kk
      have l_1 : w.heap.size + 1 ≤ w1.heap.size := by have := kk.size; simpa using this
      clear kk hb 
      go_wp2_with fail
      refine (step_any c _ _ (P_1.out.alloc _)).mono ?_
      rintro e w2 ⟨rfl, pp, kp⟩
      have P_2 := Lib.hid pp
      have R_2 := Lib.hid ((R_1.out.alloc _).kp kp (by omega))
      have B_2 := Lib.hid (((Blk.new w1 60 #[.int .i64 t.kind, vs t.text, .int .i64 t.pos])).kp kp (by omega))
      have K_2 := (K_1.alloc _).trans kp
      have l_2 : w1.heap.size + 1 ≤ w2.heap.size := by have := kp.size; simpa using this
      clear kp pp 
      go_wp2_with fail
      refine (accept_f c _ _ P_2.out [91] HA.out).mono ?_
      rintro e w3 ⟨rfl, pp, kp⟩
      have P_3 := Lib.hid pp
      have R_3 := Lib.hid (R_2.out.kp kp (by omega))
      have B_3 := Lib.hid (B_2.out.kp kp (by omega))
      have K_3 := K_2.trans kp
      have l_3 : w2.heap.size + 0 ≤ w3.heap.size := by have := kp.size; simpa using this
      clear kp pp 
      obtain ⟨b0, b1, b2⟩ := B_3.out.tri
      go_wp2_with fail
      refine (leaf_any _ _ t _ _ _).mono ?_
      rintro e w4 ⟨rfl, hb⟩
      have kk := Kp.of_below (b := c.bp) hb
      have P_4 := Lib.hid (P_3.out.below hb)
      have R_4 := Lib.hid (R_3.out.kp kk (by omega))
      have B_4 := Lib.hid (B_3.out.kp kk (by omega))
      have K_4 := K_3.trans kk
      have l_4 : w3.heap.size + 0 ≤ w4.heap.size := by have := kk.size; simpa using this
      clear kk hb 
      obtain ⟨r0, r1, r2, r3⟩ := R_4.out.four
      have rf0 := R_4.out.frozen 0
      have rf1 := R_4.out.frozen 1
      have rf2 := R_4.out.frozen 2
      have rf3 := R_4.out.frozen 3
      go_wp2_with fail
      exact ⟨_, results_node Tryz.results128 rfl R_4.out.put4, none, 0, 0, rfl, .nil _ _, P_4.out.put4 (by omega), K_4.put4 (Nat.le_refl _)⟩
  rw [if_neg n5] at hh
  by_cases n6 : t.kind = 6
  · rw [if_pos n6] at hh
    have k2 : (t.kind == 2) = false := by simpa using n2
    have k3 : (t.kind == 3) = false := by simpa using n3
    have k4 : (t.kind == 4) = false := by simpa using n4
    have k5 : (t.kind == 5) = false := by simpa using n5
    have k6 : (t.kind == 6) = true := by simpa using n6
    clear n6 n2 n3 n4 n5
    cases hEm : Pp.list c.T E k [41] (Pp.expect c.T [40] (Pp.step c.T s)) with
    | none => rw [hEm] at hh; cases hh
    | some r =>
    obtain ⟨m, s2⟩ := r
    rw [hEm] at hh
    simp only [Option.some.injEq, Prod.mk.injEq] at hh
    obtain ⟨rfl, rfl⟩ := hh
    have HM := Lib.hid hEm
    clear hEm
    go_enter_defers Tryz.func128, Tryz.ntmps128
    go_wp2_with fail
    refine (Hcur.out _ (P_0.out.alloc _)).mono ?_
    rintro e w1 ⟨rfl, hb⟩
    have kk := Kp.of_below (b := c.bp) hb
    have P_1 := Lib.hid ((P_0.out.alloc _).below hb)
    have R_1 := Lib.hid (((Blk.new w 25 z4)).kp kk (by omega))
    have K_1 := ((Kp.refl c.bp w).alloc _).trans kk
    have l_1 : w.heap.size + 1 ≤ w1.heap.size := by have := kk.size; simpa using this
    clear kk hb 
    go_wp2_with fail
    refine (step_any c _ _ (P_1.out.alloc _)).mono ?_
    rintro e w2 ⟨rfl, pp, kp⟩
    have P_2 := Lib.hid pp
    have R_2 := Lib.hid ((R_1.out.alloc _).kp kp (by omega))
    have B_2 := Lib.hid (((Blk.new w1 60 #[.int .i64 t.kind, vs t.text, .int .i64 t.pos])).kp kp (by omega))
    have K_2 := (K_1.alloc _).trans kp
    have l_2 : w1.heap.size + 1 ≤ w2.heap.size := by have := kp.size; simpa using this
    clear kp pp 
    go_wp2_with fail
    refine (expect_any c _ _ P_2.out [40]).mono ?_
    rintro e w3 ⟨rfl, pp, kp⟩
    have P_3 := Lib.hid pp
    have R_3 := Lib.hid (R_2.out.kp kp (by omega))
    have B_3 := Lib.hid (B_2.out.kp kp (by omega))
    have K_3 := K_2.trans kp
    have l_3 : w2.heap.size + 0 ≤ w3.heap.size := by have := kp.size; simpa using this
    clear kp pp 
    go_wp2_with fail
    have GL := Lib.hid B_3.out.drew
    have GT := Lib.hid R_3.out.drew
    obtain ⟨ld0, ld1, ld2⟩ := B_3.out.tri
    refine wp_region_noPanic ?_
    go_region_with (first
      | (go_at_call 105; refine (list_any c E HE.out k hk [41] _ _ _ _ P_3.out.drew HM.out).mono ?_; rintro e w4 ⟨ma, mq, rfl, tt, pp, kp⟩; have GL4 := Lib.hid (GL.out.kp kp (by omega)); have GT4 := Lib.hid (GT.out.kp kp (by omega)); obtain ⟨lq0, lq1, lq2⟩ := GL4.out.tri; have lk := GL4.out.lt; have PP := Lib.hid pp; have TT := Lib.hid tt; clear pp tt)
      | (go_at_call 42; refine (leaf_any _ _ t _ _ _).mono ?_; rintro e w5 ⟨rfl, hb⟩; have GT5 := Lib.hid (GT4.out.under hb); obtain ⟨gt0, gt1, gt2, gt3⟩ := GT5.out.four; have gf0 := GT5.out.frozen 0; have gf1 := GT5.out.frozen 1; have gf2 := GT5.out.frozen 2; have gf3 := GT5.out.frozen 3))
    all_goals
      refine NoPanic.normal ?_
      have P_4 := Lib.hid PP
      have R_4 := Lib.hid (R_3.out.drew.kp kp (by omega))
      have B_4 := Lib.hid (B_3.out.drew.kp kp (by omega))
      have K_4 := K_3.drew.trans kp
      have l_4 : w3.heap.size + 0 ≤ w4.heap.size := by have := kp.size; simpa using this
      have Om_4 := TT
      have kk := Kp.of_below (b := c.bp) hb
      have P_5 := Lib.hid (P_4.out.below hb)
      have R_5 := Lib.hid (R_4.out.kp kk (by omega))
      have B_5 := Lib.hid (B_4.out.kp kk (by omega))
      have Om_5 := Lib.hid (Om_4.out.kp kk (by first | omega | (simp; omega)))
      have K_5 := K_4.trans kk
      have l_5 : w4.heap.size + 0 ≤ w5.heap.size := by have := kk.size; simpa using this
      clear kp kk hb
      obtain ⟨r0, r1, r2, r3⟩ := R_5.out.four
      have rf0 := R_5.out.frozen 0
      have rf1 := R_5.out.frozen 1
      have rf2 := R_5.out.frozen 2
      have rf3 := R_5.out.frozen 3
      go_wp2_with fail
      exact ⟨_, results_node Tryz.results128 rfl R_5.out.put4, _, _, _, rfl, (Om_5.out.kids.put4 (by simp; omega)).mono (fun b hb _ => by first | omega | (simp at hb; omega)), P_5.out.put4 (by omega), K_5.put4 (Nat.le_refl _)⟩
  rw [if_neg n6] at hh
  by_cases n9 : t.kind = 9
  · rw [if_pos n9] at hh
    have k2 : (t.kind == 2) = false := by simpa using n2
    have k3 : (t.kind == 3) = false := by simpa using n3
    have k4 : (t.kind == 4) = false := by simpa using n4
    have k5 : (t.kind == 5) = false := by simpa using n5
    have k6 : (t.kind == 6) = false := by simpa using n6
    have k9 : (t.kind == 9) = true := by simpa using n9
    clear n9 n2 n3 n4 n5 n6
    have HM := Lib.hid hh
    clear hh
    go_enter_defers Tryz.func128, Tryz.ntmps128
    go_wp2_with fail
    refine (Hcur.out _ (P_0.out.alloc _)).mono ?_
    rintro e w1 ⟨rfl, hb⟩
    have kk := Kp.of_below (b := c.bp) hb
    have P_1 := Lib.hid ((P_0.out.alloc _).below hb)
    have R_1 := Lib.hid (((Blk.new w 25 z4)).kp kk (by omega))
    have K_1 := ((Kp.refl c.bp w).alloc _).trans kk
    have l_1 : w.heap.size + 1 ≤ w1.heap.size := by have := kk.size; simpa using this
    clear kk hb 
    go_wp2_with fail
    refine (HB.out _ _ _ _ (P_1.out.alloc _) HM.out).mono ?_
    rintro e w2 ⟨ma, ml, mq, rfl, tt, pp, kp⟩
    have P_2 := Lib.hid pp
    have R_2 := Lib.hid ((R_1.out.alloc _).kp kp (by omega))
    have B_2 := Lib.hid (((Blk.new w1 60 #[.int .i64 t.kind, vs t.text, .int .i64 t.pos])).kp kp (by omega))
    have K_2 := (K_1.alloc _).trans kp
    have l_2 : w1.heap.size + 1 ≤ w2.heap.size := by have := kp.size; simpa using this
    clear kp pp 
    have Tm_2 := Lib.hid tt
    clear tt
    obtain ⟨r0, r1, r2, r3⟩ := R_2.out.four
    have rf0 := R_2.out.frozen 0
    have rf1 := R_2.out.frozen 1
    have rf2 := R_2.out.frozen 2
    have rf3 := R_2.out.frozen 3
    go_wp2_with fail
    exact ⟨_, results_node Tryz.results128 rfl R_2.out.put4, ma, ml, mq, rfl, (Tm_2.out.put4 (by first | omega | (simp; omega))).mono (fun b hb _ => by first | omega | (simp at hb; omega)), P_2.out.put4 (by omega), K_2.put4 (Nat.le_refl _)⟩
  rw [if_neg n9] at hh
  have k2 : (t.kind == 2) = false := by simpa using n2
  have k3 : (t.kind == 3) = false := by simpa using n3
  have k4 : (t.kind == 4) = false := by simpa using n4
  have k5 : (t.kind == 5) = false := by simpa using n5
  have k6 : (t.kind == 6) = false := by simpa using n6
  have k9 : (t.kind == 9) = false := by simpa using n9
  clear n2 n3 n4 n5 n6 n9
  cases hat : Pp.at_ c.T [[40]] s with
  | true =>
    rw [if_pos hat] at hh
    have HA := Lib.hid hat
    have HM := Lib.hid hh
    clear hat hh
    go_enter_defers Tryz.func128, Tryz.ntmps128
    go_wp2_with fail
    refine (Hcur.out _ (P_0.out.alloc _)).mono ?_
    rintro e w1 ⟨rfl, hb⟩
    have kk := Kp.of_below (b := c.bp) hb
    have P_1 := Lib.hid ((P_0.out.alloc _).below hb)
    have R_1 := Lib.hid (((Blk.new w 25 z4)).kp kk (by omega))
    have K_1 := ((Kp.refl c.bp w).alloc _).trans kk
    have l_1 : w.heap.size + 1 ≤ w1.heap.size := by have := kk.size; simpa using this
    clear kk hb 
    go_wp2_with fail
    refine (accept_t c _ _ (P_1.out.alloc _) [40] HA.out).mono ?_
    rintro e w2 ⟨rfl, pp, kp⟩
    have P_2 := Lib.hid pp
    have R_2 := Lib.hid ((R_1.out.alloc _).kp kp (by omega))
    have B_2 := Lib.hid (((Blk.new w1 60 #[.int .i64 t.kind, vs t.text, .int .i64 t.pos])).kp kp (by omega))
    have K_2 := (K_1.alloc _).trans kp
    have l_2 : w1.heap.size + 1 ≤ w2.heap.size := by have := kp.size; simpa using this
    clear kp pp 
    go_wp2_with fail
    refine (inside_any c E HE.out [41] _ _ _ _ P_2.out HM.out).mono ?_
    rintro e w3 ⟨ma, ml, mq, rfl, tt, pp, kp⟩
    have P_3 := Lib.hid pp
    have R_3 := Lib.hid (R_2.out.kp kp (by omega))
    have B_3 := Lib.hid (B_2.out.kp kp (by omega))
    have K_3 := K_2.trans kp
    have l_3 : w2.heap.size + 0 ≤ w3.heap.size := by have := kp.size; simpa using this
    clear kp pp 
    have Tm_3 := Lib.hid tt
    clear tt
    obtain ⟨r0, r1, r2, r3⟩ := R_3.out.four
    have rf0 := R_3.out.frozen 0
    have rf1 := R_3.out.frozen 1
    have rf2 := R_3.out.frozen 2
    have rf3 := R_3.out.frozen 3
    go_wp2_with fail
    exact ⟨_, results_node Tryz.results128 rfl R_3.out.put4, ma, ml, mq, rfl, (Tm_3.out.put4 (by first | omega | (simp; omega))).mono (fun b hb _ => by first | omega | (simp at hb; omega)), P_3.out.put4 (by omega), K_3.put4 (Nat.le_refl _)⟩
  | false =>
  rw [if_neg (by simp [hat])] at hh
  have HA := Lib.hid hat
  clear hat
  cases hat : Pp.at_ c.T [[36]] s with
  | false =>
    rw [if_neg (by simp [hat])] at hh
    have HA2 := Lib.hid hat
    clear hat
    simp only [Option.some.injEq, Prod.mk.injEq] at hh
    obtain ⟨rfl, rfl⟩ := hh
    go_enter_defers Tryz.func128, Tryz.ntmps128
    go_wp2_with fail
    refine (Hcur.out _ (P_0.out.alloc _)).mono ?_
    rintro e w1 ⟨rfl, hb⟩
    have kk := Kp.of_below (b := c.bp) hb
    have P_1 := Lib.hid ((P_0.out.alloc _).below hb)
    have R_1 := Lib.hid (((Blk.new w 25 z4)).kp kk (by omega))
    have K_1 := ((Kp.refl c.bp w).alloc _).trans kk
    have l_1 : w.heap.size + 1 ≤ w1.heap.size := by have := kk.size; simpa using this
    clear kk hb 
    go_wp2_with fail
    refine (accept_f c _ _ (P_1.out.alloc _) [40] HA.out).mono ?_
    rintro e w2 ⟨rfl, pp, kp⟩
    have P_2 := Lib.hid pp
    have R_2 := Lib.hid ((R_1.out.alloc _).kp kp (by omega))
    have B_2 := Lib.hid (((Blk.new w1 60 #[.int .i64 t.kind, vs t.text, .int .i64 t.pos])).kp kp (by omega))
    have K_2 := (K_1.alloc _).trans kp
    have l_2 : w1.heap.size + 1 ≤ w2.heap.size := by have := kp.size; simpa using this
    clear kp pp 
    go_wp2_with fail
    refine (accept_f c _ _ P_2.out [36] HA2.out).mono ?_
    rintro e w3 ⟨rfl, pp, kp⟩
    have P_3 := Lib.hid pp
    have R_3 := Lib.hid (R_2.out.kp kp (by omega))
    have B_3 := Lib.hid (B_2.out.kp kp (by omega))
    have K_3 := K_2.trans kp
    have l_3 : w2.heap.size + 0 ≤ w3.heap.size := by have := kp.size; simpa using this
    clear kp pp 
    go_wp2_with fail
    refine (fail_any c _ _ P_3.out).mono ?_
    rintro e w4 ⟨rfl, pp, kp⟩
    have P_4 := Lib.hid pp
    have R_4 := Lib.hid (R_3.out.kp kp (by omega))
    have B_4 := Lib.hid (B_3.out.kp kp (by omega))
    have K_4 := K_3.trans kp
    have l_4 : w3.heap.size + 0 ≤ w4.heap.size := by have := kp.size; simpa using this
    clear kp pp 
    obtain ⟨r0, r1, r2, r3⟩ := R_4.out.four
    have rf0 := R_4.out.frozen 0
    have rf1 := R_4.out.frozen 1
    have rf2 := R_4.out.frozen 2
    have rf3 := R_4.out.frozen 3
    go_wp2_with fail
    exact ⟨_, results_node Tryz.results128 rfl R_4.out.put4, none, 0, 0, rfl, .nil _ _, P_4.out.put4 (by omega), K_4.put4 (Nat.le_refl _)⟩
  | true =>
  rw [if_pos hat] at hh
  have HA2 := Lib.hid hat
  clear hat
  cases hdn : Pp.down c.T (Pp.step c.T s) with
  | none => rw [hdn] at hh; cases hh
  | some s1 =>
  rw [hdn] at hh
  simp only at hh
  have HDn := Lib.hid hdn
  cases hat : Pp.at_ c.T [[43, 43], [45, 45]] s1 with
  | true =>
    rw [hat] at hh
    simp only [if_true] at hh
    have HA3 := Lib.hid hat
    clear hat
    cases hEm : Pp.post c.T (Pp.primary rx c.T E k j) s1 with
    | none => rw [hEm] at hh; cases hh
    | some r =>
    obtain ⟨m, s2⟩ := r
    rw [hEm] at hh
    simp only [Option.some.injEq, Prod.mk.injEq] at hh
    obtain ⟨rfl, rfl⟩ := hh
    have HM := Lib.hid hEm
    have HDp : Hid (-1000000 < s2.deep) := by
      have h1 := HDP.out _ _ _ _ hEm
      have h2 := down_deep hdn
      rw [step_deep] at h2
      have h3 := P_0.out.deep.1
      show -1000000 < s2.deep
      omega
    clear hEm hdn
    go_enter_defers Tryz.func128, Tryz.ntmps128
    go_wp2_with fail
    refine (Hcur.out _ (P_0.out.alloc _)).mono ?_
    rintro e w1 ⟨rfl, hb⟩
    have kk := Kp.of_below (b := c.bp) hb
    have P_1 := Lib.hid ((P_0.out.alloc _).below hb)
    have R_1 := Lib.hid (((Blk.new w 25 z4)).kp kk (by omega))
    have K_1 := ((Kp.refl c.bp w).alloc _).trans kk
    have l_1 : w.heap.size + 1 ≤ w1.heap.size := by have := kk.size; simpa using this
    clear kk hb 
    go_wp2_with fail
    refine (accept_f c _ _ (P_1.out.alloc _) [40] HA.out).mono ?_
    rintro e w2 ⟨rfl, pp, kp⟩
    have P_2 := Lib.hid pp
    have R_2 := Lib.hid ((R_1.out.alloc _).kp kp (by omega))
    have B_2 := Lib.hid (((Blk.new w1 60 #[.int .i64 t.kind, vs t.text, .int .i64 t.pos])).kp kp (by omega))
    have K_2 := (K_1.alloc _).trans kp
    have l_2 : w1.heap.size + 1 ≤ w2.heap.size := by have := kp.size; simpa using this
    clear kp pp 
    go_wp2_with fail
    refine (accept_t c _ _ P_2.out [36] HA2.out).mono ?_
    rintro e w3 ⟨rfl, pp, kp⟩
    have P_3 := Lib.hid pp
    have R_3 := Lib.hid (R_2.out.kp kp (by omega))
    have B_3 := Lib.hid (B_2.out.kp kp (by omega))
    have K_3 := K_2.trans kp
    have l_3 : w2.heap.size + 0 ≤ w3.heap.size := by have := kp.size; simpa using this
    clear kp pp 
    go_wp2_with fail
    refine (down_any c _ _ s1 P_3.out HDn.out).mono ?_
    rintro e w4 ⟨rfl, pp, kp⟩
    have P_4 := Lib.hid pp
    have R_4 := Lib.hid (R_3.out.kp kp (by omega))
    have B_4 := Lib.hid (B_3.out.kp kp (by omega))
    have K_4 := K_3.trans kp
    have l_4 : w3.heap.size + 0 ≤ w4.heap.size := by have := kp.size; simpa using this
    clear kp pp 
    go_wp2_with fail
    refine (at_new' c _ s1 P_4.out 2 [[43, 43], [45, 45]] _ 2 (by simp) rfl _ rfl (by omega) _ HA3.out).mono ?_
    rintro e w5 ⟨rfl, hb⟩
    have kk := Kp.of_below (b := c.bp) hb
    have P_5 := Lib.hid (P_4.out.below hb)
    have R_5 := Lib.hid (R_4.out.kp kk (by omega))
    have B_5 := Lib.hid (B_4.out.kp kk (by omega))
    have K_5 := K_4.trans kk
    have l_5 : w4.heap.size + 0 ≤ w5.heap.size := by have := kk.size; simpa using this
    clear kk hb 
    go_wp2_with fail
    refine (HP.out _ _ _ _ P_5.out HM.out).mono ?_
    rintro e w6 ⟨ma, ml, mq, rfl, tt, pp, kp⟩
    have P_6 := Lib.hid pp
    have R_6 := Lib.hid (R_5.out.kp kp (by omega))
    have B_6 := Lib.hid (B_5.out.kp kp (by omega))
    have K_6 := K_5.trans kp
    have l_6 : w5.heap.size + 0 ≤ w6.heap.size := by have := kp.size; simpa using this
    clear kp pp 
    have Tm_6 := Lib.hid tt
    clear tt
    go_wp2_with fail
    refine (node_any _ _ _ _ _).mono ?_
    rintro e w7 ⟨rfl, hb⟩
    have kk := Kp.of_below (b := c.bp) hb
    have P_7 := Lib.hid ((P_6.out.alloc _).below hb)
    have R_7 := Lib.hid ((R_6.out.alloc _).kp kk (by omega))
    have B_7 := Lib.hid ((B_6.out.alloc _).kp kk (by omega))
    have A_7 := Lib.hid (((Blk.new w6 25 #[vs m.op, vs m.text, .int .i64 m.pos, .slice ma ml mq])).kp kk (by omega))
    have Tm_7 := Lib.hid ((Tm_6.out.alloc _).kp kk (by first | omega | (simp; omega)))
    have K_7 := (K_6.alloc _).trans kk
    have l_7 : w6.heap.size + 1 ≤ w7.heap.size := by have := kk.size; simpa using this
    clear kk hb 
    obtain ⟨r0, r1, r2, r3⟩ := R_7.out.four
    have rf0 := R_7.out.frozen 0
    have rf1 := R_7.out.frozen 1
    have rf2 := R_7.out.frozen 2
    have rf3 := R_7.out.frozen 3
    go_wp2_with fail
    refine leaves_cons (f := 72) (args := #[.pointer (some ⟨c.bp, 0, none⟩)]) (by simp) (by simp [go_sem]) ?_
    refine (up_deferred c _ _ (P_7.out.put4 (by omega)) (by have := HDp.out; omega) .returning).mono ?_
    rintro e u w8 ⟨rfl, rfl, pp, kp⟩
    have RZ := (R_7.out.put4 (a := vs [102, 105, 101, 108, 100]) (b := vs []) (c := .int .i64 0) (d := .slice (some ⟨w6.heap.size, 0, none⟩) 1 1)).kp kp (by omega)
    refine ⟨_, results_node Tryz.results128 rfl RZ, _, 1, 1, rfl, ?_, pp, (K_7.put4 (Nat.le_refl _)).trans kp⟩
    exact (((KidsAt.one (n1 := m) (S := fun b => w.heap.size < b) A_7.out (by omega) (Tm_7.out.mono (fun b hb _ => by first | omega | (simp at hb; omega)))).put4 (by simp)).kp kp (by omega)).mono (fun b hb _ => by omega)
  | false =>
    rw [hat] at hh
    simp only [Bool.false_eq_true, if_false] at hh
    have HA3 := Lib.hid hat
    clear hat
    cases hEm : Pp.primary rx c.T E k j s1 with
    | none => rw [hEm] at hh; cases hh
    | some r =>
    obtain ⟨m, s2⟩ := r
    rw [hEm] at hh
    simp only [Option.some.injEq, Prod.mk.injEq] at hh
    obtain ⟨rfl, rfl⟩ := hh
    have HM := Lib.hid hEm
    have HDp : Hid (-1000000 < s2.deep) := by
      have h1 := HD.out _ _ _ _ hEm
      have h2 := down_deep hdn
      rw [step_deep] at h2
      have h3 := P_0.out.deep.1
      show -1000000 < s2.deep
      omega
    clear hEm hdn
    go_enter_defers Tryz.func128, Tryz.ntmps128
    go_wp2_with fail
    refine (Hcur.out _ (P_0.out.alloc _)).mono ?_
    rintro e w1 ⟨rfl, hb⟩
    have kk := Kp.of_below (b := c.bp) hb
    have P_1 := Lib.hid ((P_0.out.alloc _).below hb)
    have R_1 := Lib.hid (((Blk.new w 25 z4)).kp kk (by omega))
    have K_1 := ((Kp.refl c.bp w).alloc _).trans kk
    have l_1 : w.heap.size + 1 ≤ w1.heap.size := by have := kk.size; simpa using this
    clear kk hb 
    go_wp2_with fail
    refine (accept_f c _ _ (P_1.out.alloc _) [40] HA.out).mono ?_
    rintro e w2 ⟨rfl, pp, kp⟩
    have P_2 := Lib.hid pp
    have R_2 := Lib.hid ((R_1.out.alloc _).kp kp (by omega))
    have B_2 := Lib.hid (((Blk.new w1 60 #[.int .i64 t.kind, vs t.text, .int .i64 t.pos])).kp kp (by omega))
    have K_2 := (K_1.alloc _).trans kp
    have l_2 : w1.heap.size + 1 ≤ w2.heap.size := by have := kp.size; simpa using this
    clear kp pp 
    go_wp2_with fail
    refine (accept_t c _ _ P_2.out [36] HA2.out).mono ?_
    rintro e w3 ⟨rfl, pp, kp⟩
    have P_3 := Lib.hid pp
    have R_3 := Lib.hid (R_2.out.kp kp (by omega))
    have B_3 := Lib.hid (B_2.out.kp kp (by omega))
    have K_3 := K_2.trans kp
    have l_3 : w2.heap.size + 0 ≤ w3.heap.size := by have := kp.size; simpa using this
    clear kp pp 
    go_wp2_with fail
    refine (down_any c _ _ s1 P_3.out HDn.out).mono ?_
    rintro e w4 ⟨rfl, pp, kp⟩
    have P_4 := Lib.hid pp
    have R_4 := Lib.hid (R_3.out.kp kp (by omega))
    have B_4 := Lib.hid (B_3.out.kp kp (by omega))
    have K_4 := K_3.trans kp
    have l_4 : w3.heap.size + 0 ≤ w4.heap.size := by have := kp.size; simpa using this
    clear kp pp 
    go_wp2_with fail
    refine (at_new' c _ s1 P_4.out 2 [[43, 43], [45, 45]] _ 2 (by simp) rfl _ rfl (by omega) _ HA3.out).mono ?_
    rintro e w5 ⟨rfl, hb⟩
    have kk := Kp.of_below (b := c.bp) hb
    have P_5 := Lib.hid (P_4.out.below hb)
    have R_5 := Lib.hid (R_4.out.kp kk (by omega))
    have B_5 := Lib.hid (B_4.out.kp kk (by omega))
    have K_5 := K_4.trans kk
    have l_5 : w4.heap.size + 0 ≤ w5.heap.size := by have := kk.size; simpa using this
    clear kk hb 
    go_wp2_with fail
    refine (HI.out _ _ _ _ P_5.out HM.out).mono ?_
    rintro e w6 ⟨ma, ml, mq, rfl, tt, pp, kp⟩
    have P_6 := Lib.hid pp
    have R_6 := Lib.hid (R_5.out.kp kp (by omega))
    have B_6 := Lib.hid (B_5.out.kp kp (by omega))
    have K_6 := K_5.trans kp
    have l_6 : w5.heap.size + 0 ≤ w6.heap.size := by have := kp.size; simpa using this
    clear kp pp 
    have Tm_6 := Lib.hid tt
    clear tt
    go_wp2_with fail
    refine (node_any _ _ _ _ _).mono ?_
    rintro e w7 ⟨rfl, hb⟩
    have kk := Kp.of_below (b := c.bp) hb
    have P_7 := Lib.hid ((P_6.out.alloc _).below hb)
    have R_7 := Lib.hid ((R_6.out.alloc _).kp kk (by omega))
    have B_7 := Lib.hid ((B_6.out.alloc _).kp kk (by omega))
    have A_7 := Lib.hid (((Blk.new w6 25 #[vs m.op, vs m.text, .int .i64 m.pos, .slice ma ml mq])).kp kk (by omega))
    have Tm_7 := Lib.hid ((Tm_6.out.alloc _).kp kk (by first | omega | (simp; omega)))
    have K_7 := (K_6.alloc _).trans kk
    have l_7 : w6.heap.size + 1 ≤ w7.heap.size := by have := kk.size; simpa using this
    clear kk hb 
    obtain ⟨r0, r1, r2, r3⟩ := R_7.out.four
    have rf0 := R_7.out.frozen 0
    have rf1 := R_7.out.frozen 1
    have rf2 := R_7.out.frozen 2
    have rf3 := R_7.out.frozen 3
    go_wp2_with fail
    refine leaves_cons (f := 72) (args := #[.pointer (some ⟨c.bp, 0, none⟩)]) (by simp) (by simp [go_sem]) ?_
    refine (up_deferred c _ _ (P_7.out.put4 (by omega)) (by have := HDp.out; omega) .returning).mono ?_
    rintro e u w8 ⟨rfl, rfl, pp, kp⟩
    have RZ := (R_7.out.put4 (a := vs [102, 105, 101, 108, 100]) (b := vs []) (c := .int .i64 0) (d := .slice (some ⟨w6.heap.size, 0, none⟩) 1 1)).kp kp (by omega)
    refine ⟨_, results_node Tryz.results128 rfl RZ, _, 1, 1, rfl, ?_, pp, (K_7.put4 (Nat.le_refl _)).trans kp⟩
    exact (((KidsAt.one (n1 := m) (S := fun b => w.heap.size < b) A_7.out (by omega) (Tm_7.out.mono (fun b hb _ => by first | omega | (simp at hb; omega)))).put4 (by simp)).kp kp (by omega)).mono (fun b hb _ => by omega)

end Go.Proofs.YtgnmfaeonijogaaGreatDoor
