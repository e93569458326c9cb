/- Walked: a call of a builtin: the ones that look into their arguments. -/
import Derived.Test.YtgnmfaeonijogaaGreatDoorExprG
import Derived.Test.YtgnmfaeonijogaaGreatDoorWrong
import Derived.Test.YtgnmfaeonijogaaGreatDoorOutB
namespace Go.Proofs.YtgnmfaeonijogaaGreatDoor
open Go.RowKit

set_option maxRecDepth 100000 in
set_option maxHeartbeats 4000000 in
theorem built_split (c : PC) (E : Pp.PS → Option (Pp.Node × Pp.PS)) (hE : IsN c 46 E) (k : Nat) (hk : k ≤ 1000000) (w : World) (s : Pp.PS) (n : Pp.Node) (s' : Pp.PS) (h : PAt c w s) (tk tp : Int) (hcur0 : Pp.cur c.T s = ⟨tk, [115, 112, 108, 105, 116], tp⟩) (hh : Pp.builtin c.T E k s = some (n, s')) :
    Calls Tryz.prog 130 #[.pointer (some ⟨c.bp, 0, none⟩)] w (NPost c w n s') := by
  have HE := Lib.hid hE
  have P_0 := Lib.hid h
  have hb := h.blk.lt
  have hmf : ∀ (fn : Fn) (first cap : Array Value) (w : World), (Instr.makeFunc fn first cap).run Tryz.prog w = .ok (.func fn first cap) w := fun _ _ _ _ => rfl
  have hcur := fun W hW => cur_any c W s hW
  rw [hcur0] at hcur
  unfold Pp.builtin at hh
  simp only [hcur0] at hh
  have Hcur := Lib.hid hcur
  clear hcur hcur0 hE h
  rw [if_neg (fun hx => absurd hx.1 (by decide))] at hh
  cases hEm : Pp.list c.T E k [41] (Pp.expect c.T [40] (Pp.step c.T s)) with
  | none => rw [hEm] at hh; cases hh
  | some r =>
  obtain ⟨args, s2⟩ := r
  rw [hEm] at hh
  simp only [Option.some.injEq, Prod.mk.injEq] at hh
  obtain ⟨rfl, rfl⟩ := hh
  have HM := Lib.hid hEm
  clear hEm
  by_cases hn : args.length < 2
  · have hba : Pp.builtinArgs ⟨tk, [115, 112, 108, 105, 116], tp⟩ args s2 = (args, Pp.wrong ⟨tk, [115, 112, 108, 105, 116], tp⟩ true 9 s2) := by
      simp [Pp.builtinArgs, hn, wrong_err]
    simp only [hba]
    clear hba
    go_enter Tryz.func130, Tryz.ntmps130
    go_wp2_with fail
    refine (Hcur.out _ ((P_0.out.alloc _).alloc _)).mono ?_
    rintro e w1 ⟨rfl, hb⟩
    have kk := Kp.of_below (b := c.bp) hb
    have P_1 := Lib.hid (((P_0.out.alloc _).alloc _).below hb)
    have X_1 := Lib.hid ((((Blk.new w 54 #[.pointer (some ⟨c.bp, 0, none⟩)]).alloc _)).kp kk (by omega))
    have R_1 := Lib.hid (((Blk.new1 w _ 25 z4)).kp kk (by omega))
    have K_1 := (((Kp.refl c.bp w).alloc _).alloc _).trans kk
    have l_1 : w.heap.size + 2 ≤ w1.heap.size := by have := kk.size; simpa using this
    clear kk hb 
    have x0 : w1.cell? ⟨w.heap.size, 0, none⟩ = some (.pointer (some ⟨c.bp, 0, none⟩)) := by simpa using X_1.out.cell 0
    have xl := X_1.out.lt
    go_wp2_with fail
    refine (step_any c _ _ (P_1.out.alloc _)).mono ?_
    rintro e w2 ⟨rfl, pp, kp⟩
    have P_2 := Lib.hid pp
    have X_2 := Lib.hid ((X_1.out.alloc _).kp kp (by omega))
    have R_2 := Lib.hid ((R_1.out.alloc _).kp kp (by omega))
    have B_2 := Lib.hid (((Blk.new w1 60 #[.int .i64 tk, vs [115, 112, 108, 105, 116], .int .i64 tp])).kp kp (by omega))
    have K_2 := (K_1.alloc _).trans kp
    have l_2 : w1.heap.size + 1 ≤ w2.heap.size := by have := kp.size; simpa using this
    clear kp pp 
    have x12 : w2.cell? ⟨w.heap.size, 0, none⟩ = some (.pointer (some ⟨c.bp, 0, none⟩)) := by simpa using X_2.out.cell 0
    have xl12 := X_2.out.lt
    obtain ⟨b20, b21, b22⟩ := B_2.out.tri
    go_wp2_with fail
    refine (expect_any c _ _ P_2.out [40]).mono ?_
    rintro e w3 ⟨rfl, pp, kp⟩
    have P_3 := Lib.hid pp
    have X_3 := Lib.hid (X_2.out.kp kp (by omega))
    have R_3 := Lib.hid (R_2.out.kp kp (by omega))
    have B_3 := Lib.hid (B_2.out.kp kp (by omega))
    have K_3 := K_2.trans kp
    have l_3 : w2.heap.size + 0 ≤ w3.heap.size := by have := kp.size; simpa using this
    clear kp pp 
    have x13 : w3.cell? ⟨w.heap.size, 0, none⟩ = some (.pointer (some ⟨c.bp, 0, none⟩)) := by simpa using X_3.out.cell 0
    have xl13 := X_3.out.lt
    go_wp2_with fail
    refine (list_any c E HE.out k hk [41] _ _ _ _ P_3.out HM.out).mono ?_
    rintro e w4 ⟨oa, oq, rfl, tt, pp, kp⟩
    have P_4 := Lib.hid pp
    have X_4 := Lib.hid (X_3.out.kp kp (by omega))
    have R_4 := Lib.hid (R_3.out.kp kp (by omega))
    have B_4 := Lib.hid (B_3.out.kp kp (by omega))
    have K_4 := K_3.trans kp
    have l_4 : w3.heap.size + 0 ≤ w4.heap.size := by have := kp.size; simpa using this
    clear kp pp 
    have O_4 := Lib.hid tt
    clear tt
    have x14 : w4.cell? ⟨w.heap.size, 0, none⟩ = some (.pointer (some ⟨c.bp, 0, none⟩)) := by simpa using X_4.out.cell 0
    have xl14 := X_4.out.lt
    obtain ⟨b40, b41, b42⟩ := B_4.out.tri
    go_wp2_with fail
    refine (wrong_any' c _ _ P_4.out _ _ ⟨tk, [115, 112, 108, 105, 116], tp⟩ X_4.out B_4.out _ true (by first | rfl | (simp; done) | (simp; omega) | (simp [-List.length_eq_zero_iff]; omega)) 9).mono ?_
    rintro e w5 ⟨rfl, pp, kp⟩
    have P_5 := Lib.hid pp
    have X_5 := Lib.hid (X_4.out.kp kp (by omega))
    have R_5 := Lib.hid (R_4.out.kp kp (by omega))
    have B_5 := Lib.hid (B_4.out.kp kp (by omega))
    have O_5 := Lib.hid (O_4.out.kp kp (by first | omega | (simp; omega)))
    have K_5 := K_4.trans kp
    have l_5 : w4.heap.size + 0 ≤ w5.heap.size := by have := kp.size; simpa using this
    clear kp pp 
    have x15 : w5.cell? ⟨w.heap.size, 0, none⟩ = some (.pointer (some ⟨c.bp, 0, none⟩)) := by simpa using X_5.out.cell 0
    have xl15 := X_5.out.lt
    obtain ⟨b50, b51, b52⟩ := B_5.out.tri
    have hef : ((Pp.wrong ⟨tk, [115, 112, 108, 105, 116], tp⟩ true 9 s2).err == 0) = false := by simpa using wrong_err _ _
    have e5 := P_5.out.c4
    have p5 := P_5.out.blk.lt
    go_wp2_with fail
    refine (leaf_any _ _ ⟨tk, [115, 112, 108, 105, 116], tp⟩ _ _ _).mono ?_
    rintro e w6 ⟨rfl, hb⟩
    have kk := Kp.of_below (b := c.bp) hb
    have P_6 := Lib.hid (P_5.out.below hb)
    have X_6 := Lib.hid (X_5.out.kp kk (by omega))
    have R_6 := Lib.hid (R_5.out.kp kk (by omega))
    have B_6 := Lib.hid (B_5.out.kp kk (by omega))
    have O_6 := Lib.hid (O_5.out.kp kk (by first | omega | (simp; omega)))
    have K_6 := K_5.trans kk
    have l_6 : w5.heap.size + 0 ≤ w6.heap.size := by have := kk.size; simpa using this
    clear kk hb 
    obtain ⟨r0, r1, r2, r3⟩ := R_6.out.four
    have rf0 := R_6.out.frozen 0
    have rf1 := R_6.out.frozen 1
    have rf2 := R_6.out.frozen 2
    have rf3 := R_6.out.frozen 3
    go_wp2_with fail
    exact bodyPost_ret (results_node Tryz.results130 rfl R_6.out.put4) rfl ⟨_, _, _, rfl, (O_6.out.kids.put4 (by omega)).mono (fun b hb _ => by omega), P_6.out.put4 (by omega), K_6.put4 (by omega)⟩
  · by_cases hm : 3 < args.length
    · have hba : Pp.builtinArgs ⟨tk, [115, 112, 108, 105, 116], tp⟩ args s2 = (args, Pp.wrong ⟨tk, [115, 112, 108, 105, 116], tp⟩ true 9 s2) := by
        simp [Pp.builtinArgs, hn, hm, wrong_err]
      simp only [hba]
      clear hba
      go_enter Tryz.func130, Tryz.ntmps130
      go_wp2_with fail
      refine (Hcur.out _ ((P_0.out.alloc _).alloc _)).mono ?_
      rintro e w1 ⟨rfl, hb⟩
      have kk := Kp.of_below (b := c.bp) hb
      have P_1 := Lib.hid (((P_0.out.alloc _).alloc _).below hb)
      have X_1 := Lib.hid ((((Blk.new w 54 #[.pointer (some ⟨c.bp, 0, none⟩)]).alloc _)).kp kk (by omega))
      have R_1 := Lib.hid (((Blk.new1 w _ 25 z4)).kp kk (by omega))
      have K_1 := (((Kp.refl c.bp w).alloc _).alloc _).trans kk
      have l_1 : w.heap.size + 2 ≤ w1.heap.size := by have := kk.size; simpa using this
      clear kk hb 
      have x0 : w1.cell? ⟨w.heap.size, 0, none⟩ = some (.pointer (some ⟨c.bp, 0, none⟩)) := by simpa using X_1.out.cell 0
      have xl := X_1.out.lt
      go_wp2_with fail
      refine (step_any c _ _ (P_1.out.alloc _)).mono ?_
      rintro e w2 ⟨rfl, pp, kp⟩
      have P_2 := Lib.hid pp
      have X_2 := Lib.hid ((X_1.out.alloc _).kp kp (by omega))
      have R_2 := Lib.hid ((R_1.out.alloc _).kp kp (by omega))
      have B_2 := Lib.hid (((Blk.new w1 60 #[.int .i64 tk, vs [115, 112, 108, 105, 116], .int .i64 tp])).kp kp (by omega))
      have K_2 := (K_1.alloc _).trans kp
      have l_2 : w1.heap.size + 1 ≤ w2.heap.size := by have := kp.size; simpa using this
      clear kp pp 
      have x12 : w2.cell? ⟨w.heap.size, 0, none⟩ = some (.pointer (some ⟨c.bp, 0, none⟩)) := by simpa using X_2.out.cell 0
      have xl12 := X_2.out.lt
      obtain ⟨b20, b21, b22⟩ := B_2.out.tri
      go_wp2_with fail
      refine (expect_any c _ _ P_2.out [40]).mono ?_
      rintro e w3 ⟨rfl, pp, kp⟩
      have P_3 := Lib.hid pp
      have X_3 := Lib.hid (X_2.out.kp kp (by omega))
      have R_3 := Lib.hid (R_2.out.kp kp (by omega))
      have B_3 := Lib.hid (B_2.out.kp kp (by omega))
      have K_3 := K_2.trans kp
      have l_3 : w2.heap.size + 0 ≤ w3.heap.size := by have := kp.size; simpa using this
      clear kp pp 
      have x13 : w3.cell? ⟨w.heap.size, 0, none⟩ = some (.pointer (some ⟨c.bp, 0, none⟩)) := by simpa using X_3.out.cell 0
      have xl13 := X_3.out.lt
      go_wp2_with fail
      refine (list_any c E HE.out k hk [41] _ _ _ _ P_3.out HM.out).mono ?_
      rintro e w4 ⟨oa, oq, rfl, tt, pp, kp⟩
      have P_4 := Lib.hid pp
      have X_4 := Lib.hid (X_3.out.kp kp (by omega))
      have R_4 := Lib.hid (R_3.out.kp kp (by omega))
      have B_4 := Lib.hid (B_3.out.kp kp (by omega))
      have K_4 := K_3.trans kp
      have l_4 : w3.heap.size + 0 ≤ w4.heap.size := by have := kp.size; simpa using this
      clear kp pp 
      have O_4 := Lib.hid tt
      clear tt
      have x14 : w4.cell? ⟨w.heap.size, 0, none⟩ = some (.pointer (some ⟨c.bp, 0, none⟩)) := by simpa using X_4.out.cell 0
      have xl14 := X_4.out.lt
      obtain ⟨b40, b41, b42⟩ := B_4.out.tri
      go_wp2_with fail
      refine (wrong_any' c _ _ P_4.out _ _ ⟨tk, [115, 112, 108, 105, 116], tp⟩ X_4.out B_4.out _ true (by first | rfl | (simp; done) | (simp; omega) | (simp [-List.length_eq_zero_iff]; omega)) 9).mono ?_
      rintro e w5 ⟨rfl, pp, kp⟩
      have P_5 := Lib.hid pp
      have X_5 := Lib.hid (X_4.out.kp kp (by omega))
      have R_5 := Lib.hid (R_4.out.kp kp (by omega))
      have B_5 := Lib.hid (B_4.out.kp kp (by omega))
      have O_5 := Lib.hid (O_4.out.kp kp (by first | omega | (simp; omega)))
      have K_5 := K_4.trans kp
      have l_5 : w4.heap.size + 0 ≤ w5.heap.size := by have := kp.size; simpa using this
      clear kp pp 
      have x15 : w5.cell? ⟨w.heap.size, 0, none⟩ = some (.pointer (some ⟨c.bp, 0, none⟩)) := by simpa using X_5.out.cell 0
      have xl15 := X_5.out.lt
      obtain ⟨b50, b51, b52⟩ := B_5.out.tri
      have hef : ((Pp.wrong ⟨tk, [115, 112, 108, 105, 116], tp⟩ true 9 s2).err == 0) = false := by simpa using wrong_err _ _
      have e5 := P_5.out.c4
      have p5 := P_5.out.blk.lt
      go_wp2_with fail
      refine (leaf_any _ _ ⟨tk, [115, 112, 108, 105, 116], tp⟩ _ _ _).mono ?_
      rintro e w6 ⟨rfl, hb⟩
      have kk := Kp.of_below (b := c.bp) hb
      have P_6 := Lib.hid (P_5.out.below hb)
      have X_6 := Lib.hid (X_5.out.kp kk (by omega))
      have R_6 := Lib.hid (R_5.out.kp kk (by omega))
      have B_6 := Lib.hid (B_5.out.kp kk (by omega))
      have O_6 := Lib.hid (O_5.out.kp kk (by first | omega | (simp; omega)))
      have K_6 := K_5.trans kk
      have l_6 : w5.heap.size + 0 ≤ w6.heap.size := by have := kk.size; simpa using this
      clear kk hb 
      obtain ⟨r0, r1, r2, r3⟩ := R_6.out.four
      have rf0 := R_6.out.frozen 0
      have rf1 := R_6.out.frozen 1
      have rf2 := R_6.out.frozen 2
      have rf3 := R_6.out.frozen 3
      go_wp2_with fail
      exact bodyPost_ret (results_node Tryz.results130 rfl R_6.out.put4) rfl ⟨_, _, _, rfl, (O_6.out.kids.put4 (by omega)).mono (fun b hb _ => by omega), P_6.out.put4 (by omega), K_6.put4 (by omega)⟩
    · by_cases hv0 : (args.getD 1 Pp.node0).op = [118, 97, 114]
      · by_cases her : s2.err = 0
        · have hba : Pp.builtinArgs ⟨tk, [115, 112, 108, 105, 116], tp⟩ args s2 = (Pp.setName args, Pp.wrong ⟨tk, [115, 112, 108, 105, 116], tp⟩ false 9 s2) := by
            have hq : Pp.op1 args = [118, 97, 114] := hv0
            simp [Pp.builtinArgs, hn, hm, hq, Pp.wrong, her]
          simp only [hba]
          clear hba
          have h2 : 2 ≤ args.length := by omega
          have hget : ∀ i, i < args.length → args[i]? = some (args.getD i Pp.node0) := fun i hi => by simp [List.getElem?_eq_getElem hi]
          have hop : (args.getD 1 Pp.node0).op = [118, 97, 114] := hv0
          go_enter Tryz.func130, Tryz.ntmps130
          go_wp2_with fail
          refine (Hcur.out _ ((P_0.out.alloc _).alloc _)).mono ?_
          rintro e w1 ⟨rfl, hb⟩
          have kk := Kp.of_below (b := c.bp) hb
          have P_1 := Lib.hid (((P_0.out.alloc _).alloc _).below hb)
          have X_1 := Lib.hid ((((Blk.new w 54 #[.pointer (some ⟨c.bp, 0, none⟩)]).alloc _)).kp kk (by omega))
          have R_1 := Lib.hid (((Blk.new1 w _ 25 z4)).kp kk (by omega))
          have K_1 := (((Kp.refl c.bp w).alloc _).alloc _).trans kk
          have l_1 : w.heap.size + 2 ≤ w1.heap.size := by have := kk.size; simpa using this
          clear kk hb 
          have x0 : w1.cell? ⟨w.heap.size, 0, none⟩ = some (.pointer (some ⟨c.bp, 0, none⟩)) := by simpa using X_1.out.cell 0
          have xl := X_1.out.lt
          go_wp2_with fail
          refine (step_any c _ _ (P_1.out.alloc _)).mono ?_
          rintro e w2 ⟨rfl, pp, kp⟩
          have P_2 := Lib.hid pp
          have X_2 := Lib.hid ((X_1.out.alloc _).kp kp (by omega))
          have R_2 := Lib.hid ((R_1.out.alloc _).kp kp (by omega))
          have B_2 := Lib.hid (((Blk.new w1 60 #[.int .i64 tk, vs [115, 112, 108, 105, 116], .int .i64 tp])).kp kp (by omega))
          have K_2 := (K_1.alloc _).trans kp
          have l_2 : w1.heap.size + 1 ≤ w2.heap.size := by have := kp.size; simpa using this
          clear kp pp 
          have x12 : w2.cell? ⟨w.heap.size, 0, none⟩ = some (.pointer (some ⟨c.bp, 0, none⟩)) := by simpa using X_2.out.cell 0
          have xl12 := X_2.out.lt
          obtain ⟨b20, b21, b22⟩ := B_2.out.tri
          go_wp2_with fail
          refine (expect_any c _ _ P_2.out [40]).mono ?_
          rintro e w3 ⟨rfl, pp, kp⟩
          have P_3 := Lib.hid pp
          have X_3 := Lib.hid (X_2.out.kp kp (by omega))
          have R_3 := Lib.hid (R_2.out.kp kp (by omega))
          have B_3 := Lib.hid (B_2.out.kp kp (by omega))
          have K_3 := K_2.trans kp
          have l_3 : w2.heap.size + 0 ≤ w3.heap.size := by have := kp.size; simpa using this
          clear kp pp 
          have x13 : w3.cell? ⟨w.heap.size, 0, none⟩ = some (.pointer (some ⟨c.bp, 0, none⟩)) := by simpa using X_3.out.cell 0
          have xl13 := X_3.out.lt
          go_wp2_with fail
          refine (list_any c E HE.out k hk [41] _ _ _ _ P_3.out HM.out).mono ?_
          rintro e w4 ⟨oa, oq, rfl, tt, pp, kp⟩
          have P_4 := Lib.hid pp
          have X_4 := Lib.hid (X_3.out.kp kp (by omega))
          have R_4 := Lib.hid (R_3.out.kp kp (by omega))
          have B_4 := Lib.hid (B_3.out.kp kp (by omega))
          have K_4 := K_3.trans kp
          have l_4 : w3.heap.size + 0 ≤ w4.heap.size := by have := kp.size; simpa using this
          clear kp pp 
          have O_4 := Lib.hid tt
          clear tt
          have x14 : w4.cell? ⟨w.heap.size, 0, none⟩ = some (.pointer (some ⟨c.bp, 0, none⟩)) := by simpa using X_4.out.cell 0
          have xl14 := X_4.out.lt
          obtain ⟨b40, b41, b42⟩ := B_4.out.tri
          obtain ⟨gg, gq, ga, gl, gm, hv, glo, glt, g0, g1, g2, g3, gz⟩ := O_4.out.elem 1 _ (hget 1 (by omega))
          injection hv with hv1 hv2 hv3
          clear hv2
          subst hv1 hv3
          simp only [Nat.one_mul] at g0
          rw [hop] at g0
          clear g1 g2 g3 gz
          go_wp2_with fail
          refine (wrong_any' c _ _ P_4.out _ _ ⟨tk, [115, 112, 108, 105, 116], tp⟩ X_4.out B_4.out _ false (by first | rfl | (simp; done) | (simp; omega) | (simp [-List.length_eq_zero_iff]; omega)) 9).mono ?_
          rintro e w5 ⟨rfl, pp, kp⟩
          have P_5 := Lib.hid pp
          have X_5 := Lib.hid (X_4.out.kp kp (by omega))
          have R_5 := Lib.hid (R_4.out.kp kp (by omega))
          have B_5 := Lib.hid (B_4.out.kp kp (by omega))
          have O_5 := Lib.hid (O_4.out.kp kp (by first | omega | (simp; omega)))
          have K_5 := K_4.trans kp
          have l_5 : w4.heap.size + 0 ≤ w5.heap.size := by have := kp.size; simpa using this
          clear kp pp 
          have x15 : w5.cell? ⟨w.heap.size, 0, none⟩ = some (.pointer (some ⟨c.bp, 0, none⟩)) := by simpa using X_5.out.cell 0
          have xl15 := X_5.out.lt
          obtain ⟨b50, b51, b52⟩ := B_5.out.tri
          have hef : ((Pp.wrong ⟨tk, [115, 112, 108, 105, 116], tp⟩ false 9 s2).err == 0) = true := by simpa [Pp.wrong] using her
          have e5 := P_5.out.c4
          have p5 := P_5.out.blk.lt
          obtain ⟨qg, qq, qa, ql, qm, hv, qlo, qlt, q0, q1, q2, q3, qz⟩ := O_5.out.elem 1 _ (hget 1 (by omega))
          injection hv with hv1 hv2 hv3
          clear hv2
          injection hv1 with hv1
          injection hv1 with hv1
          subst hv1
          simp only [Nat.one_mul] at q0
          clear q1 q2 q3
          have qz4 := qz 4
          clear qz hv3
          have PS := Lib.hid (P_5.out.far (p := ⟨gg, 4, none⟩) (by first | omega | (simp; omega)) (vs [110, 97, 109, 101]))
          have KS := K_5.setN (g := gg) (by omega) 4 (vs [110, 97, 109, 101])
          have RS_0 := Lib.hid (R_5.out.far (p := ⟨gg, 4, none⟩) (by first | omega | (simp; omega)) (vs [110, 97, 109, 101]))
          have BS_0 := Lib.hid (B_5.out.far (p := ⟨gg, 4, none⟩) (by first | omega | (simp; omega)) (vs [110, 97, 109, 101]))
          have OS_0 := Lib.hid (O_5.out.setName h2)
          obtain ⟨s0, s1, s2_⟩ := BS_0.out.tri
          have sl := BS_0.out.lt
          go_wp2_with fail
          refine (leaf_any _ _ ⟨tk, [115, 112, 108, 105, 116], tp⟩ _ _ _).mono ?_
          rintro e w6 ⟨rfl, hb⟩
          have kk := Kp.of_below (b := c.bp) hb
          have P_6 := Lib.hid (PS.out.below hb)
          have RS_6 := Lib.hid (RS_0.out.kp kk (by omega))
          have BS_6 := Lib.hid (BS_0.out.kp kk (by omega))
          have OS_6 := Lib.hid (OS_0.out.kp kk (by first | omega | (simp; omega)))
          have K_6 := KS.trans kk
          have l_6 : w5.heap.size ≤ w6.heap.size := by have := kk.size; simpa using this
          clear kk hb 
          obtain ⟨r0, r1, r2, r3⟩ := RS_6.out.four
          have rf0 := RS_6.out.frozen 0
          have rf1 := RS_6.out.frozen 1
          have rf2 := RS_6.out.frozen 2
          have rf3 := RS_6.out.frozen 3
          go_wp2_with fail
          have hl := setName_len args
          exact bodyPost_ret (results_node Tryz.results130 rfl RS_6.out.put4) rfl ⟨_, _, _, rfl, (OS_6.out.kids.put4 (by omega)).mono (fun b hb _ => by omega), P_6.out.put4 (by omega), K_6.put4 (by omega)⟩
        · have hba : Pp.builtinArgs ⟨tk, [115, 112, 108, 105, 116], tp⟩ args s2 = (args, Pp.wrong ⟨tk, [115, 112, 108, 105, 116], tp⟩ false 9 s2) := by
            have hq : Pp.op1 args = [118, 97, 114] := hv0
            simp [Pp.builtinArgs, hn, hm, hq, Pp.wrong, her]
          simp only [hba]
          clear hba
          have h2 : 2 ≤ args.length := by omega
          have hget : ∀ i, i < args.length → args[i]? = some (args.getD i Pp.node0) := fun i hi => by simp [List.getElem?_eq_getElem hi]
          have hop : (args.getD 1 Pp.node0).op = [118, 97, 114] := hv0
          go_enter Tryz.func130, Tryz.ntmps130
          go_wp2_with fail
          refine (Hcur.out _ ((P_0.out.alloc _).alloc _)).mono ?_
          rintro e w1 ⟨rfl, hb⟩
          have kk := Kp.of_below (b := c.bp) hb
          have P_1 := Lib.hid (((P_0.out.alloc _).alloc _).below hb)
          have X_1 := Lib.hid ((((Blk.new w 54 #[.pointer (some ⟨c.bp, 0, none⟩)]).alloc _)).kp kk (by omega))
          have R_1 := Lib.hid (((Blk.new1 w _ 25 z4)).kp kk (by omega))
          have K_1 := (((Kp.refl c.bp w).alloc _).alloc _).trans kk
          have l_1 : w.heap.size + 2 ≤ w1.heap.size := by have := kk.size; simpa using this
          clear kk hb 
          have x0 : w1.cell? ⟨w.heap.size, 0, none⟩ = some (.pointer (some ⟨c.bp, 0, none⟩)) := by simpa using X_1.out.cell 0
          have xl := X_1.out.lt
          go_wp2_with fail
          refine (step_any c _ _ (P_1.out.alloc _)).mono ?_
          rintro e w2 ⟨rfl, pp, kp⟩
          have P_2 := Lib.hid pp
          have X_2 := Lib.hid ((X_1.out.alloc _).kp kp (by omega))
          have R_2 := Lib.hid ((R_1.out.alloc _).kp kp (by omega))
          have B_2 := Lib.hid (((Blk.new w1 60 #[.int .i64 tk, vs [115, 112, 108, 105, 116], .int .i64 tp])).kp kp (by omega))
          have K_2 := (K_1.alloc _).trans kp
          have l_2 : w1.heap.size + 1 ≤ w2.heap.size := by have := kp.size; simpa using this
          clear kp pp 
          have x12 : w2.cell? ⟨w.heap.size, 0, none⟩ = some (.pointer (some ⟨c.bp, 0, none⟩)) := by simpa using X_2.out.cell 0
          have xl12 := X_2.out.lt
          obtain ⟨b20, b21, b22⟩ := B_2.out.tri
          go_wp2_with fail
          refine (expect_any c _ _ P_2.out [40]).mono ?_
          rintro e w3 ⟨rfl, pp, kp⟩
          have P_3 := Lib.hid pp
          have X_3 := Lib.hid (X_2.out.kp kp (by omega))
          have R_3 := Lib.hid (R_2.out.kp kp (by omega))
          have B_3 := Lib.hid (B_2.out.kp kp (by omega))
          have K_3 := K_2.trans kp
          have l_3 : w2.heap.size + 0 ≤ w3.heap.size := by have := kp.size; simpa using this
          clear kp pp 
          have x13 : w3.cell? ⟨w.heap.size, 0, none⟩ = some (.pointer (some ⟨c.bp, 0, none⟩)) := by simpa using X_3.out.cell 0
          have xl13 := X_3.out.lt
          go_wp2_with fail
          refine (list_any c E HE.out k hk [41] _ _ _ _ P_3.out HM.out).mono ?_
          rintro e w4 ⟨oa, oq, rfl, tt, pp, kp⟩
          have P_4 := Lib.hid pp
          have X_4 := Lib.hid (X_3.out.kp kp (by omega))
          have R_4 := Lib.hid (R_3.out.kp kp (by omega))
          have B_4 := Lib.hid (B_3.out.kp kp (by omega))
          have K_4 := K_3.trans kp
          have l_4 : w3.heap.size + 0 ≤ w4.heap.size := by have := kp.size; simpa using this
          clear kp pp 
          have O_4 := Lib.hid tt
          clear tt
          have x14 : w4.cell? ⟨w.heap.size, 0, none⟩ = some (.pointer (some ⟨c.bp, 0, none⟩)) := by simpa using X_4.out.cell 0
          have xl14 := X_4.out.lt
          obtain ⟨b40, b41, b42⟩ := B_4.out.tri
          obtain ⟨gg, gq, ga, gl, gm, hv, glo, glt, g0, g1, g2, g3, gz⟩ := O_4.out.elem 1 _ (hget 1 (by omega))
          injection hv with hv1 hv2 hv3
          clear hv2
          subst hv1 hv3
          simp only [Nat.one_mul] at g0
          rw [hop] at g0
          clear g1 g2 g3 gz
          go_wp2_with fail
          refine (wrong_any' c _ _ P_4.out _ _ ⟨tk, [115, 112, 108, 105, 116], tp⟩ X_4.out B_4.out _ false (by first | rfl | (simp; done) | (simp; omega) | (simp [-List.length_eq_zero_iff]; omega)) 9).mono ?_
          rintro e w5 ⟨rfl, pp, kp⟩
          have P_5 := Lib.hid pp
          have X_5 := Lib.hid (X_4.out.kp kp (by omega))
          have R_5 := Lib.hid (R_4.out.kp kp (by omega))
          have B_5 := Lib.hid (B_4.out.kp kp (by omega))
          have O_5 := Lib.hid (O_4.out.kp kp (by first | omega | (simp; omega)))
          have K_5 := K_4.trans kp
          have l_5 : w4.heap.size + 0 ≤ w5.heap.size := by have := kp.size; simpa using this
          clear kp pp 
          have x15 : w5.cell? ⟨w.heap.size, 0, none⟩ = some (.pointer (some ⟨c.bp, 0, none⟩)) := by simpa using X_5.out.cell 0
          have xl15 := X_5.out.lt
          obtain ⟨b50, b51, b52⟩ := B_5.out.tri
          have hef : ((Pp.wrong ⟨tk, [115, 112, 108, 105, 116], tp⟩ false 9 s2).err == 0) = false := by simpa [Pp.wrong] using her
          have e5 := P_5.out.c4
          have p5 := P_5.out.blk.lt
          go_wp2_with fail
          refine (leaf_any _ _ ⟨tk, [115, 112, 108, 105, 116], tp⟩ _ _ _).mono ?_
          rintro e w6 ⟨rfl, hb⟩
          have kk := Kp.of_below (b := c.bp) hb
          have P_6 := Lib.hid (P_5.out.below hb)
          have X_6 := Lib.hid (X_5.out.kp kk (by omega))
          have R_6 := Lib.hid (R_5.out.kp kk (by omega))
          have B_6 := Lib.hid (B_5.out.kp kk (by omega))
          have O_6 := Lib.hid (O_5.out.kp kk (by first | omega | (simp; omega)))
          have K_6 := K_5.trans kk
          have l_6 : w5.heap.size + 0 ≤ w6.heap.size := by have := kk.size; simpa using this
          clear kk hb 
          obtain ⟨r0, r1, r2, r3⟩ := R_6.out.four
          have rf0 := R_6.out.frozen 0
          have rf1 := R_6.out.frozen 1
          have rf2 := R_6.out.frozen 2
          have rf3 := R_6.out.frozen 3
          go_wp2_with fail
          exact bodyPost_ret (results_node Tryz.results130 rfl R_6.out.put4) rfl ⟨_, _, _, rfl, (O_6.out.kids.put4 (by omega)).mono (fun b hb _ => by omega), P_6.out.put4 (by omega), K_6.put4 (by omega)⟩
      · have hba : Pp.builtinArgs ⟨tk, [115, 112, 108, 105, 116], tp⟩ args s2 = (args, Pp.wrong ⟨tk, [115, 112, 108, 105, 116], tp⟩ true 9 s2) := by
          have hq : (Pp.op1 args != [118, 97, 114]) = true := by rw [bne_iff_ne]; exact hv0
          simp [Pp.builtinArgs, hn, hm, hq, wrong_err]
        simp only [hba]
        clear hba
        have h2 : 2 ≤ args.length := by omega
        have hget : ∀ i, i < args.length → args[i]? = some (args.getD i Pp.node0) := fun i hi => by simp [List.getElem?_eq_getElem hi]
        obtain ⟨op, hop⟩ : ∃ op, (args.getD 1 Pp.node0).op = op := ⟨_, rfl⟩
        have hne : ¬ op = [118, 97, 114] := hop ▸ hv0
        go_enter Tryz.func130, Tryz.ntmps130
        go_wp2_with fail
        refine (Hcur.out _ ((P_0.out.alloc _).alloc _)).mono ?_
        rintro e w1 ⟨rfl, hb⟩
        have kk := Kp.of_below (b := c.bp) hb
        have P_1 := Lib.hid (((P_0.out.alloc _).alloc _).below hb)
        have X_1 := Lib.hid ((((Blk.new w 54 #[.pointer (some ⟨c.bp, 0, none⟩)]).alloc _)).kp kk (by omega))
        have R_1 := Lib.hid (((Blk.new1 w _ 25 z4)).kp kk (by omega))
        have K_1 := (((Kp.refl c.bp w).alloc _).alloc _).trans kk
        have l_1 : w.heap.size + 2 ≤ w1.heap.size := by have := kk.size; simpa using this
        clear kk hb 
        have x0 : w1.cell? ⟨w.heap.size, 0, none⟩ = some (.pointer (some ⟨c.bp, 0, none⟩)) := by simpa using X_1.out.cell 0
        have xl := X_1.out.lt
        go_wp2_with fail
        refine (step_any c _ _ (P_1.out.alloc _)).mono ?_
        rintro e w2 ⟨rfl, pp, kp⟩
        have P_2 := Lib.hid pp
        have X_2 := Lib.hid ((X_1.out.alloc _).kp kp (by omega))
        have R_2 := Lib.hid ((R_1.out.alloc _).kp kp (by omega))
        have B_2 := Lib.hid (((Blk.new w1 60 #[.int .i64 tk, vs [115, 112, 108, 105, 116], .int .i64 tp])).kp kp (by omega))
        have K_2 := (K_1.alloc _).trans kp
        have l_2 : w1.heap.size + 1 ≤ w2.heap.size := by have := kp.size; simpa using this
        clear kp pp 
        have x12 : w2.cell? ⟨w.heap.size, 0, none⟩ = some (.pointer (some ⟨c.bp, 0, none⟩)) := by simpa using X_2.out.cell 0
        have xl12 := X_2.out.lt
        obtain ⟨b20, b21, b22⟩ := B_2.out.tri
        go_wp2_with fail
        refine (expect_any c _ _ P_2.out [40]).mono ?_
        rintro e w3 ⟨rfl, pp, kp⟩
        have P_3 := Lib.hid pp
        have X_3 := Lib.hid (X_2.out.kp kp (by omega))
        have R_3 := Lib.hid (R_2.out.kp kp (by omega))
        have B_3 := Lib.hid (B_2.out.kp kp (by omega))
        have K_3 := K_2.trans kp
        have l_3 : w2.heap.size + 0 ≤ w3.heap.size := by have := kp.size; simpa using this
        clear kp pp 
        have x13 : w3.cell? ⟨w.heap.size, 0, none⟩ = some (.pointer (some ⟨c.bp, 0, none⟩)) := by simpa using X_3.out.cell 0
        have xl13 := X_3.out.lt
        go_wp2_with fail
        refine (list_any c E HE.out k hk [41] _ _ _ _ P_3.out HM.out).mono ?_
        rintro e w4 ⟨oa, oq, rfl, tt, pp, kp⟩
        have P_4 := Lib.hid pp
        have X_4 := Lib.hid (X_3.out.kp kp (by omega))
        have R_4 := Lib.hid (R_3.out.kp kp (by omega))
        have B_4 := Lib.hid (B_3.out.kp kp (by omega))
        have K_4 := K_3.trans kp
        have l_4 : w3.heap.size + 0 ≤ w4.heap.size := by have := kp.size; simpa using this
        clear kp pp 
        have O_4 := Lib.hid tt
        clear tt
        have x14 : w4.cell? ⟨w.heap.size, 0, none⟩ = some (.pointer (some ⟨c.bp, 0, none⟩)) := by simpa using X_4.out.cell 0
        have xl14 := X_4.out.lt
        obtain ⟨b40, b41, b42⟩ := B_4.out.tri
        obtain ⟨gg, gq, ga, gl, gm, hv, glo, glt, g0, g1, g2, g3, gz⟩ := O_4.out.elem 1 _ (hget 1 (by omega))
        injection hv with hv1 hv2 hv3
        clear hv2
        subst hv1 hv3
        simp only [Nat.one_mul] at g0
        rw [hop] at g0
        clear g1 g2 g3 gz
        have kop : (op == [118, 97, 114]) = false := by simpa using hne
        go_wp2_with fail
        refine (wrong_any' c _ _ P_4.out _ _ ⟨tk, [115, 112, 108, 105, 116], tp⟩ X_4.out B_4.out _ true (by first | rfl | (simp; done) | (simp; omega) | (simp [-List.length_eq_zero_iff]; omega)) 9).mono ?_
        rintro e w5 ⟨rfl, pp, kp⟩
        have P_5 := Lib.hid pp
        have X_5 := Lib.hid (X_4.out.kp kp (by omega))
        have R_5 := Lib.hid (R_4.out.kp kp (by omega))
        have B_5 := Lib.hid (B_4.out.kp kp (by omega))
        have O_5 := Lib.hid (O_4.out.kp kp (by first | omega | (simp; omega)))
        have K_5 := K_4.trans kp
        have l_5 : w4.heap.size + 0 ≤ w5.heap.size := by have := kp.size; simpa using this
        clear kp pp 
        have x15 : w5.cell? ⟨w.heap.size, 0, none⟩ = some (.pointer (some ⟨c.bp, 0, none⟩)) := by simpa using X_5.out.cell 0
        have xl15 := X_5.out.lt
        obtain ⟨b50, b51, b52⟩ := B_5.out.tri
        have hef : ((Pp.wrong ⟨tk, [115, 112, 108, 105, 116], tp⟩ true 9 s2).err == 0) = false := by simpa using wrong_err _ _
        have e5 := P_5.out.c4
        have p5 := P_5.out.blk.lt
        go_wp2_with fail
        refine (leaf_any _ _ ⟨tk, [115, 112, 108, 105, 116], tp⟩ _ _ _).mono ?_
        rintro e w6 ⟨rfl, hb⟩
        have kk := Kp.of_below (b := c.bp) hb
        have P_6 := Lib.hid (P_5.out.below hb)
        have X_6 := Lib.hid (X_5.out.kp kk (by omega))
        have R_6 := Lib.hid (R_5.out.kp kk (by omega))
        have B_6 := Lib.hid (B_5.out.kp kk (by omega))
        have O_6 := Lib.hid (O_5.out.kp kk (by first | omega | (simp; omega)))
        have K_6 := K_5.trans kk
        have l_6 : w5.heap.size + 0 ≤ w6.heap.size := by have := kk.size; simpa using this
        clear kk hb 
        obtain ⟨r0, r1, r2, r3⟩ := R_6.out.four
        have rf0 := R_6.out.frozen 0
        have rf1 := R_6.out.frozen 1
        have rf2 := R_6.out.frozen 2
        have rf3 := R_6.out.frozen 3
        go_wp2_with fail
        exact bodyPost_ret (results_node Tryz.results130 rfl R_6.out.put4) rfl ⟨_, _, _, rfl, (O_6.out.kids.put4 (by omega)).mono (fun b hb _ => by omega), P_6.out.put4 (by omega), K_6.put4 (by omega)⟩

set_option maxRecDepth 100000 in
set_option maxHeartbeats 4000000 in
theorem built_other (c : PC) (E : Pp.PS → Option (Pp.Node × Pp.PS)) (hE : IsN c 46 E) (k : Nat) (hk : k ≤ 1000000) (w : World) (s : Pp.PS) (n : Pp.Node) (s' : Pp.PS) (h : PAt c w s) (tk tp : Int) (tx : Pp.Bytes) (k0 : (tx == [108, 101, 110, 103, 116, 104]) = false) (k1 : (tx == [115, 117, 98, 115, 116, 114]) = false) (k2 : (tx == [115, 112, 108, 105, 116]) = false) (k3 : (tx == [115, 117, 98]) = false) (k4 : (tx == [103, 115, 117, 98]) = false) (k5 : (tx == [105, 110, 100, 101, 120]) = false) (k6 : (tx == [109, 97, 116, 99, 104]) = false) (k7 : (tx == [115, 112, 114, 105, 110, 116, 102]) = false) (k8 : (tx == [114, 97, 110, 100]) = false) (k9 : (tx == [115, 114, 97, 110, 100]) = false) (hcur0 : Pp.cur c.T s = ⟨tk, tx, tp⟩) (hh : Pp.builtin c.T E k s = some (n, s')) :
    Calls Tryz.prog 130 #[.pointer (some ⟨c.bp, 0, none⟩)] w (NPost c w n s') := by
  have HE := Lib.hid hE
  have P_0 := Lib.hid h
  have hb := h.blk.lt
  have hmf : ∀ (fn : Fn) (first cap : Array Value) (w : World), (Instr.makeFunc fn first cap).run Tryz.prog w = .ok (.func fn first cap) w := fun _ _ _ _ => rfl
  have hcur := fun W hW => cur_any c W s hW
  rw [hcur0] at hcur
  unfold Pp.builtin at hh
  simp only [hcur0] at hh
  have Hcur := Lib.hid hcur
  clear hcur hcur0 hE h
  have j0 : ¬ tx = [108, 101, 110, 103, 116, 104] := by simpa using k0
  have j1 : ¬ tx = [115, 117, 98, 115, 116, 114] := by simpa using k1
  have j2 : ¬ tx = [115, 112, 108, 105, 116] := by simpa using k2
  have j3 : ¬ tx = [115, 117, 98] := by simpa using k3
  have j4 : ¬ tx = [103, 115, 117, 98] := by simpa using k4
  have j5 : ¬ tx = [105, 110, 100, 101, 120] := by simpa using k5
  have j6 : ¬ tx = [109, 97, 116, 99, 104] := by simpa using k6
  have j7 : ¬ tx = [115, 112, 114, 105, 110, 116, 102] := by simpa using k7
  have j8 : ¬ tx = [114, 97, 110, 100] := by simpa using k8
  have j9 : ¬ tx = [115, 114, 97, 110, 100] := by simpa using k9
  rw [if_neg (fun hx => absurd hx.1 (by assumption))] at hh
  cases hEm : Pp.list c.T E k [41] (Pp.expect c.T [40] (Pp.step c.T s)) with
  | none => rw [hEm] at hh; cases hh
  | some r =>
  obtain ⟨args, s2⟩ := r
  rw [hEm] at hh
  simp only [Option.some.injEq, Prod.mk.injEq] at hh
  obtain ⟨rfl, rfl⟩ := hh
  have HM := Lib.hid hEm
  clear hEm
  by_cases hn : args.length < 1
  · have hba : Pp.builtinArgs ⟨tk, tx, tp⟩ args s2 = (args, Pp.wrong ⟨tk, tx, tp⟩ true 9 s2) := by
      have h0 : ¬ args.length = 1 := by omega
      simp [Pp.builtinArgs, h0, j0, j1, j2, j3, j4, j5, j6, j7, j8, j9]
    simp only [hba]
    clear hba
    go_enter Tryz.func130, Tryz.ntmps130
    go_wp2_with fail
    refine (Hcur.out _ ((P_0.out.alloc _).alloc _)).mono ?_
    rintro e w1 ⟨rfl, hb⟩
    have kk := Kp.of_below (b := c.bp) hb
    have P_1 := Lib.hid (((P_0.out.alloc _).alloc _).below hb)
    have X_1 := Lib.hid ((((Blk.new w 54 #[.pointer (some ⟨c.bp, 0, none⟩)]).alloc _)).kp kk (by omega))
    have R_1 := Lib.hid (((Blk.new1 w _ 25 z4)).kp kk (by omega))
    have K_1 := (((Kp.refl c.bp w).alloc _).alloc _).trans kk
    have l_1 : w.heap.size + 2 ≤ w1.heap.size := by have := kk.size; simpa using this
    clear kk hb 
    have x0 : w1.cell? ⟨w.heap.size, 0, none⟩ = some (.pointer (some ⟨c.bp, 0, none⟩)) := by simpa using X_1.out.cell 0
    have xl := X_1.out.lt
    go_wp2_with fail
    refine (step_any c _ _ (P_1.out.alloc _)).mono ?_
    rintro e w2 ⟨rfl, pp, kp⟩
    have P_2 := Lib.hid pp
    have X_2 := Lib.hid ((X_1.out.alloc _).kp kp (by omega))
    have R_2 := Lib.hid ((R_1.out.alloc _).kp kp (by omega))
    have B_2 := Lib.hid (((Blk.new w1 60 #[.int .i64 tk, vs tx, .int .i64 tp])).kp kp (by omega))
    have K_2 := (K_1.alloc _).trans kp
    have l_2 : w1.heap.size + 1 ≤ w2.heap.size := by have := kp.size; simpa using this
    clear kp pp 
    have x12 : w2.cell? ⟨w.heap.size, 0, none⟩ = some (.pointer (some ⟨c.bp, 0, none⟩)) := by simpa using X_2.out.cell 0
    have xl12 := X_2.out.lt
    obtain ⟨b20, b21, b22⟩ := B_2.out.tri
    go_wp2_with fail
    refine (expect_any c _ _ P_2.out [40]).mono ?_
    rintro e w3 ⟨rfl, pp, kp⟩
    have P_3 := Lib.hid pp
    have X_3 := Lib.hid (X_2.out.kp kp (by omega))
    have R_3 := Lib.hid (R_2.out.kp kp (by omega))
    have B_3 := Lib.hid (B_2.out.kp kp (by omega))
    have K_3 := K_2.trans kp
    have l_3 : w2.heap.size + 0 ≤ w3.heap.size := by have := kp.size; simpa using this
    clear kp pp 
    have x13 : w3.cell? ⟨w.heap.size, 0, none⟩ = some (.pointer (some ⟨c.bp, 0, none⟩)) := by simpa using X_3.out.cell 0
    have xl13 := X_3.out.lt
    go_wp2_with fail
    refine (list_any c E HE.out k hk [41] _ _ _ _ P_3.out HM.out).mono ?_
    rintro e w4 ⟨oa, oq, rfl, tt, pp, kp⟩
    have P_4 := Lib.hid pp
    have X_4 := Lib.hid (X_3.out.kp kp (by omega))
    have R_4 := Lib.hid (R_3.out.kp kp (by omega))
    have B_4 := Lib.hid (B_3.out.kp kp (by omega))
    have K_4 := K_3.trans kp
    have l_4 : w3.heap.size + 0 ≤ w4.heap.size := by have := kp.size; simpa using this
    clear kp pp 
    have O_4 := Lib.hid tt
    clear tt
    have x14 : w4.cell? ⟨w.heap.size, 0, none⟩ = some (.pointer (some ⟨c.bp, 0, none⟩)) := by simpa using X_4.out.cell 0
    have xl14 := X_4.out.lt
    obtain ⟨b40, b41, b42⟩ := B_4.out.tri
    go_wp2_with fail
    refine (wrong_any' c _ _ P_4.out _ _ ⟨tk, tx, tp⟩ X_4.out B_4.out _ true (by first | rfl | (simp; done) | (simp; omega) | (simp [-List.length_eq_zero_iff]; omega)) 9).mono ?_
    rintro e w5 ⟨rfl, pp, kp⟩
    have P_5 := Lib.hid pp
    have X_5 := Lib.hid (X_4.out.kp kp (by omega))
    have R_5 := Lib.hid (R_4.out.kp kp (by omega))
    have B_5 := Lib.hid (B_4.out.kp kp (by omega))
    have O_5 := Lib.hid (O_4.out.kp kp (by first | omega | (simp; omega)))
    have K_5 := K_4.trans kp
    have l_5 : w4.heap.size + 0 ≤ w5.heap.size := by have := kp.size; simpa using this
    clear kp pp 
    have x15 : w5.cell? ⟨w.heap.size, 0, none⟩ = some (.pointer (some ⟨c.bp, 0, none⟩)) := by simpa using X_5.out.cell 0
    have xl15 := X_5.out.lt
    obtain ⟨b50, b51, b52⟩ := B_5.out.tri
    go_wp2_with fail
    refine (leaf_any _ _ ⟨tk, tx, tp⟩ _ _ _).mono ?_
    rintro e w6 ⟨rfl, hb⟩
    have kk := Kp.of_below (b := c.bp) hb
    have P_6 := Lib.hid (P_5.out.below hb)
    have X_6 := Lib.hid (X_5.out.kp kk (by omega))
    have R_6 := Lib.hid (R_5.out.kp kk (by omega))
    have B_6 := Lib.hid (B_5.out.kp kk (by omega))
    have O_6 := Lib.hid (O_5.out.kp kk (by first | omega | (simp; omega)))
    have K_6 := K_5.trans kk
    have l_6 : w5.heap.size + 0 ≤ w6.heap.size := by have := kk.size; simpa using this
    clear kk hb 
    obtain ⟨r0, r1, r2, r3⟩ := R_6.out.four
    have rf0 := R_6.out.frozen 0
    have rf1 := R_6.out.frozen 1
    have rf2 := R_6.out.frozen 2
    have rf3 := R_6.out.frozen 3
    go_wp2_with fail
    exact bodyPost_ret (results_node Tryz.results130 rfl R_6.out.put4) rfl ⟨_, _, _, rfl, (O_6.out.kids.put4 (by omega)).mono (fun b hb _ => by omega), P_6.out.put4 (by omega), K_6.put4 (by omega)⟩
  · by_cases hm : args.length < 2
    · have hba : Pp.builtinArgs ⟨tk, tx, tp⟩ args s2 = (args, Pp.wrong ⟨tk, tx, tp⟩ false 9 s2) := by
        have h0 : args.length = 1 := by omega
        simp [Pp.builtinArgs, h0, j0, j1, j2, j3, j4, j5, j6, j7, j8, j9]
      simp only [hba]
      clear hba
      go_enter Tryz.func130, Tryz.ntmps130
      go_wp2_with fail
      refine (Hcur.out _ ((P_0.out.alloc _).alloc _)).mono ?_
      rintro e w1 ⟨rfl, hb⟩
      have kk := Kp.of_below (b := c.bp) hb
      have P_1 := Lib.hid (((P_0.out.alloc _).alloc _).below hb)
      have X_1 := Lib.hid ((((Blk.new w 54 #[.pointer (some ⟨c.bp, 0, none⟩)]).alloc _)).kp kk (by omega))
      have R_1 := Lib.hid (((Blk.new1 w _ 25 z4)).kp kk (by omega))
      have K_1 := (((Kp.refl c.bp w).alloc _).alloc _).trans kk
      have l_1 : w.heap.size + 2 ≤ w1.heap.size := by have := kk.size; simpa using this
      clear kk hb 
      have x0 : w1.cell? ⟨w.heap.size, 0, none⟩ = some (.pointer (some ⟨c.bp, 0, none⟩)) := by simpa using X_1.out.cell 0
      have xl := X_1.out.lt
      go_wp2_with fail
      refine (step_any c _ _ (P_1.out.alloc _)).mono ?_
      rintro e w2 ⟨rfl, pp, kp⟩
      have P_2 := Lib.hid pp
      have X_2 := Lib.hid ((X_1.out.alloc _).kp kp (by omega))
      have R_2 := Lib.hid ((R_1.out.alloc _).kp kp (by omega))
      have B_2 := Lib.hid (((Blk.new w1 60 #[.int .i64 tk, vs tx, .int .i64 tp])).kp kp (by omega))
      have K_2 := (K_1.alloc _).trans kp
      have l_2 : w1.heap.size + 1 ≤ w2.heap.size := by have := kp.size; simpa using this
      clear kp pp 
      have x12 : w2.cell? ⟨w.heap.size, 0, none⟩ = some (.pointer (some ⟨c.bp, 0, none⟩)) := by simpa using X_2.out.cell 0
      have xl12 := X_2.out.lt
      obtain ⟨b20, b21, b22⟩ := B_2.out.tri
      go_wp2_with fail
      refine (expect_any c _ _ P_2.out [40]).mono ?_
      rintro e w3 ⟨rfl, pp, kp⟩
      have P_3 := Lib.hid pp
      have X_3 := Lib.hid (X_2.out.kp kp (by omega))
      have R_3 := Lib.hid (R_2.out.kp kp (by omega))
      have B_3 := Lib.hid (B_2.out.kp kp (by omega))
      have K_3 := K_2.trans kp
      have l_3 : w2.heap.size + 0 ≤ w3.heap.size := by have := kp.size; simpa using this
      clear kp pp 
      have x13 : w3.cell? ⟨w.heap.size, 0, none⟩ = some (.pointer (some ⟨c.bp, 0, none⟩)) := by simpa using X_3.out.cell 0
      have xl13 := X_3.out.lt
      go_wp2_with fail
      refine (list_any c E HE.out k hk [41] _ _ _ _ P_3.out HM.out).mono ?_
      rintro e w4 ⟨oa, oq, rfl, tt, pp, kp⟩
      have P_4 := Lib.hid pp
      have X_4 := Lib.hid (X_3.out.kp kp (by omega))
      have R_4 := Lib.hid (R_3.out.kp kp (by omega))
      have B_4 := Lib.hid (B_3.out.kp kp (by omega))
      have K_4 := K_3.trans kp
      have l_4 : w3.heap.size + 0 ≤ w4.heap.size := by have := kp.size; simpa using this
      clear kp pp 
      have O_4 := Lib.hid tt
      clear tt
      have x14 : w4.cell? ⟨w.heap.size, 0, none⟩ = some (.pointer (some ⟨c.bp, 0, none⟩)) := by simpa using X_4.out.cell 0
      have xl14 := X_4.out.lt
      obtain ⟨b40, b41, b42⟩ := B_4.out.tri
      go_wp2_with fail
      refine (wrong_any' c _ _ P_4.out _ _ ⟨tk, tx, tp⟩ X_4.out B_4.out _ false (by first | rfl | (simp; done) | (simp; omega) | (simp [-List.length_eq_zero_iff]; omega)) 9).mono ?_
      rintro e w5 ⟨rfl, pp, kp⟩
      have P_5 := Lib.hid pp
      have X_5 := Lib.hid (X_4.out.kp kp (by omega))
      have R_5 := Lib.hid (R_4.out.kp kp (by omega))
      have B_5 := Lib.hid (B_4.out.kp kp (by omega))
      have O_5 := Lib.hid (O_4.out.kp kp (by first | omega | (simp; omega)))
      have K_5 := K_4.trans kp
      have l_5 : w4.heap.size + 0 ≤ w5.heap.size := by have := kp.size; simpa using this
      clear kp pp 
      have x15 : w5.cell? ⟨w.heap.size, 0, none⟩ = some (.pointer (some ⟨c.bp, 0, none⟩)) := by simpa using X_5.out.cell 0
      have xl15 := X_5.out.lt
      obtain ⟨b50, b51, b52⟩ := B_5.out.tri
      go_wp2_with fail
      refine (leaf_any _ _ ⟨tk, tx, tp⟩ _ _ _).mono ?_
      rintro e w6 ⟨rfl, hb⟩
      have kk := Kp.of_below (b := c.bp) hb
      have P_6 := Lib.hid (P_5.out.below hb)
      have X_6 := Lib.hid (X_5.out.kp kk (by omega))
      have R_6 := Lib.hid (R_5.out.kp kk (by omega))
      have B_6 := Lib.hid (B_5.out.kp kk (by omega))
      have O_6 := Lib.hid (O_5.out.kp kk (by first | omega | (simp; omega)))
      have K_6 := K_5.trans kk
      have l_6 : w5.heap.size + 0 ≤ w6.heap.size := by have := kk.size; simpa using this
      clear kk hb 
      obtain ⟨r0, r1, r2, r3⟩ := R_6.out.four
      have rf0 := R_6.out.frozen 0
      have rf1 := R_6.out.frozen 1
      have rf2 := R_6.out.frozen 2
      have rf3 := R_6.out.frozen 3
      go_wp2_with fail
      exact bodyPost_ret (results_node Tryz.results130 rfl R_6.out.put4) rfl ⟨_, _, _, rfl, (O_6.out.kids.put4 (by omega)).mono (fun b hb _ => by omega), P_6.out.put4 (by omega), K_6.put4 (by omega)⟩
    · have hba : Pp.builtinArgs ⟨tk, tx, tp⟩ args s2 = (args, Pp.wrong ⟨tk, tx, tp⟩ true 9 s2) := by
        have h0 : ¬ args.length = 1 := by omega
        simp [Pp.builtinArgs, h0, j0, j1, j2, j3, j4, j5, j6, j7, j8, j9]
      simp only [hba]
      clear hba
      go_enter Tryz.func130, Tryz.ntmps130
      go_wp2_with fail
      refine (Hcur.out _ ((P_0.out.alloc _).alloc _)).mono ?_
      rintro e w1 ⟨rfl, hb⟩
      have kk := Kp.of_below (b := c.bp) hb
      have P_1 := Lib.hid (((P_0.out.alloc _).alloc _).below hb)
      have X_1 := Lib.hid ((((Blk.new w 54 #[.pointer (some ⟨c.bp, 0, none⟩)]).alloc _)).kp kk (by omega))
      have R_1 := Lib.hid (((Blk.new1 w _ 25 z4)).kp kk (by omega))
      have K_1 := (((Kp.refl c.bp w).alloc _).alloc _).trans kk
      have l_1 : w.heap.size + 2 ≤ w1.heap.size := by have := kk.size; simpa using this
      clear kk hb 
      have x0 : w1.cell? ⟨w.heap.size, 0, none⟩ = some (.pointer (some ⟨c.bp, 0, none⟩)) := by simpa using X_1.out.cell 0
      have xl := X_1.out.lt
      go_wp2_with fail
      refine (step_any c _ _ (P_1.out.alloc _)).mono ?_
      rintro e w2 ⟨rfl, pp, kp⟩
      have P_2 := Lib.hid pp
      have X_2 := Lib.hid ((X_1.out.alloc _).kp kp (by omega))
      have R_2 := Lib.hid ((R_1.out.alloc _).kp kp (by omega))
      have B_2 := Lib.hid (((Blk.new w1 60 #[.int .i64 tk, vs tx, .int .i64 tp])).kp kp (by omega))
      have K_2 := (K_1.alloc _).trans kp
      have l_2 : w1.heap.size + 1 ≤ w2.heap.size := by have := kp.size; simpa using this
      clear kp pp 
      have x12 : w2.cell? ⟨w.heap.size, 0, none⟩ = some (.pointer (some ⟨c.bp, 0, none⟩)) := by simpa using X_2.out.cell 0
      have xl12 := X_2.out.lt
      obtain ⟨b20, b21, b22⟩ := B_2.out.tri
      go_wp2_with fail
      refine (expect_any c _ _ P_2.out [40]).mono ?_
      rintro e w3 ⟨rfl, pp, kp⟩
      have P_3 := Lib.hid pp
      have X_3 := Lib.hid (X_2.out.kp kp (by omega))
      have R_3 := Lib.hid (R_2.out.kp kp (by omega))
      have B_3 := Lib.hid (B_2.out.kp kp (by omega))
      have K_3 := K_2.trans kp
      have l_3 : w2.heap.size + 0 ≤ w3.heap.size := by have := kp.size; simpa using this
      clear kp pp 
      have x13 : w3.cell? ⟨w.heap.size, 0, none⟩ = some (.pointer (some ⟨c.bp, 0, none⟩)) := by simpa using X_3.out.cell 0
      have xl13 := X_3.out.lt
      go_wp2_with fail
      refine (list_any c E HE.out k hk [41] _ _ _ _ P_3.out HM.out).mono ?_
      rintro e w4 ⟨oa, oq, rfl, tt, pp, kp⟩
      have P_4 := Lib.hid pp
      have X_4 := Lib.hid (X_3.out.kp kp (by omega))
      have R_4 := Lib.hid (R_3.out.kp kp (by omega))
      have B_4 := Lib.hid (B_3.out.kp kp (by omega))
      have K_4 := K_3.trans kp
      have l_4 : w3.heap.size + 0 ≤ w4.heap.size := by have := kp.size; simpa using this
      clear kp pp 
      have O_4 := Lib.hid tt
      clear tt
      have x14 : w4.cell? ⟨w.heap.size, 0, none⟩ = some (.pointer (some ⟨c.bp, 0, none⟩)) := by simpa using X_4.out.cell 0
      have xl14 := X_4.out.lt
      obtain ⟨b40, b41, b42⟩ := B_4.out.tri
      go_wp2_with fail
      refine (wrong_any' c _ _ P_4.out _ _ ⟨tk, tx, tp⟩ X_4.out B_4.out _ true (by first | rfl | (simp; done) | (simp; omega) | (simp [-List.length_eq_zero_iff]; omega)) 9).mono ?_
      rintro e w5 ⟨rfl, pp, kp⟩
      have P_5 := Lib.hid pp
      have X_5 := Lib.hid (X_4.out.kp kp (by omega))
      have R_5 := Lib.hid (R_4.out.kp kp (by omega))
      have B_5 := Lib.hid (B_4.out.kp kp (by omega))
      have O_5 := Lib.hid (O_4.out.kp kp (by first | omega | (simp; omega)))
      have K_5 := K_4.trans kp
      have l_5 : w4.heap.size + 0 ≤ w5.heap.size := by have := kp.size; simpa using this
      clear kp pp 
      have x15 : w5.cell? ⟨w.heap.size, 0, none⟩ = some (.pointer (some ⟨c.bp, 0, none⟩)) := by simpa using X_5.out.cell 0
      have xl15 := X_5.out.lt
      obtain ⟨b50, b51, b52⟩ := B_5.out.tri
      go_wp2_with fail
      refine (leaf_any _ _ ⟨tk, tx, tp⟩ _ _ _).mono ?_
      rintro e w6 ⟨rfl, hb⟩
      have kk := Kp.of_below (b := c.bp) hb
      have P_6 := Lib.hid (P_5.out.below hb)
      have X_6 := Lib.hid (X_5.out.kp kk (by omega))
      have R_6 := Lib.hid (R_5.out.kp kk (by omega))
      have B_6 := Lib.hid (B_5.out.kp kk (by omega))
      have O_6 := Lib.hid (O_5.out.kp kk (by first | omega | (simp; omega)))
      have K_6 := K_5.trans kk
      have l_6 : w5.heap.size + 0 ≤ w6.heap.size := by have := kk.size; simpa using this
      clear kk hb 
      obtain ⟨r0, r1, r2, r3⟩ := R_6.out.four
      have rf0 := R_6.out.frozen 0
      have rf1 := R_6.out.frozen 1
      have rf2 := R_6.out.frozen 2
      have rf3 := R_6.out.frozen 3
      go_wp2_with fail
      exact bodyPost_ret (results_node Tryz.results130 rfl R_6.out.put4) rfl ⟨_, _, _, rfl, (O_6.out.kids.put4 (by omega)).mono (fun b hb _ => by omega), P_6.out.put4 (by omega), K_6.put4 (by omega)⟩

end Go.Proofs.YtgnmfaeonijogaaGreatDoor
