/- Walked: a call of a builtin. -/
import Derived.Test.YtgnmfaeonijogaaGreatDoorExprG
import Derived.Test.YtgnmfaeonijogaaGreatDoorWrong
import Derived.Test.YtgnmfaeonijogaaGreatDoorOutB
namespace Go.Proofs.YtgnmfaeonijogaaGreatDoor
open Go.RowKit

set_option maxRecDepth 100000 in
set_option maxHeartbeats 4000000 in
theorem built_length (c : PC) (E : Pp.PS → Option (Pp.Node × Pp.PS)) (hE : IsN c 46 E) (k : Nat) (hk : k ≤ 1000000) (w : World) (s : Pp.PS) (n : Pp.Node) (s' : Pp.PS) (h : PAt c w s) (tk tp : Int) (hcur0 : Pp.cur c.T s = ⟨tk, [108, 101, 110, 103, 116, 104], tp⟩) (hh : Pp.builtin c.T E k s = some (n, s')) :
    Calls Tryz.prog 130 #[.pointer (some ⟨c.bp, 0, none⟩)] w (NPost c w n s') := by
  have HE := Lib.hid hE
  have P_0 := Lib.hid h
  have hb := h.blk.lt
  have hmf : ∀ (fn : Fn) (first cap : Array Value) (w : World), (Instr.makeFunc fn first cap).run Tryz.prog w = .ok (.func fn first cap) w := fun _ _ _ _ => rfl
  have hcur := fun W hW => cur_any c W s hW
  rw [hcur0] at hcur
  unfold Pp.builtin at hh
  simp only [hcur0] at hh
  have Hcur := Lib.hid hcur
  clear hcur hcur0 hE h
  cases hat : Pp.at_ c.T [[40]] (Pp.step c.T s) with
  | false =>
    rw [if_pos ⟨trivial, hat⟩] at hh
    simp only [Option.some.injEq, Prod.mk.injEq] at hh
    obtain ⟨rfl, rfl⟩ := hh
    have HA := Lib.hid hat
    clear hat
    go_enter Tryz.func130, Tryz.ntmps130
    go_wp2_with fail
    refine (Hcur.out _ ((P_0.out.alloc _).alloc _)).mono ?_
    rintro e w1 ⟨rfl, hb⟩
    have kk := Kp.of_below (b := c.bp) hb
    have P_1 := Lib.hid (((P_0.out.alloc _).alloc _).below hb)
    have X_1 := Lib.hid ((((Blk.new w 54 #[.pointer (some ⟨c.bp, 0, none⟩)]).alloc _)).kp kk (by omega))
    have R_1 := Lib.hid (((Blk.new1 w _ 25 z4)).kp kk (by omega))
    have K_1 := (((Kp.refl c.bp w).alloc _).alloc _).trans kk
    have l_1 : w.heap.size + 2 ≤ w1.heap.size := by have := kk.size; simpa using this
    clear kk hb 
    have x0 : w1.cell? ⟨w.heap.size, 0, none⟩ = some (.pointer (some ⟨c.bp, 0, none⟩)) := by simpa using X_1.out.cell 0
    have xl := X_1.out.lt
    go_wp2_with fail
    refine (step_any c _ _ (P_1.out.alloc _)).mono ?_
    rintro e w2 ⟨rfl, pp, kp⟩
    have P_2 := Lib.hid pp
    have X_2 := Lib.hid ((X_1.out.alloc _).kp kp (by omega))
    have R_2 := Lib.hid ((R_1.out.alloc _).kp kp (by omega))
    have B_2 := Lib.hid (((Blk.new w1 60 #[.int .i64 tk, vs [108, 101, 110, 103, 116, 104], .int .i64 tp])).kp kp (by omega))
    have K_2 := (K_1.alloc _).trans kp
    have l_2 : w1.heap.size + 1 ≤ w2.heap.size := by have := kp.size; simpa using this
    clear kp pp 
    have x12 : w2.cell? ⟨w.heap.size, 0, none⟩ = some (.pointer (some ⟨c.bp, 0, none⟩)) := by simpa using X_2.out.cell 0
    have xl12 := X_2.out.lt
    obtain ⟨b20, b21, b22⟩ := B_2.out.tri
    go_wp2_with fail
    refine (at_new' c _ _ P_2.out 1 [[40]] _ 1 (by simp) rfl _ rfl (by omega) _ HA.out).mono ?_
    rintro e w3 ⟨rfl, hb⟩
    have kk := Kp.of_below (b := c.bp) hb
    have P_3 := Lib.hid (P_2.out.below hb)
    have X_3 := Lib.hid (X_2.out.kp kk (by omega))
    have R_3 := Lib.hid (R_2.out.kp kk (by omega))
    have B_3 := Lib.hid (B_2.out.kp kk (by omega))
    have K_3 := K_2.trans kk
    have l_3 : w2.heap.size + 0 ≤ w3.heap.size := by have := kk.size; simpa using this
    clear kk hb 
    obtain ⟨b30, b31, b32⟩ := B_3.out.tri
    go_wp2_with fail
    refine (leaf_any _ _ ⟨tk, [108, 101, 110, 103, 116, 104], tp⟩ _ _ _).mono ?_
    rintro e w4 ⟨rfl, hb⟩
    have kk := Kp.of_below (b := c.bp) hb
    have P_4 := Lib.hid (P_3.out.below hb)
    have X_4 := Lib.hid (X_3.out.kp kk (by omega))
    have R_4 := Lib.hid (R_3.out.kp kk (by omega))
    have B_4 := Lib.hid (B_3.out.kp kk (by omega))
    have K_4 := K_3.trans kk
    have l_4 : w3.heap.size + 0 ≤ w4.heap.size := by have := kk.size; simpa using this
    clear kk hb 
    obtain ⟨r0, r1, r2, r3⟩ := R_4.out.four
    have rf0 := R_4.out.frozen 0
    have rf1 := R_4.out.frozen 1
    have rf2 := R_4.out.frozen 2
    have rf3 := R_4.out.frozen 3
    go_wp2_with fail
    exact bodyPost_ret (results_node Tryz.results130 rfl R_4.out.put4) rfl ⟨none, 0, 0, rfl, .nil _ _, P_4.out.put4 (by omega), K_4.put4 (by omega)⟩
  | true =>
  rw [if_neg (by simp [hat])] at hh
  have HA := Lib.hid hat
  clear hat
  cases hEm : Pp.list c.T E k [41] (Pp.expect c.T [40] (Pp.step c.T s)) with
  | none => rw [hEm] at hh; cases hh
  | some r =>
  obtain ⟨args, s2⟩ := r
  rw [hEm] at hh
  simp only [Option.some.injEq, Prod.mk.injEq] at hh
  obtain ⟨rfl, rfl⟩ := hh
  have HM := Lib.hid hEm
  clear hEm
  by_cases hn : 1 < args.length
  · have hba : Pp.builtinArgs ⟨tk, [108, 101, 110, 103, 116, 104], tp⟩ args s2 = (args, Pp.wrong ⟨tk, [108, 101, 110, 103, 116, 104], tp⟩ true 9 s2) := by simp [Pp.builtinArgs, hn]
    simp only [hba]
    clear hba
    go_enter Tryz.func130, Tryz.ntmps130
    go_wp2_with fail
    refine (Hcur.out _ ((P_0.out.alloc _).alloc _)).mono ?_
    rintro e w1 ⟨rfl, hb⟩
    have kk := Kp.of_below (b := c.bp) hb
    have P_1 := Lib.hid (((P_0.out.alloc _).alloc _).below hb)
    have X_1 := Lib.hid ((((Blk.new w 54 #[.pointer (some ⟨c.bp, 0, none⟩)]).alloc _)).kp kk (by omega))
    have R_1 := Lib.hid (((Blk.new1 w _ 25 z4)).kp kk (by omega))
    have K_1 := (((Kp.refl c.bp w).alloc _).alloc _).trans kk
    have l_1 : w.heap.size + 2 ≤ w1.heap.size := by have := kk.size; simpa using this
    clear kk hb 
    have x0 : w1.cell? ⟨w.heap.size, 0, none⟩ = some (.pointer (some ⟨c.bp, 0, none⟩)) := by simpa using X_1.out.cell 0
    have xl := X_1.out.lt
    go_wp2_with fail
    refine (step_any c _ _ (P_1.out.alloc _)).mono ?_
    rintro e w2 ⟨rfl, pp, kp⟩
    have P_2 := Lib.hid pp
    have X_2 := Lib.hid ((X_1.out.alloc _).kp kp (by omega))
    have R_2 := Lib.hid ((R_1.out.alloc _).kp kp (by omega))
    have B_2 := Lib.hid (((Blk.new w1 60 #[.int .i64 tk, vs [108, 101, 110, 103, 116, 104], .int .i64 tp])).kp kp (by omega))
    have K_2 := (K_1.alloc _).trans kp
    have l_2 : w1.heap.size + 1 ≤ w2.heap.size := by have := kp.size; simpa using this
    clear kp pp 
    have x12 : w2.cell? ⟨w.heap.size, 0, none⟩ = some (.pointer (some ⟨c.bp, 0, none⟩)) := by simpa using X_2.out.cell 0
    have xl12 := X_2.out.lt
    obtain ⟨b20, b21, b22⟩ := B_2.out.tri
    go_wp2_with fail
    refine (at_new' c _ _ P_2.out 1 [[40]] _ 1 (by simp) rfl _ rfl (by omega) _ HA.out).mono ?_
    rintro e w3 ⟨rfl, hb⟩
    have kk := Kp.of_below (b := c.bp) hb
    have P_3 := Lib.hid (P_2.out.below hb)
    have X_3 := Lib.hid (X_2.out.kp kk (by omega))
    have R_3 := Lib.hid (R_2.out.kp kk (by omega))
    have B_3 := Lib.hid (B_2.out.kp kk (by omega))
    have K_3 := K_2.trans kk
    have l_3 : w2.heap.size + 0 ≤ w3.heap.size := by have := kk.size; simpa using this
    clear kk hb 
    have x13 : w3.cell? ⟨w.heap.size, 0, none⟩ = some (.pointer (some ⟨c.bp, 0, none⟩)) := by simpa using X_3.out.cell 0
    have xl13 := X_3.out.lt
    go_wp2_with fail
    refine (expect_any c _ _ P_3.out [40]).mono ?_
    rintro e w4 ⟨rfl, pp, kp⟩
    have P_4 := Lib.hid pp
    have X_4 := Lib.hid (X_3.out.kp kp (by omega))
    have R_4 := Lib.hid (R_3.out.kp kp (by omega))
    have B_4 := Lib.hid (B_3.out.kp kp (by omega))
    have K_4 := K_3.trans kp
    have l_4 : w3.heap.size + 0 ≤ w4.heap.size := by have := kp.size; simpa using this
    clear kp pp 
    have x14 : w4.cell? ⟨w.heap.size, 0, none⟩ = some (.pointer (some ⟨c.bp, 0, none⟩)) := by simpa using X_4.out.cell 0
    have xl14 := X_4.out.lt
    go_wp2_with fail
    refine (list_any c E HE.out k hk [41] _ _ _ _ P_4.out HM.out).mono ?_
    rintro e w5 ⟨oa, oq, rfl, tt, pp, kp⟩
    have P_5 := Lib.hid pp
    have X_5 := Lib.hid (X_4.out.kp kp (by omega))
    have R_5 := Lib.hid (R_4.out.kp kp (by omega))
    have B_5 := Lib.hid (B_4.out.kp kp (by omega))
    have K_5 := K_4.trans kp
    have l_5 : w4.heap.size + 0 ≤ w5.heap.size := by have := kp.size; simpa using this
    clear kp pp 
    have O_5 := Lib.hid tt
    clear tt
    have x15 : w5.cell? ⟨w.heap.size, 0, none⟩ = some (.pointer (some ⟨c.bp, 0, none⟩)) := by simpa using X_5.out.cell 0
    have xl15 := X_5.out.lt
    obtain ⟨b50, b51, b52⟩ := B_5.out.tri
    go_wp2_with fail
    refine (wrong_any' c _ _ P_5.out _ _ ⟨tk, [108, 101, 110, 103, 116, 104], tp⟩ X_5.out B_5.out _ true (by first | rfl | (simp; done) | (simp; omega) | (simp [-List.length_eq_zero_iff]; omega)) 9).mono ?_
    rintro e w6 ⟨rfl, pp, kp⟩
    have P_6 := Lib.hid pp
    have X_6 := Lib.hid (X_5.out.kp kp (by omega))
    have R_6 := Lib.hid (R_5.out.kp kp (by omega))
    have B_6 := Lib.hid (B_5.out.kp kp (by omega))
    have O_6 := Lib.hid (O_5.out.kp kp (by first | omega | (simp; omega)))
    have K_6 := K_5.trans kp
    have l_6 : w5.heap.size + 0 ≤ w6.heap.size := by have := kp.size; simpa using this
    clear kp pp 
    have x16 : w6.cell? ⟨w.heap.size, 0, none⟩ = some (.pointer (some ⟨c.bp, 0, none⟩)) := by simpa using X_6.out.cell 0
    have xl16 := X_6.out.lt
    obtain ⟨b60, b61, b62⟩ := B_6.out.tri
    go_wp2_with fail
    refine (leaf_any _ _ ⟨tk, [108, 101, 110, 103, 116, 104], tp⟩ _ _ _).mono ?_
    rintro e w7 ⟨rfl, hb⟩
    have kk := Kp.of_below (b := c.bp) hb
    have P_7 := Lib.hid (P_6.out.below hb)
    have X_7 := Lib.hid (X_6.out.kp kk (by omega))
    have R_7 := Lib.hid (R_6.out.kp kk (by omega))
    have B_7 := Lib.hid (B_6.out.kp kk (by omega))
    have O_7 := Lib.hid (O_6.out.kp kk (by first | omega | (simp; omega)))
    have K_7 := K_6.trans kk
    have l_7 : w6.heap.size + 0 ≤ w7.heap.size := by have := kk.size; simpa using this
    clear kk hb 
    obtain ⟨r0, r1, r2, r3⟩ := R_7.out.four
    have rf0 := R_7.out.frozen 0
    have rf1 := R_7.out.frozen 1
    have rf2 := R_7.out.frozen 2
    have rf3 := R_7.out.frozen 3
    go_wp2_with fail
    exact bodyPost_ret (results_node Tryz.results130 rfl R_7.out.put4) rfl ⟨_, _, _, rfl, (O_7.out.kids.put4 (by omega)).mono (fun b hb _ => by omega), P_7.out.put4 (by omega), K_7.put4 (by omega)⟩
  · have hba : Pp.builtinArgs ⟨tk, [108, 101, 110, 103, 116, 104], tp⟩ args s2 = (args, Pp.wrong ⟨tk, [108, 101, 110, 103, 116, 104], tp⟩ false 9 s2) := by simp [Pp.builtinArgs, hn]
    simp only [hba]
    clear hba
    go_enter Tryz.func130, Tryz.ntmps130
    go_wp2_with fail
    refine (Hcur.out _ ((P_0.out.alloc _).alloc _)).mono ?_
    rintro e w1 ⟨rfl, hb⟩
    have kk := Kp.of_below (b := c.bp) hb
    have P_1 := Lib.hid (((P_0.out.alloc _).alloc _).below hb)
    have X_1 := Lib.hid ((((Blk.new w 54 #[.pointer (some ⟨c.bp, 0, none⟩)]).alloc _)).kp kk (by omega))
    have R_1 := Lib.hid (((Blk.new1 w _ 25 z4)).kp kk (by omega))
    have K_1 := (((Kp.refl c.bp w).alloc _).alloc _).trans kk
    have l_1 : w.heap.size + 2 ≤ w1.heap.size := by have := kk.size; simpa using this
    clear kk hb 
    have x0 : w1.cell? ⟨w.heap.size, 0, none⟩ = some (.pointer (some ⟨c.bp, 0, none⟩)) := by simpa using X_1.out.cell 0
    have xl := X_1.out.lt
    go_wp2_with fail
    refine (step_any c _ _ (P_1.out.alloc _)).mono ?_
    rintro e w2 ⟨rfl, pp, kp⟩
    have P_2 := Lib.hid pp
    have X_2 := Lib.hid ((X_1.out.alloc _).kp kp (by omega))
    have R_2 := Lib.hid ((R_1.out.alloc _).kp kp (by omega))
    have B_2 := Lib.hid (((Blk.new w1 60 #[.int .i64 tk, vs [108, 101, 110, 103, 116, 104], .int .i64 tp])).kp kp (by omega))
    have K_2 := (K_1.alloc _).trans kp
    have l_2 : w1.heap.size + 1 ≤ w2.heap.size := by have := kp.size; simpa using this
    clear kp pp 
    have x12 : w2.cell? ⟨w.heap.size, 0, none⟩ = some (.pointer (some ⟨c.bp, 0, none⟩)) := by simpa using X_2.out.cell 0
    have xl12 := X_2.out.lt
    obtain ⟨b20, b21, b22⟩ := B_2.out.tri
    go_wp2_with fail
    refine (at_new' c _ _ P_2.out 1 [[40]] _ 1 (by simp) rfl _ rfl (by omega) _ HA.out).mono ?_
    rintro e w3 ⟨rfl, hb⟩
    have kk := Kp.of_below (b := c.bp) hb
    have P_3 := Lib.hid (P_2.out.below hb)
    have X_3 := Lib.hid (X_2.out.kp kk (by omega))
    have R_3 := Lib.hid (R_2.out.kp kk (by omega))
    have B_3 := Lib.hid (B_2.out.kp kk (by omega))
    have K_3 := K_2.trans kk
    have l_3 : w2.heap.size + 0 ≤ w3.heap.size := by have := kk.size; simpa using this
    clear kk hb 
    have x13 : w3.cell? ⟨w.heap.size, 0, none⟩ = some (.pointer (some ⟨c.bp, 0, none⟩)) := by simpa using X_3.out.cell 0
    have xl13 := X_3.out.lt
    go_wp2_with fail
    refine (expect_any c _ _ P_3.out [40]).mono ?_
    rintro e w4 ⟨rfl, pp, kp⟩
    have P_4 := Lib.hid pp
    have X_4 := Lib.hid (X_3.out.kp kp (by omega))
    have R_4 := Lib.hid (R_3.out.kp kp (by omega))
    have B_4 := Lib.hid (B_3.out.kp kp (by omega))
    have K_4 := K_3.trans kp
    have l_4 : w3.heap.size + 0 ≤ w4.heap.size := by have := kp.size; simpa using this
    clear kp pp 
    have x14 : w4.cell? ⟨w.heap.size, 0, none⟩ = some (.pointer (some ⟨c.bp, 0, none⟩)) := by simpa using X_4.out.cell 0
    have xl14 := X_4.out.lt
    go_wp2_with fail
    refine (list_any c E HE.out k hk [41] _ _ _ _ P_4.out HM.out).mono ?_
    rintro e w5 ⟨oa, oq, rfl, tt, pp, kp⟩
    have P_5 := Lib.hid pp
    have X_5 := Lib.hid (X_4.out.kp kp (by omega))
    have R_5 := Lib.hid (R_4.out.kp kp (by omega))
    have B_5 := Lib.hid (B_4.out.kp kp (by omega))
    have K_5 := K_4.trans kp
    have l_5 : w4.heap.size + 0 ≤ w5.heap.size := by have := kp.size; simpa using this
    clear kp pp 
    have O_5 := Lib.hid tt
    clear tt
    have x15 : w5.cell? ⟨w.heap.size, 0, none⟩ = some (.pointer (some ⟨c.bp, 0, none⟩)) := by simpa using X_5.out.cell 0
    have xl15 := X_5.out.lt
    obtain ⟨b50, b51, b52⟩ := B_5.out.tri
    go_wp2_with fail
    refine (wrong_any' c _ _ P_5.out _ _ ⟨tk, [108, 101, 110, 103, 116, 104], tp⟩ X_5.out B_5.out _ false (by first | rfl | (simp; done) | (simp; omega) | (simp [-List.length_eq_zero_iff]; omega)) 9).mono ?_
    rintro e w6 ⟨rfl, pp, kp⟩
    have P_6 := Lib.hid pp
    have X_6 := Lib.hid (X_5.out.kp kp (by omega))
    have R_6 := Lib.hid (R_5.out.kp kp (by omega))
    have B_6 := Lib.hid (B_5.out.kp kp (by omega))
    have O_6 := Lib.hid (O_5.out.kp kp (by first | omega | (simp; omega)))
    have K_6 := K_5.trans kp
    have l_6 : w5.heap.size + 0 ≤ w6.heap.size := by have := kp.size; simpa using this
    clear kp pp 
    have x16 : w6.cell? ⟨w.heap.size, 0, none⟩ = some (.pointer (some ⟨c.bp, 0, none⟩)) := by simpa using X_6.out.cell 0
    have xl16 := X_6.out.lt
    obtain ⟨b60, b61, b62⟩ := B_6.out.tri
    go_wp2_with fail
    refine (leaf_any _ _ ⟨tk, [108, 101, 110, 103, 116, 104], tp⟩ _ _ _).mono ?_
    rintro e w7 ⟨rfl, hb⟩
    have kk := Kp.of_below (b := c.bp) hb
    have P_7 := Lib.hid (P_6.out.below hb)
    have X_7 := Lib.hid (X_6.out.kp kk (by omega))
    have R_7 := Lib.hid (R_6.out.kp kk (by omega))
    have B_7 := Lib.hid (B_6.out.kp kk (by omega))
    have O_7 := Lib.hid (O_6.out.kp kk (by first | omega | (simp; omega)))
    have K_7 := K_6.trans kk
    have l_7 : w6.heap.size + 0 ≤ w7.heap.size := by have := kk.size; simpa using this
    clear kk hb 
    obtain ⟨r0, r1, r2, r3⟩ := R_7.out.four
    have rf0 := R_7.out.frozen 0
    have rf1 := R_7.out.frozen 1
    have rf2 := R_7.out.frozen 2
    have rf3 := R_7.out.frozen 3
    go_wp2_with fail
    exact bodyPost_ret (results_node Tryz.results130 rfl R_7.out.put4) rfl ⟨_, _, _, rfl, (O_7.out.kids.put4 (by omega)).mono (fun b hb _ => by omega), P_7.out.put4 (by omega), K_7.put4 (by omega)⟩

set_option maxRecDepth 100000 in
set_option maxHeartbeats 4000000 in
theorem built_substr (c : PC) (E : Pp.PS → Option (Pp.Node × Pp.PS)) (hE : IsN c 46 E) (k : Nat) (hk : k ≤ 1000000) (w : World) (s : Pp.PS) (n : Pp.Node) (s' : Pp.PS) (h : PAt c w s) (tk tp : Int) (hcur0 : Pp.cur c.T s = ⟨tk, [115, 117, 98, 115, 116, 114], tp⟩) (hh : Pp.builtin c.T E k s = some (n, s')) :
    Calls Tryz.prog 130 #[.pointer (some ⟨c.bp, 0, none⟩)] w (NPost c w n s') := by
  have HE := Lib.hid hE
  have P_0 := Lib.hid h
  have hb := h.blk.lt
  have hmf : ∀ (fn : Fn) (first cap : Array Value) (w : World), (Instr.makeFunc fn first cap).run Tryz.prog w = .ok (.func fn first cap) w := fun _ _ _ _ => rfl
  have hcur := fun W hW => cur_any c W s hW
  rw [hcur0] at hcur
  unfold Pp.builtin at hh
  simp only [hcur0] at hh
  have Hcur := Lib.hid hcur
  clear hcur hcur0 hE h
  rw [if_neg (fun hx => absurd hx.1 (by decide))] at hh
  cases hEm : Pp.list c.T E k [41] (Pp.expect c.T [40] (Pp.step c.T s)) with
  | none => rw [hEm] at hh; cases hh
  | some r =>
  obtain ⟨args, s2⟩ := r
  rw [hEm] at hh
  simp only [Option.some.injEq, Prod.mk.injEq] at hh
  obtain ⟨rfl, rfl⟩ := hh
  have HM := Lib.hid hEm
  clear hEm
  by_cases hn : args.length < 2
  · have hba : Pp.builtinArgs ⟨tk, [115, 117, 98, 115, 116, 114], tp⟩ args s2 = (args, Pp.wrong ⟨tk, [115, 117, 98, 115, 116, 114], tp⟩ true 9 s2) := by simp [Pp.builtinArgs, hn]
    simp only [hba]
    clear hba
    go_enter Tryz.func130, Tryz.ntmps130
    go_wp2_with fail
    refine (Hcur.out _ ((P_0.out.alloc _).alloc _)).mono ?_
    rintro e w1 ⟨rfl, hb⟩
    have kk := Kp.of_below (b := c.bp) hb
    have P_1 := Lib.hid (((P_0.out.alloc _).alloc _).below hb)
    have X_1 := Lib.hid ((((Blk.new w 54 #[.pointer (some ⟨c.bp, 0, none⟩)]).alloc _)).kp kk (by omega))
    have R_1 := Lib.hid (((Blk.new1 w _ 25 z4)).kp kk (by omega))
    have K_1 := (((Kp.refl c.bp w).alloc _).alloc _).trans kk
    have l_1 : w.heap.size + 2 ≤ w1.heap.size := by have := kk.size; simpa using this
    clear kk hb 
    have x0 : w1.cell? ⟨w.heap.size, 0, none⟩ = some (.pointer (some ⟨c.bp, 0, none⟩)) := by simpa using X_1.out.cell 0
    have xl := X_1.out.lt
    go_wp2_with fail
    refine (step_any c _ _ (P_1.out.alloc _)).mono ?_
    rintro e w2 ⟨rfl, pp, kp⟩
    have P_2 := Lib.hid pp
    have X_2 := Lib.hid ((X_1.out.alloc _).kp kp (by omega))
    have R_2 := Lib.hid ((R_1.out.alloc _).kp kp (by omega))
    have B_2 := Lib.hid (((Blk.new w1 60 #[.int .i64 tk, vs [115, 117, 98, 115, 116, 114], .int .i64 tp])).kp kp (by omega))
    have K_2 := (K_1.alloc _).trans kp
    have l_2 : w1.heap.size + 1 ≤ w2.heap.size := by have := kp.size; simpa using this
    clear kp pp 
    have x12 : w2.cell? ⟨w.heap.size, 0, none⟩ = some (.pointer (some ⟨c.bp, 0, none⟩)) := by simpa using X_2.out.cell 0
    have xl12 := X_2.out.lt
    obtain ⟨b20, b21, b22⟩ := B_2.out.tri
    go_wp2_with fail
    refine (expect_any c _ _ P_2.out [40]).mono ?_
    rintro e w3 ⟨rfl, pp, kp⟩
    have P_3 := Lib.hid pp
    have X_3 := Lib.hid (X_2.out.kp kp (by omega))
    have R_3 := Lib.hid (R_2.out.kp kp (by omega))
    have B_3 := Lib.hid (B_2.out.kp kp (by omega))
    have K_3 := K_2.trans kp
    have l_3 : w2.heap.size + 0 ≤ w3.heap.size := by have := kp.size; simpa using this
    clear kp pp 
    have x13 : w3.cell? ⟨w.heap.size, 0, none⟩ = some (.pointer (some ⟨c.bp, 0, none⟩)) := by simpa using X_3.out.cell 0
    have xl13 := X_3.out.lt
    go_wp2_with fail
    refine (list_any c E HE.out k hk [41] _ _ _ _ P_3.out HM.out).mono ?_
    rintro e w4 ⟨oa, oq, rfl, tt, pp, kp⟩
    have P_4 := Lib.hid pp
    have X_4 := Lib.hid (X_3.out.kp kp (by omega))
    have R_4 := Lib.hid (R_3.out.kp kp (by omega))
    have B_4 := Lib.hid (B_3.out.kp kp (by omega))
    have K_4 := K_3.trans kp
    have l_4 : w3.heap.size + 0 ≤ w4.heap.size := by have := kp.size; simpa using this
    clear kp pp 
    have O_4 := Lib.hid tt
    clear tt
    have x14 : w4.cell? ⟨w.heap.size, 0, none⟩ = some (.pointer (some ⟨c.bp, 0, none⟩)) := by simpa using X_4.out.cell 0
    have xl14 := X_4.out.lt
    obtain ⟨b40, b41, b42⟩ := B_4.out.tri
    go_wp2_with fail
    refine (wrong_any' c _ _ P_4.out _ _ ⟨tk, [115, 117, 98, 115, 116, 114], tp⟩ X_4.out B_4.out _ true (by first | rfl | (simp; done) | (simp; omega) | (simp [-List.length_eq_zero_iff]; omega)) 9).mono ?_
    rintro e w5 ⟨rfl, pp, kp⟩
    have P_5 := Lib.hid pp
    have X_5 := Lib.hid (X_4.out.kp kp (by omega))
    have R_5 := Lib.hid (R_4.out.kp kp (by omega))
    have B_5 := Lib.hid (B_4.out.kp kp (by omega))
    have O_5 := Lib.hid (O_4.out.kp kp (by first | omega | (simp; omega)))
    have K_5 := K_4.trans kp
    have l_5 : w4.heap.size + 0 ≤ w5.heap.size := by have := kp.size; simpa using this
    clear kp pp 
    have x15 : w5.cell? ⟨w.heap.size, 0, none⟩ = some (.pointer (some ⟨c.bp, 0, none⟩)) := by simpa using X_5.out.cell 0
    have xl15 := X_5.out.lt
    obtain ⟨b50, b51, b52⟩ := B_5.out.tri
    go_wp2_with fail
    refine (leaf_any _ _ ⟨tk, [115, 117, 98, 115, 116, 114], tp⟩ _ _ _).mono ?_
    rintro e w6 ⟨rfl, hb⟩
    have kk := Kp.of_below (b := c.bp) hb
    have P_6 := Lib.hid (P_5.out.below hb)
    have X_6 := Lib.hid (X_5.out.kp kk (by omega))
    have R_6 := Lib.hid (R_5.out.kp kk (by omega))
    have B_6 := Lib.hid (B_5.out.kp kk (by omega))
    have O_6 := Lib.hid (O_5.out.kp kk (by first | omega | (simp; omega)))
    have K_6 := K_5.trans kk
    have l_6 : w5.heap.size + 0 ≤ w6.heap.size := by have := kk.size; simpa using this
    clear kk hb 
    obtain ⟨r0, r1, r2, r3⟩ := R_6.out.four
    have rf0 := R_6.out.frozen 0
    have rf1 := R_6.out.frozen 1
    have rf2 := R_6.out.frozen 2
    have rf3 := R_6.out.frozen 3
    go_wp2_with fail
    exact bodyPost_ret (results_node Tryz.results130 rfl R_6.out.put4) rfl ⟨_, _, _, rfl, (O_6.out.kids.put4 (by omega)).mono (fun b hb _ => by omega), P_6.out.put4 (by omega), K_6.put4 (by omega)⟩
  · by_cases hm : 3 < args.length
    · have hba : Pp.builtinArgs ⟨tk, [115, 117, 98, 115, 116, 114], tp⟩ args s2 = (args, Pp.wrong ⟨tk, [115, 117, 98, 115, 116, 114], tp⟩ true 9 s2) := by simp [Pp.builtinArgs, hn, hm]
      simp only [hba]
      clear hba
      go_enter Tryz.func130, Tryz.ntmps130
      go_wp2_with fail
      refine (Hcur.out _ ((P_0.out.alloc _).alloc _)).mono ?_
      rintro e w1 ⟨rfl, hb⟩
      have kk := Kp.of_below (b := c.bp) hb
      have P_1 := Lib.hid (((P_0.out.alloc _).alloc _).below hb)
      have X_1 := Lib.hid ((((Blk.new w 54 #[.pointer (some ⟨c.bp, 0, none⟩)]).alloc _)).kp kk (by omega))
      have R_1 := Lib.hid (((Blk.new1 w _ 25 z4)).kp kk (by omega))
      have K_1 := (((Kp.refl c.bp w).alloc _).alloc _).trans kk
      have l_1 : w.heap.size + 2 ≤ w1.heap.size := by have := kk.size; simpa using this
      clear kk hb 
      have x0 : w1.cell? ⟨w.heap.size, 0, none⟩ = some (.pointer (some ⟨c.bp, 0, none⟩)) := by simpa using X_1.out.cell 0
      have xl := X_1.out.lt
      go_wp2_with fail
      refine (step_any c _ _ (P_1.out.alloc _)).mono ?_
      rintro e w2 ⟨rfl, pp, kp⟩
      have P_2 := Lib.hid pp
      have X_2 := Lib.hid ((X_1.out.alloc _).kp kp (by omega))
      have R_2 := Lib.hid ((R_1.out.alloc _).kp kp (by omega))
      have B_2 := Lib.hid (((Blk.new w1 60 #[.int .i64 tk, vs [115, 117, 98, 115, 116, 114], .int .i64 tp])).kp kp (by omega))
      have K_2 := (K_1.alloc _).trans kp
      have l_2 : w1.heap.size + 1 ≤ w2.heap.size := by have := kp.size; simpa using this
      clear kp pp 
      have x12 : w2.cell? ⟨w.heap.size, 0, none⟩ = some (.pointer (some ⟨c.bp, 0, none⟩)) := by simpa using X_2.out.cell 0
      have xl12 := X_2.out.lt
      obtain ⟨b20, b21, b22⟩ := B_2.out.tri
      go_wp2_with fail
      refine (expect_any c _ _ P_2.out [40]).mono ?_
      rintro e w3 ⟨rfl, pp, kp⟩
      have P_3 := Lib.hid pp
      have X_3 := Lib.hid (X_2.out.kp kp (by omega))
      have R_3 := Lib.hid (R_2.out.kp kp (by omega))
      have B_3 := Lib.hid (B_2.out.kp kp (by omega))
      have K_3 := K_2.trans kp
      have l_3 : w2.heap.size + 0 ≤ w3.heap.size := by have := kp.size; simpa using this
      clear kp pp 
      have x13 : w3.cell? ⟨w.heap.size, 0, none⟩ = some (.pointer (some ⟨c.bp, 0, none⟩)) := by simpa using X_3.out.cell 0
      have xl13 := X_3.out.lt
      go_wp2_with fail
      refine (list_any c E HE.out k hk [41] _ _ _ _ P_3.out HM.out).mono ?_
      rintro e w4 ⟨oa, oq, rfl, tt, pp, kp⟩
      have P_4 := Lib.hid pp
      have X_4 := Lib.hid (X_3.out.kp kp (by omega))
      have R_4 := Lib.hid (R_3.out.kp kp (by omega))
      have B_4 := Lib.hid (B_3.out.kp kp (by omega))
      have K_4 := K_3.trans kp
      have l_4 : w3.heap.size + 0 ≤ w4.heap.size := by have := kp.size; simpa using this
      clear kp pp 
      have O_4 := Lib.hid tt
      clear tt
      have x14 : w4.cell? ⟨w.heap.size, 0, none⟩ = some (.pointer (some ⟨c.bp, 0, none⟩)) := by simpa using X_4.out.cell 0
      have xl14 := X_4.out.lt
      obtain ⟨b40, b41, b42⟩ := B_4.out.tri
      go_wp2_with fail
      refine (wrong_any' c _ _ P_4.out _ _ ⟨tk, [115, 117, 98, 115, 116, 114], tp⟩ X_4.out B_4.out _ true (by first | rfl | (simp; done) | (simp; omega) | (simp [-List.length_eq_zero_iff]; omega)) 9).mono ?_
      rintro e w5 ⟨rfl, pp, kp⟩
      have P_5 := Lib.hid pp
      have X_5 := Lib.hid (X_4.out.kp kp (by omega))
      have R_5 := Lib.hid (R_4.out.kp kp (by omega))
      have B_5 := Lib.hid (B_4.out.kp kp (by omega))
      have O_5 := Lib.hid (O_4.out.kp kp (by first | omega | (simp; omega)))
      have K_5 := K_4.trans kp
      have l_5 : w4.heap.size + 0 ≤ w5.heap.size := by have := kp.size; simpa using this
      clear kp pp 
      have x15 : w5.cell? ⟨w.heap.size, 0, none⟩ = some (.pointer (some ⟨c.bp, 0, none⟩)) := by simpa using X_5.out.cell 0
      have xl15 := X_5.out.lt
      obtain ⟨b50, b51, b52⟩ := B_5.out.tri
      go_wp2_with fail
      refine (leaf_any _ _ ⟨tk, [115, 117, 98, 115, 116, 114], tp⟩ _ _ _).mono ?_
      rintro e w6 ⟨rfl, hb⟩
      have kk := Kp.of_below (b := c.bp) hb
      have P_6 := Lib.hid (P_5.out.below hb)
      have X_6 := Lib.hid (X_5.out.kp kk (by omega))
      have R_6 := Lib.hid (R_5.out.kp kk (by omega))
      have B_6 := Lib.hid (B_5.out.kp kk (by omega))
      have O_6 := Lib.hid (O_5.out.kp kk (by first | omega | (simp; omega)))
      have K_6 := K_5.trans kk
      have l_6 : w5.heap.size + 0 ≤ w6.heap.size := by have := kk.size; simpa using this
      clear kk hb 
      obtain ⟨r0, r1, r2, r3⟩ := R_6.out.four
      have rf0 := R_6.out.frozen 0
      have rf1 := R_6.out.frozen 1
      have rf2 := R_6.out.frozen 2
      have rf3 := R_6.out.frozen 3
      go_wp2_with fail
      exact bodyPost_ret (results_node Tryz.results130 rfl R_6.out.put4) rfl ⟨_, _, _, rfl, (O_6.out.kids.put4 (by omega)).mono (fun b hb _ => by omega), P_6.out.put4 (by omega), K_6.put4 (by omega)⟩
    · have hba : Pp.builtinArgs ⟨tk, [115, 117, 98, 115, 116, 114], tp⟩ args s2 = (args, Pp.wrong ⟨tk, [115, 117, 98, 115, 116, 114], tp⟩ false 9 s2) := by simp [Pp.builtinArgs, hn, hm]
      simp only [hba]
      clear hba
      go_enter Tryz.func130, Tryz.ntmps130
      go_wp2_with fail
      refine (Hcur.out _ ((P_0.out.alloc _).alloc _)).mono ?_
      rintro e w1 ⟨rfl, hb⟩
      have kk := Kp.of_below (b := c.bp) hb
      have P_1 := Lib.hid (((P_0.out.alloc _).alloc _).below hb)
      have X_1 := Lib.hid ((((Blk.new w 54 #[.pointer (some ⟨c.bp, 0, none⟩)]).alloc _)).kp kk (by omega))
      have R_1 := Lib.hid (((Blk.new1 w _ 25 z4)).kp kk (by omega))
      have K_1 := (((Kp.refl c.bp w).alloc _).alloc _).trans kk
      have l_1 : w.heap.size + 2 ≤ w1.heap.size := by have := kk.size; simpa using this
      clear kk hb 
      have x0 : w1.cell? ⟨w.heap.size, 0, none⟩ = some (.pointer (some ⟨c.bp, 0, none⟩)) := by simpa using X_1.out.cell 0
      have xl := X_1.out.lt
      go_wp2_with fail
      refine (step_any c _ _ (P_1.out.alloc _)).mono ?_
      rintro e w2 ⟨rfl, pp, kp⟩
      have P_2 := Lib.hid pp
      have X_2 := Lib.hid ((X_1.out.alloc _).kp kp (by omega))
      have R_2 := Lib.hid ((R_1.out.alloc _).kp kp (by omega))
      have B_2 := Lib.hid (((Blk.new w1 60 #[.int .i64 tk, vs [115, 117, 98, 115, 116, 114], .int .i64 tp])).kp kp (by omega))
      have K_2 := (K_1.alloc _).trans kp
      have l_2 : w1.heap.size + 1 ≤ w2.heap.size := by have := kp.size; simpa using this
      clear kp pp 
      have x12 : w2.cell? ⟨w.heap.size, 0, none⟩ = some (.pointer (some ⟨c.bp, 0, none⟩)) := by simpa using X_2.out.cell 0
      have xl12 := X_2.out.lt
      obtain ⟨b20, b21, b22⟩ := B_2.out.tri
      go_wp2_with fail
      refine (expect_any c _ _ P_2.out [40]).mono ?_
      rintro e w3 ⟨rfl, pp, kp⟩
      have P_3 := Lib.hid pp
      have X_3 := Lib.hid (X_2.out.kp kp (by omega))
      have R_3 := Lib.hid (R_2.out.kp kp (by omega))
      have B_3 := Lib.hid (B_2.out.kp kp (by omega))
      have K_3 := K_2.trans kp
      have l_3 : w2.heap.size + 0 ≤ w3.heap.size := by have := kp.size; simpa using this
      clear kp pp 
      have x13 : w3.cell? ⟨w.heap.size, 0, none⟩ = some (.pointer (some ⟨c.bp, 0, none⟩)) := by simpa using X_3.out.cell 0
      have xl13 := X_3.out.lt
      go_wp2_with fail
      refine (list_any c E HE.out k hk [41] _ _ _ _ P_3.out HM.out).mono ?_
      rintro e w4 ⟨oa, oq, rfl, tt, pp, kp⟩
      have P_4 := Lib.hid pp
      have X_4 := Lib.hid (X_3.out.kp kp (by omega))
      have R_4 := Lib.hid (R_3.out.kp kp (by omega))
      have B_4 := Lib.hid (B_3.out.kp kp (by omega))
      have K_4 := K_3.trans kp
      have l_4 : w3.heap.size + 0 ≤ w4.heap.size := by have := kp.size; simpa using this
      clear kp pp 
      have O_4 := Lib.hid tt
      clear tt
      have x14 : w4.cell? ⟨w.heap.size, 0, none⟩ = some (.pointer (some ⟨c.bp, 0, none⟩)) := by simpa using X_4.out.cell 0
      have xl14 := X_4.out.lt
      obtain ⟨b40, b41, b42⟩ := B_4.out.tri
      go_wp2_with fail
      refine (wrong_any' c _ _ P_4.out _ _ ⟨tk, [115, 117, 98, 115, 116, 114], tp⟩ X_4.out B_4.out _ false (by first | rfl | (simp; done) | (simp; omega) | (simp [-List.length_eq_zero_iff]; omega)) 9).mono ?_
      rintro e w5 ⟨rfl, pp, kp⟩
      have P_5 := Lib.hid pp
      have X_5 := Lib.hid (X_4.out.kp kp (by omega))
      have R_5 := Lib.hid (R_4.out.kp kp (by omega))
      have B_5 := Lib.hid (B_4.out.kp kp (by omega))
      have O_5 := Lib.hid (O_4.out.kp kp (by first | omega | (simp; omega)))
      have K_5 := K_4.trans kp
      have l_5 : w4.heap.size + 0 ≤ w5.heap.size := by have := kp.size; simpa using this
      clear kp pp 
      have x15 : w5.cell? ⟨w.heap.size, 0, none⟩ = some (.pointer (some ⟨c.bp, 0, none⟩)) := by simpa using X_5.out.cell 0
      have xl15 := X_5.out.lt
      obtain ⟨b50, b51, b52⟩ := B_5.out.tri
      go_wp2_with fail
      refine (leaf_any _ _ ⟨tk, [115, 117, 98, 115, 116, 114], tp⟩ _ _ _).mono ?_
      rintro e w6 ⟨rfl, hb⟩
      have kk := Kp.of_below (b := c.bp) hb
      have P_6 := Lib.hid (P_5.out.below hb)
      have X_6 := Lib.hid (X_5.out.kp kk (by omega))
      have R_6 := Lib.hid (R_5.out.kp kk (by omega))
      have B_6 := Lib.hid (B_5.out.kp kk (by omega))
      have O_6 := Lib.hid (O_5.out.kp kk (by first | omega | (simp; omega)))
      have K_6 := K_5.trans kk
      have l_6 : w5.heap.size + 0 ≤ w6.heap.size := by have := kk.size; simpa using this
      clear kk hb 
      obtain ⟨r0, r1, r2, r3⟩ := R_6.out.four
      have rf0 := R_6.out.frozen 0
      have rf1 := R_6.out.frozen 1
      have rf2 := R_6.out.frozen 2
      have rf3 := R_6.out.frozen 3
      go_wp2_with fail
      exact bodyPost_ret (results_node Tryz.results130 rfl R_6.out.put4) rfl ⟨_, _, _, rfl, (O_6.out.kids.put4 (by omega)).mono (fun b hb _ => by omega), P_6.out.put4 (by omega), K_6.put4 (by omega)⟩

set_option maxRecDepth 100000 in
set_option maxHeartbeats 4000000 in
theorem built_index (c : PC) (E : Pp.PS → Option (Pp.Node × Pp.PS)) (hE : IsN c 46 E) (k : Nat) (hk : k ≤ 1000000) (w : World) (s : Pp.PS) (n : Pp.Node) (s' : Pp.PS) (h : PAt c w s) (tk tp : Int) (hcur0 : Pp.cur c.T s = ⟨tk, [105, 110, 100, 101, 120], tp⟩) (hh : Pp.builtin c.T E k s = some (n, s')) :
    Calls Tryz.prog 130 #[.pointer (some ⟨c.bp, 0, none⟩)] w (NPost c w n s') := by
  have HE := Lib.hid hE
  have P_0 := Lib.hid h
  have hb := h.blk.lt
  have hmf : ∀ (fn : Fn) (first cap : Array Value) (w : World), (Instr.makeFunc fn first cap).run Tryz.prog w = .ok (.func fn first cap) w := fun _ _ _ _ => rfl
  have hcur := fun W hW => cur_any c W s hW
  rw [hcur0] at hcur
  unfold Pp.builtin at hh
  simp only [hcur0] at hh
  have Hcur := Lib.hid hcur
  clear hcur hcur0 hE h
  rw [if_neg (fun hx => absurd hx.1 (by decide))] at hh
  cases hEm : Pp.list c.T E k [41] (Pp.expect c.T [40] (Pp.step c.T s)) with
  | none => rw [hEm] at hh; cases hh
  | some r =>
  obtain ⟨args, s2⟩ := r
  rw [hEm] at hh
  simp only [Option.some.injEq, Prod.mk.injEq] at hh
  obtain ⟨rfl, rfl⟩ := hh
  have HM := Lib.hid hEm
  clear hEm
  by_cases hn : args.length ≠ 2
  · have hba : Pp.builtinArgs ⟨tk, [105, 110, 100, 101, 120], tp⟩ args s2 = (args, Pp.wrong ⟨tk, [105, 110, 100, 101, 120], tp⟩ true 9 s2) := by simp [Pp.builtinArgs, hn]
    simp only [hba]
    clear hba
    go_enter Tryz.func130, Tryz.ntmps130
    go_wp2_with fail
    refine (Hcur.out _ ((P_0.out.alloc _).alloc _)).mono ?_
    rintro e w1 ⟨rfl, hb⟩
    have kk := Kp.of_below (b := c.bp) hb
    have P_1 := Lib.hid (((P_0.out.alloc _).alloc _).below hb)
    have X_1 := Lib.hid ((((Blk.new w 54 #[.pointer (some ⟨c.bp, 0, none⟩)]).alloc _)).kp kk (by omega))
    have R_1 := Lib.hid (((Blk.new1 w _ 25 z4)).kp kk (by omega))
    have K_1 := (((Kp.refl c.bp w).alloc _).alloc _).trans kk
    have l_1 : w.heap.size + 2 ≤ w1.heap.size := by have := kk.size; simpa using this
    clear kk hb 
    have x0 : w1.cell? ⟨w.heap.size, 0, none⟩ = some (.pointer (some ⟨c.bp, 0, none⟩)) := by simpa using X_1.out.cell 0
    have xl := X_1.out.lt
    go_wp2_with fail
    refine (step_any c _ _ (P_1.out.alloc _)).mono ?_
    rintro e w2 ⟨rfl, pp, kp⟩
    have P_2 := Lib.hid pp
    have X_2 := Lib.hid ((X_1.out.alloc _).kp kp (by omega))
    have R_2 := Lib.hid ((R_1.out.alloc _).kp kp (by omega))
    have B_2 := Lib.hid (((Blk.new w1 60 #[.int .i64 tk, vs [105, 110, 100, 101, 120], .int .i64 tp])).kp kp (by omega))
    have K_2 := (K_1.alloc _).trans kp
    have l_2 : w1.heap.size + 1 ≤ w2.heap.size := by have := kp.size; simpa using this
    clear kp pp 
    have x12 : w2.cell? ⟨w.heap.size, 0, none⟩ = some (.pointer (some ⟨c.bp, 0, none⟩)) := by simpa using X_2.out.cell 0
    have xl12 := X_2.out.lt
    obtain ⟨b20, b21, b22⟩ := B_2.out.tri
    go_wp2_with fail
    refine (expect_any c _ _ P_2.out [40]).mono ?_
    rintro e w3 ⟨rfl, pp, kp⟩
    have P_3 := Lib.hid pp
    have X_3 := Lib.hid (X_2.out.kp kp (by omega))
    have R_3 := Lib.hid (R_2.out.kp kp (by omega))
    have B_3 := Lib.hid (B_2.out.kp kp (by omega))
    have K_3 := K_2.trans kp
    have l_3 : w2.heap.size + 0 ≤ w3.heap.size := by have := kp.size; simpa using this
    clear kp pp 
    have x13 : w3.cell? ⟨w.heap.size, 0, none⟩ = some (.pointer (some ⟨c.bp, 0, none⟩)) := by simpa using X_3.out.cell 0
    have xl13 := X_3.out.lt
    go_wp2_with fail
    refine (list_any c E HE.out k hk [41] _ _ _ _ P_3.out HM.out).mono ?_
    rintro e w4 ⟨oa, oq, rfl, tt, pp, kp⟩
    have P_4 := Lib.hid pp
    have X_4 := Lib.hid (X_3.out.kp kp (by omega))
    have R_4 := Lib.hid (R_3.out.kp kp (by omega))
    have B_4 := Lib.hid (B_3.out.kp kp (by omega))
    have K_4 := K_3.trans kp
    have l_4 : w3.heap.size + 0 ≤ w4.heap.size := by have := kp.size; simpa using this
    clear kp pp 
    have O_4 := Lib.hid tt
    clear tt
    have x14 : w4.cell? ⟨w.heap.size, 0, none⟩ = some (.pointer (some ⟨c.bp, 0, none⟩)) := by simpa using X_4.out.cell 0
    have xl14 := X_4.out.lt
    obtain ⟨b40, b41, b42⟩ := B_4.out.tri
    go_wp2_with fail
    refine (wrong_any' c _ _ P_4.out _ _ ⟨tk, [105, 110, 100, 101, 120], tp⟩ X_4.out B_4.out _ true (by first | rfl | (simp; done) | (simp; omega) | (simp [-List.length_eq_zero_iff]; omega)) 9).mono ?_
    rintro e w5 ⟨rfl, pp, kp⟩
    have P_5 := Lib.hid pp
    have X_5 := Lib.hid (X_4.out.kp kp (by omega))
    have R_5 := Lib.hid (R_4.out.kp kp (by omega))
    have B_5 := Lib.hid (B_4.out.kp kp (by omega))
    have O_5 := Lib.hid (O_4.out.kp kp (by first | omega | (simp; omega)))
    have K_5 := K_4.trans kp
    have l_5 : w4.heap.size + 0 ≤ w5.heap.size := by have := kp.size; simpa using this
    clear kp pp 
    have x15 : w5.cell? ⟨w.heap.size, 0, none⟩ = some (.pointer (some ⟨c.bp, 0, none⟩)) := by simpa using X_5.out.cell 0
    have xl15 := X_5.out.lt
    obtain ⟨b50, b51, b52⟩ := B_5.out.tri
    go_wp2_with fail
    refine (leaf_any _ _ ⟨tk, [105, 110, 100, 101, 120], tp⟩ _ _ _).mono ?_
    rintro e w6 ⟨rfl, hb⟩
    have kk := Kp.of_below (b := c.bp) hb
    have P_6 := Lib.hid (P_5.out.below hb)
    have X_6 := Lib.hid (X_5.out.kp kk (by omega))
    have R_6 := Lib.hid (R_5.out.kp kk (by omega))
    have B_6 := Lib.hid (B_5.out.kp kk (by omega))
    have O_6 := Lib.hid (O_5.out.kp kk (by first | omega | (simp; omega)))
    have K_6 := K_5.trans kk
    have l_6 : w5.heap.size + 0 ≤ w6.heap.size := by have := kk.size; simpa using this
    clear kk hb 
    obtain ⟨r0, r1, r2, r3⟩ := R_6.out.four
    have rf0 := R_6.out.frozen 0
    have rf1 := R_6.out.frozen 1
    have rf2 := R_6.out.frozen 2
    have rf3 := R_6.out.frozen 3
    go_wp2_with fail
    exact bodyPost_ret (results_node Tryz.results130 rfl R_6.out.put4) rfl ⟨_, _, _, rfl, (O_6.out.kids.put4 (by omega)).mono (fun b hb _ => by omega), P_6.out.put4 (by omega), K_6.put4 (by omega)⟩
  · have hba : Pp.builtinArgs ⟨tk, [105, 110, 100, 101, 120], tp⟩ args s2 = (args, Pp.wrong ⟨tk, [105, 110, 100, 101, 120], tp⟩ false 9 s2) := by simp [Pp.builtinArgs, hn]
    simp only [hba]
    clear hba
    go_enter Tryz.func130, Tryz.ntmps130
    go_wp2_with fail
    refine (Hcur.out _ ((P_0.out.alloc _).alloc _)).mono ?_
    rintro e w1 ⟨rfl, hb⟩
    have kk := Kp.of_below (b := c.bp) hb
    have P_1 := Lib.hid (((P_0.out.alloc _).alloc _).below hb)
    have X_1 := Lib.hid ((((Blk.new w 54 #[.pointer (some ⟨c.bp, 0, none⟩)]).alloc _)).kp kk (by omega))
    have R_1 := Lib.hid (((Blk.new1 w _ 25 z4)).kp kk (by omega))
    have K_1 := (((Kp.refl c.bp w).alloc _).alloc _).trans kk
    have l_1 : w.heap.size + 2 ≤ w1.heap.size := by have := kk.size; simpa using this
    clear kk hb 
    have x0 : w1.cell? ⟨w.heap.size, 0, none⟩ = some (.pointer (some ⟨c.bp, 0, none⟩)) := by simpa using X_1.out.cell 0
    have xl := X_1.out.lt
    go_wp2_with fail
    refine (step_any c _ _ (P_1.out.alloc _)).mono ?_
    rintro e w2 ⟨rfl, pp, kp⟩
    have P_2 := Lib.hid pp
    have X_2 := Lib.hid ((X_1.out.alloc _).kp kp (by omega))
    have R_2 := Lib.hid ((R_1.out.alloc _).kp kp (by omega))
    have B_2 := Lib.hid (((Blk.new w1 60 #[.int .i64 tk, vs [105, 110, 100, 101, 120], .int .i64 tp])).kp kp (by omega))
    have K_2 := (K_1.alloc _).trans kp
    have l_2 : w1.heap.size + 1 ≤ w2.heap.size := by have := kp.size; simpa using this
    clear kp pp 
    have x12 : w2.cell? ⟨w.heap.size, 0, none⟩ = some (.pointer (some ⟨c.bp, 0, none⟩)) := by simpa using X_2.out.cell 0
    have xl12 := X_2.out.lt
    obtain ⟨b20, b21, b22⟩ := B_2.out.tri
    go_wp2_with fail
    refine (expect_any c _ _ P_2.out [40]).mono ?_
    rintro e w3 ⟨rfl, pp, kp⟩
    have P_3 := Lib.hid pp
    have X_3 := Lib.hid (X_2.out.kp kp (by omega))
    have R_3 := Lib.hid (R_2.out.kp kp (by omega))
    have B_3 := Lib.hid (B_2.out.kp kp (by omega))
    have K_3 := K_2.trans kp
    have l_3 : w2.heap.size + 0 ≤ w3.heap.size := by have := kp.size; simpa using this
    clear kp pp 
    have x13 : w3.cell? ⟨w.heap.size, 0, none⟩ = some (.pointer (some ⟨c.bp, 0, none⟩)) := by simpa using X_3.out.cell 0
    have xl13 := X_3.out.lt
    go_wp2_with fail
    refine (list_any c E HE.out k hk [41] _ _ _ _ P_3.out HM.out).mono ?_
    rintro e w4 ⟨oa, oq, rfl, tt, pp, kp⟩
    have P_4 := Lib.hid pp
    have X_4 := Lib.hid (X_3.out.kp kp (by omega))
    have R_4 := Lib.hid (R_3.out.kp kp (by omega))
    have B_4 := Lib.hid (B_3.out.kp kp (by omega))
    have K_4 := K_3.trans kp
    have l_4 : w3.heap.size + 0 ≤ w4.heap.size := by have := kp.size; simpa using this
    clear kp pp 
    have O_4 := Lib.hid tt
    clear tt
    have x14 : w4.cell? ⟨w.heap.size, 0, none⟩ = some (.pointer (some ⟨c.bp, 0, none⟩)) := by simpa using X_4.out.cell 0
    have xl14 := X_4.out.lt
    obtain ⟨b40, b41, b42⟩ := B_4.out.tri
    go_wp2_with fail
    refine (wrong_any' c _ _ P_4.out _ _ ⟨tk, [105, 110, 100, 101, 120], tp⟩ X_4.out B_4.out _ false (by first | rfl | (simp; done) | (simp; omega) | (simp [-List.length_eq_zero_iff]; omega)) 9).mono ?_
    rintro e w5 ⟨rfl, pp, kp⟩
    have P_5 := Lib.hid pp
    have X_5 := Lib.hid (X_4.out.kp kp (by omega))
    have R_5 := Lib.hid (R_4.out.kp kp (by omega))
    have B_5 := Lib.hid (B_4.out.kp kp (by omega))
    have O_5 := Lib.hid (O_4.out.kp kp (by first | omega | (simp; omega)))
    have K_5 := K_4.trans kp
    have l_5 : w4.heap.size + 0 ≤ w5.heap.size := by have := kp.size; simpa using this
    clear kp pp 
    have x15 : w5.cell? ⟨w.heap.size, 0, none⟩ = some (.pointer (some ⟨c.bp, 0, none⟩)) := by simpa using X_5.out.cell 0
    have xl15 := X_5.out.lt
    obtain ⟨b50, b51, b52⟩ := B_5.out.tri
    go_wp2_with fail
    refine (leaf_any _ _ ⟨tk, [105, 110, 100, 101, 120], tp⟩ _ _ _).mono ?_
    rintro e w6 ⟨rfl, hb⟩
    have kk := Kp.of_below (b := c.bp) hb
    have P_6 := Lib.hid (P_5.out.below hb)
    have X_6 := Lib.hid (X_5.out.kp kk (by omega))
    have R_6 := Lib.hid (R_5.out.kp kk (by omega))
    have B_6 := Lib.hid (B_5.out.kp kk (by omega))
    have O_6 := Lib.hid (O_5.out.kp kk (by first | omega | (simp; omega)))
    have K_6 := K_5.trans kk
    have l_6 : w5.heap.size + 0 ≤ w6.heap.size := by have := kk.size; simpa using this
    clear kk hb 
    obtain ⟨r0, r1, r2, r3⟩ := R_6.out.four
    have rf0 := R_6.out.frozen 0
    have rf1 := R_6.out.frozen 1
    have rf2 := R_6.out.frozen 2
    have rf3 := R_6.out.frozen 3
    go_wp2_with fail
    exact bodyPost_ret (results_node Tryz.results130 rfl R_6.out.put4) rfl ⟨_, _, _, rfl, (O_6.out.kids.put4 (by omega)).mono (fun b hb _ => by omega), P_6.out.put4 (by omega), K_6.put4 (by omega)⟩

set_option maxRecDepth 100000 in
set_option maxHeartbeats 4000000 in
theorem built_match (c : PC) (E : Pp.PS → Option (Pp.Node × Pp.PS)) (hE : IsN c 46 E) (k : Nat) (hk : k ≤ 1000000) (w : World) (s : Pp.PS) (n : Pp.Node) (s' : Pp.PS) (h : PAt c w s) (tk tp : Int) (hcur0 : Pp.cur c.T s = ⟨tk, [109, 97, 116, 99, 104], tp⟩) (hh : Pp.builtin c.T E k s = some (n, s')) :
    Calls Tryz.prog 130 #[.pointer (some ⟨c.bp, 0, none⟩)] w (NPost c w n s') := by
  have HE := Lib.hid hE
  have P_0 := Lib.hid h
  have hb := h.blk.lt
  have hmf : ∀ (fn : Fn) (first cap : Array Value) (w : World), (Instr.makeFunc fn first cap).run Tryz.prog w = .ok (.func fn first cap) w := fun _ _ _ _ => rfl
  have hcur := fun W hW => cur_any c W s hW
  rw [hcur0] at hcur
  unfold Pp.builtin at hh
  simp only [hcur0] at hh
  have Hcur := Lib.hid hcur
  clear hcur hcur0 hE h
  rw [if_neg (fun hx => absurd hx.1 (by decide))] at hh
  cases hEm : Pp.list c.T E k [41] (Pp.expect c.T [40] (Pp.step c.T s)) with
  | none => rw [hEm] at hh; cases hh
  | some r =>
  obtain ⟨args, s2⟩ := r
  rw [hEm] at hh
  simp only [Option.some.injEq, Prod.mk.injEq] at hh
  obtain ⟨rfl, rfl⟩ := hh
  have HM := Lib.hid hEm
  clear hEm
  by_cases hn : args.length ≠ 2
  · have hba : Pp.builtinArgs ⟨tk, [109, 97, 116, 99, 104], tp⟩ args s2 = (args, Pp.wrong ⟨tk, [109, 97, 116, 99, 104], tp⟩ true 9 s2) := by simp [Pp.builtinArgs, hn]
    simp only [hba]
    clear hba
    go_enter Tryz.func130, Tryz.ntmps130
    go_wp2_with fail
    refine (Hcur.out _ ((P_0.out.alloc _).alloc _)).mono ?_
    rintro e w1 ⟨rfl, hb⟩
    have kk := Kp.of_below (b := c.bp) hb
    have P_1 := Lib.hid (((P_0.out.alloc _).alloc _).below hb)
    have X_1 := Lib.hid ((((Blk.new w 54 #[.pointer (some ⟨c.bp, 0, none⟩)]).alloc _)).kp kk (by omega))
    have R_1 := Lib.hid (((Blk.new1 w _ 25 z4)).kp kk (by omega))
    have K_1 := (((Kp.refl c.bp w).alloc _).alloc _).trans kk
    have l_1 : w.heap.size + 2 ≤ w1.heap.size := by have := kk.size; simpa using this
    clear kk hb 
    have x0 : w1.cell? ⟨w.heap.size, 0, none⟩ = some (.pointer (some ⟨c.bp, 0, none⟩)) := by simpa using X_1.out.cell 0
    have xl := X_1.out.lt
    go_wp2_with fail
    refine (step_any c _ _ (P_1.out.alloc _)).mono ?_
    rintro e w2 ⟨rfl, pp, kp⟩
    have P_2 := Lib.hid pp
    have X_2 := Lib.hid ((X_1.out.alloc _).kp kp (by omega))
    have R_2 := Lib.hid ((R_1.out.alloc _).kp kp (by omega))
    have B_2 := Lib.hid (((Blk.new w1 60 #[.int .i64 tk, vs [109, 97, 116, 99, 104], .int .i64 tp])).kp kp (by omega))
    have K_2 := (K_1.alloc _).trans kp
    have l_2 : w1.heap.size + 1 ≤ w2.heap.size := by have := kp.size; simpa using this
    clear kp pp 
    have x12 : w2.cell? ⟨w.heap.size, 0, none⟩ = some (.pointer (some ⟨c.bp, 0, none⟩)) := by simpa using X_2.out.cell 0
    have xl12 := X_2.out.lt
    obtain ⟨b20, b21, b22⟩ := B_2.out.tri
    go_wp2_with fail
    refine (expect_any c _ _ P_2.out [40]).mono ?_
    rintro e w3 ⟨rfl, pp, kp⟩
    have P_3 := Lib.hid pp
    have X_3 := Lib.hid (X_2.out.kp kp (by omega))
    have R_3 := Lib.hid (R_2.out.kp kp (by omega))
    have B_3 := Lib.hid (B_2.out.kp kp (by omega))
    have K_3 := K_2.trans kp
    have l_3 : w2.heap.size + 0 ≤ w3.heap.size := by have := kp.size; simpa using this
    clear kp pp 
    have x13 : w3.cell? ⟨w.heap.size, 0, none⟩ = some (.pointer (some ⟨c.bp, 0, none⟩)) := by simpa using X_3.out.cell 0
    have xl13 := X_3.out.lt
    go_wp2_with fail
    refine (list_any c E HE.out k hk [41] _ _ _ _ P_3.out HM.out).mono ?_
    rintro e w4 ⟨oa, oq, rfl, tt, pp, kp⟩
    have P_4 := Lib.hid pp
    have X_4 := Lib.hid (X_3.out.kp kp (by omega))
    have R_4 := Lib.hid (R_3.out.kp kp (by omega))
    have B_4 := Lib.hid (B_3.out.kp kp (by omega))
    have K_4 := K_3.trans kp
    have l_4 : w3.heap.size + 0 ≤ w4.heap.size := by have := kp.size; simpa using this
    clear kp pp 
    have O_4 := Lib.hid tt
    clear tt
    have x14 : w4.cell? ⟨w.heap.size, 0, none⟩ = some (.pointer (some ⟨c.bp, 0, none⟩)) := by simpa using X_4.out.cell 0
    have xl14 := X_4.out.lt
    obtain ⟨b40, b41, b42⟩ := B_4.out.tri
    go_wp2_with fail
    refine (wrong_any' c _ _ P_4.out _ _ ⟨tk, [109, 97, 116, 99, 104], tp⟩ X_4.out B_4.out _ true (by first | rfl | (simp; done) | (simp; omega) | (simp [-List.length_eq_zero_iff]; omega)) 9).mono ?_
    rintro e w5 ⟨rfl, pp, kp⟩
    have P_5 := Lib.hid pp
    have X_5 := Lib.hid (X_4.out.kp kp (by omega))
    have R_5 := Lib.hid (R_4.out.kp kp (by omega))
    have B_5 := Lib.hid (B_4.out.kp kp (by omega))
    have O_5 := Lib.hid (O_4.out.kp kp (by first | omega | (simp; omega)))
    have K_5 := K_4.trans kp
    have l_5 : w4.heap.size + 0 ≤ w5.heap.size := by have := kp.size; simpa using this
    clear kp pp 
    have x15 : w5.cell? ⟨w.heap.size, 0, none⟩ = some (.pointer (some ⟨c.bp, 0, none⟩)) := by simpa using X_5.out.cell 0
    have xl15 := X_5.out.lt
    obtain ⟨b50, b51, b52⟩ := B_5.out.tri
    go_wp2_with fail
    refine (leaf_any _ _ ⟨tk, [109, 97, 116, 99, 104], tp⟩ _ _ _).mono ?_
    rintro e w6 ⟨rfl, hb⟩
    have kk := Kp.of_below (b := c.bp) hb
    have P_6 := Lib.hid (P_5.out.below hb)
    have X_6 := Lib.hid (X_5.out.kp kk (by omega))
    have R_6 := Lib.hid (R_5.out.kp kk (by omega))
    have B_6 := Lib.hid (B_5.out.kp kk (by omega))
    have O_6 := Lib.hid (O_5.out.kp kk (by first | omega | (simp; omega)))
    have K_6 := K_5.trans kk
    have l_6 : w5.heap.size + 0 ≤ w6.heap.size := by have := kk.size; simpa using this
    clear kk hb 
    obtain ⟨r0, r1, r2, r3⟩ := R_6.out.four
    have rf0 := R_6.out.frozen 0
    have rf1 := R_6.out.frozen 1
    have rf2 := R_6.out.frozen 2
    have rf3 := R_6.out.frozen 3
    go_wp2_with fail
    exact bodyPost_ret (results_node Tryz.results130 rfl R_6.out.put4) rfl ⟨_, _, _, rfl, (O_6.out.kids.put4 (by omega)).mono (fun b hb _ => by omega), P_6.out.put4 (by omega), K_6.put4 (by omega)⟩
  · have hba : Pp.builtinArgs ⟨tk, [109, 97, 116, 99, 104], tp⟩ args s2 = (args, Pp.wrong ⟨tk, [109, 97, 116, 99, 104], tp⟩ false 9 s2) := by simp [Pp.builtinArgs, hn]
    simp only [hba]
    clear hba
    go_enter Tryz.func130, Tryz.ntmps130
    go_wp2_with fail
    refine (Hcur.out _ ((P_0.out.alloc _).alloc _)).mono ?_
    rintro e w1 ⟨rfl, hb⟩
    have kk := Kp.of_below (b := c.bp) hb
    have P_1 := Lib.hid (((P_0.out.alloc _).alloc _).below hb)
    have X_1 := Lib.hid ((((Blk.new w 54 #[.pointer (some ⟨c.bp, 0, none⟩)]).alloc _)).kp kk (by omega))
    have R_1 := Lib.hid (((Blk.new1 w _ 25 z4)).kp kk (by omega))
    have K_1 := (((Kp.refl c.bp w).alloc _).alloc _).trans kk
    have l_1 : w.heap.size + 2 ≤ w1.heap.size := by have := kk.size; simpa using this
    clear kk hb 
    have x0 : w1.cell? ⟨w.heap.size, 0, none⟩ = some (.pointer (some ⟨c.bp, 0, none⟩)) := by simpa using X_1.out.cell 0
    have xl := X_1.out.lt
    go_wp2_with fail
    refine (step_any c _ _ (P_1.out.alloc _)).mono ?_
    rintro e w2 ⟨rfl, pp, kp⟩
    have P_2 := Lib.hid pp
    have X_2 := Lib.hid ((X_1.out.alloc _).kp kp (by omega))
    have R_2 := Lib.hid ((R_1.out.alloc _).kp kp (by omega))
    have B_2 := Lib.hid (((Blk.new w1 60 #[.int .i64 tk, vs [109, 97, 116, 99, 104], .int .i64 tp])).kp kp (by omega))
    have K_2 := (K_1.alloc _).trans kp
    have l_2 : w1.heap.size + 1 ≤ w2.heap.size := by have := kp.size; simpa using this
    clear kp pp 
    have x12 : w2.cell? ⟨w.heap.size, 0, none⟩ = some (.pointer (some ⟨c.bp, 0, none⟩)) := by simpa using X_2.out.cell 0
    have xl12 := X_2.out.lt
    obtain ⟨b20, b21, b22⟩ := B_2.out.tri
    go_wp2_with fail
    refine (expect_any c _ _ P_2.out [40]).mono ?_
    rintro e w3 ⟨rfl, pp, kp⟩
    have P_3 := Lib.hid pp
    have X_3 := Lib.hid (X_2.out.kp kp (by omega))
    have R_3 := Lib.hid (R_2.out.kp kp (by omega))
    have B_3 := Lib.hid (B_2.out.kp kp (by omega))
    have K_3 := K_2.trans kp
    have l_3 : w2.heap.size + 0 ≤ w3.heap.size := by have := kp.size; simpa using this
    clear kp pp 
    have x13 : w3.cell? ⟨w.heap.size, 0, none⟩ = some (.pointer (some ⟨c.bp, 0, none⟩)) := by simpa using X_3.out.cell 0
    have xl13 := X_3.out.lt
    go_wp2_with fail
    refine (list_any c E HE.out k hk [41] _ _ _ _ P_3.out HM.out).mono ?_
    rintro e w4 ⟨oa, oq, rfl, tt, pp, kp⟩
    have P_4 := Lib.hid pp
    have X_4 := Lib.hid (X_3.out.kp kp (by omega))
    have R_4 := Lib.hid (R_3.out.kp kp (by omega))
    have B_4 := Lib.hid (B_3.out.kp kp (by omega))
    have K_4 := K_3.trans kp
    have l_4 : w3.heap.size + 0 ≤ w4.heap.size := by have := kp.size; simpa using this
    clear kp pp 
    have O_4 := Lib.hid tt
    clear tt
    have x14 : w4.cell? ⟨w.heap.size, 0, none⟩ = some (.pointer (some ⟨c.bp, 0, none⟩)) := by simpa using X_4.out.cell 0
    have xl14 := X_4.out.lt
    obtain ⟨b40, b41, b42⟩ := B_4.out.tri
    go_wp2_with fail
    refine (wrong_any' c _ _ P_4.out _ _ ⟨tk, [109, 97, 116, 99, 104], tp⟩ X_4.out B_4.out _ false (by first | rfl | (simp; done) | (simp; omega) | (simp [-List.length_eq_zero_iff]; omega)) 9).mono ?_
    rintro e w5 ⟨rfl, pp, kp⟩
    have P_5 := Lib.hid pp
    have X_5 := Lib.hid (X_4.out.kp kp (by omega))
    have R_5 := Lib.hid (R_4.out.kp kp (by omega))
    have B_5 := Lib.hid (B_4.out.kp kp (by omega))
    have O_5 := Lib.hid (O_4.out.kp kp (by first | omega | (simp; omega)))
    have K_5 := K_4.trans kp
    have l_5 : w4.heap.size + 0 ≤ w5.heap.size := by have := kp.size; simpa using this
    clear kp pp 
    have x15 : w5.cell? ⟨w.heap.size, 0, none⟩ = some (.pointer (some ⟨c.bp, 0, none⟩)) := by simpa using X_5.out.cell 0
    have xl15 := X_5.out.lt
    obtain ⟨b50, b51, b52⟩ := B_5.out.tri
    go_wp2_with fail
    refine (leaf_any _ _ ⟨tk, [109, 97, 116, 99, 104], tp⟩ _ _ _).mono ?_
    rintro e w6 ⟨rfl, hb⟩
    have kk := Kp.of_below (b := c.bp) hb
    have P_6 := Lib.hid (P_5.out.below hb)
    have X_6 := Lib.hid (X_5.out.kp kk (by omega))
    have R_6 := Lib.hid (R_5.out.kp kk (by omega))
    have B_6 := Lib.hid (B_5.out.kp kk (by omega))
    have O_6 := Lib.hid (O_5.out.kp kk (by first | omega | (simp; omega)))
    have K_6 := K_5.trans kk
    have l_6 : w5.heap.size + 0 ≤ w6.heap.size := by have := kk.size; simpa using this
    clear kk hb 
    obtain ⟨r0, r1, r2, r3⟩ := R_6.out.four
    have rf0 := R_6.out.frozen 0
    have rf1 := R_6.out.frozen 1
    have rf2 := R_6.out.frozen 2
    have rf3 := R_6.out.frozen 3
    go_wp2_with fail
    exact bodyPost_ret (results_node Tryz.results130 rfl R_6.out.put4) rfl ⟨_, _, _, rfl, (O_6.out.kids.put4 (by omega)).mono (fun b hb _ => by omega), P_6.out.put4 (by omega), K_6.put4 (by omega)⟩

set_option maxRecDepth 100000 in
set_option maxHeartbeats 4000000 in
theorem built_sprintf (c : PC) (E : Pp.PS → Option (Pp.Node × Pp.PS)) (hE : IsN c 46 E) (k : Nat) (hk : k ≤ 1000000) (w : World) (s : Pp.PS) (n : Pp.Node) (s' : Pp.PS) (h : PAt c w s) (tk tp : Int) (hcur0 : Pp.cur c.T s = ⟨tk, [115, 112, 114, 105, 110, 116, 102], tp⟩) (hh : Pp.builtin c.T E k s = some (n, s')) :
    Calls Tryz.prog 130 #[.pointer (some ⟨c.bp, 0, none⟩)] w (NPost c w n s') := by
  have HE := Lib.hid hE
  have P_0 := Lib.hid h
  have hb := h.blk.lt
  have hmf : ∀ (fn : Fn) (first cap : Array Value) (w : World), (Instr.makeFunc fn first cap).run Tryz.prog w = .ok (.func fn first cap) w := fun _ _ _ _ => rfl
  have hcur := fun W hW => cur_any c W s hW
  rw [hcur0] at hcur
  unfold Pp.builtin at hh
  simp only [hcur0] at hh
  have Hcur := Lib.hid hcur
  clear hcur hcur0 hE h
  rw [if_neg (fun hx => absurd hx.1 (by decide))] at hh
  cases hEm : Pp.list c.T E k [41] (Pp.expect c.T [40] (Pp.step c.T s)) with
  | none => rw [hEm] at hh; cases hh
  | some r =>
  obtain ⟨args, s2⟩ := r
  rw [hEm] at hh
  simp only [Option.some.injEq, Prod.mk.injEq] at hh
  obtain ⟨rfl, rfl⟩ := hh
  have HM := Lib.hid hEm
  clear hEm
  by_cases hn : args.length < 1
  · have hba : Pp.builtinArgs ⟨tk, [115, 112, 114, 105, 110, 116, 102], tp⟩ args s2 = (args, Pp.wrong ⟨tk, [115, 112, 114, 105, 110, 116, 102], tp⟩ true 9 s2) := by simp [Pp.builtinArgs, hn]
    simp only [hba]
    clear hba
    go_enter Tryz.func130, Tryz.ntmps130
    go_wp2_with fail
    refine (Hcur.out _ ((P_0.out.alloc _).alloc _)).mono ?_
    rintro e w1 ⟨rfl, hb⟩
    have kk := Kp.of_below (b := c.bp) hb
    have P_1 := Lib.hid (((P_0.out.alloc _).alloc _).below hb)
    have X_1 := Lib.hid ((((Blk.new w 54 #[.pointer (some ⟨c.bp, 0, none⟩)]).alloc _)).kp kk (by omega))
    have R_1 := Lib.hid (((Blk.new1 w _ 25 z4)).kp kk (by omega))
    have K_1 := (((Kp.refl c.bp w).alloc _).alloc _).trans kk
    have l_1 : w.heap.size + 2 ≤ w1.heap.size := by have := kk.size; simpa using this
    clear kk hb 
    have x0 : w1.cell? ⟨w.heap.size, 0, none⟩ = some (.pointer (some ⟨c.bp, 0, none⟩)) := by simpa using X_1.out.cell 0
    have xl := X_1.out.lt
    go_wp2_with fail
    refine (step_any c _ _ (P_1.out.alloc _)).mono ?_
    rintro e w2 ⟨rfl, pp, kp⟩
    have P_2 := Lib.hid pp
    have X_2 := Lib.hid ((X_1.out.alloc _).kp kp (by omega))
    have R_2 := Lib.hid ((R_1.out.alloc _).kp kp (by omega))
    have B_2 := Lib.hid (((Blk.new w1 60 #[.int .i64 tk, vs [115, 112, 114, 105, 110, 116, 102], .int .i64 tp])).kp kp (by omega))
    have K_2 := (K_1.alloc _).trans kp
    have l_2 : w1.heap.size + 1 ≤ w2.heap.size := by have := kp.size; simpa using this
    clear kp pp 
    have x12 : w2.cell? ⟨w.heap.size, 0, none⟩ = some (.pointer (some ⟨c.bp, 0, none⟩)) := by simpa using X_2.out.cell 0
    have xl12 := X_2.out.lt
    obtain ⟨b20, b21, b22⟩ := B_2.out.tri
    go_wp2_with fail
    refine (expect_any c _ _ P_2.out [40]).mono ?_
    rintro e w3 ⟨rfl, pp, kp⟩
    have P_3 := Lib.hid pp
    have X_3 := Lib.hid (X_2.out.kp kp (by omega))
    have R_3 := Lib.hid (R_2.out.kp kp (by omega))
    have B_3 := Lib.hid (B_2.out.kp kp (by omega))
    have K_3 := K_2.trans kp
    have l_3 : w2.heap.size + 0 ≤ w3.heap.size := by have := kp.size; simpa using this
    clear kp pp 
    have x13 : w3.cell? ⟨w.heap.size, 0, none⟩ = some (.pointer (some ⟨c.bp, 0, none⟩)) := by simpa using X_3.out.cell 0
    have xl13 := X_3.out.lt
    go_wp2_with fail
    refine (list_any c E HE.out k hk [41] _ _ _ _ P_3.out HM.out).mono ?_
    rintro e w4 ⟨oa, oq, rfl, tt, pp, kp⟩
    have P_4 := Lib.hid pp
    have X_4 := Lib.hid (X_3.out.kp kp (by omega))
    have R_4 := Lib.hid (R_3.out.kp kp (by omega))
    have B_4 := Lib.hid (B_3.out.kp kp (by omega))
    have K_4 := K_3.trans kp
    have l_4 : w3.heap.size + 0 ≤ w4.heap.size := by have := kp.size; simpa using this
    clear kp pp 
    have O_4 := Lib.hid tt
    clear tt
    have x14 : w4.cell? ⟨w.heap.size, 0, none⟩ = some (.pointer (some ⟨c.bp, 0, none⟩)) := by simpa using X_4.out.cell 0
    have xl14 := X_4.out.lt
    obtain ⟨b40, b41, b42⟩ := B_4.out.tri
    go_wp2_with fail
    refine (wrong_any' c _ _ P_4.out _ _ ⟨tk, [115, 112, 114, 105, 110, 116, 102], tp⟩ X_4.out B_4.out _ true (by first | rfl | (simp; done) | (simp; omega) | (simp [-List.length_eq_zero_iff]; omega)) 9).mono ?_
    rintro e w5 ⟨rfl, pp, kp⟩
    have P_5 := Lib.hid pp
    have X_5 := Lib.hid (X_4.out.kp kp (by omega))
    have R_5 := Lib.hid (R_4.out.kp kp (by omega))
    have B_5 := Lib.hid (B_4.out.kp kp (by omega))
    have O_5 := Lib.hid (O_4.out.kp kp (by first | omega | (simp; omega)))
    have K_5 := K_4.trans kp
    have l_5 : w4.heap.size + 0 ≤ w5.heap.size := by have := kp.size; simpa using this
    clear kp pp 
    have x15 : w5.cell? ⟨w.heap.size, 0, none⟩ = some (.pointer (some ⟨c.bp, 0, none⟩)) := by simpa using X_5.out.cell 0
    have xl15 := X_5.out.lt
    obtain ⟨b50, b51, b52⟩ := B_5.out.tri
    go_wp2_with fail
    refine (leaf_any _ _ ⟨tk, [115, 112, 114, 105, 110, 116, 102], tp⟩ _ _ _).mono ?_
    rintro e w6 ⟨rfl, hb⟩
    have kk := Kp.of_below (b := c.bp) hb
    have P_6 := Lib.hid (P_5.out.below hb)
    have X_6 := Lib.hid (X_5.out.kp kk (by omega))
    have R_6 := Lib.hid (R_5.out.kp kk (by omega))
    have B_6 := Lib.hid (B_5.out.kp kk (by omega))
    have O_6 := Lib.hid (O_5.out.kp kk (by first | omega | (simp; omega)))
    have K_6 := K_5.trans kk
    have l_6 : w5.heap.size + 0 ≤ w6.heap.size := by have := kk.size; simpa using this
    clear kk hb 
    obtain ⟨r0, r1, r2, r3⟩ := R_6.out.four
    have rf0 := R_6.out.frozen 0
    have rf1 := R_6.out.frozen 1
    have rf2 := R_6.out.frozen 2
    have rf3 := R_6.out.frozen 3
    go_wp2_with fail
    exact bodyPost_ret (results_node Tryz.results130 rfl R_6.out.put4) rfl ⟨_, _, _, rfl, (O_6.out.kids.put4 (by omega)).mono (fun b hb _ => by omega), P_6.out.put4 (by omega), K_6.put4 (by omega)⟩
  · have hba : Pp.builtinArgs ⟨tk, [115, 112, 114, 105, 110, 116, 102], tp⟩ args s2 = (args, Pp.wrong ⟨tk, [115, 112, 114, 105, 110, 116, 102], tp⟩ false 9 s2) := by simp [Pp.builtinArgs, hn]
    simp only [hba]
    clear hba
    go_enter Tryz.func130, Tryz.ntmps130
    go_wp2_with fail
    refine (Hcur.out _ ((P_0.out.alloc _).alloc _)).mono ?_
    rintro e w1 ⟨rfl, hb⟩
    have kk := Kp.of_below (b := c.bp) hb
    have P_1 := Lib.hid (((P_0.out.alloc _).alloc _).below hb)
    have X_1 := Lib.hid ((((Blk.new w 54 #[.pointer (some ⟨c.bp, 0, none⟩)]).alloc _)).kp kk (by omega))
    have R_1 := Lib.hid (((Blk.new1 w _ 25 z4)).kp kk (by omega))
    have K_1 := (((Kp.refl c.bp w).alloc _).alloc _).trans kk
    have l_1 : w.heap.size + 2 ≤ w1.heap.size := by have := kk.size; simpa using this
    clear kk hb 
    have x0 : w1.cell? ⟨w.heap.size, 0, none⟩ = some (.pointer (some ⟨c.bp, 0, none⟩)) := by simpa using X_1.out.cell 0
    have xl := X_1.out.lt
    go_wp2_with fail
    refine (step_any c _ _ (P_1.out.alloc _)).mono ?_
    rintro e w2 ⟨rfl, pp, kp⟩
    have P_2 := Lib.hid pp
    have X_2 := Lib.hid ((X_1.out.alloc _).kp kp (by omega))
    have R_2 := Lib.hid ((R_1.out.alloc _).kp kp (by omega))
    have B_2 := Lib.hid (((Blk.new w1 60 #[.int .i64 tk, vs [115, 112, 114, 105, 110, 116, 102], .int .i64 tp])).kp kp (by omega))
    have K_2 := (K_1.alloc _).trans kp
    have l_2 : w1.heap.size + 1 ≤ w2.heap.size := by have := kp.size; simpa using this
    clear kp pp 
    have x12 : w2.cell? ⟨w.heap.size, 0, none⟩ = some (.pointer (some ⟨c.bp, 0, none⟩)) := by simpa using X_2.out.cell 0
    have xl12 := X_2.out.lt
    obtain ⟨b20, b21, b22⟩ := B_2.out.tri
    go_wp2_with fail
    refine (expect_any c _ _ P_2.out [40]).mono ?_
    rintro e w3 ⟨rfl, pp, kp⟩
    have P_3 := Lib.hid pp
    have X_3 := Lib.hid (X_2.out.kp kp (by omega))
    have R_3 := Lib.hid (R_2.out.kp kp (by omega))
    have B_3 := Lib.hid (B_2.out.kp kp (by omega))
    have K_3 := K_2.trans kp
    have l_3 : w2.heap.size + 0 ≤ w3.heap.size := by have := kp.size; simpa using this
    clear kp pp 
    have x13 : w3.cell? ⟨w.heap.size, 0, none⟩ = some (.pointer (some ⟨c.bp, 0, none⟩)) := by simpa using X_3.out.cell 0
    have xl13 := X_3.out.lt
    go_wp2_with fail
    refine (list_any c E HE.out k hk [41] _ _ _ _ P_3.out HM.out).mono ?_
    rintro e w4 ⟨oa, oq, rfl, tt, pp, kp⟩
    have P_4 := Lib.hid pp
    have X_4 := Lib.hid (X_3.out.kp kp (by omega))
    have R_4 := Lib.hid (R_3.out.kp kp (by omega))
    have B_4 := Lib.hid (B_3.out.kp kp (by omega))
    have K_4 := K_3.trans kp
    have l_4 : w3.heap.size + 0 ≤ w4.heap.size := by have := kp.size; simpa using this
    clear kp pp 
    have O_4 := Lib.hid tt
    clear tt
    have x14 : w4.cell? ⟨w.heap.size, 0, none⟩ = some (.pointer (some ⟨c.bp, 0, none⟩)) := by simpa using X_4.out.cell 0
    have xl14 := X_4.out.lt
    obtain ⟨b40, b41, b42⟩ := B_4.out.tri
    go_wp2_with fail
    refine (wrong_any' c _ _ P_4.out _ _ ⟨tk, [115, 112, 114, 105, 110, 116, 102], tp⟩ X_4.out B_4.out _ false (by first | rfl | (simp; done) | (simp; omega) | (simp [-List.length_eq_zero_iff]; omega)) 9).mono ?_
    rintro e w5 ⟨rfl, pp, kp⟩
    have P_5 := Lib.hid pp
    have X_5 := Lib.hid (X_4.out.kp kp (by omega))
    have R_5 := Lib.hid (R_4.out.kp kp (by omega))
    have B_5 := Lib.hid (B_4.out.kp kp (by omega))
    have O_5 := Lib.hid (O_4.out.kp kp (by first | omega | (simp; omega)))
    have K_5 := K_4.trans kp
    have l_5 : w4.heap.size + 0 ≤ w5.heap.size := by have := kp.size; simpa using this
    clear kp pp 
    have x15 : w5.cell? ⟨w.heap.size, 0, none⟩ = some (.pointer (some ⟨c.bp, 0, none⟩)) := by simpa using X_5.out.cell 0
    have xl15 := X_5.out.lt
    obtain ⟨b50, b51, b52⟩ := B_5.out.tri
    go_wp2_with fail
    refine (leaf_any _ _ ⟨tk, [115, 112, 114, 105, 110, 116, 102], tp⟩ _ _ _).mono ?_
    rintro e w6 ⟨rfl, hb⟩
    have kk := Kp.of_below (b := c.bp) hb
    have P_6 := Lib.hid (P_5.out.below hb)
    have X_6 := Lib.hid (X_5.out.kp kk (by omega))
    have R_6 := Lib.hid (R_5.out.kp kk (by omega))
    have B_6 := Lib.hid (B_5.out.kp kk (by omega))
    have O_6 := Lib.hid (O_5.out.kp kk (by first | omega | (simp; omega)))
    have K_6 := K_5.trans kk
    have l_6 : w5.heap.size + 0 ≤ w6.heap.size := by have := kk.size; simpa using this
    clear kk hb 
    obtain ⟨r0, r1, r2, r3⟩ := R_6.out.four
    have rf0 := R_6.out.frozen 0
    have rf1 := R_6.out.frozen 1
    have rf2 := R_6.out.frozen 2
    have rf3 := R_6.out.frozen 3
    go_wp2_with fail
    exact bodyPost_ret (results_node Tryz.results130 rfl R_6.out.put4) rfl ⟨_, _, _, rfl, (O_6.out.kids.put4 (by omega)).mono (fun b hb _ => by omega), P_6.out.put4 (by omega), K_6.put4 (by omega)⟩

set_option maxRecDepth 100000 in
set_option maxHeartbeats 4000000 in
theorem built_rand (c : PC) (E : Pp.PS → Option (Pp.Node × Pp.PS)) (hE : IsN c 46 E) (k : Nat) (hk : k ≤ 1000000) (w : World) (s : Pp.PS) (n : Pp.Node) (s' : Pp.PS) (h : PAt c w s) (tk tp : Int) (hcur0 : Pp.cur c.T s = ⟨tk, [114, 97, 110, 100], tp⟩) (hh : Pp.builtin c.T E k s = some (n, s')) :
    Calls Tryz.prog 130 #[.pointer (some ⟨c.bp, 0, none⟩)] w (NPost c w n s') := by
  have HE := Lib.hid hE
  have P_0 := Lib.hid h
  have hb := h.blk.lt
  have hmf : ∀ (fn : Fn) (first cap : Array Value) (w : World), (Instr.makeFunc fn first cap).run Tryz.prog w = .ok (.func fn first cap) w := fun _ _ _ _ => rfl
  have hcur := fun W hW => cur_any c W s hW
  rw [hcur0] at hcur
  unfold Pp.builtin at hh
  simp only [hcur0] at hh
  have Hcur := Lib.hid hcur
  clear hcur hcur0 hE h
  rw [if_neg (fun hx => absurd hx.1 (by decide))] at hh
  cases hEm : Pp.list c.T E k [41] (Pp.expect c.T [40] (Pp.step c.T s)) with
  | none => rw [hEm] at hh; cases hh
  | some r =>
  obtain ⟨args, s2⟩ := r
  rw [hEm] at hh
  simp only [Option.some.injEq, Prod.mk.injEq] at hh
  obtain ⟨rfl, rfl⟩ := hh
  have HM := Lib.hid hEm
  clear hEm
  by_cases hn : args.length < 1
  · have hba : Pp.builtinArgs ⟨tk, [114, 97, 110, 100], tp⟩ args s2 = (args, Pp.wrong ⟨tk, [114, 97, 110, 100], tp⟩ false 9 s2) := by
      have h0 : args.length = 0 := by omega
      simp [Pp.builtinArgs, h0]
    simp only [hba]
    clear hba
    go_enter Tryz.func130, Tryz.ntmps130
    go_wp2_with fail
    refine (Hcur.out _ ((P_0.out.alloc _).alloc _)).mono ?_
    rintro e w1 ⟨rfl, hb⟩
    have kk := Kp.of_below (b := c.bp) hb
    have P_1 := Lib.hid (((P_0.out.alloc _).alloc _).below hb)
    have X_1 := Lib.hid ((((Blk.new w 54 #[.pointer (some ⟨c.bp, 0, none⟩)]).alloc _)).kp kk (by omega))
    have R_1 := Lib.hid (((Blk.new1 w _ 25 z4)).kp kk (by omega))
    have K_1 := (((Kp.refl c.bp w).alloc _).alloc _).trans kk
    have l_1 : w.heap.size + 2 ≤ w1.heap.size := by have := kk.size; simpa using this
    clear kk hb 
    have x0 : w1.cell? ⟨w.heap.size, 0, none⟩ = some (.pointer (some ⟨c.bp, 0, none⟩)) := by simpa using X_1.out.cell 0
    have xl := X_1.out.lt
    go_wp2_with fail
    refine (step_any c _ _ (P_1.out.alloc _)).mono ?_
    rintro e w2 ⟨rfl, pp, kp⟩
    have P_2 := Lib.hid pp
    have X_2 := Lib.hid ((X_1.out.alloc _).kp kp (by omega))
    have R_2 := Lib.hid ((R_1.out.alloc _).kp kp (by omega))
    have B_2 := Lib.hid (((Blk.new w1 60 #[.int .i64 tk, vs [114, 97, 110, 100], .int .i64 tp])).kp kp (by omega))
    have K_2 := (K_1.alloc _).trans kp
    have l_2 : w1.heap.size + 1 ≤ w2.heap.size := by have := kp.size; simpa using this
    clear kp pp 
    have x12 : w2.cell? ⟨w.heap.size, 0, none⟩ = some (.pointer (some ⟨c.bp, 0, none⟩)) := by simpa using X_2.out.cell 0
    have xl12 := X_2.out.lt
    obtain ⟨b20, b21, b22⟩ := B_2.out.tri
    go_wp2_with fail
    refine (expect_any c _ _ P_2.out [40]).mono ?_
    rintro e w3 ⟨rfl, pp, kp⟩
    have P_3 := Lib.hid pp
    have X_3 := Lib.hid (X_2.out.kp kp (by omega))
    have R_3 := Lib.hid (R_2.out.kp kp (by omega))
    have B_3 := Lib.hid (B_2.out.kp kp (by omega))
    have K_3 := K_2.trans kp
    have l_3 : w2.heap.size + 0 ≤ w3.heap.size := by have := kp.size; simpa using this
    clear kp pp 
    have x13 : w3.cell? ⟨w.heap.size, 0, none⟩ = some (.pointer (some ⟨c.bp, 0, none⟩)) := by simpa using X_3.out.cell 0
    have xl13 := X_3.out.lt
    go_wp2_with fail
    refine (list_any c E HE.out k hk [41] _ _ _ _ P_3.out HM.out).mono ?_
    rintro e w4 ⟨oa, oq, rfl, tt, pp, kp⟩
    have P_4 := Lib.hid pp
    have X_4 := Lib.hid (X_3.out.kp kp (by omega))
    have R_4 := Lib.hid (R_3.out.kp kp (by omega))
    have B_4 := Lib.hid (B_3.out.kp kp (by omega))
    have K_4 := K_3.trans kp
    have l_4 : w3.heap.size + 0 ≤ w4.heap.size := by have := kp.size; simpa using this
    clear kp pp 
    have O_4 := Lib.hid tt
    clear tt
    have x14 : w4.cell? ⟨w.heap.size, 0, none⟩ = some (.pointer (some ⟨c.bp, 0, none⟩)) := by simpa using X_4.out.cell 0
    have xl14 := X_4.out.lt
    obtain ⟨b40, b41, b42⟩ := B_4.out.tri
    go_wp2_with fail
    refine (wrong_any' c _ _ P_4.out _ _ ⟨tk, [114, 97, 110, 100], tp⟩ X_4.out B_4.out _ false (by first | rfl | (simp; done) | (simp; omega) | (simp [-List.length_eq_zero_iff]; omega)) 9).mono ?_
    rintro e w5 ⟨rfl, pp, kp⟩
    have P_5 := Lib.hid pp
    have X_5 := Lib.hid (X_4.out.kp kp (by omega))
    have R_5 := Lib.hid (R_4.out.kp kp (by omega))
    have B_5 := Lib.hid (B_4.out.kp kp (by omega))
    have O_5 := Lib.hid (O_4.out.kp kp (by first | omega | (simp; omega)))
    have K_5 := K_4.trans kp
    have l_5 : w4.heap.size + 0 ≤ w5.heap.size := by have := kp.size; simpa using this
    clear kp pp 
    have x15 : w5.cell? ⟨w.heap.size, 0, none⟩ = some (.pointer (some ⟨c.bp, 0, none⟩)) := by simpa using X_5.out.cell 0
    have xl15 := X_5.out.lt
    obtain ⟨b50, b51, b52⟩ := B_5.out.tri
    go_wp2_with fail
    refine (leaf_any _ _ ⟨tk, [114, 97, 110, 100], tp⟩ _ _ _).mono ?_
    rintro e w6 ⟨rfl, hb⟩
    have kk := Kp.of_below (b := c.bp) hb
    have P_6 := Lib.hid (P_5.out.below hb)
    have X_6 := Lib.hid (X_5.out.kp kk (by omega))
    have R_6 := Lib.hid (R_5.out.kp kk (by omega))
    have B_6 := Lib.hid (B_5.out.kp kk (by omega))
    have O_6 := Lib.hid (O_5.out.kp kk (by first | omega | (simp; omega)))
    have K_6 := K_5.trans kk
    have l_6 : w5.heap.size + 0 ≤ w6.heap.size := by have := kk.size; simpa using this
    clear kk hb 
    obtain ⟨r0, r1, r2, r3⟩ := R_6.out.four
    have rf0 := R_6.out.frozen 0
    have rf1 := R_6.out.frozen 1
    have rf2 := R_6.out.frozen 2
    have rf3 := R_6.out.frozen 3
    go_wp2_with fail
    exact bodyPost_ret (results_node Tryz.results130 rfl R_6.out.put4) rfl ⟨_, _, _, rfl, (O_6.out.kids.put4 (by omega)).mono (fun b hb _ => by omega), P_6.out.put4 (by omega), K_6.put4 (by omega)⟩
  · have hba : Pp.builtinArgs ⟨tk, [114, 97, 110, 100], tp⟩ args s2 = (args, Pp.wrong ⟨tk, [114, 97, 110, 100], tp⟩ true 9 s2) := by
      have h0 : ¬ args.length = 0 := by omega
      simp [Pp.builtinArgs, h0]
    simp only [hba]
    clear hba
    go_enter Tryz.func130, Tryz.ntmps130
    go_wp2_with fail
    refine (Hcur.out _ ((P_0.out.alloc _).alloc _)).mono ?_
    rintro e w1 ⟨rfl, hb⟩
    have kk := Kp.of_below (b := c.bp) hb
    have P_1 := Lib.hid (((P_0.out.alloc _).alloc _).below hb)
    have X_1 := Lib.hid ((((Blk.new w 54 #[.pointer (some ⟨c.bp, 0, none⟩)]).alloc _)).kp kk (by omega))
    have R_1 := Lib.hid (((Blk.new1 w _ 25 z4)).kp kk (by omega))
    have K_1 := (((Kp.refl c.bp w).alloc _).alloc _).trans kk
    have l_1 : w.heap.size + 2 ≤ w1.heap.size := by have := kk.size; simpa using this
    clear kk hb 
    have x0 : w1.cell? ⟨w.heap.size, 0, none⟩ = some (.pointer (some ⟨c.bp, 0, none⟩)) := by simpa using X_1.out.cell 0
    have xl := X_1.out.lt
    go_wp2_with fail
    refine (step_any c _ _ (P_1.out.alloc _)).mono ?_
    rintro e w2 ⟨rfl, pp, kp⟩
    have P_2 := Lib.hid pp
    have X_2 := Lib.hid ((X_1.out.alloc _).kp kp (by omega))
    have R_2 := Lib.hid ((R_1.out.alloc _).kp kp (by omega))
    have B_2 := Lib.hid (((Blk.new w1 60 #[.int .i64 tk, vs [114, 97, 110, 100], .int .i64 tp])).kp kp (by omega))
    have K_2 := (K_1.alloc _).trans kp
    have l_2 : w1.heap.size + 1 ≤ w2.heap.size := by have := kp.size; simpa using this
    clear kp pp 
    have x12 : w2.cell? ⟨w.heap.size, 0, none⟩ = some (.pointer (some ⟨c.bp, 0, none⟩)) := by simpa using X_2.out.cell 0
    have xl12 := X_2.out.lt
    obtain ⟨b20, b21, b22⟩ := B_2.out.tri
    go_wp2_with fail
    refine (expect_any c _ _ P_2.out [40]).mono ?_
    rintro e w3 ⟨rfl, pp, kp⟩
    have P_3 := Lib.hid pp
    have X_3 := Lib.hid (X_2.out.kp kp (by omega))
    have R_3 := Lib.hid (R_2.out.kp kp (by omega))
    have B_3 := Lib.hid (B_2.out.kp kp (by omega))
    have K_3 := K_2.trans kp
    have l_3 : w2.heap.size + 0 ≤ w3.heap.size := by have := kp.size; simpa using this
    clear kp pp 
    have x13 : w3.cell? ⟨w.heap.size, 0, none⟩ = some (.pointer (some ⟨c.bp, 0, none⟩)) := by simpa using X_3.out.cell 0
    have xl13 := X_3.out.lt
    go_wp2_with fail
    refine (list_any c E HE.out k hk [41] _ _ _ _ P_3.out HM.out).mono ?_
    rintro e w4 ⟨oa, oq, rfl, tt, pp, kp⟩
    have P_4 := Lib.hid pp
    have X_4 := Lib.hid (X_3.out.kp kp (by omega))
    have R_4 := Lib.hid (R_3.out.kp kp (by omega))
    have B_4 := Lib.hid (B_3.out.kp kp (by omega))
    have K_4 := K_3.trans kp
    have l_4 : w3.heap.size + 0 ≤ w4.heap.size := by have := kp.size; simpa using this
    clear kp pp 
    have O_4 := Lib.hid tt
    clear tt
    have x14 : w4.cell? ⟨w.heap.size, 0, none⟩ = some (.pointer (some ⟨c.bp, 0, none⟩)) := by simpa using X_4.out.cell 0
    have xl14 := X_4.out.lt
    obtain ⟨b40, b41, b42⟩ := B_4.out.tri
    go_wp2_with fail
    refine (wrong_any' c _ _ P_4.out _ _ ⟨tk, [114, 97, 110, 100], tp⟩ X_4.out B_4.out _ true (by first | rfl | (simp; done) | (simp; omega) | (simp [-List.length_eq_zero_iff]; omega)) 9).mono ?_
    rintro e w5 ⟨rfl, pp, kp⟩
    have P_5 := Lib.hid pp
    have X_5 := Lib.hid (X_4.out.kp kp (by omega))
    have R_5 := Lib.hid (R_4.out.kp kp (by omega))
    have B_5 := Lib.hid (B_4.out.kp kp (by omega))
    have O_5 := Lib.hid (O_4.out.kp kp (by first | omega | (simp; omega)))
    have K_5 := K_4.trans kp
    have l_5 : w4.heap.size + 0 ≤ w5.heap.size := by have := kp.size; simpa using this
    clear kp pp 
    have x15 : w5.cell? ⟨w.heap.size, 0, none⟩ = some (.pointer (some ⟨c.bp, 0, none⟩)) := by simpa using X_5.out.cell 0
    have xl15 := X_5.out.lt
    obtain ⟨b50, b51, b52⟩ := B_5.out.tri
    go_wp2_with fail
    refine (leaf_any _ _ ⟨tk, [114, 97, 110, 100], tp⟩ _ _ _).mono ?_
    rintro e w6 ⟨rfl, hb⟩
    have kk := Kp.of_below (b := c.bp) hb
    have P_6 := Lib.hid (P_5.out.below hb)
    have X_6 := Lib.hid (X_5.out.kp kk (by omega))
    have R_6 := Lib.hid (R_5.out.kp kk (by omega))
    have B_6 := Lib.hid (B_5.out.kp kk (by omega))
    have O_6 := Lib.hid (O_5.out.kp kk (by first | omega | (simp; omega)))
    have K_6 := K_5.trans kk
    have l_6 : w5.heap.size + 0 ≤ w6.heap.size := by have := kk.size; simpa using this
    clear kk hb 
    obtain ⟨r0, r1, r2, r3⟩ := R_6.out.four
    have rf0 := R_6.out.frozen 0
    have rf1 := R_6.out.frozen 1
    have rf2 := R_6.out.frozen 2
    have rf3 := R_6.out.frozen 3
    go_wp2_with fail
    exact bodyPost_ret (results_node Tryz.results130 rfl R_6.out.put4) rfl ⟨_, _, _, rfl, (O_6.out.kids.put4 (by omega)).mono (fun b hb _ => by omega), P_6.out.put4 (by omega), K_6.put4 (by omega)⟩

set_option maxRecDepth 100000 in
set_option maxHeartbeats 4000000 in
theorem built_srand (c : PC) (E : Pp.PS → Option (Pp.Node × Pp.PS)) (hE : IsN c 46 E) (k : Nat) (hk : k ≤ 1000000) (w : World) (s : Pp.PS) (n : Pp.Node) (s' : Pp.PS) (h : PAt c w s) (tk tp : Int) (hcur0 : Pp.cur c.T s = ⟨tk, [115, 114, 97, 110, 100], tp⟩) (hh : Pp.builtin c.T E k s = some (n, s')) :
    Calls Tryz.prog 130 #[.pointer (some ⟨c.bp, 0, none⟩)] w (NPost c w n s') := by
  have HE := Lib.hid hE
  have P_0 := Lib.hid h
  have hb := h.blk.lt
  have hmf : ∀ (fn : Fn) (first cap : Array Value) (w : World), (Instr.makeFunc fn first cap).run Tryz.prog w = .ok (.func fn first cap) w := fun _ _ _ _ => rfl
  have hcur := fun W hW => cur_any c W s hW
  rw [hcur0] at hcur
  unfold Pp.builtin at hh
  simp only [hcur0] at hh
  have Hcur := Lib.hid hcur
  clear hcur hcur0 hE h
  rw [if_neg (fun hx => absurd hx.1 (by decide))] at hh
  cases hEm : Pp.list c.T E k [41] (Pp.expect c.T [40] (Pp.step c.T s)) with
  | none => rw [hEm] at hh; cases hh
  | some r =>
  obtain ⟨args, s2⟩ := r
  rw [hEm] at hh
  simp only [Option.some.injEq, Prod.mk.injEq] at hh
  obtain ⟨rfl, rfl⟩ := hh
  have HM := Lib.hid hEm
  clear hEm
  by_cases hn : args.length < 1
  · have hba : Pp.builtinArgs ⟨tk, [115, 114, 97, 110, 100], tp⟩ args s2 = (args, Pp.wrong ⟨tk, [115, 114, 97, 110, 100], tp⟩ true 9 (Pp.wrong ⟨tk, [115, 114, 97, 110, 100], tp⟩ true 10 s2)) := by
      have h0 : args.length = 0 := by omega
      simp [Pp.builtinArgs, h0]
    simp only [hba]
    clear hba
    go_enter Tryz.func130, Tryz.ntmps130
    go_wp2_with fail
    refine (Hcur.out _ ((P_0.out.alloc _).alloc _)).mono ?_
    rintro e w1 ⟨rfl, hb⟩
    have kk := Kp.of_below (b := c.bp) hb
    have P_1 := Lib.hid (((P_0.out.alloc _).alloc _).below hb)
    have X_1 := Lib.hid ((((Blk.new w 54 #[.pointer (some ⟨c.bp, 0, none⟩)]).alloc _)).kp kk (by omega))
    have R_1 := Lib.hid (((Blk.new1 w _ 25 z4)).kp kk (by omega))
    have K_1 := (((Kp.refl c.bp w).alloc _).alloc _).trans kk
    have l_1 : w.heap.size + 2 ≤ w1.heap.size := by have := kk.size; simpa using this
    clear kk hb 
    have x0 : w1.cell? ⟨w.heap.size, 0, none⟩ = some (.pointer (some ⟨c.bp, 0, none⟩)) := by simpa using X_1.out.cell 0
    have xl := X_1.out.lt
    go_wp2_with fail
    refine (step_any c _ _ (P_1.out.alloc _)).mono ?_
    rintro e w2 ⟨rfl, pp, kp⟩
    have P_2 := Lib.hid pp
    have X_2 := Lib.hid ((X_1.out.alloc _).kp kp (by omega))
    have R_2 := Lib.hid ((R_1.out.alloc _).kp kp (by omega))
    have B_2 := Lib.hid (((Blk.new w1 60 #[.int .i64 tk, vs [115, 114, 97, 110, 100], .int .i64 tp])).kp kp (by omega))
    have K_2 := (K_1.alloc _).trans kp
    have l_2 : w1.heap.size + 1 ≤ w2.heap.size := by have := kp.size; simpa using this
    clear kp pp 
    have x12 : w2.cell? ⟨w.heap.size, 0, none⟩ = some (.pointer (some ⟨c.bp, 0, none⟩)) := by simpa using X_2.out.cell 0
    have xl12 := X_2.out.lt
    obtain ⟨b20, b21, b22⟩ := B_2.out.tri
    go_wp2_with fail
    refine (expect_any c _ _ P_2.out [40]).mono ?_
    rintro e w3 ⟨rfl, pp, kp⟩
    have P_3 := Lib.hid pp
    have X_3 := Lib.hid (X_2.out.kp kp (by omega))
    have R_3 := Lib.hid (R_2.out.kp kp (by omega))
    have B_3 := Lib.hid (B_2.out.kp kp (by omega))
    have K_3 := K_2.trans kp
    have l_3 : w2.heap.size + 0 ≤ w3.heap.size := by have := kp.size; simpa using this
    clear kp pp 
    have x13 : w3.cell? ⟨w.heap.size, 0, none⟩ = some (.pointer (some ⟨c.bp, 0, none⟩)) := by simpa using X_3.out.cell 0
    have xl13 := X_3.out.lt
    go_wp2_with fail
    refine (list_any c E HE.out k hk [41] _ _ _ _ P_3.out HM.out).mono ?_
    rintro e w4 ⟨oa, oq, rfl, tt, pp, kp⟩
    have P_4 := Lib.hid pp
    have X_4 := Lib.hid (X_3.out.kp kp (by omega))
    have R_4 := Lib.hid (R_3.out.kp kp (by omega))
    have B_4 := Lib.hid (B_3.out.kp kp (by omega))
    have K_4 := K_3.trans kp
    have l_4 : w3.heap.size + 0 ≤ w4.heap.size := by have := kp.size; simpa using this
    clear kp pp 
    have O_4 := Lib.hid tt
    clear tt
    have x14 : w4.cell? ⟨w.heap.size, 0, none⟩ = some (.pointer (some ⟨c.bp, 0, none⟩)) := by simpa using X_4.out.cell 0
    have xl14 := X_4.out.lt
    obtain ⟨b40, b41, b42⟩ := B_4.out.tri
    go_wp2_with fail
    refine (wrong_any' c _ _ P_4.out _ _ ⟨tk, [115, 114, 97, 110, 100], tp⟩ X_4.out B_4.out _ true (by first | rfl | (simp; done) | (simp; omega) | (simp [-List.length_eq_zero_iff]; omega)) 10).mono ?_
    rintro e w5 ⟨rfl, pp, kp⟩
    have P_5 := Lib.hid pp
    have X_5 := Lib.hid (X_4.out.kp kp (by omega))
    have R_5 := Lib.hid (R_4.out.kp kp (by omega))
    have B_5 := Lib.hid (B_4.out.kp kp (by omega))
    have O_5 := Lib.hid (O_4.out.kp kp (by first | omega | (simp; omega)))
    have K_5 := K_4.trans kp
    have l_5 : w4.heap.size + 0 ≤ w5.heap.size := by have := kp.size; simpa using this
    clear kp pp 
    have x15 : w5.cell? ⟨w.heap.size, 0, none⟩ = some (.pointer (some ⟨c.bp, 0, none⟩)) := by simpa using X_5.out.cell 0
    have xl15 := X_5.out.lt
    obtain ⟨b50, b51, b52⟩ := B_5.out.tri
    go_wp2_with fail
    refine (wrong_any' c _ _ P_5.out _ _ ⟨tk, [115, 114, 97, 110, 100], tp⟩ X_5.out B_5.out _ true (by first | rfl | (simp; done) | (simp; omega) | (simp [-List.length_eq_zero_iff]; omega)) 9).mono ?_
    rintro e w6 ⟨rfl, pp, kp⟩
    have P_6 := Lib.hid pp
    have X_6 := Lib.hid (X_5.out.kp kp (by omega))
    have R_6 := Lib.hid (R_5.out.kp kp (by omega))
    have B_6 := Lib.hid (B_5.out.kp kp (by omega))
    have O_6 := Lib.hid (O_5.out.kp kp (by first | omega | (simp; omega)))
    have K_6 := K_5.trans kp
    have l_6 : w5.heap.size + 0 ≤ w6.heap.size := by have := kp.size; simpa using this
    clear kp pp 
    have x16 : w6.cell? ⟨w.heap.size, 0, none⟩ = some (.pointer (some ⟨c.bp, 0, none⟩)) := by simpa using X_6.out.cell 0
    have xl16 := X_6.out.lt
    obtain ⟨b60, b61, b62⟩ := B_6.out.tri
    go_wp2_with fail
    refine (leaf_any _ _ ⟨tk, [115, 114, 97, 110, 100], tp⟩ _ _ _).mono ?_
    rintro e w7 ⟨rfl, hb⟩
    have kk := Kp.of_below (b := c.bp) hb
    have P_7 := Lib.hid (P_6.out.below hb)
    have X_7 := Lib.hid (X_6.out.kp kk (by omega))
    have R_7 := Lib.hid (R_6.out.kp kk (by omega))
    have B_7 := Lib.hid (B_6.out.kp kk (by omega))
    have O_7 := Lib.hid (O_6.out.kp kk (by first | omega | (simp; omega)))
    have K_7 := K_6.trans kk
    have l_7 : w6.heap.size + 0 ≤ w7.heap.size := by have := kk.size; simpa using this
    clear kk hb 
    obtain ⟨r0, r1, r2, r3⟩ := R_7.out.four
    have rf0 := R_7.out.frozen 0
    have rf1 := R_7.out.frozen 1
    have rf2 := R_7.out.frozen 2
    have rf3 := R_7.out.frozen 3
    go_wp2_with fail
    exact bodyPost_ret (results_node Tryz.results130 rfl R_7.out.put4) rfl ⟨_, _, _, rfl, (O_7.out.kids.put4 (by omega)).mono (fun b hb _ => by omega), P_7.out.put4 (by omega), K_7.put4 (by omega)⟩
  · by_cases hm : args.length < 2
    · have hba : Pp.builtinArgs ⟨tk, [115, 114, 97, 110, 100], tp⟩ args s2 = (args, Pp.wrong ⟨tk, [115, 114, 97, 110, 100], tp⟩ false 9 (Pp.wrong ⟨tk, [115, 114, 97, 110, 100], tp⟩ false 10 s2)) := by
        have h0 : args.length = 1 := by omega
        simp [Pp.builtinArgs, h0]
      simp only [hba]
      clear hba
      go_enter Tryz.func130, Tryz.ntmps130
      go_wp2_with fail
      refine (Hcur.out _ ((P_0.out.alloc _).alloc _)).mono ?_
      rintro e w1 ⟨rfl, hb⟩
      have kk := Kp.of_below (b := c.bp) hb
      have P_1 := Lib.hid (((P_0.out.alloc _).alloc _).below hb)
      have X_1 := Lib.hid ((((Blk.new w 54 #[.pointer (some ⟨c.bp, 0, none⟩)]).alloc _)).kp kk (by omega))
      have R_1 := Lib.hid (((Blk.new1 w _ 25 z4)).kp kk (by omega))
      have K_1 := (((Kp.refl c.bp w).alloc _).alloc _).trans kk
      have l_1 : w.heap.size + 2 ≤ w1.heap.size := by have := kk.size; simpa using this
      clear kk hb 
      have x0 : w1.cell? ⟨w.heap.size, 0, none⟩ = some (.pointer (some ⟨c.bp, 0, none⟩)) := by simpa using X_1.out.cell 0
      have xl := X_1.out.lt
      go_wp2_with fail
      refine (step_any c _ _ (P_1.out.alloc _)).mono ?_
      rintro e w2 ⟨rfl, pp, kp⟩
      have P_2 := Lib.hid pp
      have X_2 := Lib.hid ((X_1.out.alloc _).kp kp (by omega))
      have R_2 := Lib.hid ((R_1.out.alloc _).kp kp (by omega))
      have B_2 := Lib.hid (((Blk.new w1 60 #[.int .i64 tk, vs [115, 114, 97, 110, 100], .int .i64 tp])).kp kp (by omega))
      have K_2 := (K_1.alloc _).trans kp
      have l_2 : w1.heap.size + 1 ≤ w2.heap.size := by have := kp.size; simpa using this
      clear kp pp 
      have x12 : w2.cell? ⟨w.heap.size, 0, none⟩ = some (.pointer (some ⟨c.bp, 0, none⟩)) := by simpa using X_2.out.cell 0
      have xl12 := X_2.out.lt
      obtain ⟨b20, b21, b22⟩ := B_2.out.tri
      go_wp2_with fail
      refine (expect_any c _ _ P_2.out [40]).mono ?_
      rintro e w3 ⟨rfl, pp, kp⟩
      have P_3 := Lib.hid pp
      have X_3 := Lib.hid (X_2.out.kp kp (by omega))
      have R_3 := Lib.hid (R_2.out.kp kp (by omega))
      have B_3 := Lib.hid (B_2.out.kp kp (by omega))
      have K_3 := K_2.trans kp
      have l_3 : w2.heap.size + 0 ≤ w3.heap.size := by have := kp.size; simpa using this
      clear kp pp 
      have x13 : w3.cell? ⟨w.heap.size, 0, none⟩ = some (.pointer (some ⟨c.bp, 0, none⟩)) := by simpa using X_3.out.cell 0
      have xl13 := X_3.out.lt
      go_wp2_with fail
      refine (list_any c E HE.out k hk [41] _ _ _ _ P_3.out HM.out).mono ?_
      rintro e w4 ⟨oa, oq, rfl, tt, pp, kp⟩
      have P_4 := Lib.hid pp
      have X_4 := Lib.hid (X_3.out.kp kp (by omega))
      have R_4 := Lib.hid (R_3.out.kp kp (by omega))
      have B_4 := Lib.hid (B_3.out.kp kp (by omega))
      have K_4 := K_3.trans kp
      have l_4 : w3.heap.size + 0 ≤ w4.heap.size := by have := kp.size; simpa using this
      clear kp pp 
      have O_4 := Lib.hid tt
      clear tt
      have x14 : w4.cell? ⟨w.heap.size, 0, none⟩ = some (.pointer (some ⟨c.bp, 0, none⟩)) := by simpa using X_4.out.cell 0
      have xl14 := X_4.out.lt
      obtain ⟨b40, b41, b42⟩ := B_4.out.tri
      go_wp2_with fail
      refine (wrong_any' c _ _ P_4.out _ _ ⟨tk, [115, 114, 97, 110, 100], tp⟩ X_4.out B_4.out _ false (by first | rfl | (simp; done) | (simp; omega) | (simp [-List.length_eq_zero_iff]; omega)) 10).mono ?_
      rintro e w5 ⟨rfl, pp, kp⟩
      have P_5 := Lib.hid pp
      have X_5 := Lib.hid (X_4.out.kp kp (by omega))
      have R_5 := Lib.hid (R_4.out.kp kp (by omega))
      have B_5 := Lib.hid (B_4.out.kp kp (by omega))
      have O_5 := Lib.hid (O_4.out.kp kp (by first | omega | (simp; omega)))
      have K_5 := K_4.trans kp
      have l_5 : w4.heap.size + 0 ≤ w5.heap.size := by have := kp.size; simpa using this
      clear kp pp 
      have x15 : w5.cell? ⟨w.heap.size, 0, none⟩ = some (.pointer (some ⟨c.bp, 0, none⟩)) := by simpa using X_5.out.cell 0
      have xl15 := X_5.out.lt
      obtain ⟨b50, b51, b52⟩ := B_5.out.tri
      go_wp2_with fail
      refine (wrong_any' c _ _ P_5.out _ _ ⟨tk, [115, 114, 97, 110, 100], tp⟩ X_5.out B_5.out _ false (by first | rfl | (simp; done) | (simp; omega) | (simp [-List.length_eq_zero_iff]; omega)) 9).mono ?_
      rintro e w6 ⟨rfl, pp, kp⟩
      have P_6 := Lib.hid pp
      have X_6 := Lib.hid (X_5.out.kp kp (by omega))
      have R_6 := Lib.hid (R_5.out.kp kp (by omega))
      have B_6 := Lib.hid (B_5.out.kp kp (by omega))
      have O_6 := Lib.hid (O_5.out.kp kp (by first | omega | (simp; omega)))
      have K_6 := K_5.trans kp
      have l_6 : w5.heap.size + 0 ≤ w6.heap.size := by have := kp.size; simpa using this
      clear kp pp 
      have x16 : w6.cell? ⟨w.heap.size, 0, none⟩ = some (.pointer (some ⟨c.bp, 0, none⟩)) := by simpa using X_6.out.cell 0
      have xl16 := X_6.out.lt
      obtain ⟨b60, b61, b62⟩ := B_6.out.tri
      go_wp2_with fail
      refine (leaf_any _ _ ⟨tk, [115, 114, 97, 110, 100], tp⟩ _ _ _).mono ?_
      rintro e w7 ⟨rfl, hb⟩
      have kk := Kp.of_below (b := c.bp) hb
      have P_7 := Lib.hid (P_6.out.below hb)
      have X_7 := Lib.hid (X_6.out.kp kk (by omega))
      have R_7 := Lib.hid (R_6.out.kp kk (by omega))
      have B_7 := Lib.hid (B_6.out.kp kk (by omega))
      have O_7 := Lib.hid (O_6.out.kp kk (by first | omega | (simp; omega)))
      have K_7 := K_6.trans kk
      have l_7 : w6.heap.size + 0 ≤ w7.heap.size := by have := kk.size; simpa using this
      clear kk hb 
      obtain ⟨r0, r1, r2, r3⟩ := R_7.out.four
      have rf0 := R_7.out.frozen 0
      have rf1 := R_7.out.frozen 1
      have rf2 := R_7.out.frozen 2
      have rf3 := R_7.out.frozen 3
      go_wp2_with fail
      exact bodyPost_ret (results_node Tryz.results130 rfl R_7.out.put4) rfl ⟨_, _, _, rfl, (O_7.out.kids.put4 (by omega)).mono (fun b hb _ => by omega), P_7.out.put4 (by omega), K_7.put4 (by omega)⟩
    · have hba : Pp.builtinArgs ⟨tk, [115, 114, 97, 110, 100], tp⟩ args s2 = (args, Pp.wrong ⟨tk, [115, 114, 97, 110, 100], tp⟩ true 9 (Pp.wrong ⟨tk, [115, 114, 97, 110, 100], tp⟩ false 10 s2)) := by
        have h0 : ¬ args.length = 0 := by omega
        have h1 : ¬ args.length = 1 := by omega
        simp [Pp.builtinArgs, h0, h1]
      simp only [hba]
      clear hba
      go_enter Tryz.func130, Tryz.ntmps130
      go_wp2_with fail
      refine (Hcur.out _ ((P_0.out.alloc _).alloc _)).mono ?_
      rintro e w1 ⟨rfl, hb⟩
      have kk := Kp.of_below (b := c.bp) hb
      have P_1 := Lib.hid (((P_0.out.alloc _).alloc _).below hb)
      have X_1 := Lib.hid ((((Blk.new w 54 #[.pointer (some ⟨c.bp, 0, none⟩)]).alloc _)).kp kk (by omega))
      have R_1 := Lib.hid (((Blk.new1 w _ 25 z4)).kp kk (by omega))
      have K_1 := (((Kp.refl c.bp w).alloc _).alloc _).trans kk
      have l_1 : w.heap.size + 2 ≤ w1.heap.size := by have := kk.size; simpa using this
      clear kk hb 
      have x0 : w1.cell? ⟨w.heap.size, 0, none⟩ = some (.pointer (some ⟨c.bp, 0, none⟩)) := by simpa using X_1.out.cell 0
      have xl := X_1.out.lt
      go_wp2_with fail
      refine (step_any c _ _ (P_1.out.alloc _)).mono ?_
      rintro e w2 ⟨rfl, pp, kp⟩
      have P_2 := Lib.hid pp
      have X_2 := Lib.hid ((X_1.out.alloc _).kp kp (by omega))
      have R_2 := Lib.hid ((R_1.out.alloc _).kp kp (by omega))
      have B_2 := Lib.hid (((Blk.new w1 60 #[.int .i64 tk, vs [115, 114, 97, 110, 100], .int .i64 tp])).kp kp (by omega))
      have K_2 := (K_1.alloc _).trans kp
      have l_2 : w1.heap.size + 1 ≤ w2.heap.size := by have := kp.size; simpa using this
      clear kp pp 
      have x12 : w2.cell? ⟨w.heap.size, 0, none⟩ = some (.pointer (some ⟨c.bp, 0, none⟩)) := by simpa using X_2.out.cell 0
      have xl12 := X_2.out.lt
      obtain ⟨b20, b21, b22⟩ := B_2.out.tri
      go_wp2_with fail
      refine (expect_any c _ _ P_2.out [40]).mono ?_
      rintro e w3 ⟨rfl, pp, kp⟩
      have P_3 := Lib.hid pp
      have X_3 := Lib.hid (X_2.out.kp kp (by omega))
      have R_3 := Lib.hid (R_2.out.kp kp (by omega))
      have B_3 := Lib.hid (B_2.out.kp kp (by omega))
      have K_3 := K_2.trans kp
      have l_3 : w2.heap.size + 0 ≤ w3.heap.size := by have := kp.size; simpa using this
      clear kp pp 
      have x13 : w3.cell? ⟨w.heap.size, 0, none⟩ = some (.pointer (some ⟨c.bp, 0, none⟩)) := by simpa using X_3.out.cell 0
      have xl13 := X_3.out.lt
      go_wp2_with fail
      refine (list_any c E HE.out k hk [41] _ _ _ _ P_3.out HM.out).mono ?_
      rintro e w4 ⟨oa, oq, rfl, tt, pp, kp⟩
      have P_4 := Lib.hid pp
      have X_4 := Lib.hid (X_3.out.kp kp (by omega))
      have R_4 := Lib.hid (R_3.out.kp kp (by omega))
      have B_4 := Lib.hid (B_3.out.kp kp (by omega))
      have K_4 := K_3.trans kp
      have l_4 : w3.heap.size + 0 ≤ w4.heap.size := by have := kp.size; simpa using this
      clear kp pp 
      have O_4 := Lib.hid tt
      clear tt
      have x14 : w4.cell? ⟨w.heap.size, 0, none⟩ = some (.pointer (some ⟨c.bp, 0, none⟩)) := by simpa using X_4.out.cell 0
      have xl14 := X_4.out.lt
      obtain ⟨b40, b41, b42⟩ := B_4.out.tri
      go_wp2_with fail
      refine (wrong_any' c _ _ P_4.out _ _ ⟨tk, [115, 114, 97, 110, 100], tp⟩ X_4.out B_4.out _ false (by first | rfl | (simp; done) | (simp; omega) | (simp [-List.length_eq_zero_iff]; omega)) 10).mono ?_
      rintro e w5 ⟨rfl, pp, kp⟩
      have P_5 := Lib.hid pp
      have X_5 := Lib.hid (X_4.out.kp kp (by omega))
      have R_5 := Lib.hid (R_4.out.kp kp (by omega))
      have B_5 := Lib.hid (B_4.out.kp kp (by omega))
      have O_5 := Lib.hid (O_4.out.kp kp (by first | omega | (simp; omega)))
      have K_5 := K_4.trans kp
      have l_5 : w4.heap.size + 0 ≤ w5.heap.size := by have := kp.size; simpa using this
      clear kp pp 
      have x15 : w5.cell? ⟨w.heap.size, 0, none⟩ = some (.pointer (some ⟨c.bp, 0, none⟩)) := by simpa using X_5.out.cell 0
      have xl15 := X_5.out.lt
      obtain ⟨b50, b51, b52⟩ := B_5.out.tri
      go_wp2_with fail
      refine (wrong_any' c _ _ P_5.out _ _ ⟨tk, [115, 114, 97, 110, 100], tp⟩ X_5.out B_5.out _ true (by first | rfl | (simp; done) | (simp; omega) | (simp [-List.length_eq_zero_iff]; omega)) 9).mono ?_
      rintro e w6 ⟨rfl, pp, kp⟩
      have P_6 := Lib.hid pp
      have X_6 := Lib.hid (X_5.out.kp kp (by omega))
      have R_6 := Lib.hid (R_5.out.kp kp (by omega))
      have B_6 := Lib.hid (B_5.out.kp kp (by omega))
      have O_6 := Lib.hid (O_5.out.kp kp (by first | omega | (simp; omega)))
      have K_6 := K_5.trans kp
      have l_6 : w5.heap.size + 0 ≤ w6.heap.size := by have := kp.size; simpa using this
      clear kp pp 
      have x16 : w6.cell? ⟨w.heap.size, 0, none⟩ = some (.pointer (some ⟨c.bp, 0, none⟩)) := by simpa using X_6.out.cell 0
      have xl16 := X_6.out.lt
      obtain ⟨b60, b61, b62⟩ := B_6.out.tri
      go_wp2_with fail
      refine (leaf_any _ _ ⟨tk, [115, 114, 97, 110, 100], tp⟩ _ _ _).mono ?_
      rintro e w7 ⟨rfl, hb⟩
      have kk := Kp.of_below (b := c.bp) hb
      have P_7 := Lib.hid (P_6.out.below hb)
      have X_7 := Lib.hid (X_6.out.kp kk (by omega))
      have R_7 := Lib.hid (R_6.out.kp kk (by omega))
      have B_7 := Lib.hid (B_6.out.kp kk (by omega))
      have O_7 := Lib.hid (O_6.out.kp kk (by first | omega | (simp; omega)))
      have K_7 := K_6.trans kk
      have l_7 : w6.heap.size + 0 ≤ w7.heap.size := by have := kk.size; simpa using this
      clear kk hb 
      obtain ⟨r0, r1, r2, r3⟩ := R_7.out.four
      have rf0 := R_7.out.frozen 0
      have rf1 := R_7.out.frozen 1
      have rf2 := R_7.out.frozen 2
      have rf3 := R_7.out.frozen 3
      go_wp2_with fail
      exact bodyPost_ret (results_node Tryz.results130 rfl R_7.out.put4) rfl ⟨_, _, _, rfl, (O_7.out.kids.put4 (by omega)).mono (fun b hb _ => by omega), P_7.out.put4 (by omega), K_7.put4 (by omega)⟩

end Go.Proofs.YtgnmfaeonijogaaGreatDoor
