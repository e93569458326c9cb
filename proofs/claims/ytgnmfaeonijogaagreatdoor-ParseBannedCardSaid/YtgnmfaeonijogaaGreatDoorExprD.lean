/- Walked: products, sums, matches, ands, ors: each level is the chain of the one below it. -/
import Derived.Test.YtgnmfaeonijogaaGreatDoorExprC
namespace Go.Proofs.YtgnmfaeonijogaaGreatDoor
open Go.RowKit Go.Shelf

set_option maxRecDepth 100000 in
set_option maxHeartbeats 1000000 in
theorem mul_any (c : PC) (next : Pp.PS → Option (Pp.Node × Pp.PS)) (hN : IsN c 126 next) (k : Nat) : IsN c 123 (Pp.chain c.T next k false Pp.mulOps) := by
  intro w s n s' h hh
  have hb := h.blk.lt
  have hmm := @run_makeMap Tryz.prog
  have hmf : ∀ (fn : Fn) (first cap : Array Value) (w : World), (Instr.makeFunc fn first cap).run Tryz.prog w = .ok (.func fn first cap) w := fun _ _ _ _ => rfl
  have hc := chain_any c 126 (enters_of Tryz.func126 (by kernel_rfl) rfl) next hN k false Pp.mulOps (w.heap.size + 1) ((w.alloc (.cells z4 25)).alloc (.map #[{ key := .string ⟨#[42]⟩, val := .string ⟨#[109, 117, 108]⟩, born := 0 }, { key := .string ⟨#[47]⟩, val := .string ⟨#[100, 105, 118]⟩, born := 1 }, { key := .string ⟨#[37]⟩, val := .string ⟨#[109, 111, 100]⟩, born := 2 }] 3)) s n s' ((h.alloc _).alloc _) (.new _ _ (by simp) _ _ _ rfl) (by omega) hh
  have Hc := Lib.hid hc
  have q0 : (Instr.mapUpdate 122 (.map (some (w.heap.size + 1))) (.string ⟨#[42]⟩) (.string ⟨#[109, 117, 108]⟩)).run Tryz.prog ((w.alloc (.cells z4 25)).alloc (.map #[] 0)) = .ok () ((w.alloc (.cells z4 25)).alloc (.map #[{ key := .string ⟨#[42]⟩, val := .string ⟨#[109, 117, 108]⟩, born := 0 }] 1)) := run_put _ _ (by simp) _ _ _ _ rfl
  have q1 : (Instr.mapUpdate 122 (.map (some (w.heap.size + 1))) (.string ⟨#[47]⟩) (.string ⟨#[100, 105, 118]⟩)).run Tryz.prog ((w.alloc (.cells z4 25)).alloc (.map #[{ key := .string ⟨#[42]⟩, val := .string ⟨#[109, 117, 108]⟩, born := 0 }] 1)) = .ok () ((w.alloc (.cells z4 25)).alloc (.map #[{ key := .string ⟨#[42]⟩, val := .string ⟨#[109, 117, 108]⟩, born := 0 }, { key := .string ⟨#[47]⟩, val := .string ⟨#[100, 105, 118]⟩, born := 1 }] 2)) := run_put _ _ (by simp) _ _ _ _ rfl
  have q2 : (Instr.mapUpdate 122 (.map (some (w.heap.size + 1))) (.string ⟨#[37]⟩) (.string ⟨#[109, 111, 100]⟩)).run Tryz.prog ((w.alloc (.cells z4 25)).alloc (.map #[{ key := .string ⟨#[42]⟩, val := .string ⟨#[109, 117, 108]⟩, born := 0 }, { key := .string ⟨#[47]⟩, val := .string ⟨#[100, 105, 118]⟩, born := 1 }] 2)) = .ok () ((w.alloc (.cells z4 25)).alloc (.map #[{ key := .string ⟨#[42]⟩, val := .string ⟨#[109, 117, 108]⟩, born := 0 }, { key := .string ⟨#[47]⟩, val := .string ⟨#[100, 105, 118]⟩, born := 1 }, { key := .string ⟨#[37]⟩, val := .string ⟨#[109, 111, 100]⟩, born := 2 }] 3)) := run_put _ _ (by simp) _ _ _ _ rfl
  clear hc hh h hN
  go_enter Tryz.func123, Tryz.ntmps123
  go_wp2_with fail
  refine Hc.out.mono ?_
  rintro e w1 ⟨ka, kl, kq, rfl, tt, pp, kp⟩
  have P_1 := Lib.hid pp
  have T_1 := Lib.hid tt
  have R_1 := Lib.hid (((Blk.new w 25 z4).alloc _).kp kp (by omega))
  have K_1 := (((Kp.refl c.bp w).alloc _).alloc _).trans kp
  have l_1 : w.heap.size + 2 ≤ w1.heap.size := by have := kp.size; simpa using this
  obtain ⟨r0, r1, r2, r3⟩ := R_1.out.four
  have rf0 := R_1.out.frozen 0
  have rf1 := R_1.out.frozen 1
  have rf2 := R_1.out.frozen 2
  have rf3 := R_1.out.frozen 3
  clear pp tt kp Hc q0 q1 q2
  go_wp2_with fail
  refine bodyPost_ret (results_node Tryz.results123 rfl R_1.out.put4) rfl ⟨_, _, _, rfl, ?_, P_1.out.put4 (by omega), K_1.put4 (Nat.le_refl _)⟩
  exact (T_1.out.put4 (by simp; omega)).mono (fun b hb _ => by simp at hb; omega)

set_option maxRecDepth 100000 in
set_option maxHeartbeats 1000000 in
theorem add_any (c : PC) (next : Pp.PS → Option (Pp.Node × Pp.PS)) (hN : IsN c 123 next) (k : Nat) : IsN c 115 (Pp.chain c.T next k false Pp.addOps) := by
  intro w s n s' h hh
  have hb := h.blk.lt
  have hmm := @run_makeMap Tryz.prog
  have hmf : ∀ (fn : Fn) (first cap : Array Value) (w : World), (Instr.makeFunc fn first cap).run Tryz.prog w = .ok (.func fn first cap) w := fun _ _ _ _ => rfl
  have hc := chain_any c 123 (enters_of Tryz.func123 (by kernel_rfl) rfl) next hN k false Pp.addOps (w.heap.size + 1) ((w.alloc (.cells z4 25)).alloc (.map #[{ key := .string ⟨#[43]⟩, val := .string ⟨#[97, 100, 100]⟩, born := 0 }, { key := .string ⟨#[45]⟩, val := .string ⟨#[115, 117, 98]⟩, born := 1 }] 2)) s n s' ((h.alloc _).alloc _) (.new _ _ (by simp) _ _ _ rfl) (by omega) hh
  have Hc := Lib.hid hc
  have q0 : (Instr.mapUpdate 122 (.map (some (w.heap.size + 1))) (.string ⟨#[43]⟩) (.string ⟨#[97, 100, 100]⟩)).run Tryz.prog ((w.alloc (.cells z4 25)).alloc (.map #[] 0)) = .ok () ((w.alloc (.cells z4 25)).alloc (.map #[{ key := .string ⟨#[43]⟩, val := .string ⟨#[97, 100, 100]⟩, born := 0 }] 1)) := run_put _ _ (by simp) _ _ _ _ rfl
  have q1 : (Instr.mapUpdate 122 (.map (some (w.heap.size + 1))) (.string ⟨#[45]⟩) (.string ⟨#[115, 117, 98]⟩)).run Tryz.prog ((w.alloc (.cells z4 25)).alloc (.map #[{ key := .string ⟨#[43]⟩, val := .string ⟨#[97, 100, 100]⟩, born := 0 }] 1)) = .ok () ((w.alloc (.cells z4 25)).alloc (.map #[{ key := .string ⟨#[43]⟩, val := .string ⟨#[97, 100, 100]⟩, born := 0 }, { key := .string ⟨#[45]⟩, val := .string ⟨#[115, 117, 98]⟩, born := 1 }] 2)) := run_put _ _ (by simp) _ _ _ _ rfl
  clear hc hh h hN
  go_enter Tryz.func115, Tryz.ntmps115
  go_wp2_with fail
  refine Hc.out.mono ?_
  rintro e w1 ⟨ka, kl, kq, rfl, tt, pp, kp⟩
  have P_1 := Lib.hid pp
  have T_1 := Lib.hid tt
  have R_1 := Lib.hid (((Blk.new w 25 z4).alloc _).kp kp (by omega))
  have K_1 := (((Kp.refl c.bp w).alloc _).alloc _).trans kp
  have l_1 : w.heap.size + 2 ≤ w1.heap.size := by have := kp.size; simpa using this
  obtain ⟨r0, r1, r2, r3⟩ := R_1.out.four
  have rf0 := R_1.out.frozen 0
  have rf1 := R_1.out.frozen 1
  have rf2 := R_1.out.frozen 2
  have rf3 := R_1.out.frozen 3
  clear pp tt kp Hc q0 q1
  go_wp2_with fail
  refine bodyPost_ret (results_node Tryz.results115 rfl R_1.out.put4) rfl ⟨_, _, _, rfl, ?_, P_1.out.put4 (by omega), K_1.put4 (Nat.le_refl _)⟩
  exact (T_1.out.put4 (by simp; omega)).mono (fun b hb _ => by simp at hb; omega)

set_option maxRecDepth 100000 in
set_option maxHeartbeats 1000000 in
theorem match_any (c : PC) (next : Pp.PS → Option (Pp.Node × Pp.PS)) (hN : IsN c 116 next) (k : Nat) : IsN c 107 (Pp.chain c.T next k false Pp.matchOps) := by
  intro w s n s' h hh
  have hb := h.blk.lt
  have hmm := @run_makeMap Tryz.prog
  have hmf : ∀ (fn : Fn) (first cap : Array Value) (w : World), (Instr.makeFunc fn first cap).run Tryz.prog w = .ok (.func fn first cap) w := fun _ _ _ _ => rfl
  have hc := chain_any c 116 (enters_of Tryz.func116 (by kernel_rfl) rfl) next hN k false Pp.matchOps (w.heap.size + 1) ((w.alloc (.cells z4 25)).alloc (.map #[{ key := .string ⟨#[126]⟩, val := .string ⟨#[109, 97, 116, 99, 104]⟩, born := 0 }, { key := .string ⟨#[33, 126]⟩, val := .string ⟨#[110, 111, 109, 97, 116, 99, 104]⟩, born := 1 }] 2)) s n s' ((h.alloc _).alloc _) (.new _ _ (by simp) _ _ _ rfl) (by omega) hh
  have Hc := Lib.hid hc
  have q0 : (Instr.mapUpdate 122 (.map (some (w.heap.size + 1))) (.string ⟨#[126]⟩) (.string ⟨#[109, 97, 116, 99, 104]⟩)).run Tryz.prog ((w.alloc (.cells z4 25)).alloc (.map #[] 0)) = .ok () ((w.alloc (.cells z4 25)).alloc (.map #[{ key := .string ⟨#[126]⟩, val := .string ⟨#[109, 97, 116, 99, 104]⟩, born := 0 }] 1)) := run_put _ _ (by simp) _ _ _ _ rfl
  have q1 : (Instr.mapUpdate 122 (.map (some (w.heap.size + 1))) (.string ⟨#[33, 126]⟩) (.string ⟨#[110, 111, 109, 97, 116, 99, 104]⟩)).run Tryz.prog ((w.alloc (.cells z4 25)).alloc (.map #[{ key := .string ⟨#[126]⟩, val := .string ⟨#[109, 97, 116, 99, 104]⟩, born := 0 }] 1)) = .ok () ((w.alloc (.cells z4 25)).alloc (.map #[{ key := .string ⟨#[126]⟩, val := .string ⟨#[109, 97, 116, 99, 104]⟩, born := 0 }, { key := .string ⟨#[33, 126]⟩, val := .string ⟨#[110, 111, 109, 97, 116, 99, 104]⟩, born := 1 }] 2)) := run_put _ _ (by simp) _ _ _ _ rfl
  clear hc hh h hN
  go_enter Tryz.func107, Tryz.ntmps107
  go_wp2_with fail
  refine Hc.out.mono ?_
  rintro e w1 ⟨ka, kl, kq, rfl, tt, pp, kp⟩
  have P_1 := Lib.hid pp
  have T_1 := Lib.hid tt
  have R_1 := Lib.hid (((Blk.new w 25 z4).alloc _).kp kp (by omega))
  have K_1 := (((Kp.refl c.bp w).alloc _).alloc _).trans kp
  have l_1 : w.heap.size + 2 ≤ w1.heap.size := by have := kp.size; simpa using this
  obtain ⟨r0, r1, r2, r3⟩ := R_1.out.four
  have rf0 := R_1.out.frozen 0
  have rf1 := R_1.out.frozen 1
  have rf2 := R_1.out.frozen 2
  have rf3 := R_1.out.frozen 3
  clear pp tt kp Hc q0 q1
  go_wp2_with fail
  refine bodyPost_ret (results_node Tryz.results107 rfl R_1.out.put4) rfl ⟨_, _, _, rfl, ?_, P_1.out.put4 (by omega), K_1.put4 (Nat.le_refl _)⟩
  exact (T_1.out.put4 (by simp; omega)).mono (fun b hb _ => by simp at hb; omega)

set_option maxRecDepth 100000 in
set_option maxHeartbeats 1000000 in
theorem and_any (c : PC) (next : Pp.PS → Option (Pp.Node × Pp.PS)) (hN : IsN c 99 next) (k : Nat) : IsN c 91 (Pp.chain c.T next k true Pp.andOps) := by
  intro w s n s' h hh
  have hb := h.blk.lt
  have hmm := @run_makeMap Tryz.prog
  have hmf : ∀ (fn : Fn) (first cap : Array Value) (w : World), (Instr.makeFunc fn first cap).run Tryz.prog w = .ok (.func fn first cap) w := fun _ _ _ _ => rfl
  have hc := chain_any c 99 (enters_of Tryz.func99 (by kernel_rfl) rfl) next hN k true Pp.andOps (w.heap.size + 1) ((w.alloc (.cells z4 25)).alloc (.map #[{ key := .string ⟨#[38, 38]⟩, val := .string ⟨#[97, 110, 100]⟩, born := 0 }] 1)) s n s' ((h.alloc _).alloc _) (.new _ _ (by simp) _ _ _ rfl) (by omega) hh
  have Hc := Lib.hid hc
  have q0 : (Instr.mapUpdate 122 (.map (some (w.heap.size + 1))) (.string ⟨#[38, 38]⟩) (.string ⟨#[97, 110, 100]⟩)).run Tryz.prog ((w.alloc (.cells z4 25)).alloc (.map #[] 0)) = .ok () ((w.alloc (.cells z4 25)).alloc (.map #[{ key := .string ⟨#[38, 38]⟩, val := .string ⟨#[97, 110, 100]⟩, born := 0 }] 1)) := run_put _ _ (by simp) _ _ _ _ rfl
  clear hc hh h hN
  go_enter Tryz.func91, Tryz.ntmps91
  go_wp2_with fail
  refine Hc.out.mono ?_
  rintro e w1 ⟨ka, kl, kq, rfl, tt, pp, kp⟩
  have P_1 := Lib.hid pp
  have T_1 := Lib.hid tt
  have R_1 := Lib.hid (((Blk.new w 25 z4).alloc _).kp kp (by omega))
  have K_1 := (((Kp.refl c.bp w).alloc _).alloc _).trans kp
  have l_1 : w.heap.size + 2 ≤ w1.heap.size := by have := kp.size; simpa using this
  obtain ⟨r0, r1, r2, r3⟩ := R_1.out.four
  have rf0 := R_1.out.frozen 0
  have rf1 := R_1.out.frozen 1
  have rf2 := R_1.out.frozen 2
  have rf3 := R_1.out.frozen 3
  clear pp tt kp Hc q0
  go_wp2_with fail
  refine bodyPost_ret (results_node Tryz.results91 rfl R_1.out.put4) rfl ⟨_, _, _, rfl, ?_, P_1.out.put4 (by omega), K_1.put4 (Nat.le_refl _)⟩
  exact (T_1.out.put4 (by simp; omega)).mono (fun b hb _ => by simp at hb; omega)

set_option maxRecDepth 100000 in
set_option maxHeartbeats 1000000 in
theorem or_any (c : PC) (next : Pp.PS → Option (Pp.Node × Pp.PS)) (hN : IsN c 91 next) (k : Nat) : IsN c 73 (Pp.chain c.T next k true Pp.orOps) := by
  intro w s n s' h hh
  have hb := h.blk.lt
  have hmm := @run_makeMap Tryz.prog
  have hmf : ∀ (fn : Fn) (first cap : Array Value) (w : World), (Instr.makeFunc fn first cap).run Tryz.prog w = .ok (.func fn first cap) w := fun _ _ _ _ => rfl
  have hc := chain_any c 91 (enters_of Tryz.func91 (by kernel_rfl) rfl) next hN k true Pp.orOps (w.heap.size + 1) ((w.alloc (.cells z4 25)).alloc (.map #[{ key := .string ⟨#[124, 124]⟩, val := .string ⟨#[111, 114]⟩, born := 0 }] 1)) s n s' ((h.alloc _).alloc _) (.new _ _ (by simp) _ _ _ rfl) (by omega) hh
  have Hc := Lib.hid hc
  have q0 : (Instr.mapUpdate 122 (.map (some (w.heap.size + 1))) (.string ⟨#[124, 124]⟩) (.string ⟨#[111, 114]⟩)).run Tryz.prog ((w.alloc (.cells z4 25)).alloc (.map #[] 0)) = .ok () ((w.alloc (.cells z4 25)).alloc (.map #[{ key := .string ⟨#[124, 124]⟩, val := .string ⟨#[111, 114]⟩, born := 0 }] 1)) := run_put _ _ (by simp) _ _ _ _ rfl
  clear hc hh h hN
  go_enter Tryz.func73, Tryz.ntmps73
  go_wp2_with fail
  refine Hc.out.mono ?_
  rintro e w1 ⟨ka, kl, kq, rfl, tt, pp, kp⟩
  have P_1 := Lib.hid pp
  have T_1 := Lib.hid tt
  have R_1 := Lib.hid (((Blk.new w 25 z4).alloc _).kp kp (by omega))
  have K_1 := (((Kp.refl c.bp w).alloc _).alloc _).trans kp
  have l_1 : w.heap.size + 2 ≤ w1.heap.size := by have := kp.size; simpa using this
  obtain ⟨r0, r1, r2, r3⟩ := R_1.out.four
  have rf0 := R_1.out.frozen 0
  have rf1 := R_1.out.frozen 1
  have rf2 := R_1.out.frozen 2
  have rf3 := R_1.out.frozen 3
  clear pp tt kp Hc q0
  go_wp2_with fail
  refine bodyPost_ret (results_node Tryz.results73 rfl R_1.out.put4) rfl ⟨_, _, _, rfl, ?_, P_1.out.put4 (by omega), K_1.put4 (Nat.le_refl _)⟩
  exact (T_1.out.put4 (by simp; omega)).mono (fun b hb _ => by simp at hb; omega)

end Go.Proofs.YtgnmfaeonijogaaGreatDoor
