/- Walked: two things held against one another. -/
import Derived.Test.YtgnmfaeonijogaaGreatDoorExprA
import Derived.Test.YtgnmfaeonijogaaGreatDoorMaps
import Derived.Deep.RegionWith
namespace Go.Proofs.YtgnmfaeonijogaaGreatDoor
open Go.RowKit

set_option maxRecDepth 100000 in
set_option maxHeartbeats 4000000 in
theorem rel_any (c : PC) (next : Pp.PS → Option (Pp.Node × Pp.PS)) (hN : IsN c 106 next) : IsN c 116 (Pp.rel c.T next) := by
  intro w s n s' h hh
  unfold Pp.rel at hh
  cases hEm : next s with
  | none => rw [hEm] at hh; cases hh
  | some r =>
    obtain ⟨n1, s2⟩ := r
    rw [hEm] at hh
    simp only at hh
    have HN := Lib.hid hN
    have P_0 := Lib.hid h
    have HM := Lib.hid hEm
    have hb := h.blk.lt
    have hmm := @run_makeMap Tryz.prog
    have hcur := fun W hW => cur_any c W s2 hW
    generalize ht : Pp.cur c.T s2 = t at *
    have Hcur := Lib.hid hcur
    have hlook : ∀ W mb, MapAt W mb Pp.relOps → (Instr.lookup 122 (.map (some mb)) (.string ⟨t.text.toArray⟩) false).run Tryz.prog W = .ok (vs (Pp.look Pp.relOps t.text)) W := fun W mb hW => run_look hW t.text
    generalize Pp.look Pp.relOps t.text = opn at *
    have Hlook := Lib.hid hlook
    clear hN h hEm ht hlook hcur
    by_cases h8 : t.kind = 8
    · have k8 : (t.kind != 8) = false := by simp [h8]
      by_cases ho : opn = []
      · subst ho
        rw [if_pos (.inr (.inl rfl))] at hh
        simp only [Option.some.injEq, Prod.mk.injEq] at hh
        obtain ⟨rfl, rfl⟩ := hh
        clear h8
        go_enter Tryz.func116, Tryz.ntmps116
        go_wp2_with fail
        refine (HN.out _ _ _ _ (P_0.out.alloc _) HM.out).mono ?_
        rintro e w1 ⟨ka, kl, kq, rfl, tt, pp, kp⟩
        have P_1 := Lib.hid pp
        have R_1 := Lib.hid (((Blk.new w 25 z4)).kp kp (by omega))
        have K_1 := ((Kp.refl c.bp w).alloc _).trans kp
        have l_1 : w.heap.size + 1 ≤ w1.heap.size := by have := kp.size; simpa using this
        clear kp pp 
        have Tk_1 := Lib.hid tt
        clear tt
        go_wp2_with fail
        refine (Hcur.out _ (P_1.out.alloc _)).mono ?_
        rintro e w2 ⟨rfl, hb⟩
        have kk := Kp.of_below (b := c.bp) hb
        have P_2 := Lib.hid ((P_1.out.alloc _).below hb)
        have R_2 := Lib.hid ((R_1.out.alloc _).kp kk (by omega))
        have B_2 := Lib.hid (((Blk.new w1 25 #[vs n1.op, vs n1.text, .int .i64 n1.pos, .slice ka kl kq])).kp kk (by omega))
        have Tk_2 := Lib.hid ((Tk_1.out.alloc _).kp kk (by first | omega | (simp; omega)))
        have K_2 := (K_1.alloc _).trans kk
        have l_2 : w1.heap.size + 1 ≤ w2.heap.size := by have := kk.size; simpa using this
        clear kk hb 
        have q0 : (Instr.mapUpdate 122 (.map (some (w2.heap.size + 1))) (.string ⟨#[60]⟩) (.string ⟨#[108, 101, 115, 115]⟩)).run Tryz.prog ((w2.alloc (.cells #[.int .i64 t.kind, vs t.text, .int .i64 t.pos] 60)).alloc (.map #[] 0)) = .ok () ((w2.alloc (.cells #[.int .i64 t.kind, vs t.text, .int .i64 t.pos] 60)).alloc (.map #[{ key := .string ⟨#[60]⟩, val := .string ⟨#[108, 101, 115, 115]⟩, born := 0 }] 1)) := run_put _ _ (by simp) _ _ _ _ rfl
        have q1 : (Instr.mapUpdate 122 (.map (some (w2.heap.size + 1))) (.string ⟨#[60, 61]⟩) (.string ⟨#[108, 101, 115, 115, 101, 113]⟩)).run Tryz.prog ((w2.alloc (.cells #[.int .i64 t.kind, vs t.text, .int .i64 t.pos] 60)).alloc (.map #[{ key := .string ⟨#[60]⟩, val := .string ⟨#[108, 101, 115, 115]⟩, born := 0 }] 1)) = .ok () ((w2.alloc (.cells #[.int .i64 t.kind, vs t.text, .int .i64 t.pos] 60)).alloc (.map #[{ key := .string ⟨#[60]⟩, val := .string ⟨#[108, 101, 115, 115]⟩, born := 0 }, { key := .string ⟨#[60, 61]⟩, val := .string ⟨#[108, 101, 115, 115, 101, 113]⟩, born := 1 }] 2)) := run_put _ _ (by simp) _ _ _ _ rfl
        have q2 : (Instr.mapUpdate 122 (.map (some (w2.heap.size + 1))) (.string ⟨#[61, 61]⟩) (.string ⟨#[101, 113, 117, 97, 108]⟩)).run Tryz.prog ((w2.alloc (.cells #[.int .i64 t.kind, vs t.text, .int .i64 t.pos] 60)).alloc (.map #[{ key := .string ⟨#[60]⟩, val := .string ⟨#[108, 101, 115, 115]⟩, born := 0 }, { key := .string ⟨#[60, 61]⟩, val := .string ⟨#[108, 101, 115, 115, 101, 113]⟩, born := 1 }] 2)) = .ok () ((w2.alloc (.cells #[.int .i64 t.kind, vs t.text, .int .i64 t.pos] 60)).alloc (.map #[{ key := .string ⟨#[60]⟩, val := .string ⟨#[108, 101, 115, 115]⟩, born := 0 }, { key := .string ⟨#[60, 61]⟩, val := .string ⟨#[108, 101, 115, 115, 101, 113]⟩, born := 1 }, { key := .string ⟨#[61, 61]⟩, val := .string ⟨#[101, 113, 117, 97, 108]⟩, born := 2 }] 3)) := run_put _ _ (by simp) _ _ _ _ rfl
        have q3 : (Instr.mapUpdate 122 (.map (some (w2.heap.size + 1))) (.string ⟨#[33, 61]⟩) (.string ⟨#[110, 111, 116, 101, 113, 117, 97, 108]⟩)).run Tryz.prog ((w2.alloc (.cells #[.int .i64 t.kind, vs t.text, .int .i64 t.pos] 60)).alloc (.map #[{ key := .string ⟨#[60]⟩, val := .string ⟨#[108, 101, 115, 115]⟩, born := 0 }, { key := .string ⟨#[60, 61]⟩, val := .string ⟨#[108, 101, 115, 115, 101, 113]⟩, born := 1 }, { key := .string ⟨#[61, 61]⟩, val := .string ⟨#[101, 113, 117, 97, 108]⟩, born := 2 }] 3)) = .ok () ((w2.alloc (.cells #[.int .i64 t.kind, vs t.text, .int .i64 t.pos] 60)).alloc (.map #[{ key := .string ⟨#[60]⟩, val := .string ⟨#[108, 101, 115, 115]⟩, born := 0 }, { key := .string ⟨#[60, 61]⟩, val := .string ⟨#[108, 101, 115, 115, 101, 113]⟩, born := 1 }, { key := .string ⟨#[61, 61]⟩, val := .string ⟨#[101, 113, 117, 97, 108]⟩, born := 2 }, { key := .string ⟨#[33, 61]⟩, val := .string ⟨#[110, 111, 116, 101, 113, 117, 97, 108]⟩, born := 3 }] 4)) := run_put _ _ (by simp) _ _ _ _ rfl
        have q4 : (Instr.mapUpdate 122 (.map (some (w2.heap.size + 1))) (.string ⟨#[62]⟩) (.string ⟨#[103, 114, 101, 97, 116, 101, 114]⟩)).run Tryz.prog ((w2.alloc (.cells #[.int .i64 t.kind, vs t.text, .int .i64 t.pos] 60)).alloc (.map #[{ key := .string ⟨#[60]⟩, val := .string ⟨#[108, 101, 115, 115]⟩, born := 0 }, { key := .string ⟨#[60, 61]⟩, val := .string ⟨#[108, 101, 115, 115, 101, 113]⟩, born := 1 }, { key := .string ⟨#[61, 61]⟩, val := .string ⟨#[101, 113, 117, 97, 108]⟩, born := 2 }, { key := .string ⟨#[33, 61]⟩, val := .string ⟨#[110, 111, 116, 101, 113, 117, 97, 108]⟩, born := 3 }] 4)) = .ok () ((w2.alloc (.cells #[.int .i64 t.kind, vs t.text, .int .i64 t.pos] 60)).alloc (.map #[{ key := .string ⟨#[60]⟩, val := .string ⟨#[108, 101, 115, 115]⟩, born := 0 }, { key := .string ⟨#[60, 61]⟩, val := .string ⟨#[108, 101, 115, 115, 101, 113]⟩, born := 1 }, { key := .string ⟨#[61, 61]⟩, val := .string ⟨#[101, 113, 117, 97, 108]⟩, born := 2 }, { key := .string ⟨#[33, 61]⟩, val := .string ⟨#[110, 111, 116, 101, 113, 117, 97, 108]⟩, born := 3 }, { key := .string ⟨#[62]⟩, val := .string ⟨#[103, 114, 101, 97, 116, 101, 114]⟩, born := 4 }] 5)) := run_put _ _ (by simp) _ _ _ _ rfl
        have q5 : (Instr.mapUpdate 122 (.map (some (w2.heap.size + 1))) (.string ⟨#[62, 61]⟩) (.string ⟨#[103, 114, 101, 97, 116, 101, 114, 101, 113]⟩)).run Tryz.prog ((w2.alloc (.cells #[.int .i64 t.kind, vs t.text, .int .i64 t.pos] 60)).alloc (.map #[{ key := .string ⟨#[60]⟩, val := .string ⟨#[108, 101, 115, 115]⟩, born := 0 }, { key := .string ⟨#[60, 61]⟩, val := .string ⟨#[108, 101, 115, 115, 101, 113]⟩, born := 1 }, { key := .string ⟨#[61, 61]⟩, val := .string ⟨#[101, 113, 117, 97, 108]⟩, born := 2 }, { key := .string ⟨#[33, 61]⟩, val := .string ⟨#[110, 111, 116, 101, 113, 117, 97, 108]⟩, born := 3 }, { key := .string ⟨#[62]⟩, val := .string ⟨#[103, 114, 101, 97, 116, 101, 114]⟩, born := 4 }] 5)) = .ok () ((w2.alloc (.cells #[.int .i64 t.kind, vs t.text, .int .i64 t.pos] 60)).alloc (.map #[{ key := .string ⟨#[60]⟩, val := .string ⟨#[108, 101, 115, 115]⟩, born := 0 }, { key := .string ⟨#[60, 61]⟩, val := .string ⟨#[108, 101, 115, 115, 101, 113]⟩, born := 1 }, { key := .string ⟨#[61, 61]⟩, val := .string ⟨#[101, 113, 117, 97, 108]⟩, born := 2 }, { key := .string ⟨#[33, 61]⟩, val := .string ⟨#[110, 111, 116, 101, 113, 117, 97, 108]⟩, born := 3 }, { key := .string ⟨#[62]⟩, val := .string ⟨#[103, 114, 101, 97, 116, 101, 114]⟩, born := 4 }, { key := .string ⟨#[62, 61]⟩, val := .string ⟨#[103, 114, 101, 97, 116, 101, 114, 101, 113]⟩, born := 5 }] 6)) := run_put _ _ (by simp) _ _ _ _ rfl
        have hl := Hlook.out ((w2.alloc (.cells #[.int .i64 t.kind, vs t.text, .int .i64 t.pos] 60)).alloc (.map #[{ key := .string ⟨#[60]⟩, val := .string ⟨#[108, 101, 115, 115]⟩, born := 0 }, { key := .string ⟨#[60, 61]⟩, val := .string ⟨#[108, 101, 115, 115, 101, 113]⟩, born := 1 }, { key := .string ⟨#[61, 61]⟩, val := .string ⟨#[101, 113, 117, 97, 108]⟩, born := 2 }, { key := .string ⟨#[33, 61]⟩, val := .string ⟨#[110, 111, 116, 101, 113, 117, 97, 108]⟩, born := 3 }, { key := .string ⟨#[62]⟩, val := .string ⟨#[103, 114, 101, 97, 116, 101, 114]⟩, born := 4 }, { key := .string ⟨#[62, 61]⟩, val := .string ⟨#[103, 114, 101, 97, 116, 101, 114, 101, 113]⟩, born := 5 }] 6)) (w2.heap.size + 1) (.new _ _ (by simp) _ _ _ rfl)
        have p3 := P_2.out.c3
        have pl := P_2.out.blk.lt
        obtain ⟨b0, b1, b2, b3⟩ := B_2.out.four
        obtain ⟨r0, r1, r2, r3⟩ := R_2.out.four
        have lb := B_2.out.lt
        have lr := R_2.out.lt
        have rf0 := R_2.out.frozen 0
        have rf1 := R_2.out.frozen 1
        have rf2 := R_2.out.frozen 2
        have rf3 := R_2.out.frozen 3
        go_wp2_with fail
        refine bodyPost_ret (results_node Tryz.results116 rfl ((R_2.out.put4.alloc _).alloc _)) rfl ⟨_, _, _, rfl, ?_, ((P_2.out.put4 (by omega)).alloc _).alloc _, ((K_2.put4 (Nat.le_refl _)).alloc _).alloc _⟩
        exact (((Tk_2.out.put4 (by simp)).mono (fun b hb _ => by simp at hb; omega)).alloc _).alloc _
      · have ho1 : opn.isEmpty = false := by cases opn with | nil => exact absurd rfl ho | cons a b => rfl
        have ho2 : (opn == []) = false := by simpa using ho
        by_cases hx : t.text = [62]
        · have kx : (t.text == [62]) = true := by simpa using hx
          cases hfl : s2.flat with
          | true =>
          rw [if_pos (.inr (.inr ⟨hx, hfl⟩))] at hh
          simp only [Option.some.injEq, Prod.mk.injEq] at hh
          obtain ⟨rfl, rfl⟩ := hh
          clear h8 hx
          go_enter Tryz.func116, Tryz.ntmps116
          go_wp2_with fail
          refine (HN.out _ _ _ _ (P_0.out.alloc _) HM.out).mono ?_
          rintro e w1 ⟨ka, kl, kq, rfl, tt, pp, kp⟩
          have P_1 := Lib.hid pp
          have R_1 := Lib.hid (((Blk.new w 25 z4)).kp kp (by omega))
          have K_1 := ((Kp.refl c.bp w).alloc _).trans kp
          have l_1 : w.heap.size + 1 ≤ w1.heap.size := by have := kp.size; simpa using this
          clear kp pp 
          have Tk_1 := Lib.hid tt
          clear tt
          go_wp2_with fail
          refine (Hcur.out _ (P_1.out.alloc _)).mono ?_
          rintro e w2 ⟨rfl, hb⟩
          have kk := Kp.of_below (b := c.bp) hb
          have P_2 := Lib.hid ((P_1.out.alloc _).below hb)
          have R_2 := Lib.hid ((R_1.out.alloc _).kp kk (by omega))
          have B_2 := Lib.hid (((Blk.new w1 25 #[vs n1.op, vs n1.text, .int .i64 n1.pos, .slice ka kl kq])).kp kk (by omega))
          have Tk_2 := Lib.hid ((Tk_1.out.alloc _).kp kk (by first | omega | (simp; omega)))
          have K_2 := (K_1.alloc _).trans kk
          have l_2 : w1.heap.size + 1 ≤ w2.heap.size := by have := kk.size; simpa using this
          clear kk hb 
          have q0 : (Instr.mapUpdate 122 (.map (some (w2.heap.size + 1))) (.string ⟨#[60]⟩) (.string ⟨#[108, 101, 115, 115]⟩)).run Tryz.prog ((w2.alloc (.cells #[.int .i64 t.kind, vs t.text, .int .i64 t.pos] 60)).alloc (.map #[] 0)) = .ok () ((w2.alloc (.cells #[.int .i64 t.kind, vs t.text, .int .i64 t.pos] 60)).alloc (.map #[{ key := .string ⟨#[60]⟩, val := .string ⟨#[108, 101, 115, 115]⟩, born := 0 }] 1)) := run_put _ _ (by simp) _ _ _ _ rfl
          have q1 : (Instr.mapUpdate 122 (.map (some (w2.heap.size + 1))) (.string ⟨#[60, 61]⟩) (.string ⟨#[108, 101, 115, 115, 101, 113]⟩)).run Tryz.prog ((w2.alloc (.cells #[.int .i64 t.kind, vs t.text, .int .i64 t.pos] 60)).alloc (.map #[{ key := .string ⟨#[60]⟩, val := .string ⟨#[108, 101, 115, 115]⟩, born := 0 }] 1)) = .ok () ((w2.alloc (.cells #[.int .i64 t.kind, vs t.text, .int .i64 t.pos] 60)).alloc (.map #[{ key := .string ⟨#[60]⟩, val := .string ⟨#[108, 101, 115, 115]⟩, born := 0 }, { key := .string ⟨#[60, 61]⟩, val := .string ⟨#[108, 101, 115, 115, 101, 113]⟩, born := 1 }] 2)) := run_put _ _ (by simp) _ _ _ _ rfl
          have q2 : (Instr.mapUpdate 122 (.map (some (w2.heap.size + 1))) (.string ⟨#[61, 61]⟩) (.string ⟨#[101, 113, 117, 97, 108]⟩)).run Tryz.prog ((w2.alloc (.cells #[.int .i64 t.kind, vs t.text, .int .i64 t.pos] 60)).alloc (.map #[{ key := .string ⟨#[60]⟩, val := .string ⟨#[108, 101, 115, 115]⟩, born := 0 }, { key := .string ⟨#[60, 61]⟩, val := .string ⟨#[108, 101, 115, 115, 101, 113]⟩, born := 1 }] 2)) = .ok () ((w2.alloc (.cells #[.int .i64 t.kind, vs t.text, .int .i64 t.pos] 60)).alloc (.map #[{ key := .string ⟨#[60]⟩, val := .string ⟨#[108, 101, 115, 115]⟩, born := 0 }, { key := .string ⟨#[60, 61]⟩, val := .string ⟨#[108, 101, 115, 115, 101, 113]⟩, born := 1 }, { key := .string ⟨#[61, 61]⟩, val := .string ⟨#[101, 113, 117, 97, 108]⟩, born := 2 }] 3)) := run_put _ _ (by simp) _ _ _ _ rfl
          have q3 : (Instr.mapUpdate 122 (.map (some (w2.heap.size + 1))) (.string ⟨#[33, 61]⟩) (.string ⟨#[110, 111, 116, 101, 113, 117, 97, 108]⟩)).run Tryz.prog ((w2.alloc (.cells #[.int .i64 t.kind, vs t.text, .int .i64 t.pos] 60)).alloc (.map #[{ key := .string ⟨#[60]⟩, val := .string ⟨#[108, 101, 115, 115]⟩, born := 0 }, { key := .string ⟨#[60, 61]⟩, val := .string ⟨#[108, 101, 115, 115, 101, 113]⟩, born := 1 }, { key := .string ⟨#[61, 61]⟩, val := .string ⟨#[101, 113, 117, 97, 108]⟩, born := 2 }] 3)) = .ok () ((w2.alloc (.cells #[.int .i64 t.kind, vs t.text, .int .i64 t.pos] 60)).alloc (.map #[{ key := .string ⟨#[60]⟩, val := .string ⟨#[108, 101, 115, 115]⟩, born := 0 }, { key := .string ⟨#[60, 61]⟩, val := .string ⟨#[108, 101, 115, 115, 101, 113]⟩, born := 1 }, { key := .string ⟨#[61, 61]⟩, val := .string ⟨#[101, 113, 117, 97, 108]⟩, born := 2 }, { key := .string ⟨#[33, 61]⟩, val := .string ⟨#[110, 111, 116, 101, 113, 117, 97, 108]⟩, born := 3 }] 4)) := run_put _ _ (by simp) _ _ _ _ rfl
          have q4 : (Instr.mapUpdate 122 (.map (some (w2.heap.size + 1))) (.string ⟨#[62]⟩) (.string ⟨#[103, 114, 101, 97, 116, 101, 114]⟩)).run Tryz.prog ((w2.alloc (.cells #[.int .i64 t.kind, vs t.text, .int .i64 t.pos] 60)).alloc (.map #[{ key := .string ⟨#[60]⟩, val := .string ⟨#[108, 101, 115, 115]⟩, born := 0 }, { key := .string ⟨#[60, 61]⟩, val := .string ⟨#[108, 101, 115, 115, 101, 113]⟩, born := 1 }, { key := .string ⟨#[61, 61]⟩, val := .string ⟨#[101, 113, 117, 97, 108]⟩, born := 2 }, { key := .string ⟨#[33, 61]⟩, val := .string ⟨#[110, 111, 116, 101, 113, 117, 97, 108]⟩, born := 3 }] 4)) = .ok () ((w2.alloc (.cells #[.int .i64 t.kind, vs t.text, .int .i64 t.pos] 60)).alloc (.map #[{ key := .string ⟨#[60]⟩, val := .string ⟨#[108, 101, 115, 115]⟩, born := 0 }, { key := .string ⟨#[60, 61]⟩, val := .string ⟨#[108, 101, 115, 115, 101, 113]⟩, born := 1 }, { key := .string ⟨#[61, 61]⟩, val := .string ⟨#[101, 113, 117, 97, 108]⟩, born := 2 }, { key := .string ⟨#[33, 61]⟩, val := .string ⟨#[110, 111, 116, 101, 113, 117, 97, 108]⟩, born := 3 }, { key := .string ⟨#[62]⟩, val := .string ⟨#[103, 114, 101, 97, 116, 101, 114]⟩, born := 4 }] 5)) := run_put _ _ (by simp) _ _ _ _ rfl
          have q5 : (Instr.mapUpdate 122 (.map (some (w2.heap.size + 1))) (.string ⟨#[62, 61]⟩) (.string ⟨#[103, 114, 101, 97, 116, 101, 114, 101, 113]⟩)).run Tryz.prog ((w2.alloc (.cells #[.int .i64 t.kind, vs t.text, .int .i64 t.pos] 60)).alloc (.map #[{ key := .string ⟨#[60]⟩, val := .string ⟨#[108, 101, 115, 115]⟩, born := 0 }, { key := .string ⟨#[60, 61]⟩, val := .string ⟨#[108, 101, 115, 115, 101, 113]⟩, born := 1 }, { key := .string ⟨#[61, 61]⟩, val := .string ⟨#[101, 113, 117, 97, 108]⟩, born := 2 }, { key := .string ⟨#[33, 61]⟩, val := .string ⟨#[110, 111, 116, 101, 113, 117, 97, 108]⟩, born := 3 }, { key := .string ⟨#[62]⟩, val := .string ⟨#[103, 114, 101, 97, 116, 101, 114]⟩, born := 4 }] 5)) = .ok () ((w2.alloc (.cells #[.int .i64 t.kind, vs t.text, .int .i64 t.pos] 60)).alloc (.map #[{ key := .string ⟨#[60]⟩, val := .string ⟨#[108, 101, 115, 115]⟩, born := 0 }, { key := .string ⟨#[60, 61]⟩, val := .string ⟨#[108, 101, 115, 115, 101, 113]⟩, born := 1 }, { key := .string ⟨#[61, 61]⟩, val := .string ⟨#[101, 113, 117, 97, 108]⟩, born := 2 }, { key := .string ⟨#[33, 61]⟩, val := .string ⟨#[110, 111, 116, 101, 113, 117, 97, 108]⟩, born := 3 }, { key := .string ⟨#[62]⟩, val := .string ⟨#[103, 114, 101, 97, 116, 101, 114]⟩, born := 4 }, { key := .string ⟨#[62, 61]⟩, val := .string ⟨#[103, 114, 101, 97, 116, 101, 114, 101, 113]⟩, born := 5 }] 6)) := run_put _ _ (by simp) _ _ _ _ rfl
          have hl := Hlook.out ((w2.alloc (.cells #[.int .i64 t.kind, vs t.text, .int .i64 t.pos] 60)).alloc (.map #[{ key := .string ⟨#[60]⟩, val := .string ⟨#[108, 101, 115, 115]⟩, born := 0 }, { key := .string ⟨#[60, 61]⟩, val := .string ⟨#[108, 101, 115, 115, 101, 113]⟩, born := 1 }, { key := .string ⟨#[61, 61]⟩, val := .string ⟨#[101, 113, 117, 97, 108]⟩, born := 2 }, { key := .string ⟨#[33, 61]⟩, val := .string ⟨#[110, 111, 116, 101, 113, 117, 97, 108]⟩, born := 3 }, { key := .string ⟨#[62]⟩, val := .string ⟨#[103, 114, 101, 97, 116, 101, 114]⟩, born := 4 }, { key := .string ⟨#[62, 61]⟩, val := .string ⟨#[103, 114, 101, 97, 116, 101, 114, 101, 113]⟩, born := 5 }] 6)) (w2.heap.size + 1) (.new _ _ (by simp) _ _ _ rfl)
          have p3 := P_2.out.c3
          have pl := P_2.out.blk.lt
          obtain ⟨b0, b1, b2, b3⟩ := B_2.out.four
          obtain ⟨r0, r1, r2, r3⟩ := R_2.out.four
          have lb := B_2.out.lt
          have lr := R_2.out.lt
          have rf0 := R_2.out.frozen 0
          have rf1 := R_2.out.frozen 1
          have rf2 := R_2.out.frozen 2
          have rf3 := R_2.out.frozen 3
          go_wp2_with fail
          refine bodyPost_ret (results_node Tryz.results116 rfl ((R_2.out.put4.alloc _).alloc _)) rfl ⟨_, _, _, rfl, ?_, ((P_2.out.put4 (by omega)).alloc _).alloc _, ((K_2.put4 (Nat.le_refl _)).alloc _).alloc _⟩
          exact (((Tk_2.out.put4 (by simp)).mono (fun b hb _ => by simp at hb; omega)).alloc _).alloc _
          | false =>
          rw [if_neg (by simp [h8, ho, hfl])] at hh
          cases hE2 : next (Pp.step c.T s2) with
          | none => rw [hE2] at hh; cases hh
          | some r =>
          obtain ⟨m', s3⟩ := r
          rw [hE2] at hh
          simp only [Option.some.injEq, Prod.mk.injEq] at hh
          obtain ⟨rfl, rfl⟩ := hh
          have HM2 := Lib.hid hE2
          clear h8 hx hE2
          go_enter Tryz.func116, Tryz.ntmps116
          go_wp2_with fail
          refine (HN.out _ _ _ _ (P_0.out.alloc _) HM.out).mono ?_
          rintro e w1 ⟨ka, kl, kq, rfl, tt, pp, kp⟩
          have P_1 := Lib.hid pp
          have R_1 := Lib.hid (((Blk.new w 25 z4)).kp kp (by omega))
          have K_1 := ((Kp.refl c.bp w).alloc _).trans kp
          have l_1 : w.heap.size + 1 ≤ w1.heap.size := by have := kp.size; simpa using this
          clear kp pp 
          have Tk_1 := Lib.hid tt
          clear tt
          go_wp2_with fail
          refine (Hcur.out _ (P_1.out.alloc _)).mono ?_
          rintro e w2 ⟨rfl, hb⟩
          have kk := Kp.of_below (b := c.bp) hb
          have P_2 := Lib.hid ((P_1.out.alloc _).below hb)
          have R_2 := Lib.hid ((R_1.out.alloc _).kp kk (by omega))
          have B_2 := Lib.hid (((Blk.new w1 25 #[vs n1.op, vs n1.text, .int .i64 n1.pos, .slice ka kl kq])).kp kk (by omega))
          have Tk_2 := Lib.hid ((Tk_1.out.alloc _).kp kk (by first | omega | (simp; omega)))
          have K_2 := (K_1.alloc _).trans kk
          have l_2 : w1.heap.size + 1 ≤ w2.heap.size := by have := kk.size; simpa using this
          clear kk hb 
          have q0 : (Instr.mapUpdate 122 (.map (some (w2.heap.size + 1))) (.string ⟨#[60]⟩) (.string ⟨#[108, 101, 115, 115]⟩)).run Tryz.prog ((w2.alloc (.cells #[.int .i64 t.kind, vs t.text, .int .i64 t.pos] 60)).alloc (.map #[] 0)) = .ok () ((w2.alloc (.cells #[.int .i64 t.kind, vs t.text, .int .i64 t.pos] 60)).alloc (.map #[{ key := .string ⟨#[60]⟩, val := .string ⟨#[108, 101, 115, 115]⟩, born := 0 }] 1)) := run_put _ _ (by simp) _ _ _ _ rfl
          have q1 : (Instr.mapUpdate 122 (.map (some (w2.heap.size + 1))) (.string ⟨#[60, 61]⟩) (.string ⟨#[108, 101, 115, 115, 101, 113]⟩)).run Tryz.prog ((w2.alloc (.cells #[.int .i64 t.kind, vs t.text, .int .i64 t.pos] 60)).alloc (.map #[{ key := .string ⟨#[60]⟩, val := .string ⟨#[108, 101, 115, 115]⟩, born := 0 }] 1)) = .ok () ((w2.alloc (.cells #[.int .i64 t.kind, vs t.text, .int .i64 t.pos] 60)).alloc (.map #[{ key := .string ⟨#[60]⟩, val := .string ⟨#[108, 101, 115, 115]⟩, born := 0 }, { key := .string ⟨#[60, 61]⟩, val := .string ⟨#[108, 101, 115, 115, 101, 113]⟩, born := 1 }] 2)) := run_put _ _ (by simp) _ _ _ _ rfl
          have q2 : (Instr.mapUpdate 122 (.map (some (w2.heap.size + 1))) (.string ⟨#[61, 61]⟩) (.string ⟨#[101, 113, 117, 97, 108]⟩)).run Tryz.prog ((w2.alloc (.cells #[.int .i64 t.kind, vs t.text, .int .i64 t.pos] 60)).alloc (.map #[{ key := .string ⟨#[60]⟩, val := .string ⟨#[108, 101, 115, 115]⟩, born := 0 }, { key := .string ⟨#[60, 61]⟩, val := .string ⟨#[108, 101, 115, 115, 101, 113]⟩, born := 1 }] 2)) = .ok () ((w2.alloc (.cells #[.int .i64 t.kind, vs t.text, .int .i64 t.pos] 60)).alloc (.map #[{ key := .string ⟨#[60]⟩, val := .string ⟨#[108, 101, 115, 115]⟩, born := 0 }, { key := .string ⟨#[60, 61]⟩, val := .string ⟨#[108, 101, 115, 115, 101, 113]⟩, born := 1 }, { key := .string ⟨#[61, 61]⟩, val := .string ⟨#[101, 113, 117, 97, 108]⟩, born := 2 }] 3)) := run_put _ _ (by simp) _ _ _ _ rfl
          have q3 : (Instr.mapUpdate 122 (.map (some (w2.heap.size + 1))) (.string ⟨#[33, 61]⟩) (.string ⟨#[110, 111, 116, 101, 113, 117, 97, 108]⟩)).run Tryz.prog ((w2.alloc (.cells #[.int .i64 t.kind, vs t.text, .int .i64 t.pos] 60)).alloc (.map #[{ key := .string ⟨#[60]⟩, val := .string ⟨#[108, 101, 115, 115]⟩, born := 0 }, { key := .string ⟨#[60, 61]⟩, val := .string ⟨#[108, 101, 115, 115, 101, 113]⟩, born := 1 }, { key := .string ⟨#[61, 61]⟩, val := .string ⟨#[101, 113, 117, 97, 108]⟩, born := 2 }] 3)) = .ok () ((w2.alloc (.cells #[.int .i64 t.kind, vs t.text, .int .i64 t.pos] 60)).alloc (.map #[{ key := .string ⟨#[60]⟩, val := .string ⟨#[108, 101, 115, 115]⟩, born := 0 }, { key := .string ⟨#[60, 61]⟩, val := .string ⟨#[108, 101, 115, 115, 101, 113]⟩, born := 1 }, { key := .string ⟨#[61, 61]⟩, val := .string ⟨#[101, 113, 117, 97, 108]⟩, born := 2 }, { key := .string ⟨#[33, 61]⟩, val := .string ⟨#[110, 111, 116, 101, 113, 117, 97, 108]⟩, born := 3 }] 4)) := run_put _ _ (by simp) _ _ _ _ rfl
          have q4 : (Instr.mapUpdate 122 (.map (some (w2.heap.size + 1))) (.string ⟨#[62]⟩) (.string ⟨#[103, 114, 101, 97, 116, 101, 114]⟩)).run Tryz.prog ((w2.alloc (.cells #[.int .i64 t.kind, vs t.text, .int .i64 t.pos] 60)).alloc (.map #[{ key := .string ⟨#[60]⟩, val := .string ⟨#[108, 101, 115, 115]⟩, born := 0 }, { key := .string ⟨#[60, 61]⟩, val := .string ⟨#[108, 101, 115, 115, 101, 113]⟩, born := 1 }, { key := .string ⟨#[61, 61]⟩, val := .string ⟨#[101, 113, 117, 97, 108]⟩, born := 2 }, { key := .string ⟨#[33, 61]⟩, val := .string ⟨#[110, 111, 116, 101, 113, 117, 97, 108]⟩, born := 3 }] 4)) = .ok () ((w2.alloc (.cells #[.int .i64 t.kind, vs t.text, .int .i64 t.pos] 60)).alloc (.map #[{ key := .string ⟨#[60]⟩, val := .string ⟨#[108, 101, 115, 115]⟩, born := 0 }, { key := .string ⟨#[60, 61]⟩, val := .string ⟨#[108, 101, 115, 115, 101, 113]⟩, born := 1 }, { key := .string ⟨#[61, 61]⟩, val := .string ⟨#[101, 113, 117, 97, 108]⟩, born := 2 }, { key := .string ⟨#[33, 61]⟩, val := .string ⟨#[110, 111, 116, 101, 113, 117, 97, 108]⟩, born := 3 }, { key := .string ⟨#[62]⟩, val := .string ⟨#[103, 114, 101, 97, 116, 101, 114]⟩, born := 4 }] 5)) := run_put _ _ (by simp) _ _ _ _ rfl
          have q5 : (Instr.mapUpdate 122 (.map (some (w2.heap.size + 1))) (.string ⟨#[62, 61]⟩) (.string ⟨#[103, 114, 101, 97, 116, 101, 114, 101, 113]⟩)).run Tryz.prog ((w2.alloc (.cells #[.int .i64 t.kind, vs t.text, .int .i64 t.pos] 60)).alloc (.map #[{ key := .string ⟨#[60]⟩, val := .string ⟨#[108, 101, 115, 115]⟩, born := 0 }, { key := .string ⟨#[60, 61]⟩, val := .string ⟨#[108, 101, 115, 115, 101, 113]⟩, born := 1 }, { key := .string ⟨#[61, 61]⟩, val := .string ⟨#[101, 113, 117, 97, 108]⟩, born := 2 }, { key := .string ⟨#[33, 61]⟩, val := .string ⟨#[110, 111, 116, 101, 113, 117, 97, 108]⟩, born := 3 }, { key := .string ⟨#[62]⟩, val := .string ⟨#[103, 114, 101, 97, 116, 101, 114]⟩, born := 4 }] 5)) = .ok () ((w2.alloc (.cells #[.int .i64 t.kind, vs t.text, .int .i64 t.pos] 60)).alloc (.map #[{ key := .string ⟨#[60]⟩, val := .string ⟨#[108, 101, 115, 115]⟩, born := 0 }, { key := .string ⟨#[60, 61]⟩, val := .string ⟨#[108, 101, 115, 115, 101, 113]⟩, born := 1 }, { key := .string ⟨#[61, 61]⟩, val := .string ⟨#[101, 113, 117, 97, 108]⟩, born := 2 }, { key := .string ⟨#[33, 61]⟩, val := .string ⟨#[110, 111, 116, 101, 113, 117, 97, 108]⟩, born := 3 }, { key := .string ⟨#[62]⟩, val := .string ⟨#[103, 114, 101, 97, 116, 101, 114]⟩, born := 4 }, { key := .string ⟨#[62, 61]⟩, val := .string ⟨#[103, 114, 101, 97, 116, 101, 114, 101, 113]⟩, born := 5 }] 6)) := run_put _ _ (by simp) _ _ _ _ rfl
          have hl := Hlook.out ((w2.alloc (.cells #[.int .i64 t.kind, vs t.text, .int .i64 t.pos] 60)).alloc (.map #[{ key := .string ⟨#[60]⟩, val := .string ⟨#[108, 101, 115, 115]⟩, born := 0 }, { key := .string ⟨#[60, 61]⟩, val := .string ⟨#[108, 101, 115, 115, 101, 113]⟩, born := 1 }, { key := .string ⟨#[61, 61]⟩, val := .string ⟨#[101, 113, 117, 97, 108]⟩, born := 2 }, { key := .string ⟨#[33, 61]⟩, val := .string ⟨#[110, 111, 116, 101, 113, 117, 97, 108]⟩, born := 3 }, { key := .string ⟨#[62]⟩, val := .string ⟨#[103, 114, 101, 97, 116, 101, 114]⟩, born := 4 }, { key := .string ⟨#[62, 61]⟩, val := .string ⟨#[103, 114, 101, 97, 116, 101, 114, 101, 113]⟩, born := 5 }] 6)) (w2.heap.size + 1) (.new _ _ (by simp) _ _ _ rfl)
          have p3 := P_2.out.c3
          have pl := P_2.out.blk.lt
          go_wp2_with fail
          refine (step_any c _ _ ((P_2.out.alloc _).alloc _)).mono ?_
          rintro e w3 ⟨rfl, pp, kp⟩
          have P_3 := Lib.hid pp
          have R_3 := Lib.hid (((R_2.out.alloc _).alloc _).kp kp (by omega))
          have B_3 := Lib.hid (((B_2.out.alloc _).alloc _).kp kp (by omega))
          have Tk_3 := Lib.hid (((Tk_2.out.alloc _).alloc _).kp kp (by first | omega | (simp; omega)))
          have K_3 := ((K_2.alloc _).alloc _).trans kp
          have l_3 : w2.heap.size + 2 ≤ w3.heap.size := by have := kp.size; simpa using this
          clear kp pp 
          go_wp2_with fail
          have GL := Lib.hid B_3.out.drew
          have GT := Lib.hid R_3.out.drew
          obtain ⟨ld0, ld1, ld2, ld3⟩ := B_3.out.four
          go_region_with (first
            | (go_at_call 106; refine (HN.out _ _ _ _ P_3.out.drew HM2.out).mono ?_; rintro e w4 ⟨ma, ml, mq, rfl, tt, pp, kp⟩; have GL4 := Lib.hid (GL.out.kp kp (by omega)); have GT4 := Lib.hid (GT.out.kp kp (by omega)); obtain ⟨lq0, lq1, lq2, lq3⟩ := GL4.out.four; have PP := Lib.hid pp; have TT := Lib.hid tt; clear pp tt)
            | (go_at_call 25; refine (node_any _ _ _ _ _).mono ?_; rintro e w5 ⟨rfl, hb⟩; have lk := kp.size; have GT5 := Lib.hid ((GT4.out.alloc _).under hb); obtain ⟨gt0, gt1, gt2, gt3⟩ := GT5.out.four; have gf0 := GT5.out.frozen 0; have gf1 := GT5.out.frozen 1; have gf2 := GT5.out.frozen 2; have gf3 := GT5.out.frozen 3))
          all_goals
            have P_4 := Lib.hid PP
            have R_4 := Lib.hid (R_3.out.drew.kp kp (by omega))
            have B_4 := Lib.hid (B_3.out.drew.kp kp (by omega))
            have Tk_4 := Lib.hid (Tk_3.out.drew.kp kp (by first | omega | (simp; omega)))
            have K_4 := K_3.drew.trans kp
            have l_4 : w3.heap.size + 0 ≤ w4.heap.size := by have := kp.size; simpa using this
            have Tm_4 := TT
            have kk := Kp.of_below (b := c.bp) hb
            have P_5 := Lib.hid ((P_4.out.alloc _).below hb)
            have R_5 := Lib.hid ((R_4.out.alloc _).kp kk (by omega))
            have B_5 := Lib.hid ((B_4.out.alloc _).kp kk (by omega))
            have A_5 := Lib.hid (((Blk.new w4 25 #[vs n1.op, vs n1.text, .int .i64 n1.pos, .slice ka kl kq, vs m'.op, vs m'.text, .int .i64 m'.pos, .slice ma ml mq])).kp kk (by omega))
            have Tk_5 := Lib.hid ((Tk_4.out.alloc _).kp kk (by first | omega | (simp; omega)))
            have Tm_5 := Lib.hid ((Tm_4.out.alloc _).kp kk (by first | omega | (simp; omega)))
            have K_5 := (K_4.alloc _).trans kk
            have l_5 : w4.heap.size + 1 ≤ w5.heap.size := by have := kk.size; simpa using this
            clear kp kk hb
            go_wp2_with fail
            exact bodyPost_ret (results_node Tryz.results116 rfl R_5.out.put4) rfl ⟨some ⟨w4.heap.size, 0, none⟩, 2, 2, rfl, ((KidsAt.two (n1 := n1) (n2 := m') (S := fun b => w.heap.size < b) A_5.out (by omega) (Tk_5.out.mono (fun b hb _ => by simp at hb; omega)) (Tm_5.out.mono (fun b hb _ => by simp at hb; omega))).put4 (by simp)).mono (fun b hb _ => by omega), P_5.out.put4 (by omega), K_5.put4 (Nat.le_refl _)⟩
        · have kx : (t.text == [62]) = false := by simpa using hx
          rw [if_neg (by simp [h8, ho, hx])] at hh
          cases hE2 : next (Pp.step c.T s2) with
          | none => rw [hE2] at hh; cases hh
          | some r =>
          obtain ⟨m', s3⟩ := r
          rw [hE2] at hh
          simp only [Option.some.injEq, Prod.mk.injEq] at hh
          obtain ⟨rfl, rfl⟩ := hh
          have HM2 := Lib.hid hE2
          clear h8 hx hE2
          go_enter Tryz.func116, Tryz.ntmps116
          go_wp2_with fail
          refine (HN.out _ _ _ _ (P_0.out.alloc _) HM.out).mono ?_
          rintro e w1 ⟨ka, kl, kq, rfl, tt, pp, kp⟩
          have P_1 := Lib.hid pp
          have R_1 := Lib.hid (((Blk.new w 25 z4)).kp kp (by omega))
          have K_1 := ((Kp.refl c.bp w).alloc _).trans kp
          have l_1 : w.heap.size + 1 ≤ w1.heap.size := by have := kp.size; simpa using this
          clear kp pp 
          have Tk_1 := Lib.hid tt
          clear tt
          go_wp2_with fail
          refine (Hcur.out _ (P_1.out.alloc _)).mono ?_
          rintro e w2 ⟨rfl, hb⟩
          have kk := Kp.of_below (b := c.bp) hb
          have P_2 := Lib.hid ((P_1.out.alloc _).below hb)
          have R_2 := Lib.hid ((R_1.out.alloc _).kp kk (by omega))
          have B_2 := Lib.hid (((Blk.new w1 25 #[vs n1.op, vs n1.text, .int .i64 n1.pos, .slice ka kl kq])).kp kk (by omega))
          have Tk_2 := Lib.hid ((Tk_1.out.alloc _).kp kk (by first | omega | (simp; omega)))
          have K_2 := (K_1.alloc _).trans kk
          have l_2 : w1.heap.size + 1 ≤ w2.heap.size := by have := kk.size; simpa using this
          clear kk hb 
          have q0 : (Instr.mapUpdate 122 (.map (some (w2.heap.size + 1))) (.string ⟨#[60]⟩) (.string ⟨#[108, 101, 115, 115]⟩)).run Tryz.prog ((w2.alloc (.cells #[.int .i64 t.kind, vs t.text, .int .i64 t.pos] 60)).alloc (.map #[] 0)) = .ok () ((w2.alloc (.cells #[.int .i64 t.kind, vs t.text, .int .i64 t.pos] 60)).alloc (.map #[{ key := .string ⟨#[60]⟩, val := .string ⟨#[108, 101, 115, 115]⟩, born := 0 }] 1)) := run_put _ _ (by simp) _ _ _ _ rfl
          have q1 : (Instr.mapUpdate 122 (.map (some (w2.heap.size + 1))) (.string ⟨#[60, 61]⟩) (.string ⟨#[108, 101, 115, 115, 101, 113]⟩)).run Tryz.prog ((w2.alloc (.cells #[.int .i64 t.kind, vs t.text, .int .i64 t.pos] 60)).alloc (.map #[{ key := .string ⟨#[60]⟩, val := .string ⟨#[108, 101, 115, 115]⟩, born := 0 }] 1)) = .ok () ((w2.alloc (.cells #[.int .i64 t.kind, vs t.text, .int .i64 t.pos] 60)).alloc (.map #[{ key := .string ⟨#[60]⟩, val := .string ⟨#[108, 101, 115, 115]⟩, born := 0 }, { key := .string ⟨#[60, 61]⟩, val := .string ⟨#[108, 101, 115, 115, 101, 113]⟩, born := 1 }] 2)) := run_put _ _ (by simp) _ _ _ _ rfl
          have q2 : (Instr.mapUpdate 122 (.map (some (w2.heap.size + 1))) (.string ⟨#[61, 61]⟩) (.string ⟨#[101, 113, 117, 97, 108]⟩)).run Tryz.prog ((w2.alloc (.cells #[.int .i64 t.kind, vs t.text, .int .i64 t.pos] 60)).alloc (.map #[{ key := .string ⟨#[60]⟩, val := .string ⟨#[108, 101, 115, 115]⟩, born := 0 }, { key := .string ⟨#[60, 61]⟩, val := .string ⟨#[108, 101, 115, 115, 101, 113]⟩, born := 1 }] 2)) = .ok () ((w2.alloc (.cells #[.int .i64 t.kind, vs t.text, .int .i64 t.pos] 60)).alloc (.map #[{ key := .string ⟨#[60]⟩, val := .string ⟨#[108, 101, 115, 115]⟩, born := 0 }, { key := .string ⟨#[60, 61]⟩, val := .string ⟨#[108, 101, 115, 115, 101, 113]⟩, born := 1 }, { key := .string ⟨#[61, 61]⟩, val := .string ⟨#[101, 113, 117, 97, 108]⟩, born := 2 }] 3)) := run_put _ _ (by simp) _ _ _ _ rfl
          have q3 : (Instr.mapUpdate 122 (.map (some (w2.heap.size + 1))) (.string ⟨#[33, 61]⟩) (.string ⟨#[110, 111, 116, 101, 113, 117, 97, 108]⟩)).run Tryz.prog ((w2.alloc (.cells #[.int .i64 t.kind, vs t.text, .int .i64 t.pos] 60)).alloc (.map #[{ key := .string ⟨#[60]⟩, val := .string ⟨#[108, 101, 115, 115]⟩, born := 0 }, { key := .string ⟨#[60, 61]⟩, val := .string ⟨#[108, 101, 115, 115, 101, 113]⟩, born := 1 }, { key := .string ⟨#[61, 61]⟩, val := .string ⟨#[101, 113, 117, 97, 108]⟩, born := 2 }] 3)) = .ok () ((w2.alloc (.cells #[.int .i64 t.kind, vs t.text, .int .i64 t.pos] 60)).alloc (.map #[{ key := .string ⟨#[60]⟩, val := .string ⟨#[108, 101, 115, 115]⟩, born := 0 }, { key := .string ⟨#[60, 61]⟩, val := .string ⟨#[108, 101, 115, 115, 101, 113]⟩, born := 1 }, { key := .string ⟨#[61, 61]⟩, val := .string ⟨#[101, 113, 117, 97, 108]⟩, born := 2 }, { key := .string ⟨#[33, 61]⟩, val := .string ⟨#[110, 111, 116, 101, 113, 117, 97, 108]⟩, born := 3 }] 4)) := run_put _ _ (by simp) _ _ _ _ rfl
          have q4 : (Instr.mapUpdate 122 (.map (some (w2.heap.size + 1))) (.string ⟨#[62]⟩) (.string ⟨#[103, 114, 101, 97, 116, 101, 114]⟩)).run Tryz.prog ((w2.alloc (.cells #[.int .i64 t.kind, vs t.text, .int .i64 t.pos] 60)).alloc (.map #[{ key := .string ⟨#[60]⟩, val := .string ⟨#[108, 101, 115, 115]⟩, born := 0 }, { key := .string ⟨#[60, 61]⟩, val := .string ⟨#[108, 101, 115, 115, 101, 113]⟩, born := 1 }, { key := .string ⟨#[61, 61]⟩, val := .string ⟨#[101, 113, 117, 97, 108]⟩, born := 2 }, { key := .string ⟨#[33, 61]⟩, val := .string ⟨#[110, 111, 116, 101, 113, 117, 97, 108]⟩, born := 3 }] 4)) = .ok () ((w2.alloc (.cells #[.int .i64 t.kind, vs t.text, .int .i64 t.pos] 60)).alloc (.map #[{ key := .string ⟨#[60]⟩, val := .string ⟨#[108, 101, 115, 115]⟩, born := 0 }, { key := .string ⟨#[60, 61]⟩, val := .string ⟨#[108, 101, 115, 115, 101, 113]⟩, born := 1 }, { key := .string ⟨#[61, 61]⟩, val := .string ⟨#[101, 113, 117, 97, 108]⟩, born := 2 }, { key := .string ⟨#[33, 61]⟩, val := .string ⟨#[110, 111, 116, 101, 113, 117, 97, 108]⟩, born := 3 }, { key := .string ⟨#[62]⟩, val := .string ⟨#[103, 114, 101, 97, 116, 101, 114]⟩, born := 4 }] 5)) := run_put _ _ (by simp) _ _ _ _ rfl
          have q5 : (Instr.mapUpdate 122 (.map (some (w2.heap.size + 1))) (.string ⟨#[62, 61]⟩) (.string ⟨#[103, 114, 101, 97, 116, 101, 114, 101, 113]⟩)).run Tryz.prog ((w2.alloc (.cells #[.int .i64 t.kind, vs t.text, .int .i64 t.pos] 60)).alloc (.map #[{ key := .string ⟨#[60]⟩, val := .string ⟨#[108, 101, 115, 115]⟩, born := 0 }, { key := .string ⟨#[60, 61]⟩, val := .string ⟨#[108, 101, 115, 115, 101, 113]⟩, born := 1 }, { key := .string ⟨#[61, 61]⟩, val := .string ⟨#[101, 113, 117, 97, 108]⟩, born := 2 }, { key := .string ⟨#[33, 61]⟩, val := .string ⟨#[110, 111, 116, 101, 113, 117, 97, 108]⟩, born := 3 }, { key := .string ⟨#[62]⟩, val := .string ⟨#[103, 114, 101, 97, 116, 101, 114]⟩, born := 4 }] 5)) = .ok () ((w2.alloc (.cells #[.int .i64 t.kind, vs t.text, .int .i64 t.pos] 60)).alloc (.map #[{ key := .string ⟨#[60]⟩, val := .string ⟨#[108, 101, 115, 115]⟩, born := 0 }, { key := .string ⟨#[60, 61]⟩, val := .string ⟨#[108, 101, 115, 115, 101, 113]⟩, born := 1 }, { key := .string ⟨#[61, 61]⟩, val := .string ⟨#[101, 113, 117, 97, 108]⟩, born := 2 }, { key := .string ⟨#[33, 61]⟩, val := .string ⟨#[110, 111, 116, 101, 113, 117, 97, 108]⟩, born := 3 }, { key := .string ⟨#[62]⟩, val := .string ⟨#[103, 114, 101, 97, 116, 101, 114]⟩, born := 4 }, { key := .string ⟨#[62, 61]⟩, val := .string ⟨#[103, 114, 101, 97, 116, 101, 114, 101, 113]⟩, born := 5 }] 6)) := run_put _ _ (by simp) _ _ _ _ rfl
          have hl := Hlook.out ((w2.alloc (.cells #[.int .i64 t.kind, vs t.text, .int .i64 t.pos] 60)).alloc (.map #[{ key := .string ⟨#[60]⟩, val := .string ⟨#[108, 101, 115, 115]⟩, born := 0 }, { key := .string ⟨#[60, 61]⟩, val := .string ⟨#[108, 101, 115, 115, 101, 113]⟩, born := 1 }, { key := .string ⟨#[61, 61]⟩, val := .string ⟨#[101, 113, 117, 97, 108]⟩, born := 2 }, { key := .string ⟨#[33, 61]⟩, val := .string ⟨#[110, 111, 116, 101, 113, 117, 97, 108]⟩, born := 3 }, { key := .string ⟨#[62]⟩, val := .string ⟨#[103, 114, 101, 97, 116, 101, 114]⟩, born := 4 }, { key := .string ⟨#[62, 61]⟩, val := .string ⟨#[103, 114, 101, 97, 116, 101, 114, 101, 113]⟩, born := 5 }] 6)) (w2.heap.size + 1) (.new _ _ (by simp) _ _ _ rfl)
          have p3 := P_2.out.c3
          have pl := P_2.out.blk.lt
          go_wp2_with fail
          refine (step_any c _ _ ((P_2.out.alloc _).alloc _)).mono ?_
          rintro e w3 ⟨rfl, pp, kp⟩
          have P_3 := Lib.hid pp
          have R_3 := Lib.hid (((R_2.out.alloc _).alloc _).kp kp (by omega))
          have B_3 := Lib.hid (((B_2.out.alloc _).alloc _).kp kp (by omega))
          have Tk_3 := Lib.hid (((Tk_2.out.alloc _).alloc _).kp kp (by first | omega | (simp; omega)))
          have K_3 := ((K_2.alloc _).alloc _).trans kp
          have l_3 : w2.heap.size + 2 ≤ w3.heap.size := by have := kp.size; simpa using this
          clear kp pp 
          go_wp2_with fail
          have GL := Lib.hid B_3.out.drew
          have GT := Lib.hid R_3.out.drew
          obtain ⟨ld0, ld1, ld2, ld3⟩ := B_3.out.four
          go_region_with (first
            | (go_at_call 106; refine (HN.out _ _ _ _ P_3.out.drew HM2.out).mono ?_; rintro e w4 ⟨ma, ml, mq, rfl, tt, pp, kp⟩; have GL4 := Lib.hid (GL.out.kp kp (by omega)); have GT4 := Lib.hid (GT.out.kp kp (by omega)); obtain ⟨lq0, lq1, lq2, lq3⟩ := GL4.out.four; have PP := Lib.hid pp; have TT := Lib.hid tt; clear pp tt)
            | (go_at_call 25; refine (node_any _ _ _ _ _).mono ?_; rintro e w5 ⟨rfl, hb⟩; have lk := kp.size; have GT5 := Lib.hid ((GT4.out.alloc _).under hb); obtain ⟨gt0, gt1, gt2, gt3⟩ := GT5.out.four; have gf0 := GT5.out.frozen 0; have gf1 := GT5.out.frozen 1; have gf2 := GT5.out.frozen 2; have gf3 := GT5.out.frozen 3))
          all_goals
            have P_4 := Lib.hid PP
            have R_4 := Lib.hid (R_3.out.drew.kp kp (by omega))
            have B_4 := Lib.hid (B_3.out.drew.kp kp (by omega))
            have Tk_4 := Lib.hid (Tk_3.out.drew.kp kp (by first | omega | (simp; omega)))
            have K_4 := K_3.drew.trans kp
            have l_4 : w3.heap.size + 0 ≤ w4.heap.size := by have := kp.size; simpa using this
            have Tm_4 := TT
            have kk := Kp.of_below (b := c.bp) hb
            have P_5 := Lib.hid ((P_4.out.alloc _).below hb)
            have R_5 := Lib.hid ((R_4.out.alloc _).kp kk (by omega))
            have B_5 := Lib.hid ((B_4.out.alloc _).kp kk (by omega))
            have A_5 := Lib.hid (((Blk.new w4 25 #[vs n1.op, vs n1.text, .int .i64 n1.pos, .slice ka kl kq, vs m'.op, vs m'.text, .int .i64 m'.pos, .slice ma ml mq])).kp kk (by omega))
            have Tk_5 := Lib.hid ((Tk_4.out.alloc _).kp kk (by first | omega | (simp; omega)))
            have Tm_5 := Lib.hid ((Tm_4.out.alloc _).kp kk (by first | omega | (simp; omega)))
            have K_5 := (K_4.alloc _).trans kk
            have l_5 : w4.heap.size + 1 ≤ w5.heap.size := by have := kk.size; simpa using this
            clear kp kk hb
            go_wp2_with fail
            exact bodyPost_ret (results_node Tryz.results116 rfl R_5.out.put4) rfl ⟨some ⟨w4.heap.size, 0, none⟩, 2, 2, rfl, ((KidsAt.two (n1 := n1) (n2 := m') (S := fun b => w.heap.size < b) A_5.out (by omega) (Tk_5.out.mono (fun b hb _ => by simp at hb; omega)) (Tm_5.out.mono (fun b hb _ => by simp at hb; omega))).put4 (by simp)).mono (fun b hb _ => by omega), P_5.out.put4 (by omega), K_5.put4 (Nat.le_refl _)⟩
    · have k8 : (t.kind != 8) = true := by simpa using h8
      rw [if_pos (.inl h8)] at hh
      simp only [Option.some.injEq, Prod.mk.injEq] at hh
      obtain ⟨rfl, rfl⟩ := hh
      clear h8
      go_enter Tryz.func116, Tryz.ntmps116
      go_wp2_with fail
      refine (HN.out _ _ _ _ (P_0.out.alloc _) HM.out).mono ?_
      rintro e w1 ⟨ka, kl, kq, rfl, tt, pp, kp⟩
      have P_1 := Lib.hid pp
      have R_1 := Lib.hid (((Blk.new w 25 z4)).kp kp (by omega))
      have K_1 := ((Kp.refl c.bp w).alloc _).trans kp
      have l_1 : w.heap.size + 1 ≤ w1.heap.size := by have := kp.size; simpa using this
      clear kp pp 
      have Tk_1 := Lib.hid tt
      clear tt
      go_wp2_with fail
      refine (Hcur.out _ (P_1.out.alloc _)).mono ?_
      rintro e w2 ⟨rfl, hb⟩
      have kk := Kp.of_below (b := c.bp) hb
      have P_2 := Lib.hid ((P_1.out.alloc _).below hb)
      have R_2 := Lib.hid ((R_1.out.alloc _).kp kk (by omega))
      have B_2 := Lib.hid (((Blk.new w1 25 #[vs n1.op, vs n1.text, .int .i64 n1.pos, .slice ka kl kq])).kp kk (by omega))
      have Tk_2 := Lib.hid ((Tk_1.out.alloc _).kp kk (by first | omega | (simp; omega)))
      have K_2 := (K_1.alloc _).trans kk
      have l_2 : w1.heap.size + 1 ≤ w2.heap.size := by have := kk.size; simpa using this
      clear kk hb 
      have q0 : (Instr.mapUpdate 122 (.map (some (w2.heap.size + 1))) (.string ⟨#[60]⟩) (.string ⟨#[108, 101, 115, 115]⟩)).run Tryz.prog ((w2.alloc (.cells #[.int .i64 t.kind, vs t.text, .int .i64 t.pos] 60)).alloc (.map #[] 0)) = .ok () ((w2.alloc (.cells #[.int .i64 t.kind, vs t.text, .int .i64 t.pos] 60)).alloc (.map #[{ key := .string ⟨#[60]⟩, val := .string ⟨#[108, 101, 115, 115]⟩, born := 0 }] 1)) := run_put _ _ (by simp) _ _ _ _ rfl
      have q1 : (Instr.mapUpdate 122 (.map (some (w2.heap.size + 1))) (.string ⟨#[60, 61]⟩) (.string ⟨#[108, 101, 115, 115, 101, 113]⟩)).run Tryz.prog ((w2.alloc (.cells #[.int .i64 t.kind, vs t.text, .int .i64 t.pos] 60)).alloc (.map #[{ key := .string ⟨#[60]⟩, val := .string ⟨#[108, 101, 115, 115]⟩, born := 0 }] 1)) = .ok () ((w2.alloc (.cells #[.int .i64 t.kind, vs t.text, .int .i64 t.pos] 60)).alloc (.map #[{ key := .string ⟨#[60]⟩, val := .string ⟨#[108, 101, 115, 115]⟩, born := 0 }, { key := .string ⟨#[60, 61]⟩, val := .string ⟨#[108, 101, 115, 115, 101, 113]⟩, born := 1 }] 2)) := run_put _ _ (by simp) _ _ _ _ rfl
      have q2 : (Instr.mapUpdate 122 (.map (some (w2.heap.size + 1))) (.string ⟨#[61, 61]⟩) (.string ⟨#[101, 113, 117, 97, 108]⟩)).run Tryz.prog ((w2.alloc (.cells #[.int .i64 t.kind, vs t.text, .int .i64 t.pos] 60)).alloc (.map #[{ key := .string ⟨#[60]⟩, val := .string ⟨#[108, 101, 115, 115]⟩, born := 0 }, { key := .string ⟨#[60, 61]⟩, val := .string ⟨#[108, 101, 115, 115, 101, 113]⟩, born := 1 }] 2)) = .ok () ((w2.alloc (.cells #[.int .i64 t.kind, vs t.text, .int .i64 t.pos] 60)).alloc (.map #[{ key := .string ⟨#[60]⟩, val := .string ⟨#[108, 101, 115, 115]⟩, born := 0 }, { key := .string ⟨#[60, 61]⟩, val := .string ⟨#[108, 101, 115, 115, 101, 113]⟩, born := 1 }, { key := .string ⟨#[61, 61]⟩, val := .string ⟨#[101, 113, 117, 97, 108]⟩, born := 2 }] 3)) := run_put _ _ (by simp) _ _ _ _ rfl
      have q3 : (Instr.mapUpdate 122 (.map (some (w2.heap.size + 1))) (.string ⟨#[33, 61]⟩) (.string ⟨#[110, 111, 116, 101, 113, 117, 97, 108]⟩)).run Tryz.prog ((w2.alloc (.cells #[.int .i64 t.kind, vs t.text, .int .i64 t.pos] 60)).alloc (.map #[{ key := .string ⟨#[60]⟩, val := .string ⟨#[108, 101, 115, 115]⟩, born := 0 }, { key := .string ⟨#[60, 61]⟩, val := .string ⟨#[108, 101, 115, 115, 101, 113]⟩, born := 1 }, { key := .string ⟨#[61, 61]⟩, val := .string ⟨#[101, 113, 117, 97, 108]⟩, born := 2 }] 3)) = .ok () ((w2.alloc (.cells #[.int .i64 t.kind, vs t.text, .int .i64 t.pos] 60)).alloc (.map #[{ key := .string ⟨#[60]⟩, val := .string ⟨#[108, 101, 115, 115]⟩, born := 0 }, { key := .string ⟨#[60, 61]⟩, val := .string ⟨#[108, 101, 115, 115, 101, 113]⟩, born := 1 }, { key := .string ⟨#[61, 61]⟩, val := .string ⟨#[101, 113, 117, 97, 108]⟩, born := 2 }, { key := .string ⟨#[33, 61]⟩, val := .string ⟨#[110, 111, 116, 101, 113, 117, 97, 108]⟩, born := 3 }] 4)) := run_put _ _ (by simp) _ _ _ _ rfl
      have q4 : (Instr.mapUpdate 122 (.map (some (w2.heap.size + 1))) (.string ⟨#[62]⟩) (.string ⟨#[103, 114, 101, 97, 116, 101, 114]⟩)).run Tryz.prog ((w2.alloc (.cells #[.int .i64 t.kind, vs t.text, .int .i64 t.pos] 60)).alloc (.map #[{ key := .string ⟨#[60]⟩, val := .string ⟨#[108, 101, 115, 115]⟩, born := 0 }, { key := .string ⟨#[60, 61]⟩, val := .string ⟨#[108, 101, 115, 115, 101, 113]⟩, born := 1 }, { key := .string ⟨#[61, 61]⟩, val := .string ⟨#[101, 113, 117, 97, 108]⟩, born := 2 }, { key := .string ⟨#[33, 61]⟩, val := .string ⟨#[110, 111, 116, 101, 113, 117, 97, 108]⟩, born := 3 }] 4)) = .ok () ((w2.alloc (.cells #[.int .i64 t.kind, vs t.text, .int .i64 t.pos] 60)).alloc (.map #[{ key := .string ⟨#[60]⟩, val := .string ⟨#[108, 101, 115, 115]⟩, born := 0 }, { key := .string ⟨#[60, 61]⟩, val := .string ⟨#[108, 101, 115, 115, 101, 113]⟩, born := 1 }, { key := .string ⟨#[61, 61]⟩, val := .string ⟨#[101, 113, 117, 97, 108]⟩, born := 2 }, { key := .string ⟨#[33, 61]⟩, val := .string ⟨#[110, 111, 116, 101, 113, 117, 97, 108]⟩, born := 3 }, { key := .string ⟨#[62]⟩, val := .string ⟨#[103, 114, 101, 97, 116, 101, 114]⟩, born := 4 }] 5)) := run_put _ _ (by simp) _ _ _ _ rfl
      have q5 : (Instr.mapUpdate 122 (.map (some (w2.heap.size + 1))) (.string ⟨#[62, 61]⟩) (.string ⟨#[103, 114, 101, 97, 116, 101, 114, 101, 113]⟩)).run Tryz.prog ((w2.alloc (.cells #[.int .i64 t.kind, vs t.text, .int .i64 t.pos] 60)).alloc (.map #[{ key := .string ⟨#[60]⟩, val := .string ⟨#[108, 101, 115, 115]⟩, born := 0 }, { key := .string ⟨#[60, 61]⟩, val := .string ⟨#[108, 101, 115, 115, 101, 113]⟩, born := 1 }, { key := .string ⟨#[61, 61]⟩, val := .string ⟨#[101, 113, 117, 97, 108]⟩, born := 2 }, { key := .string ⟨#[33, 61]⟩, val := .string ⟨#[110, 111, 116, 101, 113, 117, 97, 108]⟩, born := 3 }, { key := .string ⟨#[62]⟩, val := .string ⟨#[103, 114, 101, 97, 116, 101, 114]⟩, born := 4 }] 5)) = .ok () ((w2.alloc (.cells #[.int .i64 t.kind, vs t.text, .int .i64 t.pos] 60)).alloc (.map #[{ key := .string ⟨#[60]⟩, val := .string ⟨#[108, 101, 115, 115]⟩, born := 0 }, { key := .string ⟨#[60, 61]⟩, val := .string ⟨#[108, 101, 115, 115, 101, 113]⟩, born := 1 }, { key := .string ⟨#[61, 61]⟩, val := .string ⟨#[101, 113, 117, 97, 108]⟩, born := 2 }, { key := .string ⟨#[33, 61]⟩, val := .string ⟨#[110, 111, 116, 101, 113, 117, 97, 108]⟩, born := 3 }, { key := .string ⟨#[62]⟩, val := .string ⟨#[103, 114, 101, 97, 116, 101, 114]⟩, born := 4 }, { key := .string ⟨#[62, 61]⟩, val := .string ⟨#[103, 114, 101, 97, 116, 101, 114, 101, 113]⟩, born := 5 }] 6)) := run_put _ _ (by simp) _ _ _ _ rfl
      have hl := Hlook.out ((w2.alloc (.cells #[.int .i64 t.kind, vs t.text, .int .i64 t.pos] 60)).alloc (.map #[{ key := .string ⟨#[60]⟩, val := .string ⟨#[108, 101, 115, 115]⟩, born := 0 }, { key := .string ⟨#[60, 61]⟩, val := .string ⟨#[108, 101, 115, 115, 101, 113]⟩, born := 1 }, { key := .string ⟨#[61, 61]⟩, val := .string ⟨#[101, 113, 117, 97, 108]⟩, born := 2 }, { key := .string ⟨#[33, 61]⟩, val := .string ⟨#[110, 111, 116, 101, 113, 117, 97, 108]⟩, born := 3 }, { key := .string ⟨#[62]⟩, val := .string ⟨#[103, 114, 101, 97, 116, 101, 114]⟩, born := 4 }, { key := .string ⟨#[62, 61]⟩, val := .string ⟨#[103, 114, 101, 97, 116, 101, 114, 101, 113]⟩, born := 5 }] 6)) (w2.heap.size + 1) (.new _ _ (by simp) _ _ _ rfl)
      have p3 := P_2.out.c3
      have pl := P_2.out.blk.lt
      obtain ⟨b0, b1, b2, b3⟩ := B_2.out.four
      obtain ⟨r0, r1, r2, r3⟩ := R_2.out.four
      have lb := B_2.out.lt
      have lr := R_2.out.lt
      have rf0 := R_2.out.frozen 0
      have rf1 := R_2.out.frozen 1
      have rf2 := R_2.out.frozen 2
      have rf3 := R_2.out.frozen 3
      go_wp2_with fail
      refine bodyPost_ret (results_node Tryz.results116 rfl ((R_2.out.put4.alloc _).alloc _)) rfl ⟨_, _, _, rfl, ?_, ((P_2.out.put4 (by omega)).alloc _).alloc _, ((K_2.put4 (Nat.le_refl _)).alloc _).alloc _⟩
      exact (((Tk_2.out.put4 (by simp)).mono (fun b hb _ => by simp at hb; omega)).alloc _).alloc _

end Go.Proofs.YtgnmfaeonijogaaGreatDoor
