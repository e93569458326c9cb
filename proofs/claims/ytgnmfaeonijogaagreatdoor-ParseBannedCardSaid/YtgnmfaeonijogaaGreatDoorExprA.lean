/- Walked: what stands between two signs; a list of expressions. -/
import Derived.Test.YtgnmfaeonijogaaGreatDoorPrimB
namespace Go.Proofs.YtgnmfaeonijogaaGreatDoor
open Go.RowKit

/-- The empty node's cells. -/
abbrev z4 : Array Value := #[.string ⟨#[]⟩, .string ⟨#[]⟩, .int .i64 0, .slice none 0 0]

theorem blk_new_set (w : World) (a : Addr) (v : Value) (t : TypeId) (cs : Array Value) : Blk ((w.setCell a v).alloc (.cells cs t)) w.heap.size t cs := by
  have := Blk.new (w.setCell a v) t cs
  simpa using this

set_option maxRecDepth 100000 in
set_option maxHeartbeats 1000000 in
theorem inside_any (c : PC) (E : Pp.PS → Option (Pp.Node × Pp.PS)) (hE : IsN c 46 E) (fin : Pp.Bytes) (w : World) (s : Pp.PS) (n : Pp.Node) (s' : Pp.PS) (h : PAt c w s) (hh : Pp.inside c.T E fin s = some (n, s')) :
    Calls Tryz.prog 84 #[.pointer (some ⟨c.bp, 0, none⟩), vs fin] w (NPost c w n s') := by
  unfold Pp.inside at hh
  cases hEm : E (Pp.lines c.T { s with flat := false }) with
  | none => rw [hEm] at hh; cases hh
  | some r =>
    obtain ⟨m, s2⟩ := r
    rw [hEm] at hh
    simp only [Option.some.injEq, Prod.mk.injEq] at hh
    obtain ⟨rfl, rfl⟩ := hh
    have c3 := h.c3
    have hb := h.blk.lt
    have hfz := h.fz 3
    have P0 := Lib.hid (h.set { s with flat := false } 3 (.bool false) (by simp) h.lt h.deep)
    have HE := Lib.hid hE
    have HEm := Lib.hid hEm
    generalize ({ s with flat := false } : Pp.PS) = s0 at *
    generalize s.flat = fl at *
    clear h hE hEm
    go_enter Tryz.func84, Tryz.ntmps84
    go_wp2_with fail
    refine (lines_any c _ _ (P0.out.alloc _)).mono ?_
    rintro e w1 ⟨rfl, p1, k1⟩
    have P1 := Lib.hid p1
    have r1 := (blk_new_set w ⟨c.bp, 3, none⟩ (.bool false) 25 z4).kp k1 (by omega)
    have K1 := (((Kp.refl c.bp w).setB 3 (.bool false)).alloc _).trans k1
    have R1 := Lib.hid r1
    have l1 := r1.lt
    clear p1 k1 r1 c3 hfz
    go_wp2_with fail
    refine (HE.out w1 _ m s2 P1.out HEm.out).mono ?_
    rintro e w2 ⟨ka, kl, kq, rfl, t2, p2, k2⟩
    have P2 := Lib.hid p2
    have R2 := Lib.hid (R1.out.kp k2 (by omega))
    have K2 := K1.trans k2
    have T2 := Lib.hid t2
    have l2 := k2.size
    clear p2 k2 t2
    go_wp2_with fail
    refine (lines_any c _ _ (P2.out.alloc _)).mono ?_
    rintro e w3 ⟨rfl, p3, k3⟩
    have P3 := Lib.hid p3
    have R3 := Lib.hid ((R2.out.alloc _).kp k3 (by omega))
    have B3 := Lib.hid ((Blk.new w2 25 #[vs m.op, vs m.text, .int .i64 m.pos, .slice ka kl kq]).kp k3 (by omega))
    have T3 := Lib.hid ((T2.out.alloc _).kp k3 (by omega))
    have K3 := (K2.alloc _).trans k3
    have l3 := k3.size
    simp at l3
    clear p3 k3
    go_wp2_with fail
    refine (expect_any c _ _ P3.out fin).mono ?_
    rintro e w4 ⟨rfl, p4, k4⟩
    have P4 := Lib.hid p4
    have R4 := Lib.hid (R3.out.kp k4 (by omega))
    have B4 := Lib.hid (B3.out.kp k4 (by omega))
    have T4 := Lib.hid (T3.out.kp k4 (by omega))
    have K4 := K3.trans k4
    have b0 := B4.out.cell 0
    have b1 := B4.out.cell 1
    have b2 := B4.out.cell 2
    have b3 := B4.out.cell 3
    have r0 := R4.out.cell 0
    have r1 := R4.out.cell 1
    have r2 := R4.out.cell 2
    have r3 := R4.out.cell 3
    have y0 := R4.out.frozen 0
    have y1 := R4.out.frozen 1
    have y2 := R4.out.frozen 2
    have y3 := R4.out.frozen 3
    have d3 := p4.c3
    have z3 := p4.fz 3
    have l4 := p4.blk.lt
    simp at b0 b1 b2 b3 r0 r1 r2 r3
    have P5 := Lib.hid (p4.set { Pp.expect c.T fin (Pp.lines c.T s2) with flat := fl } 3 (.bool fl) (by simp) p4.lt p4.deep)
    clear p4 k4
    go_wp2_with fail
    refine bodyPost_ret (results_node Tryz.results84 rfl (R4.out.far (p := ⟨c.bp, 3, none⟩) (by simp; omega) _).put4) rfl ⟨_, _, _, rfl, ?_, P5.out.put4 (by omega), (K4.setB _ _).put4 (Nat.le_refl _)⟩
    exact ((T4.out.kp ((Kp.refl c.bp _).setB _ _) (by omega)).put4 (by omega)).mono (fun b hb _ => by omega)

end Go.Proofs.YtgnmfaeonijogaaGreatDoor
