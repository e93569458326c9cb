/- Walked: what a builtin's wrong arguments come to: the closure 'wrong'. -/
import Derived.Test.YtgnmfaeonijogaaGreatDoorPrimB
namespace Go.Proofs.YtgnmfaeonijogaaGreatDoor
open Go.RowKit

set_option maxHeartbeats 1000000 in
theorem wrong_any (c : PC) (w : World) (s : Pp.PS) (h : PAt c w s) (bx bt : Nat) (t : Pp.Tok) (hx : Blk w bx 54 #[.pointer (some ⟨c.bp, 0, none⟩)]) (ht : Blk w bt 60 #[.int .i64 t.kind, vs t.text, .int .i64 t.pos]) (v : Bool) (e : Int) :
    Calls Tryz.prog 132 #[.bool v, .int .i64 e, .pointer (some ⟨bx, 0, none⟩), .pointer (some ⟨bt, 0, none⟩)] w (VPost c w (Pp.wrong t v e s)) := by
  have c4 := h.c4
  have c5 := h.c5
  have z4 := h.fz 4
  have z5 := h.fz 5
  have x0 : w.cell? ⟨bx, 0, none⟩ = some (.pointer (some ⟨c.bp, 0, none⟩)) := by simpa using hx.cell 0
  obtain ⟨t0, t1, t2⟩ := ht.tri
  have P := Lib.hid h
  cases v with
  | false =>
    have e1 : Pp.wrong t false e s = s := by simp [Pp.wrong]
    rw [e1]
    clear h hx ht e1
    go_enter Tryz.func132, Tryz.ntmps132
    go_wp2_with fail
    go_end0
    exact ⟨rfl, P.out, Kp.refl _ _⟩
  | true =>
    by_cases he : s.err = 0
    · have e1 : Pp.wrong t true e s = { s with err := e, bad := t.pos } := by simp [Pp.wrong, he]
      have he0 : (s.err == 0) = true := by simpa using he
      have f1 : PAt c ((w.setCell ⟨c.bp, 4, none⟩ (.int .i64 e)).setCell ⟨c.bp, 5, none⟩ (.int .i64 t.pos)) { s with err := e, bad := t.pos } :=
        (h.set { s with err := e } 4 _ (by simp) h.lt h.deep).set _ 5 _ (by simp) h.lt h.deep
      have F1 := Lib.hid f1
      rw [e1]
      clear h hx ht e1 f1 he
      go_enter Tryz.func132, Tryz.ntmps132
      go_wp2_with fail
      go_region
      go_wp2_with fail
      go_end0
      exact ⟨rfl, F1.out.drew, (((Kp.refl _ _).setB _ _).setB _ _).drew⟩
    · have e1 : Pp.wrong t true e s = s := by simp [Pp.wrong, he]
      have he0 : (s.err == 0) = false := by simpa using he
      rw [e1]
      clear h hx ht e1 he
      go_enter Tryz.func132, Tryz.ntmps132
      go_wp2_with fail
      go_end0
      exact ⟨rfl, P.out, Kp.refl _ _⟩

theorem wrong_any' (c : PC) (w : World) (s : Pp.PS) (h : PAt c w s) (bx bt : Nat) (t : Pp.Tok) (hx : Blk w bx 54 #[.pointer (some ⟨c.bp, 0, none⟩)]) (ht : Blk w bt 60 #[.int .i64 t.kind, vs t.text, .int .i64 t.pos]) (v0 v : Bool) (hv : v0 = v) (e : Int) :
    Calls Tryz.prog 132 #[.bool v0, .int .i64 e, .pointer (some ⟨bx, 0, none⟩), .pointer (some ⟨bt, 0, none⟩)] w (VPost c w (Pp.wrong t v e s)) := by
  subst hv
  exact wrong_any c w s h bx bt t hx ht v0 e

end Go.Proofs.YtgnmfaeonijogaaGreatDoor
