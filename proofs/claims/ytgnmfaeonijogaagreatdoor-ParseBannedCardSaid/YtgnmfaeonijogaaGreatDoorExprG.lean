/- Walked: a list of expressions, up to a sign. -/
import Derived.Test.YtgnmfaeonijogaaGreatDoorExprA
namespace Go.Proofs.YtgnmfaeonijogaaGreatDoor
open Go.RowKit

/-- What a function that gives a list of nodes of its own leaves. -/
def LPost (c : PC) (w : World) (ks : List Pp.Node) (s' : Pp.PS) (e : Ending) (w' : World) : Prop :=
  ∃ a q, e = .returned (.slice a ks.length q) ∧ OutAt w' w.heap.size (.slice a ks.length q) ks ∧ PAt c w' s' ∧ Kp c.bp w w'

set_option maxRecDepth 100000 in
set_option maxHeartbeats 4000000 in
theorem list_any (c : PC) (E : Pp.PS → Option (Pp.Node × Pp.PS)) (hE : IsN c 46 E) (k : Nat) (hk : k ≤ 1000000) (fin : Pp.Bytes) (w : World) (s : Pp.PS) (out : List Pp.Node) (s' : Pp.PS) (h : PAt c w s) (hh : Pp.list c.T E k fin s = some (out, s')) :
    Calls Tryz.prog 105 #[.pointer (some ⟨c.bp, 0, none⟩), vs fin] w (LPost c w out s') := by
  unfold Pp.list at hh
  cases hEm : Pp.listL c.T E fin k [] (Pp.lines c.T { s with flat := false }) with
  | none => rw [hEm] at hh; cases hh
  | some r =>
    obtain ⟨out', s2⟩ := r
    rw [hEm] at hh
    simp only [Option.some.injEq, Prod.mk.injEq] at hh
    obtain ⟨rfl, rfl⟩ := hh
    have c3 := h.c3
    have hb := h.blk.lt
    have hfz := h.fz 3
    have P_0 := Lib.hid (h.set { s with flat := false } 3 (.bool false) (by simp) h.lt h.deep)
    have K_0 := (Kp.refl c.bp w).setB 3 (.bool false)
    have HE := Lib.hid hE
    have HH := Lib.hid hEm
    generalize ({ s with flat := false } : Pp.PS) = s0 at *
    generalize s.flat = fl at *
    clear h hE hEm
    go_enter Tryz.func105, Tryz.ntmps105
    go_wp2_with fail
    refine (lines_any c _ _ P_0.out).mono ?_
    rintro e w1 ⟨rfl, pp, kp⟩
    have P_1 := Lib.hid pp
    have K_1 := K_0.trans kp
    have l_1 : (w.setCell ⟨c.bp, 3, none⟩ (.bool false)).heap.size + 0 ≤ w1.heap.size := by have := kp.size; simpa using this
    clear kp pp 
    simp at l_1
    go_wp2_with fail
    go_loopg [5] k (fun g v wr => ∃ (ks : List Pp.Node) (s1 : Pp.PS) (a : Option Addr) (q : Nat), v = .slice a ks.length q ∧ OutAt wr w.heap.size (.slice a ks.length q) ks ∧ PAt c wr s1 ∧ Kp c.bp w wr ∧ ks.length + g = k ∧
          Hid (Pp.listL c.T E fin g ks s1 = some (out', s2)))
    case atStart => exact ⟨[], _, none, 0, rfl, .nil _ _, P_1.out, K_1, by simp, HH.out⟩
    case round =>
      clear P_0 P_1 K_1 K_0 HH c3 hfz
      obtain ⟨ks, s1, a, q, rfl, o1, p1, K_1, hkk, hc⟩ := hrel
      have P_1 := Lib.hid p1
      have O_1 := Lib.hid o1
      have lw := K_1.size
      have hc := hc.out
      have d4 := p1.c4
      have lp := p1.blk.lt
      clear p1 o1
      obtain ⟨j, rfl⟩ : ∃ j, gk = j + 1 := by cases gk with | zero => cases hc | succ j => exact ⟨j, rfl⟩
      have hkn : ks.length < 1000000 := by omega
      have hkk2 : ks.length + (j + 1) ≤ k ∧ k ≤ ks.length + (j + 1) := by omega
      clear hkk
      unfold Pp.listL at hc
      by_cases he : s1.err = 0
      · have he0 : (s1.err == 0) = true := by simpa using he
        cases hat : Pp.at_ c.T [fin] s1 with
        | true =>
          rw [if_neg (fun hx => by simp [hat] at hx)] at hc
          simp only [Option.some.injEq, Prod.mk.injEq] at hc
          obtain ⟨rfl, rfl⟩ := hc
          have HA := Lib.hid hat
          clear hat he
          go_wp2_with fail
          refine (at_new' c _ s1 P_1.out 1 [fin] _ 1 (by simp) rfl _ rfl (by omega) _ HA.out).mono ?_
          rintro e w2 ⟨rfl, hb⟩
          have kk := Kp.of_below (b := c.bp) hb
          have P_2 := Lib.hid (P_1.out.below hb)
          have O_2 := Lib.hid (O_1.out.kp kk (by omega))
          have K_2 := K_1.trans kk
          have l_2 : wr.heap.size + 0 ≤ w2.heap.size := by have := kk.size; simpa using this
          clear kk hb 
          go_wp2_with fail
          refine (expect_any c _ _ P_2.out fin).mono ?_
          rintro e w3 ⟨rfl, pp, kp⟩
          have P_3 := Lib.hid pp
          have O_3 := Lib.hid (O_2.out.kp kp (by omega))
          have K_3 := K_2.trans kp
          have l_3 : w2.heap.size + 0 ≤ w3.heap.size := by have := kp.size; simpa using this
          clear kp pp 
          have z3 := P_3.out.fz 3
          have d3 := P_3.out.c3
          have PE := Lib.hid (P_3.out.set { Pp.expect c.T fin s1 with flat := fl } 3 (.bool fl) (by simp) P_3.out.lt P_3.out.deep)
          go_wp2_with fail
          go_ret
          exact ⟨_, _, rfl, O_3.out.kp ((Kp.refl c.bp _).setB _ _) (by omega), PE.out, K_3.setB _ _⟩
        | false =>
          rw [if_pos ⟨he, hat⟩] at hc
          have HA := Lib.hid hat
          by_cases hks : ks = []
          · rw [if_pos hks] at hc
            have hl0 : ks.length ≤ 0 := by simp [hks]
            cases hEm : E s1 with
            | none => rw [hEm] at hc; cases hc
            | some r =>
            obtain ⟨m, s3⟩ := r
            rw [hEm] at hc
            simp only at hc
            have HC := Lib.hid hc
            have HM := Lib.hid hEm
            clear hc hEm hat he hks
            go_wp2_with fail
            refine (at_new' c _ s1 P_1.out 1 [fin] _ 1 (by simp) rfl _ rfl (by omega) _ HA.out).mono ?_
            rintro e w2 ⟨rfl, hb⟩
            have kk := Kp.of_below (b := c.bp) hb
            have P_2 := Lib.hid (P_1.out.below hb)
            have O_2 := Lib.hid (O_1.out.kp kk (by omega))
            have K_2 := K_1.trans kk
            have l_2 : wr.heap.size + 0 ≤ w2.heap.size := by have := kk.size; simpa using this
            clear kk hb 
            have OP := O_2
            go_wp2_with fail
            refine (HE.out _ _ _ _ P_2.out HM.out).mono ?_
            rintro e w3 ⟨ma, ml, mq, rfl, tt, pp, kp⟩
            have P_3 := Lib.hid pp
            have O_3 := Lib.hid (O_2.out.kp kp (by omega))
            have K_3 := K_2.trans kp
            have l_3 : w2.heap.size + 0 ≤ w3.heap.size := by have := kp.size; simpa using this
            clear kp pp 
            have Tm_3 := Lib.hid tt
            clear tt
            go_wp2_with (at_builtin; refine wpList_append_node _ rfl (.tmp 35) (.tmp 38) rfl rfl w.heap.size (.slice a ks.length q) ks m (.slice ma ml mq) w3.heap.size _ rfl rfl (O_3.out.alloc _) (Blk.new w3 25 #[vs m.op, vs m.text, .int .i64 m.pos, .slice ma ml mq]).four ?_ ?_ ?_ ?_)
            · exact (KidsAt.mono (fun b hb _ => ⟨by omega, fun e => by have := OP.out.lt_ e; omega⟩) Tm_3.out).alloc _
            · omega
            · simp; omega
            intro v' w4 hA
            obtain ⟨hO, hG, hlo, _⟩ := hA
            obtain ⟨a', q', rfl⟩ := hO.len
            have PA := Lib.hid ((P_3.out.alloc (.cells #[vs m.op, vs m.text, .int .i64 m.pos, .slice ma ml mq] 25)).grown hG (fun k hk => by have := hlo k hk; omega))
            have KA := (K_3.alloc (.cells #[vs m.op, vs m.text, .int .i64 m.pos, .slice ma ml mq] 25)).grown hG hlo
            have OA_0 := Lib.hid hO
            have lA := hG.size
            simp at lA
            clear hO hG hlo
            go_wp2_with fail
            refine (lines_any c _ _ PA.out).mono ?_
            rintro e w5 ⟨rfl, pp, kp⟩
            have P_5 := Lib.hid pp
            have OA_5 := Lib.hid (OA_0.out.kp kp (by omega))
            have K_5 := KA.trans kp
            have l_5 : w4.heap.size + 0 ≤ w5.heap.size := by have := kp.size; simpa using this
            clear kp pp 
            go_wp2_with fail
            go_roundg j
            case measure => omega
            case rel => exact ⟨ks ++ [m], _, a', q', by simp, by simpa using OA_5.out, P_5.out, K_5, by simp; omega, HC.out⟩
          · rw [if_neg hks] at hc
            have hl0 : 0 < ks.length := List.length_pos_iff.2 hks
            cases hEm : E (Pp.lines c.T (Pp.expect c.T [44] s1)) with
            | none => rw [hEm] at hc; cases hc
            | some r =>
            obtain ⟨m, s3⟩ := r
            rw [hEm] at hc
            simp only at hc
            have HC := Lib.hid hc
            have HM := Lib.hid hEm
            clear hc hEm hat he hks
            go_wp2_with fail
            refine (at_new' c _ s1 P_1.out 1 [fin] _ 1 (by simp) rfl _ rfl (by omega) _ HA.out).mono ?_
            rintro e w2 ⟨rfl, hb⟩
            have kk := Kp.of_below (b := c.bp) hb
            have P_2 := Lib.hid (P_1.out.below hb)
            have O_2 := Lib.hid (O_1.out.kp kk (by omega))
            have K_2 := K_1.trans kk
            have l_2 : wr.heap.size + 0 ≤ w2.heap.size := by have := kk.size; simpa using this
            clear kk hb 
            go_wp2_with fail
            refine (expect_any c _ _ P_2.out [44]).mono ?_
            rintro e w3 ⟨rfl, pp, kp⟩
            have P_3 := Lib.hid pp
            have O_3 := Lib.hid (O_2.out.kp kp (by omega))
            have K_3 := K_2.trans kp
            have l_3 : w2.heap.size + 0 ≤ w3.heap.size := by have := kp.size; simpa using this
            clear kp pp 
            go_wp2_with fail
            refine (lines_any c _ _ P_3.out).mono ?_
            rintro e w4 ⟨rfl, pp, kp⟩
            have P_4 := Lib.hid pp
            have O_4 := Lib.hid (O_3.out.kp kp (by omega))
            have K_4 := K_3.trans kp
            have l_4 : w3.heap.size + 0 ≤ w4.heap.size := by have := kp.size; simpa using this
            clear kp pp 
            have OP := O_4
            go_wp2_with fail
            refine (HE.out _ _ _ _ P_4.out HM.out).mono ?_
            rintro e w5 ⟨ma, ml, mq, rfl, tt, pp, kp⟩
            have P_5 := Lib.hid pp
            have O_5 := Lib.hid (O_4.out.kp kp (by omega))
            have K_5 := K_4.trans kp
            have l_5 : w4.heap.size + 0 ≤ w5.heap.size := by have := kp.size; simpa using this
            clear kp pp 
            have Tm_5 := Lib.hid tt
            clear tt
            go_wp2_with (at_builtin; refine wpList_append_node _ rfl (.tmp 35) (.tmp 38) rfl rfl w.heap.size (.slice a ks.length q) ks m (.slice ma ml mq) w5.heap.size _ rfl rfl (O_5.out.alloc _) (Blk.new w5 25 #[vs m.op, vs m.text, .int .i64 m.pos, .slice ma ml mq]).four ?_ ?_ ?_ ?_)
            · exact (KidsAt.mono (fun b hb _ => ⟨by omega, fun e => by have := OP.out.lt_ e; omega⟩) Tm_5.out).alloc _
            · omega
            · simp; omega
            intro v' w6 hA
            obtain ⟨hO, hG, hlo, _⟩ := hA
            obtain ⟨a', q', rfl⟩ := hO.len
            have PA := Lib.hid ((P_5.out.alloc (.cells #[vs m.op, vs m.text, .int .i64 m.pos, .slice ma ml mq] 25)).grown hG (fun k hk => by have := hlo k hk; omega))
            have KA := (K_5.alloc (.cells #[vs m.op, vs m.text, .int .i64 m.pos, .slice ma ml mq] 25)).grown hG hlo
            have OA_0 := Lib.hid hO
            have lA := hG.size
            simp at lA
            clear hO hG hlo
            go_wp2_with fail
            refine (lines_any c _ _ PA.out).mono ?_
            rintro e w7 ⟨rfl, pp, kp⟩
            have P_7 := Lib.hid pp
            have OA_7 := Lib.hid (OA_0.out.kp kp (by omega))
            have K_7 := KA.trans kp
            have l_7 : w6.heap.size + 0 ≤ w7.heap.size := by have := kp.size; simpa using this
            clear kp pp 
            go_wp2_with fail
            go_roundg j
            case measure => omega
            case rel => exact ⟨ks ++ [m], _, a', q', by simp, by simpa using OA_7.out, P_7.out, K_7, by simp; omega, HC.out⟩
      · have he0 : (s1.err == 0) = false := by simpa using he
        rw [if_neg (fun hx => he hx.1)] at hc
        simp only [Option.some.injEq, Prod.mk.injEq] at hc
        obtain ⟨rfl, rfl⟩ := hc
        clear he
        go_wp2_with fail
        refine (expect_any c _ _ P_1.out fin).mono ?_
        rintro e w2 ⟨rfl, pp, kp⟩
        have P_2 := Lib.hid pp
        have O_2 := Lib.hid (O_1.out.kp kp (by omega))
        have K_2 := K_1.trans kp
        have l_2 : wr.heap.size + 0 ≤ w2.heap.size := by have := kp.size; simpa using this
        clear kp pp 
        have z3 := P_2.out.fz 3
        have d3 := P_2.out.c3
        have PE := Lib.hid (P_2.out.set { Pp.expect c.T fin s1 with flat := fl } 3 (.bool fl) (by simp) P_2.out.lt P_2.out.deep)
        go_wp2_with fail
        go_ret
        exact ⟨_, _, rfl, O_2.out.kp ((Kp.refl c.bp _).setB _ _) (by omega), PE.out, K_2.setB _ _⟩

end Go.Proofs.YtgnmfaeonijogaaGreatDoor
