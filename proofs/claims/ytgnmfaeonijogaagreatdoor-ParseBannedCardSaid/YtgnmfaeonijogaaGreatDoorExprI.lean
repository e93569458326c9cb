/- Walked: signs ahead: whatever order the table of signs is gone through in. -/
import Derived.Test.YtgnmfaeonijogaaGreatDoorExprA
import Derived.Test.YtgnmfaeonijogaaGreatDoorMaps
namespace Go.Proofs.YtgnmfaeonijogaaGreatDoor
open Go.RowKit

abbrev unES : Array MapEntry := #[{ key := .string ⟨#[33]⟩, val := .string ⟨#[110, 111, 116]⟩, born := 0 }, { key := .string ⟨#[45]⟩, val := .string ⟨#[110, 101, 103]⟩, born := 1 }, { key := .string ⟨#[43]⟩, val := .string ⟨#[112, 108, 117, 115]⟩, born := 2 }]

theorem signOp_not {T : List Pp.Tok} {s : Pp.PS} (h : ∀ e ∈ unES.toList, ∀ x : Pp.Bytes, e.key = vs x → Pp.at_ T [x] s = false) : Pp.signOp T s = [] := by
  unfold Pp.signOp
  rw [h (unES[0]) (by simp) [33] rfl, h (unES[1]) (by simp) [45] rfl, h (unES[2]) (by simp) [43] rfl]
  rfl
theorem signOp_33 {T : List Pp.Tok} {s : Pp.PS} (h : Pp.at_ T [[33]] s = true) : Pp.signOp T s = [110, 111, 116] := by simp [Pp.signOp, h]
theorem signOp_45 {T : List Pp.Tok} {s : Pp.PS} (h : Pp.at_ T [[45]] s = true) : Pp.signOp T s = [110, 101, 103] := by
  have h1 : ¬ Pp.at_ T [[33]] s = true := fun h' => by have := at_text h; rw [at_text h'] at this; cases this
  simp [Pp.signOp, h, h1]
theorem signOp_43 {T : List Pp.Tok} {s : Pp.PS} (h : Pp.at_ T [[43]] s = true) : Pp.signOp T s = [112, 108, 117, 115] := by
  have h1 : ¬ Pp.at_ T [[33]] s = true := fun h' => by have := at_text h; rw [at_text h'] at this; cases this
  have h2 : ¬ Pp.at_ T [[45]] s = true := fun h' => by have := at_text h; rw [at_text h'] at this; cases this
  simp [Pp.signOp, h, h1, h2]
theorem vs_inj {a b : Pp.Bytes} (h : vs a = vs b) : a = b := by
  simp [vs] at h
  exact h
theorem left_push {seen : Array Nat} {e : MapEntry} (he : e ∈ (leftOf unES seen).toList) : (leftOf unES (seen.push e.born)).size < (leftOf unES seen).size := by
  unfold leftOf at he ⊢
  have h1 : ∀ sn : Array Nat, (unES.filter fun e => !sn.contains e.born).size = (unES.toList.filter fun e => !sn.contains e.born).length := fun sn => by
    rw [← Array.length_toList, Array.toList_filter]
  rw [h1, h1]
  have h2 : (unES.toList.filter fun x => !(seen.push e.born).contains x.born) = (unES.toList.filter fun x => !seen.contains x.born).filter fun x => !(seen.push e.born).contains x.born := by
    rw [List.filter_filter]
    refine List.filter_congr fun x _ => ?_
    simp only [Array.contains_push]
    cases seen.contains x.born <;> simp
  rw [h2, List.length_filter_lt_length_iff_exists]
  refine ⟨e, ?_, by simp⟩
  simpa [Array.toList_filter] using he

set_option maxRecDepth 100000 in
set_option maxHeartbeats 8000000 in
theorem unary_any (c : PC) (rx : Pp.Bytes → Int) (E : Pp.PS → Option (Pp.Node × Pp.PS)) (k : Nat) (hP : IsN c 127 (Pp.post c.T (Pp.primary rx c.T E k k))) (hd : ∀ j s n s', Pp.unary rx c.T E k j s = some (n, s') → s'.deep = s.deep) :
    ∀ j, IsN c 126 (Pp.unary rx c.T E k j) := by
  intro j
  induction j with
  | zero => intro w s n s' h hh; cases hh
  | succ j ih =>
  intro w s n s' h hh
  have HP := Lib.hid hP
  have HI := Lib.hid ih
  have HD := Lib.hid hd
  have P_0 := Lib.hid h
  have hb := h.blk.lt
  have hmm := @run_makeMap Tryz.prog
  have HH := Lib.hid hh
  have q0 : (Instr.mapUpdate 122 (.map (some (w.heap.size + 1))) (.string ⟨#[33]⟩) (.string ⟨#[110, 111, 116]⟩)).run Tryz.prog ((w.alloc (.cells z4 25)).alloc (.map #[] 0)) = .ok () ((w.alloc (.cells z4 25)).alloc (.map #[{ key := .string ⟨#[33]⟩, val := .string ⟨#[110, 111, 116]⟩, born := 0 }] 1)) := run_put _ _ (by simp) _ _ _ _ rfl
  have q1 : (Instr.mapUpdate 122 (.map (some (w.heap.size + 1))) (.string ⟨#[45]⟩) (.string ⟨#[110, 101, 103]⟩)).run Tryz.prog ((w.alloc (.cells z4 25)).alloc (.map #[{ key := .string ⟨#[33]⟩, val := .string ⟨#[110, 111, 116]⟩, born := 0 }] 1)) = .ok () ((w.alloc (.cells z4 25)).alloc (.map #[{ key := .string ⟨#[33]⟩, val := .string ⟨#[110, 111, 116]⟩, born := 0 }, { key := .string ⟨#[45]⟩, val := .string ⟨#[110, 101, 103]⟩, born := 1 }] 2)) := run_put _ _ (by simp) _ _ _ _ rfl
  have q2 : (Instr.mapUpdate 122 (.map (some (w.heap.size + 1))) (.string ⟨#[43]⟩) (.string ⟨#[112, 108, 117, 115]⟩)).run Tryz.prog ((w.alloc (.cells z4 25)).alloc (.map #[{ key := .string ⟨#[33]⟩, val := .string ⟨#[110, 111, 116]⟩, born := 0 }, { key := .string ⟨#[45]⟩, val := .string ⟨#[110, 101, 103]⟩, born := 1 }] 2)) = .ok () ((w.alloc (.cells z4 25)).alloc (.map #[{ key := .string ⟨#[33]⟩, val := .string ⟨#[110, 111, 116]⟩, born := 0 }, { key := .string ⟨#[45]⟩, val := .string ⟨#[110, 101, 103]⟩, born := 1 }, { key := .string ⟨#[43]⟩, val := .string ⟨#[112, 108, 117, 115]⟩, born := 2 }] 3)) := run_put _ _ (by simp) _ _ _ _ rfl
  have hrg := run_range_map (P := Tryz.prog) ((w.alloc (.cells z4 25)).alloc (.map unES 3)) 122 9 9 (w.heap.size + 1) unES 3 Tryz.underlying122 (by have := heap_alloc_new (w.alloc (.cells z4 25)) (.map unES 3); simpa using this)
  clear hP ih hd h hh
  go_enter_defers Tryz.func126, Tryz.ntmps126
  go_wp2_with fail
  go_loopg [] 4 (fun g wr => ∃ seen : Array Nat, wr.heap[w.heap.size + 1 + 1]? = some (.mapIter (some (w.heap.size + 1)) 3 seen 3) ∧ wr.heap[w.heap.size + 1]? = some (.map unES 3) ∧ Blk wr w.heap.size 25 z4 ∧ PAt c wr s ∧ Kp c.bp w wr ∧
      (leftOf unES seen).size < g ∧ Hid (∀ e ∈ unES.toList, seen.contains e.born = true → ∀ x : Pp.Bytes, e.key = vs x → Pp.at_ c.T [x] s = false))
  case atStart =>
    refine ⟨#[], by simpa using heap_alloc_new ((w.alloc (.cells z4 25)).alloc (.map unES 3)) (.mapIter (some (w.heap.size + 1)) 3 #[] 3), ?_, ((Blk.new w 25 z4).alloc _).alloc _, ((P_0.out.alloc _).alloc _).alloc _, (((Kp.refl _ _).alloc _).alloc _).alloc _, Nat.lt_of_le_of_lt (by unfold leftOf; exact Array.size_filter_le) (by decide : unES.size < 4), ?_⟩
    · rw [Below.heap_alloc _ _ _ (by simp)]
      simpa using heap_alloc_new (w.alloc (.cells z4 25)) (.map unES 3)
    · intro e _ h
      simp at h
  case round =>
    clear hrg P_0 q0 q1 q2
    obtain ⟨seen, hit, hmap, r1, p1, K_1, hleft, hseen⟩ := hrel
    have P_1 := Lib.hid p1
    have R_1 := Lib.hid r1
    have lw := K_1.size
    have hr1 := r1.lt
    have lit : w.heap.size + 1 + 1 < wr.heap.size := by
      rcases Nat.lt_or_ge (w.heap.size + 1 + 1) wr.heap.size with h | h
      · exact h
      · rw [Array.getElem?_eq_none h] at hit; cases hit
    clear p1 r1
    have hold : ∀ x ∈ unES.toList, x.born < 3 := by intro x hx; simp at hx; rcases hx with rfl | rfl | rfl <;> simp
    rcases next_step wr 0 _ _ 3 seen unES 3 hit hmap hold (by omega) with ⟨h0, hrun⟩ | ⟨e, he, w2, hrun, hg, hit2, hsz2⟩
    · -- nothing is left: no sign stands here
      have hs : Pp.signOp c.T s = [] := signOp_not (fun e he x hx => hseen.out e he (by
        cases hc : seen.contains e.born with
        | true => rfl
        | false =>
          have : e ∈ (leftOf unES seen).toList := by unfold leftOf; simp; exact ⟨by simpa using he, by simpa using hc⟩
          have hz : leftOf unES seen = #[] := by simpa using h0
          rw [hz] at this
          simp at this) x hx)
      have hh := HH.out
      rw [Pp.unary, if_pos hs] at hh
      have HM := Lib.hid hh
      clear hs hh hseen hit hmap h0 hold
      go_wp2_with fail
      refine (HP.out _ _ _ _ P_1.out HM.out).mono ?_
      rintro e w2 ⟨ma, ml, mq, rfl, tt, pp, kp⟩
      have P_2 := Lib.hid pp
      have R_2 := Lib.hid (R_1.out.kp kp (by omega))
      have K_2 := K_1.trans kp
      have l_2 : wr.heap.size + 0 ≤ w2.heap.size := by have := kp.size; simpa using this
      clear kp pp 
      have Tm_2 := Lib.hid tt
      clear tt
      obtain ⟨r0, r1, r2, r3⟩ := R_2.out.four
      have rf0 := R_2.out.frozen 0
      have rf1 := R_2.out.frozen 1
      have rf2 := R_2.out.frozen 2
      have rf3 := R_2.out.frozen 3
      go_wp2_with fail
      exact ⟨_, results_node Tryz.results126 rfl R_2.out.put4, ma, ml, mq, rfl, (Tm_2.out.put4 (by omega)).mono (fun b hb _ => by omega), P_2.out.put4 (by omega), K_2.put4 (Nat.le_refl _)⟩
    · have he' : e ∈ unES.toList := by unfold leftOf at he; simp at he; simpa using he.1
      have hlp := left_push he
      have hmap2 : w2.heap[w.heap.size + 1]? = some (.map unES 3) := (hg.block _ (by omega) (by simp)).trans hmap
      have hen := run_entry_at (P := Tryz.prog) w2 (w.heap.size + 1 + 1) (w.heap.size + 1) 3 seen unES 3 e hit2 hmap2 he' (by decide)
      have P_2 := Lib.hid (P_1.out.grown hg (fun k hk => by cases hk; omega))
      have R_2 := Lib.hid (R_1.out.grown hg (by simp; omega))
      have K_2 := K_1.row hg (by omega)
      have Hit := Lib.hid hit2
      have Hmap := Lib.hid hmap2
      clear he hit hmap hit2 hmap2 hold hg
      simp only [List.mem_cons, List.not_mem_nil, or_false] at he'
      rcases he' with rfl | rfl | rfl
      · cases hat : Pp.at_ c.T [[33]] s with
        | false =>
          have HA := Lib.hid hat
          clear hat
          go_wp2_with fail
          refine (accept_f c _ _ P_2.out [33] HA.out).mono ?_
          rintro e w3 ⟨rfl, pp, kp⟩
          have P_3 := Lib.hid pp
          have R_3 := Lib.hid (R_2.out.kp kp (by omega))
          have K_3 := K_2.trans kp
          have l_3 : w2.heap.size + 0 ≤ w3.heap.size := by have := kp.size; simpa using this
          have KP := Lib.hid kp
          clear kp pp 
          go_wp2_with fail
          go_roundg (gk - 1)
          case measure => omega
          case rel =>
            refine ⟨seen.push _, ?_, ?_, R_3.out, P_3.out, K_3, Nat.lt_of_lt_of_le hlp (by omega), ?_⟩
            · exact (KP.out.block _ (by omega) (by omega)).trans Hit.out
            · exact (KP.out.block _ (by omega) (by omega)).trans Hmap.out
            · intro e he hc x hx
              simp only [Array.contains_push, Bool.or_eq_true] at hc
              rcases hc with hc | hc
              · exact hseen.out e he hc x hx
              · simp only [List.mem_cons, List.not_mem_nil, or_false] at he
                rcases he with rfl | rfl | rfl
                all_goals first | (exfalso; revert hc; decide) | (have hxx : x = [33] := vs_inj hx.symm; subst hxx; exact HA.out)
        | true =>
          have hh := HH.out
          rw [Pp.unary, signOp_33 hat, if_neg (by simp)] at hh
          cases hdn : Pp.down c.T (Pp.step c.T s) with
          | none => rw [hdn] at hh; cases hh
          | some s1 =>
          rw [hdn] at hh
          simp only at hh
          cases hEm : Pp.unary rx c.T E k j s1 with
          | none => rw [hEm] at hh; cases hh
          | some r =>
          obtain ⟨m, s2⟩ := r
          rw [hEm] at hh
          simp only [Option.some.injEq, Prod.mk.injEq] at hh
          obtain ⟨rfl, rfl⟩ := hh
          have HA := Lib.hid hat
          have HDn := Lib.hid hdn
          have HM := Lib.hid hEm
          have HDp : Hid (-1000000 < s2.deep) := by
            have h1 := HD.out _ _ _ _ hEm
            have h2 := down_deep hdn
            rw [step_deep] at h2
            have h3 := P_1.out.deep.1
            show -1000000 < s2.deep
            omega
          clear hat hdn hEm hseen
          go_wp2_with fail
          refine (accept_t c _ _ P_2.out [33] HA.out).mono ?_
          rintro e w3 ⟨rfl, pp, kp⟩
          have P_3 := Lib.hid pp
          have R_3 := Lib.hid (R_2.out.kp kp (by omega))
          have K_3 := K_2.trans kp
          have l_3 : w2.heap.size + 0 ≤ w3.heap.size := by have := kp.size; simpa using this
          clear kp pp 
          go_wp2_with fail
          refine (down_any c _ _ s1 P_3.out HDn.out).mono ?_
          rintro e w4 ⟨rfl, pp, kp⟩
          have P_4 := Lib.hid pp
          have R_4 := Lib.hid (R_3.out.kp kp (by omega))
          have K_4 := K_3.trans kp
          have l_4 : w3.heap.size + 0 ≤ w4.heap.size := by have := kp.size; simpa using this
          clear kp pp 
          go_wp2_with fail
          refine (HI.out _ _ _ _ P_4.out HM.out).mono ?_
          rintro e w5 ⟨ma, ml, mq, rfl, tt, pp, kp⟩
          have P_5 := Lib.hid pp
          have R_5 := Lib.hid (R_4.out.kp kp (by omega))
          have K_5 := K_4.trans kp
          have l_5 : w4.heap.size + 0 ≤ w5.heap.size := by have := kp.size; simpa using this
          clear kp pp 
          have Tm_5 := Lib.hid tt
          clear tt
          go_wp2_with fail
          refine (node_any _ _ _ _ _).mono ?_
          rintro e w6 ⟨rfl, hb⟩
          have kk := Kp.of_below (b := c.bp) hb
          have P_6 := Lib.hid ((P_5.out.alloc _).below hb)
          have R_6 := Lib.hid ((R_5.out.alloc _).kp kk (by omega))
          have A_6 := Lib.hid (((Blk.new w5 25 #[vs m.op, vs m.text, .int .i64 m.pos, .slice ma ml mq])).kp kk (by omega))
          have Tm_6 := Lib.hid ((Tm_5.out.alloc _).kp kk (by first | omega | (simp; omega)))
          have K_6 := (K_5.alloc _).trans kk
          have l_6 : w5.heap.size + 1 ≤ w6.heap.size := by have := kk.size; simpa using this
          clear kk hb 
          obtain ⟨r0, r1, r2, r3⟩ := R_6.out.four
          have rf0 := R_6.out.frozen 0
          have rf1 := R_6.out.frozen 1
          have rf2 := R_6.out.frozen 2
          have rf3 := R_6.out.frozen 3
          go_wp2_with fail
          refine leaves_cons (f := 72) (args := #[.pointer (some ⟨c.bp, 0, none⟩)]) (by simp) (by simp [go_sem]) ?_
          refine (up_deferred c _ _ (P_6.out.put4 (by omega)) (by have := HDp.out; omega) .returning).mono ?_
          rintro e u w7 ⟨rfl, rfl, pp, kp⟩
          have RZ := (R_6.out.put4 (a := vs [110, 111, 116]) (b := vs []) (c := .int .i64 0) (d := .slice (some ⟨w5.heap.size, 0, none⟩) 1 1)).kp kp (by omega)
          refine ⟨_, results_node Tryz.results126 rfl RZ, _, 1, 1, rfl, ?_, pp, (K_6.put4 (Nat.le_refl _)).trans kp⟩
          exact (((KidsAt.one (n1 := m) (S := fun b => w.heap.size < b) A_6.out (by omega) (Tm_6.out.mono (fun b hb _ => by first | omega | (simp at hb; omega)))).put4 (by simp)).kp kp (by omega)).mono (fun b hb _ => by omega)
      · cases hat : Pp.at_ c.T [[45]] s with
        | false =>
          have HA := Lib.hid hat
          clear hat
          go_wp2_with fail
          refine (accept_f c _ _ P_2.out [45] HA.out).mono ?_
          rintro e w3 ⟨rfl, pp, kp⟩
          have P_3 := Lib.hid pp
          have R_3 := Lib.hid (R_2.out.kp kp (by omega))
          have K_3 := K_2.trans kp
          have l_3 : w2.heap.size + 0 ≤ w3.heap.size := by have := kp.size; simpa using this
          have KP := Lib.hid kp
          clear kp pp 
          go_wp2_with fail
          go_roundg (gk - 1)
          case measure => omega
          case rel =>
            refine ⟨seen.push _, ?_, ?_, R_3.out, P_3.out, K_3, Nat.lt_of_lt_of_le hlp (by omega), ?_⟩
            · exact (KP.out.block _ (by omega) (by omega)).trans Hit.out
            · exact (KP.out.block _ (by omega) (by omega)).trans Hmap.out
            · intro e he hc x hx
              simp only [Array.contains_push, Bool.or_eq_true] at hc
              rcases hc with hc | hc
              · exact hseen.out e he hc x hx
              · simp only [List.mem_cons, List.not_mem_nil, or_false] at he
                rcases he with rfl | rfl | rfl
                all_goals first | (exfalso; revert hc; decide) | (have hxx : x = [45] := vs_inj hx.symm; subst hxx; exact HA.out)
        | true =>
          have hh := HH.out
          rw [Pp.unary, signOp_45 hat, if_neg (by simp)] at hh
          cases hdn : Pp.down c.T (Pp.step c.T s) with
          | none => rw [hdn] at hh; cases hh
          | some s1 =>
          rw [hdn] at hh
          simp only at hh
          cases hEm : Pp.unary rx c.T E k j s1 with
          | none => rw [hEm] at hh; cases hh
          | some r =>
          obtain ⟨m, s2⟩ := r
          rw [hEm] at hh
          simp only [Option.some.injEq, Prod.mk.injEq] at hh
          obtain ⟨rfl, rfl⟩ := hh
          have HA := Lib.hid hat
          have HDn := Lib.hid hdn
          have HM := Lib.hid hEm
          have HDp : Hid (-1000000 < s2.deep) := by
            have h1 := HD.out _ _ _ _ hEm
            have h2 := down_deep hdn
            rw [step_deep] at h2
            have h3 := P_1.out.deep.1
            show -1000000 < s2.deep
            omega
          clear hat hdn hEm hseen
          go_wp2_with fail
          refine (accept_t c _ _ P_2.out [45] HA.out).mono ?_
          rintro e w3 ⟨rfl, pp, kp⟩
          have P_3 := Lib.hid pp
          have R_3 := Lib.hid (R_2.out.kp kp (by omega))
          have K_3 := K_2.trans kp
          have l_3 : w2.heap.size + 0 ≤ w3.heap.size := by have := kp.size; simpa using this
          clear kp pp 
          go_wp2_with fail
          refine (down_any c _ _ s1 P_3.out HDn.out).mono ?_
          rintro e w4 ⟨rfl, pp, kp⟩
          have P_4 := Lib.hid pp
          have R_4 := Lib.hid (R_3.out.kp kp (by omega))
          have K_4 := K_3.trans kp
          have l_4 : w3.heap.size + 0 ≤ w4.heap.size := by have := kp.size; simpa using this
          clear kp pp 
          go_wp2_with fail
          refine (HI.out _ _ _ _ P_4.out HM.out).mono ?_
          rintro e w5 ⟨ma, ml, mq, rfl, tt, pp, kp⟩
          have P_5 := Lib.hid pp
          have R_5 := Lib.hid (R_4.out.kp kp (by omega))
          have K_5 := K_4.trans kp
          have l_5 : w4.heap.size + 0 ≤ w5.heap.size := by have := kp.size; simpa using this
          clear kp pp 
          have Tm_5 := Lib.hid tt
          clear tt
          go_wp2_with fail
          refine (node_any _ _ _ _ _).mono ?_
          rintro e w6 ⟨rfl, hb⟩
          have kk := Kp.of_below (b := c.bp) hb
          have P_6 := Lib.hid ((P_5.out.alloc _).below hb)
          have R_6 := Lib.hid ((R_5.out.alloc _).kp kk (by omega))
          have A_6 := Lib.hid (((Blk.new w5 25 #[vs m.op, vs m.text, .int .i64 m.pos, .slice ma ml mq])).kp kk (by omega))
          have Tm_6 := Lib.hid ((Tm_5.out.alloc _).kp kk (by first | omega | (simp; omega)))
          have K_6 := (K_5.alloc _).trans kk
          have l_6 : w5.heap.size + 1 ≤ w6.heap.size := by have := kk.size; simpa using this
          clear kk hb 
          obtain ⟨r0, r1, r2, r3⟩ := R_6.out.four
          have rf0 := R_6.out.frozen 0
          have rf1 := R_6.out.frozen 1
          have rf2 := R_6.out.frozen 2
          have rf3 := R_6.out.frozen 3
          go_wp2_with fail
          refine leaves_cons (f := 72) (args := #[.pointer (some ⟨c.bp, 0, none⟩)]) (by simp) (by simp [go_sem]) ?_
          refine (up_deferred c _ _ (P_6.out.put4 (by omega)) (by have := HDp.out; omega) .returning).mono ?_
          rintro e u w7 ⟨rfl, rfl, pp, kp⟩
          have RZ := (R_6.out.put4 (a := vs [110, 101, 103]) (b := vs []) (c := .int .i64 0) (d := .slice (some ⟨w5.heap.size, 0, none⟩) 1 1)).kp kp (by omega)
          refine ⟨_, results_node Tryz.results126 rfl RZ, _, 1, 1, rfl, ?_, pp, (K_6.put4 (Nat.le_refl _)).trans kp⟩
          exact (((KidsAt.one (n1 := m) (S := fun b => w.heap.size < b) A_6.out (by omega) (Tm_6.out.mono (fun b hb _ => by first | omega | (simp at hb; omega)))).put4 (by simp)).kp kp (by omega)).mono (fun b hb _ => by omega)
      · cases hat : Pp.at_ c.T [[43]] s with
        | false =>
          have HA := Lib.hid hat
          clear hat
          go_wp2_with fail
          refine (accept_f c _ _ P_2.out [43] HA.out).mono ?_
          rintro e w3 ⟨rfl, pp, kp⟩
          have P_3 := Lib.hid pp
          have R_3 := Lib.hid (R_2.out.kp kp (by omega))
          have K_3 := K_2.trans kp
          have l_3 : w2.heap.size + 0 ≤ w3.heap.size := by have := kp.size; simpa using this
          have KP := Lib.hid kp
          clear kp pp 
          go_wp2_with fail
          go_roundg (gk - 1)
          case measure => omega
          case rel =>
            refine ⟨seen.push _, ?_, ?_, R_3.out, P_3.out, K_3, Nat.lt_of_lt_of_le hlp (by omega), ?_⟩
            · exact (KP.out.block _ (by omega) (by omega)).trans Hit.out
            · exact (KP.out.block _ (by omega) (by omega)).trans Hmap.out
            · intro e he hc x hx
              simp only [Array.contains_push, Bool.or_eq_true] at hc
              rcases hc with hc | hc
              · exact hseen.out e he hc x hx
              · simp only [List.mem_cons, List.not_mem_nil, or_false] at he
                rcases he with rfl | rfl | rfl
                all_goals first | (exfalso; revert hc; decide) | (have hxx : x = [43] := vs_inj hx.symm; subst hxx; exact HA.out)
        | true =>
          have hh := HH.out
          rw [Pp.unary, signOp_43 hat, if_neg (by simp)] at hh
          cases hdn : Pp.down c.T (Pp.step c.T s) with
          | none => rw [hdn] at hh; cases hh
          | some s1 =>
          rw [hdn] at hh
          simp only at hh
          cases hEm : Pp.unary rx c.T E k j s1 with
          | none => rw [hEm] at hh; cases hh
          | some r =>
          obtain ⟨m, s2⟩ := r
          rw [hEm] at hh
          simp only [Option.some.injEq, Prod.mk.injEq] at hh
          obtain ⟨rfl, rfl⟩ := hh
          have HA := Lib.hid hat
          have HDn := Lib.hid hdn
          have HM := Lib.hid hEm
          have HDp : Hid (-1000000 < s2.deep) := by
            have h1 := HD.out _ _ _ _ hEm
            have h2 := down_deep hdn
            rw [step_deep] at h2
            have h3 := P_1.out.deep.1
            show -1000000 < s2.deep
            omega
          clear hat hdn hEm hseen
          go_wp2_with fail
          refine (accept_t c _ _ P_2.out [43] HA.out).mono ?_
          rintro e w3 ⟨rfl, pp, kp⟩
          have P_3 := Lib.hid pp
          have R_3 := Lib.hid (R_2.out.kp kp (by omega))
          have K_3 := K_2.trans kp
          have l_3 : w2.heap.size + 0 ≤ w3.heap.size := by have := kp.size; simpa using this
          clear kp pp 
          go_wp2_with fail
          refine (down_any c _ _ s1 P_3.out HDn.out).mono ?_
          rintro e w4 ⟨rfl, pp, kp⟩
          have P_4 := Lib.hid pp
          have R_4 := Lib.hid (R_3.out.kp kp (by omega))
          have K_4 := K_3.trans kp
          have l_4 : w3.heap.size + 0 ≤ w4.heap.size := by have := kp.size; simpa using this
          clear kp pp 
          go_wp2_with fail
          refine (HI.out _ _ _ _ P_4.out HM.out).mono ?_
          rintro e w5 ⟨ma, ml, mq, rfl, tt, pp, kp⟩
          have P_5 := Lib.hid pp
          have R_5 := Lib.hid (R_4.out.kp kp (by omega))
          have K_5 := K_4.trans kp
          have l_5 : w4.heap.size + 0 ≤ w5.heap.size := by have := kp.size; simpa using this
          clear kp pp 
          have Tm_5 := Lib.hid tt
          clear tt
          go_wp2_with fail
          refine (node_any _ _ _ _ _).mono ?_
          rintro e w6 ⟨rfl, hb⟩
          have kk := Kp.of_below (b := c.bp) hb
          have P_6 := Lib.hid ((P_5.out.alloc _).below hb)
          have R_6 := Lib.hid ((R_5.out.alloc _).kp kk (by omega))
          have A_6 := Lib.hid (((Blk.new w5 25 #[vs m.op, vs m.text, .int .i64 m.pos, .slice ma ml mq])).kp kk (by omega))
          have Tm_6 := Lib.hid ((Tm_5.out.alloc _).kp kk (by first | omega | (simp; omega)))
          have K_6 := (K_5.alloc _).trans kk
          have l_6 : w5.heap.size + 1 ≤ w6.heap.size := by have := kk.size; simpa using this
          clear kk hb 
          obtain ⟨r0, r1, r2, r3⟩ := R_6.out.four
          have rf0 := R_6.out.frozen 0
          have rf1 := R_6.out.frozen 1
          have rf2 := R_6.out.frozen 2
          have rf3 := R_6.out.frozen 3
          go_wp2_with fail
          refine leaves_cons (f := 72) (args := #[.pointer (some ⟨c.bp, 0, none⟩)]) (by simp) (by simp [go_sem]) ?_
          refine (up_deferred c _ _ (P_6.out.put4 (by omega)) (by have := HDp.out; omega) .returning).mono ?_
          rintro e u w7 ⟨rfl, rfl, pp, kp⟩
          have RZ := (R_6.out.put4 (a := vs [112, 108, 117, 115]) (b := vs []) (c := .int .i64 0) (d := .slice (some ⟨w5.heap.size, 0, none⟩) 1 1)).kp kp (by omega)
          refine ⟨_, results_node Tryz.results126 rfl RZ, _, 1, 1, rfl, ?_, pp, (K_6.put4 (Nat.le_refl _)).trans kp⟩
          exact (((KidsAt.one (n1 := m) (S := fun b => w.heap.size < b) A_6.out (by omega) (Tm_6.out.mono (fun b hb _ => by first | omega | (simp at hb; omega)))).put4 (by simp)).kp kp (by omega)).mono (fun b hb _ => by omega)
