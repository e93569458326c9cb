/- The parser's small functions, walked: each does to memory what its plain function does to the parser's state. -/
import Derived.Test.YtgnmfaeonijogaaGreatDoorMem
import Derived.Test.YtgnmfaeonijogaaGreatDoorShelf
import Derived.Deep.QuietTactic
import Derived.BigQuiet
import Derived.Deep.RegionHeld3
import Derived.Lib.Hide
import Derived.Deep.LoopGhost
import Derived.Outline
namespace Go.Proofs.YtgnmfaeonijogaaGreatDoor
open Go.RowKit

section
variable {c : PC} {w : World} {s : Pp.PS}
theorem PAt.c0 (h : PAt c w s) : w.cell? ⟨c.bp, 0, none⟩ = some (.slice (some ⟨c.bl, 0, none⟩) c.T.length c.cap) := by simpa using h.blk.cell 0
theorem PAt.c1 (h : PAt c w s) : w.cell? ⟨c.bp, 1, none⟩ = some (.int .i64 s.i) := by simpa using h.blk.cell 1
theorem PAt.c2 (h : PAt c w s) : w.cell? ⟨c.bp, 2, none⟩ = some (.int .i64 s.deep) := by simpa using h.blk.cell 2
theorem PAt.c3 (h : PAt c w s) : w.cell? ⟨c.bp, 3, none⟩ = some (.bool s.flat) := by simpa using h.blk.cell 3
theorem PAt.c4 (h : PAt c w s) : w.cell? ⟨c.bp, 4, none⟩ = some (.int .i64 s.err) := by simpa using h.blk.cell 4
theorem PAt.c5 (h : PAt c w s) : w.cell? ⟨c.bp, 5, none⟩ = some (.int .i64 s.bad) := by simpa using h.blk.cell 5
theorem PAt.fz (h : PAt c w s) (k : Nat) : w.frozen? ⟨c.bp, k, none⟩ = false := h.blk.frozen k
theorem PAt.getT (h : PAt c w s) : c.T[s.i]? = some (c.T.getD s.i Pp.tok0) := by
  have := h.lt
  simp [List.getElem?_eq_getElem this]
end

/-- A token as a value. -/
@[go_sem] abbrev tv (t : Pp.Tok) : Value := .agg #[.int .i64 t.kind, vs t.text, .int .i64 t.pos]

@[go_sem] theorem field60_0 (a : Int) (b : ByteArray) (c : Int) (w : World) : Sem.run Tryz.prog (Instr.field 60 (.agg #[.int .i64 a, .string b, .int .i64 c]) 0) w = .ok (.int .i64 a) w := by kernel_rfl
@[go_sem] theorem field60_2 (a : Int) (b : ByteArray) (c : Int) (w : World) : Sem.run Tryz.prog (Instr.field 60 (.agg #[.int .i64 a, .string b, .int .i64 c]) 2) w = .ok (.int .i64 c) w := by kernel_rfl
@[go_sem] theorem field60_1 (a : Int) (b : ByteArray) (c : Int) (w : World) : Sem.run Tryz.prog (Instr.field 60 (.agg #[.int .i64 a, .string b, .int .i64 c]) 1) w = .ok (.string b) w := by kernel_rfl

set_option maxHeartbeats 400000 in
theorem cur_any (c : PC) (w : World) (s : Pp.PS) (h : PAt c w s) :
    Calls Tryz.prog 27 #[.pointer (some ⟨c.bp, 0, none⟩)] w fun e w' => e = .returned (tv (Pp.cur c.T s)) ∧ Below w.heap.size w w' := by
  have c0 := h.c0; have c1 := h.c1; have c4 := h.c4
  have hb := h.blk.lt
  by_cases he : s.err = 0
  · have hT := h.tok _ _ h.getT
    have hbl : c.bl < w.heap.size := lt_of_cell hT.1
    have hlt := h.lt
    have hlen := h.ok.len
    rw [he] at c4
    have e : Pp.cur c.T s = c.T.getD s.i Pp.tok0 := by simp [Pp.cur, he]
    rw [e]
    generalize c.T.getD s.i Pp.tok0 = t at *
    obtain ⟨t0, t1, t2⟩ := hT
    generalize c.T.length = n at *
    generalize s.i = i at *
    clear e h
    go_enter Tryz.func27, Tryz.ntmps27
    go_wp2
    go_region
    go_wp2
    refine bodyPost_ret (v := tv t) (by simp [results, Tryz.results27, go_sem]) rfl ⟨rfl, ?_⟩
    exact ((Below.refl _ _).alloc (Nat.le_refl _) _).drew
  · have hne : (s.err != 0) = true := by simpa using he
    have e : Pp.cur c.T s = Pp.tok0 := by simp [Pp.cur, he]
    rw [e]
    clear h he e
    go_enter Tryz.func27, Tryz.ntmps27
    go_wp2
    refine bodyPost_ret (v := tv Pp.tok0) (by simp [results, Tryz.results27, go_sem, Pp.tok0]) rfl ⟨rfl, ?_⟩
    exact (Below.refl _ _).alloc (Nat.le_refl _) _


theorem PAt.set {c : PC} {w : World} {s : Pp.PS} (h : PAt c w s) (s' : Pp.PS) (k : Nat) (v : Value)
    (hv : (#[.slice (some ⟨c.bl, 0, none⟩) c.T.length c.cap, .int .i64 s.i, .int .i64 s.deep, .bool s.flat, .int .i64 s.err, .int .i64 s.bad] : Array Value).setIfInBounds k v =
      #[.slice (some ⟨c.bl, 0, none⟩) c.T.length c.cap, .int .i64 s'.i, .int .i64 s'.deep, .bool s'.flat, .int .i64 s'.err, .int .i64 s'.bad])
    (hi : s'.i < c.T.length) (hd : -1000000 ≤ s'.deep ∧ s'.deep ≤ 1000000) : PAt c (w.setCell ⟨c.bp, k, none⟩ v) s' :=
  h.turn ((Kp.refl _ _).setB _ _) (hv ▸ h.blk.set_ k v) hi hd

set_option maxHeartbeats 400000 in
theorem step_any (c : PC) (w : World) (s : Pp.PS) (h : PAt c w s) :
    Calls Tryz.prog 28 #[.pointer (some ⟨c.bp, 0, none⟩)] w (VPost c w (Pp.step c.T s)) := by
  have c0 := h.c0; have c1 := h.c1; have c4 := h.c4
  have hb := h.blk.lt
  have hlt := h.lt
  have hlen := h.ok.len
  have hfz := h.fz 1
  by_cases he : s.err = 0
  · rw [he] at c4
    have hd : ((0 : Int) == 0) = true := rfl
    by_cases hi : s.i + 1 < c.T.length
    · have e : Pp.step c.T s = { s with i := s.i + 1 } := by simp [Pp.step, he, hi]
      have fin : ∀ nq, PAt c ((w.drewN nq).setCell ⟨c.bp, 1, none⟩ (.int .i64 (s.i + 1))) { s with i := s.i + 1 } := fun nq => (h.drewN nq).set _ _ _ (by simp) hi h.deep
      rw [e]
      have Fin := Lib.hid fin
      generalize c.T.length = n at c0 hlt hlen hi
      generalize hS : ({ s with i := s.i + 1 } : Pp.PS) = S at *
      generalize s.i = i at *
      clear e h fin he hS
      go_enter Tryz.func28, Tryz.ntmps28
      go_wp2_with fail
      go_quiet (fail)
      go_wp2
      go_end0
      exact ⟨rfl, Fin.out _, ((Kp.refl _ _).drewN _).setB _ _⟩
    · have e : Pp.step c.T s = s := by simp [Pp.step, hi]
      have fin : ∀ nq, PAt c (w.drewN nq) s := fun nq => h.drewN nq
      rw [e]
      have Fin := Lib.hid fin
      have hdd : decide ((s.i : Int) < c.T.length - 1) = false := by simp; omega
      generalize c.T.length = n at c0 hlt hlen hi hdd
      generalize s.i = i at *
      clear e h fin he
      go_enter Tryz.func28, Tryz.ntmps28
      go_wp2_with fail
      go_quiet (fail)
      go_wp2
      go_end0
      exact ⟨rfl, Fin.out _, (Kp.refl _ _).drewN _⟩
  · have hne : (s.err == 0) = false := by simpa using he
    have e : Pp.step c.T s = s := by simp [Pp.step, he]
    have fin : ∀ nq, PAt c (w.drewN nq) s := fun nq => h.drewN nq
    rw [e]
    have Fin := Lib.hid fin
    clear h he e fin
    go_enter Tryz.func28, Tryz.ntmps28
    go_wp2_with fail
    go_quiet (fail)
    go_wp2
    go_end0
    exact ⟨rfl, Fin.out _, (Kp.refl _ _).drewN _⟩

set_option maxHeartbeats 400000 in
theorem up_any (c : PC) (w : World) (s : Pp.PS) (h : PAt c w s) (hd : -1000000 < s.deep) :
    Calls Tryz.prog 72 #[.pointer (some ⟨c.bp, 0, none⟩)] w (VPost c w (Pp.up s)) := by
  have c2 := h.c2
  have hb := h.blk.lt
  have hfz := h.fz 2
  have hdd := h.deep.2
  have fin : PAt c (w.setCell ⟨c.bp, 2, none⟩ (.int .i64 (s.deep - 1))) (Pp.up s) := h.set _ _ _ (by simp [Pp.up]) h.lt (by have := h.deep; simp [Pp.up]; omega)
  have Fin := Lib.hid fin
  generalize Pp.up s = S at *
  generalize s.deep = d at *
  clear h fin
  go_enter Tryz.func72, Tryz.ntmps72
  go_wp2
  go_end0
  exact ⟨rfl, Fin.out, (Kp.refl _ _).setB _ _⟩


/-! ### Texts in a slice -/
def StrsAt (w : World) (b : Nat) (ts : List Pp.Bytes) : Prop := ∀ j t, ts[j]? = some t → w.cell? ⟨b, j, none⟩ = some (vs t)
theorem StrsAt.mono {w w' : World} {b : Nat} {ts : List Pp.Bytes} (h : StrsAt w b ts) (hb : ∀ o, w'.cell? ⟨b, o, none⟩ = w.cell? ⟨b, o, none⟩) : StrsAt w' b ts := fun j t ht => (hb j).trans (h j t ht)
theorem StrsAt.below {w w' : World} {b : Nat} {ts : List Pp.Bytes} (h : StrsAt w b ts) (k : Below w.heap.size w w') (hb : b < w.heap.size) : StrsAt w' b ts := h.mono fun o => k.cell (p := ⟨b, o, none⟩) hb

theorem containsS_conv (ts : List Pp.Bytes) (x : Pp.Bytes) : Lib.containsS (ts.map fun t => (⟨t.toArray⟩ : ByteArray)) ⟨x.toArray⟩ = ts.contains x := by
  rw [Bool.eq_iff_iff, Lib.containsS_iff, List.contains_iff_mem]
  simp only [List.mem_map]
  constructor
  · rintro ⟨t, ht, e⟩
    have : t = x := by
      have := congrArg (fun b : ByteArray => b.data.toList) e
      simpa using this
    exact this ▸ ht
  · intro h
    exact ⟨x, h, rfl⟩
theorem containsT (w : World) (b c : Nat) (ts : List Pp.Bytes) (x : Pp.Bytes) (h : StrsAt w b ts) (hl : ts.length ≤ 1000000) :
    Calls Tryz.prog 39 #[.slice (some ⟨b, 0, none⟩) ts.length c, vs x] w fun e w' => e = .returned (.bool (ts.contains x)) ∧ w = w' := by
  refine (Tryz.slices_Contains_string b 0 ts.length c (ts.map fun t => (⟨t.toArray⟩ : ByteArray)) ⟨x.toArray⟩ w (by simp) (by omega) ?_).mono ?_
  · intro j hj
    simp only [List.length_map] at hj
    rw [Nat.zero_add, h j _ (List.getElem?_eq_getElem hj)]
    simp [vs, hj]
  · rintro e w' ⟨rfl, rfl⟩
    rw [List.take_of_length_le (by simp), containsS_conv]
    exact ⟨rfl, rfl⟩

set_option maxHeartbeats 400000 in
theorem at_any (c : PC) (w : World) (s : Pp.PS) (h : PAt c w s) (b cc : Nat) (ts : List Pp.Bytes) (ht : StrsAt w b ts) (hl : ts.length ≤ 1000000) (hbw : b < w.heap.size) :
    Calls Tryz.prog 26 #[.pointer (some ⟨c.bp, 0, none⟩), .slice (some ⟨b, 0, none⟩) ts.length cc] w fun e w' => e = .returned (.bool (Pp.at_ c.T ts s)) ∧ Below w.heap.size w w' := by
  unfold Pp.at_
  have hc := cur_any c w s h
  generalize Pp.cur c.T s = t at *
  have Hc := Lib.hid hc
  clear hc h
  by_cases h8 : t.kind = 8
  · have k8 : (t.kind == 8) = true := by simpa using h8
    rw [k8]
    go_enter Tryz.func26, Tryz.ntmps26
    go_wp2_with fail
    refine Hc.out.mono ?_
    rintro e w1 ⟨rfl, hb1⟩
    have ht1 := (ht.below hb1 hbw).below ((Below.refl _ _).alloc (Nat.le_refl _) (.cells #[.int .i64 t.kind, vs t.text, .int .i64 t.pos] 60)) (by have := hb1.size; omega)
    have hk : Below w.heap.size w (w1.alloc (.cells #[.int .i64 t.kind, vs t.text, .int .i64 t.pos] 60)) := hb1.alloc hb1.size _
    clear Hc ht hb1 h8
    go_wp2_with (go_at_call 39; refine (containsT _ b cc ts t.text ht1 hl).mono ?_; rintro e w' ⟨rfl, rfl⟩)
    go_ret
    exact ⟨by simp, hk⟩
  · have k8 : (t.kind == 8) = false := by simpa using h8
    by_cases h7 : t.kind = 7
    · have k7 : (t.kind == 7) = true := by simpa using h7
      rw [k8, k7]
      go_enter Tryz.func26, Tryz.ntmps26
      go_wp2_with fail
      refine Hc.out.mono ?_
      rintro e w1 ⟨rfl, hb1⟩
      have ht1 := (ht.below hb1 hbw).below ((Below.refl _ _).alloc (Nat.le_refl _) (.cells #[.int .i64 t.kind, vs t.text, .int .i64 t.pos] 60)) (by have := hb1.size; omega)
      have hk : Below w.heap.size w (w1.alloc (.cells #[.int .i64 t.kind, vs t.text, .int .i64 t.pos] 60)) := hb1.alloc hb1.size _
      clear Hc ht hb1 h8 h7
      go_wp2_with (go_at_call 39; refine (containsT _ b cc ts t.text ht1 hl).mono ?_; rintro e w' ⟨rfl, rfl⟩)
      go_ret
      exact ⟨by simp, hk⟩
    · have k7 : (t.kind == 7) = false := by simpa using h7
      rw [k8, k7]
      go_enter Tryz.func26, Tryz.ntmps26
      go_wp2_with fail
      refine Hc.out.mono ?_
      rintro e w1 ⟨rfl, hb1⟩
      have hk : Below w.heap.size w (w1.alloc (.cells #[.int .i64 t.kind, vs t.text, .int .i64 t.pos] 60)) := hb1.alloc hb1.size _
      clear Hc ht hb1 h8 h7
      go_wp2_with fail
      go_ret
      exact ⟨by simp, hk⟩

theorem StrsAt.one {w : World} {b : Nat} {x : Pp.Bytes} (h : w.cell? ⟨b, 0, none⟩ = some (vs x)) : StrsAt w b [x] := by
  intro j t ht
  match j, ht with
  | 0, ht => simp at ht; subst ht; exact h
  | j + 1, ht => simp at ht
theorem StrsAt.of_blk {w : World} {b : Nat} {t : TypeId} (ts : List Pp.Bytes) (h : Blk w b t (ts.map vs).toArray) : StrsAt w b ts := by
  intro j t ht
  rw [h.cell j]
  simp [ht]
/-- 'at' at texts that are laid just ahead. -/
theorem at_new (c : PC) (w : World) (s : Pp.PS) (h : PAt c w s) (cc : Nat) (ts : List Pp.Bytes) (n : Nat) (hn : n = ts.length) (cs : Array Value) (hcs : cs = (ts.map vs).toArray) (hl : n ≤ 1000000) :
    Calls Tryz.prog 26 #[.pointer (some ⟨c.bp, 0, none⟩), .slice (some ⟨w.heap.size, 0, none⟩) n cc] (w.alloc (.cells cs 9)) fun e w' =>
      e = .returned (.bool (Pp.at_ c.T ts s)) ∧ Below w.heap.size w w' := by
  subst hn hcs
  refine (at_any c _ s (h.alloc _) w.heap.size cc ts (.of_blk ts (Blk.new w 9 _)) hl (by simp)).mono ?_
  rintro e w' ⟨rfl, hb⟩
  exact ⟨rfl, ((Below.refl _ _).alloc (Nat.le_refl _) _).trans (hb.mono (by simp))⟩

set_option maxHeartbeats 400000 in
theorem accept_any (c : PC) (w : World) (s : Pp.PS) (h : PAt c w s) (x : Pp.Bytes) :
    Calls Tryz.prog 40 #[.pointer (some ⟨c.bp, 0, none⟩), vs x] w fun e w' => e = .returned (.bool (Pp.at_ c.T [x] s)) ∧ PAt c w' (Pp.accept c.T x s) ∧ Kp c.bp w w' := by
  have ha := at_new c w s h 1 [x] 1 rfl #[vs x] rfl (by omega)
  have Ha := Lib.hid ha
  clear ha
  unfold Pp.accept
  cases hx : Pp.at_ c.T [x] s with
  | false =>
    rw [hx] at Ha
    have H := Lib.hid h
    clear hx h
    go_enter Tryz.func40, Tryz.ntmps40
    go_wp2_with fail
    refine Ha.out.mono ?_
    rintro e w1 ⟨rfl, hb1⟩
    go_wp2_with fail
    go_ret
    exact ⟨rfl, by simpa using H.out.below hb1, .of_below hb1⟩
  | true =>
    rw [hx] at Ha
    have H := Lib.hid h
    clear hx h
    go_enter Tryz.func40, Tryz.ntmps40
    go_wp2_with fail
    refine Ha.out.mono ?_
    rintro e w1 ⟨rfl, hb1⟩
    go_wp2_with fail
    refine (step_any c w1 s (H.out.below hb1)).mono ?_
    rintro e w2 ⟨rfl, hp2, hk2⟩
    have Hp2 := Lib.hid hp2
    clear hp2
    go_wp2_with fail
    go_ret
    exact ⟨rfl, by simpa using Hp2.out, (Kp.of_below hb1).trans hk2⟩

set_option maxHeartbeats 400000 in
theorem fail_any (c : PC) (w : World) (s : Pp.PS) (h : PAt c w s) :
    Calls Tryz.prog 47 #[.pointer (some ⟨c.bp, 0, none⟩)] w (VPost c w (Pp.fail c.T s)) := by
  have hc := cur_any c w s h
  by_cases he : s.err = 0
  · have e : Pp.cur c.T s = c.T.getD s.i Pp.tok0 := by simp [Pp.cur, he]
    rw [e] at hc
    unfold Pp.fail
    simp only [he, if_true]
    generalize c.T.getD s.i Pp.tok0 = t at *
    have f9 : ∀ W, PAt c W s → PAt c ((W.setCell ⟨c.bp, 4, none⟩ (.int .i64 9)).setCell ⟨c.bp, 5, none⟩ (.int .i64 t.pos)) { s with err := 9, bad := t.pos } := fun W hW =>
      (hW.set { s with err := 9 } 4 _ (by simp) hW.lt hW.deep).set _ 5 _ (by simp) hW.lt hW.deep
    have f10 : ∀ W, PAt c W s → PAt c ((W.setCell ⟨c.bp, 4, none⟩ (.int .i64 10)).setCell ⟨c.bp, 5, none⟩ (.int .i64 t.pos)) { s with err := 10, bad := t.pos } := fun W hW =>
      (hW.set { s with err := 10 } 4 _ (by simp) hW.lt hW.deep).set _ 5 _ (by simp) hW.lt hW.deep
    have F9 := Lib.hid f9
    have F10 := Lib.hid f10
    have Hc := Lib.hid hc
    have H := Lib.hid h
    have hz : (s.err != 0) = false := by simp [he]
    clear hc h f9 f10 e
    by_cases h10 : t.kind = 10
    · have k10 : (t.kind == 10) = true := by simpa using h10
      have hbad : Pp.isBad t = true := by simp [Pp.isBad, k10]
      rw [if_pos hbad]
      clear hbad h10 he
      go_enter Tryz.func47, Tryz.ntmps47
      go_wp2_with fail
      refine Hc.out.mono ?_
      rintro e w1 ⟨rfl, hb1⟩
      have c4 := (H.out.below hb1).c4
      have c5 := (H.out.below hb1).c5
      have z4 := (H.out.below hb1).fz 4
      have z5 := (H.out.below hb1).fz 5
      have hbp := (H.out.below hb1).blk.lt
      go_wp2_with fail
      go_region
      go_wp2_with fail
      go_end0
      exact ⟨rfl, ((F10.out _ (H.out.below hb1)).alloc _).drew, ((((Kp.of_below hb1).setB _ _).setB _ _).alloc _).drew⟩
    · have k10 : (t.kind == 10) = false := by simpa using h10
      by_cases h8 : t.kind = 8
      · have k8 : (t.kind == 8) = true := by simpa using h8
        by_cases hx : t.text = [124]
        · have kx : (t.text == [124]) = true := by simpa using hx
          have hbad : Pp.isBad t = true := by simp [Pp.isBad, k8, hx]
          rw [if_pos hbad]
          clear hbad h10 he h8 hx
          go_enter Tryz.func47, Tryz.ntmps47
          go_wp2_with fail
          refine Hc.out.mono ?_
          rintro e w1 ⟨rfl, hb1⟩
          have c4 := (H.out.below hb1).c4
          have c5 := (H.out.below hb1).c5
          have z4 := (H.out.below hb1).fz 4
          have z5 := (H.out.below hb1).fz 5
          have hbp := (H.out.below hb1).blk.lt
          go_wp2_with fail
          go_region
          go_wp2_with fail
          go_end0
          exact ⟨rfl, ((F10.out _ (H.out.below hb1)).alloc _).drew, ((((Kp.of_below hb1).setB _ _).setB _ _).alloc _).drew⟩
        · have kx : (t.text == [124]) = false := by simpa using hx
          have hbad : ¬ Pp.isBad t = true := by simp [Pp.isBad, hx, h10]
          rw [if_neg hbad]
          clear hbad h10 he h8 hx
          go_enter Tryz.func47, Tryz.ntmps47
          go_wp2_with fail
          refine Hc.out.mono ?_
          rintro e w1 ⟨rfl, hb1⟩
          have c4 := (H.out.below hb1).c4
          have c5 := (H.out.below hb1).c5
          have z4 := (H.out.below hb1).fz 4
          have z5 := (H.out.below hb1).fz 5
          have hbp := (H.out.below hb1).blk.lt
          go_wp2_with fail
          go_region
          go_wp2_with fail
          go_end0
          exact ⟨rfl, ((F9.out _ (H.out.below hb1)).alloc _).drew, ((((Kp.of_below hb1).setB _ _).setB _ _).alloc _).drew⟩
      · have k8 : (t.kind == 8) = false := by simpa using h8
        have hbad : ¬ Pp.isBad t = true := by simp [Pp.isBad, h8, h10]
        rw [if_neg hbad]
        clear hbad h10 he h8
        go_enter Tryz.func47, Tryz.ntmps47
        go_wp2_with fail
        refine Hc.out.mono ?_
        rintro e w1 ⟨rfl, hb1⟩
        have c4 := (H.out.below hb1).c4
        have c5 := (H.out.below hb1).c5
        have z4 := (H.out.below hb1).fz 4
        have z5 := (H.out.below hb1).fz 5
        have hbp := (H.out.below hb1).blk.lt
        go_wp2_with fail
        go_region
        go_wp2_with fail
        go_end0
        exact ⟨rfl, ((F9.out _ (H.out.below hb1)).alloc _).drew, ((((Kp.of_below hb1).setB _ _).setB _ _).alloc _).drew⟩
  · have hne : (s.err != 0) = true := by simpa using he
    have e : Pp.fail c.T s = s := by simp [Pp.fail, he]
    rw [e]
    generalize Pp.cur c.T s = t at *
    have Hc := Lib.hid hc
    have H := Lib.hid h
    clear hc h he e
    go_enter Tryz.func47, Tryz.ntmps47
    go_wp2_with fail
    refine Hc.out.mono ?_
    rintro e w1 ⟨rfl, hb1⟩
    have c4 := (H.out.below hb1).c4
    have hbp := (H.out.below hb1).blk.lt
    go_wp2_with fail
    go_end0
    exact ⟨rfl, (H.out.below hb1).alloc _, (Kp.of_below hb1).alloc _⟩


set_option maxHeartbeats 400000 in
theorem expect_any (c : PC) (w : World) (s : Pp.PS) (h : PAt c w s) (x : Pp.Bytes) :
    Calls Tryz.prog 44 #[.pointer (some ⟨c.bp, 0, none⟩), vs x] w (VPost c w (Pp.expect c.T x s)) := by
  have ha := accept_any c w s h x
  unfold Pp.accept at ha
  unfold Pp.expect
  have Ha := Lib.hid ha
  clear ha h
  cases hx : Pp.at_ c.T [x] s with
  | true =>
    rw [hx] at Ha
    simp only [if_true] at Ha ⊢
    clear hx
    go_enter Tryz.func44, Tryz.ntmps44
    go_wp2_with fail
    refine Ha.out.mono ?_
    rintro e w1 ⟨rfl, hp, hk⟩
    have Hp := Lib.hid hp
    clear hp
    go_wp2_with fail
    go_end0
    exact ⟨rfl, Hp.out, hk⟩
  | false =>
    rw [hx] at Ha
    simp only [Bool.false_eq_true, if_false] at Ha ⊢
    clear hx
    go_enter Tryz.func44, Tryz.ntmps44
    go_wp2_with fail
    refine Ha.out.mono ?_
    rintro e w1 ⟨rfl, hp, hk⟩
    have Hp := Lib.hid hp
    clear hp
    go_wp2_with fail
    refine (fail_any c w1 s Hp.out).mono ?_
    rintro e w2 ⟨rfl, hp2, hk2⟩
    have Hp2 := Lib.hid hp2
    clear hp2
    go_wp2_with fail
    go_end0
    exact ⟨rfl, Hp2.out, hk.trans hk2⟩

theorem linesF_stop (T : List Pp.Tok) (k : Nat) (s : Pp.PS) (h : (Pp.cur T s).kind ≠ 1) : Pp.linesF T k s = s := by
  cases k <;> simp [Pp.linesF, h]
theorem cur_step_i (T : List Pp.Tok) (s : Pp.PS) (hlast : ∀ (i : Nat), i + 1 = T.length → (T.getD i Pp.tok0).kind = 0) (hlt : s.i < T.length) (h : (Pp.cur T s).kind = 1) : s.err = 0 ∧ s.i + 1 < T.length ∧ Pp.step T s = { s with i := s.i + 1 } := by
  by_cases he : s.err = 0
  · have hk : (T.getD s.i Pp.tok0).kind = 1 := by simpa [Pp.cur, he] using h
    have hi : s.i + 1 < T.length := by
      rcases Nat.lt_or_ge (s.i + 1) T.length with h1 | h1
      · exact h1
      · have := hlast s.i (by omega)
        omega
    exact ⟨he, hi, by simp [Pp.step, he, hi]⟩
  · simp [Pp.cur, he, Pp.tok0] at h
/-- So many lines are passed as there are, whatever the fuel. -/
theorem linesF_fuel (T : List Pp.Tok) (hlast : ∀ (i : Nat), i + 1 = T.length → (T.getD i Pp.tok0).kind = 0) : ∀ (k : Nat) (s : Pp.PS), s.i < T.length → T.length ≤ s.i + k → Pp.linesF T (k + 1) s = Pp.linesF T k s := by
  intro k
  induction k with
  | zero => intro s h1 h2; omega
  | succ k ih =>
    intro s h1 h2
    by_cases h : (Pp.cur T s).kind = 1
    · obtain ⟨_, hi, he⟩ := cur_step_i T s hlast h1 h
      rw [Pp.linesF, if_pos h]
      conv => rhs; rw [Pp.linesF, if_pos h]
      rw [he]
      exact ih _ hi (by simp; omega)
    · rw [linesF_stop T _ s h, linesF_stop T _ s h]
theorem lines_step (T : List Pp.Tok) (hlast : ∀ (i : Nat), i + 1 = T.length → (T.getD i Pp.tok0).kind = 0) (s : Pp.PS) (hlt : s.i < T.length) (h : (Pp.cur T s).kind = 1) : Pp.lines T s = Pp.lines T (Pp.step T s) := by
  unfold Pp.lines
  obtain ⟨_, hi, he⟩ := cur_step_i T s hlast hlt h
  obtain ⟨k, hk⟩ : ∃ k, T.length = k + 1 := ⟨T.length - 1, by omega⟩
  rw [hk, Pp.linesF, if_pos h, he]
  exact (linesF_fuel T hlast k _ hi (by simp; omega)).symm

set_option maxRecDepth 100000 in
set_option maxHeartbeats 800000 in
theorem lines_any (c : PC) (w : World) (s : Pp.PS) (h : PAt c w s) :
    Calls Tryz.prog 45 #[.pointer (some ⟨c.bp, 0, none⟩)] w (VPost c w (Pp.lines c.T s)) := by
  have H := Lib.hid h
  have hok := h.ok
  clear h
  go_enter Tryz.func45, Tryz.ntmps45
  go_wp2_with fail
  go_loopg [] c.T.length (fun g wr => ∃ s1 : Pp.PS, PAt c wr s1 ∧ Kp c.bp w wr ∧ Hid (Pp.lines c.T s1 = Pp.lines c.T s) ∧ c.T.length ≤ s1.i + g)
  case atStart => exact ⟨s, H.out, Kp.refl _ _, rfl, by omega⟩
  case round =>
    obtain ⟨s1, hp, hk, he, hg⟩ := hrel
    have Hp := Lib.hid hp
    clear hp
    have hc := cur_any c wr s1 Hp.out
    cases hb : (Pp.cur c.T s1).kind == 1 with
    | true =>
      obtain ⟨e0, hi, e1⟩ := cur_step_i c.T s1 hok.last Hp.out.lt (by simpa using hb)
      have hs := lines_step c.T hok.last s1 Hp.out.lt (by simpa using hb)
      have hstep := step_any c
      have Fin : Hid (Pp.lines c.T (Pp.step c.T s1) = Pp.lines c.T s) := hs.symm.trans he
      have hm : (Pp.step c.T s1).i = s1.i + 1 := by rw [e1]
      have Hm := Lib.hid hm
      clear he hs e0 e1 hm
      generalize hS : Pp.step c.T s1 = S at *
      have HS := Lib.hid hS
      generalize Pp.cur c.T s1 = t at *
      have Hc := Lib.hid hc
      have Hstep := Lib.hid hstep
      clear hc hS hstep
      go_wp2_with fail
      refine Hc.out.mono ?_
      rintro e w1 ⟨rfl, hb1⟩
      go_wp2_with fail
      refine (Hstep.out w1 s1 (Hp.out.below hb1)).mono ?_
      rintro e w2 ⟨rfl, hp2, hk2⟩
      have Hp2 := Lib.hid hp2
      clear hp2
      go_wp2_with fail
      go_roundg (gk - 1)
      case measure => omega
      case rel => exact ⟨S, HS.out ▸ Hp2.out, (hk.trans (.of_below hb1)).trans hk2, Fin, by have := Hm.out; omega⟩
    | false =>
      have e : Pp.lines c.T s1 = s1 := linesF_stop _ _ _ (by simpa using hb)
      have Fin : Hid (Pp.lines c.T s = s1) := (he.out.symm.trans e)
      clear he e
      generalize Pp.cur c.T s1 = t at *
      have Hc := Lib.hid hc
      clear hc
      go_wp2_with fail
      refine Hc.out.mono ?_
      rintro e w1 ⟨rfl, hb1⟩
      go_wp2_with fail
      go_end0
      exact ⟨rfl, Fin.out ▸ Hp.out.below hb1, hk.trans (.of_below hb1)⟩

set_option maxHeartbeats 400000 in
theorem node_any (w : World) (op : Pp.Bytes) (a : Option Addr) (n cc : Nat) :
    Calls Tryz.prog 25 #[vs op, .slice a n cc] w fun e w' => e = .returned (.agg #[vs op, vs [], .int .i64 0, .slice a n cc]) ∧ Below w.heap.size w w' := by
  go_enter Tryz.func25, Tryz.ntmps25
  go_wp2
  refine bodyPost_ret (v := .agg #[vs op, vs [], .int .i64 0, .slice a n cc]) (by simp [results, Tryz.results25, go_sem]) rfl ⟨rfl, ?_⟩
  exact (Below.refl _ _).alloc (Nat.le_refl _) _

set_option maxHeartbeats 400000 in
theorem leaf_any (w : World) (op : Pp.Bytes) (t : Pp.Tok) (a : Option Addr) (n cc : Nat) :
    Calls Tryz.prog 42 #[vs op, tv t, .slice a n cc] w fun e w' => e = .returned (.agg #[vs op, vs t.text, .int .i64 t.pos, .slice a n cc]) ∧ Below w.heap.size w w' := by
  go_enter Tryz.func42, Tryz.ntmps42
  go_wp2
  refine bodyPost_ret (v := .agg #[vs op, vs t.text, .int .i64 t.pos, .slice a n cc]) (by simp [results, Tryz.results42, go_sem]) rfl ⟨rfl, ?_⟩
  exact ((Below.refl _ _).alloc (Nat.le_refl _) _).alloc (by simp) _

end Go.Proofs.YtgnmfaeonijogaaGreatDoor
