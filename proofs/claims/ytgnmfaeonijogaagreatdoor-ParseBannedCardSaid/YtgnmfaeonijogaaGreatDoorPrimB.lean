/- More of the parser's small functions, walked. -/
import Derived.Test.YtgnmfaeonijogaaGreatDoorPrim
import Derived.Defers
namespace Go.Proofs.YtgnmfaeonijogaaGreatDoor
open Go.RowKit

set_option maxHeartbeats 400000 in
theorem down_any (c : PC) (w : World) (s s' : Pp.PS) (h : PAt c w s) (hs : Pp.down c.T s = some s') :
    Calls Tryz.prog 71 #[.pointer (some ⟨c.bp, 0, none⟩)] w (VPost c w s') := by
  have c2 := h.c2
  have hb := h.blk.lt
  have hfz := h.fz 2
  have hd := h.deep
  have f2 : ∀ W, PAt c W s → s.deep < 1000000 → PAt c (W.setCell ⟨c.bp, 2, none⟩ (.int .i64 (s.deep + 1))) { s with deep := s.deep + 1 } := fun W hW hl =>
    hW.set { s with deep := s.deep + 1 } 2 _ (by simp) hW.lt (by simp; omega)
  unfold Pp.down at hs
  by_cases hl : s.deep < 1000000
  · rw [if_pos hl] at hs
    have P1 := Lib.hid (f2 w h hl)
    have c4 := (f2 w h hl).c4
    by_cases h5 : 50 < s.deep + 1
    · by_cases he : s.err = 0
      · rw [if_pos ⟨h5, he⟩] at hs
        have hc := cur_any c _ _ P1.out
        have e : Pp.cur c.T { s with deep := s.deep + 1 } = c.T.getD s.i Pp.tok0 := by simp [Pp.cur, he]
        rw [e] at hc
        have f3 : ∀ W, PAt c W { s with deep := s.deep + 1 } → PAt c ((W.setCell ⟨c.bp, 4, none⟩ (.int .i64 14)).setCell ⟨c.bp, 5, none⟩ (.int .i64 (c.T.getD s.i Pp.tok0).pos)) s' := fun W hW => by
          rw [← Option.some.inj hs]
          exact (hW.set { s with deep := s.deep + 1, err := 14 } 4 _ (by simp) hW.lt hW.deep).set _ 5 _ (by simp) hW.lt hW.deep
        have F3 := Lib.hid f3
        have Hc := Lib.hid hc
        have he0 : (s.err == 0) = true := by simpa using he
        simp only at c4
        clear hc f3 f2 hs e h he
        generalize c.T.getD s.i Pp.tok0 = t at *
        generalize s.deep = d at *
        generalize s.err = er at *
        go_enter Tryz.func71, Tryz.ntmps71
        go_wp2_with fail
        refine Hc.out.mono ?_
        rintro e w1 ⟨rfl, hb1⟩
        have P2 := Lib.hid (P1.out.below hb1)
        have d4 := P2.out.c4
        have d5 := P2.out.c5
        have z4 := P2.out.fz 4
        have z5 := P2.out.fz 5
        have hb2 := P2.out.blk.lt
        have K2 := Lib.hid (((Kp.refl c.bp w).setB 2 (.int .i64 (d + 1))).trans (.of_below hb1))
        clear Hc hb1 c4 c2
        go_wp2_with fail
        go_end0
        exact ⟨rfl, F3.out _ P2.out, (K2.out.setB _ _).setB _ _⟩
      · have e' : s' = { s with deep := s.deep + 1 } := by rw [if_neg (fun hh => he hh.2)] at hs; exact (Option.some.inj hs).symm
        subst e'
        have he0 : (s.err == 0) = false := by simpa using he
        simp only at c4
        clear f2 hs h he
        generalize hS : ({ s with deep := s.deep + 1 } : Pp.PS) = S at *
        clear hS
        generalize s.deep = d at *
        generalize s.err = er at *
        go_enter Tryz.func71, Tryz.ntmps71
        go_wp2_with fail
        go_end0
        exact ⟨rfl, P1.out, (Kp.refl _ _).setB _ _⟩
    · have e' : s' = { s with deep := s.deep + 1 } := by rw [if_neg (fun hh => h5 hh.1)] at hs; exact (Option.some.inj hs).symm
      subst e'
      simp only at c4
      clear f2 hs h
      generalize hS : ({ s with deep := s.deep + 1 } : Pp.PS) = S at *
      clear hS
      generalize s.deep = d at *
      generalize s.err = er at *
      go_enter Tryz.func71, Tryz.ntmps71
      go_wp2_with fail
      go_end0
      exact ⟨rfl, P1.out, (Kp.refl _ _).setB _ _⟩
  · rw [if_neg hl] at hs; cases hs

set_option maxHeartbeats 400000 in
theorem place_any (w : World) (n : Pp.Node) (a : Option Addr) (m cc : Nat) :
    Calls Tryz.prog 74 #[.agg #[vs n.op, vs n.text, .int .i64 n.pos, .slice a m cc]] w fun e w' => e = .returned (.bool (Pp.place n)) ∧ Below w.heap.size w w' := by
  unfold Pp.place
  generalize n.op = op at *
  generalize n.text = tx at *
  generalize n.pos = po at *
  have hs : ∀ (W : World) (b : Nat) (h : b = W.heap.size), StrsAt (W.alloc (.cells #[vs [118, 97, 114], vs [105, 110, 100, 101, 120], vs [102, 105, 101, 108, 100]] 9)) b [[118, 97, 114], [105, 110, 100, 101, 120], [102, 105, 101, 108, 100]] := fun W b h =>
    h ▸ .of_blk [[118, 97, 114], [105, 110, 100, 101, 120], [102, 105, 101, 108, 100]] (Blk.new W 9 _)
  have Hs := Lib.hid hs
  clear hs
  go_enter Tryz.func74, Tryz.ntmps74
  go_wp2_with fail
  refine (containsT _ _ 3 [[118, 97, 114], [105, 110, 100, 101, 120], [102, 105, 101, 108, 100]] op (Hs.out _ _ (by simp)) (by simp)).mono ?_
  rintro e w' ⟨rfl, rfl⟩
  go_wp2_with fail
  go_ret
  exact ⟨by simp, ((Below.refl _ _).alloc (Nat.le_refl _) _).alloc (by simp) _⟩


/-! ### Numbers in a slice -/
def IntsAt (w : World) (b : Nat) (ks : List Int) : Prop := ∀ j k, ks[j]? = some k → w.cell? ⟨b, j, none⟩ = some (.int .i64 k)
theorem IntsAt.below {w w' : World} {b : Nat} {ks : List Int} (h : IntsAt w b ks) (k : Below w.heap.size w w') (hb : b < w.heap.size) : IntsAt w' b ks := fun j t ht => (k.cell (p := ⟨b, j, none⟩) hb).trans (h j t ht)
theorem IntsAt.drew {w : World} {b : Nat} {ks : List Int} (h : IntsAt w b ks) : IntsAt w.drew b ks := h
theorem IntsAt.of_blk {w : World} {b : Nat} {t : TypeId} (ks : List Int) (h : Blk w b t (ks.map (Value.int .i64)).toArray) : IntsAt w b ks := by
  intro j t ht
  rw [h.cell j]
  simp [ht]
theorem containsI (w : World) (b c : Nat) (ks : List Int) (x : Int) (h : IntsAt w b ks) (hl : ks.length ≤ 1000000) :
    Calls Tryz.prog 70 #[.slice (some ⟨b, 0, none⟩) ks.length c, .int .i64 x] w fun e w' => e = .returned (.bool (ks.contains x)) ∧ w = w' := by
  refine (Tryz.slices_Contains_int b 0 ks.length c ks x w (by simp) (by omega) ?_).mono ?_
  · intro j hj
    rw [Nat.zero_add, h j _ (List.getElem?_eq_getElem hj)]
    simp [hj]
  · rintro e w' ⟨rfl, rfl⟩
    rw [List.take_of_length_le (by simp)]
    exact ⟨rfl, rfl⟩

/-- The same at numbers that are laid just ahead. -/
theorem containsI_new (w : World) (cc : Nat) (ks : List Int) (b n : Nat) (hb : b = w.heap.size) (hn : n = ks.length) (cs : Array Value) (hcs : cs = (ks.map (Value.int .i64)).toArray) (hl : n ≤ 1000000) (x : Int) :
    Calls Tryz.prog 70 #[.slice (some ⟨b, 0, none⟩) n cc, .int .i64 x] (w.alloc (.cells cs 3)) fun e w' => e = .returned (.bool (ks.contains x)) ∧ w.alloc (.cells cs 3) = w' := by
  subst hb hn hcs
  exact containsI _ _ cc ks x (.of_blk ks (Blk.new w 3 _)) hl
theorem containsT_new (w : World) (cc : Nat) (ts : List Pp.Bytes) (b n : Nat) (hb : b = w.heap.size) (hn : n = ts.length) (cs : Array Value) (hcs : cs = (ts.map vs).toArray) (hl : n ≤ 1000000) (x : Pp.Bytes) :
    Calls Tryz.prog 39 #[.slice (some ⟨b, 0, none⟩) n cc, vs x] (w.alloc (.cells cs 9)) fun e w' => e = .returned (.bool (ts.contains x)) ∧ w.alloc (.cells cs 9) = w' := by
  subst hb hn hcs
  exact containsT _ _ cc ts x (.of_blk ts (Blk.new w 9 _)) hl
/-- 'at' at texts that are laid just ahead, wherever they are said to lie. -/
theorem at_new' (c : PC) (w : World) (s : Pp.PS) (h : PAt c w s) (cc : Nat) (ts : List Pp.Bytes) (b n : Nat) (hb : b = w.heap.size) (hn : n = ts.length) (cs : Array Value) (hcs : cs = (ts.map vs).toArray) (hl : n ≤ 1000000) (v : Bool) (hv : Pp.at_ c.T ts s = v) :
    Calls Tryz.prog 26 #[.pointer (some ⟨c.bp, 0, none⟩), .slice (some ⟨b, 0, none⟩) n cc] (w.alloc (.cells cs 9)) fun e w' => e = .returned (.bool v) ∧ Below w.heap.size w w' := by
  subst hb hv
  exact at_new c w s h cc ts n hn cs hcs hl

set_option maxHeartbeats 400000 in
theorem name_any (c : PC) (w : World) (s : Pp.PS) (h : PAt c w s) (b cc : Nat) (ks : List Int) (ht : IntsAt w b ks) (hl : ks.length ≤ 1000000) (hbw : b < w.heap.size) :
    Calls Tryz.prog 43 #[.pointer (some ⟨c.bp, 0, none⟩), .slice (some ⟨b, 0, none⟩) ks.length cc] w fun e w' => e = .returned (tv (Pp.name c.T ks s).1) ∧ PAt c w' (Pp.name c.T ks s).2 ∧ Kp c.bp w w' := by
  have hc := cur_any c (w.alloc (.cells #[.int .i64 0, vs [], .int .i64 0] 60)) s (h.alloc _)
  have ht0 := ht.below ((Below.refl _ _).alloc (Nat.le_refl _) (.cells #[.int .i64 0, vs [], .int .i64 0] 60)) hbw
  have hstep := step_any c
  have hfail := fail_any c
  have hbp := h.blk.lt
  by_cases hk : (Pp.cur c.T s).kind ∈ ks
  · have e : Pp.name c.T ks s = (Pp.cur c.T s, Pp.step c.T s) := by simp [Pp.name, hk]
    rw [e]
    have P := Lib.hid h
    have Hc := Lib.hid hc
    have Hstep := Lib.hid hstep
    generalize Pp.cur c.T s = t at *
    clear hc hstep hfail h e ht
    go_enter Tryz.func43, Tryz.ntmps43
    go_wp2_with fail
    refine Hc.out.mono ?_
    rintro e w1 ⟨rfl, hb1⟩
    have ht1 := ht0.below hb1 (by simp; omega)
    have hsz := hb1.size
    simp at hsz
    have hbx : Blk w1 w.heap.size 60 #[.int .i64 0, vs [], .int .i64 0] := (Blk.new w _ _).below hb1 (by simp)
    have ht2 := ht1.below ((Below.refl _ _).alloc (Nat.le_refl _) (.cells #[.int .i64 t.kind, vs t.text, .int .i64 t.pos] 60)) (by omega)
    have hK : Kp c.bp w w1 := ((Kp.refl _ _).alloc _).trans (.of_below hb1)
    have P1 := Lib.hid ((P.out.alloc _).below hb1)
    clear Hc hb1 ht1 ht0
    go_wp2_with (go_at_call 70; refine (containsI _ b cc ks t.kind ht2 hl).mono ?_; rintro e w' ⟨rfl, rfl⟩)
    refine (Hstep.out _ s (P1.out.alloc _)).mono ?_
    rintro e w2 ⟨rfl, hp2, hk2⟩
    have P2 := Lib.hid hp2
    have hx2 : Blk w2 w1.heap.size 60 #[.int .i64 t.kind, vs t.text, .int .i64 t.pos] := (Blk.new w1 _ _).kp hk2 (by omega)
    have hr2 : Blk w2 w.heap.size 60 #[.int .i64 0, vs [], .int .i64 0] := (hbx.alloc _).kp hk2 (by omega)
    have x0 := hx2.cell 0
    have x1 := hx2.cell 1
    have x2 := hx2.cell 2
    have r0 := hr2.cell 0
    have r1 := hr2.cell 1
    have r2 := hr2.cell 2
    have z0 := hr2.frozen 0
    have z1 := hr2.frozen 1
    have z2 := hr2.frozen 2
    simp at x0 x1 x2 r0 r1 r2
    have hK2 : Kp c.bp w w2 := (hK.alloc _).trans hk2
    have Hr2 := Lib.hid hr2
    clear hp2 hx2 hr2 hk2 hbx
    go_wp2_with fail
    exact bodyPost_ret (results_tok Tryz.results43 rfl Hr2.out.put3) rfl ⟨rfl, P2.out.put3 (by omega), hK2.put3 (Nat.le_refl _)⟩
  · have e : Pp.name c.T ks s = (Pp.tok0, Pp.fail c.T s) := by simp [Pp.name, hk]
    rw [e]
    have P := Lib.hid h
    have Hc := Lib.hid hc
    have Hfail := Lib.hid hfail
    generalize Pp.cur c.T s = t at *
    clear hc hstep hfail h e ht
    go_enter Tryz.func43, Tryz.ntmps43
    go_wp2_with fail
    refine Hc.out.mono ?_
    rintro e w1 ⟨rfl, hb1⟩
    have ht1 := ht0.below hb1 (by simp; omega)
    have hsz := hb1.size
    simp at hsz
    have hbx : Blk w1 w.heap.size 60 #[.int .i64 0, vs [], .int .i64 0] := (Blk.new w _ _).below hb1 (by simp)
    have ht2 := ht1.below ((Below.refl _ _).alloc (Nat.le_refl _) (.cells #[.int .i64 t.kind, vs t.text, .int .i64 t.pos] 60)) (by omega)
    have hK : Kp c.bp w w1 := ((Kp.refl _ _).alloc _).trans (.of_below hb1)
    have P1 := Lib.hid ((P.out.alloc _).below hb1)
    clear Hc hb1 ht1 ht0
    go_wp2_with (go_at_call 70; refine (containsI _ b cc ks t.kind ht2 hl).mono ?_; rintro e w' ⟨rfl, rfl⟩)
    refine (Hfail.out _ s (P1.out.alloc _)).mono ?_
    rintro e w2 ⟨rfl, hp2, hk2⟩
    have P2 := Lib.hid hp2
    have hr2 : Blk w2 w.heap.size 60 #[.int .i64 0, vs [], .int .i64 0] := (hbx.alloc _).kp hk2 (by omega)
    have r0 := hr2.cell 0
    have r1 := hr2.cell 1
    have r2 := hr2.cell 2
    have z0 := hr2.frozen 0
    have z1 := hr2.frozen 1
    have z2 := hr2.frozen 2
    simp at r0 r1 r2
    have hK2 : Kp c.bp w w2 := (hK.alloc _).trans hk2
    have Hr2 := Lib.hid hr2
    clear hp2 hr2 hk2 hbx
    go_wp2_with fail
    exact bodyPost_ret (results_tok Tryz.results43 rfl Hr2.out.put3) rfl ⟨rfl, P2.out.put3 (by omega), hK2.put3 (Nat.le_refl _)⟩


set_option maxHeartbeats 400000 in
theorem over_any (c : PC) (w : World) (s : Pp.PS) (h : PAt c w s) :
    Calls Tryz.prog 97 #[.pointer (some ⟨c.bp, 0, none⟩)] w fun e w' => e = .returned (.bool (Pp.over c.T s)) ∧ Below w.heap.size w w' := by
  have ha := at_new c w s h 3 [[59], [125], [41]] 3 rfl #[vs [59], vs [125], vs [41]] rfl (by omega)
  have hc : ∀ W, PAt c W s → _ := fun W hW => cur_any c W s hW
  unfold Pp.over
  have Ha := Lib.hid ha
  have Hc := Lib.hid hc
  have P := Lib.hid h
  clear ha hc h
  generalize Pp.at_ c.T [[59], [125], [41]] s = b at *
  generalize Pp.cur c.T s = t at *
  cases b with
  | true =>
    go_enter Tryz.func97, Tryz.ntmps97
    go_wp2_with fail
    refine Ha.out.mono ?_
    rintro e w1 ⟨rfl, hb1⟩
    go_wp2_with fail
    go_ret
    exact ⟨by simp, hb1⟩
  | false =>
    by_cases h1 : t.kind = 1
    · have k1 : (t.kind == 1) = true := by simpa using h1
      rw [k1]
      clear h1
      go_enter Tryz.func97, Tryz.ntmps97
      go_wp2_with fail
      refine Ha.out.mono ?_
      rintro e w1 ⟨rfl, hb1⟩
      go_wp2_with fail
      refine (Hc.out _ (P.out.below hb1)).mono ?_
      rintro e w2 ⟨rfl, hb2⟩
      go_wp2_with fail
      go_ret
      exact ⟨by simp, hb1.trans (hb2.mono hb1.size)⟩
    · have k1 : (t.kind == 1) = false := by simpa using h1
      rw [k1]
      clear h1
      go_enter Tryz.func97, Tryz.ntmps97
      go_wp2_with fail
      refine Ha.out.mono ?_
      rintro e w1 ⟨rfl, hb1⟩
      go_wp2_with fail
      refine (Hc.out _ (P.out.below hb1)).mono ?_
      rintro e w2 ⟨rfl, hb2⟩
      go_wp2_with fail
      refine (Hc.out _ ((P.out.below hb1).below hb2)).mono ?_
      rintro e w3 ⟨rfl, hb3⟩
      go_wp2_with fail
      go_ret
      exact ⟨by simp, (hb1.trans (hb2.mono hb1.size)).trans (hb3.mono (Nat.le_trans hb1.size hb2.size))⟩

set_option maxHeartbeats 400000 in
theorem ahead_any (c : PC) (w : World) (s : Pp.PS) (h : PAt c w s) (n : Nat) (hn : n ≤ 1000) :
    Calls Tryz.prog 96 #[.pointer (some ⟨c.bp, 0, none⟩), .int .i64 n] w fun e w' => e = .returned (tv (Pp.ahead c.T n s)) ∧ Below w.heap.size w w' := by
  have c0 := h.c0; have c1 := h.c1; have c4 := h.c4
  have hb := h.blk.lt
  have hlen := h.ok.len
  have hlt := h.lt
  by_cases he : s.err = 0
  · rw [he] at c4
    have hd : ((0 : Int) != 0) = false := rfl
    by_cases hi : s.i + n < c.T.length
    · have hg : c.T[s.i + n]? = some (c.T.getD (s.i + n) Pp.tok0) := by simp [List.getElem?_eq_getElem hi]
      have hT := h.tok _ _ hg
      have hbl : c.bl < w.heap.size := lt_of_cell hT.1
      have e : Pp.ahead c.T n s = c.T.getD (s.i + n) Pp.tok0 := by simp [Pp.ahead, he, hi]
      rw [e]
      generalize c.T.getD (s.i + n) Pp.tok0 = t at *
      obtain ⟨t0, t1, t2⟩ := hT
      have hdd : decide (((c.T.length : Nat) : Int) ≤ (s.i : Int) + n) = false := by simp; omega
      generalize c.T.length = m at *
      generalize s.i = i at *
      clear e h he hg
      go_enter Tryz.func96, Tryz.ntmps96
      go_wp2_with fail
      go_quiet (fail)
      go_wp2_with fail
      go_region
      go_wp2_with fail
      refine bodyPost_ret (v := tv t) (by simp [results, Tryz.results96, go_sem]) rfl ⟨rfl, ?_⟩
      repeat (first | exact Below.refl _ _ | exact Nat.le_refl _ | apply Below.drew | apply bl_drewN | apply bl_put3 | apply Below.alloc)
    · have e : Pp.ahead c.T n s = Pp.tok0 := by simp [Pp.ahead, hi]
      rw [e]
      have hdd : decide (((c.T.length : Nat) : Int) ≤ (s.i : Int) + n) = true := by simp; omega
      generalize c.T.length = m at *
      generalize s.i = i at *
      clear e h he
      go_enter Tryz.func96, Tryz.ntmps96
      go_wp2_with fail
      go_quiet (fail)
      go_wp2_with fail
      refine bodyPost_ret (v := tv Pp.tok0) (by simp [results, Tryz.results96, go_sem, Pp.tok0]) rfl ⟨rfl, ?_⟩
      repeat (first | exact Below.refl _ _ | exact Nat.le_refl _ | apply Below.drew | apply bl_drewN | apply bl_put3 | apply Below.alloc)
  · have e : Pp.ahead c.T n s = Pp.tok0 := by simp [Pp.ahead, he]
    have hne : (s.err != 0) = true := by simpa using he
    rw [e]
    clear e h he
    go_enter Tryz.func96, Tryz.ntmps96
    go_wp2_with fail
    go_quiet (fail)
    go_wp2_with fail
    refine bodyPost_ret (v := tv Pp.tok0) (by simp [results, Tryz.results96, go_sem, Pp.tok0]) rfl ⟨rfl, ?_⟩
    repeat (first | exact Below.refl _ _ | exact Nat.le_refl _ | apply Below.drew | apply bl_drewN | apply bl_put3 | apply Below.alloc)


theorem accept_t (c : PC) (w : World) (s : Pp.PS) (h : PAt c w s) (x : Pp.Bytes) (hv : Pp.at_ c.T [x] s = true) :
    Calls Tryz.prog 40 #[.pointer (some ⟨c.bp, 0, none⟩), vs x] w fun e w' => e = .returned (.bool true) ∧ PAt c w' (Pp.step c.T s) ∧ Kp c.bp w w' := by
  have := accept_any c w s h x
  simpa only [Pp.accept, hv, if_true] using this
theorem accept_f (c : PC) (w : World) (s : Pp.PS) (h : PAt c w s) (x : Pp.Bytes) (hv : Pp.at_ c.T [x] s = false) :
    Calls Tryz.prog 40 #[.pointer (some ⟨c.bp, 0, none⟩), vs x] w fun e w' => e = .returned (.bool false) ∧ PAt c w' s ∧ Kp c.bp w w' := by
  have := accept_any c w s h x
  simpa only [Pp.accept, hv, Bool.false_eq_true, if_false] using this
theorem name_new (c : PC) (w : World) (s : Pp.PS) (h : PAt c w s) (cc : Nat) (ks : List Int) (b n : Nat) (hb : b = w.heap.size) (hn : n = ks.length) (cs : Array Value) (hcs : cs = (ks.map (Value.int .i64)).toArray) (hl : n ≤ 1000000) :
    Calls Tryz.prog 43 #[.pointer (some ⟨c.bp, 0, none⟩), .slice (some ⟨b, 0, none⟩) n cc] (w.alloc (.cells cs 3)) fun e w' => e = .returned (tv (Pp.name c.T ks s).1) ∧ PAt c w' (Pp.name c.T ks s).2 ∧ Kp c.bp w w' := by
  subst hb hn hcs
  refine (name_any c _ s (h.alloc _) _ cc ks (.of_blk ks (Blk.new w 3 _)) hl (by simp)).mono ?_
  rintro e w' ⟨rfl, hp, hk⟩
  exact ⟨rfl, hp, ((Kp.refl _ _).alloc _).trans hk⟩


set_option maxHeartbeats 400000 in
/-- 'up', as a deferred call. -/
theorem up_deferred (c : PC) (w : World) (s : Pp.PS) (h : PAt c w s) (hd : -1000000 < s.deep) (u : FrameMode) :
    CallsD Tryz.prog 72 #[.pointer (some ⟨c.bp, 0, none⟩)] u w fun e u' w' => u' = u ∧ VPost c w (Pp.up s) e w' := by
  have c2 := h.c2
  have hb := h.blk.lt
  have hfz := h.fz 2
  have hdd := h.deep.2
  have fin : PAt c (w.setCell ⟨c.bp, 2, none⟩ (.int .i64 (s.deep - 1))) (Pp.up s) := h.set _ _ _ (by simp [Pp.up]) h.lt (by have := h.deep; simp [Pp.up]; omega)
  have Fin := Lib.hid fin
  generalize Pp.up s = S at *
  generalize s.deep = d at *
  clear h fin
  go_enter_d Tryz.func72, Tryz.ntmps72
  go_wp2
  go_end0
  exact ⟨rfl, Fin.out, (Kp.refl _ _).setB _ _⟩
theorem down_deep {T : List Pp.Tok} {s s' : Pp.PS} (h : Pp.down T s = some s') : s'.deep = s.deep + 1 := by
  unfold Pp.down at h
  split at h
  · cases h; split <;> rfl
  · cases h
theorem step_deep (T : List Pp.Tok) (s : Pp.PS) : (Pp.step T s).deep = s.deep := by unfold Pp.step; split <;> rfl
theorem at_text {T : List Pp.Tok} {x : Pp.Bytes} {s : Pp.PS} (h : Pp.at_ T [x] s = true) : (Pp.cur T s).text = x := by
  simp [Pp.at_] at h
  exact h.2

end Go.Proofs.YtgnmfaeonijogaaGreatDoor
