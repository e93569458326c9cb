/- Walked: a program's text. -/
import Derived.Test.YtgnmfaeonijogaaGreatDoorStmI
import Derived.Test.YtgnmfaeonijogaaGreatDoorLexH
import Derived.Test.YtgnmfaeonijogaaGreatDoorLexTok
namespace Go.Proofs.YtgnmfaeonijogaaGreatDoor
open Go.RowKit

theorem results_three {fn : Func} {tmps : Array Value} {W : World} {R slot s3 s4 : Nat} {a b c d x y : Value} (hr : fn.results = #[.cell slot 25, .tmp s3, .tmp s4]) (ht : tmps.getD slot undef = .pointer (some ⟨R, 0, none⟩)) (h3 : tmps.getD s3 undef = x) (h4 : tmps.getD s4 undef = y) (hb : Blk W R 25 #[a, b, c, d]) :
    (results fn tmps).run Tryz.prog W = .ok (.tuple #[.agg #[a, b, c, d], x, y]) W := by
  have h0 := hb.cell 0
  have h1 := hb.cell 1
  have h2 := hb.cell 2
  have h3' := hb.cell 3
  simp at h0 h1 h2 h3'
  have ht' : tmps[slot]?.getD undef = .pointer (some ⟨R, 0, none⟩) := by simpa using ht
  have h3'' : tmps[s3]?.getD undef = x := by simpa using h3
  have h4'' : tmps[s4]?.getD undef = y := by simpa using h4
  simp [results, hr, ht', h3'', h4'', go_sem, h0, h1, h2, h3']
theorem Kp.toBelow {b B : Nat} {w w' : World} (h : Kp b w w') (hb : B ≤ b) (hs : B ≤ w.heap.size) : Below B w w' :=
  ⟨h.os, h.tape, h.output, by have := h.size; omega, fun k hk => h.block k (by omega) (by omega)⟩
theorem skipF_err (T : List Pp.Tok) : ∀ (k : Nat) (s : Pp.PS), (Pp.skipF T k s).err = s.err
  | 0, _ => rfl
  | k + 1, s => by
    unfold Pp.skipF
    split
    · rw [skipF_err T k]; unfold Pp.step; split <;> rfl
    · rfl
theorem step_err (T : List Pp.Tok) (s : Pp.PS) : (Pp.step T s).err = s.err := by unfold Pp.step; split <;> rfl

/-- What the parser leaves of a text. -/
def ParsePost (w : World) (n : Pp.Node) (at_ er : Int) (e : Ending) (w' : World) : Prop :=
  ∃ a l q, e = .returned (.tuple #[nv n (.slice a l q), .int .i64 at_, .int .i64 er]) ∧ KidsAt w' (fun b => w.heap.size ≤ b) (.slice a l q) n.kids ∧ Below w.heap.size w w'

set_option maxRecDepth 100000 in
set_option maxHeartbeats 32000000 in
theorem parse_any (rx : Pp.Bytes → Int) (k : Nat) (hk : k ≤ 1000000) (S : Pp.Bytes) (hS : S.length ≤ 400000) (hR : ∀ T j, Lx.lex S = .ok T j → RxOk T rx) (w : World) (hG : Glob w.heap.size w) (n : Pp.Node) (at_ er : Int) (hh : Lx.parse rx k S = some (n, at_, er)) :
    Calls Tryz.prog 14 #[vs S] w (ParsePost w n at_ er) := by
  have hlex := lex_any S (by omega) (w.alloc (.cells z4 25)) ((hG.below ((Below.refl _ _).alloc (Nat.le_refl _) (.cells z4 25)) (Nat.le_refl _)).up (by simp) (Nat.le_refl _))
  have hlast := @Lx.lex_last S
  have HLEX := Lib.hid hlex
  have HG := Lib.hid hG
  have hg4 := hG.small
  unfold Lx.parse at hh
  clear hlex hG
  by_cases h4 : 4000 < S.length
  · rw [if_pos h4] at hh
    simp only [Option.some.injEq, Prod.mk.injEq] at hh
    obtain ⟨rfl, rfl, rfl⟩ := hh
    have H4 := Lib.hid h4
    clear h4 hR hlast
    go_enter Tryz.func14, Tryz.ntmps14
    go_wp2_with fail
    refine HLEX.out.mono ?_
    rintro e w1 ⟨hb1, hm⟩
    rw [if_pos H4.out] at hm
    obtain rfl := hm
    have R_1 := Lib.hid ((Blk.new w 25 z4).under hb1)
    have B_1 := Lib.hid (((Below.refl w.heap.size w).alloc (Nat.le_refl _) (.cells z4 25)).trans (hb1.mono (by simp)))
    obtain ⟨r0, r1, r2, r3⟩ := R_1.out.four
    have rf0 := R_1.out.frozen 0
    have rf1 := R_1.out.frozen 1
    have rf2 := R_1.out.frozen 2
    have rf3 := R_1.out.frozen 3
    clear hb1
    go_wp2_with fail
    exact bodyPost_ret (results_three Tryz.results14 rfl rfl rfl R_1.out.put4) rfl ⟨none, 0, 0, rfl, .nil _ _, bl_put4 B_1.out (Nat.le_refl _)⟩
  rw [if_neg h4] at hh
  cases hL : Lx.lex S with
  | bad j =>
    rw [hL] at hh
    simp only [Option.some.injEq, Prod.mk.injEq] at hh
    obtain ⟨rfl, rfl, rfl⟩ := hh
    have H4 := Lib.hid h4
    have HL := Lib.hid hL
    clear h4 hR hlast hL
    go_enter Tryz.func14, Tryz.ntmps14
    go_wp2_with fail
    refine HLEX.out.mono ?_
    rintro e w1 ⟨hb1, hm⟩
    rw [if_neg H4.out, HL.out] at hm
    obtain ⟨rfl, _⟩ := hm
    have R_1 := Lib.hid ((Blk.new w 25 z4).under hb1)
    have B_1 := Lib.hid (((Below.refl w.heap.size w).alloc (Nat.le_refl _) (.cells z4 25)).trans (hb1.mono (by simp)))
    obtain ⟨r0, r1, r2, r3⟩ := R_1.out.four
    have rf0 := R_1.out.frozen 0
    have rf1 := R_1.out.frozen 1
    have rf2 := R_1.out.frozen 2
    have rf3 := R_1.out.frozen 3
    clear hb1
    go_wp2_with fail
    exact bodyPost_ret (results_three Tryz.results14 rfl rfl rfl R_1.out.put4) rfl ⟨none, 0, 0, rfl, .nil _ _, bl_put4 B_1.out (Nat.le_refl _)⟩
  | ok T jl =>
  rw [hL] at hh
  simp only at hh
  obtain ⟨hshort, l0, p0, hT⟩ := hlast hL
  have hlen0 : 0 < T.length := by rw [hT]; simp
  have hl0 : ∀ (i : Nat), i + 1 = T.length → (T.getD i Pp.tok0).kind = 0 := by
    intro i hi
    rw [hT] at hi ⊢
    have : i = l0.length := by simpa using hi
    subst this
    simp
  have hRT := hR T jl hL
  unfold Pp.parseT at hh
  cases hIt : Pp.itemsL T (Pp.expr rx T k) (Pp.stmt rx T k) k k [] ⟨0, 0, false, 0, 0⟩ with
  | none => rw [hIt] at hh; cases hh
  | some r =>
  obtain ⟨out, s2⟩ := r
  rw [hIt] at hh
  simp only at hh
  have H4 := Lib.hid h4
  have HL := Lib.hid hL
  have HH := Lib.hid hIt
  have HE := Lib.hid hh
  have HLast := Lib.hid hl0
  have HRT := Lib.hid hRT
  have HSh := Lib.hid hshort
  clear h4 hR hlast hL hIt hh hl0 hRT hshort hT
  go_enter Tryz.func14, Tryz.ntmps14
  go_wp2_with fail
  refine HLEX.out.mono ?_
  rintro e w1 ⟨hb1, hm⟩
  rw [if_neg H4.out, HL.out] at hm
  obtain ⟨bl, cap, rfl, hbl1, hbl2, htk, hTl⟩ := hm
  have R_1 := Lib.hid ((Blk.new w 25 z4).under hb1)
  have B_1 := Lib.hid (((Below.refl w.heap.size w).alloc (Nat.le_refl _) (.cells z4 25)).trans (hb1.mono (by simp)))
  have hs1 := hb1.size
  simp at hs1 hbl1
  have HTk := Lib.hid htk
  have HM := Lib.hid (HG.out.below B_1.out (Nat.le_refl _)).most
  clear hb1 htk
  obtain ⟨c, hc⟩ : ∃ c : PC, c = ⟨w1.heap.size, bl, cap, T⟩ := ⟨_, rfl⟩
  have hcT : c.T = T := by rw [hc]
  have hcb : c.bp = w1.heap.size := by rw [hc]
  have hok : c.Ok := by
    rw [hc]
    exact ⟨by simp; omega, HLast.out, fun i t ht => by have := HSh.out t (List.mem_of_getElem? ht); omega, hbl2, by simp; omega⟩
  obtain ⟨wP, hwP⟩ : ∃ W, W = w1.alloc (.cells #[.slice (some ⟨bl, 0, none⟩) T.length cap, .int .i64 0, .int .i64 0, .bool false, .int .i64 0, .int .i64 0] 56) := ⟨_, rfl⟩
  have hPP : PAt c wP ⟨0, 0, false, 0, 0⟩ := by
    refine ⟨hok, ?_, fun i t ht => ?_, ?_, by rw [hcT]; exact hlen0, by simp⟩
    · rw [hwP, hc]; exact Blk.new w1 56 _
    · rw [hcT] at ht
      have := HTk.out i t ht
      rw [hwP, hc]
      have e : ∀ o, (w1.alloc (.cells #[.slice (some ⟨bl, 0, none⟩) T.length cap, .int .i64 0, .int .i64 0, .bool false, .int .i64 0, .int .i64 0] 56)).cell? ⟨bl, o, none⟩ = w1.cell? ⟨bl, o, none⟩ := fun o => World.cell?_of_block (w := w1) (a := ⟨bl, o, none⟩) (Below.heap_alloc _ _ _ hbl2)
      rw [e, e, e]
      exact this
    · obtain ⟨m, hm⟩ := HM.out
      exact ⟨m, by rw [hwP, World.cell?_of_block (w := w1) (a := ⟨4, 0, none⟩) (Below.heap_alloc _ _ _ (lt_of_cell hm))]; exact hm⟩
  have hRP : Blk wP w.heap.size 25 z4 := by rw [hwP]; exact R_1.out.alloc _
  have hBP : Below w.heap.size w wP := by rw [hwP]; exact B_1.out.alloc (by omega) _
  have hszP : wP.heap.size = w1.heap.size + 1 := by rw [hwP]; simp
  have hIt : IsN c 29 (Pp.item c.T (Pp.expr rx c.T k) (Pp.stmt rx c.T k) k) := item_any c _ _ k hk (expr_any c rx (hcT ▸ HRT.out) k hk) (blk_is c rx (hcT ▸ HRT.out) k hk)
  rw [← hcT] at HH HLast hlen0
  have HIt := Lib.hid hIt
  have P_0 := Lib.hid hPP
  have R_0 := Lib.hid hRP
  have BP := Lib.hid hBP
  have lwP : w1.heap.size < wP.heap.size := by omega
  have lw1 : w.heap.size < w1.heap.size := by omega
  have hbp1 : c.bp ≤ w1.heap.size ∧ w1.heap.size ≤ c.bp := by omega
  clear hok hPP hRP hBP hIt HTk HM R_1 B_1 HSh HRT
  go_wp2_with fail
  rw [← hwP]
  rw [← hcb]
  clear hwP hcb hc
  have hszb : c.bp < wP.heap.size := by omega
  clear hszP
  go_wp2_with fail
  refine (node_any _ [112, 114, 111, 103, 114, 97, 109] _ _ _).mono ?_
  rintro e w2 ⟨rfl, hb⟩
  have kk := Kp.of_below (b := c.bp) hb
  have P_1 := Lib.hid (P_0.out.below hb)
  have R_1 := Lib.hid (R_0.out.kp kk (by omega))
  have K_1 := (Kp.refl c.bp wP).trans kk
  have l_1 : wP.heap.size + 0 ≤ w2.heap.size := by have := kk.size; simpa using this
  clear kk hb 
  have hb := P_1.out.blk.lt
  go_wp2_with fail
  go_loopg [] k (fun g wr => ∃ (ks : List Pp.Node) (s1 : Pp.PS) (a : Option Addr) (q : Nat), Blk wr w2.heap.size 25 #[vs [112, 114, 111, 103, 114, 97, 109], vs [], .int .i64 0, .slice a ks.length q] ∧ Blk wr w.heap.size 25 z4 ∧ OutAt wr (w2.heap.size + 1) (.slice a ks.length q) ks ∧ PAt c wr s1 ∧ Kp c.bp wP wr ∧ ks.length + g = k ∧
      Hid (Pp.itemsL c.T (Pp.expr rx c.T k) (Pp.stmt rx c.T k) k g ks s1 = some (out, s2)))
  case atStart => exact ⟨[], _, none, 0, (Blk.new w2 25 _), R_1.out.alloc _, .nil _ _, P_1.out.alloc _, K_1.alloc _, by simp, HH.out⟩
  case round =>
    clear P_0 P_1 K_1 HH R_0 R_1
    obtain ⟨ks, s1, a, q, n1, r1, o1, p1, K_1, hkk, hc⟩ := hrel
    have P_1 := Lib.hid p1
    have O_1 := Lib.hid o1
    have N_1 := Lib.hid n1
    have R_1 := Lib.hid r1
    have lw := K_1.size
    have ln := n1.lt
    have d4 := p1.c4
    have hc := hc.out
    clear p1 o1 n1 r1
    obtain ⟨j, rfl⟩ : ∃ j, gk = j + 1 := by cases gk with | zero => cases hc | succ j => exact ⟨j, rfl⟩
    have hkn : ks.length < 1000000 := by omega
    unfold Pp.itemsL at hc
    by_cases he : s1.err = 0
    · have he0 : (s1.err == 0) = true := by simpa using he
      rw [if_pos he] at hc
      have HC := Lib.hid hc
      have Herr := Lib.hid he
      clear he hc
      go_wp2_with fail
      obtain ⟨wo, rfl⟩ : ∃ wo : World, wo = wr := ⟨_, rfl⟩
      go_loopg [] c.T.length (fun g wr => ∃ sx : Pp.PS, Hid (Pp.skip c.T sx = Pp.skip c.T s1) ∧ c.T.length ≤ sx.i + g ∧ Blk wr w2.heap.size 25 #[vs [112, 114, 111, 103, 114, 97, 109], vs [], .int .i64 0, .slice a ks.length q] ∧ Blk wr w.heap.size 25 z4 ∧ OutAt wr (w2.heap.size + 1) (.slice a ks.length q) ks ∧ PAt c wr sx ∧ Kp c.bp wP wr ∧ Hid (sx.err = 0))
      case atStart => exact ⟨s1, rfl, by omega, N_1.out, R_1.out, O_1.out, P_1.out, K_1, Herr.out⟩
      case round =>
        clear P_1 O_1 N_1 R_1 K_1 d4 he0 Herr
        obtain ⟨sx, hsk, hg, n1, r1, o1, p1, K_1, hxe⟩ := hrel
        have P_1 := Lib.hid p1
        have O_1 := Lib.hid o1
        have N_1 := Lib.hid n1
        have R_1 := Lib.hid r1
        have lw := K_1.size
        have ln := n1.lt
        have hlt := p1.lt
        have hcur := fun W hW => cur_any c W sx hW
        clear p1 o1 n1 r1
        obtain ⟨tk, ht⟩ : ∃ t, Pp.cur c.T sx = t := ⟨_, rfl⟩
        rw [ht] at hcur
        have Hcur := Lib.hid hcur
        clear hcur
        cases hat : Pp.at_ c.T [[59]] sx with
        | true =>
          obtain ⟨_, hi, hst⟩ := skip_move c.T sx HLast.out hlt (.inl hat)
          have hsk2 : Hid (Pp.skip c.T (Pp.step c.T sx) = Pp.skip c.T s1) := ((skip_step c.T HLast.out sx hlt (.inl hat)).symm.trans hsk.out)
          have hsi : (Pp.step c.T sx).i = sx.i + 1 := by rw [hst]
          clear hst
          have HA := Lib.hid hat
          clear hat ht
          go_wp2_with fail
          refine (at_new' c _ sx P_1.out 1 [[59]] _ 1 (by simp) rfl _ rfl (by omega) _ HA.out).mono ?_
          rintro e w11 ⟨rfl, hb⟩
          have kk := Kp.of_below (b := c.bp) hb
          have P_11 := Lib.hid (P_1.out.below hb)
          have N_11 := Lib.hid (N_1.out.kp kk (by omega))
          have R_11 := Lib.hid (R_1.out.kp kk (by omega))
          have O_11 := Lib.hid (O_1.out.kp kk (by first | omega | (simp; omega)))
          have K_11 := K_1.trans kk
          have l_11 : wr.heap.size + 0 ≤ w11.heap.size := by have := kk.size; simpa using this
          clear kk hb 
          go_wp2_with fail
          refine (step_any c _ _ P_11.out).mono ?_
          rintro e w12 ⟨rfl, pp, kp⟩
          have P_12 := Lib.hid pp
          have N_12 := Lib.hid (N_11.out.kp kp (by omega))
          have R_12 := Lib.hid (R_11.out.kp kp (by omega))
          have O_12 := Lib.hid (O_11.out.kp kp (by first | omega | (simp; omega)))
          have K_12 := K_11.trans kp
          have l_12 : w11.heap.size + 0 ≤ w12.heap.size := by have := kp.size; simpa using this
          clear kp pp 
          go_wp2_with fail
          go_roundg (gk - 1)
          case measure => omega
          case rel => exact ⟨Pp.step c.T sx, hsk2, by omega, N_12.out, R_12.out, O_12.out, P_12.out, K_12, (step_err c.T sx).trans hxe.out⟩
        | false =>
        by_cases h1 : tk.kind = 1
        · have k1 : (tk.kind == 1) = true := by simpa using h1
          obtain ⟨_, hi, hst⟩ := skip_move c.T sx HLast.out hlt (.inr (ht ▸ h1))
          have hsk2 : Hid (Pp.skip c.T (Pp.step c.T sx) = Pp.skip c.T s1) := ((skip_step c.T HLast.out sx hlt (.inr (ht ▸ h1))).symm.trans hsk.out)
          have hsi : (Pp.step c.T sx).i = sx.i + 1 := by rw [hst]
          clear hst
          have HA := Lib.hid hat
          clear hat ht h1
          go_wp2_with fail
          refine (at_new' c _ sx P_1.out 1 [[59]] _ 1 (by simp) rfl _ rfl (by omega) _ HA.out).mono ?_
          rintro e w11 ⟨rfl, hb⟩
          have kk := Kp.of_below (b := c.bp) hb
          have P_11 := Lib.hid (P_1.out.below hb)
          have N_11 := Lib.hid (N_1.out.kp kk (by omega))
          have R_11 := Lib.hid (R_1.out.kp kk (by omega))
          have O_11 := Lib.hid (O_1.out.kp kk (by first | omega | (simp; omega)))
          have K_11 := K_1.trans kk
          have l_11 : wr.heap.size + 0 ≤ w11.heap.size := by have := kk.size; simpa using this
          clear kk hb 
          go_wp2_with fail
          refine (Hcur.out _ P_11.out).mono ?_
          rintro e w12 ⟨rfl, hb⟩
          have kk := Kp.of_below (b := c.bp) hb
          have P_12 := Lib.hid (P_11.out.below hb)
          have N_12 := Lib.hid (N_11.out.kp kk (by omega))
          have R_12 := Lib.hid (R_11.out.kp kk (by omega))
          have O_12 := Lib.hid (O_11.out.kp kk (by first | omega | (simp; omega)))
          have K_12 := K_11.trans kk
          have l_12 : w11.heap.size + 0 ≤ w12.heap.size := by have := kk.size; simpa using this
          clear kk hb 
          go_wp2_with fail
          refine (step_any c _ _ P_12.out).mono ?_
          rintro e w13 ⟨rfl, pp, kp⟩
          have P_13 := Lib.hid pp
          have N_13 := Lib.hid (N_12.out.kp kp (by omega))
          have R_13 := Lib.hid (R_12.out.kp kp (by omega))
          have O_13 := Lib.hid (O_12.out.kp kp (by first | omega | (simp; omega)))
          have K_13 := K_12.trans kp
          have l_13 : w12.heap.size + 0 ≤ w13.heap.size := by have := kp.size; simpa using this
          clear kp pp 
          go_wp2_with fail
          go_roundg (gk - 1)
          case measure => omega
          case rel => exact ⟨Pp.step c.T sx, hsk2, by omega, N_13.out, R_13.out, O_13.out, P_13.out, K_13, (step_err c.T sx).trans hxe.out⟩
        · have k1 : (tk.kind == 1) = false := by simpa using h1
          have hstop : Pp.skip c.T s1 = sx := hsk.out.symm.trans (skip_stop c.T sx (by rw [ht, hat]; simp [h1]))
          have hc := HC.out
          rw [hstop, ht] at hc
          have HA := Lib.hid hat
          clear hat ht h1 hstop hsk
          by_cases hbr : tk.kind = 0
          · rw [if_pos hbr] at hc
            simp only [Option.some.injEq, Prod.mk.injEq] at hc
            obtain ⟨rfl, rfl⟩ := hc
            have kbr : (tk.kind == 0) = true := by simpa using hbr
            have hE := HE.out
            rw [if_pos hxe.out] at hE
            simp only [Option.some.injEq, Prod.mk.injEq] at hE
            obtain ⟨rfl, rfl, rfl⟩ := hE
            have hxn : (sx.err != 0) = false := by simp [hxe.out]
            clear hbr
            go_wp2_with fail
            refine (at_new' c _ sx P_1.out 1 [[59]] _ 1 (by simp) rfl _ rfl (by omega) _ HA.out).mono ?_
            rintro e w11 ⟨rfl, hb⟩
            have kk := Kp.of_below (b := c.bp) hb
            have P_11 := Lib.hid (P_1.out.below hb)
            have N_11 := Lib.hid (N_1.out.kp kk (by omega))
            have R_11 := Lib.hid (R_1.out.kp kk (by omega))
            have O_11 := Lib.hid (O_1.out.kp kk (by first | omega | (simp; omega)))
            have K_11 := K_1.trans kk
            have l_11 : wr.heap.size + 0 ≤ w11.heap.size := by have := kk.size; simpa using this
            clear kk hb 
            go_wp2_with fail
            refine (Hcur.out _ P_11.out).mono ?_
            rintro e w12 ⟨rfl, hb⟩
            have kk := Kp.of_below (b := c.bp) hb
            have P_12 := Lib.hid (P_11.out.below hb)
            have N_12 := Lib.hid (N_11.out.kp kk (by omega))
            have R_12 := Lib.hid (R_11.out.kp kk (by omega))
            have O_12 := Lib.hid (O_11.out.kp kk (by first | omega | (simp; omega)))
            have K_12 := K_11.trans kk
            have l_12 : w11.heap.size + 0 ≤ w12.heap.size := by have := kk.size; simpa using this
            clear kk hb 
            go_wp2_with fail
            refine (Hcur.out _ P_12.out).mono ?_
            rintro e w13 ⟨rfl, hb⟩
            have kk := Kp.of_below (b := c.bp) hb
            have P_13 := Lib.hid (P_12.out.below hb)
            have N_13 := Lib.hid (N_12.out.kp kk (by omega))
            have R_13 := Lib.hid (R_12.out.kp kk (by omega))
            have O_13 := Lib.hid (O_12.out.kp kk (by first | omega | (simp; omega)))
            have K_13 := K_12.trans kk
            have l_13 : w12.heap.size + 0 ≤ w13.heap.size := by have := kk.size; simpa using this
            clear kk hb 
            have d4 := P_13.out.c4
            obtain ⟨y0, y1, y2, y3⟩ := N_13.out.four
            obtain ⟨r0, r1, r2, r3⟩ := R_13.out.four
            have rf0 := R_13.out.frozen 0
            have rf1 := R_13.out.frozen 1
            have rf2 := R_13.out.frozen 2
            have rf3 := R_13.out.frozen 3
            go_wp2_with fail
            exact bodyPost_ret (results_three Tryz.results14 rfl rfl rfl R_13.out.put4) rfl ⟨a, _, q, rfl, (O_13.out.kids.put4 (by simp; omega)).mono (fun b hb _ => by first | omega | (simp at hb; omega)), bl_put4 (BP.out.trans (K_13.toBelow (by omega) (by omega))) (Nat.le_refl _)⟩
          · rw [if_neg hbr] at hc
            have kbr : (tk.kind == 0) = false := by simpa using hbr
            cases hEm : Pp.item c.T (Pp.expr rx c.T k) (Pp.stmt rx c.T k) k sx with
            | none => rw [hEm] at hc; cases hc
            | some r =>
            obtain ⟨m, s3⟩ := r
            rw [hEm] at hc
            simp only at hc
            have HD := Lib.hid hc
            have HM := Lib.hid hEm
            clear hc hEm hbr
            go_wp2_with fail
            refine (at_new' c _ sx P_1.out 1 [[59]] _ 1 (by simp) rfl _ rfl (by omega) _ HA.out).mono ?_
            rintro e w11 ⟨rfl, hb⟩
            have kk := Kp.of_below (b := c.bp) hb
            have P_11 := Lib.hid (P_1.out.below hb)
            have N_11 := Lib.hid (N_1.out.kp kk (by omega))
            have R_11 := Lib.hid (R_1.out.kp kk (by omega))
            have O_11 := Lib.hid (O_1.out.kp kk (by first | omega | (simp; omega)))
            have K_11 := K_1.trans kk
            have l_11 : wr.heap.size + 0 ≤ w11.heap.size := by have := kk.size; simpa using this
            clear kk hb 
            go_wp2_with fail
            refine (Hcur.out _ P_11.out).mono ?_
            rintro e w12 ⟨rfl, hb⟩
            have kk := Kp.of_below (b := c.bp) hb
            have P_12 := Lib.hid (P_11.out.below hb)
            have N_12 := Lib.hid (N_11.out.kp kk (by omega))
            have R_12 := Lib.hid (R_11.out.kp kk (by omega))
            have O_12 := Lib.hid (O_11.out.kp kk (by first | omega | (simp; omega)))
            have K_12 := K_11.trans kk
            have l_12 : w11.heap.size + 0 ≤ w12.heap.size := by have := kk.size; simpa using this
            clear kk hb 
            go_wp2_with fail
            refine (Hcur.out _ P_12.out).mono ?_
            rintro e w13 ⟨rfl, hb⟩
            have kk := Kp.of_below (b := c.bp) hb
            have P_13 := Lib.hid (P_12.out.below hb)
            have N_13 := Lib.hid (N_12.out.kp kk (by omega))
            have R_13 := Lib.hid (R_12.out.kp kk (by omega))
            have O_13 := Lib.hid (O_12.out.kp kk (by first | omega | (simp; omega)))
            have K_13 := K_12.trans kk
            have l_13 : w12.heap.size + 0 ≤ w13.heap.size := by have := kk.size; simpa using this
            clear kk hb 
            go_wp2_with fail
            have GN := Lib.hid N_13.out.drew
            have GO := Lib.hid O_13.out.drew
            obtain ⟨y0, y1, y2, y3⟩ := N_13.out.four
            go_region_law (first
              | (go_simp; go_at_call 29; refine (HIt.out _ _ _ _ P_13.out.drew HM.out).mono ?_; rintro e w14 ⟨ma, ml, mq, rfl, tt, pp, kp⟩; have GN4 := Lib.hid (GN.out.kp kp (by omega)); have GO4 := Lib.hid (GO.out.kp kp (by omega)); have lk : w13.heap.size ≤ w14.heap.size := kp.size; have ln4 := GN4.out.lt; obtain ⟨z0, z1, z2, z3⟩ := GN4.out.four; have PP := Lib.hid pp; have TT := Lib.hid tt; clear pp tt)
              | (refine step_append_node _ rfl (.tmp 46) (.tmp 49) rfl rfl (w2.heap.size + 1) (.slice a ks.length q) ks m (.slice ma ml mq) w14.heap.size 1 rfl rfl (GO4.out.alloc _) (Blk.new w14 25 #[vs m.op, vs m.text, .int .i64 m.pos, .slice ma ml mq]).four ((KidsAt.mono (fun b (hb : w13.heap.size ≤ b) _ => ⟨by omega, fun e => by have := O_13.out.lt_ e; omega⟩) TT.out).alloc _) (by omega) (by simp; omega) ?_; rintro v' w15 ⟨hO, hG, hlo, _⟩; obtain ⟨a', q', rfl⟩ := hO.len; have GN5 := Lib.hid ((GN4.out.alloc _).grown hG (fun e => by have := hlo _ e.symm; omega)); obtain ⟨x0, x1, x2, x3⟩ := GN5.out.four; have xf := GN5.out.frozen 3; have GHO := Lib.hid hO; have GHG := Lib.hid hG; clear hO hG))
            all_goals
              have P_14 := Lib.hid PP
              have N_14 := Lib.hid (N_13.out.drew.kp kp (by omega))
              have R_14 := Lib.hid (R_13.out.drew.kp kp (by omega))
              have O_14 := Lib.hid (O_13.out.drew.kp kp (by first | omega | (simp; omega)))
              have K_14 := K_13.drew.trans kp
              have l_14 : w13.heap.size + 0 ≤ w14.heap.size := by have := kp.size; simpa using this
              have PA := Lib.hid ((P_14.out.alloc (.cells #[vs m.op, vs m.text, .int .i64 m.pos, .slice ma ml mq] 25)).grown GHG.out (fun k hk => by have := hlo k hk; omega))
              have KA := (K_14.alloc (.cells #[vs m.op, vs m.text, .int .i64 m.pos, .slice ma ml mq] 25)).grown GHG.out (fun k hk => by have := hlo k hk; omega)
              have RA := Lib.hid ((R_14.out.alloc (.cells #[vs m.op, vs m.text, .int .i64 m.pos, .slice ma ml mq] 25)).grown GHG.out (fun e => by have := hlo _ e.symm; omega))
              have NA := Lib.hid (GN5.out.set_ 3 (.slice a' (ks ++ [m]).length q'))
              simp at NA
              go_wp2_with fail
              go_roundg j
              case measure => omega
              case rel => exact ⟨ks ++ [m], s3, a', q', by simpa using NA.out, RA.out.far (by simp; omega) _, by simpa using GHO.out.kp ((Kp.refl w2.heap.size _).setB 3 _) (by omega), PA.out.far (by simp; omega) _, KA.setN (by omega) 3 _, by simp; omega, HD.out⟩
    · have he0 : (s1.err == 0) = false := by simpa using he
      have hen : (s1.err != 0) = true := by simpa using he
      rw [if_neg he] at hc
      simp only [Option.some.injEq, Prod.mk.injEq] at hc
      obtain ⟨rfl, rfl⟩ := hc
      have hE := HE.out
      rw [if_neg he] at hE
      simp only [Option.some.injEq, Prod.mk.injEq] at hE
      obtain ⟨rfl, rfl, rfl⟩ := hE
      have d5 := P_1.out.c5
      have lpb := P_1.out.blk.lt
      clear he
      obtain ⟨r0, r1, r2, r3⟩ := R_1.out.four
      have rf0 := R_1.out.frozen 0
      have rf1 := R_1.out.frozen 1
      have rf2 := R_1.out.frozen 2
      have rf3 := R_1.out.frozen 3
      have lr := R_1.out.lt
      go_wp2_with fail
      go_region
      all_goals
        go_wp2_with fail
        exact bodyPost_ret (results_three Tryz.results14 rfl rfl rfl (Blk.put4 (a := vs []) (b := vs []) (c := .int .i64 0) (d := .slice none 0 0) R_1.out).drew) rfl ⟨none, 0, 0, rfl, .nil _ _, (bl_put4 (BP.out.trans (K_1.toBelow (by omega) (by omega))) (Nat.le_refl _)).drew⟩

end Go.Proofs.YtgnmfaeonijogaaGreatDoor
