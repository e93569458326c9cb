/- Walked: print and printf: where to, and what. -/
import Derived.Test.YtgnmfaeonijogaaGreatDoorExprG
import Derived.Test.YtgnmfaeonijogaaGreatDoorExprI
import Derived.Test.YtgnmfaeonijogaaGreatDoorOutX
import Derived.Test.YtgnmfaeonijogaaGreatDoorStmG
import Derived.Deep.Cut
import Derived.Deep.CutBlock
namespace Go.Proofs.YtgnmfaeonijogaaGreatDoor
open Go.RowKit

theorem OutAt.lower {w : World} {lo lo' : Nat} {v : Value} {ks : List Pp.Node} (h : OutAt w lo v ks) (hl : lo' ≤ lo) : OutAt w lo' v ks := by
  obtain ⟨l, h1, h2, h3⟩ := h
  refine ⟨l, h1, ⟨h2.1, ?_⟩, fun n k hm => (h3 n k hm).mono fun b hb _ => ⟨by omega, hb.2⟩⟩
  rcases h2.2 with h | ⟨g, cap, cur, hv, hlo, r⟩
  · exact .inl h
  · exact .inr ⟨g, cap, cur, hv, by omega, r⟩
/-- A list of nodes that is done: its blocks lie from lo on, below hi. -/
def OutB (w : World) (lo hi : Nat) (v : Value) (ks : List Pp.Node) : Prop :=
  ∃ l : List (Pp.Node × Value), l.map (·.1) = ks ∧ w.ownsRow lo 25 4 v l.length (rowOf l) ∧ (∀ g, v.ownBlock = some g → g < hi) ∧ ∀ n k, (n, k) ∈ l → KidsAt w (fun b => lo ≤ b ∧ b < hi) k n.kids
theorem OutB.of_out {w : World} {lo : Nat} {v : Value} {ks : List Pp.Node} (h : OutAt w lo v ks) : OutB w lo w.heap.size v ks := by
  obtain ⟨l, h1, h2, h3⟩ := h
  exact ⟨l, h1, h2, fun g e => (ownRow_lt h2 e).2, fun n k hm => (h3 n k hm).mono fun b hb hl => ⟨hb.1, hl⟩⟩
theorem OutB.frame {w w' : World} {lo hi : Nat} {v : Value} {ks : List Pp.Node} (h : OutB w lo hi v ks) (hf : ∀ i, lo ≤ i → i < hi → i < w.heap.size → w'.heap[i]? = w.heap[i]?) : OutB w' lo hi v ks := by
  obtain ⟨l, h1, h2, h0, h3⟩ := h
  exact ⟨l, h1, ownRow_block h2 (fun g hg => hf g (ownRow_lt h2 hg).1 (h0 g hg) (ownRow_lt h2 hg).2), h0, fun n q hn => (h3 n q hn).frame fun b hb hl => ⟨hf b hb.1 hb.2 hl, hb⟩⟩
theorem OutB.kp {w w' : World} {lo hi b : Nat} {v : Value} {ks : List Pp.Node} (h : OutB w lo hi v ks) (k : Kp b w w') (hb : b < lo ∨ hi ≤ b) : OutB w' lo hi v ks :=
  h.frame fun i h1 h2 h3 => k.block i h3 (by omega)
theorem OutB.alloc {w : World} {lo hi : Nat} {v : Value} {ks : List Pp.Node} (h : OutB w lo hi v ks) (o : Obj) : OutB (w.alloc o) lo hi v ks := h.frame fun _ _ _ h3 => Below.heap_alloc _ _ _ h3
theorem OutB.grown {w w' : World} {lo hi r : Nat} {v : Value} {ks : List Pp.Node} (h : OutB w lo hi v ks) (hg : w.grownBy w' (some r)) (hr : hi ≤ r) : OutB w' lo hi v ks :=
  h.frame fun i _ h2 h3 => hg.block i h3 (by intro e; cases e; omega)
theorem OutB.far {w : World} {lo hi : Nat} {v : Value} {ks : List Pp.Node} (h : OutB w lo hi v ks) {p : Addr} (hp : p.block < lo ∨ hi ≤ p.block) (u : Value) : OutB (w.setCell p u) lo hi v ks :=
  h.kp (b := p.block) ((Kp.refl _ _).setCell (.inl rfl) u) hp
theorem OutB.src {w : World} {lo hi : Nat} {v : Value} {ks : List Pp.Node} (h : OutB w lo hi v ks) :
    ∃ l2 : List (Pp.Node × Value), l2.map (·.1) = ks ∧ ((∃ c, v = .slice none 0 c ∧ l2 = []) ∨ ∃ g c, v = .slice (some ⟨g, 0, none⟩) l2.length c ∧ ∀ j u, (rowOf l2)[j]? = some u → w.cell? ⟨g, j, none⟩ = some u) ∧
      ∀ n k, (n, k) ∈ l2 → KidsAt w (fun b => lo ≤ b ∧ b < hi) k n.kids := by
  obtain ⟨l, rfl, h2, h0, h3⟩ := h
  refine ⟨l, rfl, ?_, h3⟩
  rcases h2.2 with ⟨rfl, hz⟩ | ⟨g, cap, cur, rfl, hlo, hh, hn, hcap, hsz, hx⟩
  · exact .inl ⟨0, rfl, List.length_eq_zero_iff.1 hz⟩
  · refine .inr ⟨g, cap, rfl, fun j u hu => ?_⟩
    rw [← hx] at hu
    rw [World.cell?, hh]
    have : (cur.toList.take (l.length * 4))[j]? = cur.toList[j]? := by
      have hj : j < (cur.toList.take (l.length * 4)).length := (List.getElem?_eq_some_iff.1 hu).1
      rw [List.getElem?_take]; simp at hj; rw [if_pos (by omega)]
    rw [this] at hu
    simpa using hu
theorem left_pushE (es : Array MapEntry) {seen : Array Nat} {e : MapEntry} (he : e ∈ (leftOf es seen).toList) : (leftOf es (seen.push e.born)).size < (leftOf es seen).size := by
  unfold leftOf at he ⊢
  have h1 : ∀ sn : Array Nat, (es.filter fun e => !sn.contains e.born).size = (es.toList.filter fun e => !sn.contains e.born).length := fun sn => by
    rw [← Array.length_toList, Array.toList_filter]
  rw [h1, h1]
  have h2 : (es.toList.filter fun x => !(seen.push e.born).contains x.born) = (es.toList.filter fun x => !seen.contains x.born).filter fun x => !(seen.push e.born).contains x.born := by
    rw [List.filter_filter]
    refine List.filter_congr fun x _ => ?_
    simp only [Array.contains_push]
    cases seen.contains x.born <;> simp
  rw [h2, List.length_filter_lt_length_iff_exists]
  refine ⟨e, ?_, by simp⟩
  simpa [Array.toList_filter] using he

abbrev outES : Array MapEntry := #[{ key := .string ⟨#[62]⟩, val := .string ⟨#[116, 111]⟩, born := 0 }, { key := .string ⟨#[62, 62]⟩, val := .string ⟨#[97, 112, 112, 101, 110, 100]⟩, born := 1 }]
theorem toOp_not {T : List Pp.Tok} {s : Pp.PS} (h : ∀ e ∈ outES.toList, ∀ x : Pp.Bytes, e.key = vs x → Pp.at_ T [x] s = false) : Pp.toOp T s = [] := by
  unfold Pp.toOp
  rw [h (outES[0]) (by simp) [62] rfl, h (outES[1]) (by simp) [62, 62] rfl]
  rfl
theorem toOp_to {T : List Pp.Tok} {s : Pp.PS} (h : Pp.at_ T [[62]] s = true) : Pp.toOp T s = [116, 111] := by simp [Pp.toOp, h]
theorem toOp_app {T : List Pp.Tok} {s : Pp.PS} (h : Pp.at_ T [[62, 62]] s = true) : Pp.toOp T s = [97, 112, 112, 101, 110, 100] := by
  have h1 : ¬ Pp.at_ T [[62]] s = true := fun h' => by have := at_text h; rw [at_text h'] at this; cases this
  simp [Pp.toOp, h, h1]

theorem listL_len {T : List Pp.Tok} {E : Pp.PS → Option (Pp.Node × Pp.PS)} {fin : Pp.Bytes} : ∀ {k : Nat} {out o : List Pp.Node} {s s' : Pp.PS}, Pp.listL T E fin k out s = some (o, s') → o.length ≤ out.length + k
  | 0, out, o, s, s', h => by cases h
  | k + 1, out, o, s, s', h => by
    unfold Pp.listL at h
    split at h
    · split at h
      · cases h
      · have := listL_len h
        simp at this
        omega
    · simp only [Option.some.injEq, Prod.mk.injEq] at h
      obtain ⟨rfl, _⟩ := h
      omega
theorem outL_len {T : List Pp.Tok} {E : Pp.PS → Option (Pp.Node × Pp.PS)} : ∀ {k : Nat} {out o : List Pp.Node} {s s' : Pp.PS}, Pp.outL T E k out s = some (o, s') → o.length ≤ out.length + k
  | 0, out, o, s, s', h => by cases h
  | k + 1, out, o, s, s', h => by
    unfold Pp.outL at h
    split at h
    · split at h
      · cases h
      · have := outL_len h
        simp at this
        omega
    · simp only [Option.some.injEq, Prod.mk.injEq] at h
      obtain ⟨rfl, _⟩ := h
      omega
theorem args_len {T : List Pp.Tok} {E : Pp.PS → Option (Pp.Node × Pp.PS)} {k : Nat} {b : Bool} {s0 s1 : Pp.PS} {args : List Pp.Node} (h : (if b then Pp.list T E k [41] (Pp.step T s0) else Pp.outL T E k [] s0) = some (args, s1)) : args.length ≤ k := by
  cases b with
  | true =>
    simp only [if_true] at h
    unfold Pp.list at h
    split at h
    · cases h
    · rename_i h1
      simp only [Option.some.injEq, Prod.mk.injEq] at h
      obtain ⟨rfl, _⟩ := h
      have := listL_len h1
      simpa using this
  | false =>
    have := outL_len h
    simpa using this

set_option maxRecDepth 100000 in
set_option maxHeartbeats 32000000 in
theorem output_any (c : PC) (rx : Pp.Bytes → Int) (E : Pp.PS → Option (Pp.Node × Pp.PS)) (k : Nat) (hk : k ≤ 1000000) (hE : IsN c 46 E) (hC : IsN c 106 (Pp.catF rx c.T E k)) (op : Pp.Bytes) (w : World) (s : Pp.PS) (n : Pp.Node) (s' : Pp.PS) (h : PAt c w s)
    (hh : Pp.output rx c.T E k op s = some (n, s')) : Calls Tryz.prog 98 #[.pointer (some ⟨c.bp, 0, none⟩), vs op] w (NPost c w n s') := by
  unfold Pp.output at hh
  obtain ⟨s0, hs0⟩ : ∃ s0 : Pp.PS, s0 = { s with flat := true } := ⟨_, rfl⟩
  rw [← hs0] at hh
  cases hA : (if Pp.listed c.T s0 then Pp.list c.T E k [41] (Pp.step c.T s0) else Pp.outL c.T E k [] s0) with
  | none => rw [hA] at hh; cases hh
  | some r =>
  obtain ⟨args, s1⟩ := r
  rw [hA] at hh
  simp only at hh
  unfold Pp.outputEnd at hh
  cases hT : Pp.outTo rx c.T E k s1 with
  | none => rw [hT] at hh; cases hh
  | some r =>
  obtain ⟨tn, s2⟩ := r
  rw [hT] at hh
  simp only [Option.some.injEq, Prod.mk.injEq] at hh
  obtain ⟨rfl, hs'⟩ := hh
  have hal := args_len hA
  have hb := h.blk.lt
  have c3 := h.c3
  have hfz := h.fz 3
  have P_0 := Lib.hid (h.set s0 3 (.bool true) (by rw [hs0]; simp) (by rw [hs0]; exact h.lt) (by rw [hs0]; exact h.deep))
  have K_0 := (Kp.refl c.bp w).setB 3 (.bool true)
  have HE := Lib.hid hE
  have HC := Lib.hid hC
  have HH := Lib.hid hA
  have HT := Lib.hid hT
  have HS := Lib.hid hs'
  have hmm := @run_makeMap Tryz.prog
  clear h hE hC hA hT hs' hs0
  generalize s.flat = fl at *
  go_enter Tryz.func98, Tryz.ntmps98
  go_wp2_with fail
  refine (listed_any c _ _ (P_0.out.alloc _)).mono ?_
  rintro e w1 ⟨rfl, hb1⟩
  have kk := Kp.of_below (b := c.bp) hb1
  have P_1 := Lib.hid ((P_0.out.alloc _).below hb1)
  have R_1 := Lib.hid ((blk_new_set w _ _ 25 z4).kp kk (by omega))
  have K_1 := ((K_0.alloc _)).trans kk
  have l_1 : w.heap.size + 1 ≤ w1.heap.size := by have := kk.size; simpa using this
  clear kk hb1 P_0 K_0 c3 hfz
  obtain ⟨lv, hlv⟩ : ∃ b, Pp.listed c.T s0 = b := ⟨_, rfl⟩
  rw [hlv]
  have hh := HH.out
  rw [hlv] at hh
  clear hlv
  go_upto_if 13 with fail
  go_cut [5] from 14 (fun v wx => ∃ (a : Option Addr) (q : Nat), v = .slice a args.length q ∧ OutAt wx (w.heap.size + 1) (.slice a args.length q) args ∧ Blk wx w.heap.size 25 z4 ∧ PAt c wx s1 ∧ Kp c.bp w wx)
  case first =>
    cases lv with
    | true =>
      rw [if_pos rfl] at hh
      have HL := Lib.hid hh
      clear hh HH
      go_wp2_with fail
      refine (step_any c _ _ P_1.out).mono ?_
      rintro e w2 ⟨rfl, pp, kp⟩
      have P_2 := Lib.hid pp
      have R_2 := Lib.hid (R_1.out.kp kp (by omega))
      have K_2 := K_1.trans kp
      have l_2 : w1.heap.size + 0 ≤ w2.heap.size := by have := kp.size; simpa using this
      clear kp pp 
      go_wp2_with fail
      refine (list_any c E HE.out k hk [41] _ _ _ _ P_2.out HL.out).mono ?_
      rintro e w3 ⟨la, lq, rfl, ol, pp, kp⟩
      have P_3 := Lib.hid pp
      have R_3 := Lib.hid (R_2.out.kp kp (by omega))
      have K_3 := K_2.trans kp
      have l_3 : w2.heap.size + 0 ≤ w3.heap.size := by have := kp.size; simpa using this
      clear kp pp 
      have O_3 := Lib.hid (OutAt.lower (lo' := w.heap.size + 1) ol (by omega))
      clear ol
      go_wp2_with fail
      go_meet
      case rel => exact ⟨la, lq, rfl, O_3.out, R_3.out, P_3.out, K_3⟩
    | false =>
      rw [if_neg (by simp)] at hh
      have HL := Lib.hid hh
      clear hh HH
      go_wp2_with fail
      go_loopg [5] k (fun g v wr => ∃ (ks : List Pp.Node) (sx : Pp.PS) (a : Option Addr) (q : Nat), v = .slice a ks.length q ∧ OutAt wr (w.heap.size + 1) (.slice a ks.length q) ks ∧ Blk wr w.heap.size 25 z4 ∧ PAt c wr sx ∧ Kp c.bp w wr ∧ ks.length + g = k ∧
            Hid (Pp.outL c.T E g ks sx = some (args, s1)))
      case atStart => exact ⟨[], _, none, 0, rfl, .nil _ _, R_1.out, P_1.out, K_1, by simp, HL.out⟩
      case round =>
        clear P_1 K_1 R_1 HL
        obtain ⟨ks, sx, a, q, rfl, o1, r1, p1, K_1, hkk, hc⟩ := hrel
        have P_1 := Lib.hid p1
        have O_1 := Lib.hid o1
        have R_1 := Lib.hid r1
        have lw := K_1.size
        have hc := hc.out
        have d4 := p1.c4
        have lp := p1.blk.lt
        have lr := r1.lt
        clear p1 o1 r1
        obtain ⟨j, rfl⟩ : ∃ j, gk = j + 1 := by cases gk with | zero => cases hc | succ j => exact ⟨j, rfl⟩
        have hkn : ks.length < 1000000 := by omega
        have hkk2 : ks.length + (j + 1) ≤ k ∧ k ≤ ks.length + (j + 1) := by omega
        clear hkk
        unfold Pp.outL at hc
        by_cases he : sx.err = 0
        · have he0 : (sx.err == 0) = true := by simpa using he
          cases hov : Pp.over c.T sx with
          | true =>
            rw [if_neg (fun hx => by simp [hov] at hx)] at hc
            simp only [Option.some.injEq, Prod.mk.injEq] at hc
            obtain ⟨rfl, rfl⟩ := hc
            have hov2 := over_any c _ _ P_1.out
            rw [hov] at hov2
            have HO := Lib.hid hov2
            clear hov he hov2
            go_wp2_with fail
            refine HO.out.mono ?_
            rintro e w5 ⟨rfl, hb⟩
            have kk := Kp.of_below (b := c.bp) hb
            have P_5 := Lib.hid (P_1.out.below hb)
            have R_5 := Lib.hid (R_1.out.kp kk (by omega))
            have O_5 := Lib.hid (O_1.out.kp kk (by omega))
            have K_5 := K_1.trans kk
            clear kk hb HO
            go_wp2_with fail
            go_meet
            case rel => exact ⟨a, q, rfl, O_5.out, R_5.out, P_5.out, K_5⟩
          | false =>
            have hov2 := over_any c _ _ P_1.out
            rw [hov] at hov2
            have HO := Lib.hid hov2
            clear hov2
            cases hat : Pp.at_ c.T [[62], [62, 62]] sx with
            | true =>
              rw [if_neg (fun hx => by simp [hat] at hx)] at hc
              simp only [Option.some.injEq, Prod.mk.injEq] at hc
              obtain ⟨rfl, rfl⟩ := hc
              have HA := Lib.hid hat
              clear hov he hat
              go_wp2_with fail
              refine (HO.out).mono ?_
              rintro e w11 ⟨rfl, hb⟩
              have kk := Kp.of_below (b := c.bp) hb
              have P_11 := Lib.hid (P_1.out.below hb)
              have R_11 := Lib.hid (R_1.out.kp kk (by omega))
              have O_11 := Lib.hid (O_1.out.kp kk (by first | omega | (simp; omega)))
              have K_11 := K_1.trans kk
              have l_11 : wr.heap.size + 0 ≤ w11.heap.size := by have := kk.size; simpa using this
              clear kk hb 
              go_wp2_with fail
              refine (at_new' c _ sx P_11.out 2 [[62], [62, 62]] _ 2 (by simp) rfl _ rfl (by omega) _ HA.out).mono ?_
              rintro e w12 ⟨rfl, hb⟩
              have kk := Kp.of_below (b := c.bp) hb
              have P_12 := Lib.hid (P_11.out.below hb)
              have R_12 := Lib.hid (R_11.out.kp kk (by omega))
              have O_12 := Lib.hid (O_11.out.kp kk (by first | omega | (simp; omega)))
              have K_12 := K_11.trans kk
              have l_12 : w11.heap.size + 0 ≤ w12.heap.size := by have := kk.size; simpa using this
              clear kk hb 
              go_wp2_with fail
              go_meet
              case rel => exact ⟨a, q, rfl, O_12.out, R_12.out, P_12.out, K_12⟩
            | false =>
              rw [if_pos ⟨he, hov, hat⟩] at hc
              have HA := Lib.hid hat
              by_cases hks : ks = []
              · rw [if_pos hks] at hc
                have hl0 : ks.length ≤ 0 := by simp [hks]
                cases hEm : E sx with
                | none => rw [hEm] at hc; cases hc
                | some r =>
                obtain ⟨m, s3⟩ := r
                rw [hEm] at hc
                simp only at hc
                have HD := Lib.hid hc
                have HM := Lib.hid hEm
                clear hc hEm hat hov he hks
                go_wp2_with fail
                refine (HO.out).mono ?_
                rintro e w11 ⟨rfl, hb⟩
                have kk := Kp.of_below (b := c.bp) hb
                have P_11 := Lib.hid (P_1.out.below hb)
                have R_11 := Lib.hid (R_1.out.kp kk (by omega))
                have O_11 := Lib.hid (O_1.out.kp kk (by first | omega | (simp; omega)))
                have K_11 := K_1.trans kk
                have l_11 : wr.heap.size + 0 ≤ w11.heap.size := by have := kk.size; simpa using this
                clear kk hb 
                go_wp2_with fail
                refine (at_new' c _ sx P_11.out 2 [[62], [62, 62]] _ 2 (by simp) rfl _ rfl (by omega) _ HA.out).mono ?_
                rintro e w12 ⟨rfl, hb⟩
                have kk := Kp.of_below (b := c.bp) hb
                have P_12 := Lib.hid (P_11.out.below hb)
                have R_12 := Lib.hid (R_11.out.kp kk (by omega))
                have O_12 := Lib.hid (O_11.out.kp kk (by first | omega | (simp; omega)))
                have K_12 := K_11.trans kk
                have l_12 : w11.heap.size + 0 ≤ w12.heap.size := by have := kk.size; simpa using this
                clear kk hb 
                go_wp2_with fail
                refine (HE.out _ _ _ _ P_12.out HM.out).mono ?_
                rintro e w13 ⟨ma, ml, mq, rfl, tt, pp, kp⟩
                have P_13 := Lib.hid pp
                have R_13 := Lib.hid (R_12.out.kp kp (by omega))
                have O_13 := Lib.hid (O_12.out.kp kp (by first | omega | (simp; omega)))
                have K_13 := K_12.trans kp
                have l_13 : w12.heap.size + 0 ≤ w13.heap.size := by have := kp.size; simpa using this
                clear kp pp 
                have Tm_13 := Lib.hid tt
                clear tt
                go_wp2_with (at_builtin; refine wpList_append_node _ rfl (.tmp 41) (.tmp 44) rfl rfl (w.heap.size + 1) (.slice a ks.length q) ks m (.slice ma ml mq) w13.heap.size _ rfl rfl (O_13.out.alloc _) (Blk.new w13 25 #[vs m.op, vs m.text, .int .i64 m.pos, .slice ma ml mq]).four ?_ ?_ ?_ ?_)
                · exact (KidsAt.mono (fun b hb _ => ⟨by omega, fun e => by have := O_12.out.lt_ e; omega⟩) Tm_13.out).alloc _
                · omega
                · simp; omega
                intro v' w14 hA
                obtain ⟨hO, hG, hlo, _⟩ := hA
                obtain ⟨a', q', rfl⟩ := hO.len
                have PA := Lib.hid ((P_13.out.alloc (.cells #[vs m.op, vs m.text, .int .i64 m.pos, .slice ma ml mq] 25)).grown hG (fun k hk => by have := hlo k hk; omega))
                have RA := Lib.hid ((R_13.out.alloc (.cells #[vs m.op, vs m.text, .int .i64 m.pos, .slice ma ml mq] 25)).grown hG (fun e => by have := hlo _ e.symm; omega))
                have KA := (K_13.alloc (.cells #[vs m.op, vs m.text, .int .i64 m.pos, .slice ma ml mq] 25)).grown hG (fun k hk => by have := hlo k hk; omega)
                have OA := Lib.hid hO
                clear hO hG hlo
                go_wp2_with fail
                go_roundg j
                case measure => omega
                case rel => exact ⟨ks ++ [m], _, a', q', by simp, by simpa using OA.out, RA.out, PA.out, KA, by simp; omega, HD.out⟩
              · rw [if_neg hks] at hc
                have hl0 : 0 < ks.length := List.length_pos_iff.2 hks
                cases hEm : E (Pp.lines c.T (Pp.expect c.T [44] sx)) with
                | none => rw [hEm] at hc; cases hc
                | some r =>
                obtain ⟨m, s3⟩ := r
                rw [hEm] at hc
                simp only at hc
                have HD := Lib.hid hc
                have HM := Lib.hid hEm
                clear hc hEm hat hov he hks
                go_wp2_with fail
                refine (HO.out).mono ?_
                rintro e w11 ⟨rfl, hb⟩
                have kk := Kp.of_below (b := c.bp) hb
                have P_11 := Lib.hid (P_1.out.below hb)
                have R_11 := Lib.hid (R_1.out.kp kk (by omega))
                have O_11 := Lib.hid (O_1.out.kp kk (by first | omega | (simp; omega)))
                have K_11 := K_1.trans kk
                have l_11 : wr.heap.size + 0 ≤ w11.heap.size := by have := kk.size; simpa using this
                clear kk hb 
                go_wp2_with fail
                refine (at_new' c _ sx P_11.out 2 [[62], [62, 62]] _ 2 (by simp) rfl _ rfl (by omega) _ HA.out).mono ?_
                rintro e w12 ⟨rfl, hb⟩
                have kk := Kp.of_below (b := c.bp) hb
                have P_12 := Lib.hid (P_11.out.below hb)
                have R_12 := Lib.hid (R_11.out.kp kk (by omega))
                have O_12 := Lib.hid (O_11.out.kp kk (by first | omega | (simp; omega)))
                have K_12 := K_11.trans kk
                have l_12 : w11.heap.size + 0 ≤ w12.heap.size := by have := kk.size; simpa using this
                clear kk hb 
                go_wp2_with fail
                refine (expect_any c _ _ P_12.out [44]).mono ?_
                rintro e w13 ⟨rfl, pp, kp⟩
                have P_13 := Lib.hid pp
                have R_13 := Lib.hid (R_12.out.kp kp (by omega))
                have O_13 := Lib.hid (O_12.out.kp kp (by first | omega | (simp; omega)))
                have K_13 := K_12.trans kp
                have l_13 : w12.heap.size + 0 ≤ w13.heap.size := by have := kp.size; simpa using this
                clear kp pp 
                go_wp2_with fail
                refine (lines_any c _ _ P_13.out).mono ?_
                rintro e w14 ⟨rfl, pp, kp⟩
                have P_14 := Lib.hid pp
                have R_14 := Lib.hid (R_13.out.kp kp (by omega))
                have O_14 := Lib.hid (O_13.out.kp kp (by first | omega | (simp; omega)))
                have K_14 := K_13.trans kp
                have l_14 : w13.heap.size + 0 ≤ w14.heap.size := by have := kp.size; simpa using this
                clear kp pp 
                go_wp2_with fail
                refine (HE.out _ _ _ _ P_14.out HM.out).mono ?_
                rintro e w15 ⟨ma, ml, mq, rfl, tt, pp, kp⟩
                have P_15 := Lib.hid pp
                have R_15 := Lib.hid (R_14.out.kp kp (by omega))
                have O_15 := Lib.hid (O_14.out.kp kp (by first | omega | (simp; omega)))
                have K_15 := K_14.trans kp
                have l_15 : w14.heap.size + 0 ≤ w15.heap.size := by have := kp.size; simpa using this
                clear kp pp 
                have Tm_15 := Lib.hid tt
                clear tt
                go_wp2_with (at_builtin; refine wpList_append_node _ rfl (.tmp 41) (.tmp 44) rfl rfl (w.heap.size + 1) (.slice a ks.length q) ks m (.slice ma ml mq) w15.heap.size _ rfl rfl (O_15.out.alloc _) (Blk.new w15 25 #[vs m.op, vs m.text, .int .i64 m.pos, .slice ma ml mq]).four ?_ ?_ ?_ ?_)
                · exact (KidsAt.mono (fun b hb _ => ⟨by omega, fun e => by have := O_14.out.lt_ e; omega⟩) Tm_15.out).alloc _
                · omega
                · simp; omega
                intro v' w16 hA
                obtain ⟨hO, hG, hlo, _⟩ := hA
                obtain ⟨a', q', rfl⟩ := hO.len
                have PA := Lib.hid ((P_15.out.alloc (.cells #[vs m.op, vs m.text, .int .i64 m.pos, .slice ma ml mq] 25)).grown hG (fun k hk => by have := hlo k hk; omega))
                have RA := Lib.hid ((R_15.out.alloc (.cells #[vs m.op, vs m.text, .int .i64 m.pos, .slice ma ml mq] 25)).grown hG (fun e => by have := hlo _ e.symm; omega))
                have KA := (K_15.alloc (.cells #[vs m.op, vs m.text, .int .i64 m.pos, .slice ma ml mq] 25)).grown hG (fun k hk => by have := hlo k hk; omega)
                have OA := Lib.hid hO
                clear hO hG hlo
                go_wp2_with fail
                go_roundg j
                case measure => omega
                case rel => exact ⟨ks ++ [m], _, a', q', by simp, by simpa using OA.out, RA.out, PA.out, KA, by simp; omega, HD.out⟩
        · have he0 : (sx.err == 0) = false := by simpa using he
          rw [if_neg (fun hx => he hx.1)] at hc
          simp only [Option.some.injEq, Prod.mk.injEq] at hc
          obtain ⟨rfl, rfl⟩ := hc
          clear he
          go_wp2_with fail
          go_meet
          case rel => exact ⟨a, q, rfl, O_1.out, R_1.out, P_1.out, K_1⟩
  case rest =>
    clear P_1 R_1 K_1 hh HH
    obtain ⟨wa, rfl⟩ : ∃ v, v = wc := ⟨_, rfl⟩
    obtain ⟨a, q, rfl, o1, r1, p1, K_1⟩ := hcut
    have P_1 := Lib.hid p1
    have R_1 := Lib.hid r1
    have O_1 := Lib.hid o1
    have lw := K_1.size
    have hb := p1.blk.lt
    have lr := r1.lt
    clear p1 r1 o1
    go_wp2_with fail
    refine (node_any _ [110, 111, 110, 101] _ _ _).mono ?_
    rintro e w2 ⟨rfl, hb2⟩
    have kk := Kp.of_below (b := c.bp) hb2
    have P_2 := Lib.hid (P_1.out.below hb2)
    have R_2 := Lib.hid (R_1.out.kp kk (by omega))
    have O_2 := Lib.hid (OutB.of_out (O_1.out.kp kk (by omega)))
    have K_2 := K_1.trans kk
    have l_2 : wa.heap.size ≤ w2.heap.size := kk.size
    have lr2 := R_2.out.lt
    have lb2 := P_2.out.blk.lt
    clear kk hb2
    have q0 : (Instr.mapUpdate 122 (.map (some (w2.heap.size + 1))) (.string ⟨#[62]⟩) (.string ⟨#[116, 111]⟩)).run Tryz.prog ((w2.alloc (.cells #[vs [110, 111, 110, 101], vs [], .int .i64 0, .slice none 0 0] 25)).alloc (.map #[] 0)) = .ok () ((w2.alloc (.cells #[vs [110, 111, 110, 101], vs [], .int .i64 0, .slice none 0 0] 25)).alloc (.map #[{ key := .string ⟨#[62]⟩, val := .string ⟨#[116, 111]⟩, born := 0 }] 1)) := run_put _ _ (by simp) _ _ _ _ rfl
    have q1 : (Instr.mapUpdate 122 (.map (some (w2.heap.size + 1))) (.string ⟨#[62, 62]⟩) (.string ⟨#[97, 112, 112, 101, 110, 100]⟩)).run Tryz.prog ((w2.alloc (.cells #[vs [110, 111, 110, 101], vs [], .int .i64 0, .slice none 0 0] 25)).alloc (.map #[{ key := .string ⟨#[62]⟩, val := .string ⟨#[116, 111]⟩, born := 0 }] 1)) = .ok () ((w2.alloc (.cells #[vs [110, 111, 110, 101], vs [], .int .i64 0, .slice none 0 0] 25)).alloc (.map #[{ key := .string ⟨#[62]⟩, val := .string ⟨#[116, 111]⟩, born := 0 }, { key := .string ⟨#[62, 62]⟩, val := .string ⟨#[97, 112, 112, 101, 110, 100]⟩, born := 1 }] 2)) := run_put _ _ (by simp) _ _ _ _ rfl
    have hrg := run_range_map (P := Tryz.prog) ((w2.alloc (.cells #[vs [110, 111, 110, 101], vs [], .int .i64 0, .slice none 0 0] 25)).alloc (.map outES 2)) 122 9 9 (w2.heap.size + 1) outES 2 Tryz.underlying122 (by have := heap_alloc_new (w2.alloc (.cells #[vs [110, 111, 110, 101], vs [], .int .i64 0, .slice none 0 0] 25)) (.map outES 2); simpa using this)
    go_upto_block 2 with fail
    go_cut [] from 50 (fun wx => ∃ (ta : Option Addr) (tl tq : Nat), Blk wx w2.heap.size 25 #[vs tn.op, vs tn.text, .int .i64 tn.pos, .slice ta tl tq] ∧ KidsAt wx (fun b => w.heap.size < b ∧ b ≠ w2.heap.size) (.slice ta tl tq) tn.kids ∧ OutB wx (w.heap.size + 1) w2.heap.size (.slice a args.length q) args ∧ Blk wx w.heap.size 25 z4 ∧ PAt c wx s2 ∧ Kp c.bp w wx)
    case first =>
      go_wp2_with fail
      go_loopg [] 3 (fun g wr => ∃ seen : Array Nat, wr.heap[w2.heap.size + 1 + 1]? = some (.mapIter (some (w2.heap.size + 1)) 2 seen 2) ∧ wr.heap[w2.heap.size + 1]? = some (.map outES 2) ∧ Blk wr w2.heap.size 25 #[vs [110, 111, 110, 101], vs [], .int .i64 0, .slice none 0 0] ∧ OutB wr (w.heap.size + 1) w2.heap.size (.slice a args.length q) args ∧ Blk wr w.heap.size 25 z4 ∧ PAt c wr s1 ∧ Kp c.bp w wr ∧
          (leftOf outES seen).size < g ∧ Hid (∀ e ∈ outES.toList, seen.contains e.born = true → ∀ x : Pp.Bytes, e.key = vs x → Pp.at_ c.T [x] s1 = false))
      case atStart =>
        refine ⟨#[], by simpa using heap_alloc_new ((w2.alloc (.cells #[vs [110, 111, 110, 101], vs [], .int .i64 0, .slice none 0 0] 25)).alloc (.map outES 2)) (.mapIter (some (w2.heap.size + 1)) 2 #[] 2), ?_, ((Blk.new w2 25 #[vs [110, 111, 110, 101], vs [], .int .i64 0, .slice none 0 0]).alloc _).alloc _, ((O_2.out.alloc _).alloc _).alloc _, ((R_2.out.alloc _).alloc _).alloc _, ((P_2.out.alloc _).alloc _).alloc _, ((K_2.alloc _).alloc _).alloc _, Nat.lt_of_le_of_lt (by unfold leftOf; exact Array.size_filter_le) (by decide : outES.size < 3), ?_⟩
        · rw [Below.heap_alloc _ _ _ (by simp)]
          simpa using heap_alloc_new (w2.alloc (.cells #[vs [110, 111, 110, 101], vs [], .int .i64 0, .slice none 0 0] 25)) (.map outES 2)
        · intro e _ h
          simp at h
      case round =>
        clear hrg P_2 R_2 O_2 K_2 q0 q1 P_1 R_1 O_1
        obtain ⟨seen, hit, hmap, g1, o1, r1, p1, K_2, hleft, hseen⟩ := hrel
        have P_2 := Lib.hid p1
        have R_2 := Lib.hid r1
        have G_2 := Lib.hid g1
        have O_2 := Lib.hid o1
        have lw3 := K_2.size
        have lg1 := g1.lt
        have lit : w2.heap.size + 1 + 1 < wr.heap.size := by
          rcases Nat.lt_or_ge (w2.heap.size + 1 + 1) wr.heap.size with h | h
          · exact h
          · rw [Array.getElem?_eq_none h] at hit; cases hit
        clear p1 r1 g1 o1
        have hold : ∀ x ∈ outES.toList, x.born < 2 := by intro x hx; simp at hx; rcases hx with rfl | rfl <;> simp
        rcases next_step wr 0 _ _ 2 seen outES 2 hit hmap hold (by omega) with ⟨h0, hrun⟩ | ⟨e, he, w3, hrun, hg, hit2, hsz2⟩
        · have hs : Pp.toOp c.T s1 = [] := toOp_not (fun e he x hx => hseen.out e he (by
            cases hc : seen.contains e.born with
            | true => rfl
            | false =>
              have : e ∈ (leftOf outES seen).toList := by unfold leftOf; simp; exact ⟨by simpa using he, by simpa using hc⟩
              have hz : leftOf outES seen = #[] := by simpa using h0
              rw [hz] at this
              simp at this) x hx)
          have hh := HT.out
          unfold Pp.outTo at hh
          rw [if_pos hs] at hh
          simp only [Option.some.injEq, Prod.mk.injEq] at hh
          obtain ⟨rfl, rfl⟩ := hh
          clear hs hseen hit hmap h0 hold
          go_wp2_with fail
          go_meet
          case rel => exact ⟨none, 0, 0, G_2.out, .nil _ _, O_2.out, R_2.out, P_2.out, K_2⟩
        · have he' : e ∈ outES.toList := by unfold leftOf at he; simp at he; simpa using he.1
          have hlp := left_pushE outES he
          have hmap2 : w3.heap[w2.heap.size + 1]? = some (.map outES 2) := (hg.block _ (by omega) (by simp)).trans hmap
          have hen := run_entry_at (P := Tryz.prog) w3 (w2.heap.size + 1 + 1) (w2.heap.size + 1) 2 seen outES 2 e hit2 hmap2 he' (by decide)
          have P_3 := Lib.hid (P_2.out.grown hg (fun k hk => by cases hk; omega))
          have R_3 := Lib.hid (R_2.out.grown hg (by simp; omega))
          have G_3 := Lib.hid (G_2.out.grown hg (by simp; omega))
          have O_3 := Lib.hid (O_2.out.grown hg (by omega))
          have K_3 := K_2.row hg (by omega)
          have Hit := Lib.hid hit2
          have Hmap := Lib.hid hmap2
          have lb3 := P_3.out.blk.lt
          clear he hit hmap hit2 hmap2 hold hg
          simp only [List.mem_cons, List.not_mem_nil, or_false] at he'
          rcases he' with rfl | rfl
          · cases hat : Pp.at_ c.T [[62]] s1 with
            | false =>
              have HA := Lib.hid hat
              clear hat
              go_wp2_with fail
              refine (accept_f c _ _ P_3.out [62] HA.out).mono ?_
              rintro e w4 ⟨rfl, pp, kp⟩
              have P_4 := Lib.hid pp
              have R_4 := Lib.hid (R_3.out.kp kp (by omega))
              have G_4 := Lib.hid (G_3.out.kp kp (by omega))
              have K_4 := K_3.trans kp
              have l_4 : w3.heap.size + 0 ≤ w4.heap.size := by have := kp.size; simpa using this
              have KP := Lib.hid kp
              have O_4 := Lib.hid (O_3.out.kp kp (.inl (by omega)))
              clear kp pp 
              go_wp2_with fail
              go_roundg (gk - 1)
              case measure => omega
              case rel =>
                refine ⟨seen.push _, ?_, ?_, G_4.out, O_4.out, R_4.out, P_4.out, K_4, Nat.lt_of_lt_of_le hlp (by omega), ?_⟩
                · exact (KP.out.block _ (by omega) (by omega)).trans Hit.out
                · exact (KP.out.block _ (by omega) (by omega)).trans Hmap.out
                · intro e he hc x hx
                  simp only [Array.contains_push, Bool.or_eq_true] at hc
                  rcases hc with hc | hc
                  · exact hseen.out e he hc x hx
                  · simp only [List.mem_cons, List.not_mem_nil, or_false] at he
                    rcases he with rfl | rfl
                    all_goals first | (exfalso; revert hc; decide) | (have hxx : x = [62] := vs_inj hx.symm; subst hxx; exact HA.out)
            | true =>
              have hh := HT.out
              unfold Pp.outTo at hh
              rw [toOp_to hat, if_neg (by simp)] at hh
              cases hEm : Pp.catF rx c.T E k (Pp.step c.T s1) with
              | none => rw [hEm] at hh; cases hh
              | some r =>
              obtain ⟨m, s3⟩ := r
              rw [hEm] at hh
              simp only [Option.some.injEq, Prod.mk.injEq] at hh
              obtain ⟨rfl, rfl⟩ := hh
              have HA := Lib.hid hat
              have HM := Lib.hid hEm
              clear hat hEm hseen
              go_wp2_with fail
              refine (accept_t c _ _ P_3.out [62] HA.out).mono ?_
              rintro e w4 ⟨rfl, pp, kp⟩
              have P_4 := Lib.hid pp
              have R_4 := Lib.hid (R_3.out.kp kp (by omega))
              have G_4 := Lib.hid (G_3.out.kp kp (by omega))
              have K_4 := K_3.trans kp
              have l_4 : w3.heap.size + 0 ≤ w4.heap.size := by have := kp.size; simpa using this
              have O_4 := Lib.hid (O_3.out.kp kp (.inl (by omega)))
              clear kp pp 
              go_wp2_with fail
              refine (HC.out _ _ _ _ P_4.out HM.out).mono ?_
              rintro e w5 ⟨ma, ml, mq, rfl, tt, pp, kp⟩
              have P_5 := Lib.hid pp
              have R_5 := Lib.hid (R_4.out.kp kp (by omega))
              have G_5 := Lib.hid (G_4.out.kp kp (by omega))
              have K_5 := K_4.trans kp
              have l_5 : w4.heap.size + 0 ≤ w5.heap.size := by have := kp.size; simpa using this
              have O_5 := Lib.hid (O_4.out.kp kp (.inl (by omega)))
              clear kp pp 
              have Tm_5 := Lib.hid tt
              clear tt
              go_wp2_with fail
              refine (node_any _ _ _ _ _).mono ?_
              rintro e w6 ⟨rfl, hb⟩
              have kk := Kp.of_below (b := c.bp) hb
              have P_6 := Lib.hid ((P_5.out.alloc _).below hb)
              have R_6 := Lib.hid ((R_5.out.alloc _).kp kk (by omega))
              have G_6 := Lib.hid ((G_5.out.alloc _).kp kk (by omega))
              have A_6 := Lib.hid (((Blk.new w5 25 #[vs m.op, vs m.text, .int .i64 m.pos, .slice ma ml mq])).kp kk (by omega))
              have Tm_6 := Lib.hid ((Tm_5.out.alloc _).kp kk (by first | omega | (simp; omega)))
              have K_6 := (K_5.alloc _).trans kk
              have l_6 : w5.heap.size + 1 ≤ w6.heap.size := by have := kk.size; simpa using this
              have O_6 := Lib.hid ((O_5.out.alloc _).kp kk (.inl (by omega)))
              clear kk hb 
              obtain ⟨r0, r1, r2, r3⟩ := G_6.out.four
              have rf0 := G_6.out.frozen 0
              have rf1 := G_6.out.frozen 1
              have rf2 := G_6.out.frozen 2
              have rf3 := G_6.out.frozen 3
              go_wp2_with fail
              go_meet
              case rel =>
                refine ⟨_, 1, 1, G_6.out.put4, ((KidsAt.one (n1 := m) (S := fun b => w.heap.size < b ∧ b ≠ w2.heap.size) A_6.out (by omega) (Tm_6.out.mono (fun b hb _ => by first | omega | (simp at hb; omega)))).put4 (by simp)), ?_, R_6.out.far4 (by omega), P_6.out.put4 (by omega), K_6.put4 (by omega)⟩
                exact (((O_6.out.far (p := ⟨w2.heap.size, 0, none⟩) (.inr (Nat.le_refl _)) _).far (p := ⟨w2.heap.size, 1, none⟩) (.inr (Nat.le_refl _)) _).far (p := ⟨w2.heap.size, 2, none⟩) (.inr (Nat.le_refl _)) _).far (p := ⟨w2.heap.size, 3, none⟩) (.inr (Nat.le_refl _)) _
          · cases hat : Pp.at_ c.T [[62, 62]] s1 with
            | false =>
              have HA := Lib.hid hat
              clear hat
              go_wp2_with fail
              refine (accept_f c _ _ P_3.out [62, 62] HA.out).mono ?_
              rintro e w4 ⟨rfl, pp, kp⟩
              have P_4 := Lib.hid pp
              have R_4 := Lib.hid (R_3.out.kp kp (by omega))
              have G_4 := Lib.hid (G_3.out.kp kp (by omega))
              have K_4 := K_3.trans kp
              have l_4 : w3.heap.size + 0 ≤ w4.heap.size := by have := kp.size; simpa using this
              have KP := Lib.hid kp
              have O_4 := Lib.hid (O_3.out.kp kp (.inl (by omega)))
              clear kp pp 
              go_wp2_with fail
              go_roundg (gk - 1)
              case measure => omega
              case rel =>
                refine ⟨seen.push _, ?_, ?_, G_4.out, O_4.out, R_4.out, P_4.out, K_4, Nat.lt_of_lt_of_le hlp (by omega), ?_⟩
                · exact (KP.out.block _ (by omega) (by omega)).trans Hit.out
                · exact (KP.out.block _ (by omega) (by omega)).trans Hmap.out
                · intro e he hc x hx
                  simp only [Array.contains_push, Bool.or_eq_true] at hc
                  rcases hc with hc | hc
                  · exact hseen.out e he hc x hx
                  · simp only [List.mem_cons, List.not_mem_nil, or_false] at he
                    rcases he with rfl | rfl
                    all_goals first | (exfalso; revert hc; decide) | (have hxx : x = [62, 62] := vs_inj hx.symm; subst hxx; exact HA.out)
            | true =>
              have hh := HT.out
              unfold Pp.outTo at hh
              rw [toOp_app hat, if_neg (by simp)] at hh
              cases hEm : Pp.catF rx c.T E k (Pp.step c.T s1) with
              | none => rw [hEm] at hh; cases hh
              | some r =>
              obtain ⟨m, s3⟩ := r
              rw [hEm] at hh
              simp only [Option.some.injEq, Prod.mk.injEq] at hh
              obtain ⟨rfl, rfl⟩ := hh
              have HA := Lib.hid hat
              have HM := Lib.hid hEm
              clear hat hEm hseen
              go_wp2_with fail
              refine (accept_t c _ _ P_3.out [62, 62] HA.out).mono ?_
              rintro e w4 ⟨rfl, pp, kp⟩
              have P_4 := Lib.hid pp
              have R_4 := Lib.hid (R_3.out.kp kp (by omega))
              have G_4 := Lib.hid (G_3.out.kp kp (by omega))
              have K_4 := K_3.trans kp
              have l_4 : w3.heap.size + 0 ≤ w4.heap.size := by have := kp.size; simpa using this
              have O_4 := Lib.hid (O_3.out.kp kp (.inl (by omega)))
              clear kp pp 
              go_wp2_with fail
              refine (HC.out _ _ _ _ P_4.out HM.out).mono ?_
              rintro e w5 ⟨ma, ml, mq, rfl, tt, pp, kp⟩
              have P_5 := Lib.hid pp
              have R_5 := Lib.hid (R_4.out.kp kp (by omega))
              have G_5 := Lib.hid (G_4.out.kp kp (by omega))
              have K_5 := K_4.trans kp
              have l_5 : w4.heap.size + 0 ≤ w5.heap.size := by have := kp.size; simpa using this
              have O_5 := Lib.hid (O_4.out.kp kp (.inl (by omega)))
              clear kp pp 
              have Tm_5 := Lib.hid tt
              clear tt
              go_wp2_with fail
              refine (node_any _ _ _ _ _).mono ?_
              rintro e w6 ⟨rfl, hb⟩
              have kk := Kp.of_below (b := c.bp) hb
              have P_6 := Lib.hid ((P_5.out.alloc _).below hb)
              have R_6 := Lib.hid ((R_5.out.alloc _).kp kk (by omega))
              have G_6 := Lib.hid ((G_5.out.alloc _).kp kk (by omega))
              have A_6 := Lib.hid (((Blk.new w5 25 #[vs m.op, vs m.text, .int .i64 m.pos, .slice ma ml mq])).kp kk (by omega))
              have Tm_6 := Lib.hid ((Tm_5.out.alloc _).kp kk (by first | omega | (simp; omega)))
              have K_6 := (K_5.alloc _).trans kk
              have l_6 : w5.heap.size + 1 ≤ w6.heap.size := by have := kk.size; simpa using this
              have O_6 := Lib.hid ((O_5.out.alloc _).kp kk (.inl (by omega)))
              clear kk hb 
              obtain ⟨r0, r1, r2, r3⟩ := G_6.out.four
              have rf0 := G_6.out.frozen 0
              have rf1 := G_6.out.frozen 1
              have rf2 := G_6.out.frozen 2
              have rf3 := G_6.out.frozen 3
              go_wp2_with fail
              go_meet
              case rel =>
                refine ⟨_, 1, 1, G_6.out.put4, ((KidsAt.one (n1 := m) (S := fun b => w.heap.size < b ∧ b ≠ w2.heap.size) A_6.out (by omega) (Tm_6.out.mono (fun b hb _ => by first | omega | (simp at hb; omega)))).put4 (by simp)), ?_, R_6.out.far4 (by omega), P_6.out.put4 (by omega), K_6.put4 (by omega)⟩
                exact (((O_6.out.far (p := ⟨w2.heap.size, 0, none⟩) (.inr (Nat.le_refl _)) _).far (p := ⟨w2.heap.size, 1, none⟩) (.inr (Nat.le_refl _)) _).far (p := ⟨w2.heap.size, 2, none⟩) (.inr (Nat.le_refl _)) _).far (p := ⟨w2.heap.size, 3, none⟩) (.inr (Nat.le_refl _)) _
    case rest =>
      clear P_1 R_1 O_1 P_2 R_2 O_2 K_2 K_1 hrg q0 q1 hmm
      obtain ⟨wb, rfl⟩ : ∃ v, v = wc := ⟨_, rfl⟩
      obtain ⟨ta, tl, tq, g1, k1, o1, r1, p1, K_1⟩ := hcut
      have P_1 := Lib.hid (p1.set { s2 with flat := false } 3 (.bool false) (by simp) p1.lt p1.deep)
      have c3 := p1.c3
      have hfz := p1.fz 3
      have F3 := (Kp.refl c.bp wb).setB 3 (.bool false)
      have R_1 := Lib.hid (r1.kp F3 (by omega))
      have G_1 := Lib.hid (g1.kp F3 (by omega))
      have Tm_1 := Lib.hid (k1.kp F3 (by omega))
      have O_1 := Lib.hid (o1.kp F3 (.inl (by omega)))
      have lg := g1.lt
      have lw := K_1.size
      have K_1 := K_1.trans F3
      have lb := p1.blk.lt
      clear p1 r1 g1 o1 k1 F3
      have hs' := HS.out
      by_cases kop : op = [112, 114, 105, 110, 116, 102]
      rotate_left
      · have hkop : (op == [112, 114, 105, 110, 116, 102]) = false := by simpa using kop
        rw [if_neg (fun hx => kop hx.1)] at hs'
        skip
        subst hs'
        clear kop
        obtain ⟨y0, y1, y2, y3⟩ := G_1.out.four
        obtain ⟨r0, r1, r2, r3⟩ := R_1.out.four
        have rf0 := R_1.out.frozen 0
        have rf1 := R_1.out.frozen 1
        have rf2 := R_1.out.frozen 2
        have rf3 := R_1.out.frozen 3
        obtain ⟨l2, hl2, hsrc, hkids⟩ := (O_1.out.alloc (.cells #[vs tn.op, vs tn.text, .int .i64 tn.pos, .slice ta tl tq] 25)).src
        have hl3 : l2.length ≤ 1000000 := by
          have : args.length = l2.length := by rw [← hl2]; simp
          omega
        have OX : Hid (OutX _ (w.heap.size + 1) w.heap.size (.slice (some ⟨wb.heap.size, 0, none⟩) 1 1) [tn]) := OutX.of_blk [(tn, .slice ta tl tq)] 1 rfl (by simp) (by omega) (by omega) _ rfl (blk_new_set wb _ _ 25 #[vs tn.op, vs tn.text, .int .i64 tn.pos, .slice ta tl tq]) (by
          intro n k hm
          simp only [List.mem_cons, List.not_mem_nil, or_false, Prod.mk.injEq] at hm
          obtain ⟨rfl, rfl⟩ := hm
          exact (Tm_1.out.mono (fun b hb hl => ⟨by omega, by first | omega | (simp at hl; omega), by omega⟩)).alloc _)
        have HKK := Lib.hid (fun n k hm => (hkids n k hm).mono (S' := fun b => w.heap.size + 1 ≤ b ∧ (Value.slice (some ⟨wb.heap.size, 0, none⟩) 1 1).ownBlock ≠ some b ∧ b ≠ w.heap.size) (fun b hb hl => ⟨by omega, (by intro e; have e : wb.heap.size = b := Option.some.inj e; omega), by omega⟩))
        have HSrc := Lib.hid hsrc
        have HL2 := Lib.hid hl2
        clear hsrc hkids hl2
        go_wp2_with (at_builtin; refine wpList_append_x _ rfl (.tmp 77) (.tmp 78) rfl rfl (w.heap.size + 1) w.heap.size (.slice (some ⟨wb.heap.size, 0, none⟩) 1 1) [tn] l2 (.slice a args.length q) rfl rfl OX.out (by simp) (by simp; omega) HSrc.out HKK.out (by simp; omega) (by simp; omega) ?_)
        intro v' w8 hA
        obtain ⟨hO, hG, hlo⟩ := hA
        rw [HL2.out] at hO
        obtain ⟨a', q', rfl⟩ := hO.len
        have PA := Lib.hid ((P_1.out.alloc (.cells #[vs tn.op, vs tn.text, .int .i64 tn.pos, .slice ta tl tq] 25)).grown hG (fun k hk => by have := hlo k hk; omega))
        have RA := Lib.hid ((R_1.out.alloc (.cells #[vs tn.op, vs tn.text, .int .i64 tn.pos, .slice ta tl tq] 25)).grown hG (fun e => (hlo _ e.symm).2 rfl))
        have KA := (K_1.alloc (.cells #[vs tn.op, vs tn.text, .int .i64 tn.pos, .slice ta tl tq] 25)).grown hG (fun k hk => by have := hlo k hk; omega)
        have OA := Lib.hid hO.kids
        clear hO hG hlo r0 r1 r2 r3 rf0 rf1 rf2 rf3 y0 y1 y2 y3
        have RA_0 := RA
        have OA_0 := OA
        go_wp2_with fail
        refine (node_any _ _ _ _ _).mono ?_
        rintro e w9 ⟨rfl, hb⟩
        have kk := Kp.of_below (b := c.bp) hb
        have P_9 := Lib.hid (PA.out.below hb)
        have RA_9 := Lib.hid (RA_0.out.kp kk (by omega))
        have OA_9 := Lib.hid (OA_0.out.kp kk (by first | omega | (simp; omega)))
        have K_9 := KA.trans kk
        have l_9 : w8.heap.size + 0 ≤ w9.heap.size := by have := kk.size; simpa using this
        clear kk hb 
        obtain ⟨r0, r1, r2, r3⟩ := RA_9.out.four
        have rf0 := RA_9.out.frozen 0
        have rf1 := RA_9.out.frozen 1
        have rf2 := RA_9.out.frozen 2
        have rf3 := RA_9.out.frozen 3
        go_wp2_with fail
        exact bodyPost_ret (results_node Tryz.results98 rfl RA_9.out.put4) rfl ⟨a', _, q', rfl, (KidsAt.put4 (R := w.heap.size) OA_9.out (fun hx => hx.2 rfl)).mono (fun b hb _ => by omega), P_9.out.put4 (by omega), K_9.put4 (Nat.le_refl _)⟩
      · have hkop : (op == [112, 114, 105, 110, 116, 102]) = true := by simpa using kop
        by_cases ka : args = []
        rotate_left
        · have hka : ((args.length : Int) == 0) = false := by simpa using ka
          rw [if_neg (fun hx => ka hx.2)] at hs'
          skip
          subst hs'
          clear kop ka
          obtain ⟨y0, y1, y2, y3⟩ := G_1.out.four
          obtain ⟨r0, r1, r2, r3⟩ := R_1.out.four
          have rf0 := R_1.out.frozen 0
          have rf1 := R_1.out.frozen 1
          have rf2 := R_1.out.frozen 2
          have rf3 := R_1.out.frozen 3
          obtain ⟨l2, hl2, hsrc, hkids⟩ := (O_1.out.alloc (.cells #[vs tn.op, vs tn.text, .int .i64 tn.pos, .slice ta tl tq] 25)).src
          have hl3 : l2.length ≤ 1000000 := by
            have : args.length = l2.length := by rw [← hl2]; simp
            omega
          have OX : Hid (OutX _ (w.heap.size + 1) w.heap.size (.slice (some ⟨wb.heap.size, 0, none⟩) 1 1) [tn]) := OutX.of_blk [(tn, .slice ta tl tq)] 1 rfl (by simp) (by omega) (by omega) _ rfl (blk_new_set wb _ _ 25 #[vs tn.op, vs tn.text, .int .i64 tn.pos, .slice ta tl tq]) (by
            intro n k hm
            simp only [List.mem_cons, List.not_mem_nil, or_false, Prod.mk.injEq] at hm
            obtain ⟨rfl, rfl⟩ := hm
            exact (Tm_1.out.mono (fun b hb hl => ⟨by omega, by first | omega | (simp at hl; omega), by omega⟩)).alloc _)
          have HKK := Lib.hid (fun n k hm => (hkids n k hm).mono (S' := fun b => w.heap.size + 1 ≤ b ∧ (Value.slice (some ⟨wb.heap.size, 0, none⟩) 1 1).ownBlock ≠ some b ∧ b ≠ w.heap.size) (fun b hb hl => ⟨by omega, (by intro e; have e : wb.heap.size = b := Option.some.inj e; omega), by omega⟩))
          have HSrc := Lib.hid hsrc
          have HL2 := Lib.hid hl2
          clear hsrc hkids hl2
          go_wp2_with (at_builtin; refine wpList_append_x _ rfl (.tmp 77) (.tmp 78) rfl rfl (w.heap.size + 1) w.heap.size (.slice (some ⟨wb.heap.size, 0, none⟩) 1 1) [tn] l2 (.slice a args.length q) rfl rfl OX.out (by simp) (by simp; omega) HSrc.out HKK.out (by simp; omega) (by simp; omega) ?_)
          intro v' w8 hA
          obtain ⟨hO, hG, hlo⟩ := hA
          rw [HL2.out] at hO
          obtain ⟨a', q', rfl⟩ := hO.len
          have PA := Lib.hid ((P_1.out.alloc (.cells #[vs tn.op, vs tn.text, .int .i64 tn.pos, .slice ta tl tq] 25)).grown hG (fun k hk => by have := hlo k hk; omega))
          have RA := Lib.hid ((R_1.out.alloc (.cells #[vs tn.op, vs tn.text, .int .i64 tn.pos, .slice ta tl tq] 25)).grown hG (fun e => (hlo _ e.symm).2 rfl))
          have KA := (K_1.alloc (.cells #[vs tn.op, vs tn.text, .int .i64 tn.pos, .slice ta tl tq] 25)).grown hG (fun k hk => by have := hlo k hk; omega)
          have OA := Lib.hid hO.kids
          clear hO hG hlo r0 r1 r2 r3 rf0 rf1 rf2 rf3 y0 y1 y2 y3
          have RA_0 := RA
          have OA_0 := OA
          go_wp2_with fail
          refine (node_any _ _ _ _ _).mono ?_
          rintro e w9 ⟨rfl, hb⟩
          have kk := Kp.of_below (b := c.bp) hb
          have P_9 := Lib.hid (PA.out.below hb)
          have RA_9 := Lib.hid (RA_0.out.kp kk (by omega))
          have OA_9 := Lib.hid (OA_0.out.kp kk (by first | omega | (simp; omega)))
          have K_9 := KA.trans kk
          have l_9 : w8.heap.size + 0 ≤ w9.heap.size := by have := kk.size; simpa using this
          clear kk hb 
          obtain ⟨r0, r1, r2, r3⟩ := RA_9.out.four
          have rf0 := RA_9.out.frozen 0
          have rf1 := RA_9.out.frozen 1
          have rf2 := RA_9.out.frozen 2
          have rf3 := RA_9.out.frozen 3
          go_wp2_with fail
          exact bodyPost_ret (results_node Tryz.results98 rfl RA_9.out.put4) rfl ⟨a', _, q', rfl, (KidsAt.put4 (R := w.heap.size) OA_9.out (fun hx => hx.2 rfl)).mono (fun b hb _ => by omega), P_9.out.put4 (by omega), K_9.put4 (Nat.le_refl _)⟩
        · have hka : ((args.length : Int) == 0) = true := by simpa using ka
          rw [if_pos ⟨kop, ka⟩] at hs'
          subst hs'
          clear kop ka
          go_wp2_with fail
          refine (fail_any c _ _ P_1.out).mono ?_
          rintro e w2f ⟨rfl, pp, kp⟩
          have P_2 := Lib.hid pp
          have R_2 := Lib.hid (R_1.out.kp kp (by omega))
          have G_2 := Lib.hid (G_1.out.kp kp (by omega))
          have Tm_2 := Lib.hid (Tm_1.out.kp kp (by first | omega | (simp; omega)))
          have K_2 := K_1.trans kp
          have l_2 : wb.heap.size ≤ w2f.heap.size := by have := kp.size; simpa using this
          have O_2 := Lib.hid (O_1.out.kp kp (.inl (by omega)))
          clear kp pp 
          obtain ⟨y0, y1, y2, y3⟩ := G_2.out.four
          obtain ⟨r0, r1, r2, r3⟩ := R_2.out.four
          have rf0 := R_2.out.frozen 0
          have rf1 := R_2.out.frozen 1
          have rf2 := R_2.out.frozen 2
          have rf3 := R_2.out.frozen 3
          obtain ⟨l2, hl2, hsrc, hkids⟩ := (O_2.out.alloc (.cells #[vs tn.op, vs tn.text, .int .i64 tn.pos, .slice ta tl tq] 25)).src
          have hl3 : l2.length ≤ 1000000 := by
            have : args.length = l2.length := by rw [← hl2]; simp
            omega
          have OX : Hid (OutX _ (w.heap.size + 1) w.heap.size (.slice (some ⟨w2f.heap.size, 0, none⟩) 1 1) [tn]) := OutX.of_blk [(tn, .slice ta tl tq)] 1 rfl (by simp) (by omega) (by omega) _ rfl (Blk.new w2f 25 #[vs tn.op, vs tn.text, .int .i64 tn.pos, .slice ta tl tq]) (by
            intro n k hm
            simp only [List.mem_cons, List.not_mem_nil, or_false, Prod.mk.injEq] at hm
            obtain ⟨rfl, rfl⟩ := hm
            exact (Tm_2.out.mono (fun b hb hl => ⟨by omega, by first | omega | (simp at hl; omega), by omega⟩)).alloc _)
          have HKK := Lib.hid (fun n k hm => (hkids n k hm).mono (S' := fun b => w.heap.size + 1 ≤ b ∧ (Value.slice (some ⟨w2f.heap.size, 0, none⟩) 1 1).ownBlock ≠ some b ∧ b ≠ w.heap.size) (fun b hb hl => ⟨by omega, (by intro e; have e : w2f.heap.size = b := Option.some.inj e; omega), by omega⟩))
          have HSrc := Lib.hid hsrc
          have HL2 := Lib.hid hl2
          clear hsrc hkids hl2
          go_wp2_with (at_builtin; refine wpList_append_x _ rfl (.tmp 77) (.tmp 78) rfl rfl (w.heap.size + 1) w.heap.size (.slice (some ⟨w2f.heap.size, 0, none⟩) 1 1) [tn] l2 (.slice a args.length q) rfl rfl OX.out (by simp) (by simp; omega) HSrc.out HKK.out (by simp; omega) (by simp; omega) ?_)
          intro v' w8 hA
          obtain ⟨hO, hG, hlo⟩ := hA
          rw [HL2.out] at hO
          obtain ⟨a', q', rfl⟩ := hO.len
          have PA := Lib.hid ((P_2.out.alloc (.cells #[vs tn.op, vs tn.text, .int .i64 tn.pos, .slice ta tl tq] 25)).grown hG (fun k hk => by have := hlo k hk; omega))
          have RA := Lib.hid ((R_2.out.alloc (.cells #[vs tn.op, vs tn.text, .int .i64 tn.pos, .slice ta tl tq] 25)).grown hG (fun e => (hlo _ e.symm).2 rfl))
          have KA := (K_2.alloc (.cells #[vs tn.op, vs tn.text, .int .i64 tn.pos, .slice ta tl tq] 25)).grown hG (fun k hk => by have := hlo k hk; omega)
          have OA := Lib.hid hO.kids
          clear hO hG hlo r0 r1 r2 r3 rf0 rf1 rf2 rf3 y0 y1 y2 y3
          have RA_0 := RA
          have OA_0 := OA
          go_wp2_with fail
          refine (node_any _ _ _ _ _).mono ?_
          rintro e w9 ⟨rfl, hb⟩
          have kk := Kp.of_below (b := c.bp) hb
          have P_9 := Lib.hid (PA.out.below hb)
          have RA_9 := Lib.hid (RA_0.out.kp kk (by omega))
          have OA_9 := Lib.hid (OA_0.out.kp kk (by first | omega | (simp; omega)))
          have K_9 := KA.trans kk
          have l_9 : w8.heap.size + 0 ≤ w9.heap.size := by have := kk.size; simpa using this
          clear kk hb 
          obtain ⟨r0, r1, r2, r3⟩ := RA_9.out.four
          have rf0 := RA_9.out.frozen 0
          have rf1 := RA_9.out.frozen 1
          have rf2 := RA_9.out.frozen 2
          have rf3 := RA_9.out.frozen 3
          go_wp2_with fail
          exact bodyPost_ret (results_node Tryz.results98 rfl RA_9.out.put4) rfl ⟨a', _, q', rfl, (KidsAt.put4 (R := w.heap.size) OA_9.out (fun hx => hx.2 rfl)).mono (fun b hb _ => by omega), P_9.out.put4 (by omega), K_9.put4 (Nat.le_refl _)⟩

end Go.Proofs.YtgnmfaeonijogaaGreatDoor
