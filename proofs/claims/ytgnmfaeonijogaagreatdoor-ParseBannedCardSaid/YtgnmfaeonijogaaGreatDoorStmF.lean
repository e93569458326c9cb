/- Walked: a loop's head and body. -/
import Derived.Test.YtgnmfaeonijogaaGreatDoorExprA
import Derived.Test.YtgnmfaeonijogaaGreatDoorPrimB
import Derived.Deep.RegionWith
import Derived.Deep.Cut
namespace Go.Proofs.YtgnmfaeonijogaaGreatDoor
open Go.RowKit

section
variable {w W : World} {R o1 o2 o3 o4 : Nat} {a b c d : Value}
theorem KidsAt.puto {S : Nat → Prop} {v : Value} {ks : List Pp.Node} (h : KidsAt w S v ks) (hR : ¬ S R) :
    KidsAt ((((w.setCell ⟨R, o1, none⟩ a).setCell ⟨R, o2, none⟩ b).setCell ⟨R, o3, none⟩ c).setCell ⟨R, o4, none⟩ d) S v ks :=
  h.kp (b := R) ((((((Kp.refl R w).setB _ _).setB _ _).setB _ _).setB _ _)) hR
theorem Blk.faro {g : Nat} {t : TypeId} {cs : Array Value} (h : Blk w g t cs) (hR : g ≠ R) :
    Blk ((((w.setCell ⟨R, o1, none⟩ a).setCell ⟨R, o2, none⟩ b).setCell ⟨R, o3, none⟩ c).setCell ⟨R, o4, none⟩ d) g t cs :=
  h.kp (b := R) ((((((Kp.refl R w).setB _ _).setB _ _).setB _ _).setB _ _)) hR
theorem Kp.puto {g : Nat} (h : Kp g w W) (hR : w.heap.size ≤ R) : Kp g w ((((W.setCell ⟨R, o1, none⟩ a).setCell ⟨R, o2, none⟩ b).setCell ⟨R, o3, none⟩ c).setCell ⟨R, o4, none⟩ d) := (((h.setN hR _ _).setN hR _ _).setN hR _ _).setN hR _ _
theorem PAt.puto {p : PC} {s : Pp.PS} (h : PAt p w s) (hR : p.bp < R) : PAt p ((((w.setCell ⟨R, o1, none⟩ a).setCell ⟨R, o2, none⟩ b).setCell ⟨R, o3, none⟩ c).setCell ⟨R, o4, none⟩ d) s :=
  (((h.far (p := ⟨R, o1, none⟩) hR _).far (p := ⟨R, o2, none⟩) hR _).far (p := ⟨R, o3, none⟩) hR _).far (p := ⟨R, o4, none⟩) hR _
end
theorem Blk.twelve {w : World} {g : Nat} {t : TypeId} {a b c d e f h i j k l m : Value} (hb : Blk w g t #[a, b, c, d, e, f, h, i, j, k, l, m]) :
    (w.cell? ⟨g, 0, none⟩ = some a ∧ w.cell? ⟨g, 1, none⟩ = some b ∧ w.cell? ⟨g, 2, none⟩ = some c ∧ w.cell? ⟨g, 3, none⟩ = some d) ∧
    (w.cell? ⟨g, 4, none⟩ = some e ∧ w.cell? ⟨g, 5, none⟩ = some f ∧ w.cell? ⟨g, 6, none⟩ = some h ∧ w.cell? ⟨g, 7, none⟩ = some i) ∧
    (w.cell? ⟨g, 8, none⟩ = some j ∧ w.cell? ⟨g, 9, none⟩ = some k ∧ w.cell? ⟨g, 10, none⟩ = some l ∧ w.cell? ⟨g, 11, none⟩ = some m) := by
  refine ⟨⟨?_, ?_, ?_, ?_⟩, ⟨?_, ?_, ?_, ?_⟩, ?_, ?_, ?_, ?_⟩ <;> simp [hb.cell]

set_option maxRecDepth 100000 in
set_option maxHeartbeats 32000000 in
theorem loop_any (c : PC) (rx : Pp.Bytes → Int) (E S : Pp.PS → Option (Pp.Node × Pp.PS)) (k : Nat) (hE : IsN c 46 E) (hB : IsN c 85 (Pp.body c.T S)) (hS : IsN c 87 (Pp.simple rx c.T E k)) : IsN c 86 (Pp.loop rx c.T E S k) := by
  intro w s0 n s' h hh
  have HE := Lib.hid hE
  have HB := Lib.hid hB
  have HS := Lib.hid hS
  have P_0 := Lib.hid h
  have hb := h.blk.lt
  unfold Pp.loop at hh
  simp only at hh
  obtain ⟨s, hs⟩ : ∃ s, Pp.expect c.T [40] s0 = s := ⟨_, rfl⟩
  rw [hs] at hh
  have HH := Lib.hid hh
  have HX := Lib.hid hs
  clear hE hB hS h hh hs
  go_enter Tryz.func86, Tryz.ntmps86
  go_wp2_with fail
  refine (expect_any c _ _ (P_0.out.alloc _) [40]).mono ?_
  rintro e w1 ⟨rfl, pp, kp⟩
  have P_1 := Lib.hid pp
  have R_1 := Lib.hid (((Blk.new w 25 z4)).kp kp (by omega))
  have K_1 := ((Kp.refl c.bp w).alloc _).trans kp
  have l_1 : w.heap.size + 1 ≤ w1.heap.size := by have := kp.size; simpa using this
  clear kp pp 
  have P_1 := Lib.hid (HX.out ▸ P_1.out)
  clear P_0 HX
  go_wp2_with fail
  refine (ahead_any c _ _ P_1.out 3 (by omega)).mono ?_
  rintro e w2 ⟨rfl, hb⟩
  have kk := Kp.of_below (b := c.bp) hb
  have P_2 := Lib.hid (P_1.out.below hb)
  have R_2 := Lib.hid (R_1.out.kp kk (by omega))
  have K_2 := K_1.trans kk
  have l_2 : w1.heap.size + 0 ≤ w2.heap.size := by have := kk.size; simpa using this
  clear kk hb 
  go_upto_region 3 with fail
  go_cut [42] from 7 (fun v wx => v = .bool (Pp.isForin c.T s) ∧ PAt c wx s ∧ Blk wx w.heap.size 25 z4 ∧ Kp c.bp w wx)
  case first =>
    have hfi : Pp.isForin c.T s = Pp.isForin c.T s := rfl
    conv at hfi => rhs; unfold Pp.isForin
    have hcur := fun W hW => cur_any c W s hW
    have h1 := fun W hW => ahead_any c W s hW 1 (by omega)
    have h2 := fun W hW => ahead_any c W s hW 2 (by omega)
    generalize Pp.cur c.T s = t0 at *
    generalize Pp.ahead c.T 1 s = t1 at *
    generalize Pp.ahead c.T 2 s = t2 at *
    generalize Pp.ahead c.T 3 s = t3 at *
    have Hcur := Lib.hid hcur
    have H1 := Lib.hid h1
    have H2 := Lib.hid h2
    have Hfi := Lib.hid hfi
    clear hcur h1 h2 HH hfi
    cases b0 : (t0.kind == 5) with
    | false =>
      go_wp2_with fail
      refine (Hcur.out _ (P_2.out.alloc _)).mono ?_
      rintro e w3 ⟨rfl, hb⟩
      have kk := Kp.of_below (b := c.bp) hb
      have P_3 := Lib.hid ((P_2.out.alloc _).below hb)
      have R_3 := Lib.hid ((R_2.out.alloc _).kp kk (by omega))
      have D_3 := Lib.hid (((Blk.new w2 60 #[.int .i64 t3.kind, vs t3.text, .int .i64 t3.pos])).kp kk (by omega))
      have K_3 := (K_2.alloc _).trans kk
      have l_3 : w2.heap.size + 1 ≤ w3.heap.size := by have := kk.size; simpa using this
      clear kk hb 
      obtain ⟨d0, d1, d2⟩ := D_3.out.tri
      go_wp2_with fail
      go_meet
      case rel => exact ⟨by rw [Hfi.out]; simp only [b0]; rfl, P_3.out, R_3.out, K_3⟩
    | true =>
      cases b1 : (t1.kind == 7) with
      | false =>
        go_wp2_with fail
        refine (Hcur.out _ (P_2.out.alloc _)).mono ?_
        rintro e w3 ⟨rfl, hb⟩
        have kk := Kp.of_below (b := c.bp) hb
        have P_3 := Lib.hid ((P_2.out.alloc _).below hb)
        have R_3 := Lib.hid ((R_2.out.alloc _).kp kk (by omega))
        have D_3 := Lib.hid (((Blk.new w2 60 #[.int .i64 t3.kind, vs t3.text, .int .i64 t3.pos])).kp kk (by omega))
        have K_3 := (K_2.alloc _).trans kk
        have l_3 : w2.heap.size + 1 ≤ w3.heap.size := by have := kk.size; simpa using this
        clear kk hb 
        go_wp2_with fail
        refine (H1.out _ P_3.out).mono ?_
        rintro e w4 ⟨rfl, hb⟩
        have kk := Kp.of_below (b := c.bp) hb
        have P_4 := Lib.hid (P_3.out.below hb)
        have R_4 := Lib.hid (R_3.out.kp kk (by omega))
        have D_4 := Lib.hid (D_3.out.kp kk (by omega))
        have K_4 := K_3.trans kk
        have l_4 : w3.heap.size + 0 ≤ w4.heap.size := by have := kk.size; simpa using this
        clear kk hb 
        obtain ⟨d0, d1, d2⟩ := D_4.out.tri
        go_wp2_with fail
        go_meet
        case rel => exact ⟨by rw [Hfi.out]; simp only [b0, b1]; rfl, P_4.out, R_4.out, K_4⟩
      | true =>
        cases b2 : (t1.text == [105, 110]) with
        | false =>
          go_wp2_with fail
          refine (Hcur.out _ (P_2.out.alloc _)).mono ?_
          rintro e w3 ⟨rfl, hb⟩
          have kk := Kp.of_below (b := c.bp) hb
          have P_3 := Lib.hid ((P_2.out.alloc _).below hb)
          have R_3 := Lib.hid ((R_2.out.alloc _).kp kk (by omega))
          have D_3 := Lib.hid (((Blk.new w2 60 #[.int .i64 t3.kind, vs t3.text, .int .i64 t3.pos])).kp kk (by omega))
          have K_3 := (K_2.alloc _).trans kk
          have l_3 : w2.heap.size + 1 ≤ w3.heap.size := by have := kk.size; simpa using this
          clear kk hb 
          go_wp2_with fail
          refine (H1.out _ P_3.out).mono ?_
          rintro e w4 ⟨rfl, hb⟩
          have kk := Kp.of_below (b := c.bp) hb
          have P_4 := Lib.hid (P_3.out.below hb)
          have R_4 := Lib.hid (R_3.out.kp kk (by omega))
          have D_4 := Lib.hid (D_3.out.kp kk (by omega))
          have K_4 := K_3.trans kk
          have l_4 : w3.heap.size + 0 ≤ w4.heap.size := by have := kk.size; simpa using this
          clear kk hb 
          go_wp2_with fail
          refine (H1.out _ P_4.out).mono ?_
          rintro e w5 ⟨rfl, hb⟩
          have kk := Kp.of_below (b := c.bp) hb
          have P_5 := Lib.hid (P_4.out.below hb)
          have R_5 := Lib.hid (R_4.out.kp kk (by omega))
          have D_5 := Lib.hid (D_4.out.kp kk (by omega))
          have K_5 := K_4.trans kk
          have l_5 : w4.heap.size + 0 ≤ w5.heap.size := by have := kk.size; simpa using this
          clear kk hb 
          obtain ⟨d0, d1, d2⟩ := D_5.out.tri
          go_wp2_with fail
          go_meet
          case rel => exact ⟨by rw [Hfi.out]; simp only [b0, b1, b2]; rfl, P_5.out, R_5.out, K_5⟩
        | true =>
          cases b3 : (t2.kind == 5) with
          | false =>
            go_wp2_with fail
            refine (Hcur.out _ (P_2.out.alloc _)).mono ?_
            rintro e w3 ⟨rfl, hb⟩
            have kk := Kp.of_below (b := c.bp) hb
            have P_3 := Lib.hid ((P_2.out.alloc _).below hb)
            have R_3 := Lib.hid ((R_2.out.alloc _).kp kk (by omega))
            have D_3 := Lib.hid (((Blk.new w2 60 #[.int .i64 t3.kind, vs t3.text, .int .i64 t3.pos])).kp kk (by omega))
            have K_3 := (K_2.alloc _).trans kk
            have l_3 : w2.heap.size + 1 ≤ w3.heap.size := by have := kk.size; simpa using this
            clear kk hb 
            go_wp2_with fail
            refine (H1.out _ P_3.out).mono ?_
            rintro e w4 ⟨rfl, hb⟩
            have kk := Kp.of_below (b := c.bp) hb
            have P_4 := Lib.hid (P_3.out.below hb)
            have R_4 := Lib.hid (R_3.out.kp kk (by omega))
            have D_4 := Lib.hid (D_3.out.kp kk (by omega))
            have K_4 := K_3.trans kk
            have l_4 : w3.heap.size + 0 ≤ w4.heap.size := by have := kk.size; simpa using this
            clear kk hb 
            go_wp2_with fail
            refine (H1.out _ P_4.out).mono ?_
            rintro e w5 ⟨rfl, hb⟩
            have kk := Kp.of_below (b := c.bp) hb
            have P_5 := Lib.hid (P_4.out.below hb)
            have R_5 := Lib.hid (R_4.out.kp kk (by omega))
            have D_5 := Lib.hid (D_4.out.kp kk (by omega))
            have K_5 := K_4.trans kk
            have l_5 : w4.heap.size + 0 ≤ w5.heap.size := by have := kk.size; simpa using this
            clear kk hb 
            go_wp2_with fail
            refine (H2.out _ P_5.out).mono ?_
            rintro e w6 ⟨rfl, hb⟩
            have kk := Kp.of_below (b := c.bp) hb
            have P_6 := Lib.hid (P_5.out.below hb)
            have R_6 := Lib.hid (R_5.out.kp kk (by omega))
            have D_6 := Lib.hid (D_5.out.kp kk (by omega))
            have K_6 := K_5.trans kk
            have l_6 : w5.heap.size + 0 ≤ w6.heap.size := by have := kk.size; simpa using this
            clear kk hb 
            obtain ⟨d0, d1, d2⟩ := D_6.out.tri
            go_wp2_with fail
            go_meet
            case rel => exact ⟨by rw [Hfi.out]; simp only [b0, b1, b2, b3]; rfl, P_6.out, R_6.out, K_6⟩
          | true =>
            cases b4 : (t3.kind == 8) with
            | false =>
              go_wp2_with fail
              refine (Hcur.out _ (P_2.out.alloc _)).mono ?_
              rintro e w3 ⟨rfl, hb⟩
              have kk := Kp.of_below (b := c.bp) hb
              have P_3 := Lib.hid ((P_2.out.alloc _).below hb)
              have R_3 := Lib.hid ((R_2.out.alloc _).kp kk (by omega))
              have D_3 := Lib.hid (((Blk.new w2 60 #[.int .i64 t3.kind, vs t3.text, .int .i64 t3.pos])).kp kk (by omega))
              have K_3 := (K_2.alloc _).trans kk
              have l_3 : w2.heap.size + 1 ≤ w3.heap.size := by have := kk.size; simpa using this
              clear kk hb 
              go_wp2_with fail
              refine (H1.out _ P_3.out).mono ?_
              rintro e w4 ⟨rfl, hb⟩
              have kk := Kp.of_below (b := c.bp) hb
              have P_4 := Lib.hid (P_3.out.below hb)
              have R_4 := Lib.hid (R_3.out.kp kk (by omega))
              have D_4 := Lib.hid (D_3.out.kp kk (by omega))
              have K_4 := K_3.trans kk
              have l_4 : w3.heap.size + 0 ≤ w4.heap.size := by have := kk.size; simpa using this
              clear kk hb 
              go_wp2_with fail
              refine (H1.out _ P_4.out).mono ?_
              rintro e w5 ⟨rfl, hb⟩
              have kk := Kp.of_below (b := c.bp) hb
              have P_5 := Lib.hid (P_4.out.below hb)
              have R_5 := Lib.hid (R_4.out.kp kk (by omega))
              have D_5 := Lib.hid (D_4.out.kp kk (by omega))
              have K_5 := K_4.trans kk
              have l_5 : w4.heap.size + 0 ≤ w5.heap.size := by have := kk.size; simpa using this
              clear kk hb 
              go_wp2_with fail
              refine (H2.out _ P_5.out).mono ?_
              rintro e w6 ⟨rfl, hb⟩
              have kk := Kp.of_below (b := c.bp) hb
              have P_6 := Lib.hid (P_5.out.below hb)
              have R_6 := Lib.hid (R_5.out.kp kk (by omega))
              have D_6 := Lib.hid (D_5.out.kp kk (by omega))
              have K_6 := K_5.trans kk
              have l_6 : w5.heap.size + 0 ≤ w6.heap.size := by have := kk.size; simpa using this
              clear kk hb 
              obtain ⟨d0, d1, d2⟩ := D_6.out.tri
              go_wp2_with fail
              go_meet
              case rel => exact ⟨by rw [Hfi.out]; simp only [b0, b1, b2, b3, b4]; rfl, P_6.out, R_6.out, K_6⟩
            | true =>
              cases b5 : (t3.text == [41]) with
              | false =>
                go_wp2_with fail
                refine (Hcur.out _ (P_2.out.alloc _)).mono ?_
                rintro e w3 ⟨rfl, hb⟩
                have kk := Kp.of_below (b := c.bp) hb
                have P_3 := Lib.hid ((P_2.out.alloc _).below hb)
                have R_3 := Lib.hid ((R_2.out.alloc _).kp kk (by omega))
                have D_3 := Lib.hid (((Blk.new w2 60 #[.int .i64 t3.kind, vs t3.text, .int .i64 t3.pos])).kp kk (by omega))
                have K_3 := (K_2.alloc _).trans kk
                have l_3 : w2.heap.size + 1 ≤ w3.heap.size := by have := kk.size; simpa using this
                clear kk hb 
                go_wp2_with fail
                refine (H1.out _ P_3.out).mono ?_
                rintro e w4 ⟨rfl, hb⟩
                have kk := Kp.of_below (b := c.bp) hb
                have P_4 := Lib.hid (P_3.out.below hb)
                have R_4 := Lib.hid (R_3.out.kp kk (by omega))
                have D_4 := Lib.hid (D_3.out.kp kk (by omega))
                have K_4 := K_3.trans kk
                have l_4 : w3.heap.size + 0 ≤ w4.heap.size := by have := kk.size; simpa using this
                clear kk hb 
                go_wp2_with fail
                refine (H1.out _ P_4.out).mono ?_
                rintro e w5 ⟨rfl, hb⟩
                have kk := Kp.of_below (b := c.bp) hb
                have P_5 := Lib.hid (P_4.out.below hb)
                have R_5 := Lib.hid (R_4.out.kp kk (by omega))
                have D_5 := Lib.hid (D_4.out.kp kk (by omega))
                have K_5 := K_4.trans kk
                have l_5 : w4.heap.size + 0 ≤ w5.heap.size := by have := kk.size; simpa using this
                clear kk hb 
                go_wp2_with fail
                refine (H2.out _ P_5.out).mono ?_
                rintro e w6 ⟨rfl, hb⟩
                have kk := Kp.of_below (b := c.bp) hb
                have P_6 := Lib.hid (P_5.out.below hb)
                have R_6 := Lib.hid (R_5.out.kp kk (by omega))
                have D_6 := Lib.hid (D_5.out.kp kk (by omega))
                have K_6 := K_5.trans kk
                have l_6 : w5.heap.size + 0 ≤ w6.heap.size := by have := kk.size; simpa using this
                clear kk hb 
                obtain ⟨d0, d1, d2⟩ := D_6.out.tri
                go_wp2_with fail
                go_meet
                case rel => exact ⟨by rw [Hfi.out]; simp only [b0, b1, b2, b3, b4, b5]; rfl, P_6.out, R_6.out, K_6⟩
              | true =>
                go_wp2_with fail
                refine (Hcur.out _ (P_2.out.alloc _)).mono ?_
                rintro e w3 ⟨rfl, hb⟩
                have kk := Kp.of_below (b := c.bp) hb
                have P_3 := Lib.hid ((P_2.out.alloc _).below hb)
                have R_3 := Lib.hid ((R_2.out.alloc _).kp kk (by omega))
                have D_3 := Lib.hid (((Blk.new w2 60 #[.int .i64 t3.kind, vs t3.text, .int .i64 t3.pos])).kp kk (by omega))
                have K_3 := (K_2.alloc _).trans kk
                have l_3 : w2.heap.size + 1 ≤ w3.heap.size := by have := kk.size; simpa using this
                clear kk hb 
                go_wp2_with fail
                refine (H1.out _ P_3.out).mono ?_
                rintro e w4 ⟨rfl, hb⟩
                have kk := Kp.of_below (b := c.bp) hb
                have P_4 := Lib.hid (P_3.out.below hb)
                have R_4 := Lib.hid (R_3.out.kp kk (by omega))
                have D_4 := Lib.hid (D_3.out.kp kk (by omega))
                have K_4 := K_3.trans kk
                have l_4 : w3.heap.size + 0 ≤ w4.heap.size := by have := kk.size; simpa using this
                clear kk hb 
                go_wp2_with fail
                refine (H1.out _ P_4.out).mono ?_
                rintro e w5 ⟨rfl, hb⟩
                have kk := Kp.of_below (b := c.bp) hb
                have P_5 := Lib.hid (P_4.out.below hb)
                have R_5 := Lib.hid (R_4.out.kp kk (by omega))
                have D_5 := Lib.hid (D_4.out.kp kk (by omega))
                have K_5 := K_4.trans kk
                have l_5 : w4.heap.size + 0 ≤ w5.heap.size := by have := kk.size; simpa using this
                clear kk hb 
                go_wp2_with fail
                refine (H2.out _ P_5.out).mono ?_
                rintro e w6 ⟨rfl, hb⟩
                have kk := Kp.of_below (b := c.bp) hb
                have P_6 := Lib.hid (P_5.out.below hb)
                have R_6 := Lib.hid (R_5.out.kp kk (by omega))
                have D_6 := Lib.hid (D_5.out.kp kk (by omega))
                have K_6 := K_5.trans kk
                have l_6 : w5.heap.size + 0 ≤ w6.heap.size := by have := kk.size; simpa using this
                clear kk hb 
                obtain ⟨d0, d1, d2⟩ := D_6.out.tri
                go_wp2_with fail
                go_meet
                case rel => exact ⟨by rw [Hfi.out]; simp only [b0, b1, b2, b3, b4, b5]; rfl, P_6.out, R_6.out, K_6⟩
  case rest =>
    clear P_1 R_1 K_1 P_2 R_2 K_2
    obtain ⟨rfl, p1, r1, K_1⟩ := hcut
    have P_1 := Lib.hid p1
    have R_1 := Lib.hid r1
    have lw := K_1.size
    have hb := p1.blk.lt
    have lr := r1.lt
    clear p1 r1
    have hh := HH.out
    cases hfo : Pp.isForin c.T s with
    | true =>
      rw [if_pos hfo] at hh
      obtain ⟨⟨x, sx⟩, hx⟩ : ∃ r, Pp.name c.T [5] s = r := ⟨_, rfl⟩
      rw [hx] at hh
      simp only at hh
      obtain ⟨⟨y, sy⟩, hy⟩ : ∃ r, Pp.name c.T [5] (Pp.step c.T sx) = r := ⟨_, rfl⟩
      rw [hy] at hh
      simp only at hh
      have HX := Lib.hid hx
      have HY := Lib.hid hy
      clear HH hx hy hfo
      cases hEm : Pp.body c.T S (Pp.step c.T sy) with
      | none => rw [hEm] at hh; cases hh
      | some r =>
      obtain ⟨m, s2⟩ := r
      rw [hEm] at hh
      simp only at hh
      simp only [Option.some.injEq, Prod.mk.injEq] at hh
      obtain ⟨rfl, rfl⟩ := hh
      have HM := Lib.hid hEm
      clear hEm
      go_wp2_with fail
      have hnm := name_new c wc _ P_1.out 1 [5] wc.heap.size 1 rfl rfl #[.int .i64 5] rfl (by omega)
      rw [HX.out] at hnm
      simp only at hnm
      refine (hnm).mono ?_
      rintro e w2 ⟨rfl, pp, kp⟩
      have P_2 := Lib.hid pp
      have R_2 := Lib.hid (R_1.out.kp kp (by omega))
      have K_2 := K_1.trans kp
      have l_2 : wc.heap.size + 0 ≤ w2.heap.size := by have := kp.size; simpa using this
      clear kp pp hnm
      go_wp2_with fail
      refine (step_any c _ _ (P_2.out.alloc _)).mono ?_
      rintro e w3 ⟨rfl, pp, kp⟩
      have P_3 := Lib.hid pp
      have R_3 := Lib.hid ((R_2.out.alloc _).kp kp (by omega))
      have B_3 := Lib.hid (((Blk.new w2 60 #[.int .i64 x.kind, vs x.text, .int .i64 x.pos])).kp kp (by omega))
      have K_3 := (K_2.alloc _).trans kp
      have l_3 : w2.heap.size + 1 ≤ w3.heap.size := by have := kp.size; simpa using this
      clear kp pp 
      go_wp2_with fail
      have hnm := name_new c w3 _ P_3.out 1 [5] w3.heap.size 1 rfl rfl #[.int .i64 5] rfl (by omega)
      rw [HY.out] at hnm
      simp only at hnm
      refine (hnm).mono ?_
      rintro e w4 ⟨rfl, pp, kp⟩
      have P_4 := Lib.hid pp
      have R_4 := Lib.hid (R_3.out.kp kp (by omega))
      have B_4 := Lib.hid (B_3.out.kp kp (by omega))
      have K_4 := K_3.trans kp
      have l_4 : w3.heap.size + 0 ≤ w4.heap.size := by have := kp.size; simpa using this
      clear kp pp hnm
      go_wp2_with fail
      refine (leaf_any _ [110, 97, 109, 101] y _ _ _).mono ?_
      rintro e w5 ⟨rfl, hb⟩
      have kk := Kp.of_below (b := c.bp) hb
      have P_5 := Lib.hid (P_4.out.below hb)
      have R_5 := Lib.hid (R_4.out.kp kk (by omega))
      have B_5 := Lib.hid (B_4.out.kp kk (by omega))
      have K_5 := K_4.trans kk
      have l_5 : w4.heap.size + 0 ≤ w5.heap.size := by have := kk.size; simpa using this
      clear kk hb 
      go_wp2_with fail
      refine (step_any c _ _ (P_5.out.alloc _)).mono ?_
      rintro e w6 ⟨rfl, pp, kp⟩
      have P_6 := Lib.hid pp
      have R_6 := Lib.hid ((R_5.out.alloc _).kp kp (by omega))
      have B_6 := Lib.hid ((B_5.out.alloc _).kp kp (by omega))
      have C_6 := Lib.hid (((Blk.new w5 25 #[vs [110, 97, 109, 101], vs y.text, .int .i64 y.pos, .slice none 0 0])).kp kp (by omega))
      have K_6 := (K_5.alloc _).trans kp
      have l_6 : w5.heap.size + 1 ≤ w6.heap.size := by have := kp.size; simpa using this
      clear kp pp 
      go_wp2_with fail
      have GL := Lib.hid B_6.out.drew
      have GC := Lib.hid C_6.out.drew
      have GT := Lib.hid R_6.out.drew
      obtain ⟨ld0, ld1, ld2⟩ := B_6.out.tri
      obtain ⟨lc0, lc1, lc2, lc3⟩ := C_6.out.four
      go_region_with (first
        | (go_at_call 85; refine (HB.out _ _ _ _ P_6.out.drew HM.out).mono ?_; rintro e w7 ⟨ma, ml, mq, rfl, tt, pp, kp⟩; have GL4 := Lib.hid (GL.out.kp kp (by omega)); have GC4 := Lib.hid (GC.out.kp kp (by omega)); have GT4 := Lib.hid (GT.out.kp kp (by omega)); obtain ⟨lq0, lq1, lq2⟩ := GL4.out.tri; obtain ⟨lr0, lr1, lr2, lr3⟩ := GC4.out.four; have lk := GL4.out.lt; have lkc := GC4.out.lt; have PP := Lib.hid pp; have TT := Lib.hid tt; clear pp tt)
        | (go_at_call 42; refine (leaf_any _ _ x _ _ _).mono ?_; rintro e w8 ⟨rfl, hb⟩; have GT5 := Lib.hid ((GT4.out.alloc _).under hb); obtain ⟨gt0, gt1, gt2, gt3⟩ := GT5.out.four; have gf0 := GT5.out.frozen 0; have gf1 := GT5.out.frozen 1; have gf2 := GT5.out.frozen 2; have gf3 := GT5.out.frozen 3))
      all_goals
        have P_7 := Lib.hid PP
        have R_7 := Lib.hid (R_6.out.drew.kp kp (by omega))
        have B_7 := Lib.hid (B_6.out.drew.kp kp (by omega))
        have C_7 := Lib.hid (C_6.out.drew.kp kp (by omega))
        have K_7 := K_6.drew.trans kp
        have l_7 : w6.heap.size + 0 ≤ w7.heap.size := by have := kp.size; simpa using this
        have Tm_7 := TT
        have kk := Kp.of_below (b := c.bp) hb
        have P_8 := Lib.hid ((P_7.out.alloc _).below hb)
        have R_8 := Lib.hid ((R_7.out.alloc _).kp kk (by omega))
        have B_8 := Lib.hid ((B_7.out.alloc _).kp kk (by omega))
        have C_8 := Lib.hid ((C_7.out.alloc _).kp kk (by omega))
        have A_8 := Lib.hid (((Blk.new w7 25 #[vs [110, 97, 109, 101], vs y.text, .int .i64 y.pos, .slice none 0 0, vs m.op, vs m.text, .int .i64 m.pos, .slice ma ml mq])).kp kk (by omega))
        have Tm_8 := Lib.hid ((Tm_7.out.alloc _).kp kk (by first | omega | (simp; omega)))
        have K_8 := (K_7.alloc _).trans kk
        have l_8 : w7.heap.size + 1 ≤ w8.heap.size := by have := kk.size; simpa using this
        clear kp kk hb
        obtain ⟨r0, r1, r2, r3⟩ := R_8.out.four
        have rf0 := R_8.out.frozen 0
        have rf1 := R_8.out.frozen 1
        have rf2 := R_8.out.frozen 2
        have rf3 := R_8.out.frozen 3
        go_wp2_with fail
        exact bodyPost_ret (results_node Tryz.results86 rfl R_8.out.put4) rfl ⟨_, 2, 2, rfl, ((KidsAt.two (n1 := .mk [110, 97, 109, 101] y.text y.pos []) (n2 := m) (S := fun b => w.heap.size < b) A_8.out (by omega) (.nil _ _) (Tm_8.out.mono (fun b hb _ => by first | omega | (simp at hb; omega)))).put4 (by simp)).mono (fun b hb _ => by omega), P_8.out.put4 (by omega), K_8.put4 (Nat.le_refl _)⟩
    | false =>
      rw [if_neg (by simp [hfo])] at hh
      clear HH hfo
      cases hE0 : Pp.optSimple rx c.T E k [59] s with
      | none => rw [hE0] at hh; cases hh
      | some r =>
      obtain ⟨m0, sa⟩ := r
      rw [hE0] at hh
      simp only at hh
      cases hE1 : Pp.optExpr c.T E [59] (Pp.lines c.T (Pp.expect c.T [59] sa)) with
      | none => rw [hE1] at hh; cases hh
      | some r =>
      obtain ⟨m1, sb⟩ := r
      rw [hE1] at hh
      simp only at hh
      cases hE2 : Pp.optSimple rx c.T E k [41] (Pp.lines c.T (Pp.expect c.T [59] sb)) with
      | none => rw [hE2] at hh; cases hh
      | some r =>
      obtain ⟨m2, sc⟩ := r
      rw [hE2] at hh
      simp only at hh
      cases hEb : Pp.body c.T S (Pp.expect c.T [41] sc) with
      | none => rw [hEb] at hh; cases hh
      | some r =>
      obtain ⟨m, s2⟩ := r
      rw [hEb] at hh
      simp only at hh
      simp only [Option.some.injEq, Prod.mk.injEq] at hh
      obtain ⟨rfl, rfl⟩ := hh
      have HM0 := Lib.hid hE0
      have HM1 := Lib.hid hE1
      have HM2 := Lib.hid hE2
      have HM := Lib.hid hEb
      clear hE0 hE1 hE2 hEb
      go_wp2_with fail
      refine (node_any _ [110, 111, 110, 101] _ _ _).mono ?_
      rintro e w2 ⟨rfl, hb⟩
      have kk := Kp.of_below (b := c.bp) hb
      have P_2 := Lib.hid (P_1.out.below hb)
      have R_2 := Lib.hid (R_1.out.kp kk (by omega))
      have K_2 := K_1.trans kk
      have l_2 : wc.heap.size + 0 ≤ w2.heap.size := by have := kk.size; simpa using this
      clear kk hb 
      have hb := P_2.out.blk.lt
      go_wp2_with fail
      refine (node_any _ [110, 111, 110, 101] _ _ _).mono ?_
      rintro e w3 ⟨rfl, hb⟩
      have kk := Kp.of_below (b := c.bp) hb
      have P_3 := Lib.hid (P_2.out.below hb)
      have R_3 := Lib.hid (R_2.out.kp kk (by omega))
      have K_3 := K_2.trans kk
      have l_3 : w2.heap.size + 0 ≤ w3.heap.size := by have := kk.size; simpa using this
      clear kk hb 
      have hb := P_3.out.blk.lt
      go_wp2_with fail
      refine (node_any _ [110, 111, 110, 101] _ _ _).mono ?_
      rintro e w4 ⟨rfl, hb⟩
      have kk := Kp.of_below (b := c.bp) hb
      have P_4 := Lib.hid (P_3.out.below hb)
      have R_4 := Lib.hid (R_3.out.kp kk (by omega))
      have K_4 := K_3.trans kk
      have l_4 : w3.heap.size + 0 ≤ w4.heap.size := by have := kk.size; simpa using this
      clear kk hb 
      have hb := P_4.out.blk.lt
      go_wp2_with fail
      refine (at_new' c _ s (P_4.out.alloc _) 1 [[59]] _ 1 (by simp) rfl _ rfl (by omega) _ rfl).mono ?_
      rintro e w5 ⟨rfl, hb⟩
      have kk := Kp.of_below (b := c.bp) hb
      have P_5 := Lib.hid ((P_4.out.alloc _).below hb)
      have R_5 := Lib.hid ((R_4.out.alloc _).kp kk (by omega))
      have A_5 := Lib.hid (((Blk.new w4 125 #[vs [110, 111, 110, 101], vs [], .int .i64 0, .slice none 0 0, vs [110, 111, 110, 101], vs [], .int .i64 0, .slice none 0 0, vs [110, 111, 110, 101], vs [], .int .i64 0, .slice none 0 0])).kp kk (by omega))
      have K_5 := (K_4.alloc _).trans kk
      have l_5 : w4.heap.size + 1 ≤ w5.heap.size := by have := kk.size; simpa using this
      clear kk hb 
      obtain ⟨v0, hv0⟩ : ∃ v, Pp.at_ c.T [[59]] s = v := ⟨_, rfl⟩
      rw [hv0]
      go_upto_if 67 with fail
      have HV0 := Lib.hid hv0
      clear hv0
      go_cut [] from 64 (fun wx => ∃ (aka : Option Addr) (akl akq : Nat), Blk wx w4.heap.size 125 #[vs m0.op, vs m0.text, .int .i64 m0.pos, .slice aka akl akq, vs [110, 111, 110, 101], vs [], .int .i64 0, .slice none 0 0, vs [110, 111, 110, 101], vs [], .int .i64 0, .slice none 0 0] ∧ Blk wx w.heap.size 25 z4 ∧ PAt c wx sa ∧ Kp c.bp w wx ∧ KidsAt wx (fun b => w.heap.size < b ∧ b ≠ w4.heap.size) (.slice aka akl akq) m0.kids)
      case first =>
        have hm := HM0.out
        unfold Pp.optSimple at hm
        rw [HV0.out] at hm
        cases v0 with
        | true =>
          simp only [if_true, Option.some.injEq, Prod.mk.injEq] at hm
          obtain ⟨rfl, rfl⟩ := hm
          go_wp2_with fail
          go_meet
          case rel => exact ⟨ none, 0, 0, A_5.out, R_5.out, P_5.out, K_5, .nil _ _⟩
        | false =>
          simp only [Bool.false_eq_true, if_false] at hm
          have HN := Lib.hid hm
          clear hm
          go_wp2_with fail
          refine (HS.out _ _ _ _ P_5.out HN.out).mono ?_
          rintro e w6 ⟨ma, ml, mq, rfl, tt, pp, kp⟩
          have P_6 := Lib.hid pp
          have R_6 := Lib.hid (R_5.out.kp kp (by omega))
          have A_6 := Lib.hid (A_5.out.kp kp (by omega))
          have K_6 := K_5.trans kp
          have l_6 : w5.heap.size + 0 ≤ w6.heap.size := by have := kp.size; simpa using this
          clear kp pp 
          have Tm_6 := Lib.hid tt
          clear tt
          have af0 := A_6.out.frozen 0
          have af1 := A_6.out.frozen 1
          have af2 := A_6.out.frozen 2
          have af3 := A_6.out.frozen 3
          obtain ⟨⟨e0, e1, e2, e3⟩, ⟨e4, e5, e6, e7⟩, e8, e9, e10, e11⟩ := A_6.out.twelve
          go_wp2_with fail
          go_meet
          case rel =>
            refine ⟨ ma, ml, mq, ?_, R_6.out.faro (by omega), P_6.out.puto (by omega), K_6.puto (by omega), (Tm_6.out.puto (by first | omega | (simp; omega))).mono (fun b hb _ => by first | omega | (simp at hb; omega))⟩
            have := (((A_6.out.set_ 0 (vs m0.op)).set_ 1 (vs m0.text)).set_ 2 (.int .i64 m0.pos)).set_ 3 (.slice ma ml mq)
            simpa using this
      case rest =>
        clear R_5 A_5 P_5 K_5 hb
        obtain ⟨wd0, rfl⟩ : ∃ v, v = wc := ⟨_, rfl⟩
        obtain ⟨aka, akl, akq, ba, bR, pp, K_15, ta⟩ := hcut
        have P_15 := Lib.hid pp
        have A_15 := Lib.hid ba
        have R_15 := Lib.hid bR
        have Ta_15 := Lib.hid ta
        have hb := pp.blk.lt
        have lA0 := ba.lt
        have lw0 := K_15.size
        clear pp ba bR ta
        go_wp2_with fail
        refine (expect_any c _ _ P_15.out [59]).mono ?_
        rintro e w16 ⟨rfl, pp, kp⟩
        have P_16 := Lib.hid pp
        have A_16 := Lib.hid (A_15.out.kp kp (by omega))
        have R_16 := Lib.hid (R_15.out.kp kp (by omega))
        have Ta_16 := Lib.hid (Ta_15.out.kp kp (by first | omega | (simp; omega)))
        have K_16 := K_15.trans kp
        have l_16 : wd0.heap.size + 0 ≤ w16.heap.size := by have := kp.size; simpa using this
        clear kp pp 
        go_wp2_with fail
        refine (lines_any c _ _ P_16.out).mono ?_
        rintro e w17 ⟨rfl, pp, kp⟩
        have P_17 := Lib.hid pp
        have A_17 := Lib.hid (A_16.out.kp kp (by omega))
        have R_17 := Lib.hid (R_16.out.kp kp (by omega))
        have Ta_17 := Lib.hid (Ta_16.out.kp kp (by first | omega | (simp; omega)))
        have K_17 := K_16.trans kp
        have l_17 : w16.heap.size + 0 ≤ w17.heap.size := by have := kp.size; simpa using this
        clear kp pp 
        go_wp2_with fail
        refine (at_new' c _ (Pp.lines c.T (Pp.expect c.T [59] sa)) P_17.out 1 [[59]] _ 1 (by simp) rfl _ rfl (by omega) _ rfl).mono ?_
        rintro e w18 ⟨rfl, hb⟩
        have kk := Kp.of_below (b := c.bp) hb
        have P_18 := Lib.hid (P_17.out.below hb)
        have A_18 := Lib.hid (A_17.out.kp kk (by omega))
        have R_18 := Lib.hid (R_17.out.kp kk (by omega))
        have Ta_18 := Lib.hid (Ta_17.out.kp kk (by first | omega | (simp; omega)))
        have K_18 := K_17.trans kk
        have l_18 : w17.heap.size + 0 ≤ w18.heap.size := by have := kk.size; simpa using this
        clear kk hb 
        obtain ⟨v1, hv1⟩ : ∃ v, Pp.at_ c.T [[59]] (Pp.lines c.T (Pp.expect c.T [59] sa)) = v := ⟨_, rfl⟩
        rw [hv1]
        go_upto_if 78 with fail
        have HV1 := Lib.hid hv1
        clear hv1
        go_cut [] from 71 (fun wx => ∃ (aka : Option Addr) (akl akq : Nat) (bka : Option Addr) (bkl bkq : Nat), Blk wx w4.heap.size 125 #[vs m0.op, vs m0.text, .int .i64 m0.pos, .slice aka akl akq, vs m1.op, vs m1.text, .int .i64 m1.pos, .slice bka bkl bkq, vs [110, 111, 110, 101], vs [], .int .i64 0, .slice none 0 0] ∧ Blk wx w.heap.size 25 z4 ∧ PAt c wx sb ∧ Kp c.bp w wx ∧ KidsAt wx (fun b => w.heap.size < b ∧ b ≠ w4.heap.size) (.slice aka akl akq) m0.kids ∧ KidsAt wx (fun b => w.heap.size < b ∧ b ≠ w4.heap.size) (.slice bka bkl bkq) m1.kids)
        case first =>
          have hm := HM1.out
          unfold Pp.optExpr at hm
          rw [HV1.out] at hm
          cases v1 with
          | true =>
            simp only [if_true, Option.some.injEq, Prod.mk.injEq] at hm
            obtain ⟨rfl, rfl⟩ := hm
            go_wp2_with fail
            go_meet
            case rel => exact ⟨aka, akl, akq, none, 0, 0, A_18.out, R_18.out, P_18.out, K_18, Ta_18.out, .nil _ _⟩
          | false =>
            simp only [Bool.false_eq_true, if_false] at hm
            have HN := Lib.hid hm
            clear hm
            go_wp2_with fail
            refine (HE.out _ _ _ _ P_18.out HN.out).mono ?_
            rintro e w19 ⟨ma, ml, mq, rfl, tt, pp, kp⟩
            have P_19 := Lib.hid pp
            have A_19 := Lib.hid (A_18.out.kp kp (by omega))
            have R_19 := Lib.hid (R_18.out.kp kp (by omega))
            have Ta_19 := Lib.hid (Ta_18.out.kp kp (by first | omega | (simp; omega)))
            have K_19 := K_18.trans kp
            have l_19 : w18.heap.size + 0 ≤ w19.heap.size := by have := kp.size; simpa using this
            clear kp pp 
            have Tm_19 := Lib.hid tt
            clear tt
            have af0 := A_19.out.frozen 4
            have af1 := A_19.out.frozen 5
            have af2 := A_19.out.frozen 6
            have af3 := A_19.out.frozen 7
            obtain ⟨⟨e0, e1, e2, e3⟩, ⟨e4, e5, e6, e7⟩, e8, e9, e10, e11⟩ := A_19.out.twelve
            go_wp2_with fail
            go_meet
            case rel =>
              refine ⟨aka, akl, akq, ma, ml, mq, ?_, R_19.out.faro (by omega), P_19.out.puto (by omega), K_19.puto (by omega), Ta_19.out.puto (by simp), (Tm_19.out.puto (by first | omega | (simp; omega))).mono (fun b hb _ => by first | omega | (simp at hb; omega))⟩
              have := (((A_19.out.set_ 4 (vs m1.op)).set_ 5 (vs m1.text)).set_ 6 (.int .i64 m1.pos)).set_ 7 (.slice ma ml mq)
              simpa using this
        case rest =>
          clear A_18 R_18 Ta_18 P_18 K_18 hb
          obtain ⟨wd1, rfl⟩ : ∃ v, v = wc := ⟨_, rfl⟩
          obtain ⟨aka, akl, akq, bka, bkl, bkq, ba, bR, pp, K_28, ta, tb⟩ := hcut
          have P_28 := Lib.hid pp
          have A_28 := Lib.hid ba
          have R_28 := Lib.hid bR
          have Ta_28 := Lib.hid ta
          have Tb_28 := Lib.hid tb
          have hb := pp.blk.lt
          have lA1 := ba.lt
          have lw1 := K_28.size
          clear pp ba bR ta tb
          go_wp2_with fail
          refine (expect_any c _ _ P_28.out [59]).mono ?_
          rintro e w29 ⟨rfl, pp, kp⟩
          have P_29 := Lib.hid pp
          have A_29 := Lib.hid (A_28.out.kp kp (by omega))
          have R_29 := Lib.hid (R_28.out.kp kp (by omega))
          have Ta_29 := Lib.hid (Ta_28.out.kp kp (by first | omega | (simp; omega)))
          have Tb_29 := Lib.hid (Tb_28.out.kp kp (by first | omega | (simp; omega)))
          have K_29 := K_28.trans kp
          have l_29 : wd1.heap.size + 0 ≤ w29.heap.size := by have := kp.size; simpa using this
          clear kp pp 
          go_wp2_with fail
          refine (lines_any c _ _ P_29.out).mono ?_
          rintro e w30 ⟨rfl, pp, kp⟩
          have P_30 := Lib.hid pp
          have A_30 := Lib.hid (A_29.out.kp kp (by omega))
          have R_30 := Lib.hid (R_29.out.kp kp (by omega))
          have Ta_30 := Lib.hid (Ta_29.out.kp kp (by first | omega | (simp; omega)))
          have Tb_30 := Lib.hid (Tb_29.out.kp kp (by first | omega | (simp; omega)))
          have K_30 := K_29.trans kp
          have l_30 : w29.heap.size + 0 ≤ w30.heap.size := by have := kp.size; simpa using this
          clear kp pp 
          go_wp2_with fail
          refine (at_new' c _ (Pp.lines c.T (Pp.expect c.T [59] sb)) P_30.out 1 [[41]] _ 1 (by simp) rfl _ rfl (by omega) _ rfl).mono ?_
          rintro e w31 ⟨rfl, hb⟩
          have kk := Kp.of_below (b := c.bp) hb
          have P_31 := Lib.hid (P_30.out.below hb)
          have A_31 := Lib.hid (A_30.out.kp kk (by omega))
          have R_31 := Lib.hid (R_30.out.kp kk (by omega))
          have Ta_31 := Lib.hid (Ta_30.out.kp kk (by first | omega | (simp; omega)))
          have Tb_31 := Lib.hid (Tb_30.out.kp kk (by first | omega | (simp; omega)))
          have K_31 := K_30.trans kk
          have l_31 : w30.heap.size + 0 ≤ w31.heap.size := by have := kk.size; simpa using this
          clear kk hb 
          obtain ⟨v2, hv2⟩ : ∃ v, Pp.at_ c.T [[41]] (Pp.lines c.T (Pp.expect c.T [59] sb)) = v := ⟨_, rfl⟩
          rw [hv2]
          go_upto_if 89 with fail
          have HV2 := Lib.hid hv2
          clear hv2
          go_cut [] from 82 (fun wx => ∃ (aka : Option Addr) (akl akq : Nat) (bka : Option Addr) (bkl bkq : Nat) (cka : Option Addr) (ckl ckq : Nat), Blk wx w4.heap.size 125 #[vs m0.op, vs m0.text, .int .i64 m0.pos, .slice aka akl akq, vs m1.op, vs m1.text, .int .i64 m1.pos, .slice bka bkl bkq, vs m2.op, vs m2.text, .int .i64 m2.pos, .slice cka ckl ckq] ∧ Blk wx w.heap.size 25 z4 ∧ PAt c wx sc ∧ Kp c.bp w wx ∧ KidsAt wx (fun b => w.heap.size < b ∧ b ≠ w4.heap.size) (.slice aka akl akq) m0.kids ∧ KidsAt wx (fun b => w.heap.size < b ∧ b ≠ w4.heap.size) (.slice bka bkl bkq) m1.kids ∧ KidsAt wx (fun b => w.heap.size < b ∧ b ≠ w4.heap.size) (.slice cka ckl ckq) m2.kids)
          case first =>
            have hm := HM2.out
            unfold Pp.optSimple at hm
            rw [HV2.out] at hm
            cases v2 with
            | true =>
              simp only [if_true, Option.some.injEq, Prod.mk.injEq] at hm
              obtain ⟨rfl, rfl⟩ := hm
              go_wp2_with fail
              go_meet
              case rel => exact ⟨aka, akl, akq, bka, bkl, bkq, none, 0, 0, A_31.out, R_31.out, P_31.out, K_31, Ta_31.out, Tb_31.out, .nil _ _⟩
            | false =>
              simp only [Bool.false_eq_true, if_false] at hm
              have HN := Lib.hid hm
              clear hm
              go_wp2_with fail
              refine (HS.out _ _ _ _ P_31.out HN.out).mono ?_
              rintro e w32 ⟨ma, ml, mq, rfl, tt, pp, kp⟩
              have P_32 := Lib.hid pp
              have A_32 := Lib.hid (A_31.out.kp kp (by omega))
              have R_32 := Lib.hid (R_31.out.kp kp (by omega))
              have Ta_32 := Lib.hid (Ta_31.out.kp kp (by first | omega | (simp; omega)))
              have Tb_32 := Lib.hid (Tb_31.out.kp kp (by first | omega | (simp; omega)))
              have K_32 := K_31.trans kp
              have l_32 : w31.heap.size + 0 ≤ w32.heap.size := by have := kp.size; simpa using this
              clear kp pp 
              have Tm_32 := Lib.hid tt
              clear tt
              have af0 := A_32.out.frozen 8
              have af1 := A_32.out.frozen 9
              have af2 := A_32.out.frozen 10
              have af3 := A_32.out.frozen 11
              obtain ⟨⟨e0, e1, e2, e3⟩, ⟨e4, e5, e6, e7⟩, e8, e9, e10, e11⟩ := A_32.out.twelve
              go_wp2_with fail
              go_meet
              case rel =>
                refine ⟨aka, akl, akq, bka, bkl, bkq, ma, ml, mq, ?_, R_32.out.faro (by omega), P_32.out.puto (by omega), K_32.puto (by omega), Ta_32.out.puto (by simp), Tb_32.out.puto (by simp), (Tm_32.out.puto (by first | omega | (simp; omega))).mono (fun b hb _ => by first | omega | (simp at hb; omega))⟩
                have := (((A_32.out.set_ 8 (vs m2.op)).set_ 9 (vs m2.text)).set_ 10 (.int .i64 m2.pos)).set_ 11 (.slice ma ml mq)
                simpa using this
          case rest =>
            clear A_31 R_31 Ta_31 Tb_31 P_31 K_31 hb
            obtain ⟨wd2, rfl⟩ : ∃ v, v = wc := ⟨_, rfl⟩
            obtain ⟨aka, akl, akq, bka, bkl, bkq, cka, ckl, ckq, ba, bR, pp, K_41, ta, tb, tc⟩ := hcut
            have P_41 := Lib.hid pp
            have A_41 := Lib.hid ba
            have R_41 := Lib.hid bR
            have Ta_41 := Lib.hid ta
            have Tb_41 := Lib.hid tb
            have Tc_41 := Lib.hid tc
            have hb := pp.blk.lt
            have lA2 := ba.lt
            have lw2 := K_41.size
            clear pp ba bR ta tb tc
            go_wp2_with fail
            refine (expect_any c _ _ P_41.out [41]).mono ?_
            rintro e w42 ⟨rfl, pp, kp⟩
            have P_42 := Lib.hid pp
            have A_42 := Lib.hid (A_41.out.kp kp (by omega))
            have R_42 := Lib.hid (R_41.out.kp kp (by omega))
            have Ta_42 := Lib.hid (Ta_41.out.kp kp (by first | omega | (simp; omega)))
            have Tb_42 := Lib.hid (Tb_41.out.kp kp (by first | omega | (simp; omega)))
            have Tc_42 := Lib.hid (Tc_41.out.kp kp (by first | omega | (simp; omega)))
            have K_42 := K_41.trans kp
            have l_42 : wd2.heap.size + 0 ≤ w42.heap.size := by have := kp.size; simpa using this
            clear kp pp 
            go_wp2_with fail
            have GA := Lib.hid A_42.out.drew
            have GT := Lib.hid R_42.out.drew
            obtain ⟨⟨e0, e1, e2, e3⟩, ⟨e4, e5, e6, e7⟩, e8, e9, e10, e11⟩ := A_42.out.twelve
            go_region_with (first
              | (go_at_call 85; refine (HB.out _ _ _ _ P_42.out.drew HM.out).mono ?_; rintro e w43 ⟨ma, ml, mq, rfl, tt, pp, kp⟩; have GA4 := Lib.hid (GA.out.kp kp (by omega)); have GT4 := Lib.hid (GT.out.kp kp (by omega)); obtain ⟨⟨f0, f1, f2, f3⟩, ⟨f4, f5, f6, f7⟩, f8, f9, f10, f11⟩ := GA4.out.twelve; have lk := GA4.out.lt; have PP := Lib.hid pp; have TT := Lib.hid tt; clear pp tt)
              | (go_at_call 25; refine (node_any _ _ _ _ _).mono ?_; rintro e w44 ⟨rfl, hb⟩; have GT5 := Lib.hid ((GT4.out.alloc _).under hb); obtain ⟨gt0, gt1, gt2, gt3⟩ := GT5.out.four; have gf0 := GT5.out.frozen 0; have gf1 := GT5.out.frozen 1; have gf2 := GT5.out.frozen 2; have gf3 := GT5.out.frozen 3))
            all_goals
              have P_43 := Lib.hid PP
              have A_43 := Lib.hid (A_42.out.drew.kp kp (by omega))
              have R_43 := Lib.hid (R_42.out.drew.kp kp (by omega))
              have Ta_43 := Lib.hid (Ta_42.out.drew.kp kp (by first | omega | (simp; omega)))
              have Tb_43 := Lib.hid (Tb_42.out.drew.kp kp (by first | omega | (simp; omega)))
              have Tc_43 := Lib.hid (Tc_42.out.drew.kp kp (by first | omega | (simp; omega)))
              have K_43 := K_42.drew.trans kp
              have l_43 : w42.heap.size + 0 ≤ w43.heap.size := by have := kp.size; simpa using this
              have Tm_43 := TT
              have kk := Kp.of_below (b := c.bp) hb
              have P_44 := Lib.hid ((P_43.out.alloc _).below hb)
              have R_44 := Lib.hid ((R_43.out.alloc _).kp kk (by omega))
              have D_44 := Lib.hid (((Blk.new w43 25 #[vs m0.op, vs m0.text, .int .i64 m0.pos, .slice aka akl akq, vs m1.op, vs m1.text, .int .i64 m1.pos, .slice bka bkl bkq, vs m2.op, vs m2.text, .int .i64 m2.pos, .slice cka ckl ckq, vs m.op, vs m.text, .int .i64 m.pos, .slice ma ml mq])).kp kk (by omega))
              have Ta_44 := Lib.hid ((Ta_43.out.alloc _).kp kk (by first | omega | (simp; omega)))
              have Tb_44 := Lib.hid ((Tb_43.out.alloc _).kp kk (by first | omega | (simp; omega)))
              have Tc_44 := Lib.hid ((Tc_43.out.alloc _).kp kk (by first | omega | (simp; omega)))
              have Tm_44 := Lib.hid ((Tm_43.out.alloc _).kp kk (by first | omega | (simp; omega)))
              have K_44 := (K_43.alloc _).trans kk
              have l_44 : w43.heap.size + 1 ≤ w44.heap.size := by have := kk.size; simpa using this
              clear kp kk hb
              obtain ⟨r0, r1, r2, r3⟩ := R_44.out.four
              have rf0 := R_44.out.frozen 0
              have rf1 := R_44.out.frozen 1
              have rf2 := R_44.out.frozen 2
              have rf3 := R_44.out.frozen 3
              go_wp2_with fail
              exact bodyPost_ret (results_node Tryz.results86 rfl R_44.out.put4) rfl ⟨_, 4, 4, rfl, ((KidsAt.four (n1 := m0) (n2 := m1) (n3 := m2) (n4 := m) (S := fun b => w.heap.size < b) D_44.out (by omega) (Ta_44.out.mono (fun b hb _ => hb.1)) (Tb_44.out.mono (fun b hb _ => hb.1)) (Tc_44.out.mono (fun b hb _ => hb.1)) (Tm_44.out.mono (fun b hb _ => by first | omega | (simp at hb; omega)))).put4 (by simp)).mono (fun b hb _ => by omega), P_44.out.put4 (by omega), K_44.put4 (Nat.le_refl _)⟩

end Go.Proofs.YtgnmfaeonijogaaGreatDoor
