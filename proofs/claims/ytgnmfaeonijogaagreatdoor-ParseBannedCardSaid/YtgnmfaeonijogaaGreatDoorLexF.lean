/- The lexer, walked: what stands between two like signs. -/
import Derived.Test.YtgnmfaeonijogaaGreatDoorLexE
namespace Go.Proofs.YtgnmfaeonijogaaGreatDoor
open Go.RowKit

theorem BAt.alloc {w : World} {B b : Nat} {l : Pp.Bytes} (h : BAt w B b l) (o : Obj) : BAt (w.alloc o) B b l := h.below ((Below.refl _ _).alloc (Nat.le_refl _) o)
theorem BAt.set {w : World} {B b : Nat} {l : Pp.Bytes} (h : BAt w B b l) {p : Addr} (hp : p.block < B) (u : Value) : BAt (w.setCell p u) B b l := h.kp (g := p.block) ((Kp.refl _ _).setCell (.inl rfl) u) hp
theorem BAt.drewN {w : World} {B b : Nat} {l : Pp.Bytes} (h : BAt w B b l) (n : Nat) : BAt (w.drewN n) B b l := h.below (bl_drewN0 n)

set_option maxRecDepth 100000 in
set_option maxHeartbeats 16000000 in
theorem quoted_any (c : LC) (F : FuncId) (ef : ∀ args w, (callFunc F args).run Tryz.prog w = .ok (.enter F args) w) (how : UInt8 → Option Pp.Bytes) (hF : Escs F how) (kind : Int) (fin : UInt8)
    (hi : Nat) (w : World) (v : Value) (i : Nat) (out : List Pp.Tok) (h : LAt c hi w v i out) (hil : i < c.S.length) (hn : out.length < 100000) :
    Calls Tryz.prog 63 #[.pointer (some ⟨c.bp, 0, none⟩), .int .i64 kind, bv fin, .func (.func F) #[] #[]] w (NextPost c w out i (Lx.quoted kind fin how c.S out i)) := by
  have c1 := h.c1
  have z1 := h.fz 1
  have hb := h.blk.lt
  have hl := h.len
  have H := Lib.hid h
  have HF := Lib.hid hF
  have hw : IntKind.i64.wrap ((i : Int) + 1) = (i : Int) + 1 := IntWalk.i64_in _ (by omega)
  have h1 : LAt c w.heap.size ((w.setCell ⟨c.bp, 1, none⟩ (.int .i64 ((i : Int) + 1))).alloc (.cells #[.pointer none, .slice none 0 0] 100)) v (i + 1) out := by
    have := (h.now.set (i + 1) (by omega)).alloc (.cells #[.pointer none, .slice none 0 0] 100)
    simpa using this
  have hB1 : BAt ((w.setCell ⟨c.bp, 1, none⟩ (.int .i64 ((i : Int) + 1))).alloc (.cells #[.pointer none, .slice none 0 0] 100)) w.heap.size w.heap.size [] := by
    have := BAt.new (w.setCell ⟨c.bp, 1, none⟩ (.int .i64 ((i : Int) + 1)))
    simpa [World.setCell] using this
  have H1 := Lib.hid h1
  have B1 := Lib.hid hB1
  clear h hF h1 hB1
  go_enter Tryz.func63, Tryz.ntmps63
  go_wp2_with fail
  go_loopg [] (c.S.length + 1) (fun g wr => ∃ (j : Nat) (buf : Pp.Bytes), LAt c w.heap.size wr v j out ∧ BAt wr w.heap.size w.heap.size buf ∧ i < j ∧ j ≤ c.S.length ∧ buf.length ≤ 2 * j ∧ Below c.bp w wr ∧ c.S.length + 1 < j + g ∧
    Hid (Lx.quotedF kind fin how c.S out i g buf j = Lx.quoted kind fin how c.S out i))
  case atStart => exact ⟨i + 1, [], H1.out, B1.out, by omega, by omega, by simp, bl_alloc' (bl_set1 (Below.refl _ _) (Nat.le_refl _)) (by simp [World.setCell]; omega) _, by omega, rfl⟩
  case round =>
    clear H1 B1 H c1 z1 hw
    obtain ⟨j, buf, h1, b1, hij, hjl, hbuf, hbel, hg, hq⟩ := hrel
    obtain ⟨gk', rfl⟩ : ∃ g', gk = g' + 1 := ⟨gk - 1, by omega⟩
    have hq := hq.out
    unfold Lx.quotedF at hq
    have lw := b1.2
    have H1 := Lib.hid h1
    have B1 := Lib.hid b1
    have HB := Lib.hid hbel
    clear h1 b1 hbel
    go_wp2_with fail
    refine (peek_any c _ wr v j out H1.out 0 (by omega)).mono ?_
    rintro e w2 ⟨rfl, hb2⟩
    simp only [Nat.add_zero]
    have h2 := H1.out.below hb2 (by omega)
    have c0 := h2.c0
    have c1 := h2.c1
    have z1 := h2.fz 1
    have lw2 : wr.heap.size ≤ w2.heap.size := hb2.size
    have H2 := Lib.hid h2
    have B2 := Lib.hid (B1.out.below hb2)
    have HB2 := Lib.hid (HB.out.trans (hb2.mono (by have := H1.out.blk.lt; omega)))
    have lb := h2.blk.lt
    clear h2 hb2
    have hpk : ∀ b, (Lx.peek c.S j = b) → Lx.peek c.S j = b := fun _ h => h
    clear hpk
    have hpl : c.S.length ≤ j → Lx.peek c.S j = 0 := fun hge => by simp [Lx.peek, List.getElem?_eq_none hge]
    by_cases hge : c.S.length ≤ j
    · have kge : decide (((c.S.length : Nat) : Int) ≤ (j : Int)) = true := by simpa using hge
      rw [if_pos (.inl hge)] at hq
      have HQ := Lib.hid hq
      have k0 : Lx.peek c.S j = 0 := hpl hge
      rw [k0]
      clear hq hpl k0
      go_wp2_with fail
      go_quiet (fail)
      have F2 := Lib.hid ((H2.out.drewN nq).set i (by omega))
      have Q2 := bl_drewN HB2.out nq
      go_wp2_with fail
      go_ret
      refine ⟨bl_set1 Q2 (Nat.le_refl _), ?_⟩
      rw [← HQ.out]
      exact ⟨rfl, ⟨v, F2.out.now⟩, by omega⟩
    have kge : decide (((c.S.length : Nat) : Int) ≤ (j : Int)) = false := by simpa using hge
    clear hpl
    have HQ0 := Lib.hid hq
    clear hq
    obtain ⟨pk, hpk⟩ : ∃ b, Lx.peek c.S j = b := ⟨_, rfl⟩
    have hq := HQ0.out
    rw [hpk] at hq ⊢
    have HPK := Lib.hid hpk
    clear hpk HQ0
    by_cases h10 : pk = 10
    · have k10 : ((pk.toNat : Int) == 10) = true := by rw [h10]; rfl
      rw [if_pos (.inr h10)] at hq
      have HQ := Lib.hid hq
      clear hq h10
      go_wp2_with fail
      go_quiet (fail)
      have F2 := Lib.hid ((H2.out.drewN nq).set i (by omega))
      have Q2 := bl_drewN HB2.out nq
      go_wp2_with fail
      go_ret
      refine ⟨bl_set1 Q2 (Nat.le_refl _), ?_⟩
      rw [← HQ.out]
      exact ⟨rfl, ⟨v, F2.out.now⟩, by omega⟩
    have k10 := u8_ne (k := 10) (by omega) h10
    rw [if_neg (by rintro (h | h) <;> contradiction)] at hq
    clear h10
    by_cases hf : pk = fin
    · have kf : ((pk.toNat : Int) == (fin.toNat : Int)) = true := by rw [hf]; simp
      rw [if_pos hf] at hq
      have HQ := Lib.hid hq
      clear hq hf
      go_wp2_with fail
      go_quiet (fail)
      obtain ⟨wq, hwq⟩ : ∃ W, W = w2.drewN nq := ⟨_, rfl⟩
      rw [← hwq]
      have hq1 : LAt c w.heap.size wq v j out := hwq ▸ H2.out.drewN nq
      have bq1 : BAt wq w.heap.size w.heap.size buf := hwq ▸ B2.out.drewN nq
      have lq : Below c.bp w wq := hwq ▸ bl_drewN HB2.out nq
      have e1 := hq1.c1
      have f1 := hq1.fz 1
      have F1 := Lib.hid (hq1.set (j + 1) (by omega))
      have G1 := Lib.hid (bq1.set (p := ⟨c.bp, 1, none⟩) hb (.int .i64 ((j + 1 : Nat) : Int)))
      have L1 := Lib.hid (bl_set1 (k := 1) (u := .int .i64 ((j + 1 : Nat) : Int)) lq (Nat.le_refl c.bp))
      clear hwq hq1 bq1 lq c0 c1 z1
      simp only [Int.natCast_add, Int.cast_ofNat_Int] at F1 G1 L1
      go_wp2_with fail
      refine (bread _ _ _ _ G1.out).mono ?_
      rintro e w5 ⟨rfl, hb5⟩
      have F5 := Lib.hid (F1.out.below hb5 (Nat.le_refl _))
      have L5 := Lib.hid (L1.out.trans (hb5.mono (by omega)))
      clear hb5
      go_wp2_with fail
      refine (put_any c _ _ v (j + 1) out F5.out kind buf i hn).mono ?_
      rintro e w9 ⟨rfl, ⟨v', h9⟩, hb9⟩
      go_wp2_with fail
      go_ret
      refine ⟨L5.out.trans hb9, ?_⟩
      rw [← HQ.out]
      exact ⟨rfl, ⟨v', h9⟩, by omega, by omega, by simp⟩
    have kf : ((pk.toNat : Int) == (fin.toNat : Int)) = false := by simpa using fun h => hf (UInt8.toNat_inj.1 (by omega))
    rw [if_neg hf] at hq
    clear hf
    by_cases h92 : pk = 92
    · have k92 : ((pk.toNat : Int) == 92) = true := by rw [h92]; rfl
      rw [if_pos h92] at hq
      have HQ0 := Lib.hid hq
      clear hq h92
      go_wp2_with fail
      go_quiet (fail)
      obtain ⟨wq, hwq⟩ : ∃ W, W = w2.drewN nq := ⟨_, rfl⟩
      rw [← hwq]
      have hq1 : LAt c w.heap.size wq v j out := hwq ▸ H2.out.drewN nq
      have bq1 : BAt wq w.heap.size w.heap.size buf := hwq ▸ B2.out.drewN nq
      have lq : Below c.bp w wq := hwq ▸ bl_drewN HB2.out nq
      have F1 := Lib.hid hq1
      have G1 := Lib.hid bq1
      have L1 := Lib.hid lq
      have lwq := bq1.2
      have lbq := hq1.blk.lt
      clear hwq hq1 bq1 lq c0 c1 z1
      go_wp2_with fail
      refine (peek_any c _ wq v j out F1.out 1 (by omega)).mono ?_
      rintro e w3 ⟨rfl, hb3⟩
      have F3 := Lib.hid (F1.out.below hb3 (by omega))
      have G3 := Lib.hid (G1.out.below hb3)
      have L3 := Lib.hid (L1.out.trans (hb3.mono (by omega)))
      have lw3 : wq.heap.size ≤ w3.heap.size := hb3.size
      clear hb3
      go_wp2_with fail
      refine (HF.out _ _).mono ?_
      rintro e w4 ⟨tt, ok, rfl, hhow, htl, hb4⟩
      have h4 := F3.out.below hb4 (by omega)
      have e0 := h4.c0
      have e1 := h4.c1
      have f1 := h4.fz 1
      have F4 := Lib.hid h4
      have G4 := Lib.hid (G3.out.below hb4)
      have L4 := Lib.hid (L3.out.trans (hb4.mono (by omega)))
      clear h4 hb4
      have hq := HQ0.out
      rw [hhow] at hq
      clear hhow
      cases ok with
      | false =>
        have HQ := Lib.hid hq
        clear hq
        go_wp2_with fail
        go_quiet (fail)
        have L5 := bl_drewN L4.out nq
        have F5 := Lib.hid (F4.out.drewN nq)
        go_wp2_with fail
        go_ret
        refine ⟨L5, ?_⟩
        rw [← HQ.out]
        exact ⟨rfl, ⟨v, F5.out.now⟩, by omega⟩
      | true =>
        simp only [if_true] at hq
        by_cases hge2 : c.S.length ≤ j + 1
        · have kg2 : decide (((c.S.length : Nat) : Int) ≤ (j : Int) + 1) = true := by simp; omega
          have hw2 : IntKind.i64.wrap ((j : Int) + 1) = (j : Int) + 1 := IntWalk.i64_in _ (by omega)
          rw [if_pos hge2] at hq
          have HQ := Lib.hid hq
          clear hq
          go_wp2_with fail
          go_quiet (fail)
          have L5 := bl_drewN L4.out nq
          have F5 := Lib.hid (F4.out.drewN nq)
          go_wp2_with fail
          go_ret
          refine ⟨L5, ?_⟩
          rw [← HQ.out]
          exact ⟨rfl, ⟨v, F5.out.now⟩, by omega⟩
        · have kg2 : decide (((c.S.length : Nat) : Int) ≤ (j : Int) + 1) = false := by simp; omega
          have hw2 : IntKind.i64.wrap ((j : Int) + 1) = (j : Int) + 1 := IntWalk.i64_in _ (by omega)
          rw [if_neg hge2] at hq
          have HQ := Lib.hid hq
          clear hq
          go_wp2_with fail
          go_quiet (fail)
          obtain ⟨wx, hwx⟩ : ∃ W, W = w4.drewN nq := ⟨_, rfl⟩
          rw [← hwx]
          have hq5 : LAt c w.heap.size wx v j out := hwx ▸ F4.out.drewN nq
          have bq5 : BAt wx w.heap.size w.heap.size buf := hwx ▸ G4.out.drewN nq
          have lq5 : Below c.bp w wx := hwx ▸ bl_drewN L4.out nq
          have g1 := hq5.c1
          have i1 := hq5.fz 1
          have F5 := Lib.hid (hq5.set (j + 1) (by omega))
          have G5 := Lib.hid (bq5.set (p := ⟨c.bp, 1, none⟩) hb (.int .i64 ((j + 1 : Nat) : Int)))
          have L5 := Lib.hid (bl_set1 (k := 1) (u := .int .i64 ((j + 1 : Nat) : Int)) lq5 (Nat.le_refl c.bp))
          clear hwx hq5 bq5 lq5 e0 e1 f1 hw2
          simp only [Int.natCast_add, Int.cast_ofNat_Int] at F5 G5 L5
          go_wp2_with fail
          refine (swrite _ _ buf tt _ G5.out (by omega)).mono ?_
          rintro e w6 ⟨rfl, hb6, hk6⟩
          have h6 := F5.out.below hk6 (Nat.le_refl _)
          have m1 := h6.c1
          have n1 := h6.fz 1
          have F6 := Lib.hid (h6.set (j + 2) (by omega))
          have G6 := Lib.hid (hb6.set (p := ⟨c.bp, 1, none⟩) hb (.int .i64 ((j : Int) + 1 + 1)))
          have L6 := Lib.hid (bl_set1 (k := 1) (u := .int .i64 ((j : Int) + 1 + 1)) (L5.out.trans (hk6.mono (by omega))) (Nat.le_refl c.bp))
          clear h6 hb6 hk6
          go_wp2_with fail
          go_roundg gk'
          case measure => omega
          case rel => exact ⟨j + 2, buf ++ tt, by simpa [Int.add_assoc] using F6.out, by simpa [Int.add_assoc] using G6.out, by omega, by omega, by simp; omega, by simpa [Int.add_assoc] using L6.out, by omega, HQ.out⟩
    have k92 := u8_ne (k := 92) (by omega) h92
    rw [if_neg h92] at hq
    have HQ := Lib.hid hq
    clear hq h92
    go_wp2_with fail
    go_quiet (fail)
    obtain ⟨wq, hwq⟩ : ∃ W, W = w2.drewN nq := ⟨_, rfl⟩
    rw [← hwq]
    have hq1 : LAt c w.heap.size wq v j out := hwq ▸ H2.out.drewN nq
    have bq1 : BAt wq w.heap.size w.heap.size buf := hwq ▸ B2.out.drewN nq
    have lq : Below c.bp w wq := hwq ▸ bl_drewN HB2.out nq
    have F1 := Lib.hid hq1
    have G1 := Lib.hid bq1
    have L1 := Lib.hid lq
    clear hwq hq1 bq1 lq c0 c1 z1
    go_wp2_with fail
    refine (bwrite _ _ buf pk _ G1.out (by omega)).mono ?_
    rintro e w6 ⟨rfl, hb6, hk6⟩
    have h6 := F1.out.below hk6 (Nat.le_refl _)
    have m1 := h6.c1
    have n1 := h6.fz 1
    have F6 := Lib.hid (h6.set (j + 1) (by omega))
    have G6 := Lib.hid (hb6.set (p := ⟨c.bp, 1, none⟩) hb (.int .i64 ((j : Int) + 1)))
    have L6 := Lib.hid (bl_set1 (k := 1) (u := .int .i64 ((j : Int) + 1)) (L1.out.trans (hk6.mono (by omega))) (Nat.le_refl c.bp))
    clear h6 hb6 hk6
    go_wp2_with fail
    go_roundg gk'
    case measure => omega
    case rel => exact ⟨j + 1, buf ++ [pk], by simpa using F6.out, G6.out, by omega, by omega, by simp; omega, L6.out, by omega, HQ.out⟩

end Go.Proofs.YtgnmfaeonijogaaGreatDoor
