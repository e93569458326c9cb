/- Walked: what the law's own first calls come to. -/
import Derived.Test.YtgnmfaeonijogaaGreatDoorAstA
import Derived.Test.YtgnmfaeonijogaaGreatDoorPar
namespace Go.Proofs.YtgnmfaeonijogaaGreatDoor
open Go.RowKit

set_option maxRecDepth 100000 in
set_option maxHeartbeats 2000000 in
theorem print_any (n : Pp.Node) (hsm : small n) (w : World) (a : Option Addr) (l q : Nat) (S : Nat → Prop) (hK : KidsAt w S (.slice a l q) n.kids) (hS : ∀ i, S i → i < w.heap.size) (hlen : (pr n).length ≤ 9000000) :
    Calls Tryz.prog 35 #[nv n (.slice a l q)] w fun e w' => e = .returned (vs (pr n)) ∧ Below w.heap.size w w' := by
  have h0 : BAt ((w.alloc (.cells #[vs n.op, vs n.text, .int .i64 n.pos, .slice a l q] 25)).alloc (.cells #[.pointer none, .slice none 0 0] 100)) (w.heap.size + 1) (w.heap.size + 1) [] := by
    have := BAt.new (w.alloc (.cells #[vs n.op, vs n.text, .int .i64 n.pos, .slice a l q] 25))
    have e : (w.alloc (.cells #[vs n.op, vs n.text, .int .i64 n.pos, .slice a l q] 25)).heap.size = w.heap.size + 1 := by simp
    rwa [e] at this
  have hK2 := (hK.alloc (.cells #[vs n.op, vs n.text, .int .i64 n.pos, .slice a l q] 25)).alloc (.cells #[.pointer none, .slice none 0 0] 100)
  have hsp := spell_any (sz n) n (Nat.le_refl _) hsm _ _ _ [] a l q S h0 hK2 (fun i hi => by have := hS i hi; omega) (by simpa using hlen)
  have HSP := Lib.hid hsp
  clear hsp hK2 h0 hK hS hlen hsm
  go_enter Tryz.func35, Tryz.ntmps35
  go_wp2_with fail
  refine HSP.out.mono ?_
  rintro e w1 ⟨rfl, h1, l1, _⟩
  have H1 := Lib.hid h1
  have L1 := Lib.hid l1
  clear h1 l1 HSP
  go_wp2_with fail
  refine (bread _ _ _ _ H1.out).mono ?_
  rintro e w2 ⟨rfl, l2⟩
  go_wp2_with fail
  go_ret
  refine ⟨rfl, ?_⟩
  have hb : Below w.heap.size w ((w.alloc (.cells #[vs n.op, vs n.text, .int .i64 n.pos, .slice a l q] 25)).alloc (.cells #[.pointer none, .slice none 0 0] 100)) := ((Below.refl _ _).alloc (Nat.le_refl _) _).alloc (by simp) _
  exact (hb.trans (L1.out.mono (by omega))).trans (l2.mono (by omega))

/-! ### Texts without patterns -/
def noRx (S : Pp.Bytes) : Bool := match Lx.lex S with | .ok T _ => T.all (fun t => t.kind != 4) | .bad _ => true
theorem noRx_ok {S : Pp.Bytes} (h : noRx S = true) (rx : Pp.Bytes → Int) : ∀ T j, Lx.lex S = .ok T j → RxOk T rx := by
  intro T j hl t ht hk
  unfold noRx at h
  rw [hl] at h
  have := List.all_eq_true.1 h t ht
  simp [hk] at this
def rx0 : Pp.Bytes → Int := fun _ => 0
structure Says (S : Pp.Bytes) (n : Pp.Node) (at_ er : Int) : Prop where
  no : noRx S = true
  len : S.length ≤ 4000
  is : ∃ k, k ≤ 1000000 ∧ Lx.parse rx0 k S = some (n, at_, er)
theorem says_any {S : Pp.Bytes} {n : Pp.Node} {at_ er : Int} (h : Says S n at_ er) (w : World) (hG : Glob w.heap.size w) (x : ByteArray) (hx : x = ⟨S.toArray⟩) :
    Calls Tryz.prog 14 #[.string x] w (ParsePost w n at_ er) := by
  subst hx
  obtain ⟨k, hk, hp⟩ := h.is
  exact parse_any rx0 k hk S (by have := h.len; omega) (noRx_ok h.no rx0) w hG n at_ er hp
theorem Glob.now {B B' : Nat} {w w' : World} (h : Glob B w) (k : Below B' w w') (hB : B ≤ B') : Glob w'.heap.size w' := (h.below k hB).up (Nat.le_trans h.size k.size) (Nat.le_refl _)

def txtA : Pp.Bytes := [66, 69, 71, 73, 78, 123, 120, 61, 97, 32, 98, 43, 49, 125]
def txtB : Pp.Bytes := [66, 69, 71, 73, 78, 123, 120, 61, 125]
def nodA : Pp.Node := .mk [112, 114, 111, 103, 114, 97, 109] [] 0 [.mk [98, 101, 103, 105, 110] [] 0 [.mk [98, 108, 111, 99, 107] [] 0 [.mk [101, 120, 112, 114] [] 0 [.mk [97, 115, 115, 105, 103, 110] [61] 0 [.mk [118, 97, 114] [120] 6 [], .mk [99, 97, 116] [] 0 [.mk [118, 97, 114] [97] 8 [], .mk [97, 100, 100] [] 0 [.mk [118, 97, 114] [98] 10 [], .mk [110, 117, 109] [49] 12 []]]]]]]]
set_option maxRecDepth 100000 in
theorem saysA : Says txtA nodA 0 0 := ⟨by rfl, by decide, 40, by omega, by rfl⟩
set_option maxRecDepth 100000 in
theorem saysB : Says txtB Pp.node0 8 9 := ⟨by rfl, by decide, 40, by omega, by rfl⟩
def txtP : Pp.Bytes := [40, 112, 114, 111, 103, 114, 97, 109, 32, 40, 98, 101, 103, 105, 110, 32, 40, 98, 108, 111, 99, 107, 32, 40, 101, 120, 112, 114, 32, 40, 97, 115, 115, 105, 103, 110, 32, 49, 58, 61, 32, 40, 118, 97, 114, 32, 49, 58, 120, 41, 32, 40, 99, 97, 116, 32, 40, 118, 97, 114, 32, 49, 58, 97, 41, 32, 40, 97, 100, 100, 32, 40, 118, 97, 114, 32, 49, 58, 98, 41, 32, 40, 110, 117, 109, 32, 49, 58, 49, 41, 41, 41, 41, 41, 41, 41, 41]
theorem dec1 : Lib.decDigits 1 = [49] := by simp [Lib.decDigits]
theorem prA : pr nodA = txtP := by simp [nodA, pr, prs, dec1, txtP]
theorem smallA : small nodA := by simp [nodA, small, smalls]

set_option maxRecDepth 100000 in
set_option maxHeartbeats 4000000 in
theorem awake_any (w : World) (hG : Glob w.heap.size w) : Calls Tryz.prog 21 #[] w fun e w' => e = .returned (.bool true) ∧ Below w.heap.size w w' := by
  have HG := Lib.hid hG
  clear hG
  go_enter Tryz.func21, Tryz.ntmps21
  go_wp2_with fail
  refine (says_any saysA w HG.out _ rfl).mono ?_
  rintro e w1 ⟨a, l, q, rfl, hk, hb⟩
  have HK := Lib.hid hk
  have HB := Lib.hid hb
  have G1 := Lib.hid (HG.out.now (hb.alloc hb.size (.cells #[vs nodA.op, vs nodA.text, .int .i64 nodA.pos, .slice a l q] 25)) (Nat.le_refl _))
  clear hk hb
  go_wp2_with fail
  have XA := Lib.hid (Blk.new w1 25 #[vs nodA.op, vs nodA.text, .int .i64 nodA.pos, .slice a l q])
  refine (says_any saysB _ G1.out _ rfl).mono ?_
  rintro e w2 ⟨a2, l2, q2, rfl, hk2, hb2⟩
  have XB := Lib.hid (XA.out.under hb2)
  have hlt := XB.out.lt
  obtain ⟨x0, x1, x2, x3⟩ := XB.out.four
  have HB2 := Lib.hid hb2
  have lw1 : w.heap.size ≤ w1.heap.size := HB.out.size
  have lw2 : w1.heap.size + 1 ≤ w2.heap.size := by have := hb2.size; simpa using this
  have T2 : KidsAt (w2.alloc (.cells #[vs Pp.node0.op, vs Pp.node0.text, .int .i64 Pp.node0.pos, .slice a2 l2 q2] 25)) (fun b => w.heap.size ≤ b ∧ b < w1.heap.size) (.slice a l q) nodA.kids :=
    (((HK.out.mono (S' := fun b => w.heap.size ≤ b ∧ b < w1.heap.size) (fun b hb hl => ⟨hb, hl⟩)).alloc (.cells #[vs nodA.op, vs nodA.text, .int .i64 nodA.pos, .slice a l q] 25)).under hb2).alloc _
  have TT := Lib.hid T2
  clear hk2 hb2 T2
  go_wp2_with fail
  refine (print_any nodA smallA _ a l q _ TT.out (fun i hi => by have := hi.2; simp; omega) (by rw [prA]; decide)).mono ?_
  rintro e w3 ⟨rfl, hb3⟩
  have HB3 := Lib.hid hb3
  clear hb3
  obtain ⟨P, hP⟩ : ∃ P, pr nodA = P := ⟨_, rfl⟩
  rw [hP]
  have HPP := Lib.hid hP
  clear hP
  have hfin : Below w.heap.size w w3 := ((((HB.out.alloc lw1 (.cells #[vs nodA.op, vs nodA.text, .int .i64 nodA.pos, .slice a l q] 25)).trans (HB2.out.mono (by simp; omega))).alloc (by omega) (.cells #[vs Pp.node0.op, vs Pp.node0.text, .int .i64 Pp.node0.pos, .slice a2 l2 q2] 25))).trans (HB3.out.mono (by simp; omega))
  have Fin := Lib.hid hfin
  clear hfin
  go_wp2_with fail
  · go_ret
    exact ⟨rfl, Fin.out⟩
  · exfalso
    have hne : ¬ P = txtP := by assumption
    exact hne (HPP.out.symm.trans prA)

end Go.Proofs.YtgnmfaeonijogaaGreatDoor
