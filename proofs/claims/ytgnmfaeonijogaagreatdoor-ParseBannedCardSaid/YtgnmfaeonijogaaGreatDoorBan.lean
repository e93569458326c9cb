/- Walked: the law ParseBanned. -/
import Derived.Test.YtgnmfaeonijogaaGreatDoorAwk
namespace Go.Proofs.YtgnmfaeonijogaaGreatDoor
open Go.RowKit

def banL : List Pp.Bytes := [[103, 101, 116, 108, 105, 110, 101], [115, 121, 115, 116, 101, 109, 40, 34, 120, 34, 41], [99, 108, 111, 115, 101, 40, 102, 41], [102, 102, 108, 117, 115, 104, 40, 41], [115, 121, 115, 116, 105, 109, 101, 40, 41], [115, 116, 114, 102, 116, 105, 109, 101, 40, 49, 41]]
def banT (x : Pp.Bytes) : Pp.Bytes := [66, 69, 71, 73, 78, 123, 120, 61] ++ x ++ [125]
def banP : Pp.Bytes := [123, 112, 114, 105, 110, 116, 32, 124, 32, 34, 115, 104, 34, 125]
def banS : Pp.Bytes := [123, 32, 115, 114, 97, 110, 100, 40, 41, 32, 125]
def says3 (S : Pp.Bytes) : Option (Int × Int) := (Lx.parse rx0 60 S).map (fun x => (x.2.1, x.2.2))
theorem says_of {S : Pp.Bytes} {a e : Int} (h1 : noRx S = true) (h2 : S.length ≤ 4000) (h3 : says3 S = some (a, e)) : ∃ n, Says S n a e := by
  unfold says3 at h3
  obtain ⟨⟨n, p, q⟩, hx, hy⟩ := Option.map_eq_some_iff.1 h3
  simp only [Prod.mk.injEq] at hy
  obtain ⟨rfl, rfl⟩ := hy
  exact ⟨n, h1, h2, 60, by omega, hx⟩
set_option maxRecDepth 100000 in
theorem ban_says : ∀ x ∈ banL, ∃ n, Says (banT x) n 8 10 := by
  intro x hx
  simp only [banL, List.mem_cons, List.not_mem_nil, or_false] at hx
  rcases hx with rfl | rfl | rfl | rfl | rfl | rfl
  all_goals exact says_of (by rfl) (by decide) (by rfl)
set_option maxRecDepth 100000 in
theorem banP_says : ∃ n, Says banP n 7 10 := says_of (by rfl) (by decide) (by rfl)
set_option maxRecDepth 100000 in
theorem banS_says : ∃ n, Says banS n 2 10 := says_of (by rfl) (by decide) (by rfl)

abbrev banO : Obj := .cells #[vs [103, 101, 116, 108, 105, 110, 101], vs [115, 121, 115, 116, 101, 109, 40, 34, 120, 34, 41], vs [99, 108, 111, 115, 101, 40, 102, 41], vs [102, 102, 108, 117, 115, 104, 40, 41], vs [115, 121, 115, 116, 105, 109, 101, 40, 41], vs [115, 116, 114, 102, 116, 105, 109, 101, 40, 49, 41]] 9

/-- A box of a tree behind a text that was parsed. -/
theorem next_glob {w w1 : World} {n : Pp.Node} {a : Option Addr} {l q : Nat} (hG : Glob w.heap.size w) (hb : Below w.heap.size w w1) :
    Glob (w1.alloc (.cells #[vs n.op, vs n.text, .int .i64 n.pos, .slice a l q] 25)).heap.size (w1.alloc (.cells #[vs n.op, vs n.text, .int .i64 n.pos, .slice a l q] 25)) ∧ Below w.heap.size w (w1.alloc (.cells #[vs n.op, vs n.text, .int .i64 n.pos, .slice a l q] 25)) :=
  ⟨hG.now (hb.alloc hb.size _) (Nat.le_refl _), hb.alloc hb.size _⟩

set_option maxRecDepth 100000 in
set_option maxHeartbeats 4000000 in
theorem ban_out (n : Int) (hn : n < 0 ∨ 6 ≤ n) (w : World) (hG : Glob w.heap.size w) : Calls Tryz.prog 7 #[.int .i64 n] w fun e w' => e = .returned (.bool true) ∧ Below w.heap.size w w' := by
  have ha := awake_any (w.alloc banO) (hG.now ((Below.refl _ _).alloc (Nat.le_refl _) _) (Nat.le_refl _))
  have HA := Lib.hid ha
  clear ha hG
  by_cases h0 : n < 0
  · have k0 : decide (n < 0) = true := decide_eq_true h0
    clear hn
    go_enter Tryz.func7, Tryz.ntmps7
    go_wp2_with fail
    refine HA.out.mono ?_
    rintro e w1 ⟨rfl, hb⟩
    go_wp2_with fail
    go_ret
    exact ⟨rfl, ((Below.refl _ _).alloc (Nat.le_refl _) _).trans (hb.mono (by simp))⟩
  · have k0 : decide (n < 0) = false := decide_eq_false h0
    have k6 : decide (6 ≤ n) = true := decide_eq_true (by omega)
    have h6 : 6 ≤ n := by omega
    clear hn h0
    go_enter Tryz.func7, Tryz.ntmps7
    go_wp2_with fail
    refine HA.out.mono ?_
    rintro e w1 ⟨rfl, hb⟩
    go_wp2_with fail
    go_ret
    exact ⟨rfl, ((Below.refl _ _).alloc (Nat.le_refl _) _).trans (hb.mono (by simp))⟩

set_option maxRecDepth 100000 in
set_option maxHeartbeats 4000000 in
theorem ban_0 (w : World) (hG : Glob w.heap.size w) : Calls Tryz.prog 7 #[.int .i64 0] w fun e w' => e = .returned (.bool true) ∧ Below w.heap.size w w' := by
  obtain ⟨n1, hn1⟩ := ban_says [103, 101, 116, 108, 105, 110, 101] (by simp [banL])
  obtain ⟨n2, hn2⟩ := banP_says
  obtain ⟨n3, hn3⟩ := banS_says
  have b0 : Below w.heap.size w (w.alloc banO) := (Below.refl _ _).alloc (Nat.le_refl _) _
  have G0 := Lib.hid (hG.now b0 (Nat.le_refl _))
  have B0 := Lib.hid b0
  clear b0 hG
  go_enter Tryz.func7, Tryz.ntmps7
  go_wp2_with fail
  refine (says_any hn1 _ G0.out _ (by first | rfl | (apply ByteArray.ext; simp [banT]))).mono ?_
  rintro e w1 ⟨a1, l1, q1, rfl, _, hb1⟩
  have hg1 := next_glob (n := n1) (a := a1) (l := l1) (q := q1) G0.out hb1
  have G1 := Lib.hid hg1.1
  have B1 := Lib.hid (B0.out.trans (hg1.2.mono (by simp)))
  clear hg1 hb1
  go_wp2_with fail
  refine (says_any hn2 _ G1.out _ rfl).mono ?_
  rintro e w2 ⟨a2, l2, q2, rfl, _, hb2⟩
  have hg2 := next_glob (n := n2) (a := a2) (l := l2) (q := q2) G1.out hb2
  have G2 := Lib.hid hg2.1
  have B2 := Lib.hid (B1.out.trans (hg2.2.mono B1.out.size))
  clear hg2 hb2
  go_wp2_with fail
  refine (says_any hn3 _ G2.out _ rfl).mono ?_
  rintro e w3 ⟨a3, l3, q3, rfl, _, hb3⟩
  have hg3 := next_glob (n := n3) (a := a3) (l := l3) (q := q3) G2.out hb3
  have G3 := Lib.hid hg3.1
  have B3 := Lib.hid (B2.out.trans (hg3.2.mono B2.out.size))
  clear hg3 hb3
  go_wp2_with fail
  refine (awake_any _ G3.out).mono ?_
  rintro e w4 ⟨rfl, hb4⟩
  have B4 := B3.out.trans (hb4.mono B3.out.size)
  go_wp2_with fail
  go_ret
  exact ⟨rfl, B4⟩

set_option maxRecDepth 100000 in
set_option maxHeartbeats 4000000 in
theorem ban_1 (w : World) (hG : Glob w.heap.size w) : Calls Tryz.prog 7 #[.int .i64 1] w fun e w' => e = .returned (.bool true) ∧ Below w.heap.size w w' := by
  obtain ⟨n1, hn1⟩ := ban_says [115, 121, 115, 116, 101, 109, 40, 34, 120, 34, 41] (by simp [banL])
  obtain ⟨n2, hn2⟩ := banP_says
  obtain ⟨n3, hn3⟩ := banS_says
  have b0 : Below w.heap.size w (w.alloc banO) := (Below.refl _ _).alloc (Nat.le_refl _) _
  have G0 := Lib.hid (hG.now b0 (Nat.le_refl _))
  have B0 := Lib.hid b0
  clear b0 hG
  go_enter Tryz.func7, Tryz.ntmps7
  go_wp2_with fail
  refine (says_any hn1 _ G0.out _ (by first | rfl | (apply ByteArray.ext; simp [banT]))).mono ?_
  rintro e w1 ⟨a1, l1, q1, rfl, _, hb1⟩
  have hg1 := next_glob (n := n1) (a := a1) (l := l1) (q := q1) G0.out hb1
  have G1 := Lib.hid hg1.1
  have B1 := Lib.hid (B0.out.trans (hg1.2.mono (by simp)))
  clear hg1 hb1
  go_wp2_with fail
  refine (says_any hn2 _ G1.out _ rfl).mono ?_
  rintro e w2 ⟨a2, l2, q2, rfl, _, hb2⟩
  have hg2 := next_glob (n := n2) (a := a2) (l := l2) (q := q2) G1.out hb2
  have G2 := Lib.hid hg2.1
  have B2 := Lib.hid (B1.out.trans (hg2.2.mono B1.out.size))
  clear hg2 hb2
  go_wp2_with fail
  refine (says_any hn3 _ G2.out _ rfl).mono ?_
  rintro e w3 ⟨a3, l3, q3, rfl, _, hb3⟩
  have hg3 := next_glob (n := n3) (a := a3) (l := l3) (q := q3) G2.out hb3
  have G3 := Lib.hid hg3.1
  have B3 := Lib.hid (B2.out.trans (hg3.2.mono B2.out.size))
  clear hg3 hb3
  go_wp2_with fail
  refine (awake_any _ G3.out).mono ?_
  rintro e w4 ⟨rfl, hb4⟩
  have B4 := B3.out.trans (hb4.mono B3.out.size)
  go_wp2_with fail
  go_ret
  exact ⟨rfl, B4⟩

set_option maxRecDepth 100000 in
set_option maxHeartbeats 4000000 in
theorem ban_2 (w : World) (hG : Glob w.heap.size w) : Calls Tryz.prog 7 #[.int .i64 2] w fun e w' => e = .returned (.bool true) ∧ Below w.heap.size w w' := by
  obtain ⟨n1, hn1⟩ := ban_says [99, 108, 111, 115, 101, 40, 102, 41] (by simp [banL])
  obtain ⟨n2, hn2⟩ := banP_says
  obtain ⟨n3, hn3⟩ := banS_says
  have b0 : Below w.heap.size w (w.alloc banO) := (Below.refl _ _).alloc (Nat.le_refl _) _
  have G0 := Lib.hid (hG.now b0 (Nat.le_refl _))
  have B0 := Lib.hid b0
  clear b0 hG
  go_enter Tryz.func7, Tryz.ntmps7
  go_wp2_with fail
  refine (says_any hn1 _ G0.out _ (by first | rfl | (apply ByteArray.ext; simp [banT]))).mono ?_
  rintro e w1 ⟨a1, l1, q1, rfl, _, hb1⟩
  have hg1 := next_glob (n := n1) (a := a1) (l := l1) (q := q1) G0.out hb1
  have G1 := Lib.hid hg1.1
  have B1 := Lib.hid (B0.out.trans (hg1.2.mono (by simp)))
  clear hg1 hb1
  go_wp2_with fail
  refine (says_any hn2 _ G1.out _ rfl).mono ?_
  rintro e w2 ⟨a2, l2, q2, rfl, _, hb2⟩
  have hg2 := next_glob (n := n2) (a := a2) (l := l2) (q := q2) G1.out hb2
  have G2 := Lib.hid hg2.1
  have B2 := Lib.hid (B1.out.trans (hg2.2.mono B1.out.size))
  clear hg2 hb2
  go_wp2_with fail
  refine (says_any hn3 _ G2.out _ rfl).mono ?_
  rintro e w3 ⟨a3, l3, q3, rfl, _, hb3⟩
  have hg3 := next_glob (n := n3) (a := a3) (l := l3) (q := q3) G2.out hb3
  have G3 := Lib.hid hg3.1
  have B3 := Lib.hid (B2.out.trans (hg3.2.mono B2.out.size))
  clear hg3 hb3
  go_wp2_with fail
  refine (awake_any _ G3.out).mono ?_
  rintro e w4 ⟨rfl, hb4⟩
  have B4 := B3.out.trans (hb4.mono B3.out.size)
  go_wp2_with fail
  go_ret
  exact ⟨rfl, B4⟩

set_option maxRecDepth 100000 in
set_option maxHeartbeats 4000000 in
theorem ban_3 (w : World) (hG : Glob w.heap.size w) : Calls Tryz.prog 7 #[.int .i64 3] w fun e w' => e = .returned (.bool true) ∧ Below w.heap.size w w' := by
  obtain ⟨n1, hn1⟩ := ban_says [102, 102, 108, 117, 115, 104, 40, 41] (by simp [banL])
  obtain ⟨n2, hn2⟩ := banP_says
  obtain ⟨n3, hn3⟩ := banS_says
  have b0 : Below w.heap.size w (w.alloc banO) := (Below.refl _ _).alloc (Nat.le_refl _) _
  have G0 := Lib.hid (hG.now b0 (Nat.le_refl _))
  have B0 := Lib.hid b0
  clear b0 hG
  go_enter Tryz.func7, Tryz.ntmps7
  go_wp2_with fail
  refine (says_any hn1 _ G0.out _ (by first | rfl | (apply ByteArray.ext; simp [banT]))).mono ?_
  rintro e w1 ⟨a1, l1, q1, rfl, _, hb1⟩
  have hg1 := next_glob (n := n1) (a := a1) (l := l1) (q := q1) G0.out hb1
  have G1 := Lib.hid hg1.1
  have B1 := Lib.hid (B0.out.trans (hg1.2.mono (by simp)))
  clear hg1 hb1
  go_wp2_with fail
  refine (says_any hn2 _ G1.out _ rfl).mono ?_
  rintro e w2 ⟨a2, l2, q2, rfl, _, hb2⟩
  have hg2 := next_glob (n := n2) (a := a2) (l := l2) (q := q2) G1.out hb2
  have G2 := Lib.hid hg2.1
  have B2 := Lib.hid (B1.out.trans (hg2.2.mono B1.out.size))
  clear hg2 hb2
  go_wp2_with fail
  refine (says_any hn3 _ G2.out _ rfl).mono ?_
  rintro e w3 ⟨a3, l3, q3, rfl, _, hb3⟩
  have hg3 := next_glob (n := n3) (a := a3) (l := l3) (q := q3) G2.out hb3
  have G3 := Lib.hid hg3.1
  have B3 := Lib.hid (B2.out.trans (hg3.2.mono B2.out.size))
  clear hg3 hb3
  go_wp2_with fail
  refine (awake_any _ G3.out).mono ?_
  rintro e w4 ⟨rfl, hb4⟩
  have B4 := B3.out.trans (hb4.mono B3.out.size)
  go_wp2_with fail
  go_ret
  exact ⟨rfl, B4⟩

set_option maxRecDepth 100000 in
set_option maxHeartbeats 4000000 in
theorem ban_4 (w : World) (hG : Glob w.heap.size w) : Calls Tryz.prog 7 #[.int .i64 4] w fun e w' => e = .returned (.bool true) ∧ Below w.heap.size w w' := by
  obtain ⟨n1, hn1⟩ := ban_says [115, 121, 115, 116, 105, 109, 101, 40, 41] (by simp [banL])
  obtain ⟨n2, hn2⟩ := banP_says
  obtain ⟨n3, hn3⟩ := banS_says
  have b0 : Below w.heap.size w (w.alloc banO) := (Below.refl _ _).alloc (Nat.le_refl _) _
  have G0 := Lib.hid (hG.now b0 (Nat.le_refl _))
  have B0 := Lib.hid b0
  clear b0 hG
  go_enter Tryz.func7, Tryz.ntmps7
  go_wp2_with fail
  refine (says_any hn1 _ G0.out _ (by first | rfl | (apply ByteArray.ext; simp [banT]))).mono ?_
  rintro e w1 ⟨a1, l1, q1, rfl, _, hb1⟩
  have hg1 := next_glob (n := n1) (a := a1) (l := l1) (q := q1) G0.out hb1
  have G1 := Lib.hid hg1.1
  have B1 := Lib.hid (B0.out.trans (hg1.2.mono (by simp)))
  clear hg1 hb1
  go_wp2_with fail
  refine (says_any hn2 _ G1.out _ rfl).mono ?_
  rintro e w2 ⟨a2, l2, q2, rfl, _, hb2⟩
  have hg2 := next_glob (n := n2) (a := a2) (l := l2) (q := q2) G1.out hb2
  have G2 := Lib.hid hg2.1
  have B2 := Lib.hid (B1.out.trans (hg2.2.mono B1.out.size))
  clear hg2 hb2
  go_wp2_with fail
  refine (says_any hn3 _ G2.out _ rfl).mono ?_
  rintro e w3 ⟨a3, l3, q3, rfl, _, hb3⟩
  have hg3 := next_glob (n := n3) (a := a3) (l := l3) (q := q3) G2.out hb3
  have G3 := Lib.hid hg3.1
  have B3 := Lib.hid (B2.out.trans (hg3.2.mono B2.out.size))
  clear hg3 hb3
  go_wp2_with fail
  refine (awake_any _ G3.out).mono ?_
  rintro e w4 ⟨rfl, hb4⟩
  have B4 := B3.out.trans (hb4.mono B3.out.size)
  go_wp2_with fail
  go_ret
  exact ⟨rfl, B4⟩

set_option maxRecDepth 100000 in
set_option maxHeartbeats 4000000 in
theorem ban_5 (w : World) (hG : Glob w.heap.size w) : Calls Tryz.prog 7 #[.int .i64 5] w fun e w' => e = .returned (.bool true) ∧ Below w.heap.size w w' := by
  obtain ⟨n1, hn1⟩ := ban_says [115, 116, 114, 102, 116, 105, 109, 101, 40, 49, 41] (by simp [banL])
  obtain ⟨n2, hn2⟩ := banP_says
  obtain ⟨n3, hn3⟩ := banS_says
  have b0 : Below w.heap.size w (w.alloc banO) := (Below.refl _ _).alloc (Nat.le_refl _) _
  have G0 := Lib.hid (hG.now b0 (Nat.le_refl _))
  have B0 := Lib.hid b0
  clear b0 hG
  go_enter Tryz.func7, Tryz.ntmps7
  go_wp2_with fail
  refine (says_any hn1 _ G0.out _ (by first | rfl | (apply ByteArray.ext; simp [banT]))).mono ?_
  rintro e w1 ⟨a1, l1, q1, rfl, _, hb1⟩
  have hg1 := next_glob (n := n1) (a := a1) (l := l1) (q := q1) G0.out hb1
  have G1 := Lib.hid hg1.1
  have B1 := Lib.hid (B0.out.trans (hg1.2.mono (by simp)))
  clear hg1 hb1
  go_wp2_with fail
  refine (says_any hn2 _ G1.out _ rfl).mono ?_
  rintro e w2 ⟨a2, l2, q2, rfl, _, hb2⟩
  have hg2 := next_glob (n := n2) (a := a2) (l := l2) (q := q2) G1.out hb2
  have G2 := Lib.hid hg2.1
  have B2 := Lib.hid (B1.out.trans (hg2.2.mono B1.out.size))
  clear hg2 hb2
  go_wp2_with fail
  refine (says_any hn3 _ G2.out _ rfl).mono ?_
  rintro e w3 ⟨a3, l3, q3, rfl, _, hb3⟩
  have hg3 := next_glob (n := n3) (a := a3) (l := l3) (q := q3) G2.out hb3
  have G3 := Lib.hid hg3.1
  have B3 := Lib.hid (B2.out.trans (hg3.2.mono B2.out.size))
  clear hg3 hb3
  go_wp2_with fail
  refine (awake_any _ G3.out).mono ?_
  rintro e w4 ⟨rfl, hb4⟩
  have B4 := B3.out.trans (hb4.mono B3.out.size)
  go_wp2_with fail
  go_ret
  exact ⟨rfl, B4⟩

theorem ban_any (n : Int) (w : World) (hG : Glob w.heap.size w) : Calls Tryz.prog 7 #[.int .i64 n] w fun e w' => e = .returned (.bool true) ∧ Below w.heap.size w w' := by
  by_cases h : n < 0 ∨ 6 ≤ n
  · exact ban_out n h w hG
  · have h6 : n = 0 ∨ n = 1 ∨ n = 2 ∨ n = 3 ∨ n = 4 ∨ n = 5 := by omega
    rcases h6 with rfl | rfl | rfl | rfl | rfl | rfl
    · exact ban_0 w hG
    · exact ban_1 w hG
    · exact ban_2 w hG
    · exact ban_3 w hG
    · exact ban_4 w hG
    · exact ban_5 w hG

end Go.Proofs.YtgnmfaeonijogaaGreatDoor
