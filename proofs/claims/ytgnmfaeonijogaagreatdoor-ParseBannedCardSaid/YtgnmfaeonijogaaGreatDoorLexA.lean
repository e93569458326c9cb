/- The lexer in memory; walked: its small functions. -/
import Derived.Test.YtgnmfaeonijogaaGreatDoorBld
import Derived.Test.YtgnmfaeonijogaaGreatDoorLexPure
import Derived.Test.YtgnmfaeonijogaaGreatDoorStmG
import Derived.IntWalk
import Derived.Shelf.Abstract
namespace Go.Proofs.YtgnmfaeonijogaaGreatDoor
open Go.RowKit

/-- The lexer's lists of words, as the program lays them. -/
def Words (B : Nat) (w : World) (g n : Nat) (l : List Pp.Bytes) : Prop := ∃ b o q, w.cell? ⟨g, 0, none⟩ = some (.slice (some ⟨b, o, none⟩) n q) ∧ (∀ j t, l[j]? = some t → w.cell? ⟨b, o + j, none⟩ = some (vs t)) ∧ b < B
structure Glob (B : Nat) (w : World) : Prop where
  small : 4 < B
  size : B ≤ w.heap.size
  most : ∃ m, w.cell? ⟨4, 0, none⟩ = some (.int .i64 m)
  words : Words B w 1 16 Lx.words
  builtins : Words B w 2 13 Lx.builtins
  banned : Words B w 3 6 Lx.banned
theorem Words.below {B B' : Nat} {w w' : World} {g n : Nat} {l : List Pp.Bytes} (h : Words B w g n l) (hg : g < B) (k : Below B' w w') (hB : B ≤ B') : Words B w' g n l := by
  obtain ⟨b, o, q, h1, h2, h3⟩ := h
  exact ⟨b, o, q, (k.cell (p := ⟨g, 0, none⟩) (Nat.lt_of_lt_of_le hg hB)).trans h1, fun j t ht => (k.cell (p := ⟨b, o + j, none⟩) (Nat.lt_of_lt_of_le h3 hB)).trans (h2 j t ht), h3⟩
theorem Glob.below {B B' : Nat} {w w' : World} (h : Glob B w) (k : Below B' w w') (hB : B ≤ B') : Glob B w' := by
  have hs := h.small
  obtain ⟨m, hm⟩ := h.most
  exact ⟨hs, Nat.le_trans h.size k.size, ⟨m, (k.cell (p := ⟨4, 0, none⟩) (Nat.lt_of_lt_of_le hs hB)).trans hm⟩, h.words.below (by omega) k hB, h.builtins.below (by omega) k hB, h.banned.below (by omega) k hB⟩

theorem Glob.up {B B' : Nat} {w : World} (h : Glob B w) (hB : B ≤ B') (hs : B' ≤ w.heap.size := by simp) : Glob B' w := by
  have up : ∀ {g n l}, Words B w g n l → Words B' w g n l := fun ⟨b, o, q, h1, h2, h3⟩ => ⟨b, o, q, h1, h2, by omega⟩
  exact ⟨by have := h.small; omega, hs, h.most, up h.words, up h.builtins, up h.banned⟩

/-- The cells of a row of tokens. -/
def tokRow : List Pp.Tok → List Value
  | [] => []
  | t :: r => .int .i64 t.kind :: vs t.text :: .int .i64 t.pos :: tokRow r
theorem tokRow_length (l : List Pp.Tok) : (tokRow l).length = l.length * 3 := by
  induction l with
  | nil => rfl
  | cons a r ih => simp only [tokRow, List.length_cons, ih]; omega
theorem tokRow_append (l r : List Pp.Tok) : tokRow (l ++ r) = tokRow l ++ tokRow r := by
  induction l with
  | nil => rfl
  | cons a l ih => simp [tokRow, ih]
theorem tokRow_get (l : List Pp.Tok) : ∀ (i : Nat) (t : Pp.Tok), l[i]? = some t →
    (tokRow l)[i * 3]? = some (.int .i64 t.kind) ∧ (tokRow l)[i * 3 + 1]? = some (vs t.text) ∧ (tokRow l)[i * 3 + 2]? = some (.int .i64 t.pos) := by
  induction l with
  | nil => intro i n h; simp at h
  | cons a r ih =>
    intro i t h
    cases i with
    | zero => simp at h; subst h; simp [tokRow]
    | succ i =>
      have := ih i t (by simpa using h)
      have e : (i + 1) * 3 = i * 3 + 3 := by omega
      simp only [tokRow, e]
      exact this

structure LC where
  bp : Nat
  S : Pp.Bytes
/-- The lexer in memory: its place i, its tokens so far, in blocks below hi; v: its slice of tokens. -/
structure LAt (c : LC) (hi : Nat) (w : World) (v : Value) (i : Nat) (out : List Pp.Tok) : Prop where
  blk : Blk w c.bp 80 #[vs c.S, .int .i64 i, v]
  row : w.ownsRow (c.bp + 1) 60 3 v out.length (tokRow out)
  lo : c.bp < hi
  top : ∀ g, v.ownBlock = some g → g < hi
  glob : Glob c.bp w
  len : c.S.length ≤ 4000
  at_ : i ≤ 1000000
  num : out.length ≤ 100000
section
variable {c : LC} {hi : Nat} {w w' : World} {v : Value} {i : Nat} {out : List Pp.Tok}
theorem LAt.c0 (h : LAt c hi w v i out) : w.cell? ⟨c.bp, 0, none⟩ = some (vs c.S) := by simpa using h.blk.cell 0
theorem LAt.c1 (h : LAt c hi w v i out) : w.cell? ⟨c.bp, 1, none⟩ = some (.int .i64 i) := by simpa using h.blk.cell 1
theorem LAt.c2 (h : LAt c hi w v i out) : w.cell? ⟨c.bp, 2, none⟩ = some v := by simpa using h.blk.cell 2
theorem LAt.fz (h : LAt c hi w v i out) (k : Nat) : w.frozen? ⟨c.bp, k, none⟩ = false := h.blk.frozen k
theorem LAt.val (h : LAt c hi w v i out) : ∃ a q, v = .slice a out.length q := by
  rcases h.row.2 with ⟨rfl, h0⟩ | ⟨g, cap, cur, rfl, _⟩
  · exact ⟨none, 0, by simp [h0]⟩
  · exact ⟨some ⟨g, 0, none⟩, cap, rfl⟩
theorem LAt.now (h : LAt c hi w v i out) : LAt c w.heap.size w v i out :=
  ⟨h.blk, h.row, h.blk.lt, fun _ hg => (ownRow_lt h.row hg).2, h.glob, h.len, h.at_, h.num⟩
theorem LAt.below {B : Nat} (h : LAt c hi w v i out) (k : Below B w w') (hB : hi ≤ B) : LAt c hi w' v i out :=
  ⟨h.blk.below k (Nat.lt_of_lt_of_le h.lo hB), ownRow_block h.row (fun g hg => k.block g (Nat.lt_of_lt_of_le (h.top g hg) hB)), h.lo, h.top, h.glob.below k (Nat.le_trans (Nat.le_of_lt h.lo) hB), h.len, h.at_, h.num⟩
theorem LAt.under (h : LAt c hi w v i out) (k : Below w.heap.size w w') : LAt c w.heap.size w' v i out := h.now.below k (Nat.le_refl _)
theorem LAt.mono {hi' : Nat} (h : LAt c hi w v i out) (hh : hi ≤ hi') : LAt c hi' w v i out := ⟨h.blk, h.row, by have := h.lo; omega, fun g hg => by have := h.top g hg; omega, h.glob, h.len, h.at_, h.num⟩
theorem LAt.alloc (h : LAt c hi w v i out) (o : Obj) : LAt c hi (w.alloc o) v i out :=
  (h.now.below ((Below.refl _ _).alloc (Nat.le_refl _) o) (Nat.le_refl _)) |> fun k => ⟨k.blk, k.row, h.lo, h.top, k.glob, k.len, k.at_, k.num⟩
theorem LAt.drew (h : LAt c hi w v i out) : LAt c hi w.drew v i out := ⟨h.blk, h.row, h.lo, h.top, h.glob.below (B' := c.bp) (Below.refl _ _).drew (Nat.le_refl _), h.len, h.at_, h.num⟩
theorem bl_drewN0 {B : Nat} {w : World} (n : Nat) : Below B w (w.drewN n) := ⟨rfl, rfl, rfl, Nat.le_refl _, fun _ _ => rfl⟩
theorem LAt.drewN (h : LAt c hi w v i out) (n : Nat) : LAt c hi (w.drewN n) v i out := ⟨h.blk, h.row, h.lo, h.top, h.glob.below (B' := c.bp) (bl_drewN0 n) (Nat.le_refl _), h.len, h.at_, h.num⟩
theorem LAt.set (h : LAt c hi w v i out) (j : Nat) (hj : j ≤ 1000000) : LAt c hi (w.setCell ⟨c.bp, 1, none⟩ (.int .i64 j)) v j out := by
  have kb : Below c.bp w (w.setCell ⟨c.bp, 1, none⟩ (.int .i64 j)) := (Below.refl _ _).setCell (p := ⟨c.bp, 1, none⟩) (Nat.le_refl _) _
  refine ⟨by simpa using h.blk.set_ 1 (.int .i64 j), ownRow_block h.row (fun g hg => Below.heap_setCell _ _ _ _ ?_), h.lo, h.top, h.glob.below kb (Nat.le_refl _), h.len, hj, h.num⟩
  have := (ownRow_lt h.row hg).1
  simp; omega
end
theorem bl_set1 {B b k : Nat} {w W : World} {u : Value} (h : Below B w W) (hb : B ≤ b) : Below B w (W.setCell ⟨b, k, none⟩ u) := h.setCell (p := ⟨b, k, none⟩) hb _

/-! ### Bytes -/
abbrev bv (c : UInt8) : Value := .int .u8 (c.toNat : Int)
/-- What a function that asks something of a byte leaves. -/
def Asks (f : FuncId) (p : UInt8 → Bool) : Prop := ∀ (b : UInt8) (w : World), Calls Tryz.prog f #[bv b] w fun e w' => e = .returned (.bool (p b)) ∧ w = w'
theorem u8_le (k : Nat) (hk : k < 256) (b : UInt8) : decide ((UInt8.ofNat k) ≤ b) = decide ((k : Int) ≤ (b.toNat : Int)) := by
  rw [Bool.eq_iff_iff]; simp [UInt8.le_iff_toNat_le]; omega
theorem u8_ge (k : Nat) (hk : k < 256) (b : UInt8) : decide (b ≤ (UInt8.ofNat k)) = decide ((b.toNat : Int) ≤ (k : Int)) := by
  rw [Bool.eq_iff_iff]; simp [UInt8.le_iff_toNat_le]; omega
theorem u8_eq (k : Nat) (hk : k < 256) (b : UInt8) : (b == (UInt8.ofNat k)) = ((b.toNat : Int) == (k : Int)) := by
  rw [Bool.eq_iff_iff]; simp
  constructor
  · rintro rfl; simp; omega
  · intro h; apply UInt8.toNat_inj.1; simp; omega

set_option maxHeartbeats 1000000 in
theorem digit_any : Asks 59 Lx.digit := by
  intro b w
  have e1 : decide (48 ≤ b) = decide ((48 : Int) ≤ (b.toNat : Int)) := u8_le 48 (by omega) b
  have e2 : decide (b ≤ 57) = decide ((b.toNat : Int) ≤ (57 : Int)) := u8_ge 57 (by omega) b
  unfold Lx.digit
  rw [e1, e2]
  clear e1 e2
  by_cases h1 : (48 : Int) ≤ (b.toNat : Int)
  · have k1 : decide ((48 : Int) ≤ (b.toNat : Int)) = true := decide_eq_true h1
    rw [k1]
    go_enter Tryz.func59, Tryz.ntmps59
    go_wp2
    go_ret
    exact ⟨by simp, rfl⟩
  · have k1 : decide ((48 : Int) ≤ (b.toNat : Int)) = false := decide_eq_false h1
    rw [k1]
    go_enter Tryz.func59, Tryz.ntmps59
    go_wp2
    go_ret
    exact ⟨by simp, rfl⟩

set_option maxHeartbeats 2000000 in
theorem letter_any : Asks 61 Lx.letter := by
  intro b w
  have e1 : decide (97 ≤ b) = decide ((97 : Int) ≤ (b.toNat : Int)) := u8_le 97 (by omega) b
  have e2 : decide (b ≤ 122) = decide ((b.toNat : Int) ≤ (122 : Int)) := u8_ge 122 (by omega) b
  have e3 : decide (65 ≤ b) = decide ((65 : Int) ≤ (b.toNat : Int)) := u8_le 65 (by omega) b
  have e4 : decide (b ≤ 90) = decide ((b.toNat : Int) ≤ (90 : Int)) := u8_ge 90 (by omega) b
  have e5 : (b == 95) = ((b.toNat : Int) == (95 : Int)) := u8_eq 95 (by omega) b
  unfold Lx.letter
  rw [e1, e2, e3, e4, e5]
  clear e1 e2 e3 e4 e5
  by_cases h1 : (97 : Int) ≤ (b.toNat : Int)
  · have k1 : decide ((97 : Int) ≤ (b.toNat : Int)) = true := decide_eq_true h1
    have k3 : decide ((65 : Int) ≤ (b.toNat : Int)) = true := decide_eq_true (by omega)
    have k4 : decide ((b.toNat : Int) ≤ (90 : Int)) = false := decide_eq_false (by omega)
    have k5 : ((b.toNat : Int) == (95 : Int)) = false := by simp; omega
    rw [k1, k3, k4, k5]
    by_cases h2 : (b.toNat : Int) ≤ (122 : Int)
    · have k2 : decide ((b.toNat : Int) ≤ (122 : Int)) = true := decide_eq_true h2
      rw [k2]
      go_enter Tryz.func61, Tryz.ntmps61
      go_wp2
      go_ret
      exact ⟨rfl, rfl⟩
    · have k2 : decide ((b.toNat : Int) ≤ (122 : Int)) = false := decide_eq_false h2
      rw [k2]
      go_enter Tryz.func61, Tryz.ntmps61
      go_wp2
      go_ret
      exact ⟨rfl, rfl⟩
  · have k1 : decide ((97 : Int) ≤ (b.toNat : Int)) = false := decide_eq_false h1
    rw [k1]
    by_cases h3 : (65 : Int) ≤ (b.toNat : Int)
    · have k3 : decide ((65 : Int) ≤ (b.toNat : Int)) = true := decide_eq_true h3
      rw [k3]
      by_cases h4 : (b.toNat : Int) ≤ (90 : Int)
      · have k4 : decide ((b.toNat : Int) ≤ (90 : Int)) = true := decide_eq_true h4
        rw [k4]
        go_enter Tryz.func61, Tryz.ntmps61
        go_wp2
        go_ret
        exact ⟨rfl, rfl⟩
      · have k4 : decide ((b.toNat : Int) ≤ (90 : Int)) = false := decide_eq_false h4
        rw [k4]
        go_enter Tryz.func61, Tryz.ntmps61
        go_wp2
        go_ret
        exact ⟨by simp, rfl⟩
    · have k3 : decide ((65 : Int) ≤ (b.toNat : Int)) = false := decide_eq_false h3
      rw [k3]
      go_enter Tryz.func61, Tryz.ntmps61
      go_wp2
      go_ret
      exact ⟨by simp, rfl⟩

set_option maxHeartbeats 1000000 in
theorem wordy_any : Asks 80 Lx.wordy := by
  intro b w
  have hl := letter_any b w
  have hd := digit_any b w
  unfold Lx.wordy
  cases h1 : Lx.letter b with
  | true =>
    rw [h1] at hl
    have HL := Lib.hid hl
    clear h1 hl hd
    go_enter Tryz.func80, Tryz.ntmps80
    go_wp2_with fail
    refine HL.out.mono ?_
    rintro e w' ⟨rfl, rfl⟩
    go_wp2_with fail
    go_ret
    exact ⟨rfl, rfl⟩
  | false =>
    rw [h1] at hl
    have HL := Lib.hid hl
    have HD := Lib.hid hd
    clear h1 hl hd
    go_enter Tryz.func80, Tryz.ntmps80
    go_wp2_with fail
    refine HL.out.mono ?_
    rintro e w' ⟨rfl, rfl⟩
    go_wp2_with fail
    refine HD.out.mono ?_
    rintro e w' ⟨rfl, rfl⟩
    go_wp2_with fail
    go_ret
    exact ⟨by simp, rfl⟩

set_option maxHeartbeats 1000000 in
theorem noLine_any : Asks 57 Lx.noLine := by
  intro b w
  have e : Lx.noLine b = ((b.toNat : Int) != (10 : Int)) := by
    have := u8_eq 10 (by omega) b
    unfold Lx.noLine
    exact congrArg not this
  rw [e]
  go_enter Tryz.func57, Tryz.ntmps57
  go_wp2
  go_ret
  exact ⟨rfl, rfl⟩

/-- The byte at a place. -/
theorem peek_get {S : Pp.Bytes} {i : Nat} (h : i < S.length) : Lx.peek S i = S[i] := by simp [Lx.peek, List.getD_eq_getElem?_getD, List.getElem?_eq_getElem h]

theorem run_idx (S : Pp.Bytes) (k : Nat) (x : Int) (hx : x = k) (h : k < S.length) (w : World) : (Instr.index 9 (vs S) (.int .i64 x)).run Tryz.prog w = .ok (bv (Lx.peek S k)) w := by
  subst hx
  rw [peek_get h]
  have h1 : (0 : Int) ≤ (k : Int) := by omega
  have h2 : ((k : Nat) : Int) < ((S.length : Nat) : Int) := by omega
  simp [Instr.index, run_underlying Tryz.underlying9, h, go_sem]
  rfl

set_option maxHeartbeats 1000000 in
theorem peek_any (c : LC) (hi : Nat) (w : World) (v : Value) (i : Nat) (out : List Pp.Tok) (h : LAt c hi w v i out) (n : Nat) (hn : n ≤ 100) :
    Calls Tryz.prog 58 #[.pointer (some ⟨c.bp, 0, none⟩), .int .i64 n] w fun e w' => e = .returned (bv (Lx.peek c.S (i + n))) ∧ Below w.heap.size w w' := by
  have c0 := h.c0; have c1 := h.c1; have hi1 := h.at_; have hl := h.len
  by_cases hlt : i + n < c.S.length
  · have hb : decide (((c.S.length : Nat) : Int) ≤ (i : Int) + n) = false := by simp; omega
    have hw : IntKind.i64.wrap ((i : Int) + n) = (i : Int) + n := IntWalk.i64_in _ (by omega)
    have hidx := fun w => run_idx c.S (i + n) ((i : Int) + n) (by omega) hlt w
    generalize Lx.peek c.S (i + n) = pk at *
    clear h
    go_enter Tryz.func58, Tryz.ntmps58
    go_wp2_with fail
    go_quiet (fail)
    go_wp2_with fail
    go_quiet (fail)
    go_wp2_with fail
    go_ret
    exact ⟨rfl, by repeat (first | exact Below.refl _ _ | apply bl_drewN)⟩
  · have hb : decide (((c.S.length : Nat) : Int) ≤ (i : Int) + n) = true := by simp; omega
    have e : Lx.peek c.S (i + n) = 0 := by simp [Lx.peek, List.getElem?_eq_none (Nat.le_of_not_lt hlt)]
    rw [e]
    clear h
    go_enter Tryz.func58, Tryz.ntmps58
    go_wp2_with fail
    go_quiet (fail)
    go_wp2_with fail
    go_ret
    exact ⟨rfl, by repeat (first | exact Below.refl _ _ | apply bl_drewN)⟩

/-! ### As many bytes as are of a kind -/
theorem wskip_stop {p : UInt8 → Bool} {S : Pp.Bytes} {i : Nat} (h : S.length ≤ i ∨ p (Lx.peek S i) = false) : Lx.skip p S i = i := by
  unfold Lx.skip
  rcases Nat.lt_or_ge i S.length with hlt | hge
  · rcases h with h | h
    · omega
    · rw [peek_get hlt] at h
      rw [List.drop_eq_getElem_cons hlt, List.takeWhile_cons, h]
      simp
  · rw [List.drop_eq_nil_of_le hge]; rfl
theorem skip_go {p : UInt8 → Bool} {S : Pp.Bytes} {i : Nat} (hlt : i < S.length) (h : p (Lx.peek S i) = true) : Lx.skip p S i = Lx.skip p S (i + 1) := by
  unfold Lx.skip
  rw [peek_get hlt] at h
  rw [List.drop_eq_getElem_cons hlt, List.takeWhile_cons, h]
  simp
  omega
theorem skip_le (p : UInt8 → Bool) (S : Pp.Bytes) (i : Nat) : i ≤ Lx.skip p S i ∧ (i ≤ S.length → Lx.skip p S i ≤ S.length) := by
  unfold Lx.skip
  have := (List.takeWhile_sublist p (l := S.drop i)).length_le
  simp at this
  omega

set_option maxRecDepth 100000 in
set_option maxHeartbeats 4000000 in
theorem while_any (c : LC) (F : FuncId) (ef : ∀ args w, (callFunc F args).run Tryz.prog w = .ok (.enter F args) w) (p : UInt8 → Bool) (hF : Asks F p) (hi : Nat) (w : World) (v : Value) (i : Nat) (out : List Pp.Tok) (h : LAt c hi w v i out) (hil : i ≤ c.S.length) :
    Calls Tryz.prog 56 #[.pointer (some ⟨c.bp, 0, none⟩), .func (.func F) #[] #[]] w fun e w' => e = .returned (.tuple #[]) ∧ LAt c hi w' v (Lx.skip p c.S i) out ∧ Below c.bp w w' := by
  have H := Lib.hid h
  have HF := Lib.hid hF
  have hl := h.len
  clear h hF
  go_enter Tryz.func56, Tryz.ntmps56
  go_wp2_with fail
  go_loopg [] (c.S.length + 1) (fun g wr => ∃ j, LAt c hi wr v j out ∧ j ≤ c.S.length ∧ c.S.length < j + g ∧ Below c.bp w wr ∧ Hid (Lx.skip p c.S j = Lx.skip p c.S i))
  case atStart => exact ⟨i, H.out, hil, by omega, Below.refl _ _, rfl⟩
  case round =>
    clear H
    obtain ⟨j, h1, hj, hg, hb, hs⟩ := hrel
    have c0 := h1.c0; have c1 := h1.c1; have z1 := h1.fz 1
    have H := Lib.hid h1
    have HB := Lib.hid hb
    have lb := h1.blk.lt
    clear h1 hb
    by_cases hlt : j < c.S.length
    · have hd : decide ((j : Int) < ((c.S.length : Nat) : Int)) = true := by simpa using hlt
      have hidx := fun w => run_idx c.S j (j : Int) rfl hlt w
      have hstop := @wskip_stop p c.S j
      have hgo := @skip_go p c.S j hlt
      have hq := HF.out (Lx.peek c.S j)
      generalize Lx.peek c.S j = pk at *
      cases hp : p pk with
      | true =>
        have Hs := Lib.hid ((hgo hp).symm.trans hs.out)
        rw [hp] at hq
        have HQ := Lib.hid hq
        clear hp hstop hgo hs hq
        go_wp2_with fail
        go_quiet ((go_at_fn F; exact Calls.quiet_of_same ((HQ.out _).mono fun _ _ h => ⟨h.1, h.2.symm⟩)))
        go_wp2_with fail
        go_roundg (gk - 1)
        case measure => omega
        case rel => exact ⟨j + 1, by simpa using (H.out.drewN _).set (j + 1) (by omega), by omega, by omega, bl_set1 (bl_drewN HB.out _) (Nat.le_refl _), Hs.out⟩
      | false =>
        have Hs := Lib.hid ((hstop (.inr hp)).symm.trans hs.out)
        rw [hp] at hq
        have HQ := Lib.hid hq
        clear hp hstop hgo hs hq
        go_wp2_with fail
        go_quiet ((go_at_fn F; exact Calls.quiet_of_same ((HQ.out _).mono fun _ _ h => ⟨h.1, h.2.symm⟩)))
        go_wp2_with fail
        go_end0
        exact ⟨rfl, Hs.out ▸ H.out.drewN _, bl_drewN HB.out _⟩
    · have hd : decide ((j : Int) < ((c.S.length : Nat) : Int)) = false := by simpa using hlt
      have Hs := Lib.hid ((wskip_stop (p := p) (S := c.S) (i := j) (.inl (by omega))).symm.trans hs.out)
      clear hs
      go_wp2_with fail
      go_quiet (fail)
      go_wp2_with fail
      go_end0
      exact ⟨rfl, Hs.out ▸ H.out.drewN _, bl_drewN HB.out _⟩

end Go.Proofs.YtgnmfaeonijogaaGreatDoor
