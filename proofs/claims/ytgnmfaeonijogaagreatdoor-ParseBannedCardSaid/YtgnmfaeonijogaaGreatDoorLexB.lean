/- The lexer, walked: a token laid down; escapes; may a pattern begin here? -/
import Derived.Test.YtgnmfaeonijogaaGreatDoorLexA
import Derived.WalkSpells
import Derived.Laws.IdiomStrings
namespace Go.Proofs.YtgnmfaeonijogaaGreatDoor
open Go.RowKit

theorem tok_info : (Tryz.prog.info? 60).map (fun i => (i.zero, i.size, i.bytes)) = some (some (.agg #[.int .i64 0, .string ⟨#[]⟩, .int .i64 0]), 3, 32) := by kernel_rfl

set_option maxRecDepth 100000 in
set_option maxHeartbeats 2000000 in
theorem put_any (c : LC) (hi : Nat) (w : World) (v : Value) (i : Nat) (out : List Pp.Tok) (h : LAt c hi w v i out) (k : Int) (t : Pp.Bytes) (pos : Int) (hn : out.length < 100000) :
    Calls Tryz.prog 38 #[.pointer (some ⟨c.bp, 0, none⟩), .int .i64 k, vs t, .int .i64 pos] w fun e w' => e = .returned (.tuple #[]) ∧ (∃ v', LAt c w'.heap.size w' v' i (out ++ [⟨k, t, pos⟩])) ∧ Below c.bp w w' := by
  obtain ⟨i0, hi0, hz0, hz1, hz2⟩ := info_parts tok_info
  have c2 := h.c2
  have hb := h.blk.lt
  have hr := h.row
  have hg := h.glob.size
  obtain ⟨a, q, rfl⟩ := h.val
  have H := Lib.hid h
  have HR := Lib.hid hr
  clear h hr
  go_enter Tryz.func38, Tryz.ntmps38
  go_wp2_with (at_builtin; refine wpList_append_own _ rfl _ _ 51 rfl (c.bp + 1) 60 i0 _ 3 32 Tryz.underlying51 hi0 hz0 hz1 hz2 rfl (by decide) _ _ _ rfl (HR.out.alloc _) ⟨w.heap.size, 0, none⟩ 1 1 [.int .i64 k, vs t, .int .i64 pos] rfl rfl ?c1 ?c2 ?c3 ?c4 ?c5 ?_)
  case c1 =>
    intro j u hj
    match j, hj with
    | 0, hj => simp at hj; subst hj; simp [Addr.add]
    | 1, hj => simp at hj; subst hj; simp [Addr.add]
    | 2, hj => simp at hj; subst hj; simp [Addr.add]
    | j + 3, hj => simp at hj
  case c2 => intro u hu; simp at hu; rcases hu with rfl | rfl | rfl <;> rfl
  case c3 => unfold maxLen; omega
  case c4 => omega
  case c5 => simp; omega
  intro v' w2 hown' hgrow _
  have hlt : c.bp < w.heap.size := hb
  have hb2 : Blk w2 c.bp 80 #[vs c.S, .int .i64 i, .slice a out.length q] := (H.out.blk.alloc _).grown hgrow (fun e => by have := (ownRow_lt H.out.row e.symm).1; omega)
  have d2 := hb2.cell 2
  have f2 := hb2.frozen 2
  simp at d2
  obtain ⟨a', q', rfl⟩ : ∃ a' q', v' = .slice a' (out.length + 1) q' := by
    rcases hown'.2 with ⟨_, h0⟩ | ⟨g, cap, cur, hv, _⟩
    · omega
    · exact ⟨_, _, hv⟩
  have Hown := Lib.hid hown'
  have Hgrow := Lib.hid hgrow
  have HB := Lib.hid hb2
  clear hown' hgrow hb2
  go_wp2_with fail
  go_end0
  have kb : Below c.bp w w2 := ((Below.refl _ _).alloc (by omega) _).grown Hgrow.out (by simp; omega) (fun k hk => by have := (ownRow_lt H.out.row hk).1; omega)
  have kf : Below c.bp w (w2.setCell ⟨c.bp, 2, none⟩ (.slice a' (out.length + 1) q')) := bl_set1 kb (Nat.le_refl _)
  refine ⟨rfl, ⟨.slice a' (out.length + 1) q', ?_, ?_, ?_, ?_, H.out.glob.below kf (Nat.le_refl _), H.out.len, H.out.at_, by simp; omega⟩, kf⟩
  · simpa using HB.out.set_ 2 (.slice a' (out.length + 1) q')
  · have := Hown.out
    rw [tokRow_append]
    refine ownRow_block (w := w2) (by simpa [tokRow] using this) (fun g hg => Below.heap_setCell _ _ _ _ ?_)
    have := (ownRow_lt this hg).1
    simp; omega
  · have := HB.out.lt
    simpa [World.setCell] using this
  · intro g hg
    have := (ownRow_lt Hown.out hg).2
    simpa [World.setCell] using this

/-- What an escape comes to: its text; may it stand? -/
def EscPost (how : UInt8 → Option Pp.Bytes) (b : UInt8) (w : World) (e : Ending) (w' : World) : Prop :=
  ∃ (t : Pp.Bytes) (ok : Bool), e = .returned (.tuple #[vs t, .bool ok]) ∧ how b = (if ok then some t else none) ∧ t.length ≤ 2 ∧ Below w.heap.size w w'
def Escs (f : FuncId) (how : UInt8 → Option Pp.Bytes) : Prop := ∀ (b : UInt8) (w : World), Calls Tryz.prog f #[bv b] w (EscPost how b w)

theorem u8_ne {b : UInt8} {k : Nat} (hk : k < 256) (h : ¬ b = UInt8.ofNat k) : ((b.toNat : Int) == (k : Int)) = false := by
  rw [← u8_eq k hk b]; simpa using h
theorem conv_bytes (w : World) (l : Pp.Bytes) (cs : Array Value) (hcs : cs = (l.map bv).toArray) (n : Nat) (hn : n = l.length) :
    (convert 98 9 (.slice (some ⟨w.heap.size, 0, none⟩) n n)).run Tryz.prog (w.alloc (.cells cs 5)) = .ok (vs l) (w.alloc (.cells cs 5)) := by
  subst hcs hn
  refine run_convert_bytes_back _ 98 9 5 ⟨w.heap.size, 0, none⟩ l.length l Tryz.underlying98 Tryz.underlying5 Tryz.underlying9 (fun j hj => ?_)
  have := World.cell?_alloc_mark w (l.map bv).toArray 5 (0, 0) j
  have e : Addr.add ⟨w.heap.size, 0, none⟩ j = ⟨w.heap.size, j, none⟩ := by simp [Addr.add]; intro h; rw [h]
  rw [e, this]
  simp [hj]

set_option maxRecDepth 100000 in
set_option maxHeartbeats 4000000 in
theorem inString_any : Escs 64 Lx.inString := by
  intro b w
  by_cases h1 : b = 110
  · subst h1
    go_enter Tryz.func64, Tryz.ntmps64
    go_wp2
    go_ret2
    exact ⟨[10], true, rfl, rfl, by simp, Below.refl _ _⟩
  have k1 := u8_ne (k := 110) (by omega) h1
  by_cases h2 : b = 116
  · subst h2
    clear k1 h1
    go_enter Tryz.func64, Tryz.ntmps64
    go_wp2
    go_ret2
    exact ⟨[9], true, rfl, rfl, by simp, Below.refl _ _⟩
  have k2 := u8_ne (k := 116) (by omega) h2
  by_cases h3 : b = 34
  · have kt : ((b.toNat : Int) == 34) = true := by rw [h3]; rfl
    have E : Hid (Lx.inString b = some [b]) := by
      show Lx.inString b = some [b]
      rw [h3]; rfl
    clear h3 h1 h2
    have kc := conv_bytes w [b] #[bv b] rfl 1 rfl
    go_enter Tryz.func64, Tryz.ntmps64
    go_wp2
    go_ret2
    exact ⟨[b], true, rfl, E.out, by simp, (Below.refl _ _).alloc (Nat.le_refl _) _⟩
  have k3 := u8_ne (k := 34) (by omega) h3
  by_cases h4 : b = 92
  · have kt : ((b.toNat : Int) == 92) = true := by rw [h4]; rfl
    have E : Hid (Lx.inString b = some [b]) := by
      show Lx.inString b = some [b]
      rw [h4]; rfl
    clear h4 h1 h2 h3
    have kc := conv_bytes w [b] #[bv b] rfl 1 rfl
    go_enter Tryz.func64, Tryz.ntmps64
    go_wp2
    go_ret2
    exact ⟨[b], true, rfl, E.out, by simp, (Below.refl _ _).alloc (Nat.le_refl _) _⟩
  have k4 := u8_ne (k := 92) (by omega) h4
  by_cases h5 : b = 47
  · have kt : ((b.toNat : Int) == 47) = true := by rw [h5]; rfl
    have E : Hid (Lx.inString b = some [b]) := by
      show Lx.inString b = some [b]
      rw [h5]; rfl
    clear h5 h1 h2 h3 h4
    have kc := conv_bytes w [b] #[bv b] rfl 1 rfl
    go_enter Tryz.func64, Tryz.ntmps64
    go_wp2
    go_ret2
    exact ⟨[b], true, rfl, E.out, by simp, (Below.refl _ _).alloc (Nat.le_refl _) _⟩
  have k5 := u8_ne (k := 47) (by omega) h5
  have e : Lx.inString b = none := by unfold Lx.inString; rw [if_neg h1, if_neg h2, if_neg (by rintro (h | h | h) <;> contradiction)]
  have E := Lib.hid e
  clear h1 h2 h3 h4 h5 e
  go_enter Tryz.func64, Tryz.ntmps64
  go_wp2
  go_ret2
  exact ⟨[], false, rfl, E.out, by simp, Below.refl _ _⟩

set_option maxRecDepth 100000 in
set_option maxHeartbeats 4000000 in
theorem inRegex_any : Escs 66 Lx.inRegex := by
  intro b w
  by_cases h1 : b = 47
  · subst h1
    go_enter Tryz.func66, Tryz.ntmps66
    go_wp2
    go_ret2
    exact ⟨[47], true, rfl, rfl, by simp, Below.refl _ _⟩
  have k1 := u8_ne (k := 47) (by omega) h1
  have HB := Lib.hid h1
  clear h1
  by_cases h2 : b = 10
  · have kt : ((b.toNat : Int) != 10) = false := by rw [h2]; rfl
    have E : Hid (Lx.inRegex b = none) := by
      show Lx.inRegex b = none
      rw [h2]; rfl
    clear h2 HB
    have kc := conv_bytes w [92, b] #[.int .u8 92, bv b] rfl 2 rfl
    go_enter Tryz.func66, Tryz.ntmps66
    go_wp2
    go_ret2
    exact ⟨[92, b], false, rfl, E.out, by simp, (Below.refl _ _).alloc (Nat.le_refl _) _⟩
  have k2 := u8_ne (k := 10) (by omega) h2
  have e : Lx.inRegex b = some [92, b] := by unfold Lx.inRegex; rw [if_neg HB.out, if_neg h2]
  have E := Lib.hid e
  clear h2 e
  have k3 : ((b.toNat : Int) != 10) = true := by simpa using k2
  clear k2
  have kc := conv_bytes w [92, b] #[.int .u8 92, bv b] rfl 2 rfl
  go_enter Tryz.func66, Tryz.ntmps66
  go_wp2
  go_ret2
  exact ⟨[92, b], true, by simp, E.out, by simp, (Below.refl _ _).alloc (Nat.le_refl _) _⟩

end Go.Proofs.YtgnmfaeonijogaaGreatDoor
