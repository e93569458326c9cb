/- The builder's writing again, with what it leaves alone; trees as texts, walked: spell and Print, of trees with short texts. -/
import Derived.Test.YtgnmfaeonijogaaGreatDoorBld
import Derived.Test.YtgnmfaeonijogaaGreatDoorPrim
namespace Go.Proofs.YtgnmfaeonijogaaGreatDoor
open Go.RowKit

/-- All blocks but b and rows of bytes are as they were. -/
def Keep (b : Nat) (w w' : World) : Prop := ∀ (k : Nat) (t : TypeId) (cs : Array Value), k ≠ b → t ≠ 5 → Blk w k t cs → Blk w' k t cs
theorem Keep.refl (b : Nat) (w : World) : Keep b w w := fun _ _ _ _ _ h => h
theorem Keep.trans {b : Nat} {w w1 w2 : World} (h : Keep b w w1) (k : Keep b w1 w2) : Keep b w w2 := fun i t cs hb ht hx => k i t cs hb ht (h i t cs hb ht hx)
theorem Keep.alloc (b : Nat) (w : World) (o : Obj) : Keep b w (w.alloc o) := fun _ _ _ _ _ h => Blk.alloc h o
theorem Keep.set {b : Nat} (w : World) (j : Nat) (u : Value) : Keep b w (w.setCell ⟨b, j, none⟩ u) := fun _ _ _ hb _ h => Blk.far (p := ⟨b, j, none⟩) h hb u
theorem Keep.grown {b B n : Nat} {w w' : World} {v : Value} {xs : List Value} (hg : w.grownBy w' v.ownBlock) (ho : w.ownsRow B 5 1 v n xs) : Keep b w w' := by
  intro k t cs _ ht hx
  refine hx.grown hg (fun e => ?_)
  rcases ho.2 with ⟨rfl, _⟩ | ⟨g, cap, cur, rfl, _, hh, _⟩
  · simp [Value.ownBlock] at e
  · have : g = k := by simpa [Value.ownBlock] using e.symm
    subst this
    unfold Blk at hx
    rw [hh] at hx
    simp at hx
    exact ht hx.2.symm
theorem bld_checkK (B b : Nat) (bs : List Value) (w : World) (h : Lib.IsBuilder 100 5 B b bs w) :
    Calls Tryz.prog 92 #[.pointer (some ⟨b, 0, none⟩)] w fun e w' => e = .returned (.tuple #[]) ∧ (Lib.BuilderAt 100 5 B b (.pointer (some ⟨b, 0, none⟩)) bs w' ∧ Below B w w' ∧ Keep b w w') := by
  rcases h with h | h
  · refine (bld_check_fresh b w h.cell0 h.shape h.frozen0).mono ?_
    rintro e w' ⟨rfl, rfl⟩
    exact ⟨rfl, h.used _, (Below.refl B w).setCell (p := ⟨b, 0, none⟩) h.1 _, Keep.set _ _ _⟩
  · refine (bld_check_used b w h.cell0).mono ?_
    rintro e w' ⟨rfl, rfl⟩
    exact ⟨rfl, h, Below.refl B _, Keep.refl _ _⟩

set_option maxHeartbeats 2000000 in
set_option maxRecDepth 100000 in
theorem bld_byteK (B b : Nat) (bs : List Value) (c : Int) (w : World) (h : Lib.IsBuilder 100 5 B b bs w) (hlen : bs.length + 1 ≤ 140737488355328) (hBw : B ≤ w.heap.size) :
    Calls Tryz.prog 77 #[.pointer (some ⟨b, 0, none⟩), .int .u8 c] w fun e w' => e = .returned .nilIface ∧ (Lib.IsBuilder 100 5 B b (bs ++ [.int .u8 c]) w' ∧ Below B w w' ∧ Keep b w w') := by
  obtain ⟨i0, hi, hz0, hz1, hz2⟩ := info_parts byte_info
  go_enter Tryz.func77, Tryz.ntmps77
  go_wp2_with (go_at_call 92; refine (bld_checkK B b bs _ h).mono ?_)
  rintro e w1 ⟨rfl, h1, hb1, kp1⟩
  have KP1 := Lib.hid kp1
  clear kp1
  obtain ⟨hB, v, hbk, hown, hne⟩ := h1
  have c0 : w1.cell? ⟨b, 0, none⟩ = some (.pointer (some ⟨b, 0, none⟩)) := by rw [Lib.cell_of_heap hbk]; rfl
  have c1 : w1.cell? ⟨b, 1, none⟩ = some v := by rw [Lib.cell_of_heap hbk]; rfl
  go_wp2_with (at_builtin; refine wpList_append_own _ rfl _ _ 98 rfl B 5 i0 (.int .u8 0) 1 1 Tryz.underlying98 hi hz0 hz1 hz2 rfl (by decide) _ _ _ rfl (hown.alloc _) ⟨w1.heap.size, 0, none⟩ 1 1 [.int .u8 c] rfl rfl ?c1 ?c2 ?c3 ?c4 ?c5 ?_)
  case c1 =>
    intro j u hj
    match j, hj with
    | 0, hj => simp at hj; subst hj; simp [Addr.add]
  case c2 => intro u hu; simp at hu; subst hu; rfl
  case c3 => unfold maxLen; omega
  case c4 => omega
  case c5 => have := hb1.size; simp; omega
  intro v' w2 hown' hgrow _
  have hlt : b < w1.heap.size := by
    rcases Nat.lt_or_ge b w1.heap.size with h' | h'
    · exact h'
    · simp [Array.getElem?_eq_none h'] at hbk
  have hb2 : w2.heap[b]? = some (.cells #[.pointer (some ⟨b, 0, none⟩), v] 100 (0, 0)) := by
    rw [hgrow.block b (by simp; omega) (fun e => hne e.symm), Lib.alloc_old w1 _ b hlt]
    exact hbk
  have d0 : w2.cell? ⟨b, 0, none⟩ = some (.pointer (some ⟨b, 0, none⟩)) := by rw [Lib.cell_of_heap hb2]; rfl
  have d1 : w2.cell? ⟨b, 1, none⟩ = some v := by rw [Lib.cell_of_heap hb2]; rfl
  have f1 : w2.frozen? ⟨b, 1, none⟩ = false := Lib.frozen_of_heap hb2 1
  obtain ⟨g, cap, rfl⟩ : ∃ g cap, v' = .slice (some ⟨g, 0, none⟩) (bs.length + 1) cap := by
    rcases hown'.2 with ⟨_, h0⟩ | ⟨g, cap, cur, hv, _⟩
    · omega
    · exact ⟨g, cap, hv⟩
  go_wp2
  go_ret
  refine ⟨rfl, .inr ?_, ?_, KP1.out.trans (((Keep.alloc _ _ _).trans (Keep.grown hgrow (hown.alloc _))).trans (Keep.set _ _ _))⟩
  · exact Lib.BuilderAt.put (T := 100) (e := 5) hB hb2 (bs' := bs ++ [.int .u8 c]) (by simpa using hown') (by decide)
  · exact ((hb1.alloc (by have := hb1.size; omega) _).grown hgrow (by have := hb1.size; simp; omega) (fun k hk => (hown.lt k hk).1)).setCell (p := ⟨b, 1, none⟩) hB _

set_option maxHeartbeats 2000000 in
set_option maxRecDepth 100000 in
theorem bld_stringK (B b : Nat) (bs : List Value) (s : ByteArray) (w : World) (h : Lib.IsBuilder 100 5 B b bs w) (hlen : bs.length + s.size ≤ 140737488355328) (hBw : B ≤ w.heap.size) :
    Calls Tryz.prog 78 #[.pointer (some ⟨b, 0, none⟩), .string s] w fun e w' => e = .returned (.tuple #[.int .i64 s.size, .nilIface]) ∧ (Lib.IsBuilder 100 5 B b (bs ++ Lib.strCells s) w' ∧ Below B w w' ∧ Keep b w w') := by
  obtain ⟨i0, hi, hz0, hz1, hz2⟩ := info_parts byte_info
  go_enter Tryz.func78, Tryz.ntmps78
  go_wp2_with (go_at_call 92; refine (bld_checkK B b bs _ h).mono ?_)
  rintro e w1 ⟨rfl, h1, hb1, kp1⟩
  have KP1 := Lib.hid kp1
  clear kp1
  obtain ⟨hB, v, hbk, hown, hne⟩ := h1
  have c0 : w1.cell? ⟨b, 0, none⟩ = some (.pointer (some ⟨b, 0, none⟩)) := by rw [Lib.cell_of_heap hbk]; rfl
  have c1 : w1.cell? ⟨b, 1, none⟩ = some v := by rw [Lib.cell_of_heap hbk]; rfl
  go_wp2_with (at_builtin; refine Lib.wpList_append_own_string _ rfl _ _ 98 9 rfl B 5 i0 Tryz.underlying98 Tryz.underlying9 hi hz0 hz1 hz2 _ _ _ rfl hown s rfl ?c3 ?c4 ?c5 ?_)
  case c3 => unfold maxLen; omega
  case c4 => omega
  case c5 => have := hb1.size; omega
  intro v' w2 hown' hgrow _
  have hlt : b < w1.heap.size := by
    rcases Nat.lt_or_ge b w1.heap.size with h' | h'
    · exact h'
    · simp [Array.getElem?_eq_none h'] at hbk
  have hb2 : w2.heap[b]? = some (.cells #[.pointer (some ⟨b, 0, none⟩), v] 100 (0, 0)) := by
    rw [hgrow.block b hlt (fun e => hne e.symm)]
    exact hbk
  have d0 : w2.cell? ⟨b, 0, none⟩ = some (.pointer (some ⟨b, 0, none⟩)) := by rw [Lib.cell_of_heap hb2]; rfl
  have d1 : w2.cell? ⟨b, 1, none⟩ = some v := by rw [Lib.cell_of_heap hb2]; rfl
  have f1 : w2.frozen? ⟨b, 1, none⟩ = false := Lib.frozen_of_heap hb2 1
  obtain ⟨ao, n', cap, rfl⟩ : ∃ ao n' cap, v' = .slice ao n' cap := by
    rcases hown'.2 with ⟨hv, _⟩ | ⟨g, cap, cur, hv, _⟩
    · exact ⟨_, _, _, hv⟩
    · exact ⟨_, _, _, hv⟩
  go_wp2
  go_ret2
  refine ⟨rfl, .inr ?_, ?_, KP1.out.trans ((Keep.grown hgrow hown).trans (Keep.set _ _ _))⟩
  · exact Lib.BuilderAt.put (T := 100) (e := 5) hB hb2 (bs' := bs ++ Lib.strCells s) (by simpa [Lib.strCells_length] using hown') (by decide)
  · exact (hb1.grown hgrow (by have := hb1.size; omega) (fun k hk => (hown.lt k hk).1)).setCell (p := ⟨b, 1, none⟩) hB _


theorem bwriteK (B b : Nat) (l : Pp.Bytes) (c : UInt8) (w : World) (h : BAt w B b l) (hl : l.length ≤ 10000000) :
    Calls Tryz.prog 77 #[.pointer (some ⟨b, 0, none⟩), .int .u8 (c.toNat : Int)] w fun e w' => e = .returned .nilIface ∧ BAt w' B b (l ++ [c]) ∧ Below B w w' ∧ Keep b w w' := by
  refine (bld_byteK B b (Lib.byteCells l) _ w h.1 (by rw [Lib.byteCells_length]; omega) h.2).mono ?_
  rintro e w' ⟨rfl, h1, h2, h3⟩
  refine ⟨rfl, ⟨?_, Nat.le_trans h.2 h2.size⟩, h2, h3⟩
  simpa [Lib.byteCells] using h1
theorem swriteK (B b : Nat) (l s : Pp.Bytes) (w : World) (h : BAt w B b l) (hl : l.length + s.length ≤ 10000000) :
    Calls Tryz.prog 78 #[.pointer (some ⟨b, 0, none⟩), vs s] w fun e w' => e = .returned (.tuple #[.int .i64 s.length, .nilIface]) ∧ BAt w' B b (l ++ s) ∧ Below B w w' ∧ Keep b w w' := by
  refine (bld_stringK B b (Lib.byteCells l) ⟨s.toArray⟩ w h.1 (by rw [Lib.byteCells_length]; show l.length + s.toArray.size ≤ _; simp; omega) h.2).mono ?_
  rintro e w' ⟨rfl, h1, h2, h3⟩
  refine ⟨by simp [ByteArray.size], ⟨?_, Nat.le_trans h.2 h2.size⟩, h2, h3⟩
  simpa [Lib.byteCells, Lib.strCells] using h1

mutual
/-- A tree as a text. -/
def pr : Pp.Node → Pp.Bytes
  | .mk op text _ kids => [40] ++ op ++ (if text = [] then [] else [32] ++ Lib.decDigits text.length ++ [58] ++ text) ++ prs kids ++ [41]
def prs : List Pp.Node → Pp.Bytes
  | [] => []
  | k :: r => [32] ++ pr k ++ prs r
end
mutual
/-- Are all texts of a tree short? -/
def small : Pp.Node → Prop
  | .mk _ text _ kids => text.length < 100 ∧ smalls kids
def smalls : List Pp.Node → Prop
  | [] => True
  | k :: r => small k ∧ smalls r
end
theorem smalls_get : ∀ {l : List Pp.Node} {i : Nat} {n : Pp.Node}, smalls l → l[i]? = some n → small n
  | [], _, _, _, h => by simp at h
  | k :: r, 0, n, hs, h => by unfold smalls at hs; simp at h; subst h; exact hs.1
  | k :: r, i + 1, n, hs, h => by unfold smalls at hs; exact smalls_get hs.2 (by simpa using h)
theorem prs_take : ∀ {l : List Pp.Node} {i : Nat} {n : Pp.Node}, l[i]? = some n → prs (l.take (i + 1)) = prs (l.take i) ++ [32] ++ pr n
  | [], _, _, h => by simp at h
  | k :: r, 0, n, h => by simp at h; subst h; simp [prs]
  | k :: r, i + 1, n, h => by
    have := prs_take (l := r) (i := i) (n := n) (by simpa using h)
    simp only [List.take_succ_cons, prs, this, List.append_assoc]
mutual
def sz : Pp.Node → Nat
  | .mk _ _ _ kids => 1 + szs kids
def szs : List Pp.Node → Nat
  | [] => 0
  | k :: r => sz k + szs r
end
theorem szs_get : ∀ {l : List Pp.Node} {i : Nat} {n : Pp.Node}, l[i]? = some n → sz n ≤ szs l
  | [], _, _, h => by simp at h
  | k :: r, 0, n, h => by simp at h; subst h; simp [szs]
  | k :: r, i + 1, n, h => by
    have := szs_get (l := r) (i := i) (n := n) (by simpa using h)
    simp only [szs]; omega


theorem prs_le : ∀ (l : List Pp.Node) (i : Nat), (prs (l.take i)).length ≤ (prs l).length
  | [], i => by simp [prs]
  | k :: r, 0 => by simp [prs]
  | k :: r, i + 1 => by
    have := prs_le r i
    simp only [List.take_succ_cons, prs, List.length_append]
    omega
theorem BAt.alloc' {w : World} {B b : Nat} {l : Pp.Bytes} (h : BAt w B b l) (o : Obj) : BAt (w.alloc o) B b l := h.below ((Below.refl _ _).alloc (Nat.le_refl _) o)

theorem kids_at {w : World} {S : Nat → Prop} {a : Option Addr} {l q : Nat} {ks : List Pp.Node} (h : KidsAt w S (.slice a l q) ks) {i : Nat} {n : Pp.Node} (hn : ks[i]? = some n) :
    ∃ b, a = some ⟨b, 0, none⟩ ∧ S b ∧ ∃ kv, (w.cell? ⟨b, i * 4, none⟩ = some (vs n.op) ∧ w.cell? ⟨b, i * 4 + 1, none⟩ = some (vs n.text) ∧ w.cell? ⟨b, i * 4 + 2, none⟩ = some (.int .i64 n.pos) ∧ w.cell? ⟨b, i * 4 + 3, none⟩ = some kv) ∧ KidsAt w S kv n.kids := by
  cases h with
  | nil => simp at hn
  | cons b c ks kv hne hb hc hk => exact ⟨b, rfl, hb, kv i, hc i n hn, hk i n hn⟩

set_option maxRecDepth 100000 in
set_option maxHeartbeats 8000000 in
theorem spell_any : ∀ (f : Nat) (n : Pp.Node), sz n ≤ f → small n → ∀ (w : World) (B b : Nat) (buf : Pp.Bytes) (a : Option Addr) (l q : Nat) (S : Nat → Prop), BAt w B b buf → KidsAt w S (.slice a l q) n.kids → (∀ i, S i → i < B) → buf.length + (pr n).length ≤ 9000000 →
    Calls Tryz.prog 54 #[.pointer (some ⟨b, 0, none⟩), nv n (.slice a l q)] w fun e w' => e = .returned (.tuple #[]) ∧ BAt w' B b (buf ++ pr n) ∧ Below B w w' ∧ Keep b w w' := by
  intro f
  induction f with
  | zero => intro n h; cases n; unfold sz at h; omega
  | succ f ih =>
  intro n hsz hsm w B b buf a l q S hB hK hS hlen
  obtain ⟨op, text, pos, kids⟩ := n
  obtain ⟨a', c', hv⟩ := hK.slice
  simp only [Pp.Node.kids, Value.slice.injEq] at hv
  obtain ⟨rfl, rfl, rfl⟩ := hv
  have hpr : pr (.mk op text pos kids) = [40] ++ op ++ (if text = [] then [] else [32] ++ Lib.decDigits text.length ++ [58] ++ text) ++ prs kids ++ [41] := by rw [pr]
  have hsz' : szs kids ≤ f := by rw [sz] at hsz; omega
  have hsm' : text.length < 100 ∧ smalls kids := by rw [small] at hsm; exact hsm
  have IH := Lib.hid ih
  have HK := Lib.hid hK
  have HS := Lib.hid hS
  have hlo := hB.lo
  have hlt := hB.lt
  have hsB := hB.2
  have B0 := Lib.hid (hB.alloc' (.cells #[vs op, vs text, .int .i64 pos, .slice a kids.length q] 25))
  have X0 := Lib.hid (Blk.new w 25 #[vs op, vs text, .int .i64 pos, .slice a kids.length q])
  have L0 : Below B w (w.alloc (.cells #[vs op, vs text, .int .i64 pos, .slice a kids.length q] 25)) := (Below.refl B w).alloc hsB _
  have K0 := Keep.alloc b w (.cells #[vs op, vs text, .int .i64 pos, .slice a kids.length q] 25)
  have hne : w.heap.size ≠ b := by omega
  rw [hpr] at hlen ⊢
  have HLen := Lib.hid hlen
  clear hK hS hB ih hlen hpr hsz hsm
  by_cases ht : text = []
  · have kt : (text != []) = false := by simp [ht]
    have kt2 : text.isEmpty = true := by simp [ht]
    have kt3 : decide (text = []) = true := by simp [ht]
    rw [if_pos ht] at HLen ⊢
    clear ht
    go_enter Tryz.func54, Tryz.ntmps54
    go_wp2_with fail
    refine (bwriteK B b buf 40 _ B0.out (by have := HLen.out; simp at this ⊢; omega)).mono ?_
    rintro e w1 ⟨rfl, b1, l1, k1⟩
    have B1 := Lib.hid b1
    have X1 := Lib.hid (k1 _ _ _ hne (by decide) X0.out)
    have L1 := L0.trans l1
    have K1 := K0.trans k1
    have hx1 := X1.out.lt
    obtain ⟨x0, x1, x2, x3⟩ := X1.out.four
    clear b1 l1 k1
    go_wp2_with fail
    refine (swriteK B b _ op _ B1.out (by have := HLen.out; simp at this ⊢; omega)).mono ?_
    rintro e w2 ⟨rfl, b2, l2, k2⟩
    have B2 := Lib.hid b2
    have X2 := Lib.hid (k2 _ _ _ hne (by decide) X1.out)
    have L2 := L1.trans l2
    have K2 := K1.trans k2
    have hx2 := X2.out.lt
    obtain ⟨x0, x1, x2, x3⟩ := X2.out.four
    clear b2 l2 k2
    go_wp2_with fail
    obtain ⟨pre, hpre⟩ : ∃ p : Pp.Bytes, p = buf ++ [40] ++ op := ⟨_, rfl⟩
    have BZ : Hid (BAt w2 B b pre) := hpre ▸ B2.out
    have HLP : Hid (pre.length + (prs kids).length + 1 ≤ 9000000) := by
      have := HLen.out
      show _ ≤ _
      rw [hpre]
      simp at this ⊢
      omega
    have HP : Hid (pre ++ prs kids ++ [41] = buf ++ ([40] ++ op ++ [] ++ prs kids ++ [41])) := by
      show _ = _
      rw [hpre]
      simp
    clear hpre HLen
    have hkl : kids.length ≤ 9000000 := by
      have hq : ∀ l : List Pp.Node, l.length ≤ (prs l).length := by
        intro l
        induction l with
        | nil => simp
        | cons k r ih => simp only [prs, List.length_append, List.length_cons, List.length_nil]; omega
      have := hq kids
      have := HLP.out
      omega
    go_loopg [32] (kids.length + 1) (fun g v wr => ∃ i : Nat, v = .int .i64 i ∧ i ≤ kids.length ∧ BAt wr B b (pre ++ prs (kids.take i)) ∧ Below B w wr ∧ Keep b w wr ∧ Blk wr w.heap.size 25 #[vs op, vs text, .int .i64 pos, .slice a kids.length q] ∧ kids.length < i + g)
    case atStart => exact ⟨0, by go_num, by omega, by simpa [prs] using BZ.out, L2, K2, X2.out, by omega⟩
    case round =>
      clear x0 x1 x2 x3
      obtain ⟨i, rfl, hik, bR, LR, KR, xR, hg⟩ := hrel
      have BR := Lib.hid bR
      have XR := Lib.hid xR
      have lxr := xR.lt
      have lbr := bR.2
      clear bR xR
      by_cases hlt : i < kids.length
      · have kl : decide ((i : Int) < ((kids.length : Nat) : Int)) = true := by simpa using hlt
        obtain ⟨k, hk⟩ : ∃ k, kids[i]? = some k := ⟨kids[i], by simp [hlt]⟩
        have hcell : ∃ (bk : Nat) (a2 : Option Addr) (l2 q2 : Nat), a = some ⟨bk, 0, none⟩ ∧ bk < B ∧ (wr.cell? ⟨bk, i * 4, none⟩ = some (vs k.op) ∧ wr.cell? ⟨bk, i * 4 + 1, none⟩ = some (vs k.text) ∧ wr.cell? ⟨bk, i * 4 + 2, none⟩ = some (.int .i64 k.pos) ∧ wr.cell? ⟨bk, i * 4 + 3, none⟩ = some (.slice a2 l2 q2)) ∧ KidsAt wr S (.slice a2 l2 q2) k.kids := by
          have hfr := HK.out.frame (w' := wr) (S' := S) (fun i hi _ => ⟨LR.block i (HS.out i hi), hi⟩)
          obtain ⟨bk, hbk, hbS, kv, hc, hkk⟩ := kids_at hfr hk
          obtain ⟨c0, c1, c2, c3⟩ := hc
          obtain ⟨a2, q2, hv2⟩ := hkk.slice
          rw [hv2] at c3 hkk
          exact ⟨bk, a2, _, q2, hbk, HS.out bk hbS, ⟨c0, c1, c2, c3⟩, hkk⟩
        obtain ⟨bk, a2, l2, q2, rfl, hbk, ⟨c0, c1, c2, c3⟩, hk2⟩ := hcell
        have hi0 : (0 : Int) ≤ (i : Int) := by omega
        have hi1 : (i : Int) < (kids.length : Int) := by omega
        have HK2 := Lib.hid hk2
        have hkz := szs_get hk
        have hks := smalls_get hsm'.2 hk
        have hkt := prs_take hk
        have hle := prs_le kids (i + 1)
        have HKT := Lib.hid hkt
        have HLE : Hid ((pre ++ prs (kids.take i)).length + 1 + (pr k).length ≤ 9000000 ) := by
          have := HLP.out
          rw [hkt] at hle
          show _ ≤ _
          simp at hle ⊢
          omega
        have lbk : bk < wr.heap.size := by omega
        clear hk2 hk hkt hle
        go_wp2_with fail
        refine (bwriteK B b (pre ++ prs (kids.take i)) 32 _ (BR.out.alloc' (.cells #[vs k.op, vs k.text, .int .i64 k.pos, .slice a2 l2 q2] 25)) (by have := HLE.out; omega)).mono ?_
        rintro e v6 ⟨rfl, b6, l6, k6⟩
        have E6 := Lib.hid b6
        have Y6 := Lib.hid (k6 _ _ _ (by omega) (by decide) (Blk.new wr 25 #[vs k.op, vs k.text, .int .i64 k.pos, .slice a2 l2 q2]))
        have F6 := Lib.hid (k6 _ _ _ hne (by decide) (XR.out.alloc (.cells #[vs k.op, vs k.text, .int .i64 k.pos, .slice a2 l2 q2] 25)))
        have G6 := ((LR.alloc (by omega) (.cells #[vs k.op, vs k.text, .int .i64 k.pos, .slice a2 l2 q2] 25)).trans l6)
        have J6 := (KR.trans (Keep.alloc b wr (.cells #[vs k.op, vs k.text, .int .i64 k.pos, .slice a2 l2 q2] 25))).trans k6
        have hl6 : Below B wr v6 := ((Below.refl B wr).alloc (by omega) _).trans l6
        have T6 := Lib.hid (HK2.out.frame (w' := v6) (S' := S) (fun i hi _ => ⟨hl6.block i (HS.out i hi), hi⟩))
        have hy6 := Y6.out.lt
        obtain ⟨y0, y1, y2, y3⟩ := Y6.out.four
        clear b6 l6 k6 c0 c1 c2 c3 hl6
        go_wp2_with fail
        refine (IH.out k (by omega) hks v6 B b _ a2 l2 q2 S E6.out T6.out HS.out (by have := HLE.out; simp at this ⊢; omega)).mono ?_
        rintro e v7 ⟨rfl, b7, l7, k7⟩
        have E7 := Lib.hid b7
        have F7 := Lib.hid (k7 _ _ _ hne (by decide) F6.out)
        have G7 := G6.trans l7
        have J7 := J6.trans k7
        clear b7 l7 k7 y0 y1 y2 y3
        go_wp2_with fail
        go_roundg (gk - 1)
        case measure => omega
        case rel => exact ⟨i + 1, by go_num, by omega, by rw [HKT.out]; simpa using E7.out, G7, J7, F7.out, by omega⟩
      · have kl : decide ((i : Int) < ((kids.length : Nat) : Int)) = false := by simpa using hlt
        have hie : kids.take i = kids := List.take_of_length_le (by omega)
        have BE : Hid (BAt wr B b (pre ++ prs kids)) := by
          have := BR.out
          rw [hie] at this
          exact this
        clear hie
        go_wp2_with fail
        refine (bwriteK B b (pre ++ prs kids) 41 _ BE.out (by have := HLP.out; simp; omega)).mono ?_
        rintro e v8 ⟨rfl, b8, l8, k8⟩
        go_wp2_with fail
        go_end0
        exact ⟨rfl, HP.out ▸ b8, LR.trans l8, KR.trans k8⟩
  · have kt : (text != []) = true := by simpa using ht
    have kt2 : text.isEmpty = false := by simpa using ht
    have kt3 : decide (text = []) = false := by simpa using ht
    rw [if_neg ht] at HLen ⊢
    clear ht
    go_enter Tryz.func54, Tryz.ntmps54
    go_wp2_with fail
    refine (bwriteK B b buf 40 _ B0.out (by have := HLen.out; simp at this ⊢; omega)).mono ?_
    rintro e w1 ⟨rfl, b1, l1, k1⟩
    have B1 := Lib.hid b1
    have X1 := Lib.hid (k1 _ _ _ hne (by decide) X0.out)
    have L1 := L0.trans l1
    have K1 := K0.trans k1
    have hx1 := X1.out.lt
    obtain ⟨x0, x1, x2, x3⟩ := X1.out.four
    clear b1 l1 k1
    go_wp2_with fail
    refine (swriteK B b _ op _ B1.out (by have := HLen.out; simp at this ⊢; omega)).mono ?_
    rintro e w2 ⟨rfl, b2, l2, k2⟩
    have B2 := Lib.hid b2
    have X2 := Lib.hid (k2 _ _ _ hne (by decide) X1.out)
    have L2 := L1.trans l2
    have K2 := K1.trans k2
    have hx2 := X2.out.lt
    obtain ⟨x0, x1, x2, x3⟩ := X2.out.four
    clear b2 l2 k2
    go_wp2_with fail
    refine (bwriteK B b _ 32 _ B2.out (by have := HLen.out; simp at this ⊢; omega)).mono ?_
    rintro e w3 ⟨rfl, b3, l3, k3⟩
    have B3 := Lib.hid b3
    have X3 := Lib.hid (k3 _ _ _ hne (by decide) X2.out)
    have L3 := L2.trans l3
    have K3 := K2.trans k3
    have hx3 := X3.out.lt
    obtain ⟨x0, x1, x2, x3⟩ := X3.out.four
    clear b3 l3 k3
    go_wp2_with fail
    refine (Tryz.strconv_Itoa_small text.length hsm'.1 _).mono ?_
    rintro e wi ⟨rfl, rfl⟩
    go_wp2_with fail
    refine (swriteK B b _ (Lib.decDigits text.length) _ B3.out (by have := HLen.out; simp at this ⊢; omega)).mono ?_
    rintro e w4 ⟨rfl, b4, l4, k4⟩
    have B4 := Lib.hid b4
    have X4 := Lib.hid (k4 _ _ _ hne (by decide) X3.out)
    have L4 := L3.trans l4
    have K4 := K3.trans k4
    have hx4 := X4.out.lt
    obtain ⟨x0, x1, x2, x3⟩ := X4.out.four
    clear b4 l4 k4
    go_wp2_with fail
    refine (bwriteK B b _ 58 _ B4.out (by have := HLen.out; simp at this ⊢; omega)).mono ?_
    rintro e w5 ⟨rfl, b5, l5, k5⟩
    have B5 := Lib.hid b5
    have X5 := Lib.hid (k5 _ _ _ hne (by decide) X4.out)
    have L5 := L4.trans l5
    have K5 := K4.trans k5
    have hx5 := X5.out.lt
    obtain ⟨x0, x1, x2, x3⟩ := X5.out.four
    clear b5 l5 k5
    go_wp2_with fail
    refine (swriteK B b _ text _ B5.out (by have := HLen.out; simp at this ⊢; omega)).mono ?_
    rintro e w6 ⟨rfl, b6, l6, k6⟩
    have B6 := Lib.hid b6
    have X6 := Lib.hid (k6 _ _ _ hne (by decide) X5.out)
    have L6 := L5.trans l6
    have K6 := K5.trans k6
    have hx6 := X6.out.lt
    obtain ⟨x0, x1, x2, x3⟩ := X6.out.four
    clear b6 l6 k6
    go_wp2_with fail
    obtain ⟨pre, hpre⟩ : ∃ p : Pp.Bytes, p = buf ++ [40] ++ op ++ [32] ++ Lib.decDigits text.length ++ [58] ++ text := ⟨_, rfl⟩
    have BZ : Hid (BAt w6 B b pre) := hpre ▸ B6.out
    have HLP : Hid (pre.length + (prs kids).length + 1 ≤ 9000000) := by
      have := HLen.out
      show _ ≤ _
      rw [hpre]
      simp at this ⊢
      omega
    have HP : Hid (pre ++ prs kids ++ [41] = buf ++ ([40] ++ op ++ ([32] ++ Lib.decDigits text.length ++ [58] ++ text) ++ prs kids ++ [41])) := by
      show _ = _
      rw [hpre]
      simp
    clear hpre HLen
    have hkl : kids.length ≤ 9000000 := by
      have hq : ∀ l : List Pp.Node, l.length ≤ (prs l).length := by
        intro l
        induction l with
        | nil => simp
        | cons k r ih => simp only [prs, List.length_append, List.length_cons, List.length_nil]; omega
      have := hq kids
      have := HLP.out
      omega
    go_loopg [32] (kids.length + 1) (fun g v wr => ∃ i : Nat, v = .int .i64 i ∧ i ≤ kids.length ∧ BAt wr B b (pre ++ prs (kids.take i)) ∧ Below B w wr ∧ Keep b w wr ∧ Blk wr w.heap.size 25 #[vs op, vs text, .int .i64 pos, .slice a kids.length q] ∧ kids.length < i + g)
    case atStart => exact ⟨0, by go_num, by omega, by simpa [prs] using BZ.out, L6, K6, X6.out, by omega⟩
    case round =>
      clear x0 x1 x2 x3
      obtain ⟨i, rfl, hik, bR, LR, KR, xR, hg⟩ := hrel
      have BR := Lib.hid bR
      have XR := Lib.hid xR
      have lxr := xR.lt
      have lbr := bR.2
      clear bR xR
      by_cases hlt : i < kids.length
      · have kl : decide ((i : Int) < ((kids.length : Nat) : Int)) = true := by simpa using hlt
        obtain ⟨k, hk⟩ : ∃ k, kids[i]? = some k := ⟨kids[i], by simp [hlt]⟩
        have hcell : ∃ (bk : Nat) (a2 : Option Addr) (l2 q2 : Nat), a = some ⟨bk, 0, none⟩ ∧ bk < B ∧ (wr.cell? ⟨bk, i * 4, none⟩ = some (vs k.op) ∧ wr.cell? ⟨bk, i * 4 + 1, none⟩ = some (vs k.text) ∧ wr.cell? ⟨bk, i * 4 + 2, none⟩ = some (.int .i64 k.pos) ∧ wr.cell? ⟨bk, i * 4 + 3, none⟩ = some (.slice a2 l2 q2)) ∧ KidsAt wr S (.slice a2 l2 q2) k.kids := by
          have hfr := HK.out.frame (w' := wr) (S' := S) (fun i hi _ => ⟨LR.block i (HS.out i hi), hi⟩)
          obtain ⟨bk, hbk, hbS, kv, hc, hkk⟩ := kids_at hfr hk
          obtain ⟨c0, c1, c2, c3⟩ := hc
          obtain ⟨a2, q2, hv2⟩ := hkk.slice
          rw [hv2] at c3 hkk
          exact ⟨bk, a2, _, q2, hbk, HS.out bk hbS, ⟨c0, c1, c2, c3⟩, hkk⟩
        obtain ⟨bk, a2, l2, q2, rfl, hbk, ⟨c0, c1, c2, c3⟩, hk2⟩ := hcell
        have hi0 : (0 : Int) ≤ (i : Int) := by omega
        have hi1 : (i : Int) < (kids.length : Int) := by omega
        have HK2 := Lib.hid hk2
        have hkz := szs_get hk
        have hks := smalls_get hsm'.2 hk
        have hkt := prs_take hk
        have hle := prs_le kids (i + 1)
        have HKT := Lib.hid hkt
        have HLE : Hid ((pre ++ prs (kids.take i)).length + 1 + (pr k).length ≤ 9000000 ) := by
          have := HLP.out
          rw [hkt] at hle
          show _ ≤ _
          simp at hle ⊢
          omega
        have lbk : bk < wr.heap.size := by omega
        clear hk2 hk hkt hle
        go_wp2_with fail
        refine (bwriteK B b (pre ++ prs (kids.take i)) 32 _ (BR.out.alloc' (.cells #[vs k.op, vs k.text, .int .i64 k.pos, .slice a2 l2 q2] 25)) (by have := HLE.out; omega)).mono ?_
        rintro e v6 ⟨rfl, b6, l6, k6⟩
        have E6 := Lib.hid b6
        have Y6 := Lib.hid (k6 _ _ _ (by omega) (by decide) (Blk.new wr 25 #[vs k.op, vs k.text, .int .i64 k.pos, .slice a2 l2 q2]))
        have F6 := Lib.hid (k6 _ _ _ hne (by decide) (XR.out.alloc (.cells #[vs k.op, vs k.text, .int .i64 k.pos, .slice a2 l2 q2] 25)))
        have G6 := ((LR.alloc (by omega) (.cells #[vs k.op, vs k.text, .int .i64 k.pos, .slice a2 l2 q2] 25)).trans l6)
        have J6 := (KR.trans (Keep.alloc b wr (.cells #[vs k.op, vs k.text, .int .i64 k.pos, .slice a2 l2 q2] 25))).trans k6
        have hl6 : Below B wr v6 := ((Below.refl B wr).alloc (by omega) _).trans l6
        have T6 := Lib.hid (HK2.out.frame (w' := v6) (S' := S) (fun i hi _ => ⟨hl6.block i (HS.out i hi), hi⟩))
        have hy6 := Y6.out.lt
        obtain ⟨y0, y1, y2, y3⟩ := Y6.out.four
        clear b6 l6 k6 c0 c1 c2 c3 hl6
        go_wp2_with fail
        refine (IH.out k (by omega) hks v6 B b _ a2 l2 q2 S E6.out T6.out HS.out (by have := HLE.out; simp at this ⊢; omega)).mono ?_
        rintro e v7 ⟨rfl, b7, l7, k7⟩
        have E7 := Lib.hid b7
        have F7 := Lib.hid (k7 _ _ _ hne (by decide) F6.out)
        have G7 := G6.trans l7
        have J7 := J6.trans k7
        clear b7 l7 k7 y0 y1 y2 y3
        go_wp2_with fail
        go_roundg (gk - 1)
        case measure => omega
        case rel => exact ⟨i + 1, by go_num, by omega, by rw [HKT.out]; simpa using E7.out, G7, J7, F7.out, by omega⟩
      · have kl : decide ((i : Int) < ((kids.length : Nat) : Int)) = false := by simpa using hlt
        have hie : kids.take i = kids := List.take_of_length_le (by omega)
        have BE : Hid (BAt wr B b (pre ++ prs kids)) := by
          have := BR.out
          rw [hie] at this
          exact this
        clear hie
        go_wp2_with fail
        refine (bwriteK B b (pre ++ prs kids) 41 _ BE.out (by have := HLP.out; simp; omega)).mono ?_
        rintro e v8 ⟨rfl, b8, l8, k8⟩
        go_wp2_with fail
        go_end0
        exact ⟨rfl, HP.out ▸ b8, LR.trans l8, KR.trans k8⟩

end Go.Proofs.YtgnmfaeonijogaaGreatDoor
