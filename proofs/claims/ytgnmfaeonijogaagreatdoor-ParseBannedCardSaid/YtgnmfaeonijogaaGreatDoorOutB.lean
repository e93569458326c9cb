/- A list of the call's own: an element's cells; its second element renamed. -/
import Derived.Test.YtgnmfaeonijogaaGreatDoorPrimB
namespace Go.Proofs.YtgnmfaeonijogaaGreatDoor
open Go.RowKit

theorem OutAt.open_ {w : World} {lo : Nat} {v : Value} {ks : List Pp.Node} (h : OutAt w lo v ks) (hne : ks ≠ []) :
    ∃ (g q : Nat) (cur : Array Value) (l : List (Pp.Node × Value)), v = .slice (some ⟨g, 0, none⟩) ks.length q ∧ l.map (·.1) = ks ∧ lo ≤ g ∧ w.heap[g]? = some (.cells cur 25 (0, 0)) ∧ ks.length ≤ q ∧ q ≤ maxLen ∧ cur.size = q * 4 ∧
      cur.toList.take (ks.length * 4) = rowOf l ∧ ∀ n k, (n, k) ∈ l → KidsAt w (fun b => lo ≤ b ∧ b ≠ g) k n.kids := by
  obtain ⟨l, rfl, h2, h3⟩ := h
  rcases h2.2 with ⟨rfl, h0⟩ | ⟨g, q, cur, rfl, hlo, hh, hn, hcap, hsz, hx⟩
  · have : l = [] := List.length_eq_zero_iff.1 h0
    subst this
    simp at hne
  · refine ⟨g, q, cur, l, by simp, rfl, hlo, hh, by simpa using hn, hcap, hsz, by simpa using hx, fun n k hm => (h3 n k hm).mono fun b hb _ => ⟨hb.1, fun e => hb.2 (by simp [Value.ownBlock, e])⟩⟩

/-- An element's cells. -/
theorem OutAt.elem {w : World} {lo : Nat} {v : Value} {ks : List Pp.Node} (h : OutAt w lo v ks) (i : Nat) (n : Pp.Node) (hn : ks[i]? = some n) :
    ∃ (g q : Nat) (a : Option Addr) (kl kq : Nat), v = .slice (some ⟨g, 0, none⟩) ks.length q ∧ lo ≤ g ∧ g < w.heap.size ∧ w.cell? ⟨g, i * 4, none⟩ = some (vs n.op) ∧ w.cell? ⟨g, i * 4 + 1, none⟩ = some (vs n.text) ∧ w.cell? ⟨g, i * 4 + 2, none⟩ = some (.int .i64 n.pos) ∧
      w.cell? ⟨g, i * 4 + 3, none⟩ = some (.slice a kl kq) ∧ (∀ o, w.frozen? ⟨g, o, none⟩ = false) := by
  have hil : i < ks.length := (List.getElem?_eq_some_iff.1 hn).1
  obtain ⟨g, q, cur, l, rfl, hl, hlo, hh, hnq, hq, hsz, hx, hk⟩ := h.open_ (by intro e; subst e; simp at hn)
  have hli : i < l.length := by rw [← hl] at hil; simpa using hil
  have hget : l[i]? = some (l[i].1, l[i].2) := by simp [hli]
  have hn1 : l[i].1 = n := by
    have : (l.map (·.1))[i]? = some n := by rw [hl]; exact hn
    simpa [hli] using this
  have hr := rowOf_get l i l[i].1 l[i].2 hget
  rw [hn1] at hr
  obtain ⟨a, kq, hs⟩ := (hk l[i].1 l[i].2 (List.mem_of_getElem? hget)).slice
  rw [hs] at hr
  have hcell : ∀ j u, (rowOf l)[j]? = some u → w.cell? ⟨g, j, none⟩ = some u := by
    intro j u hu
    rw [← hx] at hu
    have hj : j < (cur.toList.take (ks.length * 4)).length := (List.getElem?_eq_some_iff.1 hu).1
    rw [List.getElem?_take, if_pos (by simp at hj; omega)] at hu
    rw [World.cell?, hh]
    simpa using hu
  exact ⟨g, q, a, _, kq, rfl, hlo, Blk.lt (t := 25) (cs := cur) hh, hcell _ _ hr.1, hcell _ _ hr.2.1, hcell _ _ hr.2.2.1, hcell _ _ hr.2.2.2, fun o => Blk.frozen (t := 25) (cs := cur) hh o⟩

theorem rowOf_setName (a b : Pp.Node × Value) (r : List (Pp.Node × Value)) : (rowOf (a :: b :: r)).set 4 (vs [110, 97, 109, 101]) = rowOf (a :: (.mk [110, 97, 109, 101] b.1.text b.1.pos b.1.kids, b.2) :: r) := by
  obtain ⟨a1, a2⟩ := a
  obtain ⟨b1, b2⟩ := b
  simp [rowOf, Pp.Node.op, Pp.Node.text, Pp.Node.pos]

/-- The second element is renamed. -/
theorem OutAt.setName {w : World} {lo g q len : Nat} {ks : List Pp.Node} (h : OutAt w lo (.slice (some ⟨g, 0, none⟩) len q) ks) (h2 : 2 ≤ ks.length) : OutAt (w.setCell ⟨g, 4, none⟩ (vs [110, 97, 109, 101])) lo (.slice (some ⟨g, 0, none⟩) len q) (Pp.setName ks) := by
  obtain ⟨g', q', cur, l, hv, hl, hlo, hh, hnq, hq, hsz, hx, hk⟩ := h.open_ (by intro e; subst e; simp at h2)
  injection hv with e1 e2 e3
  injection e1 with e1
  injection e1 with e1
  subst e1 e2 e3
  match l, hl with
  | [], hl => simp at hl; subst hl; simp at h2
  | [a], hl => simp at hl; subst hl; simp at h2
  | a :: b :: r, hl =>
    have hks : Pp.setName ks = (a :: (.mk [110, 97, 109, 101] b.1.text b.1.pos b.1.kids, b.2) :: r).map (·.1) := by rw [← hl]; rfl
    have hlen : (a :: (Pp.Node.mk [110, 97, 109, 101] b.1.text b.1.pos b.1.kids, b.2) :: r).length = ks.length := by rw [← hl]; simp
    have hh' : (w.setCell ⟨g, 4, none⟩ (vs [110, 97, 109, 101])).heap[g]? = some (.cells (cur.setIfInBounds 4 (vs [110, 97, 109, 101])) 25 (0, 0)) := Blk.set_ (t := 25) (cs := cur) hh 4 _
    rw [hks]
    refine ⟨_, rfl, ⟨by rw [rowOf_length], .inr ⟨g, q, _, by rw [hlen], hlo, hh', by rw [hlen]; exact hnq, hq, by simpa using hsz, ?_⟩⟩, ?_⟩
    · rw [hlen, Array.toList_setIfInBounds, ← rowOf_setName, ← hx, List.take_set]
    · intro n k hm
      have hk' : KidsAt w (fun b => lo ≤ b ∧ b ≠ g) k n.kids := by
        simp only [List.mem_cons, Prod.mk.injEq] at hm
        rcases hm with ⟨rfl, rfl⟩ | ⟨rfl, rfl⟩ | hm
        · exact hk _ _ (by simp)
        · exact hk b.1 b.2 (by simp)
        · exact hk _ _ (by simp [hm])
      exact (hk'.kp (b := g) ((Kp.refl g w).setB 4 _) (by simp)).mono fun b hb _ => ⟨hb.1, fun e => hb.2 (by simpa [Value.ownBlock] using e.symm)⟩

theorem wrong_err (t : Pp.Tok) (s : Pp.PS) : ¬ (Pp.wrong t true 9 s).err = 0 := by
  unfold Pp.wrong
  split
  · simp
  · rename_i h
    intro e
    exact h ⟨rfl, e⟩

theorem setName_len (l : List Pp.Node) : (Pp.setName l).length = l.length := by
  match l with
  | [] => rfl
  | [a] => rfl
  | a :: b :: r => rfl

end Go.Proofs.YtgnmfaeonijogaaGreatDoor
