/- A list of nodes of the call's own beside one block that is none of its: more nodes appended at once. -/
import Derived.Test.YtgnmfaeonijogaaGreatDoorPrimB
namespace Go.Proofs.YtgnmfaeonijogaaGreatDoor
open Go.RowKit

def OutX (w : World) (lo x : Nat) (v : Value) (ks : List Pp.Node) : Prop :=
  ∃ l : List (Pp.Node × Value), l.map (·.1) = ks ∧ w.ownsRow lo 25 4 v l.length (rowOf l) ∧ v.ownBlock ≠ some x ∧ ∀ n k, (n, k) ∈ l → KidsAt w (fun b => lo ≤ b ∧ v.ownBlock ≠ some b ∧ b ≠ x) k n.kids

theorem OutX.out {w : World} {lo x : Nat} {v : Value} {ks : List Pp.Node} (h : OutX w lo x v ks) : OutAt w lo v ks := by
  obtain ⟨l, h1, h2, h3, h4⟩ := h
  exact ⟨l, h1, h2, fun n k hm => (h4 n k hm).mono fun b hb _ => ⟨hb.1, hb.2.1⟩⟩
theorem OutX.kids {w : World} {lo x : Nat} {v : Value} {ks : List Pp.Node} (h : OutX w lo x v ks) : KidsAt w (fun b => lo ≤ b ∧ b ≠ x) v ks := by
  obtain ⟨l, rfl, h2, h0, h3⟩ := h
  rcases h2.2 with ⟨rfl, hz⟩ | ⟨g, cap, cur, rfl, hlo, hh, hn, hcap, hsz, hx⟩
  · have : l = [] := List.length_eq_zero_iff.1 hz
    subst this
    exact .nil _ _
  · rcases List.eq_nil_or_concat l with e | e
    · subst e; exact .nil _ _
    · refine .of_cells l (by rcases e with ⟨_, _, rfl⟩; simp) ⟨hlo, fun e => h0 (by simp [Value.ownBlock, e])⟩ (fun j u hu => ?_) (fun n k hm => (h3 n k hm).mono fun b hb _ => ⟨hb.1, hb.2.2⟩)
      rw [← hx] at hu
      rw [World.cell?, hh]
      have : (cur.toList.take (l.length * 4))[j]? = cur.toList[j]? := by
        have hj : j < (cur.toList.take (l.length * 4)).length := (List.getElem?_eq_some_iff.1 hu).1
        rw [List.getElem?_take]; simp at hj; rw [if_pos (by omega)]
      rw [this] at hu
      simpa using hu
theorem OutX.kp {w w' : World} {lo x b : Nat} {v : Value} {ks : List Pp.Node} (h : OutX w lo x v ks) (k : Kp b w w') (hb : b < lo ∨ b = x) : OutX w' lo x v ks := by
  obtain ⟨l, h1, h2, h0, h3⟩ := h
  have hne : ∀ g, v.ownBlock = some g → g ≠ b := by
    intro g hg e
    subst e
    rcases hb with hb | hb
    · have := ownRow_lt h2 hg; omega
    · subst hb; exact h0 hg
  exact ⟨l, h1, ownRow_block h2 (fun g hg => k.block g (ownRow_lt h2 hg).2 (hne g hg)), h0, fun n q hn => (h3 n q hn).kp k (by intro hS; rcases hb with hb | hb <;> omega)⟩
theorem OutX.alloc {w : World} {lo x : Nat} {v : Value} {ks : List Pp.Node} (h : OutX w lo x v ks) (o : Obj) : OutX (w.alloc o) lo x v ks := by
  obtain ⟨l, h1, h2, h0, h3⟩ := h
  exact ⟨l, h1, ownRow_block h2 (fun g hg => Below.heap_alloc _ _ _ (ownRow_lt h2 hg).2), h0, fun n q hn => (h3 n q hn).alloc o⟩
theorem OutX.drew {w : World} {lo x : Nat} {v : Value} {ks : List Pp.Node} (h : OutX w lo x v ks) : OutX w.drew lo x v ks := by
  obtain ⟨l, h1, h2, h0, h3⟩ := h
  exact ⟨l, h1, ownRow_block h2 (fun g _ => rfl), h0, fun n q hn => (h3 n q hn).drew⟩
theorem OutX.len {w : World} {lo x : Nat} {v : Value} {ks : List Pp.Node} (h : OutX w lo x v ks) : ∃ a c, v = .slice a ks.length c := h.out.len
/-- A row just laid. -/
theorem OutX.of_blk {w : World} {lo x g : Nat} (l : List (Pp.Node × Value)) (c : Nat) (hc : c = l.length) (hl : l.length ≤ 1000000) (hlo : lo ≤ g) (hx : g ≠ x) (cs : Array Value) (hcs : cs = (rowOf l).toArray) (h : Blk w g 25 cs)
    (hk : ∀ n k, (n, k) ∈ l → KidsAt w (fun b => lo ≤ b ∧ g ≠ b ∧ b ≠ x) k n.kids) : OutX w lo x (.slice (some ⟨g, 0, none⟩) l.length c) (l.map (·.1)) := by
  subst hc hcs
  refine ⟨l, rfl, ⟨by rw [rowOf_length], .inr ⟨g, l.length, _, rfl, hlo, h, Nat.le_refl _, by unfold maxLen; omega, by simp [rowOf_length], ?_⟩⟩, by simp [Value.ownBlock]; omega, fun n k hm => (hk n k hm).mono fun b hb _ => ⟨hb.1, by simp [Value.ownBlock]; omega, hb.2.2⟩⟩
  rw [← rowOf_length]
  simp

theorem OutX.more {w w' : World} {lo x : Nat} {v v' : Value} {l l2 : List (Pp.Node × Value)} (hx : x < w.heap.size)
    (h3 : ∀ n k, (n, k) ∈ l ++ l2 → KidsAt w (fun b => lo ≤ b ∧ v.ownBlock ≠ some b ∧ b ≠ x) k n.kids)
    (hown : w'.ownsRow lo 25 4 v' (l.length + l2.length) (rowOf l ++ rowOf l2)) (hg : w.grownBy w' v.ownBlock) (hv : v'.ownBlock = v.ownBlock ∨ v'.ownBlock = some w.heap.size) (hvx : v.ownBlock ≠ some x) :
    OutX w' lo x v' (l.map (·.1) ++ l2.map (·.1)) := by
  have fr : ∀ b, (lo ≤ b ∧ v.ownBlock ≠ some b ∧ b ≠ x) → b < w.heap.size → w'.heap[b]? = w.heap[b]? ∧ (lo ≤ b ∧ v'.ownBlock ≠ some b ∧ b ≠ x) := by
    intro b hb hl
    refine ⟨hg.block b hl (fun e => hb.2.1 e.symm), hb.1, ?_, hb.2.2⟩
    rcases hv with e | e <;> rw [e]
    · exact hb.2.1
    · simp; omega
  refine ⟨l ++ l2, by simp, by rw [rowOf_append]; simpa using hown, ?_, fun n' k' hm => (h3 n' k' hm).frame fr⟩
  rcases hv with e | e <;> rw [e]
  · exact hvx
  · simp; omega

theorem oneCell_row (l : List (Pp.Node × Value)) (h : ∀ n k, (n, k) ∈ l → k.oneCell' = true) : ∀ u ∈ rowOf l, u.oneCell' = true := by
  induction l with
  | nil => intro u hu; simp [rowOf] at hu
  | cons p r ih =>
    obtain ⟨n, k⟩ := p
    intro u hu
    simp only [rowOf, List.mem_cons] at hu
    rcases hu with rfl | rfl | rfl | rfl | hu
    · rfl
    · rfl
    · rfl
    · exact h n _ (by simp)
    · exact ih (fun n k hm => h n k (by simp [hm])) u hu

/-- What an append leaves. -/
def AppX (w : World) (lo x : Nat) (v : Value) (ks : List Pp.Node) (v' : Value) (w' : World) : Prop :=
  OutX w' lo x v' ks ∧ w.grownBy w' v.ownBlock ∧ (∀ k, v.ownBlock = some k → lo ≤ k ∧ k ≠ x)

theorem run_append_x (w : World) (lo x : Nat) (v : Value) (ks : List Pp.Node) (l2 : List (Pp.Node × Value)) (s : Value) (hout : OutX w lo x v ks) (hne : v ≠ .slice none 0 0) (hxl : x < w.heap.size)
    (hs : (∃ c, s = .slice none 0 c ∧ l2 = []) ∨ ∃ g c, s = .slice (some ⟨g, 0, none⟩) l2.length c ∧ ∀ j u, (rowOf l2)[j]? = some u → w.cell? ⟨g, j, none⟩ = some u)
    (hk : ∀ n k, (n, k) ∈ l2 → KidsAt w (fun b => lo ≤ b ∧ v.ownBlock ≠ some b ∧ b ≠ x) k n.kids) (hlen : ks.length + l2.length < 2000000) (hbase : lo ≤ w.heap.size) :
    ∃ v' w', (Builtin.append_ #[23, 23] 23 #[v, s]).run Tryz.prog w = .ok v' w' ∧ AppX w lo x v (ks ++ l2.map (·.1)) v' w' := by
  obtain ⟨l, rfl, h2, h0, h3⟩ := hout
  obtain ⟨i0, hi, hz0, hz1, hz2⟩ := info_parts node_info
  simp only [List.length_map] at hlen
  have hkk : ∀ n k, (n, k) ∈ l ++ l2 → KidsAt w (fun b => lo ≤ b ∧ v.ownBlock ≠ some b ∧ b ≠ x) k n.kids := by
    intro n k hm
    rcases List.mem_append.1 hm with hm | hm
    · exact h3 n k hm
    · exact hk n k hm
  have hown : ∀ k, v.ownBlock = some k → lo ≤ k ∧ k ≠ x := fun q hq => ⟨(ownRow_lt h2 hq).1, fun e => h0 (e ▸ hq)⟩
  rcases hs with ⟨c, rfl, rfl⟩ | ⟨g, c, rfl, hc⟩
  · refine ⟨v, w, ?_, .more hxl hkk (by simpa [rowOf] using h2) (World.grownBy.refl w _) (.inl rfl) h0, World.grownBy.refl w _, hown⟩
    rcases h2.2 with ⟨rfl, _⟩ | ⟨g, cap, cur, rfl, hlo, hh, hn, hcap, hsz, hx⟩
    · exact absurd rfl hne
    · simp [Builtin.append_, run_underlying Tryz.underlying23, sizeOf, typeInfo, hi, Builtin.lenOf, Builtin.firstCells, loadCells, hn, storeCells]
  · obtain ⟨v', w', hr, ho, hgr, _, hv⟩ := run_append_own_at (P := Tryz.prog) w lo 23 23 25 i0 _ 4 64 Tryz.underlying23 hi hz0 hz1 hz2 rfl (by omega) v l.length (rowOf l) h2 ⟨g, 0, none⟩ l2.length c (rowOf l2) (by rw [rowOf_length])
      (by
        intro j u hu
        have := hc j u hu
        cases j with
        | zero => simpa [Addr.add] using this
        | succ j => simpa [Addr.add] using this)
      (oneCell_row l2 (by intro n k hm; obtain ⟨a, c, rfl⟩ := (hk n k hm).slice; rfl))
      (by unfold maxLen; omega) (by omega) hbase
    exact ⟨v', w', hr, .more hxl hkk ho hgr hv h0, hgr, hown⟩

section
variable {o : Oper} {a : Act} {K : Act → World → Prop} {Q : Exit → Act → World → Prop} {ops : Array Oper} {rest : List Oper} (w : World)
theorem wp_append_x (s y : Operand) (ho : o.op = .call { callee := .builtin .append, args := #[s, y], argTypes := #[23, 23] }) (hot : o.type = 23)
    (lo x : Nat) (v : Value) (ks : List Pp.Node) (l2 : List (Pp.Node × Value)) (sv : Value) (hs : a.eval s = v) (hy : a.eval y = sv) (hout : OutX w lo x v ks) (hne : v ≠ .slice none 0 0) (hxl : x < w.heap.size)
    (hsv : (∃ c, sv = .slice none 0 c ∧ l2 = []) ∨ ∃ g c, sv = .slice (some ⟨g, 0, none⟩) l2.length c ∧ ∀ j u, (rowOf l2)[j]? = some u → w.cell? ⟨g, j, none⟩ = some u)
    (hk : ∀ n k, (n, k) ∈ l2 → KidsAt w (fun b => lo ≤ b ∧ v.ownBlock ≠ some b ∧ b ≠ x) k n.kids) (hlen : ks.length + l2.length < 2000000) (hbase : lo ≤ w.heap.size)
    (h : ∀ v' w', AppX w lo x v (ks ++ l2.map (·.1)) v' w' → K (a.put o.dst v') w') : o.wp Tryz.prog a w K Q := by
  obtain ⟨v', w', hrun, h1⟩ := run_append_x w lo x v ks l2 sv hout hne hxl hsv hk hlen hbase
  unfold Oper.wp execOp
  simp only [ho, hot, resolve, invoke, builtin, Sem.run_bind, Sem.run_pure, Result.andThen_ok, List.map_toArray, List.map_cons, List.map_nil, hs, hy, hrun]
  exact h v' w' h1
theorem wpList_append_x (hgd : o.guard = none) (s y : Operand) (ho : o.op = .call { callee := .builtin .append, args := #[s, y], argTypes := #[23, 23] }) (hot : o.type = 23)
    (lo x : Nat) (v : Value) (ks : List Pp.Node) (l2 : List (Pp.Node × Value)) (sv : Value) (hs : a.eval s = v) (hy : a.eval y = sv) (hout : OutX w lo x v ks) (hne : v ≠ .slice none 0 0) (hxl : x < w.heap.size)
    (hsv : (∃ c, sv = .slice none 0 c ∧ l2 = []) ∨ ∃ g c, sv = .slice (some ⟨g, 0, none⟩) l2.length c ∧ ∀ j u, (rowOf l2)[j]? = some u → w.cell? ⟨g, j, none⟩ = some u)
    (hk : ∀ n k, (n, k) ∈ l2 → KidsAt w (fun b => lo ≤ b ∧ v.ownBlock ≠ some b ∧ b ≠ x) k n.kids) (hlen : ks.length + l2.length < 2000000) (hbase : lo ≤ w.heap.size)
    (h : ∀ v' w', AppX w lo x v (ks ++ l2.map (·.1)) v' w' → wpList Tryz.prog ops Q rest (a.put o.dst v') w') : wpList Tryz.prog ops Q (o :: rest) a w :=
  wpList_plain hgd fun _ hK => wp_append_x w s y ho hot lo x v ks l2 sv hs hy hout hne hxl hsv hk hlen hbase fun v' w' h1 => hK _ _ (h v' w' h1)
theorem step_append_x {E : Prop} (hgd : o.guard = none) (s y : Operand) (ho : o.op = .call { callee := .builtin .append, args := #[s, y], argTypes := #[23, 23] }) (hot : o.type = 23)
    (lo x : Nat) (v : Value) (ks : List Pp.Node) (l2 : List (Pp.Node × Value)) (sv : Value) (hs : a.eval s = v) (hy : a.eval y = sv) (hout : OutX w lo x v ks) (hne : v ≠ .slice none 0 0) (hxl : x < w.heap.size)
    (hsv : (∃ c, sv = .slice none 0 c ∧ l2 = []) ∨ ∃ g c, sv = .slice (some ⟨g, 0, none⟩) l2.length c ∧ ∀ j u, (rowOf l2)[j]? = some u → w.cell? ⟨g, j, none⟩ = some u)
    (hk : ∀ n k, (n, k) ∈ l2 → KidsAt w (fun b => lo ≤ b ∧ v.ownBlock ≠ some b ∧ b ≠ x) k n.kids) (hlen : ks.length + l2.length < 2000000) (hbase : lo ≤ w.heap.size)
    (h : ∀ v' w', AppX w lo x v (ks ++ l2.map (·.1)) v' w' → K (a.put o.dst v') w') : if Region.wanted o (yielded ops a.tmps) = true then Oper.wp Tryz.prog o a w K Q else E := by
  have hw : Region.wanted o (yielded ops a.tmps) = true := by simp [Region.wanted, hgd]
  rw [if_pos hw]
  exact wp_append_x w s y ho hot lo x v ks l2 sv hs hy hout hne hxl hsv hk hlen hbase h
end
end Go.Proofs.YtgnmfaeonijogaaGreatDoor
