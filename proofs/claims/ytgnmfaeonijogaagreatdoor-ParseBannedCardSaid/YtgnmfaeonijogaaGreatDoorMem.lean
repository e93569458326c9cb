/- Words for memory: a block known whole, a world that is kept but for one block, trees in memory, a list that is being built, the parser's state in memory. -/
import Derived.Test.YtgnmfaeonijogaaGreatDoorRows
import Derived.Test.YtgnmfaeonijogaaGreatDoorPure
import Derived.WalkKit
import Derived.WalkSpells
import Derived.WalkLawsBesides
import Derived.Laws.Rows
import Derived.Deep.Draws
import Derived.Maps.AppendAt
import Derived.Deep.AppendLies
import Derived.RegionTactic
import Derived.OwnWalk
namespace Go.Proofs.YtgnmfaeonijogaaGreatDoor
open Go.RowKit

/-- A text as a value. -/
@[go_sem] abbrev vs (l : Pp.Bytes) : Value := .string ⟨l.toArray⟩

/-! ### A block known whole -/
def Blk (w : World) (g : Nat) (t : TypeId) (cs : Array Value) : Prop := w.heap[g]? = some (.cells cs t (0, 0))

section
variable {w w' : World} {g : Nat} {t : TypeId} {cs : Array Value}
theorem Blk.lt (h : Blk w g t cs) : g < w.heap.size := by
  rcases Nat.lt_or_ge g w.heap.size with hlt | hge
  · exact hlt
  · unfold Blk at h; rw [Array.getElem?_eq_none hge] at h; cases h
theorem Blk.cell (h : Blk w g t cs) (i : Nat) : w.cell? ⟨g, i, none⟩ = cs[i]? := cell_of_row w g i cs t (0, 0) h
theorem Blk.frozen (h : Blk w g t cs) (i : Nat) : w.frozen? ⟨g, i, none⟩ = false := by
  unfold Blk at h
  simp [World.frozen?, h]
theorem Blk.new (w : World) (t : TypeId) (cs : Array Value) : Blk (w.alloc (.cells cs t)) w.heap.size t cs := heap_alloc_new w _
theorem Blk.drew (h : Blk w g t cs) : Blk w.drew g t cs := h
theorem Blk.drewN (h : Blk w g t cs) (n : Nat) : Blk (w.drewN n) g t cs := h
theorem Blk.alloc (h : Blk w g t cs) (o : Obj) : Blk (w.alloc o) g t cs := (Below.heap_alloc w o g h.lt).trans h
theorem Blk.set_ (h : Blk w g t cs) (i : Nat) (u : Value) : Blk (w.setCell ⟨g, i, none⟩ u) g t (cs.setIfInBounds i u) := by
  unfold Blk at h ⊢
  simp [World.setCell, Array.getElem?_modify, h]
theorem Blk.far (h : Blk w g t cs) {p : Addr} (hp : g ≠ p.block) (u : Value) : Blk (w.setCell p u) g t cs := (Below.heap_setCell w p u g hp).trans h
theorem Blk.below {B : Nat} (h : Blk w g t cs) (hb : Below B w w') (hg : g < B) : Blk w' g t cs := (hb.block g hg).trans h
theorem Blk.grown {row : Option Nat} (h : Blk w g t cs) (hb : w.grownBy w' row) (hg : some g ≠ row) : Blk w' g t cs := (hb.block g h.lt hg).trans h
end

/-! ### A world that is kept but for block b: new blocks, and writes to b -/
structure Kp (b : Nat) (w w' : World) : Prop where
  os : w'.os = w.os
  tape : w'.tape = w.tape
  output : w'.output = w.output
  size : w.heap.size ≤ w'.heap.size
  block : ∀ k, k < w.heap.size → k ≠ b → w'.heap[k]? = w.heap[k]?

section
variable {b : Nat} {w w1 w2 : World}
theorem Kp.refl (b : Nat) (w : World) : Kp b w w := ⟨rfl, rfl, rfl, Nat.le_refl _, fun _ _ _ => rfl⟩
theorem Kp.trans (h : Kp b w w1) (k : Kp b w1 w2) : Kp b w w2 :=
  ⟨k.os.trans h.os, k.tape.trans h.tape, k.output.trans h.output, Nat.le_trans h.size k.size, fun i hi hb => (k.block i (Nat.lt_of_lt_of_le hi h.size) hb).trans (h.block i hi hb)⟩
theorem Kp.of_below (h : Below w.heap.size w w1) : Kp b w w1 := ⟨h.os, h.tape, h.output, h.size, fun k hk _ => h.block k hk⟩
theorem Kp.drew (h : Kp b w w1) : Kp b w w1.drew := ⟨h.os, h.tape, h.output, h.size, h.block⟩
theorem Kp.drewN (h : Kp b w w1) (n : Nat) : Kp b w (w1.drewN n) := ⟨h.os, h.tape, h.output, h.size, h.block⟩
theorem Kp.alloc (h : Kp b w w1) (o : Obj) : Kp b w (w1.alloc o) :=
  h.trans ⟨rfl, rfl, rfl, by simp, fun k hk _ => Below.heap_alloc _ _ _ hk⟩
theorem Kp.setCell (h : Kp b w w1) {p : Addr} (hp : p.block = b ∨ w.heap.size ≤ p.block) (u : Value) : Kp b w (w1.setCell p u) :=
  ⟨h.os, h.tape, h.output, by simp [World.setCell]; exact h.size, fun k hk hb => by
    rw [Below.heap_setCell _ _ _ _ (by rcases hp with e | e <;> omega)]; exact h.block k hk hb⟩
theorem Kp.setB (h : Kp b w w1) (k : Nat) (u : Value) : Kp b w (w1.setCell ⟨b, k, none⟩ u) := h.setCell (p := ⟨b, k, none⟩) (.inl rfl) u
theorem Kp.setN (h : Kp b w w1) {g : Nat} (hg : w.heap.size ≤ g) (k : Nat) (u : Value) : Kp b w (w1.setCell ⟨g, k, none⟩ u) := h.setCell (p := ⟨g, k, none⟩) (.inr hg) u
theorem Kp.grown (h : Kp b w w1) {row : Option Nat} (hg : w1.grownBy w2 row) (hr : ∀ k, row = some k → w.heap.size ≤ k) : Kp b w w2 :=
  ⟨hg.os.trans h.os, hg.tape.trans h.tape, hg.output.trans h.output, Nat.le_trans h.size hg.size, fun k hk hb =>
    (hg.block k (Nat.lt_of_lt_of_le hk h.size) (fun e => by have := hr k e.symm; omega)).trans (h.block k hk hb)⟩
theorem Kp.cell (h : Kp b w w1) {p : Addr} (hp : p.block < w.heap.size) (hb : p.block ≠ b) : w1.cell? p = w.cell? p := World.cell?_of_block (w := w) (h.block p.block hp hb)
theorem Kp.frozen (h : Kp b w w1) {p : Addr} (hp : p.block < w.heap.size) (hb : p.block ≠ b) : w1.frozen? p = w.frozen? p := World.frozen?_of_block (w := w) (h.block p.block hp hb)
theorem Blk.kp {g : Nat} {t : TypeId} {cs : Array Value} (h : Blk w g t cs) (k : Kp b w w1) (hb : g ≠ b) : Blk w1 g t cs := (k.block g h.lt hb).trans h
end
theorem lt_of_cell {w : World} {p : Addr} {v : Value} (h : w.cell? p = some v) : p.block < w.heap.size := by
  rcases Nat.lt_or_ge p.block w.heap.size with hlt | hge
  · exact hlt
  · simp only [World.cell?, Array.getElem?_eq_none hge] at h; cases h


/-! ### Trees in memory: a slice of nodes, and what is below each; S: the blocks that they may lie in -/
inductive KidsAt (w : World) (S : Nat → Prop) : Value → List Pp.Node → Prop
  | nil (a : Option Addr) (c : Nat) : KidsAt w S (.slice a 0 c) []
  | cons (b c : Nat) (ks : List Pp.Node) (kv : Nat → Value) (hne : ks ≠ []) (hb : S b)
      (hc : ∀ i n, ks[i]? = some n → w.cell? ⟨b, i * 4, none⟩ = some (vs n.op) ∧ w.cell? ⟨b, i * 4 + 1, none⟩ = some (vs n.text) ∧ w.cell? ⟨b, i * 4 + 2, none⟩ = some (.int .i64 n.pos) ∧ w.cell? ⟨b, i * 4 + 3, none⟩ = some (kv i))
      (hk : ∀ i n, ks[i]? = some n → KidsAt w S (kv i) n.kids) : KidsAt w S (.slice (some ⟨b, 0, none⟩) ks.length c) ks

/-- A node as a value. -/
@[go_sem] abbrev nv (n : Pp.Node) (k : Value) : Value := .agg #[vs n.op, vs n.text, .int .i64 n.pos, k]

theorem KidsAt.frame {w w' : World} {S S' : Nat → Prop} (hS : ∀ b, S b → b < w.heap.size → w'.heap[b]? = w.heap[b]? ∧ S' b) {v : Value} {ks : List Pp.Node} (h : KidsAt w S v ks) : KidsAt w' S' v ks := by
  induction h with
  | nil a c => exact .nil a c
  | cons b c ks kv hne hb hc hk ih =>
    have hlt : b < w.heap.size := by
      match ks, hne with
      | n :: r, _ => exact lt_of_cell (hc 0 n rfl).1
    obtain ⟨e, hs⟩ := hS b hb hlt
    have ec : ∀ o, w'.cell? ⟨b, o, none⟩ = w.cell? ⟨b, o, none⟩ := fun o => World.cell?_of_block (w := w) (a := ⟨b, o, none⟩) e
    refine .cons b c ks kv hne hs (fun i n hn => ?_) ih
    rw [ec, ec, ec, ec]
    exact hc i n hn
theorem KidsAt.mono {w : World} {S S' : Nat → Prop} (hS : ∀ b, S b → b < w.heap.size → S' b) {v : Value} {ks : List Pp.Node} (h : KidsAt w S v ks) : KidsAt w S' v ks :=
  h.frame fun b hb hl => ⟨rfl, hS b hb hl⟩
theorem KidsAt.kp {w w' : World} {b : Nat} {S : Nat → Prop} {v : Value} {ks : List Pp.Node} (h : KidsAt w S v ks) (k : Kp b w w') (hS : ¬ S b) : KidsAt w' S v ks :=
  h.frame fun i hi hl => ⟨k.block i hl (fun e => hS (e ▸ hi)), hi⟩
theorem KidsAt.slice {w : World} {S : Nat → Prop} {v : Value} {ks : List Pp.Node} (h : KidsAt w S v ks) : ∃ a c, v = .slice a ks.length c := by
  cases h with
  | nil a c => exact ⟨a, c, rfl⟩
  | cons b c ks kv hne hb hc hk => exact ⟨_, c, rfl⟩

/-- The cells of a row of nodes. -/
def rowOf : List (Pp.Node × Value) → List Value
  | [] => []
  | (n, k) :: r => vs n.op :: vs n.text :: .int .i64 n.pos :: k :: rowOf r
theorem rowOf_length (l : List (Pp.Node × Value)) : (rowOf l).length = l.length * 4 := by
  induction l with
  | nil => rfl
  | cons a r ih => simp only [rowOf, List.length_cons, ih]; omega
theorem rowOf_append (l r : List (Pp.Node × Value)) : rowOf (l ++ r) = rowOf l ++ rowOf r := by
  induction l with
  | nil => rfl
  | cons a l ih => simp [rowOf, ih]
theorem rowOf_get (l : List (Pp.Node × Value)) : ∀ (i : Nat) (n : Pp.Node) (k : Value), l[i]? = some (n, k) →
    (rowOf l)[i * 4]? = some (vs n.op) ∧ (rowOf l)[i * 4 + 1]? = some (vs n.text) ∧ (rowOf l)[i * 4 + 2]? = some (.int .i64 n.pos) ∧ (rowOf l)[i * 4 + 3]? = some k := by
  induction l with
  | nil => intro i n k h; simp at h
  | cons a r ih =>
    intro i n k h
    cases i with
    | zero => simp at h; subst h; simp [rowOf]
    | succ i =>
      have := ih i n k (by simpa using h)
      have e : (i + 1) * 4 = i * 4 + 4 := by omega
      simp only [rowOf, e]
      exact this

/-- A row of nodes out of a list with the values of their kids. -/
theorem KidsAt.of_cells {w : World} {S : Nat → Prop} {b c : Nat} (l : List (Pp.Node × Value)) (hne : l ≠ []) (hb : S b)
    (hc : ∀ j u, (rowOf l)[j]? = some u → w.cell? ⟨b, j, none⟩ = some u) (hk : ∀ n k, (n, k) ∈ l → KidsAt w S k n.kids) :
    KidsAt w S (.slice (some ⟨b, 0, none⟩) l.length c) (l.map (·.1)) := by
  have hl : l.length = (l.map (·.1)).length := by simp
  rw [hl]
  refine .cons b c _ (fun i => ((l[i]?).map (·.2)).getD .nilFunc) (by simpa using hne) hb (fun i n hn => ?_) (fun i n hn => ?_)
  · simp only [List.getElem?_map, Option.map_eq_some_iff] at hn
    obtain ⟨⟨n', k⟩, he, rfl⟩ := hn
    have hg := rowOf_get l i n' k he
    rw [he]
    exact ⟨hc _ _ hg.1, hc _ _ hg.2.1, hc _ _ hg.2.2.1, hc _ _ hg.2.2.2⟩
  · simp only [List.getElem?_map, Option.map_eq_some_iff] at hn
    obtain ⟨⟨n', k⟩, he, rfl⟩ := hn
    rw [he]
    exact hk n' k (List.mem_of_getElem? he)
theorem KidsAt.of_blk {w : World} {S : Nat → Prop} {b c : Nat} {t : TypeId} (l : List (Pp.Node × Value)) (hne : l ≠ []) (hb : S b) (h : Blk w b t (rowOf l).toArray)
    (hk : ∀ n k, (n, k) ∈ l → KidsAt w S k n.kids) : KidsAt w S (.slice (some ⟨b, 0, none⟩) l.length c) (l.map (·.1)) :=
  .of_cells l hne hb (fun j u hu => by rw [h.cell j]; simpa using hu) hk
theorem KidsAt.one {w : World} {S : Nat → Prop} {b c : Nat} {t : TypeId} {n1 : Pp.Node} {k1 : Value} (h : Blk w b t #[vs n1.op, vs n1.text, .int .i64 n1.pos, k1]) (hb : S b)
    (h1 : KidsAt w S k1 n1.kids) : KidsAt w S (.slice (some ⟨b, 0, none⟩) 1 c) [n1] :=
  .of_blk [(n1, k1)] (by simp) hb h (by simpa using h1)
theorem KidsAt.two {w : World} {S : Nat → Prop} {b c : Nat} {t : TypeId} {n1 n2 : Pp.Node} {k1 k2 : Value}
    (h : Blk w b t #[vs n1.op, vs n1.text, .int .i64 n1.pos, k1, vs n2.op, vs n2.text, .int .i64 n2.pos, k2]) (hb : S b)
    (h1 : KidsAt w S k1 n1.kids) (h2 : KidsAt w S k2 n2.kids) : KidsAt w S (.slice (some ⟨b, 0, none⟩) 2 c) [n1, n2] :=
  .of_blk [(n1, k1), (n2, k2)] (by simp) hb h (by simp; rintro _ _ (⟨rfl, rfl⟩ | ⟨rfl, rfl⟩) <;> assumption)
theorem KidsAt.three {w : World} {S : Nat → Prop} {b c : Nat} {t : TypeId} {n1 n2 n3 : Pp.Node} {k1 k2 k3 : Value}
    (h : Blk w b t #[vs n1.op, vs n1.text, .int .i64 n1.pos, k1, vs n2.op, vs n2.text, .int .i64 n2.pos, k2, vs n3.op, vs n3.text, .int .i64 n3.pos, k3]) (hb : S b)
    (h1 : KidsAt w S k1 n1.kids) (h2 : KidsAt w S k2 n2.kids) (h3 : KidsAt w S k3 n3.kids) : KidsAt w S (.slice (some ⟨b, 0, none⟩) 3 c) [n1, n2, n3] :=
  .of_blk [(n1, k1), (n2, k2), (n3, k3)] (by simp) hb h (by simp; rintro _ _ (⟨rfl, rfl⟩ | ⟨rfl, rfl⟩ | ⟨rfl, rfl⟩) <;> assumption)
theorem KidsAt.four {w : World} {S : Nat → Prop} {b c : Nat} {t : TypeId} {n1 n2 n3 n4 : Pp.Node} {k1 k2 k3 k4 : Value}
    (h : Blk w b t #[vs n1.op, vs n1.text, .int .i64 n1.pos, k1, vs n2.op, vs n2.text, .int .i64 n2.pos, k2, vs n3.op, vs n3.text, .int .i64 n3.pos, k3, vs n4.op, vs n4.text, .int .i64 n4.pos, k4]) (hb : S b)
    (h1 : KidsAt w S k1 n1.kids) (h2 : KidsAt w S k2 n2.kids) (h3 : KidsAt w S k3 n3.kids) (h4 : KidsAt w S k4 n4.kids) : KidsAt w S (.slice (some ⟨b, 0, none⟩) 4 c) [n1, n2, n3, n4] :=
  .of_blk [(n1, k1), (n2, k2), (n3, k3), (n4, k4)] (by simp) hb h (by simp; rintro _ _ (⟨rfl, rfl⟩ | ⟨rfl, rfl⟩ | ⟨rfl, rfl⟩ | ⟨rfl, rfl⟩) <;> assumption)

/-- A row of nodes, opened: its cells as a list. -/
theorem KidsAt.open_ {w : World} {S : Nat → Prop} {v : Value} {ks : List Pp.Node} (h : KidsAt w S v ks) : ∃ l : List (Pp.Node × Value), l.map (·.1) = ks ∧
    (∃ a c, v = .slice a l.length c ∧ (l ≠ [] → ∃ b, a = some ⟨b, 0, none⟩ ∧ S b ∧ ∀ j u, (rowOf l)[j]? = some u → w.cell? ⟨b, j, none⟩ = some u)) ∧ ∀ n k, (n, k) ∈ l → KidsAt w S k n.kids := by
  cases h with
  | nil a c => exact ⟨[], rfl, ⟨a, c, rfl, fun h => absurd rfl h⟩, by simp⟩
  | cons b c ks kv hne hb hc hk =>
    refine ⟨(ks.zipIdx).map fun x => (x.1, kv x.2), ?_, ⟨_, c, by simp, fun _ => ⟨b, rfl, hb, ?_⟩⟩, ?_⟩
    · simp [List.map_map, Function.comp_def]
    · intro j u hu
      have hj : j < (rowOf ((ks.zipIdx).map fun x => (x.1, kv x.2))).length := (List.getElem?_eq_some_iff.1 hu).1
      rw [rowOf_length] at hj
      simp at hj
      have hi : j / 4 < ks.length := by omega
      have hget : ((ks.zipIdx).map fun x => (x.1, kv x.2))[j / 4]? = some (ks[j / 4], kv (j / 4)) := by simp [hi]
      have g := rowOf_get _ _ _ _ hget
      have c := hc (j / 4) ks[j / 4] (by simp [hi])
      have hm : j % 4 = 0 ∨ j % 4 = 1 ∨ j % 4 = 2 ∨ j % 4 = 3 := by omega
      rcases hm with e | e | e | e
      · have : j = (j / 4) * 4 := by omega
        rw [this] at hu ⊢; rw [← hu, g.1]; exact c.1
      · have : j = (j / 4) * 4 + 1 := by omega
        rw [this] at hu ⊢; rw [← hu, g.2.1]; exact c.2.1
      · have : j = (j / 4) * 4 + 2 := by omega
        rw [this] at hu ⊢; rw [← hu, g.2.2.1]; exact c.2.2.1
      · have : j = (j / 4) * 4 + 3 := by omega
        rw [this] at hu ⊢; rw [← hu, g.2.2.2]; exact c.2.2.2
    · intro n k hm
      simp only [List.mem_map, Prod.mk.injEq] at hm
      obtain ⟨⟨x, i⟩, hx, rfl, rfl⟩ := hm
      have := List.mem_zipIdx_iff_getElem?.1 hx
      exact hk i x this

/-! ### A list of nodes that is being built: its row is the call's own, from block lo on -/
def OutAt (w : World) (lo : Nat) (v : Value) (ks : List Pp.Node) : Prop :=
  ∃ l : List (Pp.Node × Value), l.map (·.1) = ks ∧ w.ownsRow lo 25 4 v l.length (rowOf l) ∧ ∀ n k, (n, k) ∈ l → KidsAt w (fun b => lo ≤ b ∧ v.ownBlock ≠ some b) k n.kids

theorem ownRow_lt {w : World} {lo e size n g : Nat} {v : Value} {xs : List Value} (h : w.ownsRow lo e size v n xs) (hg : v.ownBlock = some g) : lo ≤ g ∧ g < w.heap.size := by
  rcases h.2 with ⟨rfl, _⟩ | ⟨g', cap, cur, rfl, hlo, hh, _⟩
  · simp [Value.ownBlock] at hg
  · have : g' = g := by simpa [Value.ownBlock] using hg
    subst this
    exact ⟨hlo, Blk.lt (t := e) (cs := cur) hh⟩
theorem ownRow_block {w w' : World} {lo e size n : Nat} {v : Value} {xs : List Value} (h : w.ownsRow lo e size v n xs) (hb : ∀ g, v.ownBlock = some g → w'.heap[g]? = w.heap[g]?) : w'.ownsRow lo e size v n xs := by
  obtain ⟨h1, h2⟩ := h
  refine ⟨h1, ?_⟩
  rcases h2 with h2 | ⟨g, cap, cur, hv, hg, hh, r⟩
  · exact .inl h2
  · exact .inr ⟨g, cap, cur, hv, hg, by rw [hb g (by rw [hv]; rfl)]; exact hh, r⟩
theorem OutAt.nil (w : World) (lo : Nat) : OutAt w lo (.slice none 0 0) [] := ⟨[], rfl, ⟨rfl, .inl ⟨rfl, rfl⟩⟩, by simp⟩
theorem OutAt.kp {w w' : World} {lo b : Nat} {v : Value} {ks : List Pp.Node} (h : OutAt w lo v ks) (k : Kp b w w') (hb : b < lo) : OutAt w' lo v ks := by
  obtain ⟨l, h1, h2, h3⟩ := h
  refine ⟨l, h1, ownRow_block h2 (fun g hg => ?_), fun n q hn => (h3 n q hn).kp k (by omega)⟩
  have := ownRow_lt h2 hg
  exact k.block g this.2 (by omega)
theorem OutAt.len {w : World} {lo : Nat} {v : Value} {ks : List Pp.Node} (h : OutAt w lo v ks) : ∃ a c, v = .slice a ks.length c := by
  obtain ⟨l, rfl, h2, h3⟩ := h
  rcases h2.2 with ⟨rfl, h0⟩ | ⟨g, cap, cur, rfl, _⟩
  · exact ⟨none, 0, by simp [h0]⟩
  · exact ⟨some ⟨g, 0, none⟩, cap, by simp⟩
theorem OutAt.kids {w : World} {lo : Nat} {v : Value} {ks : List Pp.Node} (h : OutAt w lo v ks) : KidsAt w (fun b => lo ≤ b) v ks := by
  obtain ⟨l, rfl, h2, h3⟩ := h
  rcases h2.2 with ⟨rfl, h0⟩ | ⟨g, cap, cur, rfl, hlo, hh, hn, hcap, hsz, hx⟩
  · have : l = [] := List.length_eq_zero_iff.1 h0
    subst this
    exact .nil _ _
  · rcases List.eq_nil_or_concat l with e | e
    · subst e; exact .nil _ _
    · refine .of_cells l (by rcases e with ⟨_, _, rfl⟩; simp) hlo (fun j u hu => ?_) (fun n k hm => (h3 n k hm).mono fun b hb _ => hb.1)
      rw [← hx] at hu
      rw [World.cell?, hh]
      have : (cur.toList.take (l.length * 4))[j]? = cur.toList[j]? := by
        have hj : j < (cur.toList.take (l.length * 4)).length := (List.getElem?_eq_some_iff.1 hu).1
        rw [List.getElem?_take]; simp at hj; rw [if_pos (by omega)]
      rw [this] at hu
      simpa using hu
theorem OutAt.lo_ {w : World} {lo g : Nat} {v : Value} {ks : List Pp.Node} (h : OutAt w lo v ks) (hg : v.ownBlock = some g) : lo ≤ g := by
  obtain ⟨l, rfl, h2, h3⟩ := h
  exact (ownRow_lt h2 hg).1
/-- One node more. -/
theorem OutAt.more {w w' : World} {lo : Nat} {v v' : Value} {l : List (Pp.Node × Value)} {n : Pp.Node} {k : Value}
    (h3 : ∀ n k, (n, k) ∈ l → KidsAt w (fun b => lo ≤ b ∧ v.ownBlock ≠ some b) k n.kids) (hk : KidsAt w (fun b => lo ≤ b ∧ v.ownBlock ≠ some b) k n.kids)
    (hown : w'.ownsRow lo 25 4 v' (l.length + 1) (rowOf l ++ rowOf [(n, k)])) (hg : w.grownBy w' v.ownBlock) (hv : v'.ownBlock = v.ownBlock ∨ v'.ownBlock = some w.heap.size) :
    OutAt w' lo v' (l.map (·.1) ++ [n]) := by
  have fr : ∀ b, (lo ≤ b ∧ v.ownBlock ≠ some b) → b < w.heap.size → w'.heap[b]? = w.heap[b]? ∧ (lo ≤ b ∧ v'.ownBlock ≠ some b) := by
    intro b hb hl
    refine ⟨hg.block b hl (fun e => hb.2 e.symm), hb.1, ?_⟩
    rcases hv with e | e <;> rw [e]
    · exact hb.2
    · simp; omega
  refine ⟨l ++ [(n, k)], by simp, by rw [rowOf_append]; simpa using hown, fun n' k' hm => ?_⟩
  simp only [List.mem_append, List.mem_singleton, Prod.mk.injEq] at hm
  rcases hm with hm | ⟨rfl, rfl⟩
  · exact (h3 n' k' hm).frame fr
  · exact hk.frame fr


theorem node_info : (Tryz.prog.info? 25).map (fun i => (i.zero, i.size, i.bytes)) = some (some (.agg #[.string ⟨#[]⟩, .string ⟨#[]⟩, .int .i64 0, .slice none 0 0]), 4, 64) := by kernel_rfl
theorem grown_kp {w w' : World} {row : Option Nat} (hg : w.grownBy w' row) (b : Nat) (h : ∀ k, row = some k → k = b) : Kp b w w' :=
  ⟨hg.os, hg.tape, hg.output, hg.size, fun k hk hb => hg.block k hk (fun e => hb (h k e.symm))⟩

/-- What an append of one node leaves: the list is longer by it; all old blocks are as they were, but for the list's own. -/
def Appended (w : World) (lo : Nat) (v : Value) (ks : List Pp.Node) (v' : Value) (w' : World) : Prop :=
  OutAt w' lo v' ks ∧ w.grownBy w' v.ownBlock ∧ (∀ k, v.ownBlock = some k → lo ≤ k) ∧ ∀ k, v'.ownBlock = some k → v.ownBlock = some k ∨ k = w.heap.size

theorem run_append_node (w : World) (lo : Nat) (v : Value) (ks : List Pp.Node) (n : Pp.Node) (k : Value) (g c : Nat) (hout : OutAt w lo v ks)
    (hg : w.cell? ⟨g, 0, none⟩ = some (vs n.op) ∧ w.cell? ⟨g, 1, none⟩ = some (vs n.text) ∧ w.cell? ⟨g, 2, none⟩ = some (.int .i64 n.pos) ∧ w.cell? ⟨g, 3, none⟩ = some k)
    (hk : KidsAt w (fun b => lo ≤ b ∧ v.ownBlock ≠ some b) k n.kids) (hlen : ks.length < 2000000) (hbase : lo ≤ w.heap.size) :
    ∃ v' w', (Builtin.append_ #[23, 23] 23 #[v, .slice (some ⟨g, 0, none⟩) 1 c]).run Tryz.prog w = .ok v' w' ∧ Appended w lo v (ks ++ [n]) v' w' := by
  obtain ⟨l, rfl, h2, h3⟩ := hout
  obtain ⟨i0, hi, hz0, hz1, hz2⟩ := info_parts node_info
  simp only [List.length_map] at hlen
  have hkone : k.oneCell' = true := by
    obtain ⟨a, c, rfl⟩ := hk.slice
    rfl
  obtain ⟨v', w', hr, ho, hgr, _, hv⟩ := run_append_own_at (P := Tryz.prog) w lo 23 23 25 i0 _ 4 64 Tryz.underlying23 hi hz0 hz1 hz2 rfl (by omega) v l.length (rowOf l) h2 ⟨g, 0, none⟩ 1 c (rowOf [(n, k)]) (by simp [rowOf])
    (by
      intro j u hu
      match j, hu with
      | 0, hu => simp [rowOf] at hu; subst hu; exact hg.1
      | 1, hu => simp [rowOf] at hu; subst hu; exact hg.2.1
      | 2, hu => simp [rowOf] at hu; subst hu; exact hg.2.2.1
      | 3, hu => simp [rowOf] at hu; subst hu; exact hg.2.2.2
      | j + 4, hu => simp [rowOf] at hu)
    (by intro u hu; simp [rowOf] at hu; rcases hu with rfl | rfl | rfl | rfl <;> first | rfl | exact hkone)
    (by unfold maxLen; omega) (by omega) hbase
  refine ⟨v', w', hr, .more h3 hk ho hgr hv, hgr, fun q hq => (ownRow_lt h2 hq).1, fun q hq => ?_⟩
  rcases hv with e | e
  · exact .inl (e ▸ hq)
  · rw [e] at hq; right; simpa using hq.symm

section
variable {o : Oper} {a : Act} {K : Act → World → Prop} {Q : Exit → Act → World → Prop} {ops : Array Oper} {rest : List Oper} (w : World)
theorem wp_append_node (s x : Operand) (ho : o.op = .call { callee := .builtin .append, args := #[s, x], argTypes := #[23, 23] }) (hot : o.type = 23)
    (lo : Nat) (v : Value) (ks : List Pp.Node) (n : Pp.Node) (k : Value) (g c : Nat) (hs : a.eval s = v) (hx : a.eval x = .slice (some ⟨g, 0, none⟩) 1 c) (hout : OutAt w lo v ks)
    (hg : w.cell? ⟨g, 0, none⟩ = some (vs n.op) ∧ w.cell? ⟨g, 1, none⟩ = some (vs n.text) ∧ w.cell? ⟨g, 2, none⟩ = some (.int .i64 n.pos) ∧ w.cell? ⟨g, 3, none⟩ = some k)
    (hk : KidsAt w (fun b => lo ≤ b ∧ v.ownBlock ≠ some b) k n.kids) (hlen : ks.length < 2000000) (hbase : lo ≤ w.heap.size)
    (h : ∀ v' w', Appended w lo v (ks ++ [n]) v' w' → K (a.put o.dst v') w') : o.wp Tryz.prog a w K Q := by
  obtain ⟨v', w', hrun, h1⟩ := run_append_node w lo v ks n k g c hout hg hk hlen hbase
  unfold Oper.wp execOp
  simp only [ho, hot, resolve, invoke, builtin, Sem.run_bind, Sem.run_pure, Result.andThen_ok, List.map_toArray, List.map_cons, List.map_nil, hs, hx, hrun]
  exact h v' w' h1
theorem wpList_append_node (hgd : o.guard = none) (s x : Operand) (ho : o.op = .call { callee := .builtin .append, args := #[s, x], argTypes := #[23, 23] }) (hot : o.type = 23)
    (lo : Nat) (v : Value) (ks : List Pp.Node) (n : Pp.Node) (k : Value) (g c : Nat) (hs : a.eval s = v) (hx : a.eval x = .slice (some ⟨g, 0, none⟩) 1 c) (hout : OutAt w lo v ks)
    (hg : w.cell? ⟨g, 0, none⟩ = some (vs n.op) ∧ w.cell? ⟨g, 1, none⟩ = some (vs n.text) ∧ w.cell? ⟨g, 2, none⟩ = some (.int .i64 n.pos) ∧ w.cell? ⟨g, 3, none⟩ = some k)
    (hk : KidsAt w (fun b => lo ≤ b ∧ v.ownBlock ≠ some b) k n.kids) (hlen : ks.length < 2000000) (hbase : lo ≤ w.heap.size)
    (h : ∀ v' w', Appended w lo v (ks ++ [n]) v' w' → wpList Tryz.prog ops Q rest (a.put o.dst v') w') : wpList Tryz.prog ops Q (o :: rest) a w :=
  wpList_plain hgd fun _ hK => wp_append_node w s x ho hot lo v ks n k g c hs hx hout hg hk hlen hbase fun v' w' h1 => hK _ _ (h v' w' h1)
theorem step_append_node {E : Prop} (hgd : o.guard = none) (s x : Operand) (ho : o.op = .call { callee := .builtin .append, args := #[s, x], argTypes := #[23, 23] }) (hot : o.type = 23)
    (lo : Nat) (v : Value) (ks : List Pp.Node) (n : Pp.Node) (k : Value) (g c : Nat) (hs : a.eval s = v) (hx : a.eval x = .slice (some ⟨g, 0, none⟩) 1 c) (hout : OutAt w lo v ks)
    (hg : w.cell? ⟨g, 0, none⟩ = some (vs n.op) ∧ w.cell? ⟨g, 1, none⟩ = some (vs n.text) ∧ w.cell? ⟨g, 2, none⟩ = some (.int .i64 n.pos) ∧ w.cell? ⟨g, 3, none⟩ = some k)
    (hk : KidsAt w (fun b => lo ≤ b ∧ v.ownBlock ≠ some b) k n.kids) (hlen : ks.length < 2000000) (hbase : lo ≤ w.heap.size)
    (h : ∀ v' w', Appended w lo v (ks ++ [n]) v' w' → K (a.put o.dst v') w') : if Region.wanted o (yielded ops a.tmps) = true then Oper.wp Tryz.prog o a w K Q else E := by
  have hw : Region.wanted o (yielded ops a.tmps) = true := by simp [Region.wanted, hgd]
  rw [if_pos hw]
  exact wp_append_node w s x ho hot lo v ks n k g c hs hx hout hg hk hlen hbase h
end

/-! ### The parser in memory -/
structure PC where
  bp : Nat
  bl : Nat
  cap : Nat
  T : List Pp.Tok

/-- What the tokens have to be. -/
structure PC.Ok (c : PC) : Prop where
  len : c.T.length ≤ 1000000
  last : ∀ (i : Nat), i + 1 = c.T.length → (c.T.getD i Pp.tok0).kind = 0
  text : ∀ (i : Nat) (t : Pp.Tok), c.T[i]? = some t → t.text.length ≤ 1000000
  small : c.bl < c.bp ∧ 4 < c.bp

structure PAt (c : PC) (w : World) (s : Pp.PS) : Prop where
  ok : c.Ok
  blk : Blk w c.bp 56 #[.slice (some ⟨c.bl, 0, none⟩) c.T.length c.cap, .int .i64 s.i, .int .i64 s.deep, .bool s.flat, .int .i64 s.err, .int .i64 s.bad]
  tok : ∀ (i : Nat) (t : Pp.Tok), c.T[i]? = some t → w.cell? ⟨c.bl, i * 3, none⟩ = some (.int .i64 t.kind) ∧ w.cell? ⟨c.bl, i * 3 + 1, none⟩ = some (vs t.text) ∧ w.cell? ⟨c.bl, i * 3 + 2, none⟩ = some (.int .i64 t.pos)
  most : ∃ m, w.cell? ⟨4, 0, none⟩ = some (.int .i64 m)
  lt : s.i < c.T.length
  deep : -1000000 ≤ s.deep ∧ s.deep ≤ 1000000

theorem PAt.turn {c : PC} {w w' : World} {s s' : Pp.PS} (h : PAt c w s) (k : Kp c.bp w w')
    (hb : Blk w' c.bp 56 #[.slice (some ⟨c.bl, 0, none⟩) c.T.length c.cap, .int .i64 s'.i, .int .i64 s'.deep, .bool s'.flat, .int .i64 s'.err, .int .i64 s'.bad])
    (hi : s'.i < c.T.length) (hd : -1000000 ≤ s'.deep ∧ s'.deep ≤ 1000000) : PAt c w' s' := by
  refine ⟨h.ok, hb, fun i t ht => ?_, ?_, hi, hd⟩
  · have g := h.tok i t ht
    have hl : c.bl < w.heap.size := lt_of_cell g.1
    have e : ∀ o, w'.cell? ⟨c.bl, o, none⟩ = w.cell? ⟨c.bl, o, none⟩ := fun o => k.cell (p := ⟨c.bl, o, none⟩) hl (by have := h.ok.small.1; simp; omega)
    rw [e, e, e]
    exact g
  · obtain ⟨m, hm⟩ := h.most
    exact ⟨m, (k.cell (p := ⟨4, 0, none⟩) (lt_of_cell hm) (by have := h.ok.small.2; simp; omega)).trans hm⟩
theorem PAt.below {c : PC} {w w' : World} {s : Pp.PS} (h : PAt c w s) (k : Below w.heap.size w w') : PAt c w' s :=
  h.turn (.of_below k) (h.blk.below k h.blk.lt) h.lt h.deep
theorem PAt.alloc {c : PC} {w : World} {s : Pp.PS} (h : PAt c w s) (o : Obj) : PAt c (w.alloc o) s := h.below ((Below.refl _ _).alloc (Nat.le_refl _) _)
theorem PAt.drew {c : PC} {w : World} {s : Pp.PS} (h : PAt c w s) : PAt c w.drew s := h.below (Below.refl _ _).drew
theorem PAt.drewN {c : PC} {w : World} {s : Pp.PS} (h : PAt c w s) (n : Nat) : PAt c (w.drewN n) s := h.below ⟨rfl, rfl, rfl, Nat.le_refl _, fun _ _ => rfl⟩
/-- A store into another block. -/
theorem PAt.far {c : PC} {w : World} {s : Pp.PS} (h : PAt c w s) {p : Addr} (hp : c.bp < p.block) (u : Value) : PAt c (w.setCell p u) s := by
  refine ⟨h.ok, h.blk.far (by omega) u, fun i t ht => ?_, ?_, h.lt, h.deep⟩
  · have g := h.tok i t ht
    have e : ∀ o, (w.setCell p u).cell? ⟨c.bl, o, none⟩ = w.cell? ⟨c.bl, o, none⟩ := fun o => World.cell?_of_block (w := w) (a := ⟨c.bl, o, none⟩) (Below.heap_setCell _ _ _ _ (by have := h.ok.small.1; simp; omega))
    rw [e, e, e]
    exact g
  · obtain ⟨m, hm⟩ := h.most
    exact ⟨m, (World.cell?_of_block (w := w) (a := ⟨4, 0, none⟩) (Below.heap_setCell _ _ _ _ (by have := h.ok.small.2; simp; omega))).trans hm⟩

/-- What a function that only passes things leaves: no result. -/
def VPost (c : PC) (w : World) (s' : Pp.PS) (e : Ending) (w' : World) : Prop := e = .returned (.tuple #[]) ∧ PAt c w' s' ∧ Kp c.bp w w'
/-- What a function that gives a node leaves. -/
def NPost (c : PC) (w : World) (n : Pp.Node) (s' : Pp.PS) (e : Ending) (w' : World) : Prop :=
  ∃ a l q, e = .returned (nv n (.slice a l q)) ∧ KidsAt w' (fun b => w.heap.size ≤ b) (.slice a l q) n.kids ∧ PAt c w' s' ∧ Kp c.bp w w'
/-- 'f' is a function of the parser that gives what E says. -/
def IsN (c : PC) (f : FuncId) (E : Pp.PS → Option (Pp.Node × Pp.PS)) : Prop :=
  ∀ w s n s', PAt c w s → E s = some (n, s') → Calls Tryz.prog f #[.pointer (some ⟨c.bp, 0, none⟩)] w (NPost c w n s')


/-! ### A struct that is stored into its box, cell by cell, and read as a result -/
section
variable {w W : World} {R : Nat} {t : TypeId} {a b c d x0 x1 x2 x3 : Value}
theorem Blk.put3 (h : Blk w R t #[x0, x1, x2]) : Blk (((w.setCell ⟨R, 0, none⟩ a).setCell ⟨R, 1, none⟩ b).setCell ⟨R, 2, none⟩ c) R t #[a, b, c] := by
  simpa using ((h.set_ 0 a).set_ 1 b).set_ 2 c
theorem Blk.put4 (h : Blk w R t #[x0, x1, x2, x3]) : Blk ((((w.setCell ⟨R, 0, none⟩ a).setCell ⟨R, 1, none⟩ b).setCell ⟨R, 2, none⟩ c).setCell ⟨R, 3, none⟩ d) R t #[a, b, c, d] := by
  simpa using (((h.set_ 0 a).set_ 1 b).set_ 2 c).set_ 3 d
theorem Blk.far3 {g : Nat} {t' : TypeId} {cs : Array Value} (h : Blk w g t' cs) (hg : g ≠ R) : Blk (((w.setCell ⟨R, 0, none⟩ a).setCell ⟨R, 1, none⟩ b).setCell ⟨R, 2, none⟩ c) g t' cs :=
  ((h.far (p := ⟨R, 0, none⟩) hg _).far (p := ⟨R, 1, none⟩) hg _).far (p := ⟨R, 2, none⟩) hg _
theorem Blk.far4 {g : Nat} {t' : TypeId} {cs : Array Value} (h : Blk w g t' cs) (hg : g ≠ R) : Blk ((((w.setCell ⟨R, 0, none⟩ a).setCell ⟨R, 1, none⟩ b).setCell ⟨R, 2, none⟩ c).setCell ⟨R, 3, none⟩ d) g t' cs :=
  (h.far3 hg).far (p := ⟨R, 3, none⟩) hg _
theorem Kp.put3 {g : Nat} (h : Kp g w W) (hR : w.heap.size ≤ R) : Kp g w (((W.setCell ⟨R, 0, none⟩ a).setCell ⟨R, 1, none⟩ b).setCell ⟨R, 2, none⟩ c) := ((h.setN hR _ _).setN hR _ _).setN hR _ _
theorem Kp.put4 {g : Nat} (h : Kp g w W) (hR : w.heap.size ≤ R) : Kp g w ((((W.setCell ⟨R, 0, none⟩ a).setCell ⟨R, 1, none⟩ b).setCell ⟨R, 2, none⟩ c).setCell ⟨R, 3, none⟩ d) := (h.put3 hR).setN hR _ _
theorem PAt.put3 {p : PC} {s : Pp.PS} (h : PAt p w s) (hR : p.bp < R) : PAt p (((w.setCell ⟨R, 0, none⟩ a).setCell ⟨R, 1, none⟩ b).setCell ⟨R, 2, none⟩ c) s :=
  ((h.far (p := ⟨R, 0, none⟩) hR _).far (p := ⟨R, 1, none⟩) hR _).far (p := ⟨R, 2, none⟩) hR _
theorem PAt.put4 {p : PC} {s : Pp.PS} (h : PAt p w s) (hR : p.bp < R) : PAt p ((((w.setCell ⟨R, 0, none⟩ a).setCell ⟨R, 1, none⟩ b).setCell ⟨R, 2, none⟩ c).setCell ⟨R, 3, none⟩ d) s :=
  (h.put3 hR).far (p := ⟨R, 3, none⟩) hR _
/-- Trees do not see a box that they do not lie in. -/
theorem KidsAt.put4 {S : Nat → Prop} {v : Value} {ks : List Pp.Node} (h : KidsAt w S v ks) (hR : ¬ S R) :
    KidsAt ((((w.setCell ⟨R, 0, none⟩ a).setCell ⟨R, 1, none⟩ b).setCell ⟨R, 2, none⟩ c).setCell ⟨R, 3, none⟩ d) S v ks :=
  h.kp (b := R) ((((((Kp.refl R w).setB _ _).setB _ _).setB _ _).setB _ _)) hR
theorem KidsAt.put3 {S : Nat → Prop} {v : Value} {ks : List Pp.Node} (h : KidsAt w S v ks) (hR : ¬ S R) :
    KidsAt (((w.setCell ⟨R, 0, none⟩ a).setCell ⟨R, 1, none⟩ b).setCell ⟨R, 2, none⟩ c) S v ks :=
  h.kp (b := R) (((((Kp.refl R w).setB _ _).setB _ _).setB _ _)) hR
theorem KidsAt.alloc {S : Nat → Prop} {v : Value} {ks : List Pp.Node} (h : KidsAt w S v ks) (o : Obj) : KidsAt (w.alloc o) S v ks :=
  h.frame fun _ hi hl => ⟨Below.heap_alloc _ _ _ hl, hi⟩
theorem KidsAt.drew {S : Nat → Prop} {v : Value} {ks : List Pp.Node} (h : KidsAt w S v ks) : KidsAt w.drew S v ks := KidsAt.frame (w := w) (w' := w.drew) (S := S) (fun _ hi _ => ⟨rfl, hi⟩) h
theorem KidsAt.drewN {S : Nat → Prop} {v : Value} {ks : List Pp.Node} (h : KidsAt w S v ks) (n : Nat) : KidsAt (w.drewN n) S v ks := KidsAt.frame (w := w) (w' := w.drewN n) (S := S) (fun _ hi _ => ⟨rfl, hi⟩) h
theorem KidsAt.under {S : Nat → Prop} {v : Value} {ks : List Pp.Node} (h : KidsAt w S v ks) (k : Below w.heap.size w W) : KidsAt W S v ks :=
  h.frame fun i hi hl => ⟨k.block i hl, hi⟩
end
theorem results_node {fn : Func} {tmps : Array Value} {W : World} {R slot : Nat} {a b c d : Value} (hr : fn.results = #[.cell slot 25]) (ht : tmps.getD slot undef = .pointer (some ⟨R, 0, none⟩)) (hb : Blk W R 25 #[a, b, c, d]) :
    (results fn tmps).run Tryz.prog W = .ok (.agg #[a, b, c, d]) W := by
  have h0 := hb.cell 0
  have h1 := hb.cell 1
  have h2 := hb.cell 2
  have h3 := hb.cell 3
  simp at h0 h1 h2 h3
  have ht' : tmps[slot]?.getD undef = .pointer (some ⟨R, 0, none⟩) := by simpa using ht
  simp [results, hr, ht', go_sem, h0, h1, h2, h3]
theorem results_tok {fn : Func} {tmps : Array Value} {W : World} {R slot : Nat} {a b c : Value} (hr : fn.results = #[.cell slot 60]) (ht : tmps.getD slot undef = .pointer (some ⟨R, 0, none⟩)) (hb : Blk W R 60 #[a, b, c]) :
    (results fn tmps).run Tryz.prog W = .ok (.agg #[a, b, c]) W := by
  have h0 := hb.cell 0
  have h1 := hb.cell 1
  have h2 := hb.cell 2
  simp at h0 h1 h2
  have ht' : tmps[slot]?.getD undef = .pointer (some ⟨R, 0, none⟩) := by simpa using ht
  simp [results, hr, ht', go_sem, h0, h1, h2]

theorem bl_drewN {B : Nat} {w W : World} (h : Below B w W) (n : Nat) : Below B w (W.drewN n) := ⟨h.os, h.tape, h.output, h.size, h.block⟩
theorem bl_put3 {B R : Nat} {w W : World} {a b c : Value} (h : Below B w W) (hR : B ≤ R) : Below B w (((W.setCell ⟨R, 0, none⟩ a).setCell ⟨R, 1, none⟩ b).setCell ⟨R, 2, none⟩ c) :=
  ((h.setCell (p := ⟨R, 0, none⟩) hR _).setCell (p := ⟨R, 1, none⟩) hR _).setCell (p := ⟨R, 2, none⟩) hR _
theorem bl_put4 {B R : Nat} {w W : World} {a b c d : Value} (h : Below B w W) (hR : B ≤ R) : Below B w ((((W.setCell ⟨R, 0, none⟩ a).setCell ⟨R, 1, none⟩ b).setCell ⟨R, 2, none⟩ c).setCell ⟨R, 3, none⟩ d) :=
  (bl_put3 h hR).setCell (p := ⟨R, 3, none⟩) hR _

theorem Blk.four {w : World} {g : Nat} {t : TypeId} {a b c d : Value} (h : Blk w g t #[a, b, c, d]) :
    w.cell? ⟨g, 0, none⟩ = some a ∧ w.cell? ⟨g, 1, none⟩ = some b ∧ w.cell? ⟨g, 2, none⟩ = some c ∧ w.cell? ⟨g, 3, none⟩ = some d :=
  ⟨by simpa using h.cell 0, by simpa using h.cell 1, by simpa using h.cell 2, by simpa using h.cell 3⟩
theorem Blk.tri {w : World} {g : Nat} {t : TypeId} {a b c : Value} (h : Blk w g t #[a, b, c]) :
    w.cell? ⟨g, 0, none⟩ = some a ∧ w.cell? ⟨g, 1, none⟩ = some b ∧ w.cell? ⟨g, 2, none⟩ = some c :=
  ⟨by simpa using h.cell 0, by simpa using h.cell 1, by simpa using h.cell 2⟩

theorem Blk.under {w W : World} {g : Nat} {t : TypeId} {cs : Array Value} (h : Blk w g t cs) (hb : Below w.heap.size w W) : Blk W g t cs := h.below hb h.lt
/-- The second, the third new block. -/
theorem Blk.new1 (w : World) (o : Obj) (t : TypeId) (cs : Array Value) : Blk ((w.alloc o).alloc (.cells cs t)) (w.heap.size + 1) t cs := by simpa using Blk.new (w.alloc o) t cs
theorem Blk.new2 (w : World) (o o' : Obj) (t : TypeId) (cs : Array Value) : Blk (((w.alloc o).alloc o').alloc (.cells cs t)) (w.heap.size + 2) t cs := by simpa using Blk.new ((w.alloc o).alloc o') t cs
theorem OutAt.alloc {w : World} {lo : Nat} {v : Value} {ks : List Pp.Node} (h : OutAt w lo v ks) (o : Obj) : OutAt (w.alloc o) lo v ks := by
  obtain ⟨l, h1, h2, h3⟩ := h
  exact ⟨l, h1, ownRow_block h2 (fun g hg => Below.heap_alloc _ _ _ (ownRow_lt h2 hg).2), fun n q hn => (h3 n q hn).alloc o⟩
theorem OutAt.drew {w : World} {lo : Nat} {v : Value} {ks : List Pp.Node} (h : OutAt w lo v ks) : OutAt w.drew lo v ks := by
  obtain ⟨l, h1, h2, h3⟩ := h
  exact ⟨l, h1, ownRow_block h2 (fun _ _ => rfl), fun n q hn => (h3 n q hn).drew⟩

theorem PAt.grown {c : PC} {w w' : World} {s : Pp.PS} {row : Option Nat} (h : PAt c w s) (hg : w.grownBy w' row) (hr : ∀ k, row = some k → c.bp < k) : PAt c w' s := by
  refine ⟨h.ok, h.blk.grown hg (fun e => by have := hr _ e.symm; omega), fun i t ht => ?_, ?_, h.lt, h.deep⟩
  · have g := h.tok i t ht
    have hl : c.bl < w.heap.size := lt_of_cell g.1
    have e : ∀ o, w'.cell? ⟨c.bl, o, none⟩ = w.cell? ⟨c.bl, o, none⟩ := fun o => World.cell?_of_block (w := w) (a := ⟨c.bl, o, none⟩) (hg.block c.bl hl (fun e => by have := hr _ e.symm; have := h.ok.small.1; omega))
    rw [e, e, e]
    exact g
  · obtain ⟨m, hm⟩ := h.most
    exact ⟨m, (World.cell?_of_block (w := w) (a := ⟨4, 0, none⟩) (hg.block 4 (lt_of_cell hm) (fun e => by have := hr _ e.symm; have := h.ok.small.2; omega))).trans hm⟩

theorem OutAt.lt_ {w : World} {lo g : Nat} {v : Value} {ks : List Pp.Node} (h : OutAt w lo v ks) (hg : v.ownBlock = some g) : g < w.heap.size := by
  obtain ⟨l, rfl, h2, h3⟩ := h
  exact (ownRow_lt h2 hg).2

end Go.Proofs.YtgnmfaeonijogaaGreatDoor
