/- Small tables that a call lays and asks: texts by texts. -/
import Derived.Test.YtgnmfaeonijogaaGreatDoorPrimB
import Derived.Maps.RangeRun
import Derived.Laws.IdiomRangeMap
namespace Go.Proofs.YtgnmfaeonijogaaGreatDoor
open Go.RowKit

theorem run_getMap {w : World} {r : Nat} {es : Array MapEntry} {clock : Nat} (hb : w.heap[r]? = some (.map es clock)) : (getObj r).run Tryz.prog w = .ok (.map es clock) w := by
  simp [getObj, Sem.run, hb]
theorem run_setMap {w : World} {r : Nat} {es : Array MapEntry} {clock : Nat} (o : Obj) (hb : w.heap[r]? = some (.map es clock)) : (setObj r o).run Tryz.prog w = .ok () { w with heap := w.heap.setIfInBounds r o } := by
  simp [setObj, Sem.run, hb]

/-- What a table holds, as pairs. -/
def pairs (es : Array MapEntry) : List (Pp.Bytes × Pp.Bytes) → Prop := fun l => es.toList.map (fun e => (e.key, e.val)) = l.map fun x => (vs x.1, vs x.2)
def MapAt (w : World) (b : Nat) (l : List (Pp.Bytes × Pp.Bytes)) : Prop := ∃ es clock, w.heap[b]? = some (.map es clock) ∧ pairs es l

theorem beq_bytes (a b : Pp.Bytes) : ((⟨a.toArray⟩ : ByteArray) == ⟨b.toArray⟩) = decide (a = b) := by
  show (a.toArray == b.toArray) = decide (a = b)
  by_cases h : a = b <;> simp [h]

theorem findNow_look (x : Pp.Bytes) : ∀ (es : List MapEntry) (l : List (Pp.Bytes × Pp.Bytes)) (i : Nat), es.map (fun e => (e.key, e.val)) = l.map (fun x => (vs x.1, vs x.2)) →
    (∃ j, Instr.findNow .string (vs x) es i = some (some (j, vs (Pp.look l x)))) ∨ (Instr.findNow .string (vs x) es i = some none ∧ Pp.look l x = []) := by
  intro es
  induction es with
  | nil => intro l i h; cases l with
    | nil => exact .inr ⟨rfl, rfl⟩
    | cons a l => simp at h
  | cons e es ih =>
    intro l i h
    cases l with
    | nil => simp at h
    | cons a l =>
      obtain ⟨a, b⟩ := a
      simp only [List.map_cons, List.cons.injEq, Prod.mk.injEq] at h
      obtain ⟨⟨hk, hv⟩, hr⟩ := h
      simp only [Instr.findNow, hk, Instr.sameNow, beq_bytes, Pp.look]
      by_cases hx : x = a
      · subst hx
        simp only [decide_true, if_true, hv]
        exact .inl ⟨i, rfl⟩
      · have hx' : ¬ a = x := fun e => hx e.symm
        simp only [hx, hx', decide_false, if_false]
        exact ih l (i + 1) hr

theorem checkKey_string (e : Bool) (n : Nat) (s : ByteArray) (w : World) : (Instr.checkKey e (n + 1) 9 (.string s)).run Tryz.prog w = .ok () w := by
  simp [Instr.checkKey, run_underlying Tryz.underlying9]

theorem run_look {w : World} {b : Nat} {l : List (Pp.Bytes × Pp.Bytes)} (h : MapAt w b l) (x : Pp.Bytes) : (Instr.lookup 122 (.map (some b)) (vs x) false).run Tryz.prog w = .ok (vs (Pp.look l x)) w := by
  obtain ⟨es, clock, hb, hp⟩ := h
  rcases findNow_look x es.toList l 0 hp with ⟨j, hj⟩ | ⟨hj, hl⟩
  · simp [Instr.lookup, run_underlying Tryz.underlying122, run_getMap hb, checkKey_string, Instr.findKey, run_underlying Tryz.underlying9, hj]
  · simp [Instr.lookup, run_underlying Tryz.underlying122, run_getMap hb, checkKey_string, Instr.findKey, run_underlying Tryz.underlying9, hj, hl, Tryz.zeroValue9]

theorem run_put (w : World) (b : Nat) (hbw : b = w.heap.size) (es : Array MapEntry) (clock : Nat) (x y : ByteArray) (hn : Instr.findNow .string (.string x) es.toList 0 = some none) :
    (Instr.mapUpdate 122 (.map (some b)) (.string x) (.string y)).run Tryz.prog (w.alloc (.map es clock)) = .ok () (w.alloc (.map (es.push { key := .string x, val := .string y, born := clock }) (clock + 1))) := by
  subst hbw
  have hb : (w.alloc (.map es clock)).heap[w.heap.size]? = some (.map es clock) := heap_alloc_new w _
  simp [Instr.mapUpdate, run_underlying Tryz.underlying122, run_getMap hb, checkKey_string, Instr.findKey, run_underlying Tryz.underlying9, hn, run_setMap _ hb]
  have e : (w.alloc (.map es clock)).heap.setIfInBounds w.heap.size (.map (es.push { key := .string x, val := .string y, born := clock }) (clock + 1)) = (w.alloc (.map (es.push { key := .string x, val := .string y, born := clock }) (clock + 1))).heap := by
    show (w.heap.push _).setIfInBounds w.heap.size _ = w.heap.push _
    apply Array.ext_getElem?
    intro i
    simp only [Array.getElem?_setIfInBounds, Array.getElem?_push, Array.size_push]
    by_cases hi : w.heap.size = i
    · subst hi; simp
    · rw [if_neg hi, if_neg (fun e => hi e.symm), if_neg (fun e => hi e.symm)]
  rw [e]
  rfl

theorem MapAt.lt {w : World} {b : Nat} {l : List (Pp.Bytes × Pp.Bytes)} (h : MapAt w b l) : b < w.heap.size := by
  obtain ⟨es, clock, hb, _⟩ := h
  rcases Nat.lt_or_ge b w.heap.size with hlt | hge
  · exact hlt
  · rw [Array.getElem?_eq_none hge] at hb; cases hb
theorem MapAt.kp {w w' : World} {b g : Nat} {l : List (Pp.Bytes × Pp.Bytes)} (h : MapAt w b l) (k : Kp g w w') (hb : b ≠ g) : MapAt w' b l := by
  have hl := h.lt
  obtain ⟨es, clock, he, hp⟩ := h
  exact ⟨es, clock, (k.block b hl hb).trans he, hp⟩
theorem MapAt.alloc {w : World} {b : Nat} {l : List (Pp.Bytes × Pp.Bytes)} (h : MapAt w b l) (o : Obj) : MapAt (w.alloc o) b l := by
  have hl := h.lt
  obtain ⟨es, clock, he, hp⟩ := h
  exact ⟨es, clock, (Below.heap_alloc _ _ _ hl).trans he, hp⟩
theorem MapAt.drew {w : World} {b : Nat} {l : List (Pp.Bytes × Pp.Bytes)} (h : MapAt w b l) : MapAt w.drew b l := h
theorem MapAt.new (w : World) (b : Nat) (hb : b = w.heap.size) (es : Array MapEntry) (clock : Nat) (l : List (Pp.Bytes × Pp.Bytes)) (h : pairs es l) : MapAt (w.alloc (.map es clock)) b l :=
  ⟨es, clock, hb ▸ heap_alloc_new w _, h⟩

/-- One step of a range over a table: nothing is left, or one entry comes that had not come. -/
theorem next_step (w : World) (ty : TypeId) (r mb since : Nat) (seen : Array Nat) (es : Array MapEntry) (clock : Nat) (hr : w.heap[r]? = some (.mapIter (some mb) since seen clock)) (hb : w.heap[mb]? = some (.map es clock))
    (hold : ∀ x ∈ es.toList, x.born < since) (hsc : since ≤ clock) :
    ((leftOf es seen).size = 0 ∧ (Instr.next (.pointer (some ⟨r, 0, none⟩)) false ty).run Tryz.prog w = .ok (.tuple #[.bool false]) w) ∨
    ∃ e ∈ (leftOf es seen).toList, ∃ w2 : World, (Instr.next (.pointer (some ⟨r, 0, none⟩)) false ty).run Tryz.prog w = .ok (.tuple #[.bool true, e.key, e.val]) w2 ∧ w.grownBy w2 (some r) ∧
      w2.heap[r]? = some (.mapIter (some mb) since (seen.push e.born) clock) ∧ w.heap.size ≤ w2.heap.size := by
  rcases run_next_at (P := Tryz.prog) w ty r mb since clock seen es clock hr hb hold hsc with h | ⟨e, he, w1, hw, hrun⟩
  · exact .inl h
  · have hlt : r < w.heap.size := by
      rcases Nat.lt_or_ge r w.heap.size with h | h
      · exact h
      · rw [Array.getElem?_eq_none h] at hr; cases hr
    have e1 : w1.heap = w.heap := by rcases hw with rfl | rfl <;> rfl
    have e2 : w1.os = w.os ∧ w1.tape = w.tape ∧ w1.output = w.output := by rcases hw with rfl | rfl <;> exact ⟨rfl, rfl, rfl⟩
    refine .inr ⟨e, he, _, hrun, ⟨e2.1, e2.2.1, e2.2.2, ?_, fun i _ hi => ?_⟩, ?_, ?_⟩
    · show _ ≤ (w1.heap.setIfInBounds r _).size
      simp [e1]
    · show (w1.heap.setIfInBounds r _)[i]? = _
      rw [e1, Array.getElem?_setIfInBounds, if_neg (fun e => hi (by rw [e]))]
    · show (w1.heap.setIfInBounds r _)[r]? = _
      rw [e1, Array.getElem?_setIfInBounds, if_pos rfl, if_pos hlt]
    · show _ ≤ (w1.heap.setIfInBounds r _).size
      simp [e1]
theorem Kp.row {b r : Nat} {w w1 w2 : World} (h : Kp b w w1) (hg : w1.grownBy w2 (some r)) (hr : w.heap.size ≤ r) : Kp b w w2 := h.grown hg (fun k hk => by cases hk; exact hr)

end Go.Proofs.YtgnmfaeonijogaaGreatDoor
