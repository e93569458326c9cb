/- What a row's listed variables give a walk: the lexer's lists of words; the wrap of a law over such a row. -/
import Derived.Test.YtgnmfaeonijogaaGreatDoorRows
import Derived.Test.YtgnmfaeonijogaaGreatDoorLexA
import Derived.ProofKit
import Derived.LaidMore
import Derived.OpenShut
import Derived.Stop.Joined
import Derived.Shelf.Vars
import Derived.HandedShaped
import Derived.Below
import Derived.ChangeSame
namespace Go.Proofs.YtgnmfaeonijogaaGreatDoor
open Go.ChangeShapes Go.WideShapes Go.ChangeAt Go.RowKit

section
variable {H : Type} {enc : TypeId × Value → H} {P : Program}
theorem post_of_below {f : Func} {s : ChangeSpec} {apart fresh handsOn again : Bool} {W W' : World} {args : Array Value} {v : Value} {ds gs : List (DataW H)} {before pa pv : List MemPlace}
    (hW : DataW.Whole enc P f.params.toList s.vars apart W args.toList ds gs before)
    (hres : ∀ (b : Nat) (sp : Nat → Bool) (hd : Bool), DataW.TrodAll enc P W' b sp hd f.resultTypes.toList (v.resultList f.resultTypes.size) (s.fn H (ds ++ gs)).results [])
    (hargs : ∀ sp : Nat → Bool, (∀ p ∈ before, sp p.block = true) → DataW.TrodAll enc P W' 0 sp true f.params.toList args.toList (s.fn H (ds ++ gs)).args pa)
    (hvars : ∀ sp : Nat → Bool, (∀ p ∈ before, sp p.block = true) → DataW.TrodVars enc P W' sp s.vars (s.fn H (ds ++ gs)).vars pv)
    (hps : before = pa ++ pv) (hb : Below W.heap.size W W')
    (hok : ∀ (j : Nat) (t : TypeId) (r : Value), f.resultTypes[j]? = some t → (v.resultList f.resultTypes.size)[j]? = some r → Value.okWide P W' .any 0 t r) :
    s.post enc P f apart fresh handsOn again W args v W' := by
  have hlt : ∀ p ∈ before, p.block < W.heap.size := fun p hp => hW.lt p hp
  have hold : ∀ p ∈ before, (fun b => decide (b < W.heap.size)) p.block = true := fun p hp => by simpa using hlt p hp
  refine ⟨ds, gs, before, [], pa, pv, hW, hres _ _ _, hargs _ hold, hvars _ hold, World.keptBut_mono (fun p hp => ⟨hp, ?_⟩) (hb.frame (· ∈ before)), fun _ => ?_⟩
  · rw [hps, List.mem_append] at hp
    exact Or.inr hp
  · obtain ⟨_, _, _, _, _, hz, hn⟩ := hW
    refine ⟨hok, _, _, ([] ++ pa) ++ pv, ⟨[] ++ pa, pv, trodAll_append (hargs _ (fun _ _ => rfl)) (hres _ _ _), hvars _ (fun _ _ => rfl), rfl, ?_, ?_⟩, ?_⟩
    · intro b off hp
      have hin : MemPlace.cell b off ∈ before := by rw [hps]; simpa using hp
      rw [hb.frozen (hlt _ hin)]
      exact hz b off hin
    · intro ha
      have := hn ha
      rw [hps] at this
      simpa using this
    · intro p hp _
      rw [hps]
      simpa using hp
end

theorem own : ownKnob Tryz.prog.godebug = none := by kernel_rfl
theorem gWords : Tryz.prog.globalNamed "scribe/lex.words" = some 1 := by kernel_rfl
theorem gBuiltins : Tryz.prog.globalNamed "scribe/lex.builtins" = some 2 := by kernel_rfl
theorem gBanned : Tryz.prog.globalNamed "scribe/lex.banned" = some 3 := by kernel_rfl
theorem tWords : (Tryz.prog.globals[1]?).map (·.type) = some 37 := by kernel_rfl
theorem tBuiltins : (Tryz.prog.globals[2]?).map (·.type) = some 37 := by kernel_rfl
theorem tBanned : (Tryz.prog.globals[3]?).map (·.type) = some 37 := by kernel_rfl

/-- A row's first world: its listed variables, and its shape. -/
theorem wrap {H : Type} {enc : TypeId × Value → H} {a : Assume} {C : Checked} {os : Os} {f : FuncId} {fn : Func} {s : ChangeSpec} {conds : List PathCond} {apart fresh handsOn again : Bool} {X : World → Array Value → Prop}
    (hX : ∀ (w w' : World) (args : Array Value), w.heap = w'.heap → X w args → X w' args)
    (own : ownKnob C.prog.godebug = none) (started : os.Started) (noInit : C.prog.inits.idxOf? f = none) (hfn : C.prog.funcs[f]? = some fn)
    (witness : ∃ (w : World) (tape : Tape) (i : Input), w.os = os ∧ (w.forCall tape i).Shaped C.prog ∧ i.vars = [] ∧ Input.okWide C.prog (w.forCall tape i) .any w.heap.size f i ∧
      ((s.pre enc C.prog fn conds apart (w.forCall tape i).memory i.args ∧ X (w.forCall tape i).memory i.args) ∧ sizedMet enc C.prog fn (OpenSpec.ofChange s) apart (w.forCall tape i).memory i.args) ∧ a.holds C.prog (lone (Frame.enter C.prog f i.args .normal) [] (w.forCall tape i)))
    (contract : ∀ (W : World) (base : Nat) (args : Array Value) (ds gs : List (DataW H)) (before : List MemPlace),
      (∀ (j : Nat) t v, fn.params[j]? = some t → args[j]? = some v → Value.okWide C.prog W .any base t v) →
      DataW.Whole enc C.prog fn.params.toList s.vars apart W args.toList ds gs before →
      X W args → W.ShapedOpen C.prog →
      Calls C.prog f args W fun e W' => ∃ v, e = .returned v ∧ s.post enc C.prog fn apart fresh handsOn again W args v W') :
    ReturnsInHanded a C os f .any (fun w args => (s.pre enc C.prog fn conds apart w args ∧ X w args) ∧ sizedMet enc C.prog fn (OpenSpec.ofChange s) apart w args) (s.post enc C.prog fn apart fresh handsOn again) := by
  refine returnsInHanded_of_calls own started noInit witness ?_
  intro w tape i _ hsh _ hok hpre _
  obtain ⟨_, _, _, fn', hfn', _, _, _, _, hval⟩ := hok
  have e : fn' = fn := Option.some.inj (hfn'.symm.trans hfn)
  subst e
  obtain ⟨⟨⟨ds, gs, before, hw, hc⟩, hx⟩, hz⟩ := hpre
  have hw' := DataW.Whole.of_heap (w' := w.forCall tape i) (by rfl) hw
  refine (contract (w.forCall tape i) w.heap.size i.args ds gs before hval hw' (hX _ _ _ (by rfl) hx) hsh).mono fun e W' ⟨v, he, hp⟩ => ?_
  subst he
  exact ChangeSpec.post_blind hp

theorem words_of {W : World} {name : String} {g n : Nat} {l : List Pp.Bytes} {g0 t : Nat} {cs : Array Value} {f : Nat} {p : List MemPlace} (hg : Tryz.prog.globalNamed name = some g) (ht : (Tryz.prog.globals[g]?).map (·.type) = some 37) (hn : n = l.length)
    (hg0 : Tryz.prog.globalNamed name = some g0) (ht0 : (Tryz.prog.globals[g0]?).map (·.type) = some t) (hv0 : W.var? Tryz.prog name = some cs)
    (hd0 : DataW.trod (fun _ => ()) Tryz.prog W 0 (fun _ => true) false f t cs.toList = some (.slice (l.map fun x => .lit (.string x)) [], p)) (h0 : 0 < l.length) : Words W.heap.size W g n l := by
  subst hn
  obtain rfl := Option.some.inj (hg.symm.trans hg0)
  obtain rfl := Option.some.inj (ht.symm.trans ht0)
  obtain ⟨a, cap, hcs, _, hel⟩ := open_row Tryz.underlying37 (by kernel_rfl) hd0
  have hcell : W.cell? ⟨g, 0, none⟩ = some (.slice (some a) l.length cap) := by
    have := World.var?_cell hg hv0 0
    rw [Array.eq_one_of_toList hcs] at this
    simpa using this
  have each : ∀ j t, l[j]? = some t → W.cell? (a.add j) = some (vs t) := by
    intro j t ht
    obtain ⟨v, m, q, hv, htr⟩ := hel j (.lit (.string t)) (by simp [ht])
    obtain ⟨s, hs, hx, _⟩ := DataW.trod_string Tryz.underlying9 htr
    simp only [Prod.mk.injEq, DataW.lit.injEq, Lit.string.injEq] at hx
    obtain ⟨rfl, _⟩ := hx
    simp only [List.cons.injEq, and_true] at hs
    rw [hv, hs]
  obtain ⟨t0, hl0⟩ : ∃ t, l[0]? = some t := ⟨l[0], by simp [h0]⟩
  have h00 := each 0 t0 hl0
  have e0 : a.add 0 = a := by simp [Addr.add]
  rw [e0] at h00
  have hsp := World.cell?_spot h00
  obtain ⟨b, o, sp⟩ := a
  simp only at hsp
  subst hsp
  refine ⟨b, o, cap, hcell, fun j t ht => ?_, lt_of_cell h00⟩
  have := each j t ht
  have e : Addr.add ⟨b, o, none⟩ j = ⟨b, o + j, none⟩ := by
    simp only [Addr.add]
    split
    · rename_i h; subst h; rfl
    · rfl
  rwa [e] at this

/-- What all rows of the parser's laws list. -/
def laid6 : List (String × DataW Unit) := [("math/bits.deBruijn32tab", Rows.laid_math_bits_deBruijn32tab), ("math/bits.deBruijn64tab", Rows.laid_math_bits_deBruijn64tab), ("internal/strconv.uint64pow10", Rows.laid_internal_strconv_uint64pow10), ("scribe/lex.words", Rows.laid_scribe_lex_words), ("scribe/lex.builtins", Rows.laid_scribe_lex_builtins), ("scribe/lex.banned", Rows.laid_scribe_lex_banned)]

theorem glob_of_shape {W : World} (hsh : W.ShapedOpen Tryz.prog) (h1 : Words W.heap.size W 1 16 Lx.words) (h2 : Words W.heap.size W 2 13 Lx.builtins) (h3 : Words W.heap.size W 3 6 Lx.banned) : Glob W.heap.size W := by
  obtain ⟨m, hm⟩ := cell_of_shapedOpen_int (P := Tryz.prog) (g := 4) (t := 3) (zero := #[.int .i64 0]) hsh (of_decide_eq_true (by kernel_rfl)) (by kernel_rfl) rfl (by kernel_rfl) (by kernel_rfl) Tryz.underlying3
  exact ⟨lt_of_cell hm, Nat.le_refl _, ⟨m, hm⟩, h1, h2, h3⟩
theorem glob_of_laid {W : World} (h : laidMetH Tryz.prog laid6 W) (hsh : W.ShapedOpen Tryz.prog) : Glob W.heap.size W := by
  rw [MakeChecks.laidMetH_plain _ _ _ (by kernel_rfl)] at h
  obtain ⟨ps, hv, _⟩ := h
  obtain ⟨_, _, _, _, _, _, _, _, _, _, hv, _⟩ := hv
  obtain ⟨_, _, _, _, _, _, _, _, _, _, hv, _⟩ := hv
  obtain ⟨_, _, _, _, _, _, _, _, _, _, hv, _⟩ := hv
  obtain ⟨g1, t1, c1, f1, p1, q1, hg1, ht1, hv1, hd1, hv, _⟩ := hv
  obtain ⟨g2, t2, c2, f2, p2, q2, hg2, ht2, hv2, hd2, hv, _⟩ := hv
  obtain ⟨g3, t3, c3, f3, p3, q3, hg3, ht3, hv3, hd3, _, _⟩ := hv
  exact glob_of_shape hsh (words_of (l := Lx.words) gWords tWords rfl hg1 ht1 hv1 hd1 (by decide)) (words_of (l := Lx.builtins) gBuiltins tBuiltins rfl hg2 ht2 hv2 hd2 (by decide)) (words_of (l := Lx.banned) gBanned tBanned rfl hg3 ht3 hv3 hd3 (by decide))

/-- The door's own heap meets the condition. -/
theorem door6_met (os : Os) (args : Array Value) : laidMetH Tryz.prog laid6 ((World.doorLaid Tryz.prog 400 os).forCall (fun _ _ => 0) ⟨#[], args, []⟩).memory :=
  laidMetH_of_parts3 (fuel := 8) (laidMet_of_run' 8 (by kernel_rfl) (by kernel_rfl)) (by kernel_rfl) (by kernel_rfl)

end Go.Proofs.YtgnmfaeonijogaaGreatDoor
