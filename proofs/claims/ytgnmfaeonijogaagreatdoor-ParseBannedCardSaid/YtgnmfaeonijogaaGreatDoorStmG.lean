/- Walked: does all that is printed stand between ( and )? -/
import Derived.Test.YtgnmfaeonijogaaGreatDoorExprA
import Derived.Test.YtgnmfaeonijogaaGreatDoorPrimB
import Derived.WalkLawsBesides
namespace Go.Proofs.YtgnmfaeonijogaaGreatDoor
open Go.RowKit

theorem sub_contains : ∀ (s x : List UInt8), Lib.contains s x = Pp.sub s x
  | [], x => by
    unfold Lib.contains Lib.index Pp.sub
    cases x <;> simp
  | b :: l, x => by
    have ih := sub_contains l x
    have hg := Lib.index_ge l x
    unfold Lib.contains at ih ⊢
    unfold Lib.index Pp.sub
    cases hp : x.isPrefixOf (b :: l) with
    | true => simp
    | false =>
      rw [if_neg (by simp)]
      simp only [Bool.false_or]
      rw [← ih]
      by_cases h1 : Lib.index l x = -1
      · simp [h1]
      · have : (Lib.index l x == -1) = false := by simpa using h1
        rw [this]
        simp only [Bool.false_eq_true, if_false]
        have : 0 ≤ Lib.index l x := by omega
        simp [this]
        omega

def outSigns : Pp.Bytes := [32, 59, 32, 125, 32, 62, 32, 62, 62, 32]
theorem contains_r (w : World) (m : Int) (hm : w.cell? ⟨4, 0, none⟩ = some (.int .i64 m)) (x : ByteArray) :
    Calls Tryz.prog 81 #[.string ⟨#[32, 59, 32, 125, 32, 62, 32, 62, 62, 32]⟩, .string x] w fun e w' => e = .returned (.bool (Pp.sub outSigns x.data.toList)) ∧ w = w' := by
  refine (Tryz.strings_Contains _ x m w (by decide) hm).mono ?_
  rintro e w' ⟨rfl, rfl⟩
  rw [sub_contains]
  exact ⟨rfl, rfl⟩

theorem bl_alloc {B : Nat} {w W : World} (h : Below B w W) (hB : B ≤ w.heap.size) (o : Obj) : Below B w (W.alloc o) := h.alloc (Nat.le_trans hB h.size) o
theorem most_below {w W : World} {m : Int} (hm : w.cell? ⟨4, 0, none⟩ = some (.int .i64 m)) (hb : Below w.heap.size w W) : W.cell? ⟨4, 0, none⟩ = some (.int .i64 m) := (hb.cell (p := ⟨4, 0, none⟩) (lt_of_cell hm)).trans hm
theorem listedL_end (T : List Pp.Tok) (f i : Nat) (d : Int) (h : T.length ≤ i) : Pp.listedL T f i d = false := by
  cases f with
  | zero => rfl
  | succ f => unfold Pp.listedL; rw [if_neg (by omega)]
def dNext (t : Pp.Tok) (d : Int) : Int := if t.kind = 8 ∧ t.text = [40] then d + 1 else if t.kind = 8 ∧ t.text = [41] then d - 1 else d
def xNext (x : Pp.Tok) : Bool := x.kind == 0 || x.kind == 1 || (x.kind == 8 && Pp.sub [32, 59, 32, 125, 32, 62, 32, 62, 62, 32] ([32] ++ x.text ++ [32]))
theorem listedL_stop (T : List Pp.Tok) (f i : Nat) (d : Int) (h : i < T.length) (hd : dNext (T.getD i Pp.tok0) d = 0) : Pp.listedL T (f + 1) i d = xNext (T.getD (min (i + 1) (T.length - 1)) Pp.tok0) := by
  rw [Pp.listedL, if_pos h]
  unfold dNext at hd
  simp only
  rw [if_pos hd]
  rfl
theorem listedL_go (T : List Pp.Tok) (f i : Nat) (d : Int) (h : i < T.length) (hd : dNext (T.getD i Pp.tok0) d ≠ 0) : Pp.listedL T (f + 1) i d = Pp.listedL T f (i + 1) (dNext (T.getD i Pp.tok0) d) := by
  rw [Pp.listedL, if_pos h]
  unfold dNext at hd ⊢
  simp only
  rw [if_neg hd]
theorem vs_cat3 (t : Pp.Bytes) : ((⟨#[32]⟩ : ByteArray) ++ ⟨t.toArray⟩ ++ ⟨#[32]⟩).data.toList = [32] ++ t ++ [32] := by
  simp

set_option maxRecDepth 100000 in
set_option maxHeartbeats 16000000 in
theorem listed_any (c : PC) (w : World) (s : Pp.PS) (h : PAt c w s) :
    Calls Tryz.prog 104 #[.pointer (some ⟨c.bp, 0, none⟩)] w fun e w' => e = .returned (.bool (Pp.listed c.T s)) ∧ Below w.heap.size w w' := by
  have P := Lib.hid h
  have hb := h.blk.lt
  have hlt := h.lt
  have hlen := h.ok.len
  unfold Pp.listed
  cases hat : Pp.at_ c.T [[40]] s with
  | false =>
    have HA := Lib.hid hat
    clear h hat
    go_enter Tryz.func104, Tryz.ntmps104
    go_wp2_with fail
    refine (at_new' c _ _ P.out 1 [[40]] _ 1 (by simp) rfl _ rfl (by omega) _ HA.out).mono ?_
    rintro e w1 ⟨rfl, hb⟩
    go_wp2_with fail
    go_ret
    exact ⟨rfl, hb⟩
  | true =>
    have HA := Lib.hid hat
    clear h hat
    go_enter Tryz.func104, Tryz.ntmps104
    go_wp2_with fail
    refine (at_new' c _ _ P.out 1 [[40]] _ 1 (by simp) rfl _ rfl (by omega) _ HA.out).mono ?_
    rintro e w1 ⟨rfl, hb1⟩
    have d1 := (P.out.below hb1).c1
    go_wp2_with fail
    go_loopg [3, 4] (c.T.length + 1) (fun g v3 v4 wr => ∃ (d : Int) (i : Nat), v3 = .int .i64 d ∧ v4 = .int .i64 i ∧ -1000000 ≤ d + i ∧ -(i : Int) ≤ d ∧ d ≤ i ∧ i ≤ c.T.length ∧ c.T.length < i + g ∧ Below w.heap.size w wr ∧ Hid (Pp.listedL c.T g i d = Pp.listedL c.T (c.T.length + 1) s.i 0))
    case atStart => exact ⟨0, s.i, rfl, rfl, by omega, by omega, by omega, by omega, by omega, hb1, rfl⟩
    case round =>
      clear d1 hb1
      obtain ⟨d, i, rfl, rfl, _, hd1, hd2, hil, hfu, hbl, hfun⟩ := hrel
      have PR := Lib.hid (P.out.below hbl)
      have Hbl := Lib.hid hbl
      have lbp := PR.out.blk.lt
      have e0 := PR.out.c0
      obtain ⟨m, hm⟩ := PR.out.most
      have hbs := hbl.size
      clear hbl
      by_cases hi : i < c.T.length
      · obtain ⟨j, rfl⟩ : ∃ j, gk = j + 1 := ⟨gk - 1, by omega⟩
        have hT : c.T[i]? = some (c.T.getD i Pp.tok0) := by simp [List.getElem?_eq_getElem hi]
        obtain ⟨t0, t1, t2⟩ := PR.out.tok _ _ hT
        have hbl2 : c.bl < wr.heap.size := lt_of_cell t0
        have hstop := listedL_stop c.T j i d hi
        have hgo := listedL_go c.T j i d hi
        have hmn : min (i + 1) (c.T.length - 1) < c.T.length := by omega
        have hX : c.T[min (i + 1) (c.T.length - 1)]? = some (c.T.getD (min (i + 1) (c.T.length - 1)) Pp.tok0) := by simp [List.getElem?_eq_getElem hmn]
        obtain ⟨x0, x1, x2⟩ := PR.out.tok _ _ hX
        have hmi : min ((i : Int) + 1) ((c.T.length : Nat) - 1) = ((min (i + 1) (c.T.length - 1) : Nat) : Int) := by omega
        have hxl : (c.T.getD (min (i + 1) (c.T.length - 1)) Pp.tok0).text.length ≤ 1000000 := PR.out.ok.text _ _ hX
        rw [hfun.out] at hstop hgo
        clear hT hX hfun
        generalize c.T.getD i Pp.tok0 = t at *
        generalize c.T.getD (min (i + 1) (c.T.length - 1)) Pp.tok0 = x at *
        generalize min (i + 1) (c.T.length - 1) = mi at *
        generalize hn : c.T.length = n at *
        have HN := Lib.hid hn
        clear hn
        have hx0 : 0 ≤ (mi : Int) := by omega
        have Hstop := Lib.hid hstop
        have Hgo := Lib.hid hgo
        clear hstop hgo
        cases k8 : (t.kind == 8) with
        | true =>
          cases k40 : (t.text == [40]) with
          | true =>
            have hdn : dNext t d = d + 1 := by unfold dNext; rw [if_pos ⟨by simpa using k8, by simpa using k40⟩]
            have hs2 := Hstop.out
            have hg2 := Hgo.out
            rw [hdn] at hs2 hg2
            clear hdn Hstop Hgo
            by_cases hz : d + 1 = 0
            · have HZ := Lib.hid (hs2 hz)
              have hzb : (d + 1 == 0) = true := by simpa using hz
              clear hs2 hg2 hz
              have hres := HZ.out
              cases q0 : (x.kind == 0) with
              | true =>
                have HR : Hid (Pp.listedL c.T (n + 1) s.i 0 = true) := by show _ = true; rw [hres]; unfold xNext; simp [q0]
                clear hres
                go_wp2_with fail
                go_region
                go_wp2_with fail
                go_ret
                exact ⟨by rw [HN.out, HR.out]; rfl, (by repeat (first | exact Hbl.out | exact Nat.le_refl _ | apply Below.drew | apply bl_drewN | (refine bl_put3 ?_ (by first | omega | (simp; omega))) | (refine bl_alloc ?_ (Nat.le_refl _) _)))⟩
              | false =>
                cases q1 : (x.kind == 1) with
                | true =>
                  have HR : Hid (Pp.listedL c.T (n + 1) s.i 0 = true) := by show _ = true; rw [hres]; unfold xNext; simp [q1]
                  clear hres
                  go_wp2_with fail
                  go_region
                  go_wp2_with fail
                  go_ret
                  exact ⟨by rw [HN.out, HR.out]; rfl, (by repeat (first | exact Hbl.out | exact Nat.le_refl _ | apply Below.drew | apply bl_drewN | (refine bl_put3 ?_ (by first | omega | (simp; omega))) | (refine bl_alloc ?_ (Nat.le_refl _) _)))⟩
                | false =>
                  cases q8 : (x.kind == 8) with
                  | true =>
                    have HR : Hid (Pp.listedL c.T (n + 1) s.i 0 = Pp.sub outSigns ([32] ++ x.text ++ [32])) := by show _ = _; rw [hres]; unfold xNext; simp only [q0, q1, q8, Bool.true_and, Bool.false_or]; rfl
                    clear hres
                    go_wp2_with fail
                    go_region
                    go_wp2_with fail
                    refine (contains_r _ m ?_ _).mono ?_
                    · exact most_below hm (by repeat (first | exact Below.refl _ _ | exact Nat.le_refl _ | apply Below.drew | apply bl_drewN | (refine bl_alloc ?_ (Nat.le_refl _) _)))
                    rintro e w5 ⟨rfl, rfl⟩
                    go_wp2_with fail
                    go_ret
                    exact ⟨by rw [HN.out, HR.out, ← vs_cat3]; rfl, (by repeat (first | exact Hbl.out | exact Nat.le_refl _ | apply Below.drew | apply bl_drewN | (refine bl_put3 ?_ (by first | omega | (simp; omega))) | (refine bl_alloc ?_ (Nat.le_refl _) _)))⟩
                  | false =>
                    have HR : Hid (Pp.listedL c.T (n + 1) s.i 0 = false) := by show _ = false; rw [hres]; unfold xNext; simp [q0, q1, q8]
                    clear hres
                    go_wp2_with fail
                    go_region
                    go_wp2_with fail
                    go_ret
                    exact ⟨by rw [HN.out, HR.out]; rfl, (by repeat (first | exact Hbl.out | exact Nat.le_refl _ | apply Below.drew | apply bl_drewN | (refine bl_put3 ?_ (by first | omega | (simp; omega))) | (refine bl_alloc ?_ (Nat.le_refl _) _)))⟩
            · have HZ := Lib.hid (hg2 hz)
              have hzb : (d + 1 == 0) = false := by simpa using hz
              clear hs2 hg2 hz
              go_wp2_with fail
              go_roundg j
              case measure => omega
              case rel => exact ⟨d + 1, i + 1, by go_num, by go_num, by omega, by omega, by omega, by omega, by omega, (by repeat (first | exact Hbl.out | exact Nat.le_refl _ | apply Below.drew | apply bl_drewN | (refine bl_put3 ?_ (by first | omega | (simp; omega))) | (refine bl_alloc ?_ (Nat.le_refl _) _))), HZ.out.symm⟩
          | false =>
            cases k41 : (t.text == [41]) with
            | true =>
              have hdn : dNext t d = d - 1 := by unfold dNext; rw [if_neg (fun hx => by simp [hx.2] at k40), if_pos ⟨by simpa using k8, by simpa using k41⟩]
              have hs2 := Hstop.out
              have hg2 := Hgo.out
              rw [hdn] at hs2 hg2
              clear hdn Hstop Hgo
              by_cases hz : d - 1 = 0
              · have HZ := Lib.hid (hs2 hz)
                have hzb : (d - 1 == 0) = true := by simpa using hz
                clear hs2 hg2 hz
                have hres := HZ.out
                cases q0 : (x.kind == 0) with
                | true =>
                  have HR : Hid (Pp.listedL c.T (n + 1) s.i 0 = true) := by show _ = true; rw [hres]; unfold xNext; simp [q0]
                  clear hres
                  go_wp2_with fail
                  go_region
                  go_wp2_with fail
                  go_ret
                  exact ⟨by rw [HN.out, HR.out]; rfl, (by repeat (first | exact Hbl.out | exact Nat.le_refl _ | apply Below.drew | apply bl_drewN | (refine bl_put3 ?_ (by first | omega | (simp; omega))) | (refine bl_alloc ?_ (Nat.le_refl _) _)))⟩
                | false =>
                  cases q1 : (x.kind == 1) with
                  | true =>
                    have HR : Hid (Pp.listedL c.T (n + 1) s.i 0 = true) := by show _ = true; rw [hres]; unfold xNext; simp [q1]
                    clear hres
                    go_wp2_with fail
                    go_region
                    go_wp2_with fail
                    go_ret
                    exact ⟨by rw [HN.out, HR.out]; rfl, (by repeat (first | exact Hbl.out | exact Nat.le_refl _ | apply Below.drew | apply bl_drewN | (refine bl_put3 ?_ (by first | omega | (simp; omega))) | (refine bl_alloc ?_ (Nat.le_refl _) _)))⟩
                  | false =>
                    cases q8 : (x.kind == 8) with
                    | true =>
                      have HR : Hid (Pp.listedL c.T (n + 1) s.i 0 = Pp.sub outSigns ([32] ++ x.text ++ [32])) := by show _ = _; rw [hres]; unfold xNext; simp only [q0, q1, q8, Bool.true_and, Bool.false_or]; rfl
                      clear hres
                      go_wp2_with fail
                      go_region
                      go_wp2_with fail
                      refine (contains_r _ m ?_ _).mono ?_
                      · exact most_below hm (by repeat (first | exact Below.refl _ _ | exact Nat.le_refl _ | apply Below.drew | apply bl_drewN | (refine bl_alloc ?_ (Nat.le_refl _) _)))
                      rintro e w5 ⟨rfl, rfl⟩
                      go_wp2_with fail
                      go_ret
                      exact ⟨by rw [HN.out, HR.out, ← vs_cat3]; rfl, (by repeat (first | exact Hbl.out | exact Nat.le_refl _ | apply Below.drew | apply bl_drewN | (refine bl_put3 ?_ (by first | omega | (simp; omega))) | (refine bl_alloc ?_ (Nat.le_refl _) _)))⟩
                    | false =>
                      have HR : Hid (Pp.listedL c.T (n + 1) s.i 0 = false) := by show _ = false; rw [hres]; unfold xNext; simp [q0, q1, q8]
                      clear hres
                      go_wp2_with fail
                      go_region
                      go_wp2_with fail
                      go_ret
                      exact ⟨by rw [HN.out, HR.out]; rfl, (by repeat (first | exact Hbl.out | exact Nat.le_refl _ | apply Below.drew | apply bl_drewN | (refine bl_put3 ?_ (by first | omega | (simp; omega))) | (refine bl_alloc ?_ (Nat.le_refl _) _)))⟩
              · have HZ := Lib.hid (hg2 hz)
                have hzb : (d - 1 == 0) = false := by simpa using hz
                clear hs2 hg2 hz
                go_wp2_with fail
                go_roundg j
                case measure => omega
                case rel => exact ⟨d - 1, i + 1, by go_num, by go_num, by omega, by omega, by omega, by omega, by omega, (by repeat (first | exact Hbl.out | exact Nat.le_refl _ | apply Below.drew | apply bl_drewN | (refine bl_put3 ?_ (by first | omega | (simp; omega))) | (refine bl_alloc ?_ (Nat.le_refl _) _))), HZ.out.symm⟩
            | false =>
              have hdn : dNext t d = d := by unfold dNext; rw [if_neg (fun hx => by simp [hx.2] at k40), if_neg (fun hx => by simp [hx.2] at k41)]
              have hs2 := Hstop.out
              have hg2 := Hgo.out
              rw [hdn] at hs2 hg2
              clear hdn Hstop Hgo
              by_cases hz : d = 0
              · have HZ := Lib.hid (hs2 hz)
                have hzb : (d == 0) = true := by simpa using hz
                clear hs2 hg2 hz
                have hres := HZ.out
                cases q0 : (x.kind == 0) with
                | true =>
                  have HR : Hid (Pp.listedL c.T (n + 1) s.i 0 = true) := by show _ = true; rw [hres]; unfold xNext; simp [q0]
                  clear hres
                  go_wp2_with fail
                  go_region
                  go_wp2_with fail
                  go_ret
                  exact ⟨by rw [HN.out, HR.out]; rfl, (by repeat (first | exact Hbl.out | exact Nat.le_refl _ | apply Below.drew | apply bl_drewN | (refine bl_put3 ?_ (by first | omega | (simp; omega))) | (refine bl_alloc ?_ (Nat.le_refl _) _)))⟩
                | false =>
                  cases q1 : (x.kind == 1) with
                  | true =>
                    have HR : Hid (Pp.listedL c.T (n + 1) s.i 0 = true) := by show _ = true; rw [hres]; unfold xNext; simp [q1]
                    clear hres
                    go_wp2_with fail
                    go_region
                    go_wp2_with fail
                    go_ret
                    exact ⟨by rw [HN.out, HR.out]; rfl, (by repeat (first | exact Hbl.out | exact Nat.le_refl _ | apply Below.drew | apply bl_drewN | (refine bl_put3 ?_ (by first | omega | (simp; omega))) | (refine bl_alloc ?_ (Nat.le_refl _) _)))⟩
                  | false =>
                    cases q8 : (x.kind == 8) with
                    | true =>
                      have HR : Hid (Pp.listedL c.T (n + 1) s.i 0 = Pp.sub outSigns ([32] ++ x.text ++ [32])) := by show _ = _; rw [hres]; unfold xNext; simp only [q0, q1, q8, Bool.true_and, Bool.false_or]; rfl
                      clear hres
                      go_wp2_with fail
                      go_region
                      go_wp2_with fail
                      refine (contains_r _ m ?_ _).mono ?_
                      · exact most_below hm (by repeat (first | exact Below.refl _ _ | exact Nat.le_refl _ | apply Below.drew | apply bl_drewN | (refine bl_alloc ?_ (Nat.le_refl _) _)))
                      rintro e w5 ⟨rfl, rfl⟩
                      go_wp2_with fail
                      go_ret
                      exact ⟨by rw [HN.out, HR.out, ← vs_cat3]; rfl, (by repeat (first | exact Hbl.out | exact Nat.le_refl _ | apply Below.drew | apply bl_drewN | (refine bl_put3 ?_ (by first | omega | (simp; omega))) | (refine bl_alloc ?_ (Nat.le_refl _) _)))⟩
                    | false =>
                      have HR : Hid (Pp.listedL c.T (n + 1) s.i 0 = false) := by show _ = false; rw [hres]; unfold xNext; simp [q0, q1, q8]
                      clear hres
                      go_wp2_with fail
                      go_region
                      go_wp2_with fail
                      go_ret
                      exact ⟨by rw [HN.out, HR.out]; rfl, (by repeat (first | exact Hbl.out | exact Nat.le_refl _ | apply Below.drew | apply bl_drewN | (refine bl_put3 ?_ (by first | omega | (simp; omega))) | (refine bl_alloc ?_ (Nat.le_refl _) _)))⟩
              · have HZ := Lib.hid (hg2 hz)
                have hzb : (d == 0) = false := by simpa using hz
                clear hs2 hg2 hz
                go_wp2_with fail
                go_roundg j
                case measure => omega
                case rel => exact ⟨d, i + 1, by go_num, by go_num, by omega, by omega, by omega, by omega, by omega, (by repeat (first | exact Hbl.out | exact Nat.le_refl _ | apply Below.drew | apply bl_drewN | (refine bl_put3 ?_ (by first | omega | (simp; omega))) | (refine bl_alloc ?_ (Nat.le_refl _) _))), HZ.out.symm⟩
        | false =>
          have hdn : dNext t d = d := by unfold dNext; rw [if_neg (fun hx => by simp [hx.1] at k8), if_neg (fun hx => by simp [hx.1] at k8)]
          have hs2 := Hstop.out
          have hg2 := Hgo.out
          rw [hdn] at hs2 hg2
          clear hdn Hstop Hgo
          by_cases hz : d = 0
          · have HZ := Lib.hid (hs2 hz)
            have hzb : (d == 0) = true := by simpa using hz
            clear hs2 hg2 hz
            have hres := HZ.out
            cases q0 : (x.kind == 0) with
            | true =>
              have HR : Hid (Pp.listedL c.T (n + 1) s.i 0 = true) := by show _ = true; rw [hres]; unfold xNext; simp [q0]
              clear hres
              go_wp2_with fail
              go_region
              go_wp2_with fail
              go_ret
              exact ⟨by rw [HN.out, HR.out]; rfl, (by repeat (first | exact Hbl.out | exact Nat.le_refl _ | apply Below.drew | apply bl_drewN | (refine bl_put3 ?_ (by first | omega | (simp; omega))) | (refine bl_alloc ?_ (Nat.le_refl _) _)))⟩
            | false =>
              cases q1 : (x.kind == 1) with
              | true =>
                have HR : Hid (Pp.listedL c.T (n + 1) s.i 0 = true) := by show _ = true; rw [hres]; unfold xNext; simp [q1]
                clear hres
                go_wp2_with fail
                go_region
                go_wp2_with fail
                go_ret
                exact ⟨by rw [HN.out, HR.out]; rfl, (by repeat (first | exact Hbl.out | exact Nat.le_refl _ | apply Below.drew | apply bl_drewN | (refine bl_put3 ?_ (by first | omega | (simp; omega))) | (refine bl_alloc ?_ (Nat.le_refl _) _)))⟩
              | false =>
                cases q8 : (x.kind == 8) with
                | true =>
                  have HR : Hid (Pp.listedL c.T (n + 1) s.i 0 = Pp.sub outSigns ([32] ++ x.text ++ [32])) := by show _ = _; rw [hres]; unfold xNext; simp only [q0, q1, q8, Bool.true_and, Bool.false_or]; rfl
                  clear hres
                  go_wp2_with fail
                  go_region
                  go_wp2_with fail
                  refine (contains_r _ m ?_ _).mono ?_
                  · exact most_below hm (by repeat (first | exact Below.refl _ _ | exact Nat.le_refl _ | apply Below.drew | apply bl_drewN | (refine bl_alloc ?_ (Nat.le_refl _) _)))
                  rintro e w5 ⟨rfl, rfl⟩
                  go_wp2_with fail
                  go_ret
                  exact ⟨by rw [HN.out, HR.out, ← vs_cat3]; rfl, (by repeat (first | exact Hbl.out | exact Nat.le_refl _ | apply Below.drew | apply bl_drewN | (refine bl_put3 ?_ (by first | omega | (simp; omega))) | (refine bl_alloc ?_ (Nat.le_refl _) _)))⟩
                | false =>
                  have HR : Hid (Pp.listedL c.T (n + 1) s.i 0 = false) := by show _ = false; rw [hres]; unfold xNext; simp [q0, q1, q8]
                  clear hres
                  go_wp2_with fail
                  go_region
                  go_wp2_with fail
                  go_ret
                  exact ⟨by rw [HN.out, HR.out]; rfl, (by repeat (first | exact Hbl.out | exact Nat.le_refl _ | apply Below.drew | apply bl_drewN | (refine bl_put3 ?_ (by first | omega | (simp; omega))) | (refine bl_alloc ?_ (Nat.le_refl _) _)))⟩
          · have HZ := Lib.hid (hg2 hz)
            have hzb : (d == 0) = false := by simpa using hz
            clear hs2 hg2 hz
            go_wp2_with fail
            go_roundg j
            case measure => omega
            case rel => exact ⟨d, i + 1, by go_num, by go_num, by omega, by omega, by omega, by omega, by omega, (by repeat (first | exact Hbl.out | exact Nat.le_refl _ | apply Below.drew | apply bl_drewN | (refine bl_put3 ?_ (by first | omega | (simp; omega))) | (refine bl_alloc ?_ (Nat.le_refl _) _))), HZ.out.symm⟩
      · have HZ := Lib.hid (hfun.out.symm.trans (listedL_end c.T gk i d (by omega)))
        clear hfun
        generalize hn : c.T.length = n at *
        have HN := Lib.hid hn
        clear hn
        go_wp2_with fail
        go_ret
        exact ⟨by rw [HN.out, HZ.out]; rfl, Hbl.out⟩

end Go.Proofs.YtgnmfaeonijogaaGreatDoor
