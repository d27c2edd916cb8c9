/-
  Tilts with which what passes is within bounds; the first shut tilt.
-/
import Derived.Test.YtddkiemipedgcaaGreatDoorWbu
namespace Go.Proofs.YtddkiemipedgcaaGreatDoor
open Go.RowKit Go.Proofs.Fl Go.Proofs.Pl
set_option linter.unusedVariables false

structure Keep4 (w0 w : World) (c d e f : Array Value) : Prop where
  below : Below w0.heap.size w0 w
  row : Row w w0.heap.size c
  row2 : Row w (w0.heap.size + 1) d
  row3 : Row w (w0.heap.size + 1 + 1) e
  row4 : Row w (w0.heap.size + 1 + 1 + 1) f
theorem Keep4.start (w : World) (c d e f : Array Value) (t u v x : TypeId) : Keep4 w ((((w.alloc (.cells c t)).alloc (.cells d u)).alloc (.cells e v)).alloc (.cells f x)) c d e f :=
  ⟨((((Below.refl _ _).alloc (Nat.le_refl _) _).alloc (by simp) _).alloc (by simp; omega) _).alloc (by simp; omega) _, (((Row.new _ _ _).alloc _).alloc _).alloc _, ((Row.new' _ _ _ _ (by simp)).alloc _).alloc _, (Row.new' _ _ _ _ (by simp)).alloc _, Row.new' _ _ _ _ (by simp)⟩
theorem Keep4.step {w0 w w1 : World} {c d e f : Array Value} (h : Keep4 w0 w c d e f) (hb : Below w.heap.size w w1) : Keep4 w0 w1 c d e f :=
  ⟨h.below.trans (hb.mono (by have := h.row.lt; omega)), h.row.below hb h.row.lt, h.row2.below hb h.row2.lt, h.row3.below hb h.row3.lt, h.row4.below hb h.row4.lt⟩
theorem Keep4.drew {w0 w : World} {c d e f : Array Value} (h : Keep4 w0 w c d e f) : Keep4 w0 w.drew c d e f := ⟨h.below.drew, h.row, h.row2, h.row3, h.row4⟩
theorem code_f (b : Bool) : (code2 b false != 0) = true := by cases b <;> rfl
theorem in_no1 {wd g s : Nat} {h : Int} {lo hh : Nat} {u : Int} (e : fge (pass wd g u s h) lo = false) : inSo wd g s h lo hh u = false := by show (fge (pass wd g u s h) lo && fle (pass wd g u s h) hh) = false; rw [e]; rfl
theorem in_no2 {wd g s : Nat} {h : Int} {lo hh : Nat} {u : Int} (e : fle (pass wd g u s h) hh = false) : inSo wd g s h lo hh u = false := by show (fge (pass wd g u s h) lo && fle (pass wd g u s h) hh) = false; rw [e, Bool.and_false]
theorem in_yes {wd g s : Nat} {h : Int} {lo hh : Nat} {u : Int} (e : fge (pass wd g u s h) lo = true) (e2 : fle (pass wd g u s h) hh = true) : inSo wd g s h lo hh u = true := by show (fge (pass wd g u s h) lo && fle (pass wd g u s h) hh) = true; rw [e, e2]; rfl

/-- The first number of a list that is at least 0; and a code. -/
def cutAns (c : List Int × Int) : Int × Int := if c.2 = 0 then ((c.1.find? fun x => decide (0 ≤ x)).elim (0, 6) fun x => (x, 0)) else (0, c.2)
theorem cut_code {c : List Int × Int} (h : c.2 ≠ 0) : cutAns c = (0, c.2) := by unfold cutAns; rw [if_neg h]
theorem cut_hit {xs : List Int} {k : Nat} {x : Int} (hk : k < xs.length) (hx : x = xs.getD k 0) (h0 : 0 ≤ x) (h : ∀ j, j < k → xs.getD j 0 < 0) : cutAns (xs, 0) = (x, 0) := by
  have : xs.find? (fun x => decide (0 ≤ x)) = some x := by
    rw [List.find?_eq_some_iff_getElem]
    refine ⟨by simpa using h0, k, hk, by rw [hx]; simp [hk], fun j hj => ?_⟩
    have := h j hj
    rw [List.getD_eq_getElem?_getD, List.getElem?_eq_getElem (by omega)] at this
    simpa using this
  unfold cutAns; rw [if_pos rfl, this]; rfl
theorem cut_miss {xs : List Int} (h : ∀ j, j < xs.length → xs.getD j 0 < 0) : cutAns (xs, 0) = (0, 6) := by
  have : xs.find? (fun x => decide (0 ≤ x)) = none := by
    rw [List.find?_eq_none]
    intro x hx
    obtain ⟨j, hj, e⟩ := List.getElem_of_mem hx
    have := h j hj
    rw [List.getD_eq_getElem?_getD, List.getElem?_eq_getElem hj, e] at this
    simpa using this
  unfold cutAns; rw [if_pos rfl, this]; rfl
theorem neg_succ {xs : List Int} {k : Nat} {x : Int} (hx : x = xs.getD k 0) (h0 : x < 0) (h : ∀ j, j < k → xs.getD j 0 < 0) : ∀ j, j < k + 1 → xs.getD j 0 < 0 := by
  intro j hj
  by_cases e : j = k
  · subst e; omega
  · exact h j (by omega)

end Go.Proofs.YtddkiemipedgcaaGreatDoor
