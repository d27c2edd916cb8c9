/-
  Slices of strings that the call itself made.
-/
import Derived.Test.YtddkiemipedgcaaGreatDoorWo
namespace Go.Proofs.YtddkiemipedgcaaGreatDoor
open Go.RowKit Go.Proofs.Fl Go.Proofs.Pl
set_option linter.unusedVariables false
theorem yields_move {P : Program} {ops : Array Oper} {o : Oper} {a : Act} (x : Operand) (ho : o.op = .move x) (hg : o.guard = none) : Yields P ops o (a.eval x) a := by
  refine .inl ⟨?_, fun w => ?_⟩
  · unfold Region.wanted; rw [hg]
  · unfold execOp; rw [ho]; rfl
/-- A list of texts that the call itself made. -/
def OwnS (w : World) (base : Nat) (v : Value) (xs : List ByteArray) : Prop := w.ownsRow base 9 1 v xs.length (xs.map Value.string)
theorem own_str_new (w : World) (b : Nat) (hb : b ≤ w.heap.size) : OwnS (w.alloc (.cells #[] 9)) b (.slice (some ⟨w.heap.size, 0, none⟩) 0 0) [] :=
  World.ownsRow_lit (base := b) (e := 9) (size := 1) w #[] 0 hb (by decide) rfl
theorem own_str_snoc {w : World} {b n : Nat} {v : Value} {xs : List ByteArray} {x : ByteArray} (hn : xs.length = n) (h : w.ownsRow b 9 1 v (n + 1) (xs.map Value.string ++ [.string x])) : OwnS w b v (xs ++ [x]) := by
  subst hn
  unfold OwnS
  simpa using h
/-- Where such a list lies, if it is not empty. -/
theorem own_str_lies {w : World} {b : Nat} {v : Value} {xs : List ByteArray} (h : OwnS w b v xs) (hn : 0 < xs.length) :
    ∃ g cap, v = .slice (some ⟨g, 0, none⟩) xs.length cap ∧ xs.length ≤ cap ∧ g < w.heap.size ∧ ∀ (j : Nat) x, xs[j]? = some x → w.cell? ⟨g, j, none⟩ = some (.string x) := by
  rcases h.2 with ⟨rfl, hx⟩ | ⟨g, cap, cur, rfl, hbg, hg, hnc, hcm, hcs, htake⟩
  · have : xs = [] := by simpa using hx
    subst this
    simp at hn
  · have hlt : g < w.heap.size := by
      by_cases c : g < w.heap.size
      · exact c
      · rw [Array.getElem?_eq_none (by omega)] at hg; cases hg
    refine ⟨g, cap, rfl, hnc, hlt, fun j x hj => ?_⟩
    have hj' : j < xs.length := (List.getElem?_eq_some_iff.1 hj).1
    rw [h.cellAt j (by omega), List.getElem?_map, hj]
    rfl
theorem one_str (x : ByteArray) : ∀ u ∈ [Value.string x], u.oneCell' = true := by intro u h; simp at h; subst h; rfl
theorem Tryz.infoS : (Tryz.prog.info? 9).map (fun i => (i.zero, i.size, i.bytes)) = some (some (.string ByteArray.empty), 1, 16) := by kernel_rfl
end Go.Proofs.YtddkiemipedgcaaGreatDoor
