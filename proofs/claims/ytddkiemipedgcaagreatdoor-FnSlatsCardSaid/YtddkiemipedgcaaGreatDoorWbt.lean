/-
  Lists of tilts.
-/
import Derived.Test.YtddkiemipedgcaaGreatDoorWo
import Derived.Test.YtddkiemipedgcaaGreatDoorWbb
namespace Go.Proofs.YtddkiemipedgcaaGreatDoor
open Go.RowKit Go.Proofs.Fl Go.Proofs.Pl
set_option linter.unusedVariables false

def tl (so : Int → Bool) : Nat → List Int
  | 0 => []
  | k + 1 => if so ((k : Int) - 64) = true then tl so k ++ [(k : Int) - 64] else tl so k
theorem tl_yes {so : Int → Bool} {k : Nat} (h : so ((k : Int) - 64) = true) : tl so (k + 1) = tl so k ++ [(k : Int) - 64] := by rw [tl, if_pos h]
theorem tl_no {so : Int → Bool} {k : Nat} (h : so ((k : Int) - 64) = false) : tl so (k + 1) = tl so k := by rw [tl, if_neg (by rw [h]; exact Bool.false_ne_true)]
theorem tl_len (so : Int → Bool) : ∀ k, (tl so k).length ≤ k
  | 0 => Nat.le_refl _
  | k + 1 => by
    have := tl_len so k
    unfold tl; split
    · simp; omega
    · omega
theorem tl_len' (so : Int → Bool) : (tl so 129).length ≤ 129 := tl_len so 129
def tl129 (so : Int → Bool) : List Int := tl so 129
theorem tl129_eq (so : Int → Bool) : tl so 129 = tl129 so := rfl
theorem tl129_len (so : Int → Bool) : (tl129 so).length ≤ 129 := tl_len so 129
attribute [irreducible] tl129
def shutSo (wd g : Nat) (h : Int) : Int → Bool := fun u => feq (opn wd g u h) 0
def inSo (wd g s : Nat) (h : Int) (lo hi : Nat) : Int → Bool := fun u => fge (pass wd g u s h) lo && fle (pass wd g u s h) hi

theorem own_snoc {w : World} {b e : Nat} {v : Value} {so : Int → Bool} {k : Nat} (hso : so ((k : Int) - 64) = true) (h : w.ownsRow b e 1 v ((tl so k).length + 1) ((tl so k).map (Value.int .i64) ++ [.int .i64 ((k : Int) - 64)])) :
    w.ownsRow b e 1 v (tl so (k + 1)).length ((tl so (k + 1)).map (Value.int .i64)) := by
  rw [tl_yes hso]; simpa using h

end Go.Proofs.YtddkiemipedgcaaGreatDoor
