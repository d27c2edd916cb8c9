/-
  Lists of tilts: the program's side, and the answers.
-/
import Derived.Test.YtddkiemipedgcaaGreatDoorWbt
import Derived.Test.YtddkiemipedgcaaGreatDoorWbc
namespace Go.Proofs.YtddkiemipedgcaaGreatDoor
open Go.RowKit Go.Proofs.Fl Go.Proofs.Pl
set_option linter.unusedVariables false

def listAns (c : Int) (so : Int → Bool) : List Int × Int := codeRes c [] (tl129 so)
theorem la_ok {c : Int} {so : Int → Bool} (h : c = 0) : listAns c so = (tl129 so, 0) := cr_ok h
theorem la_no {c : Int} {so : Int → Bool} (h : c ≠ 0) : listAns c so = ([], c) := cr_no h
theorem la_len (c : Int) (so : Int → Bool) : (listAns c so).1.length ≤ 129 := by
  by_cases h : c = 0
  · rw [la_ok h]; exact tl129_len so
  · rw [la_no h]; simp

end Go.Proofs.YtddkiemipedgcaaGreatDoor
