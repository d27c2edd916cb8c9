/-
  The light of suns: on the ground, on a window, over a day.
-/
import Derived.Test.YtfiifnlnkedahaaDoorWs
namespace Go.Proofs.YtfiifnlnkedahaaDoor
open Go.RowKit Go.Proofs.Fl Go.Proofs.Pl
set_option linter.unusedVariables false

theorem one16 : IsOne Tryd.prog 30 := isOne_int Tryd.underlying30
theorem one64 : IsOne Tryd.prog 2 := isOne_int Tryd.underlying2
end Go.Proofs.YtfiifnlnkedahaaDoor
