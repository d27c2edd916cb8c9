/-
  Blinds: what is blocked, what is open, what passes.
-/
import Derived.Test.YtfiifnlnkedahaaDoorWb
namespace Go.Proofs.YtfiifnlnkedahaaDoor
open Go.RowKit Go.Proofs.Fl Go.Proofs.Pl
set_option linter.unusedVariables false

end Go.Proofs.YtfiifnlnkedahaaDoor
