/-
  What the listed errors give a walk.
-/
import Derived.Test.YtfiifnlnkedahaaDoorRt
import Derived.Test.YtfiifnlnkedahaaDoorWpi
import Derived.LaidLaws
namespace Go.Proofs.YtfiifnlnkedahaaDoor
open Go.ChangeShapes Go.WideShapes Go.ChangeAt Go.RowKit
set_option maxRecDepth 100000
theorem sent_of {n : String} {text : List UInt8} {r : List (String × DataW Unit)} {W : World} {g : Nat} (h : laidMet Tryd.prog ((n, .iface "*errors.errorString" (.ptr (.agg [.lit (.string text)]))) :: r) W)
    (hg : Tryd.prog.globalNamed n = some g) (ht : (Tryd.prog.globals[g]?).map (·.type) = some 65) : ∃ te pe, W.cell? ⟨g, 0, none⟩ = some (.iface te pe) := by
  obtain ⟨ps, ⟨g0, t0, cs0, f0, p0, q0, hg0, ht0, hv0, hd0, _, e0⟩, _, hrows⟩ := h
  obtain rfl := Option.some.inj (hg.symm.trans hg0)
  obtain rfl := Option.some.inj (ht.symm.trans ht0)
  obtain ⟨l0⟩ := cs0
  obtain ⟨f1, u, v, e, _⟩ := iface_of_trod Tryd.underlying65 hd0
  have e' : l0 = [.iface u v] := e
  subst e'
  exact ⟨u, v, by simpa using World.var?_cell hg0 hv0 0⟩
theorem errs_of5 {W : World} (h : laidMet Tryd.prog Rows.fnExactReadNumberRow.laid W) : Errs W := by
  have h3 := laidMet.tail (laidMet.tail (laidMet.tail h))
  have h4 := laidMet.tail h3
  exact ⟨sent_of h4 (by kernel_rfl) (by kernel_rfl), sent_of h3 (by kernel_rfl) (by kernel_rfl)⟩
theorem door5 (os : Os) (args : Array Value) : laidMetH Tryd.prog Rows.fnExactReadNumberRow.laid ((World.doorLaid Tryd.prog 400 os).forCall (fun _ _ => 0) ⟨#[], args, []⟩).memory :=
  laidMetH_of_parts3 (fuel := 8) (laidMet_of_run' 8 (by kernel_rfl) (by kernel_rfl)) (by kernel_rfl) (by kernel_rfl)
end Go.Proofs.YtfiifnlnkedahaaDoor
