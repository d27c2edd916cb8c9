/-
  What the listed errors give a walk.
-/
import Derived.Test.YtddkiemipedgcaaGreatDoorRt
import Derived.Test.YtddkiemipedgcaaGreatDoorWpi
import Derived.LaidLaws
namespace Go.Proofs.YtddkiemipedgcaaGreatDoor
open Go.ChangeShapes Go.WideShapes Go.ChangeAt Go.RowKit
set_option maxRecDepth 100000
theorem sent_of {n : String} {text : List UInt8} {r : List (String × DataW Unit)} {W : World} {g : Nat} (h : laidMet Tryz.prog ((n, .iface "*errors.errorString" (.ptr (.agg [.lit (.string text)]))) :: r) W)
    (hg : Tryz.prog.globalNamed n = some g) (ht : (Tryz.prog.globals[g]?).map (·.type) = some 113) : ∃ te pe, W.cell? ⟨g, 0, none⟩ = some (.iface te pe) := by
  obtain ⟨ps, ⟨g0, t0, cs0, f0, p0, q0, hg0, ht0, hv0, hd0, _, e0⟩, _, hrows⟩ := h
  obtain rfl := Option.some.inj (hg.symm.trans hg0)
  obtain rfl := Option.some.inj (ht.symm.trans ht0)
  obtain ⟨l0⟩ := cs0
  obtain ⟨f1, u, v, e, _⟩ := iface_of_trod Tryz.underlying113 hd0
  have e' : l0 = [.iface u v] := e
  subst e'
  exact ⟨u, v, by simpa using World.var?_cell hg0 hv0 0⟩
end Go.Proofs.YtddkiemipedgcaaGreatDoor
