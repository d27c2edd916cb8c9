/-
  A []int64 argument of a law, opened.
-/
import Derived.Test.YtfkbjkdapfdeeaaRo
import Derived.Test.YtfkbjkdapfdeeaaWof
import Derived.ChangeSlices
namespace Go.Proofs.Ytfkbjkdapfdeeaa
set_option linter.unusedVariables false
open Go.ChangeShapes Go.WideShapes Go.ChangeAt Go.RowKit Go.Proofs.Fl Go.Proofs.Pl

theorem lt_of_cell {w : World} {a : Addr} {v : Value} (h : w.cell? a = some v) : a.block < w.heap.size := by
  by_cases c : a.block < w.heap.size
  · exact c
  · have : w.heap[a.block]? = none := Array.getElem?_eq_none (by omega)
    simp [World.cell?, this] at h
theorem arg_ints {H : Type} {enc : TypeId × Value → H} {W : World} {v : Value} {d : DataW H} {ps : List MemPlace} {r : Reach} {b0 : Nat} (hv : Value.okWide Try.prog W r b0 41 v)
    (h : DataW.Trod enc Try.prog W 0 (fun _ => true) true 41 v d ps) : ∃ ao c xs, v = .slice ao (List.length xs) c ∧ ArgInts W ao xs := by
  obtain ⟨a, len, cap, rfl⟩ := okWide_slice Try.underlying41 hv
  obtain ⟨m, hm⟩ := h
  rcases open_ints Try.underlying41 Try.underlying2 (by kernel_rfl) hm with ⟨hcs, _⟩ | ⟨a', len', cap', zs, hcs, _, hl, hm', hz, _, hcell, _⟩
  · have e : Value.slice a len cap = .slice none 0 0 := by simpa [Value.cells] using hcs
    cases e
    exact ⟨none, 0, [], rfl, fun k hk => by simp at hk⟩
  · have e : Value.slice a len cap = .slice (some a') len' cap' := by simpa [Value.cells] using hcs
    cases e
    have hz' : zs.length = cap := hz
    have el : (zs.take len).length = len := by rw [List.length_take]; omega
    refine ⟨some a', cap, zs.take len, by rw [el], fun k hk => ⟨a', rfl, ?_, ?_⟩⟩
    · rw [el] at hk
      have q := lt_of_cell (hcell k (by omega))
      have hblk : (a'.add k).block = a'.block := by unfold Addr.add; split <;> rfl
      rw [hblk] at q; exact q
    · rw [el] at hk
      rw [hcell k (by omega)]
      have e2 : (zs.take len).getD k 0 = zs.getD k 0 := by
        rw [List.getD_eq_getElem?_getD, List.getD_eq_getElem?_getD, List.getElem?_take, if_pos hk]
      rw [e2]
end Go.Proofs.Ytfkbjkdapfdeeaa
