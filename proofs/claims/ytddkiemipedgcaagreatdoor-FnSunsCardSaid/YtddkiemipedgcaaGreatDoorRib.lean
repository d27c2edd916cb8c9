/-
  A []byte argument of a law, opened.
-/
import Derived.Test.YtddkiemipedgcaaGreatDoorRo
import Derived.Test.YtddkiemipedgcaaGreatDoorWdr
import Derived.ChangeSlices
namespace Go.Proofs.YtddkiemipedgcaaGreatDoor
open Go.ChangeShapes Go.WideShapes Go.ChangeAt Go.RowKit Go.Proofs.Fl Go.Proofs.Pl
set_option maxRecDepth 100000

theorem lt_of_cell2 {w : World} {a : Addr} {v : Value} (h : w.cell? a = some v) : a.block < w.heap.size := by
  by_cases c : a.block < w.heap.size
  · exact c
  · have : w.heap[a.block]? = none := Array.getElem?_eq_none (by omega)
    simp [World.cell?, this] at h
theorem wf_u8 {n : Int} (h : (Lit.int .u8 n).wf = true) : 0 ≤ n ∧ n ≤ 255 := by
  simp [Lit.wf] at h
  have e1 : IntKind.u8.min = 0 := rfl
  have e2 : IntKind.u8.max = 255 := rfl
  omega
theorem arg_bytes {H : Type} {enc : TypeId × Value → H} {W : World} {v : Value} {d : DataW H} {ps : List MemPlace} {r : Reach} {b0 : Nat} (hv : Value.okWide Tryz.prog W r b0 22 v)
    (h : DataW.Trod enc Tryz.prog W 0 (fun _ => true) true 22 v d ps) : ∃ ao c xs, v = .slice ao (List.length xs) c ∧ xs.length ≤ 9223372036854775807 ∧ ArgBytes W ao xs := by
  obtain ⟨a, len, cap, rfl⟩ := okWide_slice Tryz.underlying22 hv
  obtain ⟨m, hm⟩ := h
  rcases open_ints Tryz.underlying22 Tryz.underlying5 (by kernel_rfl) hm with ⟨hcs, _⟩ | ⟨a', len', cap', zs, hcs, _, hl, hm', hz, _, hcell, hwf⟩
  · have e : Value.slice a len cap = .slice none 0 0 := by simpa [Value.cells] using hcs
    cases e
    exact ⟨none, 0, [], rfl, by simp, fun k hk => by simp at hk⟩
  · have e : Value.slice a len cap = .slice (some a') len' cap' := by simpa [Value.cells] using hcs
    cases e
    have hz' : zs.length = cap := hz
    have el : (zs.take len).length = len := by rw [List.length_take]; omega
    refine ⟨some a', cap, zs.take len, by rw [el], by rw [el]; unfold maxLen at hm'; omega, fun k hk => ⟨a', rfl, ?_, ?_, ?_⟩⟩
    · rw [el] at hk
      have q := lt_of_cell2 (hcell k (by omega))
      rw [blk_add] at q; exact q
    · rw [el] at hk
      rw [hcell k (by omega)]
      have e2 : (zs.take len).getD k 0 = zs.getD k 0 := by
        rw [List.getD_eq_getElem?_getD, List.getD_eq_getElem?_getD, List.getElem?_take, if_pos hk]
      rw [e2]
    · have hk' : k < (zs.take len).length := hk
      have e3 : (zs.take len).getD k 0 ∈ zs := by
        rw [List.getD_eq_getElem?_getD, List.getElem?_eq_getElem hk']
        exact List.mem_of_mem_take (List.getElem_mem hk')
      exact wf_u8 (hwf _ e3)
end Go.Proofs.YtddkiemipedgcaaGreatDoor
