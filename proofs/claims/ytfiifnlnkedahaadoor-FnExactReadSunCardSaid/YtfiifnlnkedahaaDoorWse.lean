/-
  Suns: whether two are equal.
-/
import Derived.Test.YtfiifnlnkedahaaDoorWt
namespace Go.Proofs.YtfiifnlnkedahaaDoor
open Go.RowKit Go.Proofs.Fl Go.Proofs.Pl
set_option linter.unusedVariables false

theorem eq24 (L : List Int) (hL : L.length = 24) (w : World) :
    Calls Tryd.prog 65 #[.agg (sunCells L), .agg (sunCells L)] w fun e w' => e = .returned (.bool true) ∧ Below w.heap.size w w' := by
  have kp := hidd (Keep2.start w (sunCells L) (sunCells L) 31 31)
  have HL := hidd hL
  clear hL
  go_enter Tryd.func65, Tryd.ntmps65
  go_wp2_with fail
  go_loopw [5] (fun i wr => ∃ k : Nat, k ≤ 24 ∧ i = .int .i64 k ∧ Keep2 w wr (sunCells L) (sunCells L)) (fun i _ => 24 - (intOf i).toNat)
  case atStart => exact ⟨0, by omega, rfl, kp.out⟩
  case round =>
    obtain ⟨k, hk, rfl, kr⟩ := hrel
    have kq := hidd kr
    clear kr
    by_cases hlt : k < 24
    · have i0 : (0 : Int) ≤ (k : Int) := by omega
      have i1 : (k : Int) < 24 := by omega
      go_wp2_with fail
      refine wp_region_in (fun w' => Keep2 w w' (sunCells L) (sunCells L)) (by kernel_rfl) (by kernel_rfl) kq.out.drew ?_
      repeat (first | (refine wpQuiet_step (fun K hK => ?_); rw [if_pos (by rfl)]; refine quiet_load_cell _ _ rfl _ rfl (.int .i16 (L.getD k 0)) (one16) (fun w' hw' => ((hw'.row.cell k).trans (sunCells_at (by rw [HL.out]; exact hlt)))) ?_; go_simp; refine hK _ ?_; clear hK K) | (refine wpQuiet_step (fun K hK => ?_); rw [if_pos (by rfl)]; refine quiet_load_cell _ _ rfl _ rfl (.int .i16 (L.getD k 0)) (one16) (fun w' hw' => ((hw'.row2.cell k).trans (sunCells_at (by rw [HL.out]; exact hlt)))) ?_; go_simp; refine hK _ ?_; clear hK K) | (refine wpQuiet_step (fun K hK => ?_); go_simp; first | (refine hK _ ?_; clear hK K) | (apply Exists.intro; refine ⟨fun w' hw' => ?_, hK _ ?_⟩; (first | rfl | exact ⟨rfl, rfl⟩ | (fail)); clear hK K)))
      refine wpQuiet_nil ?_
      intro w1 j1
      have j2 := hidd j1
      clear j1
      go_wp2
      go_roundw
      case rel => exact ⟨k + 1, by omega, by go_num, j2.out⟩
      case measure => simp [intOf]; omega
    · obtain rfl : k = 24 := by omega
      go_wp2
      go_ret; exact ⟨rfl, kq.out.below⟩
theorem eq_sun (L : List Int) (hL : L.length = 48) (w : World) :
    Calls Tryd.prog 23 #[.agg (sunCells L), .agg (sunCells L)] w fun e w' => e = .returned (.bool true) ∧ Below w.heap.size w w' := by
  have kp := hidd (Keep2.start w (sunCells L) (sunCells L) 35 35)
  have HL := hidd hL
  clear hL
  go_enter Tryd.func23, Tryd.ntmps23
  go_wp2_with (first | (refine wpList_load_lo rfl _ rfl w.heap.size rfl L HL.out kp.out.row ?_) | (refine wpList_load_lo rfl _ rfl (w.heap.size + 1) rfl L HL.out kp.out.row2 ?_))
  refine (eq24 (L.take 24) (by rw [List.length_take, HL.out]; rfl) _).mono ?_
  rintro e w3 ⟨rfl, hb3⟩
  replace kp := hidd (kp.out.step hb3)
  clear hb3
  go_wp2_with (first | (refine wpList_load_hi rfl _ rfl w.heap.size rfl L HL.out kp.out.row ?_) | (refine wpList_load_hi rfl _ rfl (w.heap.size + 1) rfl L HL.out kp.out.row2 ?_))
  refine (eq24 (L.drop 24) (by rw [List.length_drop, HL.out]) _).mono ?_
  rintro e w4 ⟨rfl, hb4⟩
  replace kp := hidd (kp.out.step hb4)
  clear hb4
  go_wp2
  go_ret; exact ⟨rfl, kp.out.below⟩
end Go.Proofs.YtfiifnlnkedahaaDoor
