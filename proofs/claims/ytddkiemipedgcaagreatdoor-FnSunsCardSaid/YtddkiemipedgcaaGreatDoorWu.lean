/-
  Suns: the answers on light, hour by hour and over a day.
-/
import Derived.Test.YtddkiemipedgcaaGreatDoorWt
namespace Go.Proofs.YtddkiemipedgcaaGreatDoor
open Go.RowKit Go.Proofs.Fl Go.Proofs.Pl
set_option linter.unusedVariables false

theorem groundLight_impl (L : List Int) (hL : L.length = 48) (hr : ∀ x ∈ L, -32768 ≤ x ∧ x ≤ 32767) (h : Int) (w : World) :
    Calls Tryz.prog 26 #[.agg (sunCells L), .int .i64 h] w fun e w' => e = .returned (.tuple #[.float .f32 (sunRes L (inR h 0 23) 0 (ground L h.toNat)).1, .int .i64 (sunRes L (inR h 0 23) 0 (ground L h.toNat)).2]) ∧ Below w.heap.size w w' := by
  have kp := hidd (Keep1.start w (sunCells L) 27).drew
  have HL := hidd (And.intro hL hr)
  clear hL hr
  by_cases hc : sunCode L (inR h 0 23) = 0
  · have hb := code_bne hc
    have fin := hidd (res_ok (zr := 0) (val := ground L h.toNat) hc)
    have Hc := hidd hc
    clear hc
    obtain ⟨k, rfl, hk0, hk1⟩ := nat_of_in (by omega) (code_zero.1 Hc.out).2
    have Hk := hidd (show k < 24 by omega)
    have at_ := sunOk_at (code_zero.1 Hc.out).1 Hk.out
    obtain ⟨g1, g2, g3, g4⟩ := at_
    go_enter Tryz.func26, Tryz.ntmps26
    go_wp2_with fail
    refine wp_region_in (fun w' => Keep1 w w' (sunCells L)) (by kernel_rfl) (by kernel_rfl) kp.out ?_
    (refine wpQuiet_step (fun K hK => ?_); rw [if_pos (by rfl)]; refine quiet_load_all _ _ rfl _ rfl (sunCells L) _ (agg_impl) (sun_size HL.out.1) (fun w' hw' => hw'.row) ?_; go_simp; refine hK _ ?_; clear hK K)
    repeat (refine wpQuiet_step (fun K hK => ?_); go_simp; first | (refine hK _ ?_; clear hK K) | (apply Exists.intro; refine ⟨fun w' hw' => ?_, hK _ ?_⟩; (first | rfl | exact ⟨rfl, rfl⟩ | ((first | (go_at_call 75; exact (hour_impl _ _).mono fun e w'' h => ⟨h.1, h.2 ▸ hw'⟩) | (go_at_call 58; exact (code_impl L HL.out.1 HL.out.2 _ _).mono fun e w'' h => ⟨h.1, hw'.step h.2⟩)))); clear hK K))
    refine wpQuiet_nil ?_
    intro w1 k1
    have k2 := hidd k1
    clear k1
    go_wp2_with (go_at_call 78; refine (ground_impl _ L HL.out.1 k Hk.out g1 g2 _ k2.out.row).mono ?_; rintro e w' ⟨rfl, rfl⟩)
    go_ret2; exact ⟨by rw [fin.out]; rfl, k2.out.below⟩
  · have hb := code_bne' hc
    have fin := hidd (res_no (zr := 0) (val := ground L h.toNat) hc)
    have Hc := hidd hc
    clear hc
    go_enter Tryz.func26, Tryz.ntmps26
    go_wp2_with fail
    refine wp_region_in (fun w' => Keep1 w w' (sunCells L)) (by kernel_rfl) (by kernel_rfl) kp.out ?_
    (refine wpQuiet_step (fun K hK => ?_); rw [if_pos (by rfl)]; refine quiet_load_all _ _ rfl _ rfl (sunCells L) _ (agg_impl) (sun_size HL.out.1) (fun w' hw' => hw'.row) ?_; go_simp; refine hK _ ?_; clear hK K)
    repeat (refine wpQuiet_step (fun K hK => ?_); go_simp; first | (refine hK _ ?_; clear hK K) | (apply Exists.intro; refine ⟨fun w' hw' => ?_, hK _ ?_⟩; (first | rfl | exact ⟨rfl, rfl⟩ | ((first | (go_at_call 75; exact (hour_impl _ _).mono fun e w'' h => ⟨h.1, h.2 ▸ hw'⟩) | (go_at_call 58; exact (code_impl L HL.out.1 HL.out.2 _ _).mono fun e w'' h => ⟨h.1, hw'.step h.2⟩)))); clear hK K))
    refine wpQuiet_nil ?_
    intro w1 k1
    have k2 := hidd k1
    clear k1
    go_wp2
    go_ret2; exact ⟨by rw [fin.out]; rfl, k2.out.below⟩
theorem day_ground (L : List Int) (hL : L.length = 48) (hok : Hid (sunOk L = true)) (w0 w : World) (kp0 : Keep1 w0 w (sunCells L)) :
    Calls Tryz.prog 80 #[.func (.func 78) #[.pointer (some ⟨w0.heap.size, 0, none⟩)] #[]] w fun e w' => e = .returned (.float .f32 (sum24 (ground L))) ∧ Keep1 w0 w' (sunCells L) := by
  have kp := hidd kp0
  clear kp0
  have fins : Hid (∀ k, k < 24 → Unit' ((ground L) k)) := fun k hk => ground_unit (sunOk_at hok.out hk).2.1
  have z : Fnt 0 := by decide
  go_enter Tryz.func80, Tryz.ntmps80
  go_wp2_with fail
  go_loopw [3, 5] (fun s i wr => ∃ k : Nat, k ≤ 24 ∧ i = .int .i64 k ∧ s = .float .f32 (sumTo (ground L) k) ∧ Keep1 w0 wr (sunCells L)) (fun _ i _ => 24 - (intOf i).toNat)
  case atStart => exact ⟨0, by omega, rfl, rfl, kp.out⟩
  case round =>
    obtain ⟨k, hk, rfl, rfl, kr⟩ := hrel
    have kq := hidd kr
    clear kr
    by_cases hlt : k < 24
    · have s1 := sum_fin fins.out (k := k) (by omega)
      have s2 := (unit_fin (fins.out k hlt)).1
      obtain ⟨g1, g2, g3, g4⟩ := sunOk_at hok.out hlt
      go_wp2_with (go_at_call 78; refine (ground_impl _ L hL k hlt g1 g2 _ kq.out.row).mono ?_; rintro e w' ⟨rfl, rfl⟩)
      have kz := kq
      go_roundw
      case rel => exact ⟨k + 1, by omega, by go_num, rfl, kz.out⟩
      case measure => simp [intOf]; omega
    · obtain rfl : k = 24 := by omega
      rw [sum24_eq]
      go_wp2
      go_ret; exact ⟨rfl, kq.out⟩
theorem groundDay_impl (L : List Int) (hL : L.length = 48) (hr : ∀ x ∈ L, -32768 ≤ x ∧ x ≤ 32767) (w : World) :
    Calls Tryz.prog 29 #[.agg (sunCells L)] w fun e w' => e = .returned (.tuple #[.float .f32 (sunRes L true 0 (dayGround L)).1, .int .i64 (sunRes L true 0 (dayGround L)).2]) ∧ Below w.heap.size w w' := by
  have kp := hidd (Keep1.start w (sunCells L) 27)
  have HL := hidd (And.intro hL hr)
  clear hL hr
  by_cases hc : sunCode L true = 0
  · have hb := code_bne hc
    have fin := hidd (show sunRes L true 0 (dayGround L) = (sum24 (ground L), 0) from res_ok hc)
    have Hc := hidd hc
    clear hc
    have Ho := hidd (code_zero.1 Hc.out).1
    go_enter Tryz.func29, Tryz.ntmps29
    go_wp2_with (first | (refine wpList_load_all rfl _ _ rfl _ rfl (sunCells L) 48 agg_impl (sun_size HL.out.1) kp.out.row ?_) | (go_at_call 58; refine (code_impl L HL.out.1 HL.out.2 _ _).mono ?_; rintro e wn ⟨rfl, hbn⟩; have kn := hidd (kp.out.step hbn); clear kp hbn; have kp := kn; clear kn) | (go_at_call 80; refine (day_ground L HL.out.1 Ho w _ kp.out).mono ?_; rintro e wn ⟨rfl, hbn⟩; have kn := hidd hbn; clear kp hbn; have kp := kn; clear kn))
    go_ret2; exact ⟨by rw [fin.out]; rfl, kp.out.below⟩
  · have hb := code_bne' hc
    have fin := hidd (res_no (zr := 0) (val := dayGround L) hc)
    have Hc := hidd hc
    clear hc
    go_enter Tryz.func29, Tryz.ntmps29
    go_wp2_with (first | (refine wpList_load_all rfl _ _ rfl _ rfl (sunCells L) 48 agg_impl (sun_size HL.out.1) kp.out.row ?_) | (go_at_call 58; refine (code_impl L HL.out.1 HL.out.2 _ _).mono ?_; rintro e wn ⟨rfl, hbn⟩; have kn := hidd (kp.out.step hbn); clear kp hbn; have kp := kn; clear kn))
    go_ret2; exact ⟨by rw [fin.out]; rfl, kp.out.below⟩
end Go.Proofs.YtddkiemipedgcaaGreatDoor
