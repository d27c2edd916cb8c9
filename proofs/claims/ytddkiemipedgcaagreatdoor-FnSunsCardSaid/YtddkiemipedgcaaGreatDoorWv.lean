/-
  Suns: what falls on a window, over a day; the best hour and the best facing.
-/
import Derived.Test.YtddkiemipedgcaaGreatDoorWu
namespace Go.Proofs.YtddkiemipedgcaaGreatDoor
open Go.RowKit Go.Proofs.Fl Go.Proofs.Pl
set_option linter.unusedVariables false

theorem fallOn_impl (L : List Int) (hL : L.length = 48) (hr : ∀ x ∈ L, -32768 ≤ x ∧ x ≤ 32767) (h f : Int) (w : World) :
    Calls Tryz.prog 23 #[.agg (sunCells L), .int .i64 h, .int .i64 f] w fun e w' => e = .returned (.tuple #[.float .f32 (sunRes L (inR h 0 23 && inR f 0 255) 0 (fall L h.toNat f)).1, .int .i64 (sunRes L (inR h 0 23 && inR f 0 255) 0 (fall L h.toNat f)).2]) ∧ Below w.heap.size w w' := by
  have kp := hidd (Keep1.start w (sunCells L) 27).drew
  have HL := hidd (And.intro hL hr)
  clear hL hr
  rcases bool_or (inR h 0 23) with e1 | e1
  · have fin := hidd (show sunRes L (inR h 0 23 && inR f 0 255) 0 (fall L h.toNat f) = (0, sunCode L false) by rw [e1]; exact res_no (code_false L))
    have hb := code_bne' (code_false L)
    go_enter Tryz.func23, Tryz.ntmps23
    go_wp2_with fail
    refine wp_region_in (fun w' => Keep1 w w' (sunCells L)) (by kernel_rfl) (by kernel_rfl) kp.out ?_
    (refine wpQuiet_step (fun K hK => ?_); rw [if_pos (by rfl)]; refine quiet_load_all _ _ rfl _ rfl (sunCells L) _ (agg_impl) (sun_size HL.out.1) (fun w' hw' => hw'.row) ?_; go_simp; refine hK _ ?_; clear hK K)
    repeat (refine wpQuiet_step (fun K hK => ?_); go_simp; first | (refine hK _ ?_; clear hK K) | (apply Exists.intro; refine ⟨fun w' hw' => ?_, hK _ ?_⟩; (first | rfl | exact ⟨rfl, rfl⟩ | ((first | (go_at_call 75; exact (hour_impl _ _).mono fun e w'' h => ⟨h.1, h.2 ▸ hw'⟩) | (go_at_call 58; exact (code_impl L HL.out.1 HL.out.2 _ _).mono fun e w'' h => ⟨h.1, hw'.step h.2⟩)))); clear hK K))
    refine wpQuiet_nil ?_
    intro w1 k1
    have k2 := hidd k1
    clear k1
    go_wp2
    go_ret2; exact ⟨by rw [fin.out]; rfl, k2.out.below⟩
  · rcases bool_or (inR f 0 255) with e2 | e2
    · have fin := hidd (show sunRes L (inR h 0 23 && inR f 0 255) 0 (fall L h.toNat f) = (0, sunCode L false) by rw [e1, e2]; exact res_no (code_false L))
      have hb := code_bne' (code_false L)
      go_enter Tryz.func23, Tryz.ntmps23
      go_wp2_with fail
      refine wp_region_in (fun w' => Keep1 w w' (sunCells L)) (by kernel_rfl) (by kernel_rfl) kp.out ?_
      (refine wpQuiet_step (fun K hK => ?_); rw [if_pos (by rfl)]; refine quiet_load_all _ _ rfl _ rfl (sunCells L) _ (agg_impl) (sun_size HL.out.1) (fun w' hw' => hw'.row) ?_; go_simp; refine hK _ ?_; clear hK K)
      repeat (refine wpQuiet_step (fun K hK => ?_); go_simp; first | (refine hK _ ?_; clear hK K) | (apply Exists.intro; refine ⟨fun w' hw' => ?_, hK _ ?_⟩; (first | rfl | exact ⟨rfl, rfl⟩ | ((first | (go_at_call 75; exact (hour_impl _ _).mono fun e w'' h => ⟨h.1, h.2 ▸ hw'⟩) | (go_at_call 62; exact (faced_impl _ _).mono fun e w'' h => ⟨h.1, h.2 ▸ hw'⟩) | (go_at_call 58; exact (code_impl L HL.out.1 HL.out.2 _ _).mono fun e w'' h => ⟨h.1, hw'.step h.2⟩)))); clear hK K))
      refine wpQuiet_nil ?_
      intro w1 k1
      have k2 := hidd k1
      clear k1
      go_wp2
      go_ret2; exact ⟨by rw [fin.out]; rfl, k2.out.below⟩
    · by_cases hc : sunCode L true = 0
      · have hb := code_bne hc
        have fin := hidd (show sunRes L (inR h 0 23 && inR f 0 255) 0 (fall L h.toNat f) = (fall L h.toNat f, 0) by rw [e1, e2]; exact res_ok hc)
        have Hc := hidd hc
        clear hc
        obtain ⟨k, rfl, hk0, hk1⟩ := nat_of_in (by omega) e1
        have Hk := hidd (show k < 24 by omega)
        obtain ⟨g1, g2, g3, g4⟩ := sunOk_at (code_zero.1 Hc.out).1 Hk.out
        obtain ⟨f1, f2⟩ := inR_iff.1 e2
        go_enter Tryz.func23, Tryz.ntmps23
        go_wp2_with fail
        refine wp_region_in (fun w' => Keep1 w w' (sunCells L)) (by kernel_rfl) (by kernel_rfl) kp.out ?_
        (refine wpQuiet_step (fun K hK => ?_); rw [if_pos (by rfl)]; refine quiet_load_all _ _ rfl _ rfl (sunCells L) _ (agg_impl) (sun_size HL.out.1) (fun w' hw' => hw'.row) ?_; go_simp; refine hK _ ?_; clear hK K)
        repeat (refine wpQuiet_step (fun K hK => ?_); go_simp; first | (refine hK _ ?_; clear hK K) | (apply Exists.intro; refine ⟨fun w' hw' => ?_, hK _ ?_⟩; (first | rfl | exact ⟨rfl, rfl⟩ | ((first | (go_at_call 75; exact (hour_impl _ _).mono fun e w'' h => ⟨h.1, h.2 ▸ hw'⟩) | (go_at_call 62; exact (faced_impl _ _).mono fun e w'' h => ⟨h.1, h.2 ▸ hw'⟩) | (go_at_call 58; exact (code_impl L HL.out.1 HL.out.2 _ _).mono fun e w'' h => ⟨h.1, hw'.step h.2⟩)))); clear hK K))
        refine wpQuiet_nil ?_
        intro w1 k1
        have k2 := hidd k1
        clear k1
        go_wp2_with (go_at_call 65; refine (fall_impl _ L HL.out.1 k Hk.out g1 g2 g3 g4 f f1 f2 _ k2.out.row).mono ?_; rintro e w3 ⟨rfl, hb3⟩; have k3 := hidd (k2.out.step hb3); clear hb3)
        go_ret2; exact ⟨by rw [fin.out]; rfl, k3.out.below⟩
      · have hb := code_bne' hc
        have fin := hidd (show sunRes L (inR h 0 23 && inR f 0 255) 0 (fall L h.toNat f) = (0, sunCode L true) by rw [e1, e2]; exact res_no hc)
        have Hc := hidd hc
        clear hc
        go_enter Tryz.func23, Tryz.ntmps23
        go_wp2_with fail
        refine wp_region_in (fun w' => Keep1 w w' (sunCells L)) (by kernel_rfl) (by kernel_rfl) kp.out ?_
        (refine wpQuiet_step (fun K hK => ?_); rw [if_pos (by rfl)]; refine quiet_load_all _ _ rfl _ rfl (sunCells L) _ (agg_impl) (sun_size HL.out.1) (fun w' hw' => hw'.row) ?_; go_simp; refine hK _ ?_; clear hK K)
        repeat (refine wpQuiet_step (fun K hK => ?_); go_simp; first | (refine hK _ ?_; clear hK K) | (apply Exists.intro; refine ⟨fun w' hw' => ?_, hK _ ?_⟩; (first | rfl | exact ⟨rfl, rfl⟩ | ((first | (go_at_call 75; exact (hour_impl _ _).mono fun e w'' h => ⟨h.1, h.2 ▸ hw'⟩) | (go_at_call 62; exact (faced_impl _ _).mono fun e w'' h => ⟨h.1, h.2 ▸ hw'⟩) | (go_at_call 58; exact (code_impl L HL.out.1 HL.out.2 _ _).mono fun e w'' h => ⟨h.1, hw'.step h.2⟩)))); clear hK K))
        refine wpQuiet_nil ?_
        intro w1 k1
        have k2 := hidd k1
        clear k1
        go_wp2
        go_ret2; exact ⟨by rw [fin.out]; rfl, k2.out.below⟩
theorem fallOn_spec (L : List Int) (hL : L.length = 48) (hr : ∀ x ∈ L, -32768 ≤ x ∧ x ≤ 32767) (h f : Int) (w : World) :
    Calls Tryz.prog 24 #[.agg (sunCells L), .int .i64 h, .int .i64 f] w fun e w' => e = .returned (.tuple #[.float .f32 (sunRes L (inR h 0 23 && inR f 0 255) 0 (fall L h.toNat f)).1, .int .i64 (sunRes L (inR h 0 23 && inR f 0 255) 0 (fall L h.toNat f)).2]) ∧ Below w.heap.size w w' := by
  have kp := hidd (Keep1.start w (sunCells L) 27)
  have HL := hidd (And.intro hL hr)
  clear hL hr
  rcases bool_or (inR h 0 23) with e1 | e1
  · have fin := hidd (show sunRes L (inR h 0 23 && inR f 0 255) 0 (fall L h.toNat f) = (0, sunCode L false) by rw [e1]; exact res_no (code_false L))
    have hb := code_bne' (code_false L)
    go_enter Tryz.func24, Tryz.ntmps24
    go_wp2_with (first | (go_at_call 76; refine (hour_spec _ _).mono ?_; rintro e w' ⟨rfl, rfl⟩) | (go_at_call 67; refine (faced_spec _ _).mono ?_; rintro e w' ⟨rfl, rfl⟩) | (go_at_call 66; refine (asked_spec _ L HL.out.1 HL.out.2 _ _ kp.out.row).mono ?_; rintro e w' ⟨rfl, rfl⟩))
    go_ret2; exact ⟨by rw [fin.out]; rfl, kp.out.below⟩
  · rcases bool_or (inR f 0 255) with e2 | e2
    · have fin := hidd (show sunRes L (inR h 0 23 && inR f 0 255) 0 (fall L h.toNat f) = (0, sunCode L false) by rw [e1, e2]; exact res_no (code_false L))
      have hb := code_bne' (code_false L)
      go_enter Tryz.func24, Tryz.ntmps24
      go_wp2_with (first | (go_at_call 76; refine (hour_spec _ _).mono ?_; rintro e w' ⟨rfl, rfl⟩) | (go_at_call 67; refine (faced_spec _ _).mono ?_; rintro e w' ⟨rfl, rfl⟩) | (go_at_call 66; refine (asked_spec _ L HL.out.1 HL.out.2 _ _ kp.out.row).mono ?_; rintro e w' ⟨rfl, rfl⟩))
      go_ret2; exact ⟨by rw [fin.out]; rfl, kp.out.below⟩
    · by_cases hc : sunCode L true = 0
      · have hb := code_bne hc
        have fin := hidd (show sunRes L (inR h 0 23 && inR f 0 255) 0 (fall L h.toNat f) = (fall L h.toNat f, 0) by rw [e1, e2]; exact res_ok hc)
        have Hc := hidd hc
        clear hc
        obtain ⟨k, rfl, hk0, hk1⟩ := nat_of_in (by omega) e1
        have Hk := hidd (show k < 24 by omega)
        obtain ⟨g1, g2, g3, g4⟩ := sunOk_at (code_zero.1 Hc.out).1 Hk.out
        obtain ⟨f1, f2⟩ := inR_iff.1 e2
        go_enter Tryz.func24, Tryz.ntmps24
        go_wp2_with (first | (go_at_call 76; refine (hour_spec _ _).mono ?_; rintro e w' ⟨rfl, rfl⟩) | (go_at_call 67; refine (faced_spec _ _).mono ?_; rintro e w' ⟨rfl, rfl⟩) | (go_at_call 66; refine (asked_spec _ L HL.out.1 HL.out.2 _ _ kp.out.row).mono ?_; rintro e w' ⟨rfl, rfl⟩) | (go_at_call 68; refine (fall_spec _ L HL.out.1 k Hk.out g1 g2 g3 g4 f f1 f2 _ kp.out.row).mono ?_; rintro e wn ⟨rfl, hbn⟩; have kn := hidd (kp.out.step hbn); clear kp hbn; have kp := kn; clear kn))
        go_ret2; exact ⟨by rw [fin.out]; rfl, kp.out.below⟩
      · have hb := code_bne' hc
        have fin := hidd (show sunRes L (inR h 0 23 && inR f 0 255) 0 (fall L h.toNat f) = (0, sunCode L true) by rw [e1, e2]; exact res_no hc)
        have Hc := hidd hc
        clear hc
        go_enter Tryz.func24, Tryz.ntmps24
        go_wp2_with (first | (go_at_call 76; refine (hour_spec _ _).mono ?_; rintro e w' ⟨rfl, rfl⟩) | (go_at_call 67; refine (faced_spec _ _).mono ?_; rintro e w' ⟨rfl, rfl⟩) | (go_at_call 66; refine (asked_spec _ L HL.out.1 HL.out.2 _ _ kp.out.row).mono ?_; rintro e w' ⟨rfl, rfl⟩))
        go_ret2; exact ⟨by rw [fin.out]; rfl, kp.out.below⟩
theorem fallDay1 (b : Nat) (L : List Int) (hL : L.length = 48) (k : Nat) (hk : k < 24) (h1 : -64 ≤ hgt L k) (h2 : hgt L k ≤ 64) (h3 : 0 ≤ trn L k) (h4 : trn L k ≤ 255) (f : Int) (f1 : 0 ≤ f) (f2 : f ≤ 255) (w0 w : World) (hs : Row w0 b (sunCells L))
    (kp0 : Keep2 w0 w #[.pointer (some ⟨b, 0, none⟩)] #[.int .i64 f]) : Calls Tryz.prog 115 #[.int .i64 k, .pointer (some ⟨w0.heap.size, 0, none⟩), .pointer (some ⟨w0.heap.size + 1, 0, none⟩)] w fun e w' => e = .returned (.float .f32 (fall L k f)) ∧ Below w.heap.size w w' := by
  have c1 : w.cell? ⟨w0.heap.size, 0, none⟩ = some (.pointer (some ⟨b, 0, none⟩)) := by rw [kp0.row.cell]; rfl
  have c2 : w.cell? ⟨w0.heap.size + 1, 0, none⟩ = some (.int .i64 f) := by rw [kp0.row2.cell]; rfl
  have Hs := hidd (hs.below kp0.below hs.lt)
  clear kp0 hs
  go_enter Tryz.func115, Tryz.ntmps115
  go_wp2_with (go_at_call 65; refine (fall_impl _ L hL k hk h1 h2 h3 h4 f f1 f2 _ Hs.out).mono ?_; rintro e w3 ⟨rfl, hb3⟩)
  go_ret; exact ⟨rfl, hb3⟩
theorem day_fall (b : Nat) (L : List Int) (hL : L.length = 48) (hok : Hid (sunOk L = true)) (f : Int) (f1 : 0 ≤ f) (f2 : f ≤ 255) (w0 w : World) (kp0 : Row w0 b (sunCells L) ∧ Keep2 w0 w #[.pointer (some ⟨b, 0, none⟩)] #[.int .i64 f]) :
    Calls Tryz.prog 80 #[.func (.func 115) #[] #[.pointer (some ⟨w0.heap.size, 0, none⟩), .pointer (some ⟨w0.heap.size + 1, 0, none⟩)]] w fun e w' => e = .returned (.float .f32 (sum24 (fun k => fall L k f))) ∧ Keep2 w0 w' #[.pointer (some ⟨b, 0, none⟩)] #[.int .i64 f] := by
  have kp := hidd kp0.2
  have rs := hidd kp0.1
  clear kp0
  have fins : Hid (∀ k, k < 24 → Unit' ((fun k => fall L k f) k)) := fun k _ => fall_unit L k f
  have z : Fnt 0 := by decide
  go_enter Tryz.func80, Tryz.ntmps80
  go_wp2_with fail
  go_loopw [3, 5] (fun s i wr => ∃ k : Nat, k ≤ 24 ∧ i = .int .i64 k ∧ s = .float .f32 (sumTo (fun k => fall L k f) k) ∧ Keep2 w0 wr #[.pointer (some ⟨b, 0, none⟩)] #[.int .i64 f]) (fun _ i _ => 24 - (intOf i).toNat)
  case atStart => exact ⟨0, by omega, rfl, rfl, kp.out⟩
  case round =>
    obtain ⟨k, hk, rfl, rfl, kr⟩ := hrel
    have kq := hidd kr
    clear kr
    by_cases hlt : k < 24
    · have s1 := sum_fin fins.out (k := k) (by omega)
      have s2 := (unit_fin (fins.out k hlt)).1
      obtain ⟨g1, g2, g3, g4⟩ := sunOk_at hok.out hlt
      go_wp2_with (go_at_call 115; refine (fallDay1 b L hL k hlt g1 g2 g3 g4 f f1 f2 w0 _ rs.out kq.out).mono ?_; rintro e wn ⟨rfl, hbn⟩; have kz := hidd (kq.out.step hbn); clear hbn)
      go_roundw
      case rel => exact ⟨k + 1, by omega, by go_num, rfl, kz.out⟩
      case measure => simp [intOf]; omega
    · obtain rfl : k = 24 := by omega
      rw [sum24_eq]
      go_wp2
      go_ret; exact ⟨rfl, kq.out⟩
theorem fallDay_m (b : Nat) (L : List Int) (hL : L.length = 48) (hok : Hid (sunOk L = true)) (f : Int) (f1 : 0 ≤ f) (f2 : f ≤ 255) (w : World) (hs : Row w b (sunCells L)) :
    Calls Tryz.prog 69 #[.pointer (some ⟨b, 0, none⟩), .int .i64 f] w fun e w' => e = .returned (.float .f32 (dayFall L f)) ∧ Below w.heap.size w w' := by
  have kp := hidd (Keep2.start w #[.pointer (some ⟨b, 0, none⟩)] #[.int .i64 f] 86 2)
  have Hs := hidd hs
  clear hs
  go_enter Tryz.func69, Tryz.ntmps69
  go_wp2_with (go_at_call 80; refine (day_fall b L hL hok f f1 f2 w _ ⟨Hs.out, kp.out⟩).mono ?_; rintro e w3 ⟨rfl, hb3⟩)
  go_ret; exact ⟨rfl, hb3.below⟩
theorem fallDay_impl (L : List Int) (hL : L.length = 48) (hr : ∀ x ∈ L, -32768 ≤ x ∧ x ≤ 32767) (f : Int) (w : World) :
    Calls Tryz.prog 28 #[.agg (sunCells L), .int .i64 f] w fun e w' => e = .returned (.tuple #[.float .f32 (sunRes L (inR f 0 255) 0 (dayFall L f)).1, .int .i64 (sunRes L (inR f 0 255) 0 (dayFall L f)).2]) ∧ Below w.heap.size w w' := by
  have kp := hidd (Keep1.start w (sunCells L) 27).drew
  have HL := hidd (And.intro hL hr)
  clear hL hr
  by_cases hc : sunCode L (inR f 0 255) = 0
  · have hb := code_bne hc
    have fin := hidd (res_ok (zr := 0) (val := dayFall L f) hc)
    have Hc := hidd hc
    clear hc
    have Ho := hidd (code_zero.1 Hc.out).1
    obtain ⟨f1, f2⟩ := inR_iff.1 (code_zero.1 Hc.out).2
    go_enter Tryz.func28, Tryz.ntmps28
    go_wp2_with fail
    refine wp_region_in (fun w' => Keep1 w w' (sunCells L)) (by kernel_rfl) (by kernel_rfl) kp.out ?_
    (refine wpQuiet_step (fun K hK => ?_); rw [if_pos (by rfl)]; refine quiet_load_all _ _ rfl _ rfl (sunCells L) _ (agg_impl) (sun_size HL.out.1) (fun w' hw' => hw'.row) ?_; go_simp; refine hK _ ?_; clear hK K)
    repeat (refine wpQuiet_step (fun K hK => ?_); go_simp; first | (refine hK _ ?_; clear hK K) | (apply Exists.intro; refine ⟨fun w' hw' => ?_, hK _ ?_⟩; (first | rfl | exact ⟨rfl, rfl⟩ | ((first | (go_at_call 62; exact (faced_impl _ _).mono fun e w'' h => ⟨h.1, h.2 ▸ hw'⟩) | (go_at_call 58; exact (code_impl L HL.out.1 HL.out.2 _ _).mono fun e w'' h => ⟨h.1, hw'.step h.2⟩)))); clear hK K))
    refine wpQuiet_nil ?_
    intro w1 k1
    have k2 := hidd k1
    clear k1
    go_wp2_with (go_at_call 69; refine (fallDay_m _ L HL.out.1 Ho f f1 f2 _ k2.out.row).mono ?_; rintro e w3 ⟨rfl, hb3⟩; have k3 := hidd (k2.out.step hb3); clear hb3)
    go_ret2; exact ⟨by rw [fin.out]; rfl, k3.out.below⟩
  · have hb := code_bne' hc
    have fin := hidd (res_no (zr := 0) (val := dayFall L f) hc)
    have Hc := hidd hc
    clear hc
    go_enter Tryz.func28, Tryz.ntmps28
    go_wp2_with fail
    refine wp_region_in (fun w' => Keep1 w w' (sunCells L)) (by kernel_rfl) (by kernel_rfl) kp.out ?_
    (refine wpQuiet_step (fun K hK => ?_); rw [if_pos (by rfl)]; refine quiet_load_all _ _ rfl _ rfl (sunCells L) _ (agg_impl) (sun_size HL.out.1) (fun w' hw' => hw'.row) ?_; go_simp; refine hK _ ?_; clear hK K)
    repeat (refine wpQuiet_step (fun K hK => ?_); go_simp; first | (refine hK _ ?_; clear hK K) | (apply Exists.intro; refine ⟨fun w' hw' => ?_, hK _ ?_⟩; (first | rfl | exact ⟨rfl, rfl⟩ | ((first | (go_at_call 62; exact (faced_impl _ _).mono fun e w'' h => ⟨h.1, h.2 ▸ hw'⟩) | (go_at_call 58; exact (code_impl L HL.out.1 HL.out.2 _ _).mono fun e w'' h => ⟨h.1, hw'.step h.2⟩)))); clear hK K))
    refine wpQuiet_nil ?_
    intro w1 k1
    have k2 := hidd k1
    clear k1
    go_wp2
    go_ret2; exact ⟨by rw [fin.out]; rfl, k2.out.below⟩
theorem day_spec (b : Nat) (L : List Int) (hL : L.length = 48) (hok : Hid (sunOk L = true)) (f : Int) (f1 : 0 ≤ f) (f2 : f ≤ 255) (w : World) (hs : Row w b (sunCells L)) :
    Calls Tryz.prog 70 #[.pointer (some ⟨b, 0, none⟩), .int .i64 f] w fun e w' => e = .returned (.float .f32 (dayFall L f)) ∧ Below w.heap.size w w' := by
  have fins : Hid (∀ k, k < 24 → Unit' ((fun k => fall L k f) k)) := fun k _ => fall_unit L k f
  have Hs := hidd hs
  clear hs
  have z : Fnt 0 := by decide
  go_enter Tryz.func70, Tryz.ntmps70
  go_wp2_with fail
  go_loopw [5, 6] (fun s i wr => ∃ k : Nat, k ≤ 24 ∧ i = .int .i64 k ∧ s = .float .f32 (sumTo (fun k => fall L k f) k) ∧ Below w.heap.size w wr) (fun _ i _ => 24 - (intOf i).toNat)
  case atStart => exact ⟨0, by omega, rfl, rfl, Below.refl _ _⟩
  case round =>
    obtain ⟨k, hk, rfl, rfl, kr⟩ := hrel
    have kq := hidd kr
    clear kr
    by_cases hlt : k < 24
    · have s1 := sum_fin fins.out (k := k) (by omega)
      have s2 := (unit_fin (fins.out k hlt)).1
      obtain ⟨g1, g2, g3, g4⟩ := sunOk_at hok.out hlt
      go_wp2_with (go_at_call 68; refine (fall_spec _ L hL k hlt g1 g2 g3 g4 f f1 f2 _ (Hs.out.below kq.out Hs.out.lt)).mono ?_; rintro e wn ⟨rfl, hbn⟩; have kz := hidd (kq.out.trans (hbn.mono kq.out.size)); clear hbn)
      go_roundw
      case rel => exact ⟨k + 1, by omega, by go_num, rfl, kz.out⟩
      case measure => simp [intOf]; omega
    · obtain rfl : k = 24 := by omega
      rw [sum24_eq]
      go_wp2
      go_ret; exact ⟨rfl, kq.out⟩
end Go.Proofs.YtddkiemipedgcaaGreatDoor
