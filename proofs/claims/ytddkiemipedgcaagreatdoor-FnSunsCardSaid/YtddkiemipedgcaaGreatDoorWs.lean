/-
  Suns: what the functions of the program and of its reference that take a sun compute.
-/
import Derived.Test.YtddkiemipedgcaaGreatDoorWa
import Derived.Test.YtddkiemipedgcaaGreatDoorWe
import Derived.Test.YtddkiemipedgcaaGreatDoorPs
import Derived.Test.YtddkiemipedgcaaGreatDoorRw
namespace Go.Proofs.YtddkiemipedgcaaGreatDoor
open Go.RowKit Go.Proofs.Fl Go.Proofs.Pl
set_option linter.unusedVariables false

theorem sun_hgt {w : World} {b : Nat} {L : List Int} (h : Row w b (sunCells L)) (hL : L.length = 48) (i : Nat) (hi : i < 24) : w.cell? ⟨b, i, none⟩ = some (.int .i16 (hgt L i)) := by rw [h.cell]; exact sunCells_hgt hL hi
theorem sun_trn {w : World} {b : Nat} {L : List Int} (h : Row w b (sunCells L)) (hL : L.length = 48) (i : Nat) (hi : i < 24) : w.cell? ⟨b, 24 + i, none⟩ = some (.int .i16 (trn L i)) := by rw [h.cell]; exact sunCells_trn hL hi
theorem sun_size {L : List Int} (hL : L.length = 48) : (sunCells L).size = 48 := by rw [sunCells_size, hL]
theorem sun_one (L : List Int) : ∀ v ∈ (sunCells L).toList, v.oneCell' = true := by
  intro v hv; simp [sunCells] at hv; obtain ⟨n, _, rfl⟩ := hv; rfl
theorem agg_impl : IsAgg Tryz.prog 27 48 := isAgg_struct Tryz.underlying27 (by kernel_rfl)
set_option maxHeartbeats 400000 in
theorem valid_impl (L : List Int) (hL : L.length = 48) (hr : ∀ x ∈ L, -32768 ≤ x ∧ x ≤ 32767) (w : World) :
    Calls Tryz.prog 20 #[.agg (sunCells L)] w fun e w' => e = .returned (.bool (sunOk L)) ∧ Below w.heap.size w w' := by
  have hb := (Below.refl w.heap.size w).alloc (Nat.le_refl _) (.cells (sunCells L) 27)
  have Hr := hidd hr
  clear hr
  go_enter Tryz.func20, Tryz.ntmps20
  go_wp2_with fail
  go_loop [4] (fun i => ∃ k : Nat, k ≤ 24 ∧ i = .int .i64 k ∧ Hid (∀ j, j < k → hourOk L j = true)) (fun i => 24 - (intOf i).toNat)
  case atStart => exact ⟨0, by omega, rfl, fun j hj => by omega⟩
  case round =>
    obtain ⟨k, hk, rfl, hall⟩ := hrel
    by_cases hlt : k < 24
    · have c1 := sunCells_hgt hL hlt
      have c2 := sunCells_trn hL hlt
      obtain ⟨b1, b2⟩ : -32768 ≤ hgt L k ∧ hgt L k ≤ 32767 := hgt_bd Hr.out k
      obtain ⟨b3, b4⟩ : -32768 ≤ trn L k ∧ trn L k ≤ 32767 := hgt_bd Hr.out (24 + k)
      go_wp2_with (go_at_call 55; refine (in_impl _ _ _ _).mono ?_; rintro e w' ⟨rfl, rfl⟩)
      · have t : (!inR (trn L k) 0 255) = true := by assumption
        go_ret
        exact ⟨by rw [sunOk_not hlt (hour_no2 (by simpa using t))]; rfl, hb⟩
      · have t1 : inR (hgt L k) (-64) 64 = true := by assumption
        have t2 : (!inR (trn L k) 0 255) = false := by assumption
        go_round
        case rel => exact ⟨k + 1, by omega, by go_num, all_succ hall (hour_yes t1 (by simpa using t2))⟩
        case measure => simp [intOf]; omega
      · have t : ¬ inR (hgt L k) (-64) 64 = true := by assumption
        go_ret
        exact ⟨by rw [sunOk_not hlt (hour_no1 (by simpa using t))]; rfl, hb⟩
    · obtain rfl : k = 24 := by omega
      go_wp2
      go_ret
      exact ⟨by rw [sunOk_of hall]; rfl, hb⟩
theorem height_spec (n : Int) (w : World) : Calls Tryz.prog 110 #[.int .i64 n] w fun e w' => e = .returned (.bool (inR n (-64) 64)) ∧ w = w' := by
  go_enter Tryz.func110, Tryz.ntmps110
  go_wp2_with (go_at_call 113; refine (in_spec _ _ _ _).mono ?_; rintro e w' ⟨rfl, rfl⟩)
  go_ret; exact ⟨rfl, rfl⟩
theorem faced_spec (n : Int) (w : World) : Calls Tryz.prog 67 #[.int .i64 n] w fun e w' => e = .returned (.bool (inR n 0 255)) ∧ w = w' := by
  go_enter Tryz.func67, Tryz.ntmps67
  go_wp2_with (go_at_call 113; refine (in_spec _ _ _ _).mono ?_; rintro e w' ⟨rfl, rfl⟩)
  go_ret; exact ⟨rfl, rfl⟩
theorem hour_spec (n : Int) (w : World) : Calls Tryz.prog 76 #[.int .i64 n] w fun e w' => e = .returned (.bool (inR n 0 23)) ∧ w = w' := by
  go_enter Tryz.func76, Tryz.ntmps76
  go_wp2_with (go_at_call 113; refine (in_spec _ _ _ _).mono ?_; rintro e w' ⟨rfl, rfl⟩)
  go_ret; exact ⟨rfl, rfl⟩
theorem hour_impl (n : Int) (w : World) : Calls Tryz.prog 75 #[.int .i64 n] w fun e w' => e = .returned (.bool (inR n 0 23)) ∧ w = w' := by
  go_enter Tryz.func75, Tryz.ntmps75
  go_wp2_with (go_at_call 55; refine (in_impl _ _ _ _).mono ?_; rintro e w' ⟨rfl, rfl⟩)
  go_ret; exact ⟨rfl, rfl⟩
theorem faced_impl (n : Int) (w : World) : Calls Tryz.prog 62 #[.int .i64 n] w fun e w' => e = .returned (.bool (inR n 0 255)) ∧ w = w' := by
  go_enter Tryz.func62, Tryz.ntmps62
  go_wp2_with (go_at_call 55; refine (in_impl _ _ _ _).mono ?_; rintro e w' ⟨rfl, rfl⟩)
  go_ret; exact ⟨rfl, rfl⟩
set_option maxHeartbeats 400000 in
theorem ok_spec (b : Nat) (L : List Int) (hL : L.length = 48) (hr : ∀ x ∈ L, -32768 ≤ x ∧ x ≤ 32767) (w : World) (hs : Row w b (sunCells L)) :
    Calls Tryz.prog 60 #[.pointer (some ⟨b, 0, none⟩)] w fun e w' => e = .returned (.bool (sunOk L)) ∧ w = w' := by
  have Hr := hidd hr
  have Hs := hidd hs
  clear hr hs
  go_enter Tryz.func60, Tryz.ntmps60
  go_wp2_with fail
  go_loop [3] (fun i => ∃ k : Nat, k ≤ 24 ∧ i = .int .i64 k ∧ Hid (∀ j, j < k → hourOk L j = true)) (fun i => 24 - (intOf i).toNat)
  case atStart => exact ⟨0, by omega, rfl, fun j hj => by omega⟩
  case round =>
    obtain ⟨k, hk, rfl, hall⟩ := hrel
    by_cases hlt : k < 24
    · have c1 := sun_hgt Hs.out hL k hlt
      have c2 := sun_trn Hs.out hL k hlt
      obtain ⟨b1, b2⟩ : -32768 ≤ hgt L k ∧ hgt L k ≤ 32767 := hgt_bd Hr.out k
      obtain ⟨b3, b4⟩ : -32768 ≤ trn L k ∧ trn L k ≤ 32767 := hgt_bd Hr.out (24 + k)
      go_wp2_with (first | (go_at_call 110; refine (height_spec _ _).mono ?_; rintro e w' ⟨rfl, rfl⟩) | (go_at_call 67; refine (faced_spec _ _).mono ?_; rintro e w' ⟨rfl, rfl⟩))
      · have t : (!inR (trn L k) 0 255) = true := by assumption
        go_ret
        exact ⟨by rw [sunOk_not hlt (hour_no2 (by simpa using t))]; rfl, rfl⟩
      · have t1 : inR (hgt L k) (-64) 64 = true := by assumption
        have t2 : (!inR (trn L k) 0 255) = false := by assumption
        go_round
        case rel => exact ⟨k + 1, by omega, by go_num, all_succ hall (hour_yes t1 (by simpa using t2))⟩
        case measure => simp [intOf]; omega
      · have t : ¬ inR (hgt L k) (-64) 64 = true := by assumption
        go_ret
        exact ⟨by rw [sunOk_not hlt (hour_no1 (by simpa using t))]; rfl, rfl⟩
    · obtain rfl : k = 24 := by omega
      go_wp2
      go_ret
      exact ⟨by rw [sunOk_of hall]; rfl, rfl⟩
theorem asked_spec (b : Nat) (L : List Int) (hL : L.length = 48) (hr : ∀ x ∈ L, -32768 ≤ x ∧ x ≤ 32767) (right : Bool) (w : World) (hs : Row w b (sunCells L)) :
    Calls Tryz.prog 66 #[.pointer (some ⟨b, 0, none⟩), .bool right] w fun e w' => e = .returned (.int .i64 (sunCode L right)) ∧ w = w' := by
  go_enter Tryz.func66, Tryz.ntmps66
  go_wp2_with (go_at_call 60; refine (ok_spec _ L hL hr _ hs).mono ?_; rintro e w' ⟨rfl, rfl⟩)
  all_goals (go_ret; exact ⟨by simp_all [sunCode], rfl⟩)
theorem code_impl (L : List Int) (hL : L.length = 48) (hr : ∀ x ∈ L, -32768 ≤ x ∧ x ≤ 32767) (right : Bool) (w : World) :
    Calls Tryz.prog 58 #[.agg (sunCells L), .bool right] w fun e w' => e = .returned (.int .i64 (sunCode L right)) ∧ Below w.heap.size w w' := by
  have hb := (Below.refl w.heap.size w).alloc (Nat.le_refl _) (.cells (sunCells L) 27)
  go_enter Tryz.func58, Tryz.ntmps58
  go_wp2_with (first | (refine wpList_load_all rfl _ _ rfl _ rfl (sunCells L) 48 agg_impl (sun_size hL) (Row.new _ _ _) ?_) | (go_at_call 20; refine (valid_impl L hL hr _).mono ?_; rintro e w1 ⟨rfl, hb1⟩))
  all_goals (go_ret; exact ⟨by simp_all [sunCode], hb.trans (hb1.mono (by simp))⟩)
theorem isUp_impl (b : Nat) (L : List Int) (hL : L.length = 48) (k : Nat) (hk : k < 24) (w : World) (hs : Row w b (sunCells L)) :
    Calls Tryz.prog 77 #[.pointer (some ⟨b, 0, none⟩), .int .i64 k] w fun e w' => e = .returned (.bool (isUp L k)) ∧ w = w' := by
  have c1 := sun_hgt hs hL k hk
  unfold isUp
  go_enter Tryz.func77, Tryz.ntmps77
  go_wp2
  go_ret; exact ⟨rfl, rfl⟩
theorem isUp_ans (L : List Int) (hL : L.length = 48) (hr : ∀ x ∈ L, -32768 ≤ x ∧ x ≤ 32767) (h : Int) (w : World) :
    Calls Tryz.prog 25 #[.agg (sunCells L), .int .i64 h] w fun e w' => e = .returned (.tuple #[.bool (sunRes L (inR h 0 23) false (isUp L h.toNat)).1, .int .i64 (sunRes L (inR h 0 23) false (isUp L h.toNat)).2]) ∧ Below w.heap.size w w' := by
  have kp := hidd (Keep1.start w (sunCells L) 27).drew
  have HL := hidd (And.intro hL hr)
  clear hL hr
  by_cases hc : sunCode L (inR h 0 23) = 0
  · have hb := code_bne hc
    have Hc := hidd hc
    clear hc
    obtain ⟨k, rfl, hk0, hk1⟩ := nat_of_in (by omega) (code_zero.1 Hc.out).2
    have Hk := hidd (show k < 24 by omega)
    go_enter Tryz.func25, Tryz.ntmps25
    go_wp2_with fail
    refine wp_region_in (fun w' => Keep1 w w' (sunCells L)) (by kernel_rfl) (by kernel_rfl) kp.out ?_
    (refine wpQuiet_step (fun K hK => ?_); rw [if_pos (by rfl)]; refine quiet_load_all _ _ rfl _ rfl (sunCells L) _ (agg_impl) (sun_size HL.out.1) (fun w' hw' => hw'.row) ?_; go_simp; refine hK _ ?_; clear hK K)
    repeat (refine wpQuiet_step (fun K hK => ?_); go_simp; first | (refine hK _ ?_; clear hK K) | (apply Exists.intro; refine ⟨fun w' hw' => ?_, hK _ ?_⟩; (first | rfl | exact ⟨rfl, rfl⟩ | ((first | (go_at_call 75; exact (hour_impl _ _).mono fun e w'' h => ⟨h.1, h.2 ▸ hw'⟩) | (go_at_call 58; exact (code_impl L HL.out.1 HL.out.2 _ _).mono fun e w'' h => ⟨h.1, hw'.step h.2⟩)))); clear hK K))
    refine wpQuiet_nil ?_
    intro w1 k1
    have k2 := hidd k1
    clear k1
    go_wp2_with (go_at_call 77; refine (isUp_impl _ L HL.out.1 k Hk.out _ k2.out.row).mono ?_; rintro e w' ⟨rfl, rfl⟩)
    go_ret2
    exact ⟨by rw [res_ok Hc.out]; rfl, k2.out.below⟩
  · have hb := code_bne' hc
    have Hc := hidd hc
    clear hc
    go_enter Tryz.func25, Tryz.ntmps25
    go_wp2_with fail
    refine wp_region_in (fun w' => Keep1 w w' (sunCells L)) (by kernel_rfl) (by kernel_rfl) kp.out ?_
    (refine wpQuiet_step (fun K hK => ?_); rw [if_pos (by rfl)]; refine quiet_load_all _ _ rfl _ rfl (sunCells L) _ (agg_impl) (sun_size HL.out.1) (fun w' hw' => hw'.row) ?_; go_simp; refine hK _ ?_; clear hK K)
    repeat (refine wpQuiet_step (fun K hK => ?_); go_simp; first | (refine hK _ ?_; clear hK K) | (apply Exists.intro; refine ⟨fun w' hw' => ?_, hK _ ?_⟩; (first | rfl | exact ⟨rfl, rfl⟩ | ((first | (go_at_call 75; exact (hour_impl _ _).mono fun e w'' h => ⟨h.1, h.2 ▸ hw'⟩) | (go_at_call 58; exact (code_impl L HL.out.1 HL.out.2 _ _).mono fun e w'' h => ⟨h.1, hw'.step h.2⟩)))); clear hK K))
    refine wpQuiet_nil ?_
    intro w1 k1
    have k2 := hidd k1
    clear k1
    go_wp2
    go_ret2
    exact ⟨by rw [res_no Hc.out]; rfl, k2.out.below⟩
end Go.Proofs.YtddkiemipedgcaaGreatDoor
