/-
  Suns: the best hour and the best facing.
-/
import Derived.Test.YtddkiemipedgcaaGreatDoorWv
namespace Go.Proofs.YtddkiemipedgcaaGreatDoor
open Go.RowKit Go.Proofs.Fl Go.Proofs.Pl
set_option linter.unusedVariables false

theorem bestHour1 (L : List Int) (hL : L.length = 48) (k : Nat) (hk : k < 24) (h1 : -64 ≤ hgt L k) (h2 : hgt L k ≤ 64) (h3 : 0 ≤ trn L k) (h4 : trn L k ≤ 255) (f : Int) (f1 : 0 ≤ f) (f2 : f ≤ 255) (w0 w : World)
    (kp0 : Keep2 w0 w (sunCells L) #[.int .i64 f]) : Calls Tryz.prog 64 #[.int .i64 k, .pointer (some ⟨w0.heap.size, 0, none⟩), .pointer (some ⟨w0.heap.size + 1, 0, none⟩)] w fun e w' => e = .returned (.float .f32 (fall L k f)) ∧ Below w.heap.size w w' := by
  have c2 : w.cell? ⟨w0.heap.size + 1, 0, none⟩ = some (.int .i64 f) := by rw [kp0.row2.cell]; rfl
  have Hs := hidd kp0.row
  clear kp0
  go_enter Tryz.func64, Tryz.ntmps64
  go_wp2_with (go_at_call 65; refine (fall_impl _ L hL k hk h1 h2 h3 h4 f f1 f2 _ Hs.out).mono ?_; rintro e w3 ⟨rfl, hb3⟩)
  go_ret; exact ⟨rfl, hb3⟩
set_option maxRecDepth 100000 in
set_option maxHeartbeats 400000 in
theorem best_hour (L : List Int) (hL : L.length = 48) (hok : Hid (sunOk L = true)) (f : Int) (f1 : 0 ≤ f) (f2 : f ≤ 255) (w0 w : World) (kp0 : Keep2 w0 w (sunCells L) #[.int .i64 f]) :
    Calls Tryz.prog 63 #[.int .i64 24, .func (.func 64) #[] #[.pointer (some ⟨w0.heap.size, 0, none⟩), .pointer (some ⟨w0.heap.size + 1, 0, none⟩)]] w fun e w' => e = .returned (.tuple #[.int .i64 (bestOf (fun k => fall L k f) 23).1, .float .f32 (bestOf (fun k => fall L k f) 23).2]) ∧ Keep2 w0 w' (sunCells L) #[.int .i64 f] := by
  have kp := hidd kp0
  clear kp0
  go_enter Tryz.func63, Tryz.ntmps63
  obtain ⟨g1, g2, g3, g4⟩ := sunOk_at hok.out (i := 0) (by omega)
  go_wp2_with (go_at_call 64; refine (bestHour1 L hL 0 (by omega) g1 g2 g3 g4 f f1 f2 w0 _ kp.out).mono ?_; rintro e wn ⟨rfl, hbn⟩; have kz := hidd (kp.out.step hbn); clear hbn)
  go_loopw [6, 7, 8] (fun s u i wr => ∃ k : Nat, k < 24 ∧ i = .int .i64 (k + 1 : Nat) ∧ s = .int .i64 (bestOf (fun k => fall L k f) k).1 ∧ u = .float .f32 (bestOf (fun k => fall L k f) k).2 ∧ Keep2 w0 wr (sunCells L) #[.int .i64 f]) (fun _ _ i _ => 24 - (intOf i).toNat)
  case atStart => exact ⟨0, by omega, rfl, rfl, rfl, kz.out⟩
  case round =>
    obtain ⟨k, hk, rfl, rfl, rfl, kr⟩ := hrel
    have kq := hidd kr
    clear kr kp kz
    by_cases hlt : k + 1 < 24
    · obtain ⟨g1, g2, g3, g4⟩ := sunOk_at hok.out (i := (k + 1)) hlt
      go_wp2_with (go_at_call 64; refine (bestHour1 L hL (k + 1) hlt g1 g2 g3 g4 f f1 f2 w0 _ kq.out).mono ?_; rintro e wn ⟨rfl, hbn⟩; have kz := hidd (kq.out.step hbn); clear hbn)
      · have t0 : fgt (fall L (k + 1) f) (bestOf (fun k => fall L k f) k).2 = true := by assumption
        have ec : (((k + 1 : Nat)) : Int) = (k : Int) + 1 := by omega
        have t : fgt ((fun k => fall L k f) (k + 1)) (bestOf (fun k => fall L k f) k).2 = true := by exact t0
        go_roundw
        case rel => exact ⟨k + 1, by omega, by go_num, by rw [best_yes t]; show Value.int .i64 _ = Value.int .i64 ((k + 1 : Nat) : Int); go_num, by rw [best_yes t]; skip, kz.out⟩
        case measure => simp [intOf]; omega
      · have t0 : fgt (fall L (k + 1) f) (bestOf (fun k => fall L k f) k).2 = false := by assumption
        have ec : (((k + 1 : Nat)) : Int) = (k : Int) + 1 := by omega
        have t : fgt ((fun k => fall L k f) (k + 1)) (bestOf (fun k => fall L k f) k).2 = false := by exact t0
        go_roundw
        case rel => exact ⟨k + 1, by omega, by go_num, by rw [best_no (by rw [t]; exact Bool.false_ne_true)], by rw [best_no (by rw [t]; exact Bool.false_ne_true)], kz.out⟩
        case measure => simp [intOf]; omega
    · obtain rfl : k = 23 := by omega
      go_wp2
      go_ret2; exact ⟨rfl, kq.out⟩
set_option maxRecDepth 100000 in
set_option maxHeartbeats 400000 in
theorem best_facing (L : List Int) (hL : L.length = 48) (hok : Hid (sunOk L = true)) (w0 w : World) (kp0 : Keep1 w0 w (sunCells L)) :
    Calls Tryz.prog 63 #[.int .i64 256, .func (.func 69) #[.pointer (some ⟨w0.heap.size, 0, none⟩)] #[]] w fun e w' => e = .returned (.tuple #[.int .i64 (bestOf (fun k => dayFall L (k : Nat)) 255).1, .float .f32 (bestOf (fun k => dayFall L (k : Nat)) 255).2]) ∧ Keep1 w0 w' (sunCells L) := by
  have kp := hidd kp0
  clear kp0
  go_enter Tryz.func63, Tryz.ntmps63
  have fb := hidd (show 0 < 256 by omega)
  go_wp2_with (go_at_call 69; refine (fallDay_m _ L hL hok (0) (by omega) (by omega) _ kp.out.row).mono ?_; rintro e wn ⟨rfl, hbn⟩; have kz := hidd (kp.out.step hbn); clear hbn)
  go_loopw [6, 7, 8] (fun s u i wr => ∃ k : Nat, k < 256 ∧ i = .int .i64 (k + 1 : Nat) ∧ s = .int .i64 (bestOf (fun k => dayFall L (k : Nat)) k).1 ∧ u = .float .f32 (bestOf (fun k => dayFall L (k : Nat)) k).2 ∧ Keep1 w0 wr (sunCells L)) (fun _ _ i _ => 256 - (intOf i).toNat)
  case atStart => exact ⟨0, by omega, rfl, rfl, rfl, kz.out⟩
  case round =>
    obtain ⟨k, hk, rfl, rfl, rfl, kr⟩ := hrel
    have kq := hidd kr
    clear kr kp kz
    by_cases hlt : k + 1 < 256
    · have fb := hidd hlt
      go_wp2_with (go_at_call 69; refine (fallDay_m _ L hL hok ((k : Int) + 1) (by omega) (by omega) _ kq.out.row).mono ?_; rintro e wn ⟨rfl, hbn⟩; have kz := hidd (kq.out.step hbn); clear hbn)
      · have t0 : fgt (dayFall L ((k : Int) + 1)) (bestOf (fun k => dayFall L (k : Nat)) k).2 = true := by assumption
        have ec : (((k + 1 : Nat)) : Int) = (k : Int) + 1 := by omega
        have t : fgt ((fun k => dayFall L (k : Nat)) (k + 1)) (bestOf (fun k => dayFall L (k : Nat)) k).2 = true := by show fgt (dayFall L ((k + 1 : Nat) : Int)) _ = _; rw [ec]; exact t0
        go_roundw
        case rel => exact ⟨k + 1, by omega, by go_num, by rw [best_yes t]; show Value.int .i64 _ = Value.int .i64 ((k + 1 : Nat) : Int); go_num, by rw [best_yes t]; show _ = Value.float .f32 (dayFall L ((k + 1 : Nat) : Int)); rw [ec], kz.out⟩
        case measure => simp [intOf]; omega
      · have t0 : fgt (dayFall L ((k : Int) + 1)) (bestOf (fun k => dayFall L (k : Nat)) k).2 = false := by assumption
        have ec : (((k + 1 : Nat)) : Int) = (k : Int) + 1 := by omega
        have t : fgt ((fun k => dayFall L (k : Nat)) (k + 1)) (bestOf (fun k => dayFall L (k : Nat)) k).2 = false := by show fgt (dayFall L ((k + 1 : Nat) : Int)) _ = _; rw [ec]; exact t0
        go_roundw
        case rel => exact ⟨k + 1, by omega, by go_num, by rw [best_no (by rw [t]; exact Bool.false_ne_true)], by rw [best_no (by rw [t]; exact Bool.false_ne_true)], kz.out⟩
        case measure => simp [intOf]; omega
    · obtain rfl : k = 255 := by omega
      go_wp2
      go_ret2; exact ⟨rfl, kq.out⟩
theorem bestHour_impl (L : List Int) (hL : L.length = 48) (hr : ∀ x ∈ L, -32768 ≤ x ∧ x ≤ 32767) (f : Int) (w : World) :
    Calls Tryz.prog 13 #[.agg (sunCells L), .int .i64 f] w fun e w' => e = .returned (.tuple #[.int .i64 (sunRes L (inR f 0 255) (0, 0) (bestOf (fun k => fall L k f) 23)).1.1, .float .f32 (sunRes L (inR f 0 255) (0, 0) (bestOf (fun k => fall L k f) 23)).1.2, .int .i64 (sunRes L (inR f 0 255) (0, 0) (bestOf (fun k => fall L k f) 23)).2]) ∧ Below w.heap.size w w' := by
  have kp := hidd (Keep2.start w (sunCells L) #[.int .i64 f] 27 2).drew
  have HL := hidd (And.intro hL hr)
  clear hL hr
  by_cases hc : sunCode L (inR f 0 255) = 0
  · have hb := code_bne hc
    have fin := hidd (res_ok (zr := (0, 0)) (val := bestOf (fun k => fall L k f) 23) hc)
    have Hc := hidd hc
    clear hc
    have Ho := hidd (code_zero.1 Hc.out).1
    obtain ⟨f1, f2⟩ := inR_iff.1 (code_zero.1 Hc.out).2
    go_enter Tryz.func13, Tryz.ntmps13
    go_wp2_with fail
    refine wp_region_in (fun w' => Keep2 w w' (sunCells L) #[.int .i64 f]) (by kernel_rfl) (by kernel_rfl) kp.out ?_
    (refine wpQuiet_step (fun K hK => ?_); rw [if_pos (by rfl)]; refine quiet_load_all _ _ rfl _ rfl (sunCells L) _ (agg_impl) (sun_size HL.out.1) (fun w' hw' => hw'.row) ?_; go_simp; refine hK _ ?_; clear hK K)
    (refine wpQuiet_step (fun K hK => ?_); rw [if_pos (by rfl)]; refine quiet_load_cell _ _ rfl _ rfl (.int .i64 f) (one64) (fun w' hw' => (by rw [hw'.row2.cell]; rfl)) ?_; go_simp; refine hK _ ?_; clear hK K)
    repeat (refine wpQuiet_step (fun K hK => ?_); go_simp; first | (refine hK _ ?_; clear hK K) | (apply Exists.intro; refine ⟨fun w' hw' => ?_, hK _ ?_⟩; (first | rfl | exact ⟨rfl, rfl⟩ | ((first | (go_at_call 62; exact (faced_impl _ _).mono fun e w'' h => ⟨h.1, h.2 ▸ hw'⟩) | (go_at_call 58; exact (code_impl L HL.out.1 HL.out.2 _ _).mono fun e w'' h => ⟨h.1, hw'.step h.2⟩)))); clear hK K))
    refine wpQuiet_nil ?_
    intro w1 k1
    have k2 := hidd k1
    clear k1
    go_wp2_with (go_at_call 63; refine (best_hour L HL.out.1 Ho f f1 f2 w _ k2.out).mono ?_; rintro e w3 ⟨rfl, hb3⟩; have k3 := hidd hb3; clear hb3)
    go_ret3; exact ⟨by rw [fin.out]; rfl, k3.out.below⟩
  · have hb := code_bne' hc
    have fin := hidd (res_no (zr := (0, 0)) (val := bestOf (fun k => fall L k f) 23) hc)
    have Hc := hidd hc
    clear hc
    go_enter Tryz.func13, Tryz.ntmps13
    go_wp2_with fail
    refine wp_region_in (fun w' => Keep2 w w' (sunCells L) #[.int .i64 f]) (by kernel_rfl) (by kernel_rfl) kp.out ?_
    (refine wpQuiet_step (fun K hK => ?_); rw [if_pos (by rfl)]; refine quiet_load_all _ _ rfl _ rfl (sunCells L) _ (agg_impl) (sun_size HL.out.1) (fun w' hw' => hw'.row) ?_; go_simp; refine hK _ ?_; clear hK K)
    (refine wpQuiet_step (fun K hK => ?_); rw [if_pos (by rfl)]; refine quiet_load_cell _ _ rfl _ rfl (.int .i64 f) (one64) (fun w' hw' => (by rw [hw'.row2.cell]; rfl)) ?_; go_simp; refine hK _ ?_; clear hK K)
    repeat (refine wpQuiet_step (fun K hK => ?_); go_simp; first | (refine hK _ ?_; clear hK K) | (apply Exists.intro; refine ⟨fun w' hw' => ?_, hK _ ?_⟩; (first | rfl | exact ⟨rfl, rfl⟩ | ((first | (go_at_call 62; exact (faced_impl _ _).mono fun e w'' h => ⟨h.1, h.2 ▸ hw'⟩) | (go_at_call 58; exact (code_impl L HL.out.1 HL.out.2 _ _).mono fun e w'' h => ⟨h.1, hw'.step h.2⟩)))); clear hK K))
    refine wpQuiet_nil ?_
    intro w1 k1
    have k2 := hidd k1
    clear k1
    go_wp2
    go_ret3; exact ⟨by rw [fin.out]; rfl, k2.out.below⟩
set_option maxHeartbeats 400000 in
theorem bestHour_spec (L : List Int) (hL : L.length = 48) (hr : ∀ x ∈ L, -32768 ≤ x ∧ x ≤ 32767) (f : Int) (w : World) :
    Calls Tryz.prog 14 #[.agg (sunCells L), .int .i64 f] w fun e w' => e = .returned (.tuple #[.int .i64 (sunRes L (inR f 0 255) (0, 0) (bestOf (fun k => fall L k f) 23)).1.1, .float .f32 (sunRes L (inR f 0 255) (0, 0) (bestOf (fun k => fall L k f) 23)).1.2, .int .i64 (sunRes L (inR f 0 255) (0, 0) (bestOf (fun k => fall L k f) 23)).2]) ∧ Below w.heap.size w w' := by
  have kp := hidd (Keep1.start w (sunCells L) 27)
  have HL := hidd (And.intro hL hr)
  clear hL hr
  by_cases hc : sunCode L (inR f 0 255) = 0
  · have hb := code_bne hc
    have fin := hidd (res_ok (zr := (0, 0)) (val := bestOf (fun k => fall L k f) 23) hc)
    have Hc := hidd hc
    clear hc
    have Ho := hidd (code_zero.1 Hc.out).1
    obtain ⟨f1, f2⟩ := inR_iff.1 (code_zero.1 Hc.out).2
    obtain ⟨g1, g2, g3, g4⟩ := sunOk_at Ho.out (show 0 < 24 by omega)
    go_enter Tryz.func14, Tryz.ntmps14
    go_wp2_with (first | (go_at_call 67; refine (faced_spec _ _).mono ?_; rintro e w' ⟨rfl, rfl⟩) | (go_at_call 66; refine (asked_spec _ L HL.out.1 HL.out.2 _ _ kp.out.row).mono ?_; rintro e w' ⟨rfl, rfl⟩) | (go_at_call 68; refine (fall_spec _ L HL.out.1 0 (by omega) g1 g2 g3 g4 f f1 f2 _ kp.out.row).mono ?_; rintro e wn ⟨rfl, hbn⟩; have kn := hidd (kp.out.step hbn); clear kp hbn; have kp := kn; clear kn))
    go_loopw [8, 9, 10] (fun s u i wr => ∃ k : Nat, k < 24 ∧ i = .int .i64 (k + 1 : Nat) ∧ s = .int .i64 (bestOf (fun k => fall L k f) k).1 ∧ u = .float .f32 (bestOf (fun k => fall L k f) k).2 ∧ Keep1 w wr (sunCells L)) (fun _ _ i _ => 24 - (intOf i).toNat)
    case atStart => exact ⟨0, by omega, rfl, rfl, rfl, kp.out⟩
    case round =>
      clear g1 g2 g3 g4
      obtain ⟨k, hk, rfl, rfl, rfl, kr⟩ := hrel
      have kq := hidd kr
      clear kr kp
      by_cases hlt : k + 1 < 24
      · obtain ⟨g1, g2, g3, g4⟩ := sunOk_at Ho.out hlt
        go_wp2_with (go_at_call 68; refine (fall_spec _ L HL.out.1 (k + 1) hlt g1 g2 g3 g4 f f1 f2 _ kq.out.row).mono ?_; rintro e wn ⟨rfl, hbn⟩; have kz := hidd (kq.out.step hbn); clear hbn)
        · have t0 : fgt (fall L (k + 1) f) (bestOf (fun k => fall L k f) k).2 = true := by assumption
          have t : fgt ((fun k => fall L k f) (k + 1)) (bestOf (fun k => fall L k f) k).2 = true := t0
          go_roundw
          case rel => exact ⟨k + 1, by omega, by go_num, by rw [best_yes t]; show Value.int .i64 _ = Value.int .i64 ((k + 1 : Nat) : Int); go_num, by rw [best_yes t], kz.out⟩
          case measure => simp [intOf]; omega
        · have t0 : fgt (fall L (k + 1) f) (bestOf (fun k => fall L k f) k).2 = false := by assumption
          have t : fgt ((fun k => fall L k f) (k + 1)) (bestOf (fun k => fall L k f) k).2 = false := t0
          go_roundw
          case rel => exact ⟨k + 1, by omega, by go_num, by rw [best_no (by rw [t]; exact Bool.false_ne_true)], by rw [best_no (by rw [t]; exact Bool.false_ne_true)], kz.out⟩
          case measure => simp [intOf]; omega
      · obtain rfl : k = 23 := by omega
        go_wp2
        go_ret3; exact ⟨by rw [fin.out]; rfl, kq.out.below⟩
  · have hb := code_bne' hc
    have fin := hidd (res_no (zr := (0, 0)) (val := bestOf (fun k => fall L k f) 23) hc)
    have Hc := hidd hc
    clear hc
    go_enter Tryz.func14, Tryz.ntmps14
    go_wp2_with (first | (go_at_call 67; refine (faced_spec _ _).mono ?_; rintro e w' ⟨rfl, rfl⟩) | (go_at_call 66; refine (asked_spec _ L HL.out.1 HL.out.2 _ _ kp.out.row).mono ?_; rintro e w' ⟨rfl, rfl⟩))
    go_ret3; exact ⟨by rw [fin.out]; rfl, kp.out.below⟩
theorem bestFacing_impl (L : List Int) (hL : L.length = 48) (hr : ∀ x ∈ L, -32768 ≤ x ∧ x ≤ 32767) (w : World) :
    Calls Tryz.prog 15 #[.agg (sunCells L)] w fun e w' => e = .returned (.tuple #[.int .i64 (sunRes L true (0, 0) (bestOf (fun k => dayFall L (k : Nat)) 255)).1.1, .float .f32 (sunRes L true (0, 0) (bestOf (fun k => dayFall L (k : Nat)) 255)).1.2, .int .i64 (sunRes L true (0, 0) (bestOf (fun k => dayFall L (k : Nat)) 255)).2]) ∧ Below w.heap.size w w' := by
  have kp := hidd (Keep1.start w (sunCells L) 27)
  have HL := hidd (And.intro hL hr)
  clear hL hr
  by_cases hc : sunCode L true = 0
  · have hb := code_bne hc
    have fin := hidd (res_ok (zr := (0, 0)) (val := bestOf (fun k => dayFall L (k : Nat)) 255) hc)
    have Hc := hidd hc
    clear hc
    have Ho := hidd (code_zero.1 Hc.out).1
    go_enter Tryz.func15, Tryz.ntmps15
    go_wp2_with (first | (refine wpList_load_all rfl _ _ rfl _ rfl (sunCells L) 48 agg_impl (sun_size HL.out.1) kp.out.row ?_) | (go_at_call 58; refine (code_impl L HL.out.1 HL.out.2 _ _).mono ?_; rintro e wn ⟨rfl, hbn⟩; have kn := hidd (kp.out.step hbn); clear kp hbn; have kp := kn; clear kn) | (go_at_call 63; refine (best_facing L HL.out.1 Ho w _ kp.out).mono ?_; rintro e w3 ⟨rfl, hb3⟩; have k3 := hidd hb3; clear hb3))
    go_ret3; exact ⟨by rw [fin.out]; rfl, k3.out.below⟩
  · have hb := code_bne' hc
    have fin := hidd (res_no (zr := (0, 0)) (val := bestOf (fun k => dayFall L (k : Nat)) 255) hc)
    have Hc := hidd hc
    clear hc
    go_enter Tryz.func15, Tryz.ntmps15
    go_wp2_with (first | (refine wpList_load_all rfl _ _ rfl _ rfl (sunCells L) 48 agg_impl (sun_size HL.out.1) kp.out.row ?_) | (go_at_call 58; refine (code_impl L HL.out.1 HL.out.2 _ _).mono ?_; rintro e wn ⟨rfl, hbn⟩; have kn := hidd (kp.out.step hbn); clear kp hbn; have kp := kn; clear kn))
    go_ret3; exact ⟨by rw [fin.out]; rfl, kp.out.below⟩
set_option maxRecDepth 100000 in
set_option maxHeartbeats 400000 in
theorem bestFacing_spec (L : List Int) (hL : L.length = 48) (hr : ∀ x ∈ L, -32768 ≤ x ∧ x ≤ 32767) (w : World) :
    Calls Tryz.prog 16 #[.agg (sunCells L)] w fun e w' => e = .returned (.tuple #[.int .i64 (sunRes L true (0, 0) (bestOf (fun k => dayFall L (k : Nat)) 255)).1.1, .float .f32 (sunRes L true (0, 0) (bestOf (fun k => dayFall L (k : Nat)) 255)).1.2, .int .i64 (sunRes L true (0, 0) (bestOf (fun k => dayFall L (k : Nat)) 255)).2]) ∧ Below w.heap.size w w' := by
  have kp := hidd (Keep1.start w (sunCells L) 27)
  have HL := hidd (And.intro hL hr)
  clear hL hr
  rcases bool_or (sunOk L) with ho | ho
  · have fin := hidd (res_no (L := L) (right := true) (zr := (0, 0)) (val := bestOf (fun k => dayFall L (k : Nat)) 255) (by rw [code_1 ho]; decide))
    have fin2 := hidd (code_1 (r := true) ho)
    go_enter Tryz.func16, Tryz.ntmps16
    go_wp2_with (go_at_call 60; refine (ok_spec _ L HL.out.1 HL.out.2 _ kp.out.row).mono ?_; rintro e w' ⟨rfl, rfl⟩)
    go_ret3; exact ⟨by rw [fin.out, fin2.out]; rfl, kp.out.below⟩
  · have fin := hidd (res_ok (L := L) (right := true) (zr := (0, 0)) (val := bestOf (fun k => dayFall L (k : Nat)) 255) (code_0 ho rfl))
    have Ho := hidd ho
    go_enter Tryz.func16, Tryz.ntmps16
    go_wp2_with (first | (go_at_call 60; refine (ok_spec _ L HL.out.1 HL.out.2 _ kp.out.row).mono ?_; rintro e w' ⟨rfl, rfl⟩) | (go_at_call 70; refine (day_spec _ L HL.out.1 Ho 0 (by omega) (by omega) _ kp.out.row).mono ?_; rintro e wn ⟨rfl, hbn⟩; have kn := hidd (kp.out.step hbn); clear kp hbn; have kp := kn; clear kn))
    go_loopw [5, 6, 7] (fun s u i wr => ∃ k : Nat, k < 256 ∧ i = .int .i64 (k + 1 : Nat) ∧ s = .int .i64 (bestOf (fun k => dayFall L (k : Nat)) k).1 ∧ u = .float .f32 (bestOf (fun k => dayFall L (k : Nat)) k).2 ∧ Keep1 w wr (sunCells L)) (fun _ _ i _ => 256 - (intOf i).toNat)
    case atStart => exact ⟨0, by omega, rfl, rfl, rfl, kp.out⟩
    case round =>
      obtain ⟨k, hk, rfl, rfl, rfl, kr⟩ := hrel
      have kq := hidd kr
      clear kr kp
      by_cases hlt : k + 1 < 256
      · go_wp2_with (go_at_call 70; refine (day_spec _ L HL.out.1 Ho ((k : Int) + 1) (by omega) (by omega) _ kq.out.row).mono ?_; rintro e wn ⟨rfl, hbn⟩; have kz := hidd (kq.out.step hbn); clear hbn)
        · have t0 : fgt (dayFall L ((k : Int) + 1)) (bestOf (fun k => dayFall L (k : Nat)) k).2 = true := by assumption
          have ec : (((k + 1 : Nat)) : Int) = (k : Int) + 1 := by omega
          have t : fgt ((fun k => dayFall L (k : Nat)) (k + 1)) (bestOf (fun k => dayFall L (k : Nat)) k).2 = true := by show fgt (dayFall L ((k + 1 : Nat) : Int)) _ = _; rw [ec]; exact t0
          go_roundw
          case rel => exact ⟨k + 1, by omega, by go_num, by rw [best_yes t]; show Value.int .i64 _ = Value.int .i64 ((k + 1 : Nat) : Int); go_num, by rw [best_yes t]; show _ = Value.float .f32 (dayFall L ((k + 1 : Nat) : Int)); rw [ec], kz.out⟩
          case measure => simp [intOf]; omega
        · have t0 : fgt (dayFall L ((k : Int) + 1)) (bestOf (fun k => dayFall L (k : Nat)) k).2 = false := by assumption
          have ec : (((k + 1 : Nat)) : Int) = (k : Int) + 1 := by omega
          have t : fgt ((fun k => dayFall L (k : Nat)) (k + 1)) (bestOf (fun k => dayFall L (k : Nat)) k).2 = false := by show fgt (dayFall L ((k + 1 : Nat) : Int)) _ = _; rw [ec]; exact t0
          go_roundw
          case rel => exact ⟨k + 1, by omega, by go_num, by rw [best_no (by rw [t]; exact Bool.false_ne_true)], by rw [best_no (by rw [t]; exact Bool.false_ne_true)], kz.out⟩
          case measure => simp [intOf]; omega
      · obtain rfl : k = 255 := by omega
        go_wp2
        go_ret3; exact ⟨by rw [fin.out]; rfl, kq.out.below⟩
end Go.Proofs.YtddkiemipedgcaaGreatDoor
