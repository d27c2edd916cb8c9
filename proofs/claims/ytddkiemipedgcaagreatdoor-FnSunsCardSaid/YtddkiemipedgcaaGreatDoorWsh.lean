/-
  The hours at which a window gets so much light.
-/
import Derived.Test.YtddkiemipedgcaaGreatDoorWo
import Derived.Test.YtddkiemipedgcaaGreatDoorWt
namespace Go.Proofs.YtddkiemipedgcaaGreatDoor
open Go.RowKit Go.Proofs.Fl Go.Proofs.Pl
set_option linter.unusedVariables false

def hourSo (L : List Int) (f : Int) (least : Nat) (k : Nat) : Bool := fge (fall L k f) least
def hl (so : Nat → Bool) : Nat → List Int
  | 0 => []
  | k + 1 => if so k = true then hl so k ++ [(k : Int)] else hl so k
theorem hl_yes {so : Nat → Bool} {k : Nat} (h : so k = true) : hl so (k + 1) = hl so k ++ [(k : Int)] := by rw [hl, if_pos h]
theorem hl_no {so : Nat → Bool} {k : Nat} (h : so k = false) : hl so (k + 1) = hl so k := by rw [hl, if_neg (by rw [h]; exact Bool.false_ne_true)]
theorem hl_len (so : Nat → Bool) : ∀ k, (hl so k).length ≤ k
  | 0 => Nat.le_refl _
  | k + 1 => by
    have := hl_len so k
    unfold hl; split
    · simp; omega
    · omega
def hl24 (so : Nat → Bool) : List Int := hl so 24
theorem hl24_eq (so : Nat → Bool) : hl so 24 = hl24 so := rfl
theorem hl24_len (so : Nat → Bool) : (hl24 so).length ≤ 24 := hl_len so 24
attribute [irreducible] hl24
def hoursAns (c : Int) (so : Nat → Bool) : List Int × Int := if c = 0 then (hl24 so, 0) else ([], c)
theorem ha_ok {c : Int} {so : Nat → Bool} (h : c = 0) : hoursAns c so = (hl24 so, 0) := if_pos h
theorem ha_no {c : Int} {so : Nat → Bool} (h : c ≠ 0) : hoursAns c so = ([], c) := if_neg h
theorem ha_len (c : Int) (so : Nat → Bool) : (hoursAns c so).1.length ≤ 129 := by
  by_cases h : c = 0
  · rw [ha_ok h]; have := hl24_len so; show (hl24 so).length ≤ 129; omega
  · rw [ha_no h]; simp
theorem Tryz.infoI : (Tryz.prog.info? 2).map (fun i => (i.zero, i.size, i.bytes)) = some (some (.int .i64 0), 1, 8) := by kernel_rfl
theorem hl_snoc {w : World} {b e : Nat} {v : Value} {so : Nat → Bool} {k : Nat} (hso : so k = true) (h : w.ownsRow b e 1 v ((hl so k).length + 1) ((hl so k).map (Value.int .i64) ++ [.int .i64 (k : Int)])) :
    w.ownsRow b e 1 v (hl so (k + 1)).length ((hl so (k + 1)).map (Value.int .i64)) := by
  rw [hl_yes hso]; simpa using h

set_option maxHeartbeats 4000000 in
set_option maxRecDepth 100000 in
theorem sunHours_spec (L : List Int) (hL : L.length = 48) (hr : ∀ x ∈ L, -32768 ≤ x ∧ x ≤ 32767) (f : Int) (least : Nat) (w : World) :
    Calls Tryz.prog 18 #[.agg (sunCells L), .int .i64 f, .float .f32 least] w fun e w' => ∃ v, e = .returned (.tuple #[v, .int .i64 (hoursAns (sunCode L (inR f 0 255 && isPart least)) (hourSo L f least)).2]) ∧ Below w.heap.size w w' ∧ w'.ownsRow w.heap.size 2 1 v ((hoursAns (sunCode L (inR f 0 255 && isPart least)) (hourSo L f least)).1).length (((hoursAns (sunCode L (inR f 0 255 && isPart least)) (hourSo L f least)).1).map (Value.int .i64)) := by
  have kp := hidd (Keep1.start w (sunCells L) 27)
  have HL := hidd (And.intro hL hr)
  have hb := code_bne' (code_false L)
  clear hL hr
  rcases bool_or (inR f 0 255) with e1 | e1
  · have fin := hidd (show (hoursAns (sunCode L (inR f 0 255 && isPart least)) (hourSo L f least)) = ([], sunCode L false) by rw [e1]; exact ha_no (code_false L))
    go_enter Tryz.func18, Tryz.ntmps18
    go_wp2_with (first | (go_at_call 76; refine (hour_spec _ _).mono ?_; rintro e w' ⟨rfl, rfl⟩) | (go_at_call 67; refine (faced_spec _ _).mono ?_; rintro e w' ⟨rfl, rfl⟩) | (go_at_call 72; refine (part_l01 _ _).mono ?_; rintro e w' ⟨rfl, rfl⟩) | (go_at_call 66; refine (asked_spec _ L HL.out.1 HL.out.2 _ _ kp.out.row).mono ?_; rintro e w' ⟨rfl, rfl⟩))
    go_ret2; exact ⟨_, by rw [fin.out]; rfl, kp.out.below.alloc (by simp) _, by rw [fin.out]; exact own_mono (own_empty w _ _) (by omega)⟩
  · rcases bool_or (isPart least) with e2 | e2
    · have fin := hidd (show (hoursAns (sunCode L (inR f 0 255 && isPart least)) (hourSo L f least)) = ([], sunCode L false) by rw [e1, e2]; exact ha_no (code_false L))
      go_enter Tryz.func18, Tryz.ntmps18
      go_wp2_with (first | (go_at_call 76; refine (hour_spec _ _).mono ?_; rintro e w' ⟨rfl, rfl⟩) | (go_at_call 67; refine (faced_spec _ _).mono ?_; rintro e w' ⟨rfl, rfl⟩) | (go_at_call 72; refine (part_l01 _ _).mono ?_; rintro e w' ⟨rfl, rfl⟩) | (go_at_call 66; refine (asked_spec _ L HL.out.1 HL.out.2 _ _ kp.out.row).mono ?_; rintro e w' ⟨rfl, rfl⟩))
      go_ret2; exact ⟨_, by rw [fin.out]; rfl, kp.out.below.alloc (by simp) _, by rw [fin.out]; exact own_mono (own_empty w _ _) (by omega)⟩
    · clear hb
      have hcc : sunCode L true = (sunCode L (inR f 0 255 && isPart least)) := by rw [e1, e2]; rfl
      by_cases hc : sunCode L true = 0
      · have hb := code_bne hc
        have fin := hidd (show (hoursAns (sunCode L (inR f 0 255 && isPart least)) (hourSo L f least)) = (hl24 (hourSo L f least), 0) by rw [← hcc]; exact ha_ok hc)
        have Z := hidd (code_zero.1 hc).1
        have Hc := hidd hc
        obtain ⟨f1, f2⟩ := inR_iff.1 e1
        clear hc hcc
        obtain ⟨i0, hi, hz0, hz1, hz2⟩ := info_parts Tryz.infoI
        go_enter Tryz.func18, Tryz.ntmps18
        go_wp2_with (first | (go_at_call 76; refine (hour_spec _ _).mono ?_; rintro e w' ⟨rfl, rfl⟩) | (go_at_call 67; refine (faced_spec _ _).mono ?_; rintro e w' ⟨rfl, rfl⟩) | (go_at_call 72; refine (part_l01 _ _).mono ?_; rintro e w' ⟨rfl, rfl⟩) | (go_at_call 66; refine (asked_spec _ L HL.out.1 HL.out.2 _ _ kp.out.row).mono ?_; rintro e w' ⟨rfl, rfl⟩))
        go_loopw [9, 10] (fun v i wr => ∃ k : Nat, k ≤ 24 ∧ i = .int .i64 (k : Int) ∧ wr.ownsRow (w.heap.size + 1) 2 1 v (hl (hourSo L f least) k).length ((hl (hourSo L f least) k).map (Value.int .i64)) ∧ Keep1 w wr (sunCells L)) (fun _ i _ => 24 - (intOf i).toNat)
        case atStart => exact ⟨0, by omega, rfl, own_empty w _ _, ⟨kp.out.below.alloc (by simp) _, kp.out.row.alloc _⟩⟩
        case round =>
          obtain ⟨k, hk, rfl, ko, kr⟩ := hrel
          have kq := hidd (And.intro ko kr)
          clear ko kr
          have hle := hl_len (hourSo L f least) k
          by_cases hlt : k < 24
          · obtain ⟨g1, g2, g3, g4⟩ := sunOk_at Z.out hlt
            rcases bool_or ((hourSo L f least) k) with hso | hso
            · have hso2 : fge (fall L k f) least = false := hso
              go_wp2_with (go_at_call 68; refine (fall_spec _ L HL.out.1 k hlt g1 g2 g3 g4 f f1 f2 _ kq.out.2.row).mono ?_; rintro e w3 ⟨rfl, hb3⟩; have k3 := hidd (kq.out.2.step hb3); have o3 := hidd (own_below kq.out.1 hb3); have z3 := hidd k3.out.row.lt; clear hb3)
              go_roundw
              case rel => exact ⟨k + 1, by omega, by go_num, by rw [hl_no hso]; exact o3.out, k3.out⟩
              case measure => simp [intOf]; omega
            · have hso2 : fge (fall L k f) least = true := hso
              go_wp2_with (first | (go_at_call 68; refine (fall_spec _ L HL.out.1 k hlt g1 g2 g3 g4 f f1 f2 _ kq.out.2.row).mono ?_; rintro e w3 ⟨rfl, hb3⟩; have k3 := hidd (kq.out.2.step hb3); have o3 := hidd (own_below kq.out.1 hb3); have z3 := hidd k3.out.row.lt; clear hb3) | (at_builtin; refine wpList_append_own _ rfl _ _ 39 rfl ((w.heap.size + 1)) 2 i0 (.int .i64 0) 1 8 Tryz.underlying39 hi hz0 hz1 hz2 rfl (by decide) _ _ _ rfl (o3.out.alloc _) ⟨w3.heap.size, 0, none⟩ 1 1 [.int .i64 (k : Int)] rfl rfl (cell_one _ _ _) (one_one _) (by unfold maxLen; omega) (by omega) (by have := z3.out; simp; omega) ?_))
              intro v' w4 own' hg' _
              have ab := hidd (app_below o3.out hg' (by have := z3.out; omega))
              have o4 := hidd (hl_snoc hso own')
              clear own' hg'
              go_wp2
              go_roundw
              case rel => exact ⟨k + 1, by omega, by go_num, o4.out, keep1_stepB k3.out (ab.out.mono (by omega))⟩
              case measure => simp [intOf]; omega
          · obtain rfl : k = 24 := by omega
            rw [hl24_eq] at kq
            go_wp2
            go_ret2; exact ⟨_, by rw [fin.out]; rfl, kq.out.2.below, by rw [fin.out]; exact own_mono kq.out.1 (by omega)⟩
      · have hb := code_bne' hc
        have fin := hidd (show (hoursAns (sunCode L (inR f 0 255 && isPart least)) (hourSo L f least)) = ([], sunCode L true) by rw [← hcc]; exact ha_no hc)
        have Hc := hidd hc
        clear hc hcc
        go_enter Tryz.func18, Tryz.ntmps18
        go_wp2_with (first | (go_at_call 76; refine (hour_spec _ _).mono ?_; rintro e w' ⟨rfl, rfl⟩) | (go_at_call 67; refine (faced_spec _ _).mono ?_; rintro e w' ⟨rfl, rfl⟩) | (go_at_call 72; refine (part_l01 _ _).mono ?_; rintro e w' ⟨rfl, rfl⟩) | (go_at_call 66; refine (asked_spec _ L HL.out.1 HL.out.2 _ _ kp.out.row).mono ?_; rintro e w' ⟨rfl, rfl⟩))
        go_ret2; exact ⟨_, by rw [fin.out]; rfl, kp.out.below.alloc (by simp) _, by rw [fin.out]; exact own_mono (own_empty w _ _) (by omega)⟩
set_option maxHeartbeats 4000000 in
set_option maxRecDepth 100000 in
theorem sunHours_impl (L : List Int) (hL : L.length = 48) (hr : ∀ x ∈ L, -32768 ≤ x ∧ x ≤ 32767) (f : Int) (least : Nat) (w : World) :
    Calls Tryz.prog 17 #[.agg (sunCells L), .int .i64 f, .float .f32 least] w fun e w' => ∃ v, e = .returned (.tuple #[v, .int .i64 (hoursAns (sunCode L (inR f 0 255 && isPart least)) (hourSo L f least)).2]) ∧ Below w.heap.size w w' ∧ w'.ownsRow w.heap.size 2 1 v ((hoursAns (sunCode L (inR f 0 255 && isPart least)) (hourSo L f least)).1).length (((hoursAns (sunCode L (inR f 0 255 && isPart least)) (hourSo L f least)).1).map (Value.int .i64)) := by
  have kp := hidd (Keep1.start w (sunCells L) 27).drew
  have HL := hidd (And.intro hL hr)
  have hb := code_bne' (code_false L)
  clear hL hr
  rcases bool_or (inR f 0 255) with e1 | e1
  · have fin := hidd (show (hoursAns (sunCode L (inR f 0 255 && isPart least)) (hourSo L f least)) = ([], sunCode L false) by rw [e1]; exact ha_no (code_false L))
    go_enter Tryz.func17, Tryz.ntmps17
    go_wp2_with fail
    refine wp_region_in (fun w' => Keep1 w w' (sunCells L)) (by kernel_rfl) (by kernel_rfl) kp.out ?_
    repeat (first | (refine wpQuiet_step (fun K hK => ?_); rw [if_pos (by rfl)]; refine quiet_load_all _ _ rfl _ rfl (sunCells L) _ (agg_impl) (sun_size HL.out.1) (fun w' hw' => hw'.row) ?_; go_simp; refine hK _ ?_; clear hK K) | (refine wpQuiet_step (fun K hK => ?_); go_simp; first | (refine hK _ ?_; clear hK K) | (apply Exists.intro; refine ⟨fun w' hw' => ?_, hK _ ?_⟩; (first | rfl | exact ⟨rfl, rfl⟩ | ((first | (go_at_call 62; exact (faced_impl _ _).mono fun e w'' h => ⟨h.1, h.2 ▸ hw'⟩) | (go_at_call 71; exact (part_impl _ _).mono fun e w'' h => ⟨h.1, h.2 ▸ hw'⟩) | (go_at_call 58; exact (code_impl L HL.out.1 HL.out.2 _ _).mono fun e w'' h => ⟨h.1, hw'.step h.2⟩)))); clear hK K)))
    refine wpQuiet_nil ?_
    intro w1 j1
    have j2 := hidd j1
    clear j1
    go_wp2
    go_ret2; exact ⟨_, by rw [fin.out]; rfl, j2.out.below, by rw [fin.out]; exact own_none _ _ _⟩
  · rcases bool_or (isPart least) with e2 | e2
    · have fin := hidd (show (hoursAns (sunCode L (inR f 0 255 && isPart least)) (hourSo L f least)) = ([], sunCode L false) by rw [e1, e2]; exact ha_no (code_false L))
      go_enter Tryz.func17, Tryz.ntmps17
      go_wp2_with fail
      refine wp_region_in (fun w' => Keep1 w w' (sunCells L)) (by kernel_rfl) (by kernel_rfl) kp.out ?_
      repeat (first | (refine wpQuiet_step (fun K hK => ?_); rw [if_pos (by rfl)]; refine quiet_load_all _ _ rfl _ rfl (sunCells L) _ (agg_impl) (sun_size HL.out.1) (fun w' hw' => hw'.row) ?_; go_simp; refine hK _ ?_; clear hK K) | (refine wpQuiet_step (fun K hK => ?_); go_simp; first | (refine hK _ ?_; clear hK K) | (apply Exists.intro; refine ⟨fun w' hw' => ?_, hK _ ?_⟩; (first | rfl | exact ⟨rfl, rfl⟩ | ((first | (go_at_call 62; exact (faced_impl _ _).mono fun e w'' h => ⟨h.1, h.2 ▸ hw'⟩) | (go_at_call 71; exact (part_impl _ _).mono fun e w'' h => ⟨h.1, h.2 ▸ hw'⟩) | (go_at_call 58; exact (code_impl L HL.out.1 HL.out.2 _ _).mono fun e w'' h => ⟨h.1, hw'.step h.2⟩)))); clear hK K)))
      refine wpQuiet_nil ?_
      intro w1 j1
      have j2 := hidd j1
      clear j1
      go_wp2
      go_ret2; exact ⟨_, by rw [fin.out]; rfl, j2.out.below, by rw [fin.out]; exact own_none _ _ _⟩
    · clear hb
      have hcc : sunCode L true = (sunCode L (inR f 0 255 && isPart least)) := by rw [e1, e2]; rfl
      by_cases hc : sunCode L true = 0
      · have hb := code_bne hc
        have fin := hidd (show (hoursAns (sunCode L (inR f 0 255 && isPart least)) (hourSo L f least)) = (hl24 (hourSo L f least), 0) by rw [← hcc]; exact ha_ok hc)
        have Z := hidd (code_zero.1 hc).1
        have Hc := hidd hc
        obtain ⟨f1, f2⟩ := inR_iff.1 e1
        clear hc hcc
        obtain ⟨i0, hi, hz0, hz1, hz2⟩ := info_parts Tryz.infoI
        go_enter Tryz.func17, Tryz.ntmps17
        go_wp2_with fail
        refine wp_region_in (fun w' => Keep1 w w' (sunCells L)) (by kernel_rfl) (by kernel_rfl) kp.out ?_
        repeat (first | (refine wpQuiet_step (fun K hK => ?_); rw [if_pos (by rfl)]; refine quiet_load_all _ _ rfl _ rfl (sunCells L) _ (agg_impl) (sun_size HL.out.1) (fun w' hw' => hw'.row) ?_; go_simp; refine hK _ ?_; clear hK K) | (refine wpQuiet_step (fun K hK => ?_); go_simp; first | (refine hK _ ?_; clear hK K) | (apply Exists.intro; refine ⟨fun w' hw' => ?_, hK _ ?_⟩; (first | rfl | exact ⟨rfl, rfl⟩ | ((first | (go_at_call 62; exact (faced_impl _ _).mono fun e w'' h => ⟨h.1, h.2 ▸ hw'⟩) | (go_at_call 71; exact (part_impl _ _).mono fun e w'' h => ⟨h.1, h.2 ▸ hw'⟩) | (go_at_call 58; exact (code_impl L HL.out.1 HL.out.2 _ _).mono fun e w'' h => ⟨h.1, hw'.step h.2⟩)))); clear hK K)))
        refine wpQuiet_nil ?_
        intro w1 j1
        have j2 := hidd j1
        clear j1
        go_wp2_with fail
        go_loopw [9, 23] (fun v i wr => ∃ k : Nat, k ≤ 24 ∧ i = .int .i64 (k : Int) ∧ wr.ownsRow (w.heap.size + 1) 2 1 v (hl (hourSo L f least) k).length ((hl (hourSo L f least) k).map (Value.int .i64)) ∧ Keep1 w wr (sunCells L)) (fun _ i _ => 24 - (intOf i).toNat)
        case atStart => exact ⟨0, by omega, rfl, own_new w1 _ (w.heap.size + 1) (by have := j2.out.row.lt; omega), ⟨j2.out.below.alloc (by have := j2.out.row.lt; omega) _, j2.out.row.alloc _⟩⟩
        case round =>
          obtain ⟨k, hk, rfl, ko, kr⟩ := hrel
          have kq := hidd (And.intro ko kr)
          clear ko kr
          have hle := hl_len (hourSo L f least) k
          by_cases hlt : k < 24
          · obtain ⟨g1, g2, g3, g4⟩ := sunOk_at Z.out hlt
            rcases bool_or ((hourSo L f least) k) with hso | hso
            · have hso2 : fge (fall L k f) least = false := hso
              go_wp2_with (go_at_call 65; refine (fall_impl _ L HL.out.1 k hlt g1 g2 g3 g4 f f1 f2 _ kq.out.2.row).mono ?_; rintro e w3 ⟨rfl, hb3⟩; have k3 := hidd (kq.out.2.step hb3); have o3 := hidd (own_below kq.out.1 hb3); have z3 := hidd k3.out.row.lt; clear hb3)
              go_roundw
              case rel => exact ⟨k + 1, by omega, by go_num, by rw [hl_no hso]; exact o3.out, k3.out⟩
              case measure => simp [intOf]; omega
            · have hso2 : fge (fall L k f) least = true := hso
              go_wp2_with (first | (go_at_call 65; refine (fall_impl _ L HL.out.1 k hlt g1 g2 g3 g4 f f1 f2 _ kq.out.2.row).mono ?_; rintro e w3 ⟨rfl, hb3⟩; have k3 := hidd (kq.out.2.step hb3); have o3 := hidd (own_below kq.out.1 hb3); have z3 := hidd k3.out.row.lt; clear hb3) | (at_builtin; refine wpList_append_own _ rfl _ _ 39 rfl ((w.heap.size + 1)) 2 i0 (.int .i64 0) 1 8 Tryz.underlying39 hi hz0 hz1 hz2 rfl (by decide) _ _ _ rfl (o3.out.alloc _) ⟨w3.heap.size, 0, none⟩ 1 1 [.int .i64 (k : Int)] rfl rfl (cell_one _ _ _) (one_one _) (by unfold maxLen; omega) (by omega) (by have := z3.out; simp; omega) ?_))
              intro v' w4 own' hg' _
              have ab := hidd (app_below o3.out hg' (by have := z3.out; omega))
              have o4 := hidd (hl_snoc hso own')
              clear own' hg'
              go_wp2
              go_roundw
              case rel => exact ⟨k + 1, by omega, by go_num, o4.out, keep1_stepB k3.out (ab.out.mono (by omega))⟩
              case measure => simp [intOf]; omega
          · obtain rfl : k = 24 := by omega
            rw [hl24_eq] at kq
            go_wp2
            go_ret2; exact ⟨_, by rw [fin.out]; rfl, kq.out.2.below, by rw [fin.out]; exact own_mono kq.out.1 (by omega)⟩
      · have hb := code_bne' hc
        have fin := hidd (show (hoursAns (sunCode L (inR f 0 255 && isPart least)) (hourSo L f least)) = ([], sunCode L true) by rw [← hcc]; exact ha_no hc)
        have Hc := hidd hc
        clear hc hcc
        go_enter Tryz.func17, Tryz.ntmps17
        go_wp2_with fail
        refine wp_region_in (fun w' => Keep1 w w' (sunCells L)) (by kernel_rfl) (by kernel_rfl) kp.out ?_
        repeat (first | (refine wpQuiet_step (fun K hK => ?_); rw [if_pos (by rfl)]; refine quiet_load_all _ _ rfl _ rfl (sunCells L) _ (agg_impl) (sun_size HL.out.1) (fun w' hw' => hw'.row) ?_; go_simp; refine hK _ ?_; clear hK K) | (refine wpQuiet_step (fun K hK => ?_); go_simp; first | (refine hK _ ?_; clear hK K) | (apply Exists.intro; refine ⟨fun w' hw' => ?_, hK _ ?_⟩; (first | rfl | exact ⟨rfl, rfl⟩ | ((first | (go_at_call 62; exact (faced_impl _ _).mono fun e w'' h => ⟨h.1, h.2 ▸ hw'⟩) | (go_at_call 71; exact (part_impl _ _).mono fun e w'' h => ⟨h.1, h.2 ▸ hw'⟩) | (go_at_call 58; exact (code_impl L HL.out.1 HL.out.2 _ _).mono fun e w'' h => ⟨h.1, hw'.step h.2⟩)))); clear hK K)))
        refine wpQuiet_nil ?_
        intro w1 j1
        have j2 := hidd j1
        clear j1
        go_wp2
        go_ret2; exact ⟨_, by rw [fin.out]; rfl, j2.out.below, by rw [fin.out]; exact own_none _ _ _⟩
end Go.Proofs.YtddkiemipedgcaaGreatDoor
