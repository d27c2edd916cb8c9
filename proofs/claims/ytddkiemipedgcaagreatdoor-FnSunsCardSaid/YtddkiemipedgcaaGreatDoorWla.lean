/-
  Suns that are made: the one some hours later.
-/
import Derived.Test.YtddkiemipedgcaaGreatDoorWmi
import Derived.RegionTactic
import Derived.BigRegion
namespace Go.Proofs.YtddkiemipedgcaaGreatDoor
open Go.RowKit Go.Proofs.Fl Go.Proofs.Pl
set_option linter.unusedVariables false

def latF (L : List Int) (n : Int) (k : Nat) : Int := hgt L (((k : Int) - n) % 24).toNat
def latG (L : List Int) (n : Int) (k : Nat) : Int := trn L (((k : Int) - n) % 24).toNat

set_option maxHeartbeats 2000000 in
theorem later_spec (L : List Int) (hL : L.length = 48) (hr : ∀ x ∈ L, -32768 ≤ x ∧ x ≤ 32767) (n : Int) (w : World) :
    Calls Tryz.prog 31 #[.agg (sunCells L), .int .i64 n] w fun e w' => e = .returned (.tuple #[.agg (sunCells (sunMade (sunCode L (inR n 0 23)) (latF L n) (latG L n)).1), .int .i64 (sunMade (sunCode L (inR n 0 23)) (latF L n) (latG L n)).2]) ∧ Below w.heap.size w w' := by
  have kp := hidd (Keep2.start w (sunCells L) (sunCells zeroSun) 27 27)
  have HL := hidd (And.intro hL hr)
  clear hL hr
  by_cases hc : sunCode L (inR n 0 23) = 0
  · have hb := code_bne hc
    have fin := hidd (show (sunMade (sunCode L (inR n 0 23)) (latF L n) (latG L n)) = (fill24 (latF L n) (latG L n), 0) from sm_ok hc)
    have Z := hidd (code_zero.1 hc).1
    obtain ⟨n1, n2⟩ := inR_iff.1 (code_zero.1 hc).2
    have Hc := hidd hc
    clear hc
    go_enter Tryz.func31, Tryz.ntmps31
    go_wp2_with (first | (go_at_call 76; refine (hour_spec _ _).mono ?_; rintro e w' ⟨rfl, rfl⟩) | (go_at_call 66; refine (asked_spec _ L HL.out.1 HL.out.2 _ _ kp.out.row).mono ?_; rintro e w' ⟨rfl, rfl⟩) | (refine wpList_store_at rfl _ _ _ rfl _ 0 rfl 48 (sunCells zeroSun) (sunCells zeroSun) rfl agg_impl (Row.new' ((w.alloc (.cells (sunCells L) 27)).alloc (.cells (sunCells zeroSun) 27)) (sunCells zeroSun) 27 (w.heap.size + 1 + 1) (by simp)) rfl (by decide) (sun_one _) ?_; intro w5 hw5 r5; rw [over_all (cs := sunCells zeroSun) (xs := sunCells zeroSun) rfl] at r5; replace r5 := hidd r5; replace kp := hidd (keep2_wrote (kp.out.step ((Below.refl _ _).alloc (Nat.le_refl _) (.cells (sunCells zeroSun) 27))) hw5 (by omega)); clear hw5))
    have B2 := hidd (show w.heap.size + 2 ≤ (w.heap.size + 1 + 1) from by omega)
    go_loopw [8] (fun i wr => ∃ k : Nat, k ≤ 24 ∧ i = .int .i64 k ∧ Keep2 w wr (sunCells L) (sunCells zeroSun) ∧ Row wr (w.heap.size + 1 + 1) (sunCells (fill (latF L n) (latG L n) k))) (fun i _ => 24 - (intOf i).toNat)
    case atStart => exact ⟨0, by omega, rfl, kp.out, by rw [fill_zero]; exact r5.out⟩
    case round =>
      obtain ⟨k, hk, rfl, kr, rr⟩ := hrel
      have kq := hidd kr
      have rq := hidd rr
      clear kr rr
      by_cases hlt : k < 24
      · have hm1 : 0 ≤ ((k : Int) - n) % 24 := Int.emod_nonneg _ (by decide)
        have hm2 : ((k : Int) - n) % 24 < 24 := Int.emod_lt_of_pos _ (by decide)
        obtain ⟨j, hj⟩ := Int.eq_ofNat_of_zero_le hm1
        have hjl : j < 24 := by omega
        have HJ := hidd (show (((k : Int) - n) % 24).toNat = j by omega)
        clear hm1 hm2
        have hj2 : ((k : Int) - n + 24) % 24 = (j : Int) := by omega
        have hj3 : ((k : Int) - n + 24).tmod 24 = (j : Int) := by rw [Int.tmod_eq_emod_of_nonneg (by omega)]; exact hj2
        have i0 : (0 : Int) ≤ (j : Int) := by omega
        have i1 : (j : Int) < 24 := by omega
        have i2 : (0 : Int) ≤ (k : Int) := by omega
        have i3 : (k : Int) < 24 := by omega
        have c1 := sun_hgt kq.out.row HL.out.1 j hjl
        have c5 := sun_trn kq.out.row HL.out.1 j hjl
        obtain ⟨⟨x1, c2⟩, f2, ⟨x2, c4⟩, f4⟩ := made_cells hlt rq.out (.int .i16 (hgt L j))
        have ks := hidd (keep2_wrote kq.out (Wrote.setCell wr (w.heap.size + 1 + 1) k (.int .i16 (hgt L j))) B2.out)
        have c3 := sun_trn ks.out.row HL.out.1 j hjl
        go_wp2
        go_roundw
        case rel =>
          refine ⟨k + 1, by omega, by go_num, (keep2_wrote ks.out (Wrote.setCell _ (w.heap.size + 1 + 1) (24 + k) (.int .i16 (trn L j))) B2.out), ?_⟩
          rw [← fill_step _ _ hlt]
          have e1 : latF L n k = hgt L j := by unfold latF; rw [HJ.out]
          have e2 : latG L n k = trn L j := by unfold latG; rw [HJ.out]
          rw [e1, e2]
          exact ((rq.out.set k _).set (24 + k) _)
        case measure => simp [intOf]; omega
      · obtain rfl : k = 24 := by omega
        rw [fill24_eq] at rq
        go_wp2_with (first | (refine wpList_load_all rfl _ _ rfl _ rfl (sunCells (fill24 (latF L n) (latG L n))) 48 agg_impl (sun_size (fill24_len _ _)) rq.out ?_) | (refine wpList_store_at rfl _ _ _ rfl _ 0 rfl 48 (sunCells zeroSun) (sunCells (fill24 (latF L n) (latG L n))) rfl agg_impl kq.out.row2 (sun_size (fill24_len _ _)) (by decide) (sun_one _) ?_; intro w7 hw7 r7))
        rw [over_all (cs := sunCells zeroSun) (xs := sunCells (fill24 (latF L n) (latG L n))) (by rw [sun_size (fill24_len _ _)]; rfl)] at r7
        refine bodyPost_ret (v := .tuple #[.agg (sunCells (fill24 (latF L n) (latG L n))), .int .i64 0]) (results_pair rfl agg_impl _ _ _ _ (sun_size (fill24_len _ _)) _ rfl rfl r7) rfl ⟨by rw [fin.out], kq.out.below.trans (hw7.below (by omega))⟩
  · have hb := code_bne' hc
    have fin := hidd (show (sunMade (sunCode L (inR n 0 23)) (latF L n) (latG L n)) = (zeroSun, sunCode L (inR n 0 23)) from sm_no hc)
    have Hc := hidd hc
    clear hc
    go_enter Tryz.func31, Tryz.ntmps31
    go_wp2_with (first | (go_at_call 76; refine (hour_spec _ _).mono ?_; rintro e w' ⟨rfl, rfl⟩) | (go_at_call 66; refine (asked_spec _ L HL.out.1 HL.out.2 _ _ kp.out.row).mono ?_; rintro e w' ⟨rfl, rfl⟩) | (refine wpList_store_at rfl _ _ _ rfl _ 0 rfl 48 (sunCells zeroSun) (sunCells zeroSun) rfl agg_impl kp.out.row2 rfl (by decide) (sun_one _) ?_; intro w4 hw4 r4))
    rw [over_all (cs := sunCells zeroSun) (xs := sunCells zeroSun) rfl] at r4
    refine bodyPost_ret (v := .tuple #[.agg (sunCells zeroSun), .int .i64 (sunCode L (inR n 0 23))]) (results_pair rfl agg_impl _ _ _ _ rfl _ rfl rfl r4) rfl ⟨by rw [fin.out], kp.out.below.trans (hw4.below (by omega))⟩
set_option maxHeartbeats 2000000 in
theorem later_impl (L : List Int) (hL : L.length = 48) (hr : ∀ x ∈ L, -32768 ≤ x ∧ x ≤ 32767) (n : Int) (w : World) :
    Calls Tryz.prog 30 #[.agg (sunCells L), .int .i64 n] w fun e w' => e = .returned (.tuple #[.agg (sunCells (sunMade (sunCode L (inR n 0 23)) (latF L n) (latG L n)).1), .int .i64 (sunMade (sunCode L (inR n 0 23)) (latF L n) (latG L n)).2]) ∧ Below w.heap.size w w' := by
  have kp := hidd (Keep2.start w (sunCells L) (sunCells zeroSun) 27 27)
  have HL := hidd (And.intro hL hr)
  clear hL hr
  by_cases hc : sunCode L (inR n 0 23) = 0
  · have hb := code_bne hc
    have fin := hidd (show (sunMade (sunCode L (inR n 0 23)) (latF L n) (latG L n)) = (fill24 (latF L n) (latG L n), 0) from sm_ok hc)
    have Z := hidd (code_zero.1 hc).1
    obtain ⟨n1, n2⟩ := inR_iff.1 (code_zero.1 hc).2
    have Hc := hidd hc
    clear hc
    go_enter Tryz.func30, Tryz.ntmps30
    go_wp2_with fail
    refine wp_region_in (fun w' => Keep2 w w' (sunCells L) (sunCells zeroSun)) (by kernel_rfl) (by kernel_rfl) kp.out.drew ?_
    repeat (first | (refine wpQuiet_step (fun K hK => ?_); rw [if_pos (by rfl)]; refine quiet_load_all _ _ rfl _ rfl (sunCells L) _ (agg_impl) (sun_size HL.out.1) (fun w' hw' => hw'.row) ?_; go_simp; refine hK _ ?_; clear hK K) | (refine wpQuiet_step (fun K hK => ?_); go_simp; first | (refine hK _ ?_; clear hK K) | (apply Exists.intro; refine ⟨fun w' hw' => ?_, hK _ ?_⟩; (first | rfl | exact ⟨rfl, rfl⟩ | ((first | (go_at_call 75; exact (hour_impl _ _).mono fun e w'' h => ⟨h.1, h.2 ▸ hw'⟩) | (go_at_call 58; exact (code_impl L HL.out.1 HL.out.2 _ _).mono fun e w'' h => ⟨h.1, hw'.step h.2⟩)))); clear hK K)))
    refine wpQuiet_nil ?_
    intro w3 j1
    replace kp := hidd j1
    clear j1
    have hb2 := hidd (show w.heap.size + 2 ≤ w3.heap.size from by have := kp.out.row2.lt; omega)
    go_wp2_with (refine wpList_store_at rfl _ _ _ rfl _ 0 rfl 48 (sunCells zeroSun) (sunCells zeroSun) rfl agg_impl (Row.new w3 (sunCells zeroSun) 27) rfl (by decide) (sun_one _) ?_; intro w5 hw5 r5; rw [over_all (cs := sunCells zeroSun) (xs := sunCells zeroSun) rfl] at r5; replace r5 := hidd r5; replace kp := hidd (keep2_wrote (kp.out.step ((Below.refl _ _).alloc (Nat.le_refl _) (.cells (sunCells zeroSun) 27))) hw5 hb2.out); clear hw5)
    have B2 := hidd (show w.heap.size + 2 ≤ w3.heap.size from hb2.out)
    go_loopw [19] (fun i wr => ∃ k : Nat, k ≤ 24 ∧ i = .int .i64 k ∧ Keep2 w wr (sunCells L) (sunCells zeroSun) ∧ Row wr w3.heap.size (sunCells (fill (latF L n) (latG L n) k))) (fun i _ => 24 - (intOf i).toNat)
    case atStart => exact ⟨0, by omega, rfl, kp.out, by rw [fill_zero]; exact r5.out⟩
    case round =>
      obtain ⟨k, hk, rfl, kr, rr⟩ := hrel
      have kq := hidd kr
      have rq := hidd rr
      clear kr rr
      by_cases hlt : k < 24
      · have hm1 : 0 ≤ ((k : Int) - n) % 24 := Int.emod_nonneg _ (by decide)
        have hm2 : ((k : Int) - n) % 24 < 24 := Int.emod_lt_of_pos _ (by decide)
        obtain ⟨j, hj⟩ := Int.eq_ofNat_of_zero_le hm1
        have hjl : j < 24 := by omega
        have HJ := hidd (show (((k : Int) - n) % 24).toNat = j by omega)
        clear hm1 hm2
        have hj2 : ((k : Int) - n + 24) % 24 = (j : Int) := by omega
        have hj3 : ((k : Int) - n + 24).tmod 24 = (j : Int) := by rw [Int.tmod_eq_emod_of_nonneg (by omega)]; exact hj2
        have i0 : (0 : Int) ≤ (j : Int) := by omega
        have i1 : (j : Int) < 24 := by omega
        have i2 : (0 : Int) ≤ (k : Int) := by omega
        have i3 : (k : Int) < 24 := by omega
        have c1 := sun_hgt kq.out.row HL.out.1 j hjl
        have c5 := sun_trn kq.out.row HL.out.1 j hjl
        obtain ⟨⟨x1, c2⟩, f2, ⟨x2, c4⟩, f4⟩ := made_cells hlt rq.out (.int .i16 (hgt L j))
        have ks := hidd (keep2_wrote kq.out (Wrote.setCell wr w3.heap.size k (.int .i16 (hgt L j))) B2.out)
        have c3 := sun_trn ks.out.row HL.out.1 j hjl
        go_wp2_with (go_at_call 59; refine (rest_impl _ _ (by decide) (by decide) _).mono ?_; rintro e w' ⟨rfl, rfl⟩)
        go_region
        go_wp2
        go_roundw
        case rel =>
          refine ⟨k + 1, by omega, by go_num, (keep2_wrote ks.out (Wrote.setCell _ w3.heap.size (24 + k) (.int .i16 (trn L j))) B2.out).drew, ?_⟩
          rw [← fill_step _ _ hlt]
          have e1 : latF L n k = hgt L j := by unfold latF; rw [HJ.out]
          have e2 : latG L n k = trn L j := by unfold latG; rw [HJ.out]
          rw [e1, e2]
          exact ((rq.out.set k _).set (24 + k) _).drew
        case measure => simp [intOf]; omega
      · obtain rfl : k = 24 := by omega
        rw [fill24_eq] at rq
        go_wp2_with (first | (refine wpList_load_all rfl _ _ rfl _ rfl (sunCells (fill24 (latF L n) (latG L n))) 48 agg_impl (sun_size (fill24_len _ _)) rq.out ?_) | (refine wpList_store_at rfl _ _ _ rfl _ 0 rfl 48 (sunCells zeroSun) (sunCells (fill24 (latF L n) (latG L n))) rfl agg_impl kq.out.row2 (sun_size (fill24_len _ _)) (by decide) (sun_one _) ?_; intro w7 hw7 r7))
        rw [over_all (cs := sunCells zeroSun) (xs := sunCells (fill24 (latF L n) (latG L n))) (by rw [sun_size (fill24_len _ _)]; rfl)] at r7
        refine bodyPost_ret (v := .tuple #[.agg (sunCells (fill24 (latF L n) (latG L n))), .int .i64 0]) (results_pair rfl agg_impl _ _ _ _ (sun_size (fill24_len _ _)) _ rfl rfl r7) rfl ⟨by rw [fin.out], kq.out.below.trans (hw7.below (by omega))⟩
  · have hb := code_bne' hc
    have fin := hidd (show (sunMade (sunCode L (inR n 0 23)) (latF L n) (latG L n)) = (zeroSun, sunCode L (inR n 0 23)) from sm_no hc)
    have Hc := hidd hc
    clear hc
    go_enter Tryz.func30, Tryz.ntmps30
    go_wp2_with fail
    refine wp_region_in (fun w' => Keep2 w w' (sunCells L) (sunCells zeroSun)) (by kernel_rfl) (by kernel_rfl) kp.out.drew ?_
    repeat (first | (refine wpQuiet_step (fun K hK => ?_); rw [if_pos (by rfl)]; refine quiet_load_all _ _ rfl _ rfl (sunCells L) _ (agg_impl) (sun_size HL.out.1) (fun w' hw' => hw'.row) ?_; go_simp; refine hK _ ?_; clear hK K) | (refine wpQuiet_step (fun K hK => ?_); go_simp; first | (refine hK _ ?_; clear hK K) | (apply Exists.intro; refine ⟨fun w' hw' => ?_, hK _ ?_⟩; (first | rfl | exact ⟨rfl, rfl⟩ | ((first | (go_at_call 75; exact (hour_impl _ _).mono fun e w'' h => ⟨h.1, h.2 ▸ hw'⟩) | (go_at_call 58; exact (code_impl L HL.out.1 HL.out.2 _ _).mono fun e w'' h => ⟨h.1, hw'.step h.2⟩)))); clear hK K)))
    refine wpQuiet_nil ?_
    intro w3 j1
    replace kp := hidd j1
    clear j1
    have hb2 := hidd (show w.heap.size + 2 ≤ w3.heap.size from by have := kp.out.row2.lt; omega)
    go_wp2_with (refine wpList_store_at rfl _ _ _ rfl _ 0 rfl 48 (sunCells zeroSun) (sunCells zeroSun) rfl agg_impl kp.out.row2 rfl (by decide) (sun_one _) ?_; intro w4 hw4 r4)
    rw [over_all (cs := sunCells zeroSun) (xs := sunCells zeroSun) rfl] at r4
    refine bodyPost_ret (v := .tuple #[.agg (sunCells zeroSun), .int .i64 (sunCode L (inR n 0 23))]) (results_pair rfl agg_impl _ _ _ _ rfl _ rfl rfl r4) rfl ⟨by rw [fin.out], kp.out.below.trans (hw4.below (by omega))⟩
end Go.Proofs.YtddkiemipedgcaaGreatDoor
