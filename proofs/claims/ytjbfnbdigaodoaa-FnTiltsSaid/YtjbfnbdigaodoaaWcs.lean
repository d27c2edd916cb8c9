/-
  Cords: the stop that is nearest to a wanted place.
-/
import Derived.Test.YtjbfnbdigaodoaaWcb
namespace Go.Proofs.Ytjbfnbdigaodoaa
open Go.RowKit Go.Proofs.Fl Go.Proofs.Pl
set_option linter.unusedVariables false

theorem far_impl (l s : Nat) (n : Int) (load wanted : Nat) (hl : isLen l = true) (hq : isPart s = true) (hp : isPart load = true) (hw : isPlain wanted = true) (n1 : 1 ≤ n) (n2 : n ≤ 100) (stop : Int) (k1 : 0 ≤ stop) (k2 : stop ≤ 100) (w0 w : World) (kp0 : Keep3 w0 w (cordCells l s n) #[.float .f32 load] #[.float .f32 wanted]) :
    Calls Try.prog 46 #[.int .i64 stop, .pointer (some ⟨w0.heap.size, 0, none⟩), .pointer (some ⟨w0.heap.size + 1, 0, none⟩), .pointer (some ⟨w0.heap.size + 1 + 1, 0, none⟩)] w fun e w' => e = .returned (.float .f32 (off l s n load wanted stop)) ∧ Below w.heap.size w w' := by
  obtain ⟨o1, o2, o3, o4⟩ := off_steps hl hq hp hw n1 n2 k1 k2
  have kp := hidd kp0
  have HH := hidd (And.intro hl (And.intro hq hp))
  have O3 := hidd o3
  clear kp0 hl hq hp hw o3
  unfold off
  go_enter Try.func46, Try.ntmps46
  go_wp2_with fail
  refine wp_region_in (fun w' => Below w.heap.size w w') (by kernel_rfl) (by kernel_rfl) (Below.refl _ _).drew ?_
  (refine wpQuiet_step (fun K hK => ?_); rw [if_pos (by rfl)]; refine quiet_load_all _ _ rfl _ rfl (cordCells l s n) _ (agg_cord) (rfl) (fun w' hw' => (kp.out.step hw').row) ?_; go_simp; refine hK _ ?_; clear hK K)
  repeat (first | (refine wpQuiet_step (fun K hK => ?_); rw [if_pos (by rfl)]; refine quiet_load_cell _ _ rfl _ rfl (.float .f32 load) (onef) (fun w' hw' => (by rw [(kp.out.step hw').row2.cell]; rfl)) ?_; go_simp; refine hK _ ?_; clear hK K) | (refine wpQuiet_step (fun K hK => ?_); rw [if_pos (by rfl)]; refine quiet_load_cell _ _ rfl _ rfl (.float .f32 wanted) (onef) (fun w' hw' => (by rw [(kp.out.step hw').row3.cell]; rfl)) ?_; go_simp; refine hK _ ?_; clear hK K) | (refine wpQuiet_step (fun K hK => ?_); go_simp; first | (refine hK _ ?_; clear hK K) | (apply Exists.intro; refine ⟨fun w' hw' => ?_, hK _ ?_⟩; (first | rfl | exact ⟨rfl, rfl⟩ | ((first | (go_at_call 48; exact (place_impl l s n load stop HH.out.1 HH.out.2.1 HH.out.2.2 n1 n2 k1 k2 _).mono fun e w'' h => ⟨h.1, hw'.trans (h.2.mono hw'.size)⟩) | (go_at_call 47; exact (size_impl _ O3.out _).mono fun e w'' h => ⟨h.1, h.2 ▸ hw'⟩)))); clear hK K)))
  refine wpQuiet_nil ?_
  intro w1 j1
  have j2 := hidd j1
  clear j1
  go_wp2
  go_ret; exact ⟨rfl, j2.out⟩
set_option maxHeartbeats 400000 in
theorem stopFor_impl (l s : Nat) (n : Int) (n1 : -128 ≤ n) (n2 : n ≤ 127) (load wanted : Nat) (w : World) :
    Calls Try.prog 12 #[.agg #[.float .f32 l, .float .f32 s, .int .i8 n], .float .f32 load, .float .f32 wanted] w fun e w' => e = .returned (.tuple #[.int .i64 (stopAns l s n load wanted).1.1, .float .f32 (stopAns l s n load wanted).1.2, .int .i64 (stopAns l s n load wanted).2]) ∧ Below w.heap.size w w' := by
  have kp := hidd (Keep3.start w (cordCells l s n) #[.float .f32 load] #[.float .f32 wanted] 27 24 24).drew
  by_cases hc : cordCode l s n (isPart load && isPlain wanted) = 0
  · have hb := bne_0 hc
    have fin := hidd (show stopAns l s n load wanted = ((leastOf (fun i => off l s n load wanted (i : Nat)) n.toNat, place l s n load (leastOf (fun i => off l s n load wanted (i : Nat)) n.toNat : Nat)), 0) from cr_ok hc)
    have Hc := hidd hc
    clear hc
    obtain ⟨ho, hp⟩ := cordCode_zero.1 Hc.out
    rw [Bool.and_eq_true] at hp
    have H := hidd (cordOk_of ho)
    have Hp := hidd hp
    have k3 := H.out.2.2.2
    have k4 := H.out.2.2.1
    clear ho hp
    go_enter Try.func12, Try.ntmps12
    go_wp2_with fail
    refine wp_region_in (fun w' => Keep3 w w' (cordCells l s n) #[.float .f32 load] #[.float .f32 wanted]) (by kernel_rfl) (by kernel_rfl) kp.out ?_
    (refine wpQuiet_step (fun K hK => ?_); rw [if_pos (by rfl)]; refine quiet_load_all _ _ rfl _ rfl (cordCells l s n) _ (agg_cord) (rfl) (fun w' hw' => hw'.row) ?_; go_simp; refine hK _ ?_; clear hK K)
    (refine wpQuiet_step (fun K hK => ?_); rw [if_pos (by rfl)]; refine quiet_load_cell _ _ rfl _ rfl (.float .f32 load) (onef) (fun w' hw' => (by rw [hw'.row2.cell]; rfl)) ?_; go_simp; refine hK _ ?_; clear hK K)
    (refine wpQuiet_step (fun K hK => ?_); rw [if_pos (by rfl)]; refine quiet_load_cell _ _ rfl _ rfl (.float .f32 wanted) (onef) (fun w' hw' => (by rw [hw'.row3.cell]; rfl)) ?_; go_simp; refine hK _ ?_; clear hK K)
    repeat (refine wpQuiet_step (fun K hK => ?_); go_simp; first | (refine hK _ ?_; clear hK K) | (apply Exists.intro; refine ⟨fun w' hw' => ?_, hK _ ?_⟩; (first | rfl | exact ⟨rfl, rfl⟩ | ((first | (go_at_call 45; exact (plain_impl _ _).mono fun e w'' h => ⟨h.1, h.2 ▸ hw'⟩) | (go_at_call 36; exact (cordCode_impl l s n n1 n2 _ _ _).mono fun e w'' h => ⟨h.1, hw'.step h.2⟩)))); clear hK K))
    refine wpQuiet_nil ?_
    intro w1 j1
    have j2 := hidd j1
    clear j1 kp
    go_wp2_with fail
    go_loopw [10, 12] (fun bs i wr => ∃ k : Nat, (k : Int) ≤ n ∧ i = .int .i64 (k + 1 : Nat) ∧ bs = .int .i64 (leastOf (fun i => off l s n load wanted (i : Nat)) k : Nat) ∧ Keep3 w wr (cordCells l s n) #[.float .f32 load] #[.float .f32 wanted]) (fun _ i _ => (n + 1 - intOf i).toNat)
    case atStart => exact ⟨0, by omega, rfl, rfl, j2.out⟩
    case round =>
      obtain ⟨k, hk, rfl, rfl, kr⟩ := hrel
      have kq := hidd kr
      have c2 := cord_2 kr.row
      clear kr j2
      have hle := least_le (fun i => off l s n load wanted (i : Nat)) k
      generalize hbb : leastOf (fun i => off l s n load wanted (i : Nat)) k = bb at *
      have Hbb := hidd hbb
      clear hbb
      by_cases hlt : (k : Int) + 1 ≤ n
      · go_wp2_with fail
        refine (far_impl l s n load wanted H.out.1 H.out.2.1 Hp.out.1 Hp.out.2 k4 k3 ((k : Int) + 1) (by omega) (by omega) w _ kq.out).mono ?_
        rintro e wm ⟨rfl, hbm⟩
        have km := hidd (kq.out.step hbm)
        clear hbm
        go_wp2_with fail
        refine (far_impl l s n load wanted H.out.1 H.out.2.1 Hp.out.1 Hp.out.2 k4 k3 (bb : Int) (by omega) (by omega) w _ km.out).mono ?_
        rintro e wz ⟨rfl, hbz⟩
        have kz := hidd (km.out.step hbz)
        clear hbz
        go_wp2
        · have t0 : flt (off l s n load wanted ((k : Int) + 1)) (off l s n load wanted bb) = true := by assumption
          have ec : (((k + 1 : Nat)) : Int) = (k : Int) + 1 := by omega
          have t : flt ((fun i => off l s n load wanted (i : Nat)) (k + 1)) ((fun i => off l s n load wanted (i : Nat)) (leastOf (fun i => off l s n load wanted (i : Nat)) k)) = true := by rw [Hbb.out]; show flt (off l s n load wanted ((k + 1 : Nat) : Int)) _ = _; rw [ec]; exact t0
          go_roundw
          case rel => exact ⟨k + 1, by omega, by go_num, by rw [least_yes (f := (fun i => off l s n load wanted (i : Nat))) (k := k) t]; go_num, kz.out⟩
          case measure => simp [intOf]; omega
        · have t0 : flt (off l s n load wanted ((k : Int) + 1)) (off l s n load wanted bb) = false := by assumption
          have ec : (((k + 1 : Nat)) : Int) = (k : Int) + 1 := by omega
          have t : flt ((fun i => off l s n load wanted (i : Nat)) (k + 1)) ((fun i => off l s n load wanted (i : Nat)) (leastOf (fun i => off l s n load wanted (i : Nat)) k)) = false := by rw [Hbb.out]; show flt (off l s n load wanted ((k + 1 : Nat) : Int)) _ = _; rw [ec]; exact t0
          go_roundw
          case rel => exact ⟨k + 1, by omega, by go_num, by rw [least_no (f := (fun i => off l s n load wanted (i : Nat))) (k := k) t, Hbb.out], kz.out⟩
          case measure => simp [intOf]; omega
      · have hkn := hidd (show n.toNat = k by omega)
        have c1 : wr.cell? ⟨w.heap.size + 1, 0, none⟩ = some (.float .f32 load) := by rw [kq.out.row2.cell]; rfl
        go_wp2_with (first | (refine wpList_load_all rfl _ _ rfl _ rfl (cordCells l s n) 3 agg_cord rfl kq.out.row ?_) | (go_at_call 48; refine (place_impl l s n load (bb : Int) H.out.1 H.out.2.1 Hp.out.1 k4 k3 (by omega) (by omega) _).mono ?_; rintro e wz ⟨rfl, hbz⟩; have kz := hidd (kq.out.step hbz); clear hbz))
        go_ret3; exact ⟨by rw [fin.out, hkn.out, Hbb.out]; rfl, kz.out.below⟩
  · have hb := bne_1 hc
    have fin := hidd (show stopAns l s n load wanted = (((0 : Nat), 0), cordCode l s n (isPart load && isPlain wanted)) from cr_no hc)
    have Hc := hidd hc
    clear hc
    go_enter Try.func12, Try.ntmps12
    go_wp2_with fail
    refine wp_region_in (fun w' => Keep3 w w' (cordCells l s n) #[.float .f32 load] #[.float .f32 wanted]) (by kernel_rfl) (by kernel_rfl) kp.out ?_
    (refine wpQuiet_step (fun K hK => ?_); rw [if_pos (by rfl)]; refine quiet_load_all _ _ rfl _ rfl (cordCells l s n) _ (agg_cord) (rfl) (fun w' hw' => hw'.row) ?_; go_simp; refine hK _ ?_; clear hK K)
    (refine wpQuiet_step (fun K hK => ?_); rw [if_pos (by rfl)]; refine quiet_load_cell _ _ rfl _ rfl (.float .f32 load) (onef) (fun w' hw' => (by rw [hw'.row2.cell]; rfl)) ?_; go_simp; refine hK _ ?_; clear hK K)
    (refine wpQuiet_step (fun K hK => ?_); rw [if_pos (by rfl)]; refine quiet_load_cell _ _ rfl _ rfl (.float .f32 wanted) (onef) (fun w' hw' => (by rw [hw'.row3.cell]; rfl)) ?_; go_simp; refine hK _ ?_; clear hK K)
    repeat (refine wpQuiet_step (fun K hK => ?_); go_simp; first | (refine hK _ ?_; clear hK K) | (apply Exists.intro; refine ⟨fun w' hw' => ?_, hK _ ?_⟩; (first | rfl | exact ⟨rfl, rfl⟩ | ((first | (go_at_call 45; exact (plain_impl _ _).mono fun e w'' h => ⟨h.1, h.2 ▸ hw'⟩) | (go_at_call 36; exact (cordCode_impl l s n n1 n2 _ _ _).mono fun e w'' h => ⟨h.1, hw'.step h.2⟩)))); clear hK K))
    refine wpQuiet_nil ?_
    intro w1 j1
    have j2 := hidd j1
    clear j1 kp
    go_wp2
    go_ret3; exact ⟨by rw [fin.out]; rfl, j2.out.below⟩
set_option maxHeartbeats 400000 in
theorem stopFor_spec (l s : Nat) (n : Int) (n1 : -128 ≤ n) (n2 : n ≤ 127) (load wanted : Nat) (hww : wanted < 4294967296) (w : World) :
    Calls Try.prog 13 #[.agg #[.float .f32 l, .float .f32 s, .int .i8 n], .float .f32 load, .float .f32 wanted] w fun e w' => e = .returned (.tuple #[.int .i64 (stopAns l s n load wanted).1.1, .float .f32 (stopAns l s n load wanted).1.2, .int .i64 (stopAns l s n load wanted).2]) ∧ Below w.heap.size w w' := by
  have kp := hidd (Keep1.start w (cordCells l s n) 27)
  rcases bool_or (isPart load) with e1 | e1
  · have hb := bne_1 (cordCode_false l s n)
    have fin := hidd (show (stopAns l s n load wanted) = (((0 : Nat), 0), cordCode l s n false) by unfold stopAns; rw [e1]; exact cr_no (cordCode_false l s n))
    go_enter Try.func13, Try.ntmps13
    go_wp2_with (first | (go_at_call 39; refine (part_l01 _ _).mono ?_; rintro e w' ⟨rfl, rfl⟩) | (go_at_call 49; refine (plain_l01 _ _).mono ?_; rintro e w' ⟨rfl, rfl⟩) | (go_at_call 38; refine (loaded_spec _ l s n n1 n2 _ _ kp.out.row).mono ?_; rintro e w' ⟨rfl, rfl⟩))
    go_ret3; exact ⟨by rw [fin.out]; rfl, kp.out.below⟩
  · by_cases hc : cordCode l s n (isPlain wanted) = 0
    · have hb := bne_0 hc
      have fin := hidd (show (stopAns l s n load wanted) = ((leastOf (fun i => off l s n load wanted (i : Nat)) n.toNat, place l s n load (leastOf (fun i => off l s n load wanted (i : Nat)) n.toNat : Nat)), 0) by unfold stopAns; rw [e1, Bool.true_and]; exact cr_ok hc)
      have Hc := hidd hc
      clear hc
      obtain ⟨ho, hp⟩ := cordCode_zero.1 Hc.out
      have H := hidd (cordOk_of ho)
      have E1 := hidd e1
      have Hp := hidd hp
      have k3 := H.out.2.2.2
      have k4 := H.out.2.2.1
      clear ho hp
      go_enter Try.func13, Try.ntmps13
      go_wp2_with (first | (go_at_call 39; refine (part_l01 _ _).mono ?_; rintro e w' ⟨rfl, rfl⟩) | (go_at_call 49; refine (plain_l01 _ _).mono ?_; rintro e w' ⟨rfl, rfl⟩) | (go_at_call 38; refine (loaded_spec _ l s n n1 n2 _ _ kp.out.row).mono ?_; rintro e w' ⟨rfl, rfl⟩) | (go_at_call 50; refine (place_spec _ l s n load 0 H.out.1 H.out.2.1 E1.out (by omega) (by omega) (by omega) (by omega) _ kp.out.row).mono ?_; rintro e wn ⟨rfl, hbn⟩; have kn := hidd (kp.out.step hbn); clear kp hbn; have kp := kn; clear kn))
      go_loopw [10, 11, 12] (fun bs pl i wr => ∃ k : Nat, (k : Int) ≤ n ∧ i = .int .i64 (k + 1 : Nat) ∧ bs = .int .i64 (leastOf (fun i => off l s n load wanted (i : Nat)) k : Nat) ∧ pl = .float .f32 (place l s n load (leastOf (fun i => off l s n load wanted (i : Nat)) k : Nat)) ∧ Keep1 w wr (cordCells l s n)) (fun _ _ i _ => (n + 1 - intOf i).toNat)
      case atStart => exact ⟨0, by omega, rfl, rfl, rfl, kp.out⟩
      case round =>
        obtain ⟨k, hk, rfl, rfl, rfl, kr⟩ := hrel
        have kq := hidd kr
        have c2 := cord_2 kr.row
        clear kr kp
        have hle := least_le (fun i => off l s n load wanted (i : Nat)) k
        generalize hbb : leastOf (fun i => off l s n load wanted (i : Nat)) k = bb at *
        have Hbb := hidd hbb
        clear hbb
        by_cases hlt : (k : Int) + 1 ≤ n
        · obtain ⟨o1, o2, o3, o4⟩ := off_steps (wanted := wanted) H.out.1 H.out.2.1 E1.out Hp.out k4 (show n ≤ 100 by omega) (show 0 ≤ (k : Int) + 1 by omega) (by omega)
          obtain ⟨q1, q2, q3, q4⟩ := off_steps (wanted := wanted) H.out.1 H.out.2.1 E1.out Hp.out k4 (show n ≤ 100 by omega) (show 0 ≤ (bb : Int) by omega) (by omega)
          have HO := hidd (And.intro o3 (And.intro o4 (And.intro q3 q4)))
          clear o3 o4 q3 q4
          go_wp2_with (go_at_call 50; refine (place_spec _ l s n load ((k : Int) + 1) H.out.1 H.out.2.1 E1.out k4 (by omega) (by omega) (by omega) _ kq.out.row).mono ?_; rintro e wz ⟨rfl, hbz⟩; have kz := hidd (kq.out.step hbz); clear hbz)
          refine (size_l01 _ HO.out.1 HO.out.2.1 _).mono ?_
          rintro e w' ⟨rfl, rfl⟩
          go_wp2_with fail
          refine (size_l01 _ HO.out.2.2.1 HO.out.2.2.2 _).mono ?_
          rintro e w' ⟨rfl, rfl⟩
          go_wp2
          · have t0 : flt (size (fsub (place l s n load ((k : Int) + 1)) wanted)) (size (fsub (place l s n load bb) wanted)) = true := by assumption
            have ec : (((k + 1 : Nat)) : Int) = (k : Int) + 1 := by omega
            have t : flt ((fun i => off l s n load wanted (i : Nat)) (k + 1)) ((fun i => off l s n load wanted (i : Nat)) (leastOf (fun i => off l s n load wanted (i : Nat)) k)) = true := by rw [Hbb.out]; show flt (off l s n load wanted ((k + 1 : Nat) : Int)) _ = _; rw [ec]; exact t0
            go_roundw
            case rel => exact ⟨k + 1, by omega, by go_num, by rw [least_yes (f := (fun i => off l s n load wanted (i : Nat))) (k := k) t]; go_num, by rw [least_yes (f := (fun i => off l s n load wanted (i : Nat))) (k := k) t, ec], kz.out⟩
            case measure => simp [intOf]; omega
          · have t0 : flt (size (fsub (place l s n load ((k : Int) + 1)) wanted)) (size (fsub (place l s n load bb) wanted)) = false := by assumption
            have ec : (((k + 1 : Nat)) : Int) = (k : Int) + 1 := by omega
            have t : flt ((fun i => off l s n load wanted (i : Nat)) (k + 1)) ((fun i => off l s n load wanted (i : Nat)) (leastOf (fun i => off l s n load wanted (i : Nat)) k)) = false := by rw [Hbb.out]; show flt (off l s n load wanted ((k + 1 : Nat) : Int)) _ = _; rw [ec]; exact t0
            go_roundw
            case rel => exact ⟨k + 1, by omega, by go_num, by rw [least_no (f := (fun i => off l s n load wanted (i : Nat))) (k := k) t, Hbb.out], by rw [least_no (f := (fun i => off l s n load wanted (i : Nat))) (k := k) t, Hbb.out], kz.out⟩
            case measure => simp [intOf]; omega
        · have hkn := hidd (show n.toNat = k by omega)
          go_wp2
          go_ret3; exact ⟨by rw [fin.out, hkn.out, Hbb.out]; rfl, kq.out.below⟩
    · have hb := bne_1 hc
      have fin := hidd (show (stopAns l s n load wanted) = (((0 : Nat), 0), cordCode l s n (isPlain wanted)) by unfold stopAns; rw [e1, Bool.true_and]; exact cr_no hc)
      have Hc := hidd hc
      clear hc
      go_enter Try.func13, Try.ntmps13
      go_wp2_with (first | (go_at_call 39; refine (part_l01 _ _).mono ?_; rintro e w' ⟨rfl, rfl⟩) | (go_at_call 49; refine (plain_l01 _ _).mono ?_; rintro e w' ⟨rfl, rfl⟩) | (go_at_call 38; refine (loaded_spec _ l s n n1 n2 _ _ kp.out.row).mono ?_; rintro e w' ⟨rfl, rfl⟩))
      go_ret3; exact ⟨by rw [fin.out]; rfl, kp.out.below⟩
end Go.Proofs.Ytjbfnbdigaodoaa
