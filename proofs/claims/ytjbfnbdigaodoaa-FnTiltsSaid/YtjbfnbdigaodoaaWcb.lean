/-
  Cords: the answers.
-/
import Derived.Test.YtjbfnbdigaodoaaWc
namespace Go.Proofs.Ytjbfnbdigaodoaa
open Go.RowKit Go.Proofs.Fl Go.Proofs.Pl
set_option linter.unusedVariables false

theorem and_true' (b : Bool) : (b && true) = b := by simp
theorem stretchedCord_impl (l s : Nat) (n : Int) (n1 : -128 ≤ n) (n2 : n ≤ 127) (load : Nat) (w : World) :
    Calls Try.prog 8 #[.agg #[.float .f32 l, .float .f32 s, .int .i8 n], .float .f32 load] w fun e w' => e = .returned (.tuple #[.float .f32 (codeRes (cordCode l s n (isPart load)) 0 (stretched l s load)).1, .int .i64 (codeRes (cordCode l s n (isPart load)) 0 (stretched l s load)).2]) ∧ Below w.heap.size w w' := by
  have kp := hidd (Keep1.start w (cordCells l s n) 27)
  by_cases hc : cordCode l s n (isPart load) = 0
  · have hb := bne_0 hc
    have fin := hidd (cr_ok (zr := 0) (val := stretched l s load) hc)
    have Hc := hidd hc
    clear hc
    obtain ⟨ho, hp⟩ := cordCode_zero.1 Hc.out
    have H := hidd (cordOk_of ho)
    have Hp := hidd hp
    clear ho hp
    go_enter Try.func8, Try.ntmps8
    go_wp2_with (first | (refine wpList_load_all rfl _ _ rfl _ rfl (cordCells l s n) 3 agg_cord rfl kp.out.row ?_) | (go_at_call 36; refine (cordCode_impl l s n n1 n2 _ _ _).mono ?_; rintro e wn ⟨rfl, hbn⟩; have kn := hidd (kp.out.step hbn); clear kp hbn; have kp := kn; clear kn) | (go_at_call 37; refine (stretched_impl l s n load H.out.1 H.out.2.1 Hp.out _).mono ?_; rintro e wn ⟨rfl, hbn⟩; have kn := hidd (kp.out.step hbn); clear kp hbn; have kp := kn; clear kn) | simp only [and_true'])
    go_ret2; exact ⟨by rw [fin.out]; rfl, kp.out.below⟩
  · have hb := bne_1 hc
    have fin := hidd (cr_no (zr := 0) (val := stretched l s load) hc)
    have Hc := hidd hc
    clear hc
    go_enter Try.func8, Try.ntmps8
    go_wp2_with (first | (refine wpList_load_all rfl _ _ rfl _ rfl (cordCells l s n) 3 agg_cord rfl kp.out.row ?_) | (go_at_call 36; refine (cordCode_impl l s n n1 n2 _ _ _).mono ?_; rintro e wn ⟨rfl, hbn⟩; have kn := hidd (kp.out.step hbn); clear kp hbn; have kp := kn; clear kn))
    go_ret2; exact ⟨by rw [fin.out]; rfl, kp.out.below⟩
theorem stretchedCord_spec (l s : Nat) (n : Int) (n1 : -128 ≤ n) (n2 : n ≤ 127) (load : Nat) (w : World) :
    Calls Try.prog 9 #[.agg #[.float .f32 l, .float .f32 s, .int .i8 n], .float .f32 load] w fun e w' => e = .returned (.tuple #[.float .f32 (codeRes (cordCode l s n (isPart load)) 0 (stretched l s load)).1, .int .i64 (codeRes (cordCode l s n (isPart load)) 0 (stretched l s load)).2]) ∧ Below w.heap.size w w' := by
  have kp := hidd (Keep1.start w (cordCells l s n) 27)
  by_cases hc : cordCode l s n (isPart load) = 0
  · have hb := bne_0 hc
    have fin := hidd (cr_ok (zr := 0) (val := stretched l s load) hc)
    have Hc := hidd hc
    clear hc
    obtain ⟨ho, hp⟩ := cordCode_zero.1 Hc.out
    have H := hidd (cordOk_of ho)
    have Hp := hidd hp
    clear ho hp
    go_enter Try.func9, Try.ntmps9
    go_wp2_with (first | (go_at_call 39; refine (part_l01 _ _).mono ?_; rintro e w' ⟨rfl, rfl⟩) | (go_at_call 38; refine (loaded_spec _ l s n n1 n2 _ _ kp.out.row).mono ?_; rintro e w' ⟨rfl, rfl⟩) | (go_at_call 40; refine (stretched_spec _ l s n load H.out.1 H.out.2.1 Hp.out _ kp.out.row).mono ?_; rintro e wn ⟨rfl, hbn⟩; have kn := hidd (kp.out.step hbn); clear kp hbn; have kp := kn; clear kn))
    go_ret2; exact ⟨by rw [fin.out]; rfl, kp.out.below⟩
  · have hb := bne_1 hc
    have fin := hidd (cr_no (zr := 0) (val := stretched l s load) hc)
    have Hc := hidd hc
    clear hc
    go_enter Try.func9, Try.ntmps9
    go_wp2_with (first | (go_at_call 39; refine (part_l01 _ _).mono ?_; rintro e w' ⟨rfl, rfl⟩) | (go_at_call 38; refine (loaded_spec _ l s n n1 n2 _ _ kp.out.row).mono ?_; rintro e w' ⟨rfl, rfl⟩))
    go_ret2; exact ⟨by rw [fin.out]; rfl, kp.out.below⟩
theorem placeOf_impl (l s : Nat) (n : Int) (n1 : -128 ≤ n) (n2 : n ≤ 127) (load : Nat) (stop : Int) (w : World) :
    Calls Try.prog 15 #[.agg #[.float .f32 l, .float .f32 s, .int .i8 n], .float .f32 load, .int .i64 stop] w fun e w' => e = .returned (.tuple #[.float .f32 (codeRes (cordCode l s n (isPart load && inR stop 0 n)) 0 (place l s n load stop)).1, .int .i64 (codeRes (cordCode l s n (isPart load && inR stop 0 n)) 0 (place l s n load stop)).2]) ∧ Below w.heap.size w w' := by
  have kp := hidd (Keep1.start w (cordCells l s n) 27).drew
  by_cases hc : cordCode l s n (isPart load && inR stop 0 n) = 0
  · have hb := bne_0 hc
    have fin := hidd (cr_ok (zr := 0) (val := place l s n load stop) hc)
    have Hc := hidd hc
    clear hc
    obtain ⟨ho, hp⟩ := cordCode_zero.1 Hc.out
    rw [Bool.and_eq_true] at hp
    obtain ⟨k1, k2⟩ := inR_iff.1 hp.2
    have H := hidd (cordOk_of ho)
    have Hp := hidd hp.1
    have k3 := H.out.2.2.2
    have k4 := H.out.2.2.1
    clear ho hp
    have hw1 : IntKind.i64.wrap n = n := IntWalk.i64_in _ ⟨by omega, by omega⟩
    go_enter Try.func15, Try.ntmps15
    go_wp2_with fail
    refine wp_region_in (fun w' => Keep1 w w' (cordCells l s n)) (by kernel_rfl) (by kernel_rfl) kp.out ?_
    (refine wpQuiet_step (fun K hK => ?_); rw [if_pos (by rfl)]; refine quiet_load_all _ _ rfl _ rfl (cordCells l s n) _ (agg_cord) (rfl) (fun w' hw' => hw'.row) ?_; go_simp; refine hK _ ?_; clear hK K)
    repeat (first | (refine wpQuiet_step (fun K hK => ?_); rw [if_pos (by rfl)]; refine quiet_load_cell _ _ rfl _ rfl (.int .i8 n) (one8) (fun w' hw' => cord_2 hw'.row) ?_; go_simp; refine hK _ ?_; clear hK K) | (refine wpQuiet_step (fun K hK => ?_); go_simp; first | (refine hK _ ?_; clear hK K) | (apply Exists.intro; refine ⟨fun w' hw' => ?_, hK _ ?_⟩; (first | rfl | exact ⟨rfl, rfl⟩ | ((first | (go_at_call 44; exact (in_impl _ _ _ _).mono fun e w'' h => ⟨h.1, h.2 ▸ hw'⟩) | (go_at_call 36; exact (cordCode_impl l s n n1 n2 _ _ _).mono fun e w'' h => ⟨h.1, hw'.step h.2⟩)))); clear hK K)))
    refine wpQuiet_nil ?_
    intro w1 j1
    have j2 := hidd j1
    clear j1
    have kp := j2
    go_wp2_with (first | (refine wpList_load_all rfl _ _ rfl _ rfl (cordCells l s n) 3 agg_cord rfl j2.out.row ?_) | (go_at_call 48; refine (place_impl l s n load stop H.out.1 H.out.2.1 Hp.out (by omega) (by omega) k1 (by omega) _).mono ?_; rintro e wn ⟨rfl, hbn⟩; have kn := hidd (kp.out.step hbn); clear kp hbn; have kp := kn; clear kn))
    go_ret2; exact ⟨by rw [fin.out]; rfl, kp.out.below⟩
  · have hb := bne_1 hc
    have fin := hidd (cr_no (zr := 0) (val := place l s n load stop) hc)
    have Hc := hidd hc
    clear hc
    have hw1 : IntKind.i64.wrap n = n := IntWalk.i64_in _ ⟨by omega, by omega⟩
    go_enter Try.func15, Try.ntmps15
    go_wp2_with fail
    refine wp_region_in (fun w' => Keep1 w w' (cordCells l s n)) (by kernel_rfl) (by kernel_rfl) kp.out ?_
    (refine wpQuiet_step (fun K hK => ?_); rw [if_pos (by rfl)]; refine quiet_load_all _ _ rfl _ rfl (cordCells l s n) _ (agg_cord) (rfl) (fun w' hw' => hw'.row) ?_; go_simp; refine hK _ ?_; clear hK K)
    repeat (first | (refine wpQuiet_step (fun K hK => ?_); rw [if_pos (by rfl)]; refine quiet_load_cell _ _ rfl _ rfl (.int .i8 n) (one8) (fun w' hw' => cord_2 hw'.row) ?_; go_simp; refine hK _ ?_; clear hK K) | (refine wpQuiet_step (fun K hK => ?_); go_simp; first | (refine hK _ ?_; clear hK K) | (apply Exists.intro; refine ⟨fun w' hw' => ?_, hK _ ?_⟩; (first | rfl | exact ⟨rfl, rfl⟩ | ((first | (go_at_call 44; exact (in_impl _ _ _ _).mono fun e w'' h => ⟨h.1, h.2 ▸ hw'⟩) | (go_at_call 36; exact (cordCode_impl l s n n1 n2 _ _ _).mono fun e w'' h => ⟨h.1, hw'.step h.2⟩)))); clear hK K)))
    refine wpQuiet_nil ?_
    intro w1 j1
    have j2 := hidd j1
    clear j1
    go_wp2
    go_ret2; exact ⟨by rw [fin.out]; rfl, j2.out.below⟩
theorem placeOf_spec (l s : Nat) (n : Int) (n1 : -128 ≤ n) (n2 : n ≤ 127) (load : Nat) (stop : Int) (w : World) :
    Calls Try.prog 16 #[.agg #[.float .f32 l, .float .f32 s, .int .i8 n], .float .f32 load, .int .i64 stop] w fun e w' => e = .returned (.tuple #[.float .f32 (codeRes (cordCode l s n (isPart load && inR stop 0 n)) 0 (place l s n load stop)).1, .int .i64 (codeRes (cordCode l s n (isPart load && inR stop 0 n)) 0 (place l s n load stop)).2]) ∧ Below w.heap.size w w' := by
  have kp := hidd (Keep1.start w (cordCells l s n) 27)
  rcases bool_or (isPart load) with e1 | e1
  · have hb := bne_1 (cordCode_false l s n)
    have fin := hidd (show codeRes (cordCode l s n (isPart load && inR stop 0 n)) 0 (place l s n load stop) = (0, cordCode l s n false) by rw [e1]; exact cr_no (cordCode_false l s n))
    go_enter Try.func16, Try.ntmps16
    go_wp2_with (first | (go_at_call 39; refine (part_l01 _ _).mono ?_; rintro e w' ⟨rfl, rfl⟩) | (go_at_call 52; refine (in_spec _ _ _ _).mono ?_; rintro e w' ⟨rfl, rfl⟩) | (go_at_call 38; refine (loaded_spec _ l s n n1 n2 _ _ kp.out.row).mono ?_; rintro e w' ⟨rfl, rfl⟩))
    go_ret2; exact ⟨by rw [fin.out]; rfl, kp.out.below⟩
  · by_cases hc : cordCode l s n (inR stop 0 n) = 0
    · have hb := bne_0 hc
      have fin := hidd (show codeRes (cordCode l s n (isPart load && inR stop 0 n)) 0 (place l s n load stop) = (place l s n load stop, 0) by rw [e1, Bool.true_and]; exact cr_ok hc)
      have Hc := hidd hc
      clear hc
      obtain ⟨ho, hp⟩ := cordCode_zero.1 Hc.out
      obtain ⟨k1, k2⟩ := inR_iff.1 hp
      have H := hidd (cordOk_of ho)
      have E1 := hidd e1
      have k3 := H.out.2.2.2
      have k4 := H.out.2.2.1
      clear ho hp
      go_enter Try.func16, Try.ntmps16
      go_wp2_with (first | (go_at_call 39; refine (part_l01 _ _).mono ?_; rintro e w' ⟨rfl, rfl⟩) | (go_at_call 52; refine (in_spec _ _ _ _).mono ?_; rintro e w' ⟨rfl, rfl⟩) | (go_at_call 38; refine (loaded_spec _ l s n n1 n2 _ _ kp.out.row).mono ?_; rintro e w' ⟨rfl, rfl⟩) | (go_at_call 50; refine (place_spec _ l s n load stop H.out.1 H.out.2.1 E1.out (by omega) (by omega) k1 (by omega) _ kp.out.row).mono ?_; rintro e wn ⟨rfl, hbn⟩; have kn := hidd (kp.out.step hbn); clear kp hbn; have kp := kn; clear kn))
      go_ret2; exact ⟨by rw [fin.out]; rfl, kp.out.below⟩
    · have hb := bne_1 hc
      have fin := hidd (show codeRes (cordCode l s n (isPart load && inR stop 0 n)) 0 (place l s n load stop) = (0, cordCode l s n (inR stop 0 n)) by rw [e1, Bool.true_and]; exact cr_no hc)
      have Hc := hidd hc
      clear hc
      go_enter Try.func16, Try.ntmps16
      go_wp2_with (first | (go_at_call 39; refine (part_l01 _ _).mono ?_; rintro e w' ⟨rfl, rfl⟩) | (go_at_call 52; refine (in_spec _ _ _ _).mono ?_; rintro e w' ⟨rfl, rfl⟩) | (go_at_call 38; refine (loaded_spec _ l s n n1 n2 _ _ kp.out.row).mono ?_; rintro e w' ⟨rfl, rfl⟩))
      go_ret2; exact ⟨by rw [fin.out]; rfl, kp.out.below⟩
end Go.Proofs.Ytjbfnbdigaodoaa
