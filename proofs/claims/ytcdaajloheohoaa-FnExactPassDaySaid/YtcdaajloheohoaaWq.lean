/-
  What passes of the light of a sun: the answers.
-/
import Derived.Test.YtcdaajloheohoaaWp
namespace Go.Proofs.Ytcdaajloheohoaa
open Go.RowKit Go.Proofs.Fl Go.Proofs.Pl
set_option linter.unusedVariables false

theorem both_of {a b r : Bool} (h : code2 (a && b) r = 0) : a = true ∧ b = true ∧ r = true := by
  obtain ⟨h1, h2⟩ := code2_zero.1 h
  rw [Bool.and_eq_true] at h1
  exact ⟨h1.1, h1.2, h2⟩

theorem c2_false (b : Bool) : (code2 b false != 0) = true := by cases b <;> rfl
theorem passWindow_impl (n : Int) (wd g : Nat) (t : Int) (s : Nat) (n1 : -128 ≤ n) (n2 : n ≤ 127) (t1 : -32768 ≤ t) (t2 : t ≤ 32767) (L : List Int) (hL : L.length = 48) (hr : ∀ x ∈ L, -32768 ≤ x ∧ x ≤ 32767) (h f : Int) (w : World) :
    Calls Try.prog 8 #[.agg #[.int .i8 n, .float .f32 wd, .float .f32 g, .int .i16 t, .float .f32 s], .agg (sunCells L), .int .i64 h, .int .i64 f] w fun e w' => e = .returned (.tuple #[.float .f32 (codeRes (code2 (blindOk n wd g t s && sunOk L) (inR h 0 23 && inR f 0 255)) 0 (win L h.toNat f wd g t s)).1, .int .i64 (codeRes (code2 (blindOk n wd g t s && sunOk L) (inR h 0 23 && inR f 0 255)) 0 (win L h.toNat f wd g t s)).2]) ∧ Below w.heap.size w w' := by
  have kp := hidd (Keep2.start w (blindCells n wd g t s) (sunCells L) 32 34).drew
  have HL := hidd (And.intro hL hr)
  clear hL hr
  have hb := c2_false (blindOk n wd g t s && sunOk L)
  rcases bool_or (inR h 0 23) with e1 | e1
  · have fin := hidd (show codeRes (code2 (blindOk n wd g t s && sunOk L) (inR h 0 23 && inR f 0 255)) 0 (win L h.toNat f wd g t s) = (0, code2 (blindOk n wd g t s && sunOk L) false) by rw [e1]; exact cr_no (code2_false _))
    go_enter Try.func8, Try.ntmps8
    go_wp2_with fail
    refine wp_region_in (fun w' => Keep2 w w' (blindCells n wd g t s) (sunCells L)) (by kernel_rfl) (by kernel_rfl) kp.out ?_
    repeat (first | (refine wpQuiet_step (fun K hK => ?_); rw [if_pos (by rfl)]; refine quiet_load_all _ _ rfl _ rfl (blindCells n wd g t s) _ (agg_blind) (rfl) (fun w' hw' => hw'.row) ?_; go_simp; refine hK _ ?_; clear hK K) | (refine wpQuiet_step (fun K hK => ?_); rw [if_pos (by rfl)]; refine quiet_load_all _ _ rfl _ rfl (sunCells L) _ (agg_impl) (sun_size HL.out.1) (fun w' hw' => hw'.row2) ?_; go_simp; refine hK _ ?_; clear hK K) | (refine wpQuiet_step (fun K hK => ?_); go_simp; first | (refine hK _ ?_; clear hK K) | (apply Exists.intro; refine ⟨fun w' hw' => ?_, hK _ ?_⟩; (first | rfl | exact ⟨rfl, rfl⟩ | ((first | (go_at_call 18; exact (hour_impl _ _).mono fun e w'' h => ⟨h.1, h.2 ▸ hw'⟩) | (go_at_call 17; exact (windowCode_impl n wd g t s n1 n2 t1 t2 L HL.out.1 HL.out.2 _ _).mono fun e w'' h => ⟨h.1, hw'.step h.2⟩)))); clear hK K)))
    refine wpQuiet_nil ?_
    intro w1 j1
    replace kp := hidd j1
    clear j1
    go_wp2
    go_ret2; exact ⟨by rw [fin.out]; rfl, kp.out.below⟩
  · rcases bool_or (inR f 0 255) with e2 | e2
    · have fin := hidd (show codeRes (code2 (blindOk n wd g t s && sunOk L) (inR h 0 23 && inR f 0 255)) 0 (win L h.toNat f wd g t s) = (0, code2 (blindOk n wd g t s && sunOk L) false) by rw [e1, e2]; exact cr_no (code2_false _))
      go_enter Try.func8, Try.ntmps8
      go_wp2_with fail
      refine wp_region_in (fun w' => Keep2 w w' (blindCells n wd g t s) (sunCells L)) (by kernel_rfl) (by kernel_rfl) kp.out ?_
      repeat (first | (refine wpQuiet_step (fun K hK => ?_); rw [if_pos (by rfl)]; refine quiet_load_all _ _ rfl _ rfl (blindCells n wd g t s) _ (agg_blind) (rfl) (fun w' hw' => hw'.row) ?_; go_simp; refine hK _ ?_; clear hK K) | (refine wpQuiet_step (fun K hK => ?_); rw [if_pos (by rfl)]; refine quiet_load_all _ _ rfl _ rfl (sunCells L) _ (agg_impl) (sun_size HL.out.1) (fun w' hw' => hw'.row2) ?_; go_simp; refine hK _ ?_; clear hK K) | (refine wpQuiet_step (fun K hK => ?_); go_simp; first | (refine hK _ ?_; clear hK K) | (apply Exists.intro; refine ⟨fun w' hw' => ?_, hK _ ?_⟩; (first | rfl | exact ⟨rfl, rfl⟩ | ((first | (go_at_call 18; exact (hour_impl _ _).mono fun e w'' h => ⟨h.1, h.2 ▸ hw'⟩) | (go_at_call 19; exact (faced_impl _ _).mono fun e w'' h => ⟨h.1, h.2 ▸ hw'⟩) | (go_at_call 17; exact (windowCode_impl n wd g t s n1 n2 t1 t2 L HL.out.1 HL.out.2 _ _).mono fun e w'' h => ⟨h.1, hw'.step h.2⟩)))); clear hK K)))
      refine wpQuiet_nil ?_
      intro w1 j1
      replace kp := hidd j1
      clear j1
      go_wp2
      go_ret2; exact ⟨by rw [fin.out]; rfl, kp.out.below⟩
    · clear hb
      by_cases hc : code2 (blindOk n wd g t s && sunOk L) true = 0
      · have hb := bne_0 hc
        have fin := hidd (show codeRes (code2 (blindOk n wd g t s && sunOk L) (inR h 0 23 && inR f 0 255)) 0 (win L h.toNat f wd g t s) = (win L h.toNat f wd g t s, 0) by rw [e1, e2]; exact cr_ok hc)
        have Hc := hidd hc
        clear hc
        obtain ⟨ho, hz, hx⟩ := both_of Hc.out
        have H := hidd (blindOk_of ho)
        have Z := hidd hz
        clear ho hz hx
        obtain ⟨k, rfl, hk0, hk1⟩ := nat_of_in (by omega) e1
        have Hk := hidd (show k < 24 by omega)
        obtain ⟨g1, g2, g3, g4⟩ := sunOk_at Z.out Hk.out
        obtain ⟨f1, f2⟩ := inR_iff.1 e2
        go_enter Try.func8, Try.ntmps8
        go_wp2_with fail
        refine wp_region_in (fun w' => Keep2 w w' (blindCells n wd g t s) (sunCells L)) (by kernel_rfl) (by kernel_rfl) kp.out ?_
        repeat (first | (refine wpQuiet_step (fun K hK => ?_); rw [if_pos (by rfl)]; refine quiet_load_all _ _ rfl _ rfl (blindCells n wd g t s) _ (agg_blind) (rfl) (fun w' hw' => hw'.row) ?_; go_simp; refine hK _ ?_; clear hK K) | (refine wpQuiet_step (fun K hK => ?_); rw [if_pos (by rfl)]; refine quiet_load_all _ _ rfl _ rfl (sunCells L) _ (agg_impl) (sun_size HL.out.1) (fun w' hw' => hw'.row2) ?_; go_simp; refine hK _ ?_; clear hK K) | (refine wpQuiet_step (fun K hK => ?_); go_simp; first | (refine hK _ ?_; clear hK K) | (apply Exists.intro; refine ⟨fun w' hw' => ?_, hK _ ?_⟩; (first | rfl | exact ⟨rfl, rfl⟩ | ((first | (go_at_call 18; exact (hour_impl _ _).mono fun e w'' h => ⟨h.1, h.2 ▸ hw'⟩) | (go_at_call 19; exact (faced_impl _ _).mono fun e w'' h => ⟨h.1, h.2 ▸ hw'⟩) | (go_at_call 17; exact (windowCode_impl n wd g t s n1 n2 t1 t2 L HL.out.1 HL.out.2 _ _).mono fun e w'' h => ⟨h.1, hw'.step h.2⟩)))); clear hK K)))
        refine wpQuiet_nil ?_
        intro w1 j1
        replace kp := hidd j1
        clear j1
        go_wp2_with (first | (refine wpList_load_all rfl _ _ rfl _ rfl (blindCells n wd g t s) 5 agg_blind rfl kp.out.row ?_) | (go_at_call 20; refine (window_impl _ n wd g t s H.out.2.1 H.out.2.2.1 H.out.2.2.2.2 H.out.2.2.2.1.1 H.out.2.2.2.1.2 L HL.out.1 k Hk.out g1 g2 g3 g4 f f1 f2 _ kp.out.row2).mono ?_; rintro e wn ⟨rfl, hbn⟩; have kn := hidd (kp.out.step hbn); clear kp hbn; have kp := kn; clear kn))
        go_ret2; exact ⟨by rw [fin.out]; rfl, kp.out.below⟩
      · have hb := bne_1 hc
        have fin := hidd (show codeRes (code2 (blindOk n wd g t s && sunOk L) (inR h 0 23 && inR f 0 255)) 0 (win L h.toNat f wd g t s) = (0, code2 (blindOk n wd g t s && sunOk L) true) by rw [e1, e2]; exact cr_no hc)
        have Hc := hidd hc
        clear hc
        go_enter Try.func8, Try.ntmps8
        go_wp2_with fail
        refine wp_region_in (fun w' => Keep2 w w' (blindCells n wd g t s) (sunCells L)) (by kernel_rfl) (by kernel_rfl) kp.out ?_
        repeat (first | (refine wpQuiet_step (fun K hK => ?_); rw [if_pos (by rfl)]; refine quiet_load_all _ _ rfl _ rfl (blindCells n wd g t s) _ (agg_blind) (rfl) (fun w' hw' => hw'.row) ?_; go_simp; refine hK _ ?_; clear hK K) | (refine wpQuiet_step (fun K hK => ?_); rw [if_pos (by rfl)]; refine quiet_load_all _ _ rfl _ rfl (sunCells L) _ (agg_impl) (sun_size HL.out.1) (fun w' hw' => hw'.row2) ?_; go_simp; refine hK _ ?_; clear hK K) | (refine wpQuiet_step (fun K hK => ?_); go_simp; first | (refine hK _ ?_; clear hK K) | (apply Exists.intro; refine ⟨fun w' hw' => ?_, hK _ ?_⟩; (first | rfl | exact ⟨rfl, rfl⟩ | ((first | (go_at_call 18; exact (hour_impl _ _).mono fun e w'' h => ⟨h.1, h.2 ▸ hw'⟩) | (go_at_call 19; exact (faced_impl _ _).mono fun e w'' h => ⟨h.1, h.2 ▸ hw'⟩) | (go_at_call 17; exact (windowCode_impl n wd g t s n1 n2 t1 t2 L HL.out.1 HL.out.2 _ _).mono fun e w'' h => ⟨h.1, hw'.step h.2⟩)))); clear hK K)))
        refine wpQuiet_nil ?_
        intro w1 j1
        replace kp := hidd j1
        clear j1
        go_wp2
        go_ret2; exact ⟨by rw [fin.out]; rfl, kp.out.below⟩
theorem passWindow_spec (n : Int) (wd g : Nat) (t : Int) (s : Nat) (n1 : -128 ≤ n) (n2 : n ≤ 127) (t1 : -32768 ≤ t) (t2 : t ≤ 32767) (L : List Int) (hL : L.length = 48) (hr : ∀ x ∈ L, -32768 ≤ x ∧ x ≤ 32767) (h f : Int) (w : World) :
    Calls Try.prog 5 #[.agg #[.int .i8 n, .float .f32 wd, .float .f32 g, .int .i16 t, .float .f32 s], .agg (sunCells L), .int .i64 h, .int .i64 f] w fun e w' => e = .returned (.tuple #[.float .f32 (codeRes (code2 (blindOk n wd g t s && sunOk L) (inR h 0 23 && inR f 0 255)) 0 (win L h.toNat f wd g t s)).1, .int .i64 (codeRes (code2 (blindOk n wd g t s && sunOk L) (inR h 0 23 && inR f 0 255)) 0 (win L h.toNat f wd g t s)).2]) ∧ Below w.heap.size w w' := by
  have kp := hidd (Keep2.start w (blindCells n wd g t s) (sunCells L) 32 34)
  have HL := hidd (And.intro hL hr)
  clear hL hr
  have hb := c2_false (blindOk n wd g t s && sunOk L)
  rcases bool_or (inR h 0 23) with e1 | e1
  · have fin := hidd (show codeRes (code2 (blindOk n wd g t s && sunOk L) (inR h 0 23 && inR f 0 255)) 0 (win L h.toNat f wd g t s) = (0, code2 (blindOk n wd g t s && sunOk L) false) by rw [e1]; exact cr_no (code2_false _))
    go_enter Try.func5, Try.ntmps5
    go_wp2_with (first | (go_at_call 13; refine (hour_spec _ _).mono ?_; rintro e w' ⟨rfl, rfl⟩) | (go_at_call 14; refine (faced_spec _ _).mono ?_; rintro e w' ⟨rfl, rfl⟩) | (go_at_call 12; refine (with_spec _ _ n wd g t s n1 n2 t1 t2 L HL.out.1 HL.out.2 _ _ kp.out.row kp.out.row2).mono ?_; rintro e w' ⟨rfl, rfl⟩))
    go_ret2; exact ⟨by rw [fin.out]; rfl, kp.out.below⟩
  · rcases bool_or (inR f 0 255) with e2 | e2
    · have fin := hidd (show codeRes (code2 (blindOk n wd g t s && sunOk L) (inR h 0 23 && inR f 0 255)) 0 (win L h.toNat f wd g t s) = (0, code2 (blindOk n wd g t s && sunOk L) false) by rw [e1, e2]; exact cr_no (code2_false _))
      go_enter Try.func5, Try.ntmps5
      go_wp2_with (first | (go_at_call 13; refine (hour_spec _ _).mono ?_; rintro e w' ⟨rfl, rfl⟩) | (go_at_call 14; refine (faced_spec _ _).mono ?_; rintro e w' ⟨rfl, rfl⟩) | (go_at_call 12; refine (with_spec _ _ n wd g t s n1 n2 t1 t2 L HL.out.1 HL.out.2 _ _ kp.out.row kp.out.row2).mono ?_; rintro e w' ⟨rfl, rfl⟩))
      go_ret2; exact ⟨by rw [fin.out]; rfl, kp.out.below⟩
    · clear hb
      by_cases hc : code2 (blindOk n wd g t s && sunOk L) true = 0
      · have hb := bne_0 hc
        have fin := hidd (show codeRes (code2 (blindOk n wd g t s && sunOk L) (inR h 0 23 && inR f 0 255)) 0 (win L h.toNat f wd g t s) = (win L h.toNat f wd g t s, 0) by rw [e1, e2]; exact cr_ok hc)
        have Hc := hidd hc
        clear hc
        obtain ⟨ho, hz, hx⟩ := both_of Hc.out
        have H := hidd (blindOk_of ho)
        have Z := hidd hz
        clear ho hz hx
        obtain ⟨k, rfl, hk0, hk1⟩ := nat_of_in (by omega) e1
        have Hk := hidd (show k < 24 by omega)
        obtain ⟨g1, g2, g3, g4⟩ := sunOk_at Z.out Hk.out
        obtain ⟨f1, f2⟩ := inR_iff.1 e2
        go_enter Try.func5, Try.ntmps5
        go_wp2_with (first | (go_at_call 13; refine (hour_spec _ _).mono ?_; rintro e w' ⟨rfl, rfl⟩) | (go_at_call 14; refine (faced_spec _ _).mono ?_; rintro e w' ⟨rfl, rfl⟩) | (go_at_call 12; refine (with_spec _ _ n wd g t s n1 n2 t1 t2 L HL.out.1 HL.out.2 _ _ kp.out.row kp.out.row2).mono ?_; rintro e w' ⟨rfl, rfl⟩) | (go_at_call 15; refine (window_spec _ _ n wd g t s H.out.2.1 H.out.2.2.1 H.out.2.2.2.2 H.out.2.2.2.1.1 H.out.2.2.2.1.2 L HL.out.1 k Hk.out g1 g2 g3 g4 f f1 f2 _ kp.out.row kp.out.row2).mono ?_; rintro e wn ⟨rfl, hbn⟩; have kn := hidd (kp.out.step hbn); clear kp hbn; have kp := kn; clear kn))
        go_ret2; exact ⟨by rw [fin.out]; rfl, kp.out.below⟩
      · have hb := bne_1 hc
        have fin := hidd (show codeRes (code2 (blindOk n wd g t s && sunOk L) (inR h 0 23 && inR f 0 255)) 0 (win L h.toNat f wd g t s) = (0, code2 (blindOk n wd g t s && sunOk L) true) by rw [e1, e2]; exact cr_no hc)
        have Hc := hidd hc
        clear hc
        go_enter Try.func5, Try.ntmps5
        go_wp2_with (first | (go_at_call 13; refine (hour_spec _ _).mono ?_; rintro e w' ⟨rfl, rfl⟩) | (go_at_call 14; refine (faced_spec _ _).mono ?_; rintro e w' ⟨rfl, rfl⟩) | (go_at_call 12; refine (with_spec _ _ n wd g t s n1 n2 t1 t2 L HL.out.1 HL.out.2 _ _ kp.out.row kp.out.row2).mono ?_; rintro e w' ⟨rfl, rfl⟩))
        go_ret2; exact ⟨by rw [fin.out]; rfl, kp.out.below⟩
theorem passDay1 (n : Int) (wd g : Nat) (t : Int) (s : Nat) (hw : isLen wd = true) (hg : isLen g = true) (hq : isPart s = true) (t1 : -64 ≤ t) (t2 : t ≤ 64) (L : List Int) (hL : L.length = 48) (k : Nat) (hk : k < 24) (h1 : -64 ≤ hgt L k) (h2 : hgt L k ≤ 64) (h3 : 0 ≤ trn L k) (h4 : trn L k ≤ 255) (f : Int) (f1 : 0 ≤ f) (f2 : f ≤ 255) (w0 w : World) (kp0 : Keep3 w0 w (blindCells n wd g t s) (sunCells L) #[.int .i64 f]) :
    Calls Try.prog 22 #[.int .i64 k, .pointer (some ⟨w0.heap.size, 0, none⟩), .pointer (some ⟨w0.heap.size + 1, 0, none⟩), .pointer (some ⟨w0.heap.size + 1 + 1, 0, none⟩)] w fun e w' => e = .returned (.float .f32 (win L k f wd g t s)) ∧ Below w.heap.size w w' := by
  have c2 : w.cell? ⟨w0.heap.size + 1 + 1, 0, none⟩ = some (.int .i64 f) := by rw [kp0.row3.cell]; rfl
  have Hb := hidd kp0.row
  have Hz := hidd kp0.row2
  have H := hidd (And.intro hw (And.intro hg (And.intro hq hL)))
  clear kp0 hw hg hq hL
  go_enter Try.func22, Try.ntmps22
  go_wp2_with (first | (refine wpList_load_all rfl _ _ rfl _ rfl (blindCells n wd g t s) 5 agg_blind rfl Hb.out ?_) | (go_at_call 20; refine (window_impl _ n wd g t s H.out.1 H.out.2.1 H.out.2.2.1 t1 t2 L H.out.2.2.2 k hk h1 h2 h3 h4 f f1 f2 _ Hz.out).mono ?_; rintro e w3 ⟨rfl, hb3⟩))
  go_ret; exact ⟨rfl, hb3⟩
theorem day_pass (n : Int) (wd g : Nat) (t : Int) (s : Nat) (hw : isLen wd = true) (hg : isLen g = true) (hq : isPart s = true) (t1 : -64 ≤ t) (t2 : t ≤ 64) (L : List Int) (hL : L.length = 48) (hok : Hid (sunOk L = true)) (f : Int) (f1 : 0 ≤ f) (f2 : f ≤ 255) (w0 w : World) (kp0 : Keep3 w0 w (blindCells n wd g t s) (sunCells L) #[.int .i64 f]) :
    Calls Try.prog 21 #[.func (.func 22) #[] #[.pointer (some ⟨w0.heap.size, 0, none⟩), .pointer (some ⟨w0.heap.size + 1, 0, none⟩), .pointer (some ⟨w0.heap.size + 1 + 1, 0, none⟩)]] w fun e w' => e = .returned (.float .f32 (sum24 (fun k => win L k f wd g t s))) ∧ Keep3 w0 w' (blindCells n wd g t s) (sunCells L) #[.int .i64 f] := by
  have kp := hidd kp0
  have G := hidd (And.intro hw (And.intro hg hq))
  have HL := hidd hL
  clear kp0 hw hg hq hL
  have fins : Hid (∀ k, k < 24 → Fnt ((fun k => win L k f wd g t s) k) ∧ rung ((fun k => win L k f wd g t s) k) ≤ 1073741824) := fun k hk => win_fin G.out.1 G.out.2.1 G.out.2.2 (sunOk_at hok.out hk).2.1
  have z : Fnt 0 := by decide
  go_enter Try.func21, Try.ntmps21
  go_wp2_with fail
  go_loopw [3, 5] (fun su i wr => ∃ k : Nat, k ≤ 24 ∧ i = .int .i64 k ∧ su = .float .f32 (sumTo (fun k => win L k f wd g t s) k) ∧ Keep3 w0 wr (blindCells n wd g t s) (sunCells L) #[.int .i64 f]) (fun _ i _ => 24 - (intOf i).toNat)
  case atStart => exact ⟨0, by omega, rfl, rfl, kp.out⟩
  case round =>
    obtain ⟨k, hk, rfl, rfl, kr⟩ := hrel
    have kq := hidd kr
    clear kr
    by_cases hlt : k < 24
    · have s1 := sum_fin2 fins.out (k := k) (by omega)
      have s2 := (fins.out k hlt).1
      obtain ⟨g1, g2, g3, g4⟩ := sunOk_at hok.out hlt
      go_wp2_with (go_at_call 22; refine (passDay1 n wd g t s G.out.1 G.out.2.1 G.out.2.2 t1 t2 L HL.out k hlt g1 g2 g3 g4 f f1 f2 w0 _ kq.out).mono ?_; rintro e wn ⟨rfl, hbn⟩; have kz := hidd (kq.out.step hbn); clear hbn)
      go_roundw
      case rel => exact ⟨k + 1, by omega, by go_num, rfl, kz.out⟩
      case measure => simp [intOf]; omega
    · obtain rfl : k = 24 := by omega
      rw [sum24_eq]
      go_wp2
      go_ret; exact ⟨rfl, kq.out⟩
theorem passDay_impl (n : Int) (wd g : Nat) (t : Int) (s : Nat) (n1 : -128 ≤ n) (n2 : n ≤ 127) (t1 : -32768 ≤ t) (t2 : t ≤ 32767) (L : List Int) (hL : L.length = 48) (hr : ∀ x ∈ L, -32768 ≤ x ∧ x ≤ 32767) (f : Int) (w : World) :
    Calls Try.prog 11 #[.agg #[.int .i8 n, .float .f32 wd, .float .f32 g, .int .i16 t, .float .f32 s], .agg (sunCells L), .int .i64 f] w fun e w' => e = .returned (.tuple #[.float .f32 (codeRes (code2 (blindOk n wd g t s && sunOk L) (inR f 0 255)) 0 (dayPass L f wd g t s)).1, .int .i64 (codeRes (code2 (blindOk n wd g t s && sunOk L) (inR f 0 255)) 0 (dayPass L f wd g t s)).2]) ∧ Below w.heap.size w w' := by
  have kp := hidd (Keep3.start w (blindCells n wd g t s) (sunCells L) #[.int .i64 f] 32 34 2).drew
  have HL := hidd (And.intro hL hr)
  clear hL hr
  by_cases hc : code2 (blindOk n wd g t s && sunOk L) (inR f 0 255) = 0
  · have hb := bne_0 hc
    have fin := hidd (cr_ok (zr := 0) (val := dayPass L f wd g t s) hc)
    obtain ⟨f1, f2⟩ := inR_iff.1 (both_of hc).2.2
    have Hc := hidd hc
    clear hc
    obtain ⟨ho, hz, hx⟩ := both_of Hc.out
    have H := hidd (blindOk_of ho)
    have Z := hidd hz
    clear ho hz hx
    go_enter Try.func11, Try.ntmps11
    go_wp2_with fail
    refine wp_region_in (fun w' => Keep3 w w' (blindCells n wd g t s) (sunCells L) #[.int .i64 f]) (by kernel_rfl) (by kernel_rfl) kp.out ?_
    repeat (first | (refine wpQuiet_step (fun K hK => ?_); rw [if_pos (by rfl)]; refine quiet_load_all _ _ rfl _ rfl (blindCells n wd g t s) _ (agg_blind) (rfl) (fun w' hw' => hw'.row) ?_; go_simp; refine hK _ ?_; clear hK K) | (refine wpQuiet_step (fun K hK => ?_); rw [if_pos (by rfl)]; refine quiet_load_all _ _ rfl _ rfl (sunCells L) _ (agg_impl) (sun_size HL.out.1) (fun w' hw' => hw'.row2) ?_; go_simp; refine hK _ ?_; clear hK K) | (refine wpQuiet_step (fun K hK => ?_); rw [if_pos (by rfl)]; refine quiet_load_cell _ _ rfl _ rfl (.int .i64 f) (one64) (fun w' hw' => (by rw [hw'.row3.cell]; rfl)) ?_; go_simp; refine hK _ ?_; clear hK K) | (refine wpQuiet_step (fun K hK => ?_); go_simp; first | (refine hK _ ?_; clear hK K) | (apply Exists.intro; refine ⟨fun w' hw' => ?_, hK _ ?_⟩; (first | rfl | exact ⟨rfl, rfl⟩ | ((first | (go_at_call 19; exact (faced_impl _ _).mono fun e w'' h => ⟨h.1, h.2 ▸ hw'⟩) | (go_at_call 17; exact (windowCode_impl n wd g t s n1 n2 t1 t2 L HL.out.1 HL.out.2 _ _).mono fun e w'' h => ⟨h.1, hw'.step h.2⟩)))); clear hK K)))
    refine wpQuiet_nil ?_
    intro w1 j1
    replace kp := hidd j1
    clear j1
    go_wp2_with (go_at_call 21; refine (day_pass n wd g t s H.out.2.1 H.out.2.2.1 H.out.2.2.2.2 H.out.2.2.2.1.1 H.out.2.2.2.1.2 L HL.out.1 Z f f1 f2 w _ kp.out).mono ?_; rintro e w3 ⟨rfl, hb3⟩; replace kp := hidd hb3; clear hb3)
    go_ret2; exact ⟨by rw [fin.out]; rfl, kp.out.below⟩
  · have hb := bne_1 hc
    have fin := hidd (cr_no (zr := 0) (val := dayPass L f wd g t s) hc)
    have Hc := hidd hc
    clear hc
    go_enter Try.func11, Try.ntmps11
    go_wp2_with fail
    refine wp_region_in (fun w' => Keep3 w w' (blindCells n wd g t s) (sunCells L) #[.int .i64 f]) (by kernel_rfl) (by kernel_rfl) kp.out ?_
    repeat (first | (refine wpQuiet_step (fun K hK => ?_); rw [if_pos (by rfl)]; refine quiet_load_all _ _ rfl _ rfl (blindCells n wd g t s) _ (agg_blind) (rfl) (fun w' hw' => hw'.row) ?_; go_simp; refine hK _ ?_; clear hK K) | (refine wpQuiet_step (fun K hK => ?_); rw [if_pos (by rfl)]; refine quiet_load_all _ _ rfl _ rfl (sunCells L) _ (agg_impl) (sun_size HL.out.1) (fun w' hw' => hw'.row2) ?_; go_simp; refine hK _ ?_; clear hK K) | (refine wpQuiet_step (fun K hK => ?_); rw [if_pos (by rfl)]; refine quiet_load_cell _ _ rfl _ rfl (.int .i64 f) (one64) (fun w' hw' => (by rw [hw'.row3.cell]; rfl)) ?_; go_simp; refine hK _ ?_; clear hK K) | (refine wpQuiet_step (fun K hK => ?_); go_simp; first | (refine hK _ ?_; clear hK K) | (apply Exists.intro; refine ⟨fun w' hw' => ?_, hK _ ?_⟩; (first | rfl | exact ⟨rfl, rfl⟩ | ((first | (go_at_call 19; exact (faced_impl _ _).mono fun e w'' h => ⟨h.1, h.2 ▸ hw'⟩) | (go_at_call 17; exact (windowCode_impl n wd g t s n1 n2 t1 t2 L HL.out.1 HL.out.2 _ _).mono fun e w'' h => ⟨h.1, hw'.step h.2⟩)))); clear hK K)))
    refine wpQuiet_nil ?_
    intro w1 j1
    replace kp := hidd j1
    clear j1
    go_wp2
    go_ret2; exact ⟨by rw [fin.out]; rfl, kp.out.below⟩
theorem passDay_spec (n : Int) (wd g : Nat) (t : Int) (s : Nat) (n1 : -128 ≤ n) (n2 : n ≤ 127) (t1 : -32768 ≤ t) (t2 : t ≤ 32767) (L : List Int) (hL : L.length = 48) (hr : ∀ x ∈ L, -32768 ≤ x ∧ x ≤ 32767) (f : Int) (w : World) :
    Calls Try.prog 10 #[.agg #[.int .i8 n, .float .f32 wd, .float .f32 g, .int .i16 t, .float .f32 s], .agg (sunCells L), .int .i64 f] w fun e w' => e = .returned (.tuple #[.float .f32 (codeRes (code2 (blindOk n wd g t s && sunOk L) (inR f 0 255)) 0 (dayPass L f wd g t s)).1, .int .i64 (codeRes (code2 (blindOk n wd g t s && sunOk L) (inR f 0 255)) 0 (dayPass L f wd g t s)).2]) ∧ Below w.heap.size w w' := by
  have kp := hidd (Keep2.start w (blindCells n wd g t s) (sunCells L) 32 34)
  have HL := hidd (And.intro hL hr)
  clear hL hr
  by_cases hc : code2 (blindOk n wd g t s && sunOk L) (inR f 0 255) = 0
  · have hb := bne_0 hc
    have fin := hidd (show codeRes (code2 (blindOk n wd g t s && sunOk L) (inR f 0 255)) 0 (dayPass L f wd g t s) = (sum24 (fun k => win L k f wd g t s), 0) from cr_ok (zr := 0) (val := dayPass L f wd g t s) hc)
    obtain ⟨f1, f2⟩ := inR_iff.1 (both_of hc).2.2
    have Hc := hidd hc
    clear hc
    obtain ⟨ho, hz, hx⟩ := both_of Hc.out
    have H := hidd (blindOk_of ho)
    have Z := hidd hz
    clear ho hz hx
    have G := hidd (And.intro H.out.2.1 (And.intro H.out.2.2.1 H.out.2.2.2.2))
    have hok := Z
    have fins : Hid (∀ k, k < 24 → Fnt ((fun k => win L k f wd g t s) k) ∧ rung ((fun k => win L k f wd g t s) k) ≤ 1073741824) := fun k hk => win_fin G.out.1 G.out.2.1 G.out.2.2 (sunOk_at hok.out hk).2.1
    have z : Fnt 0 := by decide
    go_enter Try.func10, Try.ntmps10
    go_wp2_with (first | (go_at_call 13; refine (hour_spec _ _).mono ?_; rintro e w' ⟨rfl, rfl⟩) | (go_at_call 14; refine (faced_spec _ _).mono ?_; rintro e w' ⟨rfl, rfl⟩) | (go_at_call 12; refine (with_spec _ _ n wd g t s n1 n2 t1 t2 L HL.out.1 HL.out.2 _ _ kp.out.row kp.out.row2).mono ?_; rintro e w' ⟨rfl, rfl⟩))
    go_loopw [9, 10] (fun su i wr => ∃ k : Nat, k ≤ 24 ∧ i = .int .i64 k ∧ su = .float .f32 (sumTo (fun k => win L k f wd g t s) k) ∧ Keep2 w wr (blindCells n wd g t s) (sunCells L)) (fun _ i _ => 24 - (intOf i).toNat)
    case atStart => exact ⟨0, by omega, rfl, rfl, kp.out⟩
    case round =>
      obtain ⟨k, hk, rfl, rfl, kr⟩ := hrel
      have kq := hidd kr
      clear kr
      by_cases hlt : k < 24
      · have s1 := sum_fin2 fins.out (k := k) (by omega)
        have s2 := (fins.out k hlt).1
        obtain ⟨g1, g2, g3, g4⟩ := sunOk_at hok.out hlt
        go_wp2_with (go_at_call 15; refine (window_spec _ _ n wd g t s H.out.2.1 H.out.2.2.1 H.out.2.2.2.2 H.out.2.2.2.1.1 H.out.2.2.2.1.2 L HL.out.1 k hlt g1 g2 g3 g4 f f1 f2 _ kq.out.row kq.out.row2).mono ?_; rintro e wn ⟨rfl, hbn⟩; have kz := hidd (kq.out.step hbn); clear hbn)
        go_roundw
        case rel => exact ⟨k + 1, by omega, by go_num, rfl, kz.out⟩
        case measure => simp [intOf]; omega
      · obtain rfl : k = 24 := by omega
        rw [sum24_eq]
        go_wp2
        go_ret2; exact ⟨by rw [fin.out]; rfl, kq.out.below⟩
  · have hb := bne_1 hc
    have fin := hidd (cr_no (zr := 0) (val := dayPass L f wd g t s) hc)
    have Hc := hidd hc
    clear hc
    go_enter Try.func10, Try.ntmps10
    go_wp2_with (first | (go_at_call 13; refine (hour_spec _ _).mono ?_; rintro e w' ⟨rfl, rfl⟩) | (go_at_call 14; refine (faced_spec _ _).mono ?_; rintro e w' ⟨rfl, rfl⟩) | (go_at_call 12; refine (with_spec _ _ n wd g t s n1 n2 t1 t2 L HL.out.1 HL.out.2 _ _ kp.out.row kp.out.row2).mono ?_; rintro e w' ⟨rfl, rfl⟩))
    go_ret2; exact ⟨by rw [fin.out]; rfl, kp.out.below⟩
end Go.Proofs.Ytcdaajloheohoaa
