/-
  Blinds: the answers.
-/
import Derived.Test.YtddkiemipedgcaaGreatDoorWbb
import Derived.Laws.ResultCell
namespace Go.Proofs.YtddkiemipedgcaaGreatDoor
open Go.RowKit Go.Proofs.Fl Go.Proofs.Pl
set_option linter.unusedVariables false
set_option maxRecDepth 100000

def high (n : Int) (g : Nat) : Nat := fmul (floatOfInt .f32 n) g
theorem high_steps {n : Int} {g : Nat} (h1 : 1 ≤ n) (h2 : n ≤ 60) (hg : isLen g = true) : Fnt (floatOfInt .f32 n) ∧ Fnt g ∧ Fnt (high n g) := by
  obtain ⟨g1, _, _, g4⟩ := len_of hg
  have a := whole_fin (show 0 ≤ n by omega) (show n ≤ 100 by omega)
  have c := fmul_le' a.2 g4 (by decide) (by decide) (c := 1179123712) (by decide) (by decide +kernel)
  exact ⟨a.1, g1, fin_of_le c (by decide)⟩
/-- Two results, of which the first lies in a row. -/
theorem results_row2 {P : Program} {fn : Func} {p u : Tmp} {ty : TypeId} (h : fn.results = #[.cell p ty, .tmp u]) {n : Nat} (ht : IsAgg P ty n) (tmps : Array Value) (w : World) (b : Nat) (cs : Array Value) (hn : cs.size = n) (y : Value)
    (hp : tmps.getD p undef = .pointer (some ⟨b, 0, none⟩)) (hu : tmps.getD u undef = y) (hr : Row w b cs) : (results fn tmps).run P w = .ok (.tuple #[.agg cs, y]) w := by
  have h1 := run_loadVar_at (P := P) (w := w) b 0 n ty cs ht hr (by omega)
  have : cs.extract 0 (0 + n) = cs := by rw [Nat.zero_add, ← hn]; simp
  rw [this] at h1
  rw [results_cell_tmp h, hp, hu]
  simp [asAddr, Result.andThen, h1]


theorem blockedBy_impl (n : Int) (wd g : Nat) (t : Int) (s : Nat) (n1 : -128 ≤ n) (n2 : n ≤ 127) (t1 : -32768 ≤ t) (t2 : t ≤ 32767) (h : Int) (w : World) :
    Calls Tryz.prog 35 #[.agg #[.int .i8 n, .float .f32 wd, .float .f32 g, .int .i16 t, .float .f32 s], .int .i64 h] w fun e w' => e = .returned (.tuple #[.float .f32 (codeRes (code2 (blindOk n wd g t s) (inR h 1 64)) 0 (blk wd g t h)).1, .int .i64 (codeRes (code2 (blindOk n wd g t s) (inR h 1 64)) 0 (blk wd g t h)).2]) ∧ Below w.heap.size w w' := by
  have kp := hidd (Keep1.start w (blindCells n wd g t s) 56).drew
  by_cases hc : code2 (blindOk n wd g t s) (inR h 1 64) = 0
  · have hb := bne_0 hc
    have fin := hidd (cr_ok (zr := 0) (val := blk wd g t h) hc)
    have Hc := hidd hc
    clear hc
    obtain ⟨ho, hp⟩ := code2_zero.1 Hc.out
    obtain ⟨h1, h2⟩ := inR_iff.1 hp
    have H := hidd (blindOk_of ho)
    clear ho hp
    go_enter Tryz.func35, Tryz.ntmps35
    go_wp2_with fail
    refine wp_region_in (fun w' => Keep1 w w' (blindCells n wd g t s)) (by kernel_rfl) (by kernel_rfl) kp.out ?_
    repeat (first | (refine wpQuiet_step (fun K hK => ?_); rw [if_pos (by rfl)]; refine quiet_load_all _ _ rfl _ rfl (blindCells n wd g t s) _ (agg_blind) (rfl) (fun w' hw' => hw'.row) ?_; go_simp; refine hK _ ?_; clear hK K) | (refine wpQuiet_step (fun K hK => ?_); go_simp; first | (refine hK _ ?_; clear hK K) | (apply Exists.intro; refine ⟨fun w' hw' => ?_, hK _ ?_⟩; (first | rfl | exact ⟨rfl, rfl⟩ | ((first | (go_at_call 86; exact (up_impl _ _).mono fun e w'' h => ⟨h.1, h.2 ▸ hw'⟩) | (go_at_call 85; exact (code_blind n wd g t s n1 n2 t1 t2 _ _).mono fun e w'' h => ⟨h.1, hw'.step h.2⟩)))); clear hK K)))
    refine wpQuiet_nil ?_
    intro w1 j1
    have j2 := hidd j1
    clear j1
    have kp := j2
    go_wp2_with (first | (refine wpList_load_all rfl _ _ rfl _ rfl (blindCells n wd g t s) 5 agg_blind rfl kp.out.row ?_) | (go_at_call 87; refine (blocked_impl n wd g t s H.out.2.1 H.out.2.2.1 H.out.2.2.2.1.1 H.out.2.2.2.1.2 h h1 h2 _).mono ?_; rintro e wn ⟨rfl, hbn⟩; have kn := hidd (kp.out.step hbn); clear kp hbn; have kp := kn; clear kn))
    go_ret2; exact ⟨by rw [fin.out]; rfl, kp.out.below⟩
  · have hb := bne_1 hc
    have fin := hidd (cr_no (zr := 0) (val := blk wd g t h) hc)
    have Hc := hidd hc
    clear hc
    go_enter Tryz.func35, Tryz.ntmps35
    go_wp2_with fail
    refine wp_region_in (fun w' => Keep1 w w' (blindCells n wd g t s)) (by kernel_rfl) (by kernel_rfl) kp.out ?_
    repeat (first | (refine wpQuiet_step (fun K hK => ?_); rw [if_pos (by rfl)]; refine quiet_load_all _ _ rfl _ rfl (blindCells n wd g t s) _ (agg_blind) (rfl) (fun w' hw' => hw'.row) ?_; go_simp; refine hK _ ?_; clear hK K) | (refine wpQuiet_step (fun K hK => ?_); go_simp; first | (refine hK _ ?_; clear hK K) | (apply Exists.intro; refine ⟨fun w' hw' => ?_, hK _ ?_⟩; (first | rfl | exact ⟨rfl, rfl⟩ | ((first | (go_at_call 86; exact (up_impl _ _).mono fun e w'' h => ⟨h.1, h.2 ▸ hw'⟩) | (go_at_call 85; exact (code_blind n wd g t s n1 n2 t1 t2 _ _).mono fun e w'' h => ⟨h.1, hw'.step h.2⟩)))); clear hK K)))
    refine wpQuiet_nil ?_
    intro w1 j1
    have j2 := hidd j1
    clear j1
    have kp := j2
    go_wp2
    go_ret2; exact ⟨by rw [fin.out]; rfl, kp.out.below⟩
theorem blockedBy_spec (n : Int) (wd g : Nat) (t : Int) (s : Nat) (n1 : -128 ≤ n) (n2 : n ≤ 127) (t1 : -32768 ≤ t) (t2 : t ≤ 32767) (h : Int) (w : World) :
    Calls Tryz.prog 36 #[.agg #[.int .i8 n, .float .f32 wd, .float .f32 g, .int .i16 t, .float .f32 s], .int .i64 h] w fun e w' => e = .returned (.tuple #[.float .f32 (codeRes (code2 (blindOk n wd g t s) (inR h 1 64)) 0 (blk wd g t h)).1, .int .i64 (codeRes (code2 (blindOk n wd g t s) (inR h 1 64)) 0 (blk wd g t h)).2]) ∧ Below w.heap.size w w' := by
  have kp := hidd (Keep1.start w (blindCells n wd g t s) 56)
  by_cases hc : code2 (blindOk n wd g t s) (inR h 1 64) = 0
  · have hb := bne_0 hc
    have fin := hidd (cr_ok (zr := 0) (val := blk wd g t h) hc)
    have Hc := hidd hc
    clear hc
    obtain ⟨ho, hp⟩ := code2_zero.1 Hc.out
    obtain ⟨h1, h2⟩ := inR_iff.1 hp
    have H := hidd (blindOk_of ho)
    clear ho hp
    go_enter Tryz.func36, Tryz.ntmps36
    go_wp2_with (first | (go_at_call 89; refine (up_spec _ _).mono ?_; rintro e w' ⟨rfl, rfl⟩) | (go_at_call 88; refine (asked_blind _ n wd g t s n1 n2 t1 t2 _ _ kp.out.row).mono ?_; rintro e w' ⟨rfl, rfl⟩) | (go_at_call 90; refine (blocked_spec _ n wd g t s H.out.2.1 H.out.2.2.1 H.out.2.2.2.1.1 H.out.2.2.2.1.2 h h1 h2 _ kp.out.row).mono ?_; rintro e wn ⟨rfl, hbn⟩; have kn := hidd (kp.out.step hbn); clear kp hbn; have kp := kn; clear kn))
    go_ret2; exact ⟨by rw [fin.out]; rfl, kp.out.below⟩
  · have hb := bne_1 hc
    have fin := hidd (cr_no (zr := 0) (val := blk wd g t h) hc)
    have Hc := hidd hc
    clear hc
    go_enter Tryz.func36, Tryz.ntmps36
    go_wp2_with (first | (go_at_call 89; refine (up_spec _ _).mono ?_; rintro e w' ⟨rfl, rfl⟩) | (go_at_call 88; refine (asked_blind _ n wd g t s n1 n2 t1 t2 _ _ kp.out.row).mono ?_; rintro e w' ⟨rfl, rfl⟩))
    go_ret2; exact ⟨by rw [fin.out]; rfl, kp.out.below⟩
theorem openFor_impl (n : Int) (wd g : Nat) (t : Int) (s : Nat) (n1 : -128 ≤ n) (n2 : n ≤ 127) (t1 : -32768 ≤ t) (t2 : t ≤ 32767) (h : Int) (w : World) :
    Calls Tryz.prog 37 #[.agg #[.int .i8 n, .float .f32 wd, .float .f32 g, .int .i16 t, .float .f32 s], .int .i64 h] w fun e w' => e = .returned (.tuple #[.float .f32 (codeRes (code2 (blindOk n wd g t s) (inR h 1 64)) 0 (opn wd g t h)).1, .int .i64 (codeRes (code2 (blindOk n wd g t s) (inR h 1 64)) 0 (opn wd g t h)).2]) ∧ Below w.heap.size w w' := by
  have kp := hidd (Keep1.start w (blindCells n wd g t s) 56).drew
  by_cases hc : code2 (blindOk n wd g t s) (inR h 1 64) = 0
  · have hb := bne_0 hc
    have fin := hidd (cr_ok (zr := 0) (val := opn wd g t h) hc)
    have Hc := hidd hc
    clear hc
    obtain ⟨ho, hp⟩ := code2_zero.1 Hc.out
    obtain ⟨h1, h2⟩ := inR_iff.1 hp
    have H := hidd (blindOk_of ho)
    clear ho hp
    go_enter Tryz.func37, Tryz.ntmps37
    go_wp2_with fail
    refine wp_region_in (fun w' => Keep1 w w' (blindCells n wd g t s)) (by kernel_rfl) (by kernel_rfl) kp.out ?_
    repeat (first | (refine wpQuiet_step (fun K hK => ?_); rw [if_pos (by rfl)]; refine quiet_load_all _ _ rfl _ rfl (blindCells n wd g t s) _ (agg_blind) (rfl) (fun w' hw' => hw'.row) ?_; go_simp; refine hK _ ?_; clear hK K) | (refine wpQuiet_step (fun K hK => ?_); go_simp; first | (refine hK _ ?_; clear hK K) | (apply Exists.intro; refine ⟨fun w' hw' => ?_, hK _ ?_⟩; (first | rfl | exact ⟨rfl, rfl⟩ | ((first | (go_at_call 86; exact (up_impl _ _).mono fun e w'' h => ⟨h.1, h.2 ▸ hw'⟩) | (go_at_call 85; exact (code_blind n wd g t s n1 n2 t1 t2 _ _).mono fun e w'' h => ⟨h.1, hw'.step h.2⟩)))); clear hK K)))
    refine wpQuiet_nil ?_
    intro w1 j1
    have j2 := hidd j1
    clear j1
    have kp := j2
    go_wp2_with (first | (refine wpList_load_all rfl _ _ rfl _ rfl (blindCells n wd g t s) 5 agg_blind rfl kp.out.row ?_) | (go_at_call 91; refine (open_impl n wd g t s H.out.2.1 H.out.2.2.1 H.out.2.2.2.1.1 H.out.2.2.2.1.2 h h1 h2 _).mono ?_; rintro e wn ⟨rfl, hbn⟩; have kn := hidd (kp.out.step hbn); clear kp hbn; have kp := kn; clear kn))
    go_ret2; exact ⟨by rw [fin.out]; rfl, kp.out.below⟩
  · have hb := bne_1 hc
    have fin := hidd (cr_no (zr := 0) (val := opn wd g t h) hc)
    have Hc := hidd hc
    clear hc
    go_enter Tryz.func37, Tryz.ntmps37
    go_wp2_with fail
    refine wp_region_in (fun w' => Keep1 w w' (blindCells n wd g t s)) (by kernel_rfl) (by kernel_rfl) kp.out ?_
    repeat (first | (refine wpQuiet_step (fun K hK => ?_); rw [if_pos (by rfl)]; refine quiet_load_all _ _ rfl _ rfl (blindCells n wd g t s) _ (agg_blind) (rfl) (fun w' hw' => hw'.row) ?_; go_simp; refine hK _ ?_; clear hK K) | (refine wpQuiet_step (fun K hK => ?_); go_simp; first | (refine hK _ ?_; clear hK K) | (apply Exists.intro; refine ⟨fun w' hw' => ?_, hK _ ?_⟩; (first | rfl | exact ⟨rfl, rfl⟩ | ((first | (go_at_call 86; exact (up_impl _ _).mono fun e w'' h => ⟨h.1, h.2 ▸ hw'⟩) | (go_at_call 85; exact (code_blind n wd g t s n1 n2 t1 t2 _ _).mono fun e w'' h => ⟨h.1, hw'.step h.2⟩)))); clear hK K)))
    refine wpQuiet_nil ?_
    intro w1 j1
    have j2 := hidd j1
    clear j1
    have kp := j2
    go_wp2
    go_ret2; exact ⟨by rw [fin.out]; rfl, kp.out.below⟩
theorem openFor_spec (n : Int) (wd g : Nat) (t : Int) (s : Nat) (n1 : -128 ≤ n) (n2 : n ≤ 127) (t1 : -32768 ≤ t) (t2 : t ≤ 32767) (h : Int) (w : World) :
    Calls Tryz.prog 38 #[.agg #[.int .i8 n, .float .f32 wd, .float .f32 g, .int .i16 t, .float .f32 s], .int .i64 h] w fun e w' => e = .returned (.tuple #[.float .f32 (codeRes (code2 (blindOk n wd g t s) (inR h 1 64)) 0 (opn wd g t h)).1, .int .i64 (codeRes (code2 (blindOk n wd g t s) (inR h 1 64)) 0 (opn wd g t h)).2]) ∧ Below w.heap.size w w' := by
  have kp := hidd (Keep1.start w (blindCells n wd g t s) 56)
  by_cases hc : code2 (blindOk n wd g t s) (inR h 1 64) = 0
  · have hb := bne_0 hc
    have fin := hidd (cr_ok (zr := 0) (val := opn wd g t h) hc)
    have Hc := hidd hc
    clear hc
    obtain ⟨ho, hp⟩ := code2_zero.1 Hc.out
    obtain ⟨h1, h2⟩ := inR_iff.1 hp
    have H := hidd (blindOk_of ho)
    clear ho hp
    go_enter Tryz.func38, Tryz.ntmps38
    go_wp2_with (first | (go_at_call 89; refine (up_spec _ _).mono ?_; rintro e w' ⟨rfl, rfl⟩) | (go_at_call 88; refine (asked_blind _ n wd g t s n1 n2 t1 t2 _ _ kp.out.row).mono ?_; rintro e w' ⟨rfl, rfl⟩) | (go_at_call 92; refine (open_spec _ n wd g t s H.out.2.1 H.out.2.2.1 H.out.2.2.2.1.1 H.out.2.2.2.1.2 h h1 h2 _ kp.out.row).mono ?_; rintro e wn ⟨rfl, hbn⟩; have kn := hidd (kp.out.step hbn); clear kp hbn; have kp := kn; clear kn))
    go_ret2; exact ⟨by rw [fin.out]; rfl, kp.out.below⟩
  · have hb := bne_1 hc
    have fin := hidd (cr_no (zr := 0) (val := opn wd g t h) hc)
    have Hc := hidd hc
    clear hc
    go_enter Tryz.func38, Tryz.ntmps38
    go_wp2_with (first | (go_at_call 89; refine (up_spec _ _).mono ?_; rintro e w' ⟨rfl, rfl⟩) | (go_at_call 88; refine (asked_blind _ n wd g t s n1 n2 t1 t2 _ _ kp.out.row).mono ?_; rintro e w' ⟨rfl, rfl⟩))
    go_ret2; exact ⟨by rw [fin.out]; rfl, kp.out.below⟩
theorem passFor_impl (n : Int) (wd g : Nat) (t : Int) (s : Nat) (n1 : -128 ≤ n) (n2 : n ≤ 127) (t1 : -32768 ≤ t) (t2 : t ≤ 32767) (h : Int) (w : World) :
    Calls Tryz.prog 39 #[.agg #[.int .i8 n, .float .f32 wd, .float .f32 g, .int .i16 t, .float .f32 s], .int .i64 h] w fun e w' => e = .returned (.tuple #[.float .f32 (codeRes (code2 (blindOk n wd g t s) (inR h 1 64)) 0 (pass wd g t s h)).1, .int .i64 (codeRes (code2 (blindOk n wd g t s) (inR h 1 64)) 0 (pass wd g t s h)).2]) ∧ Below w.heap.size w w' := by
  have kp := hidd (Keep1.start w (blindCells n wd g t s) 56).drew
  by_cases hc : code2 (blindOk n wd g t s) (inR h 1 64) = 0
  · have hb := bne_0 hc
    have fin := hidd (cr_ok (zr := 0) (val := pass wd g t s h) hc)
    have Hc := hidd hc
    clear hc
    obtain ⟨ho, hp⟩ := code2_zero.1 Hc.out
    obtain ⟨h1, h2⟩ := inR_iff.1 hp
    have H := hidd (blindOk_of ho)
    clear ho hp
    go_enter Tryz.func39, Tryz.ntmps39
    go_wp2_with fail
    refine wp_region_in (fun w' => Keep1 w w' (blindCells n wd g t s)) (by kernel_rfl) (by kernel_rfl) kp.out ?_
    repeat (first | (refine wpQuiet_step (fun K hK => ?_); rw [if_pos (by rfl)]; refine quiet_load_all _ _ rfl _ rfl (blindCells n wd g t s) _ (agg_blind) (rfl) (fun w' hw' => hw'.row) ?_; go_simp; refine hK _ ?_; clear hK K) | (refine wpQuiet_step (fun K hK => ?_); go_simp; first | (refine hK _ ?_; clear hK K) | (apply Exists.intro; refine ⟨fun w' hw' => ?_, hK _ ?_⟩; (first | rfl | exact ⟨rfl, rfl⟩ | ((first | (go_at_call 86; exact (up_impl _ _).mono fun e w'' h => ⟨h.1, h.2 ▸ hw'⟩) | (go_at_call 85; exact (code_blind n wd g t s n1 n2 t1 t2 _ _).mono fun e w'' h => ⟨h.1, hw'.step h.2⟩)))); clear hK K)))
    refine wpQuiet_nil ?_
    intro w1 j1
    have j2 := hidd j1
    clear j1
    have kp := j2
    go_wp2_with (first | (refine wpList_load_all rfl _ _ rfl _ rfl (blindCells n wd g t s) 5 agg_blind rfl kp.out.row ?_) | (go_at_call 93; refine (pass_impl n wd g t s H.out.2.1 H.out.2.2.1 H.out.2.2.2.2 H.out.2.2.2.1.1 H.out.2.2.2.1.2 h h1 h2 _).mono ?_; rintro e wn ⟨rfl, hbn⟩; have kn := hidd (kp.out.step hbn); clear kp hbn; have kp := kn; clear kn))
    go_ret2; exact ⟨by rw [fin.out]; rfl, kp.out.below⟩
  · have hb := bne_1 hc
    have fin := hidd (cr_no (zr := 0) (val := pass wd g t s h) hc)
    have Hc := hidd hc
    clear hc
    go_enter Tryz.func39, Tryz.ntmps39
    go_wp2_with fail
    refine wp_region_in (fun w' => Keep1 w w' (blindCells n wd g t s)) (by kernel_rfl) (by kernel_rfl) kp.out ?_
    repeat (first | (refine wpQuiet_step (fun K hK => ?_); rw [if_pos (by rfl)]; refine quiet_load_all _ _ rfl _ rfl (blindCells n wd g t s) _ (agg_blind) (rfl) (fun w' hw' => hw'.row) ?_; go_simp; refine hK _ ?_; clear hK K) | (refine wpQuiet_step (fun K hK => ?_); go_simp; first | (refine hK _ ?_; clear hK K) | (apply Exists.intro; refine ⟨fun w' hw' => ?_, hK _ ?_⟩; (first | rfl | exact ⟨rfl, rfl⟩ | ((first | (go_at_call 86; exact (up_impl _ _).mono fun e w'' h => ⟨h.1, h.2 ▸ hw'⟩) | (go_at_call 85; exact (code_blind n wd g t s n1 n2 t1 t2 _ _).mono fun e w'' h => ⟨h.1, hw'.step h.2⟩)))); clear hK K)))
    refine wpQuiet_nil ?_
    intro w1 j1
    have j2 := hidd j1
    clear j1
    have kp := j2
    go_wp2
    go_ret2; exact ⟨by rw [fin.out]; rfl, kp.out.below⟩
theorem passFor_spec (n : Int) (wd g : Nat) (t : Int) (s : Nat) (n1 : -128 ≤ n) (n2 : n ≤ 127) (t1 : -32768 ≤ t) (t2 : t ≤ 32767) (h : Int) (w : World) :
    Calls Tryz.prog 40 #[.agg #[.int .i8 n, .float .f32 wd, .float .f32 g, .int .i16 t, .float .f32 s], .int .i64 h] w fun e w' => e = .returned (.tuple #[.float .f32 (codeRes (code2 (blindOk n wd g t s) (inR h 1 64)) 0 (pass wd g t s h)).1, .int .i64 (codeRes (code2 (blindOk n wd g t s) (inR h 1 64)) 0 (pass wd g t s h)).2]) ∧ Below w.heap.size w w' := by
  have kp := hidd (Keep1.start w (blindCells n wd g t s) 56)
  by_cases hc : code2 (blindOk n wd g t s) (inR h 1 64) = 0
  · have hb := bne_0 hc
    have fin := hidd (cr_ok (zr := 0) (val := pass wd g t s h) hc)
    have Hc := hidd hc
    clear hc
    obtain ⟨ho, hp⟩ := code2_zero.1 Hc.out
    obtain ⟨h1, h2⟩ := inR_iff.1 hp
    have H := hidd (blindOk_of ho)
    clear ho hp
    go_enter Tryz.func40, Tryz.ntmps40
    go_wp2_with (first | (go_at_call 89; refine (up_spec _ _).mono ?_; rintro e w' ⟨rfl, rfl⟩) | (go_at_call 88; refine (asked_blind _ n wd g t s n1 n2 t1 t2 _ _ kp.out.row).mono ?_; rintro e w' ⟨rfl, rfl⟩) | (go_at_call 94; refine (pass_spec _ n wd g t s H.out.2.1 H.out.2.2.1 H.out.2.2.2.2 H.out.2.2.2.1.1 H.out.2.2.2.1.2 h h1 h2 _ kp.out.row).mono ?_; rintro e wn ⟨rfl, hbn⟩; have kn := hidd (kp.out.step hbn); clear kp hbn; have kp := kn; clear kn))
    go_ret2; exact ⟨by rw [fin.out]; rfl, kp.out.below⟩
  · have hb := bne_1 hc
    have fin := hidd (cr_no (zr := 0) (val := pass wd g t s h) hc)
    have Hc := hidd hc
    clear hc
    go_enter Tryz.func40, Tryz.ntmps40
    go_wp2_with (first | (go_at_call 89; refine (up_spec _ _).mono ?_; rintro e w' ⟨rfl, rfl⟩) | (go_at_call 88; refine (asked_blind _ n wd g t s n1 n2 t1 t2 _ _ kp.out.row).mono ?_; rintro e w' ⟨rfl, rfl⟩))
    go_ret2; exact ⟨by rw [fin.out]; rfl, kp.out.below⟩
theorem code2_t {b : Bool} (h : b = true) : code2 b true = 0 := by subst h; rfl
theorem code2_f {b : Bool} (h : b = false) (r : Bool) : code2 b r = 1 := by subst h; rfl
theorem highOf_impl (n : Int) (wd g : Nat) (t : Int) (s : Nat) (n1 : -128 ≤ n) (n2 : n ≤ 127) (t1 : -32768 ≤ t) (t2 : t ≤ 32767) (w : World) :
    Calls Tryz.prog 48 #[.agg #[.int .i8 n, .float .f32 wd, .float .f32 g, .int .i16 t, .float .f32 s]] w fun e w' => e = .returned (.tuple #[.float .f32 (codeRes (code2 (blindOk n wd g t s) true) 0 (high n g)).1, .int .i64 (codeRes (code2 (blindOk n wd g t s) true) 0 (high n g)).2]) ∧ Below w.heap.size w w' := by
  have kp := hidd (Keep1.start w (blindCells n wd g t s) 56)
  by_cases hc : code2 (blindOk n wd g t s) true = 0
  · have hb := bne_0 hc
    have fin := hidd (cr_ok (zr := 0) (val := high n g) hc)
    have Hc := hidd hc
    clear hc
    obtain ⟨h1, h2, h3⟩ := high_steps (blindOk_of (code2_zero.1 Hc.out).1).1.1 (blindOk_of (code2_zero.1 Hc.out).1).1.2 (blindOk_of (code2_zero.1 Hc.out).1).2.2.1
    unfold high at *
    have c0 := bl_0 kp.out.row
    have c2 := bl_2 kp.out.row
    go_enter Tryz.func48, Tryz.ntmps48
    go_wp2_with (first | (refine wpList_load_all rfl _ _ rfl _ rfl (blindCells n wd g t s) 5 agg_blind rfl kp.out.row ?_) | (go_at_call 85; refine (code_blind n wd g t s n1 n2 t1 t2 _ _).mono ?_; rintro e w3 ⟨rfl, hb3⟩; replace kp := hidd (kp.out.step hb3); clear hb3; have c0 := bl_0 kp.out.row; have c2 := bl_2 kp.out.row))
    go_ret2; exact ⟨by rw [fin.out]; rfl, kp.out.below⟩
  · have hb := bne_1 hc
    have fin := hidd (cr_no (zr := 0) (val := high n g) hc)
    have Hc := hidd hc
    clear hc
    go_enter Tryz.func48, Tryz.ntmps48
    go_wp2_with (first | (refine wpList_load_all rfl _ _ rfl _ rfl (blindCells n wd g t s) 5 agg_blind rfl kp.out.row ?_) | (go_at_call 85; refine (code_blind n wd g t s n1 n2 t1 t2 _ _).mono ?_; rintro e wn ⟨rfl, hbn⟩; have kn := hidd (kp.out.step hbn); clear kp hbn; have kp := kn; clear kn))
    go_ret2; exact ⟨by rw [fin.out]; rfl, kp.out.below⟩
theorem blind_one (n : Int) (wd g : Nat) (t : Int) (s : Nat) : ∀ v ∈ (blindCells n wd g t s).toList, v.oneCell' = true := by
  intro v hv; simp [blindCells] at hv; rcases hv with rfl | rfl | rfl | rfl | rfl <;> rfl
def zeroBlind : Array Value := #[.int .i8 0, .float .f32 0, .float .f32 0, .int .i16 0, .float .f32 0]
def tiltAns (n : Int) (wd g : Nat) (t : Int) (s : Nat) (u : Int) : Array Value × Int := codeRes (code2 (blindOk n wd g t s) (inR u (-64) 64)) zeroBlind (blindCells n wd g u s)
theorem ta_ok {n : Int} {wd g : Nat} {t : Int} {s : Nat} {u : Int} (h : code2 (blindOk n wd g t s) (inR u (-64) 64) = 0) : tiltAns n wd g t s u = (blindCells n wd g u s, 0) := by unfold tiltAns; exact cr_ok h
theorem ta_no {n : Int} {wd g : Nat} {t : Int} {s : Nat} {u : Int} (h : code2 (blindOk n wd g t s) (inR u (-64) 64) ≠ 0) : tiltAns n wd g t s u = (zeroBlind, code2 (blindOk n wd g t s) (inR u (-64) 64)) := by unfold tiltAns; exact cr_no h
end Go.Proofs.YtddkiemipedgcaaGreatDoor
