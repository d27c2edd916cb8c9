/-
  Blinds: what is blocked, what is open, what passes.
-/
import Derived.Test.YtddkiemipedgcaaGreatDoorWb
namespace Go.Proofs.YtddkiemipedgcaaGreatDoor
open Go.RowKit Go.Proofs.Fl Go.Proofs.Pl
set_option linter.unusedVariables false

theorem blocked_impl (n : Int) (wd g : Nat) (t : Int) (s : Nat) (hw : isLen wd = true) (hg : isLen g = true) (t1 : -64 ≤ t) (t2 : t ≤ 64) (h : Int) (h1 : 1 ≤ h) (h2 : h ≤ 64) (w : World) :
    Calls Tryz.prog 87 #[.agg #[.int .i8 n, .float .f32 wd, .float .f32 g, .int .i16 t, .float .f32 s], .int .i64 h] w fun e w' => e = .returned (.float .f32 (blk wd g t h)) ∧ Below w.heap.size w w' := by
  have kp := hidd (Keep1.start w (blindCells n wd g t s) 56)
  have f1 := (sine_fin (h + t)).1
  have fo : Fnt 1065353216 := by decide
  rcases bool_or (feq (cosine h) 0) with hc | hc
  · have ps := part_steps (t := t) hw hg h1 h2 hc
    obtain ⟨p1, p2, p3, p4, p5, p6, p7, p8, p9, p10⟩ := ps
    have fin := hidd (blocked_min (t := t) hw hg h1 h2 hc)
    unfold Go.Proofs.Pl.part at *
    have hmin := fun (w : World) (ts : Array TypeId) (ty : TypeId) => run_min32 (P := Tryz.prog) w ts ty p8 fo
    clear hw hg p9 p10
    go_enter Tryz.func87, Tryz.ntmps87
    go_wp2_with (first | (go_at_call 117; refine (sine_impl _ _).mono ?_; rintro e w' ⟨rfl, rfl⟩) | (go_at_call 112; refine (cosine_impl _ _).mono ?_; rintro e w' ⟨rfl, rfl⟩) | (go_at_call 123; refine (size_impl _ f1 _).mono ?_; rintro e w' ⟨rfl, rfl⟩))
    go_ret; exact ⟨by rw [fin.out]; rfl, kp.out.below⟩
  · have fin := hidd (blocked_1 (wd := wd) (g := g) (t := t) hc)
    clear hw hg
    go_enter Tryz.func87, Tryz.ntmps87
    go_wp2_with (first | (go_at_call 117; refine (sine_impl _ _).mono ?_; rintro e w' ⟨rfl, rfl⟩) | (go_at_call 112; refine (cosine_impl _ _).mono ?_; rintro e w' ⟨rfl, rfl⟩) | (go_at_call 123; refine (size_impl _ f1 _).mono ?_; rintro e w' ⟨rfl, rfl⟩))
    go_ret; exact ⟨by rw [fin.out]; rfl, kp.out.below⟩
theorem blocked_spec (b : Nat) (n : Int) (wd g : Nat) (t : Int) (s : Nat) (hw : isLen wd = true) (hg : isLen g = true) (t1 : -64 ≤ t) (t2 : t ≤ 64) (h : Int) (h1 : 1 ≤ h) (h2 : h ≤ 64) (w : World) (hs : Row w b (blindCells n wd g t s)) :
    Calls Tryz.prog 90 #[.pointer (some ⟨b, 0, none⟩), .int .i64 h] w fun e w' => e = .returned (.float .f32 (blk wd g t h)) ∧ Below w.heap.size w w' := by
  have f1 := sine_fin (h + t)
  have F1 := hidd f1
  clear f1
  have fo : Fnt 1065353216 := by decide
  have c3 := bl_3 hs
  have Hs := hidd hs
  clear hs
  rcases bool_or (feq (cosine h) 0) with hc | hc
  · have ps := part_steps (t := t) hw hg h1 h2 hc
    obtain ⟨p1, p2, p3, p4, p5, p6, p7, p8, p9, p10⟩ := ps
    have fin2 := hidd (blocked_2 (wd := wd) (g := g) (t := t) hc)
    have fin3 := hidd (blocked_3 (wd := wd) (g := g) (t := t) hc)
    unfold Go.Proofs.Pl.part at *
    clear hw hg p9 p10
    go_enter Tryz.func90, Tryz.ntmps90
    go_wp2_with (first | (go_at_call 126; refine (sine_l01 _ _).mono ?_; rintro e w' ⟨rfl, rfl⟩) | (go_at_call 114; refine (cosine_l01 _ _).mono ?_; rintro e w' ⟨rfl, rfl⟩) | (go_at_call 125; refine (size_l01 _ F1.out.1 F1.out.2.2 _).mono ?_; rintro e w' ⟨rfl, rfl⟩))
    go_wp2_with fail
    refine wp_region_in (fun w' => Below w.heap.size w w') (by kernel_rfl) (by kernel_rfl) (Below.refl _ _).drew ?_
    repeat (first | (refine wpQuiet_step (fun K hK => ?_); rw [if_pos (by rfl)]; refine quiet_load_cell _ _ rfl _ rfl (.float .f32 wd) (bonef) (fun w' hw' => bl_1 (Hs.out.below hw' Hs.out.lt)) ?_; go_simp; refine hK _ ?_; clear hK K) | (refine wpQuiet_step (fun K hK => ?_); rw [if_pos (by rfl)]; refine quiet_load_cell _ _ rfl _ rfl (.float .f32 g) (bonef) (fun w' hw' => bl_2 (Hs.out.below hw' Hs.out.lt)) ?_; go_simp; refine hK _ ?_; clear hK K) | (refine wpQuiet_step (fun K hK => ?_); go_simp; first | (refine hK _ ?_; clear hK K) | (apply Exists.intro; refine ⟨fun w' hw' => ?_, hK _ ?_⟩; (first | rfl | exact ⟨rfl, rfl⟩ | (fail)); clear hK K)))
    refine wpQuiet_nil ?_
    intro w1 j1
    have j2 := hidd j1
    clear j1
    go_wp2
    · have u := hidd (show fgt (fdiv (fmul wd (size (sine (h + t)))) (fmul g (cosine h))) one = true by assumption)
      go_ret; exact ⟨by rw [fin2.out u.out]; rfl, j2.out⟩
    · have u := hidd (show fgt (fdiv (fmul wd (size (sine (h + t)))) (fmul g (cosine h))) one = false by assumption)
      go_ret; exact ⟨by rw [fin3.out u.out]; rfl, j2.out⟩
  · have fin := hidd (blocked_1 (wd := wd) (g := g) (t := t) hc)
    clear hw hg
    go_enter Tryz.func90, Tryz.ntmps90
    go_wp2_with (first | (go_at_call 126; refine (sine_l01 _ _).mono ?_; rintro e w' ⟨rfl, rfl⟩) | (go_at_call 114; refine (cosine_l01 _ _).mono ?_; rintro e w' ⟨rfl, rfl⟩) | (go_at_call 125; refine (size_l01 _ F1.out.1 F1.out.2.2 _).mono ?_; rintro e w' ⟨rfl, rfl⟩))
    go_ret; exact ⟨by rw [fin.out]; rfl, Below.refl _ _⟩
theorem open_impl (n : Int) (wd g : Nat) (t : Int) (s : Nat) (hw : isLen wd = true) (hg : isLen g = true) (t1 : -64 ≤ t) (t2 : t ≤ 64) (h : Int) (h1 : 1 ≤ h) (h2 : h ≤ 64) (w : World) :
    Calls Tryz.prog 91 #[.agg #[.int .i8 n, .float .f32 wd, .float .f32 g, .int .i16 t, .float .f32 s], .int .i64 h] w fun e w' => e = .returned (.float .f32 (opn wd g t h)) ∧ Below w.heap.size w w' := by
  have kp := hidd (Keep1.start w (blindCells n wd g t s) 56)
  have fo : Fnt 1065353216 := by decide
  have fb := (unit_fin (blocked_unit (t := t) hw hg h1 h2)).1
  have H := hidd (And.intro hw hg)
  clear hw hg
  unfold opn one
  go_enter Tryz.func91, Tryz.ntmps91
  go_wp2_with (first | (refine wpList_load_all rfl _ _ rfl _ rfl (blindCells n wd g t s) 5 agg_blind rfl kp.out.row ?_) | (go_at_call 87; refine (blocked_impl n wd g t s H.out.1 H.out.2 t1 t2 h h1 h2 _).mono ?_; rintro e wn ⟨rfl, hbn⟩; have kn := hidd (kp.out.step hbn); clear kp hbn; have kp := kn; clear kn))
  go_ret; exact ⟨rfl, kp.out.below⟩
theorem open_spec (b : Nat) (n : Int) (wd g : Nat) (t : Int) (s : Nat) (hw : isLen wd = true) (hg : isLen g = true) (t1 : -64 ≤ t) (t2 : t ≤ 64) (h : Int) (h1 : 1 ≤ h) (h2 : h ≤ 64) (w : World) (hs : Row w b (blindCells n wd g t s)) :
    Calls Tryz.prog 92 #[.pointer (some ⟨b, 0, none⟩), .int .i64 h] w fun e w' => e = .returned (.float .f32 (opn wd g t h)) ∧ Below w.heap.size w w' := by
  have fo : Fnt 1065353216 := by decide
  have fb := (unit_fin (blocked_unit (t := t) hw hg h1 h2)).1
  have H := hidd (And.intro hw hg)
  have Hs := hidd hs
  clear hw hg hs
  unfold opn one
  go_enter Tryz.func92, Tryz.ntmps92
  go_wp2_with (go_at_call 90; refine (blocked_spec _ n wd g t s H.out.1 H.out.2 t1 t2 h h1 h2 _ Hs.out).mono ?_; rintro e w3 ⟨rfl, hb3⟩)
  go_ret; exact ⟨rfl, hb3⟩
theorem pass_impl (n : Int) (wd g : Nat) (t : Int) (s : Nat) (hw : isLen wd = true) (hg : isLen g = true) (hq : isPart s = true) (t1 : -64 ≤ t) (t2 : t ≤ 64) (h : Int) (h1 : 1 ≤ h) (h2 : h ≤ 64) (w : World) :
    Calls Tryz.prog 93 #[.agg #[.int .i8 n, .float .f32 wd, .float .f32 g, .int .i16 t, .float .f32 s], .int .i64 h] w fun e w' => e = .returned (.float .f32 (pass wd g t s h)) ∧ Below w.heap.size w w' := by
  have kp := hidd (Keep1.start w (blindCells n wd g t s) 56).drew
  obtain ⟨b1, b2, b3, b4, b5, b6, b7⟩ := bounce_steps (t := t) hw hg hq h1 h2
  obtain ⟨q1, q2, q3, q4, q5⟩ := pass_fin (t := t) hw hg hq h1 h2
  have two : Fnt 1073741824 := by decide
  have two' : rung 1073741824 ≠ 0 := by decide
  have H := hidd (And.intro hw (And.intro hg hq))
  clear hw hg hq q4 q5 b7
  unfold pass bounce at *
  go_enter Tryz.func93, Tryz.ntmps93
  go_wp2_with fail
  refine wp_region_in (fun w' => Keep1 w w' (blindCells n wd g t s)) (by kernel_rfl) (by kernel_rfl) kp.out ?_
  repeat (first | (refine wpQuiet_step (fun K hK => ?_); rw [if_pos (by rfl)]; refine quiet_load_cell _ _ rfl _ rfl (.float .f32 s) (bonef) (fun w' hw' => bl_4 hw'.row) ?_; go_simp; refine hK _ ?_; clear hK K) | (refine wpQuiet_step (fun K hK => ?_); rw [if_pos (by rfl)]; refine quiet_load_all _ _ rfl _ rfl (blindCells n wd g t s) _ (agg_blind) (rfl) (fun w' hw' => hw'.row) ?_; go_simp; refine hK _ ?_; clear hK K) | (refine wpQuiet_step (fun K hK => ?_); go_simp; first | (refine hK _ ?_; clear hK K) | (apply Exists.intro; refine ⟨fun w' hw' => ?_, hK _ ?_⟩; (first | rfl | exact ⟨rfl, rfl⟩ | ((first | (go_at_call 87; exact (blocked_impl n wd g t s H.out.1 H.out.2.1 t1 t2 h h1 h2 _).mono fun e w'' h => ⟨h.1, hw'.step h.2⟩) | (go_at_call 91; exact (open_impl n wd g t s H.out.1 H.out.2.1 t1 t2 1 (by omega) (by omega) _).mono fun e w'' h => ⟨h.1, hw'.step h.2⟩)))); clear hK K)))
  refine wpQuiet_nil ?_
  intro w1 j1
  have j2 := hidd j1
  clear j1
  go_wp2_with (first | (refine wpList_load_all rfl _ _ rfl _ rfl (blindCells n wd g t s) 5 agg_blind rfl j2.out.row ?_) | (go_at_call 91; refine (open_impl n wd g t s H.out.1 H.out.2.1 t1 t2 h h1 h2 _).mono ?_; rintro e w3 ⟨rfl, hb3⟩))
  go_ret; exact ⟨rfl, (j2.out.step hb3).below⟩
theorem pass_spec (b : Nat) (n : Int) (wd g : Nat) (t : Int) (s : Nat) (hw : isLen wd = true) (hg : isLen g = true) (hq : isPart s = true) (t1 : -64 ≤ t) (t2 : t ≤ 64) (h : Int) (h1 : 1 ≤ h) (h2 : h ≤ 64) (w : World) (hs : Row w b (blindCells n wd g t s)) :
    Calls Tryz.prog 94 #[.pointer (some ⟨b, 0, none⟩), .int .i64 h] w fun e w' => e = .returned (.float .f32 (pass wd g t s h)) ∧ Below w.heap.size w w' := by
  obtain ⟨b1, b2, b3, b4, b5, b6, b7⟩ := bounce_steps (t := t) hw hg hq h1 h2
  obtain ⟨q1, q2, q3, q4, q5⟩ := pass_fin (t := t) hw hg hq h1 h2
  have two : Fnt 1073741824 := by decide
  have two' : rung 1073741824 ≠ 0 := by decide
  have H := hidd (And.intro hw (And.intro hg hq))
  have Hs := hidd hs
  clear hw hg hq q4 q5 b7 hs
  unfold pass bounce at *
  go_enter Tryz.func94, Tryz.ntmps94
  go_wp2_with (go_at_call 92; refine (open_spec _ n wd g t s H.out.1 H.out.2.1 t1 t2 1 (by omega) (by omega) _ Hs.out).mono ?_; rintro e w2 ⟨rfl, hb2⟩; have k2 := hidd hb2; clear hb2)
  go_wp2_with fail
  refine wp_region_in (fun w' => Below w.heap.size w w') (by kernel_rfl) (by kernel_rfl) k2.out.drew ?_
  repeat (first | (refine wpQuiet_step (fun K hK => ?_); rw [if_pos (by rfl)]; refine quiet_load_cell _ _ rfl _ rfl (.float .f32 s) (bonef) (fun w' hw' => bl_4 (Hs.out.below hw' Hs.out.lt)) ?_; go_simp; refine hK _ ?_; clear hK K) | (refine wpQuiet_step (fun K hK => ?_); go_simp; first | (refine hK _ ?_; clear hK K) | (apply Exists.intro; refine ⟨fun w' hw' => ?_, hK _ ?_⟩; (first | rfl | exact ⟨rfl, rfl⟩ | ((go_at_call 90; exact (blocked_spec _ n wd g t s H.out.1 H.out.2.1 t1 t2 h h1 h2 _ (Hs.out.below hw' Hs.out.lt)).mono fun e w'' h => ⟨h.1, hw'.trans (h.2.mono hw'.size)⟩))); clear hK K)))
  refine wpQuiet_nil ?_
  intro w1 j1
  have j2 := hidd j1
  clear j1
  go_wp2_with (go_at_call 92; refine (open_spec _ n wd g t s H.out.1 H.out.2.1 t1 t2 h h1 h2 _ (Hs.out.below j2.out Hs.out.lt)).mono ?_; rintro e w4 ⟨rfl, hb4⟩)
  go_ret; exact ⟨rfl, j2.out.trans (hb4.mono j2.out.size)⟩
end Go.Proofs.YtddkiemipedgcaaGreatDoor
