/-
  The light of suns: on the ground, on a window, over a day.
-/
import Derived.Test.YtddkiemipedgcaaGreatDoorWs
namespace Go.Proofs.YtddkiemipedgcaaGreatDoor
open Go.RowKit Go.Proofs.Fl Go.Proofs.Pl
set_option linter.unusedVariables false

theorem one16 : IsOne Tryz.prog 24 := isOne_int Tryz.underlying24
theorem one64 : IsOne Tryz.prog 2 := isOne_int Tryz.underlying2
theorem ground_impl (b : Nat) (L : List Int) (hL : L.length = 48) (k : Nat) (hk : k < 24) (h1 : -64 ≤ hgt L k) (h2 : hgt L k ≤ 64) (w : World) (hs : Row w b (sunCells L)) :
    Calls Tryz.prog 78 #[.pointer (some ⟨b, 0, none⟩), .int .i64 k] w fun e w' => e = .returned (.float .f32 (ground L k)) ∧ w = w' := by
  have c1 := sun_hgt hs hL k hk
  have Hs := hidd hs
  clear hs
  by_cases hu : 0 < hgt L k
  · have hd := hidd (show ground L k = sine (hgt L k) by unfold ground; rw [if_pos hu])
    have hup : isUp L k = true := by unfold isUp; simp [hu]
    go_enter Tryz.func78, Tryz.ntmps78
    go_wp2_with (first | (go_at_call 77; refine (isUp_impl _ L hL k hk _ Hs.out).mono ?_; rintro e w' ⟨rfl, rfl⟩) | (go_at_call 117; refine (sine_impl _ _).mono ?_; rintro e w' ⟨rfl, rfl⟩))
    go_ret; exact ⟨by rw [hd.out]; rfl, rfl⟩
  · have hd := hidd (show ground L k = 0 by unfold ground; rw [if_neg hu])
    have hup : isUp L k = false := by unfold isUp; simp; omega
    go_enter Tryz.func78, Tryz.ntmps78
    go_wp2_with (first | (go_at_call 77; refine (isUp_impl _ L hL k hk _ Hs.out).mono ?_; rintro e w' ⟨rfl, rfl⟩))
    go_ret; exact ⟨by rw [hd.out]; rfl, rfl⟩
theorem atLeast_impl (x : Nat) (hx : Fnt x) (w : World) : Calls Tryz.prog 111 #[.float .f32 x] w fun e w' => e = .returned (.float .f32 (pos x)) ∧ w = w' := by
  have e := fle_zero hx
  cases hc : fgt x 0
  · have hd := hidd (show pos x = 0 by unfold pos; rw [hc]; rfl)
    rw [hc] at e; simp at e
    go_enter Tryz.func111, Tryz.ntmps111
    go_wp2
    go_ret; exact ⟨by rw [hd.out]; rfl, rfl⟩
  · have hd := hidd (show pos x = x by unfold pos; rw [hc]; rfl)
    rw [hc] at e; simp at e
    go_enter Tryz.func111, Tryz.ntmps111
    go_wp2
    go_ret; exact ⟨by rw [hd.out]; rfl, rfl⟩
theorem fall_impl (b : Nat) (L : List Int) (hL : L.length = 48) (k : Nat) (hk : k < 24) (h1 : -64 ≤ hgt L k) (h2 : hgt L k ≤ 64) (h3 : 0 ≤ trn L k) (h4 : trn L k ≤ 255) (f : Int) (f1 : 0 ≤ f) (f2 : f ≤ 255) (w : World) (hs : Row w b (sunCells L)) :
    Calls Tryz.prog 65 #[.pointer (some ⟨b, 0, none⟩), .int .i64 k, .int .i64 f] w fun e w' => e = .returned (.float .f32 (fall L k f)) ∧ Below w.heap.size w w' := by
  have Hs := hidd hs
  have HL := hidd hL
  clear hs hL
  by_cases hu : 0 < hgt L k
  · have hd := hidd (show fall L k f = pos (fmul (cosine (hgt L k)) (cosine (trn L k - f))) by unfold fall; rw [if_pos hu]; rfl)
    have hup : isUp L k = true := by unfold isUp; simp [hu]
    have g1 := (cosine_fin (hgt L k)).1
    have g2 := (cosine_fin (trn L k - f)).1
    have g3 : Hid (Fnt (fmul (cosine (hgt L k)) (cosine (trn L k - f)))) := (fallRaw_fin L k f).1
    have i0 : (0 : Int) ≤ (k : Int) := by omega
    have i1 : (k : Int) < 24 := by omega
    have hw1 : IntKind.i64.wrap (hgt L k) = hgt L k := IntWalk.i64_in _ ⟨by omega, by omega⟩
    have hw2 : IntKind.i64.wrap (trn L k) = trn L k := IntWalk.i64_in _ ⟨by omega, by omega⟩
    have hwr : IntKind.i64.wrap (trn L k - f) = trn L k - f := IntWalk.i64_in _ ⟨by omega, by omega⟩
    go_enter Tryz.func65, Tryz.ntmps65
    go_wp2_with (first | (go_at_call 77; refine (isUp_impl _ L HL.out k hk _ Hs.out).mono ?_; rintro e w' ⟨rfl, rfl⟩))
    refine wp_region_in (fun w' => Below w.heap.size w w') (by kernel_rfl) (by kernel_rfl) (Below.refl _ _).drew ?_
    iterate 5 (refine wpQuiet_step (fun K hK => ?_); go_simp; first | (refine hK _ ?_; clear hK K) | (apply Exists.intro; refine ⟨fun w' hw' => ?_, hK _ ?_⟩; (first | rfl | exact ⟨rfl, rfl⟩ | (fail)); clear hK K))
    (refine wpQuiet_step (fun K hK => ?_); rw [if_pos (by rfl)]; refine quiet_load_cell _ _ rfl _ rfl (.int .i16 (hgt L k)) (one16) (fun w' hw' => sun_hgt (Hs.out.below hw' Hs.out.lt) HL.out k hk) ?_; go_simp; refine hK _ ?_; clear hK K)
    (refine wpQuiet_step (fun K hK => ?_); go_simp; first | (refine hK _ ?_; clear hK K) | (apply Exists.intro; refine ⟨fun w' hw' => ?_, hK _ ?_⟩; (first | rfl | exact ⟨rfl, rfl⟩ | (fail)); clear hK K))
    (refine wpQuiet_step (fun K hK => ?_); go_simp; first | (refine hK _ ?_; clear hK K) | (apply Exists.intro; refine ⟨fun w' hw' => ?_, hK _ ?_⟩; (first | rfl | exact ⟨rfl, rfl⟩ | ((go_at_call 112; exact (cosine_impl _ _).mono fun e w'' h => ⟨h.1, h.2 ▸ hw'⟩))); clear hK K))
    iterate 5 (refine wpQuiet_step (fun K hK => ?_); go_simp; first | (refine hK _ ?_; clear hK K) | (apply Exists.intro; refine ⟨fun w' hw' => ?_, hK _ ?_⟩; (first | rfl | exact ⟨rfl, rfl⟩ | (fail)); clear hK K))
    (refine wpQuiet_step (fun K hK => ?_); rw [if_pos (by rfl)]; refine quiet_load_cell _ _ rfl _ rfl (.int .i16 (trn L k)) (one16) (fun w' hw' => sun_trn (Hs.out.below hw' Hs.out.lt) HL.out k hk) ?_; go_simp; refine hK _ ?_; clear hK K)
    repeat (refine wpQuiet_step (fun K hK => ?_); go_simp; first | (refine hK _ ?_; clear hK K) | (apply Exists.intro; refine ⟨fun w' hw' => ?_, hK _ ?_⟩; (first | rfl | exact ⟨rfl, rfl⟩ | ((first | (go_at_call 112; exact (cosine_impl _ _).mono fun e w'' h => ⟨h.1, h.2 ▸ hw'⟩) | (go_at_call 111; exact (atLeast_impl _ g3.out _).mono fun e w'' h => ⟨h.1, h.2 ▸ hw'⟩)))); clear hK K))
    refine wpQuiet_nil ?_
    intro w1 k1
    have k2 := hidd k1
    clear k1
    go_wp2
    go_ret; exact ⟨by rw [hd.out]; rfl, k2.out⟩
  · have hd := hidd (show fall L k f = 0 by unfold fall; rw [if_neg hu])
    have hup : isUp L k = false := by unfold isUp; simp; omega
    go_enter Tryz.func65, Tryz.ntmps65
    go_wp2_with (first | (go_at_call 77; refine (isUp_impl _ L HL.out k hk _ Hs.out).mono ?_; rintro e w' ⟨rfl, rfl⟩))
    go_ret; exact ⟨by rw [hd.out]; rfl, Below.refl _ _⟩
theorem fall_spec (b : Nat) (L : List Int) (hL : L.length = 48) (k : Nat) (hk : k < 24) (h1 : -64 ≤ hgt L k) (h2 : hgt L k ≤ 64) (h3 : 0 ≤ trn L k) (h4 : trn L k ≤ 255) (f : Int) (f1 : 0 ≤ f) (f2 : f ≤ 255) (w : World) (hs : Row w b (sunCells L)) :
    Calls Tryz.prog 68 #[.pointer (some ⟨b, 0, none⟩), .int .i64 k, .int .i64 f] w fun e w' => e = .returned (.float .f32 (fall L k f)) ∧ Below w.heap.size w w' := by
  have Hs := hidd hs
  have HL := hidd hL
  have c1 := sun_hgt hs hL k hk
  clear hs hL
  by_cases hu : 0 < hgt L k
  · have hd := hidd (show fall L k f = pos (fmul (cosine (hgt L k)) (cosine (trn L k - f))) by unfold fall; rw [if_pos hu]; rfl)
    have g1 := (cosine_fin (hgt L k)).1
    have g2 := (cosine_fin (trn L k - f)).1
    have i0 : (0 : Int) ≤ (k : Int) := by omega
    have i1 : (k : Int) < 24 := by omega
    have hw1 : IntKind.i64.wrap (hgt L k) = hgt L k := IntWalk.i64_in _ ⟨by omega, by omega⟩
    have hw2 : IntKind.i64.wrap (trn L k) = trn L k := IntWalk.i64_in _ ⟨by omega, by omega⟩
    have hwr : IntKind.i64.wrap (trn L k - f) = trn L k - f := IntWalk.i64_in _ ⟨by omega, by omega⟩
    go_enter Tryz.func68, Tryz.ntmps68
    go_wp2_with fail
    refine wp_region_in (fun w' => Below w.heap.size w w') (by kernel_rfl) (by kernel_rfl) (Below.refl _ _).drew ?_
    iterate 5 (refine wpQuiet_step (fun K hK => ?_); go_simp; first | (refine hK _ ?_; clear hK K) | (apply Exists.intro; refine ⟨fun w' hw' => ?_, hK _ ?_⟩; (first | rfl | exact ⟨rfl, rfl⟩ | (fail)); clear hK K))
    (refine wpQuiet_step (fun K hK => ?_); rw [if_pos (by rfl)]; refine quiet_load_cell _ _ rfl _ rfl (.int .i16 (hgt L k)) (one16) (fun w' hw' => sun_hgt (Hs.out.below hw' Hs.out.lt) HL.out k hk) ?_; go_simp; refine hK _ ?_; clear hK K)
    (refine wpQuiet_step (fun K hK => ?_); go_simp; first | (refine hK _ ?_; clear hK K) | (apply Exists.intro; refine ⟨fun w' hw' => ?_, hK _ ?_⟩; (first | rfl | exact ⟨rfl, rfl⟩ | (fail)); clear hK K))
    (refine wpQuiet_step (fun K hK => ?_); go_simp; first | (refine hK _ ?_; clear hK K) | (apply Exists.intro; refine ⟨fun w' hw' => ?_, hK _ ?_⟩; (first | rfl | exact ⟨rfl, rfl⟩ | ((go_at_call 114; exact (cosine_l01 _ _).mono fun e w'' h => ⟨h.1, h.2 ▸ hw'⟩))); clear hK K))
    iterate 5 (refine wpQuiet_step (fun K hK => ?_); go_simp; first | (refine hK _ ?_; clear hK K) | (apply Exists.intro; refine ⟨fun w' hw' => ?_, hK _ ?_⟩; (first | rfl | exact ⟨rfl, rfl⟩ | (fail)); clear hK K))
    (refine wpQuiet_step (fun K hK => ?_); rw [if_pos (by rfl)]; refine quiet_load_cell _ _ rfl _ rfl (.int .i16 (trn L k)) (one16) (fun w' hw' => sun_trn (Hs.out.below hw' Hs.out.lt) HL.out k hk) ?_; go_simp; refine hK _ ?_; clear hK K)
    repeat (refine wpQuiet_step (fun K hK => ?_); go_simp; first | (refine hK _ ?_; clear hK K) | (apply Exists.intro; refine ⟨fun w' hw' => ?_, hK _ ?_⟩; (first | rfl | exact ⟨rfl, rfl⟩ | ((first | (go_at_call 114; exact (cosine_l01 _ _).mono fun e w'' h => ⟨h.1, h.2 ▸ hw'⟩)))); clear hK K))
    refine wpQuiet_nil ?_
    intro w1 k1
    have k2 := hidd k1
    clear k1
    go_wp2
    all_goals (go_ret; exact ⟨by rw [hd.out]; simp [pos, *], k2.out⟩)
  · have hd := hidd (show fall L k f = 0 by unfold fall; rw [if_neg hu])
    go_enter Tryz.func68, Tryz.ntmps68
    go_wp2
    go_ret; exact ⟨by rw [hd.out]; rfl, Below.refl _ _⟩
end Go.Proofs.YtddkiemipedgcaaGreatDoor
