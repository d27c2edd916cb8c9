/-
  What passes of the light of a sun at an hour.
-/
import Derived.Test.YtcdaajloheohoaaWbb
import Derived.Test.YtcdaajloheohoaaWt
namespace Go.Proofs.Ytcdaajloheohoaa
open Go.RowKit Go.Proofs.Fl Go.Proofs.Pl
set_option linter.unusedVariables false

def win (L : List Int) (k : Nat) (f : Int) (wd g : Nat) (t : Int) (s : Nat) : Nat := if 0 < hgt L k then fmul (fall L k f) (pass wd g t s (hgt L k)) else 0
theorem win_fin {L : List Int} {k : Nat} {f : Int} {wd g : Nat} {t : Int} {s : Nat} (hw : isLen wd = true) (hg : isLen g = true) (hq : isPart s = true) (h2 : hgt L k ≤ 64) :
    Fnt (win L k f wd g t s) ∧ rung (win L k f wd g t s) ≤ 1073741824 := by
  unfold win; split
  · obtain ⟨_, _, p3, p4, _⟩ := pass_fin (t := t) hw hg hq (show 1 ≤ hgt L k by omega) h2
    have u := unit_fin (fall_unit L k f)
    have c := fmul_le' u.2.1 p4 (by decide) (by decide) (c := 1073741824) (by decide) (by decide +kernel)
    exact ⟨fin_of_le c (by decide), c⟩
  · decide
theorem win_steps {L : List Int} {k : Nat} {f : Int} {wd g : Nat} {t : Int} {s : Nat} (hw : isLen wd = true) (hg : isLen g = true) (hq : isPart s = true) (h1 : 0 < hgt L k) (h2 : hgt L k ≤ 64) :
    Fnt (fall L k f) ∧ Fnt (pass wd g t s (hgt L k)) ∧ win L k f wd g t s = fmul (fall L k f) (pass wd g t s (hgt L k)) :=
  ⟨(unit_fin (fall_unit L k f)).1, (pass_fin (t := t) hw hg hq (show 1 ≤ hgt L k by omega) h2).2.2.1, by unfold win; rw [if_pos h1]⟩
theorem whole_48 : ∀ k : Nat, k < 25 → whole (2 * k) < 2139095040 ∧ M (whole (2 * k)) = (2 * k) * M one := by decide +kernel
theorem two_one : M 1073741824 = 2 * M one := by decide +kernel
theorem sum_le2 (f : Nat → Nat) (h : ∀ k, k < 24 → Fnt (f k) ∧ rung (f k) ≤ 1073741824) : ∀ k, k ≤ 24 → rung (sumTo f k) ≤ whole (2 * k)
  | 0, _ => rung_zero
  | k + 1, hk => by
    have ih := sum_le2 f h k (by omega)
    have u := h k (by omega)
    have a := whole_48 k (by omega)
    have b := whole_48 (k + 1) (by omega)
    refine fadd_le' ih u.2 a.1 (by decide) (by omega) ?_
    rw [a.2, b.2, two_one, ← Nat.add_mul]
    exact Nat.le_refl _
theorem sum_fin2 {f : Nat → Nat} (h : ∀ k, k < 24 → Fnt (f k) ∧ rung (f k) ≤ 1073741824) {k : Nat} (hk : k ≤ 24) : Fnt (sumTo f k) :=
  fin_of_le (sum_le2 f h k hk) (whole_48 k (by omega)).1
def dayPass (L : List Int) (f : Int) (wd g : Nat) (t : Int) (s : Nat) : Nat := sum24 fun k => win L k f wd g t s
theorem dayPass_fin {L : List Int} {f : Int} {wd g : Nat} {t : Int} {s : Nat} (hw : isLen wd = true) (hg : isLen g = true) (hq : isPart s = true) (h : sunOk L = true) : Fnt (dayPass L f wd g t s) := by
  unfold dayPass; rw [← sum24_eq]
  exact sum_fin2 (fun k hk => win_fin hw hg hq (sunOk_at h hk).2.1) (by omega)

theorem with_spec (b c : Nat) (n : Int) (wd g : Nat) (t : Int) (s : Nat) (n1 : -128 ≤ n) (n2 : n ≤ 127) (t1 : -32768 ≤ t) (t2 : t ≤ 32767) (L : List Int) (hL : L.length = 48) (hr : ∀ x ∈ L, -32768 ≤ x ∧ x ≤ 32767) (right : Bool) (w : World) (hs : Row w b (blindCells n wd g t s)) (hz : Row w c (sunCells L)) :
    Calls Try.prog 12 #[.pointer (some ⟨b, 0, none⟩), .pointer (some ⟨c, 0, none⟩), .bool right] w fun e w' => e = .returned (.int .i64 (code2 (blindOk n wd g t s && sunOk L) right)) ∧ w = w' := by
  have Hs := hidd hs
  have Hz := hidd hz
  have HL := hidd (And.intro hL hr)
  clear hs hz hL hr
  go_enter Try.func12, Try.ntmps12
  go_wp2_with (first | (go_at_call 23; refine (blind_spec _ n wd g t s n1 n2 t1 t2 _ Hs.out).mono ?_; rintro e w' ⟨rfl, rfl⟩) | (go_at_call 24; refine (ok_spec _ L HL.out.1 HL.out.2 _ Hz.out).mono ?_; rintro e w' ⟨rfl, rfl⟩))
  all_goals (go_ret; exact ⟨by simp_all [code2], rfl⟩)
theorem windowCode_impl (n : Int) (wd g : Nat) (t : Int) (s : Nat) (n1 : -128 ≤ n) (n2 : n ≤ 127) (t1 : -32768 ≤ t) (t2 : t ≤ 32767) (L : List Int) (hL : L.length = 48) (hr : ∀ x ∈ L, -32768 ≤ x ∧ x ≤ 32767) (right : Bool) (w : World) :
    Calls Try.prog 17 #[.agg #[.int .i8 n, .float .f32 wd, .float .f32 g, .int .i16 t, .float .f32 s], .agg (sunCells L), .bool right] w fun e w' => e = .returned (.int .i64 (code2 (blindOk n wd g t s && sunOk L) right)) ∧ Below w.heap.size w w' := by
  have kp := hidd (Keep2.start w (blindCells n wd g t s) (sunCells L) 32 34)
  have HL := hidd (And.intro hL hr)
  clear hL hr
  rcases bool_or (sunOk L) with e | e
  · have fin := hidd (show code2 (blindOk n wd g t s && sunOk L) right = 1 by rw [e]; simp [code2])
    go_enter Try.func17, Try.ntmps17
    go_wp2_with (first | (refine wpList_load_all rfl _ _ rfl _ rfl (sunCells L) 48 agg_impl (sun_size HL.out.1) kp.out.row2 ?_) | (go_at_call 28; refine (valid_impl L HL.out.1 HL.out.2 _).mono ?_; rintro e wn ⟨rfl, hbn⟩; have kn := hidd (kp.out.step hbn); clear kp hbn; have kp := kn; clear kn))
    go_ret; exact ⟨by rw [fin.out]; rfl, kp.out.below⟩
  · have fin := hidd (show code2 (blindOk n wd g t s && sunOk L) right = code2 (blindOk n wd g t s) right by rw [e, Bool.and_true])
    go_enter Try.func17, Try.ntmps17
    go_wp2_with (first | (refine wpList_load_all rfl _ _ rfl _ rfl (sunCells L) 48 agg_impl (sun_size HL.out.1) kp.out.row2 ?_) | (refine wpList_load_all rfl _ _ rfl _ rfl (blindCells n wd g t s) 5 agg_blind rfl kp.out.row ?_) | (go_at_call 28; refine (valid_impl L HL.out.1 HL.out.2 _).mono ?_; rintro e wn ⟨rfl, hbn⟩; have kn := hidd (kp.out.step hbn); clear kp hbn; have kp := kn; clear kn) | (go_at_call 29; refine (code_blind n wd g t s n1 n2 t1 t2 _ _).mono ?_; rintro e wn ⟨rfl, hbn⟩; have kn := hidd (kp.out.step hbn); clear kp hbn; have kp := kn; clear kn))
    go_ret; exact ⟨by rw [fin.out]; rfl, kp.out.below⟩
theorem window_spec (b c : Nat) (n : Int) (wd g : Nat) (t : Int) (s : Nat) (hw : isLen wd = true) (hg : isLen g = true) (hq : isPart s = true) (t1 : -64 ≤ t) (t2 : t ≤ 64) (L : List Int) (hL : L.length = 48) (k : Nat) (hk : k < 24) (h1 : -64 ≤ hgt L k) (h2 : hgt L k ≤ 64) (h3 : 0 ≤ trn L k) (h4 : trn L k ≤ 255) (f : Int) (f1 : 0 ≤ f) (f2 : f ≤ 255) (w : World) (hs : Row w b (blindCells n wd g t s)) (hz : Row w c (sunCells L)) :
    Calls Try.prog 15 #[.pointer (some ⟨b, 0, none⟩), .pointer (some ⟨c, 0, none⟩), .int .i64 k, .int .i64 f] w fun e w' => e = .returned (.float .f32 (win L k f wd g t s)) ∧ Below w.heap.size w w' := by
  have Hs := hidd hs
  have Hz := hidd hz
  have HL := hidd hL
  have c1 := sun_hgt hz hL k hk
  have i0 : (0 : Int) ≤ (k : Int) := by omega
  have i1 : (k : Int) < 24 := by omega
  clear hs hz hL
  by_cases hu : 0 < hgt L k
  · obtain ⟨q1, q2, q3⟩ := win_steps (f := f) (t := t) hw hg hq hu h2
    have hd := hidd q3
    have H := hidd (And.intro hw (And.intro hg hq))
    clear q3 hw hg hq
    have hw1 : IntKind.i64.wrap (hgt L k) = hgt L k := IntWalk.i64_in _ ⟨by omega, by omega⟩
    go_enter Try.func15, Try.ntmps15
    go_wp2_with fail
    refine wp_region_in (fun w' => Below w.heap.size w w') (by kernel_rfl) (by kernel_rfl) (Below.refl _ _).drew ?_
    repeat (first | (refine wpQuiet_step (fun K hK => ?_); rw [if_pos (by rfl)]; refine quiet_load_cell _ _ rfl _ rfl (.int .i16 (hgt L k)) (one16) (fun w' hw' => sun_hgt (Hz.out.below hw' Hz.out.lt) HL.out k hk) ?_; go_simp; refine hK _ ?_; clear hK K) | (refine wpQuiet_step (fun K hK => ?_); go_simp; first | (refine hK _ ?_; clear hK K) | (apply Exists.intro; refine ⟨fun w' hw' => ?_, hK _ ?_⟩; (first | rfl | exact ⟨rfl, rfl⟩ | ((first | (go_at_call 26; exact (fall_spec _ L HL.out k hk h1 h2 h3 h4 f f1 f2 _ (Hz.out.below hw' Hz.out.lt)).mono fun e w'' h => ⟨h.1, hw'.trans (h.2.mono hw'.size)⟩) | (go_at_call 27; exact (pass_spec _ n wd g t s H.out.1 H.out.2.1 H.out.2.2 t1 t2 (hgt L k) (by omega) h2 _ (Hs.out.below hw' Hs.out.lt)).mono fun e w'' h => ⟨h.1, hw'.trans (h.2.mono hw'.size)⟩)))); clear hK K)))
    refine wpQuiet_nil ?_
    intro w1 j1
    have j2 := hidd j1
    clear j1
    go_wp2
    go_ret; exact ⟨by rw [hd.out]; rfl, j2.out⟩
  · have hd := hidd (show win L k f wd g t s = 0 by unfold win; rw [if_neg hu])
    clear hw hg hq
    go_enter Try.func15, Try.ntmps15
    go_wp2
    go_ret; exact ⟨by rw [hd.out]; rfl, Below.refl _ _⟩
theorem window_impl (c : Nat) (n : Int) (wd g : Nat) (t : Int) (s : Nat) (hw : isLen wd = true) (hg : isLen g = true) (hq : isPart s = true) (t1 : -64 ≤ t) (t2 : t ≤ 64) (L : List Int) (hL : L.length = 48) (k : Nat) (hk : k < 24) (h1 : -64 ≤ hgt L k) (h2 : hgt L k ≤ 64) (h3 : 0 ≤ trn L k) (h4 : trn L k ≤ 255) (f : Int) (f1 : 0 ≤ f) (f2 : f ≤ 255) (w : World) (hz : Row w c (sunCells L)) :
    Calls Try.prog 20 #[.agg #[.int .i8 n, .float .f32 wd, .float .f32 g, .int .i16 t, .float .f32 s], .pointer (some ⟨c, 0, none⟩), .int .i64 k, .int .i64 f] w fun e w' => e = .returned (.float .f32 (win L k f wd g t s)) ∧ Below w.heap.size w w' := by
  have kp := hidd (Keep1.start w (blindCells n wd g t s) 32)
  have Hz0 := hidd hz
  have Hz := hidd (hz.alloc (.cells (blindCells n wd g t s) 32))
  have HL := hidd hL
  have i0 : (0 : Int) ≤ (k : Int) := by omega
  have i1 : (k : Int) < 24 := by omega
  clear hz hL
  by_cases hu : 0 < hgt L k
  · obtain ⟨q1, q2, q3⟩ := win_steps (f := f) (t := t) hw hg hq hu h2
    have hd := hidd q3
    have H := hidd (And.intro hw (And.intro hg hq))
    have hup : isUp L k = true := by unfold isUp; simp [hu]
    clear q3 hw hg hq
    have hw1 : IntKind.i64.wrap (hgt L k) = hgt L k := IntWalk.i64_in _ ⟨by omega, by omega⟩
    go_enter Try.func20, Try.ntmps20
    go_wp2_with (go_at_call 31; refine (isUp_impl _ L HL.out k hk _ Hz.out).mono ?_; rintro e w' ⟨rfl, rfl⟩)
    refine wp_region_in (fun w' => Keep1 w w' (blindCells n wd g t s)) (by kernel_rfl) (by kernel_rfl) kp.out.drew ?_
    repeat (first | (refine wpQuiet_step (fun K hK => ?_); rw [if_pos (by rfl)]; refine quiet_load_cell _ _ rfl _ rfl (.int .i16 (hgt L k)) (one16) (fun w' hw' => sun_hgt (Hz0.out.below hw'.below Hz0.out.lt) HL.out k hk) ?_; go_simp; refine hK _ ?_; clear hK K) | (refine wpQuiet_step (fun K hK => ?_); rw [if_pos (by rfl)]; refine quiet_load_all _ _ rfl _ rfl (blindCells n wd g t s) _ (agg_blind) (rfl) (fun w' hw' => hw'.row) ?_; go_simp; refine hK _ ?_; clear hK K) | (refine wpQuiet_step (fun K hK => ?_); go_simp; first | (refine hK _ ?_; clear hK K) | (apply Exists.intro; refine ⟨fun w' hw' => ?_, hK _ ?_⟩; (first | rfl | exact ⟨rfl, rfl⟩ | ((first | (go_at_call 32; exact (fall_impl _ L HL.out k hk h1 h2 h3 h4 f f1 f2 _ (Hz0.out.below hw'.below Hz0.out.lt)).mono fun e w'' h => ⟨h.1, hw'.step h.2⟩) | (go_at_call 33; exact (pass_impl n wd g t s H.out.1 H.out.2.1 H.out.2.2 t1 t2 (hgt L k) (by omega) h2 _).mono fun e w'' h => ⟨h.1, hw'.step h.2⟩)))); clear hK K)))
    refine wpQuiet_nil ?_
    intro w1 j1
    have j2 := hidd j1
    clear j1
    go_wp2
    go_ret; exact ⟨by rw [hd.out]; rfl, j2.out.below⟩
  · have hd := hidd (show win L k f wd g t s = 0 by unfold win; rw [if_neg hu])
    have hup : isUp L k = false := by unfold isUp; simp; omega
    clear hw hg hq
    go_enter Try.func20, Try.ntmps20
    go_wp2_with (go_at_call 31; refine (isUp_impl _ L HL.out k hk _ Hz.out).mono ?_; rintro e w' ⟨rfl, rfl⟩)
    go_ret; exact ⟨by rw [hd.out]; rfl, kp.out.below⟩
end Go.Proofs.Ytcdaajloheohoaa
