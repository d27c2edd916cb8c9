/-
  The tilt with which what passes is nearest to a wanted light.
-/
import Derived.Test.YtjbfnbdigaodoaaWbw
namespace Go.Proofs.Ytjbfnbdigaodoaa
open Go.RowKit Go.Proofs.Fl Go.Proofs.Pl
set_option linter.unusedVariables false

def tdist (wd g s : Nat) (h : Int) (wanted : Nat) (u : Int) : Nat := size (fsub (pass wd g u s h) wanted)
def toff (wd g s : Nat) (h : Int) (wanted : Nat) (i : Nat) : Nat := tdist wd g s h wanted ((i : Int) - 64)
def least128 (f : Nat → Nat) : Nat := leastOf f 128
theorem least128_eq (f : Nat → Nat) : leastOf f 128 = least128 f := rfl
theorem least128_le (f : Nat → Nat) : least128 f ≤ 128 := least_le f 128
attribute [irreducible] least128
def tiltAns2 (c : Int) (wd g s : Nat) (h : Int) (wanted : Nat) : (Int × Nat) × Int :=
  codeRes c ((0 : Int), (0 : Nat)) ((least128 (toff wd g s h wanted) : Int) - 64, pass wd g ((least128 (toff wd g s h wanted) : Int) - 64) s h)
theorem t2_ok {c : Int} {wd g s : Nat} {h : Int} {wanted : Nat} (e : c = 0) : tiltAns2 c wd g s h wanted = (((least128 (toff wd g s h wanted) : Int) - 64, pass wd g ((least128 (toff wd g s h wanted) : Int) - 64) s h), 0) := cr_ok e
theorem t2_no {c : Int} {wd g s : Nat} {h : Int} {wanted : Nat} (e : c ≠ 0) : tiltAns2 c wd g s h wanted = (((0 : Int), (0 : Nat)), c) := cr_no e
theorem tdist_steps {wd g s : Nat} {h : Int} {wanted : Nat} (u : Int) (hw : isLen wd = true) (hg : isLen g = true) (hq : isPart s = true) (h1 : 1 ≤ h) (h2 : h ≤ 64) (hp : isPart wanted = true) :
    Fnt (pass wd g u s h) ∧ Fnt wanted ∧ Fnt (fsub (pass wd g u s h) wanted) ∧ fsub (pass wd g u s h) wanted < 4294967296 := by
  obtain ⟨_, _, p1, p2, _⟩ := pass_fin (t := u) hw hg hq h1 h2
  obtain ⟨w1, _, w2⟩ := part_of hp
  have c := fsub_le' p2 w2 (by decide) (by decide) (c := 1300000000) (by decide) (by decide +kernel)
  exact ⟨p1, w1, fin_of_le c (by decide), (sub_fin p1 w1).2.lt⟩
theorem step_yes {wd g s : Nat} {h : Int} {wanted k bb : Nat} (hb : leastOf (toff wd g s h wanted) k = bb) (t : flt (tdist wd g s h wanted ((k : Int) - 63)) (tdist wd g s h wanted ((bb : Int) - 64)) = true) : leastOf (toff wd g s h wanted) (k + 1) = k + 1 := by
  refine least_yes ?_
  rw [hb]
  show flt (tdist wd g s h wanted (((k + 1 : Nat) : Int) - 64)) (tdist wd g s h wanted ((bb : Int) - 64)) = true
  rw [show (((k + 1 : Nat) : Int) - 64) = (k : Int) - 63 by omega]; exact t
theorem step_no {wd g s : Nat} {h : Int} {wanted k bb : Nat} (hb : leastOf (toff wd g s h wanted) k = bb) (t : flt (tdist wd g s h wanted ((k : Int) - 63)) (tdist wd g s h wanted ((bb : Int) - 64)) = false) : leastOf (toff wd g s h wanted) (k + 1) = bb := by
  rw [least_no (f := (toff wd g s h wanted)) (k := k) ?_, hb]
  rw [hb]
  show flt (tdist wd g s h wanted (((k + 1 : Nat) : Int) - 64)) (tdist wd g s h wanted ((bb : Int) - 64)) = false
  rw [show (((k + 1 : Nat) : Int) - 64) = (k : Int) - 63 by omega]; exact t
theorem tfar_impl (n : Int) (wd g : Nat) (t : Int) (s : Nat) (hw : isLen wd = true) (hg : isLen g = true) (hq : isPart s = true) (h : Int) (h1 : 1 ≤ h) (h2 : h ≤ 64) (wanted : Nat) (hp : isPart wanted = true) (u : Int) (u1 : -64 ≤ u) (u2 : u ≤ 64) (w0 w : World) (kp0 : Keep3 w0 w (blindCells n wd g (t) s) #[.int .i64 h] #[.float .f32 wanted]) :
    Calls Try.prog 56 #[.int .i64 u, .pointer (some ⟨w0.heap.size, 0, none⟩), .pointer (some ⟨w0.heap.size + 1, 0, none⟩), .pointer (some ⟨w0.heap.size + 1 + 1, 0, none⟩)] w fun e w' => e = .returned (.float .f32 (tdist wd g s h wanted u)) ∧ Below w.heap.size w w' := by
  obtain ⟨o1, o2, o3, o4⟩ := tdist_steps u hw hg hq h1 h2 hp
  have kp := hidd kp0
  have HH := hidd (And.intro hw (And.intro hg hq))
  have O3 := hidd o3
  clear kp0 hw hg hq hp o3
  unfold tdist
  go_enter Try.func56, Try.ntmps56
  go_wp2_with fail
  refine wp_region_in (fun w' => Below w.heap.size w w') (by kernel_rfl) (by kernel_rfl) (Below.refl _ _).drew ?_
  repeat (first | (refine wpQuiet_step (fun K hK => ?_); rw [if_pos (by rfl)]; refine quiet_load_all _ _ rfl _ rfl (blindCells n wd g (t) s) _ (agg_blind) (rfl) (fun w' hw' => (kp.out.step hw').row) ?_; go_simp; refine hK _ ?_; clear hK K) | (refine wpQuiet_step (fun K hK => ?_); rw [if_pos (by rfl)]; refine quiet_load_cell _ _ rfl _ rfl (.int .i64 h) (bone64) (fun w' hw' => (by rw [(kp.out.step hw').row2.cell]; rfl)) ?_; go_simp; refine hK _ ?_; clear hK K) | (refine wpQuiet_step (fun K hK => ?_); rw [if_pos (by rfl)]; refine quiet_load_cell _ _ rfl _ rfl (.float .f32 wanted) (bonef) (fun w' hw' => (by rw [(kp.out.step hw').row3.cell]; rfl)) ?_; go_simp; refine hK _ ?_; clear hK K) | (refine wpQuiet_step (fun K hK => ?_); go_simp; first | (refine hK _ ?_; clear hK K) | (apply Exists.intro; refine ⟨fun w' hw' => ?_, hK _ ?_⟩; (first | rfl | exact ⟨rfl, rfl⟩ | ((first | (go_at_call 57; exact (tilted_impl n wd g t s u u1 u2 _).mono fun e w'' h => ⟨h.1, hw'.trans (h.2.mono hw'.size)⟩) | (go_at_call 58; exact (pass_impl n wd g u s HH.out.1 HH.out.2.1 HH.out.2.2 u1 u2 h h1 h2 _).mono fun e w'' h => ⟨h.1, hw'.trans (h.2.mono hw'.size)⟩) | (go_at_call 47; exact (size_impl _ O3.out _).mono fun e w'' h => ⟨h.1, h.2 ▸ hw'⟩)))); clear hK K)))
  refine wpQuiet_nil ?_
  intro w1 j1
  have j2 := hidd j1
  clear j1
  go_wp2
  go_ret; exact ⟨rfl, j2.out⟩
set_option maxHeartbeats 2000000 in
theorem tiltFor_impl (n : Int) (wd g : Nat) (t : Int) (s : Nat) (n1 : -128 ≤ n) (n2 : n ≤ 127) (t1 : -32768 ≤ t) (t2 : t ≤ 32767) (h : Int) (wanted : Nat) (w : World) :
    Calls Try.prog 19 #[.agg #[.int .i8 n, .float .f32 wd, .float .f32 g, .int .i16 t, .float .f32 s], .int .i64 h, .float .f32 wanted] w fun e w' => e = .returned (.tuple #[.int .i64 (tiltAns2 (code2 (blindOk n wd g t s) (inR h 1 64 && isPart wanted)) wd g s h wanted).1.1, .float .f32 (tiltAns2 (code2 (blindOk n wd g t s) (inR h 1 64 && isPart wanted)) wd g s h wanted).1.2, .int .i64 (tiltAns2 (code2 (blindOk n wd g t s) (inR h 1 64 && isPart wanted)) wd g s h wanted).2]) ∧ Below w.heap.size w w' := by
  have kp := hidd (Keep3.start w (blindCells n wd g (t) s) #[.int .i64 h] #[.float .f32 wanted] 40 2 24).drew
  have hb := code_f (blindOk n wd g t s)
  rcases bool_or (inR h 1 64) with e1 | e1
  · have fin := hidd (show (tiltAns2 (code2 (blindOk n wd g t s) (inR h 1 64 && isPart wanted)) wd g s h wanted) = (((0 : Int), (0 : Nat)), code2 (blindOk n wd g t s) false) by rw [e1]; exact t2_no (code2_false _))
    go_enter Try.func19, Try.ntmps19
    go_wp2_with fail
    refine wp_region_in (fun w' => Keep3 w w' (blindCells n wd g (t) s) #[.int .i64 h] #[.float .f32 wanted]) (by kernel_rfl) (by kernel_rfl) kp.out ?_
    repeat (first | (refine wpQuiet_step (fun K hK => ?_); rw [if_pos (by rfl)]; refine quiet_load_all _ _ rfl _ rfl (blindCells n wd g (t) s) _ (agg_blind) (rfl) (fun w' hw' => hw'.row) ?_; go_simp; refine hK _ ?_; clear hK K) | (refine wpQuiet_step (fun K hK => ?_); rw [if_pos (by rfl)]; refine quiet_load_cell _ _ rfl _ rfl (.int .i64 h) (bone64) (fun w' hw' => (by rw [hw'.row2.cell]; rfl)) ?_; go_simp; refine hK _ ?_; clear hK K) | (refine wpQuiet_step (fun K hK => ?_); rw [if_pos (by rfl)]; refine quiet_load_cell _ _ rfl _ rfl (.float .f32 wanted) (bonef) (fun w' hw' => (by rw [hw'.row3.cell]; rfl)) ?_; go_simp; refine hK _ ?_; clear hK K) | (refine wpQuiet_step (fun K hK => ?_); go_simp; first | (refine hK _ ?_; clear hK K) | (apply Exists.intro; refine ⟨fun w' hw' => ?_, hK _ ?_⟩; (first | rfl | exact ⟨rfl, rfl⟩ | ((first | (go_at_call 55; exact (up_impl _ _).mono fun e w'' h => ⟨h.1, h.2 ▸ hw'⟩) | (go_at_call 43; exact (part_impl _ _).mono fun e w'' h => ⟨h.1, h.2 ▸ hw'⟩) | (go_at_call 54; exact (code_blind n wd g t s n1 n2 t1 t2 _ _).mono fun e w'' h => ⟨h.1, hw'.step h.2⟩)))); clear hK K)))
    refine wpQuiet_nil ?_
    intro w1 j1
    have j2 := hidd j1
    clear j1
    go_wp2
    go_ret3; exact ⟨by rw [fin.out]; rfl, j2.out.below⟩
  · rcases bool_or (isPart wanted) with e2 | e2
    · have fin := hidd (show (tiltAns2 (code2 (blindOk n wd g t s) (inR h 1 64 && isPart wanted)) wd g s h wanted) = (((0 : Int), (0 : Nat)), code2 (blindOk n wd g t s) false) by rw [e1, e2]; exact t2_no (code2_false _))
      go_enter Try.func19, Try.ntmps19
      go_wp2_with fail
      refine wp_region_in (fun w' => Keep3 w w' (blindCells n wd g (t) s) #[.int .i64 h] #[.float .f32 wanted]) (by kernel_rfl) (by kernel_rfl) kp.out ?_
      repeat (first | (refine wpQuiet_step (fun K hK => ?_); rw [if_pos (by rfl)]; refine quiet_load_all _ _ rfl _ rfl (blindCells n wd g (t) s) _ (agg_blind) (rfl) (fun w' hw' => hw'.row) ?_; go_simp; refine hK _ ?_; clear hK K) | (refine wpQuiet_step (fun K hK => ?_); rw [if_pos (by rfl)]; refine quiet_load_cell _ _ rfl _ rfl (.int .i64 h) (bone64) (fun w' hw' => (by rw [hw'.row2.cell]; rfl)) ?_; go_simp; refine hK _ ?_; clear hK K) | (refine wpQuiet_step (fun K hK => ?_); rw [if_pos (by rfl)]; refine quiet_load_cell _ _ rfl _ rfl (.float .f32 wanted) (bonef) (fun w' hw' => (by rw [hw'.row3.cell]; rfl)) ?_; go_simp; refine hK _ ?_; clear hK K) | (refine wpQuiet_step (fun K hK => ?_); go_simp; first | (refine hK _ ?_; clear hK K) | (apply Exists.intro; refine ⟨fun w' hw' => ?_, hK _ ?_⟩; (first | rfl | exact ⟨rfl, rfl⟩ | ((first | (go_at_call 55; exact (up_impl _ _).mono fun e w'' h => ⟨h.1, h.2 ▸ hw'⟩) | (go_at_call 43; exact (part_impl _ _).mono fun e w'' h => ⟨h.1, h.2 ▸ hw'⟩) | (go_at_call 54; exact (code_blind n wd g t s n1 n2 t1 t2 _ _).mono fun e w'' h => ⟨h.1, hw'.step h.2⟩)))); clear hK K)))
      refine wpQuiet_nil ?_
      intro w1 j1
      have j2 := hidd j1
      clear j1
      go_wp2
      go_ret3; exact ⟨by rw [fin.out]; rfl, j2.out.below⟩
    · clear hb
      have hcc : code2 (blindOk n wd g t s) true = (code2 (blindOk n wd g t s) (inR h 1 64 && isPart wanted)) := by rw [e1, e2]; rfl
      by_cases hc : code2 (blindOk n wd g t s) true = 0
      · have hb := bne_0 hc
        have fin := hidd (show (tiltAns2 (code2 (blindOk n wd g t s) (inR h 1 64 && isPart wanted)) wd g s h wanted) = (((least128 (toff wd g s h wanted) : Int) - 64, pass wd g ((least128 (toff wd g s h wanted) : Int) - 64) s h), 0) by rw [← hcc]; exact t2_ok hc)
        have H := hidd (blindOk_of (code2_zero.1 hc).1)
        have G := hidd (And.intro H.out.2.1 (And.intro H.out.2.2.1 H.out.2.2.2.2))
        have Hc := hidd hc
        have E := hidd (And.intro e1 e2)
        obtain ⟨h1, h2⟩ := inR_iff.1 e1
        clear hc hcc
        go_enter Try.func19, Try.ntmps19
        go_wp2_with fail
        refine wp_region_in (fun w' => Keep3 w w' (blindCells n wd g (t) s) #[.int .i64 h] #[.float .f32 wanted]) (by kernel_rfl) (by kernel_rfl) kp.out ?_
        repeat (first | (refine wpQuiet_step (fun K hK => ?_); rw [if_pos (by rfl)]; refine quiet_load_all _ _ rfl _ rfl (blindCells n wd g (t) s) _ (agg_blind) (rfl) (fun w' hw' => hw'.row) ?_; go_simp; refine hK _ ?_; clear hK K) | (refine wpQuiet_step (fun K hK => ?_); rw [if_pos (by rfl)]; refine quiet_load_cell _ _ rfl _ rfl (.int .i64 h) (bone64) (fun w' hw' => (by rw [hw'.row2.cell]; rfl)) ?_; go_simp; refine hK _ ?_; clear hK K) | (refine wpQuiet_step (fun K hK => ?_); rw [if_pos (by rfl)]; refine quiet_load_cell _ _ rfl _ rfl (.float .f32 wanted) (bonef) (fun w' hw' => (by rw [hw'.row3.cell]; rfl)) ?_; go_simp; refine hK _ ?_; clear hK K) | (refine wpQuiet_step (fun K hK => ?_); go_simp; first | (refine hK _ ?_; clear hK K) | (apply Exists.intro; refine ⟨fun w' hw' => ?_, hK _ ?_⟩; (first | rfl | exact ⟨rfl, rfl⟩ | ((first | (go_at_call 55; exact (up_impl _ _).mono fun e w'' h => ⟨h.1, h.2 ▸ hw'⟩) | (go_at_call 43; exact (part_impl _ _).mono fun e w'' h => ⟨h.1, h.2 ▸ hw'⟩) | (go_at_call 54; exact (code_blind n wd g t s n1 n2 t1 t2 _ _).mono fun e w'' h => ⟨h.1, hw'.step h.2⟩)))); clear hK K)))
        refine wpQuiet_nil ?_
        intro w1 j1
        have j2 := hidd j1
        clear j1
        go_wp2_with fail
        go_loopw [10, 12] (fun bs i wr => ∃ k : Nat, k ≤ 128 ∧ i = .int .i64 ((k : Int) - 63) ∧ bs = .int .i64 ((leastOf (toff wd g s h wanted) k : Int) - 64) ∧ Keep3 w wr (blindCells n wd g (t) s) #[.int .i64 h] #[.float .f32 wanted]) (fun _ i _ => (65 - intOf i).toNat)
        case atStart => exact ⟨0, by omega, rfl, rfl, j2.out⟩
        case round =>
          obtain ⟨k, hk, rfl, rfl, kr⟩ := hrel
          have kq := hidd kr
          clear kr j2
          have hle := least_le (toff wd g s h wanted) k
          generalize hbb : leastOf (toff wd g s h wanted) k = bb at *
          have Hbb := hidd hbb
          by_cases hlt : k < 128
          · clear hbb
            have x1 : -64 ≤ (k : Int) - 63 := by omega
            have x2 : (k : Int) - 63 ≤ 64 := by omega
            have y1 : -64 ≤ (bb : Int) - 64 := by omega
            have y2 : (bb : Int) - 64 ≤ 64 := by omega
            go_wp2_with fail
            refine (tfar_impl n wd g t s G.out.1 G.out.2.1 G.out.2.2 h h1 h2 wanted E.out.2 ((k : Int) - 63) x1 x2 w _ kq.out).mono ?_
            rintro e wm ⟨rfl, hbm⟩
            have km := hidd (kq.out.step hbm)
            clear hbm
            go_wp2_with fail
            refine (tfar_impl n wd g t s G.out.1 G.out.2.1 G.out.2.2 h h1 h2 wanted E.out.2 ((bb : Int) - 64) y1 y2 w _ km.out).mono ?_
            rintro e wz ⟨rfl, hbz⟩
            have kz := hidd (km.out.step hbz)
            clear hbz
            go_wp2
            · have t0 : flt (tdist wd g s h wanted ((k : Int) - 63)) (tdist wd g s h wanted ((bb : Int) - 64)) = true := by assumption
              go_roundw
              case rel => exact ⟨k + 1, by omega, by go_num, by rw [step_yes Hbb.out t0]; go_num, kz.out⟩
              case measure => simp [intOf]; omega
            · have t0 : flt (tdist wd g s h wanted ((k : Int) - 63)) (tdist wd g s h wanted ((bb : Int) - 64)) = false := by assumption
              go_roundw
              case rel => exact ⟨k + 1, by omega, by go_num, by rw [step_no Hbb.out t0], kz.out⟩
              case measure => simp [intOf]; omega
          · obtain rfl : k = 128 := by omega
            rw [least128_eq] at hbb
            have HB := hidd hbb
            clear hbb Hbb
            have y1 : -64 ≤ (bb : Int) - 64 := by omega
            have y2 : (bb : Int) - 64 ≤ 64 := by omega
            go_wp2_with fail
            refine wp_region_in (fun w' => Keep3 w w' (blindCells n wd g (t) s) #[.int .i64 h] #[.float .f32 wanted]) (by kernel_rfl) (by kernel_rfl) kq.out.drew ?_
            repeat (first | (refine wpQuiet_step (fun K hK => ?_); rw [if_pos (by rfl)]; refine quiet_load_all _ _ rfl _ rfl (blindCells n wd g (t) s) _ (agg_blind) (rfl) (fun w' hw' => hw'.row) ?_; go_simp; refine hK _ ?_; clear hK K) | (refine wpQuiet_step (fun K hK => ?_); rw [if_pos (by rfl)]; refine quiet_load_cell _ _ rfl _ rfl (.int .i64 h) (bone64) (fun w' hw' => (by rw [hw'.row2.cell]; rfl)) ?_; go_simp; refine hK _ ?_; clear hK K) | (refine wpQuiet_step (fun K hK => ?_); go_simp; first | (refine hK _ ?_; clear hK K) | (apply Exists.intro; refine ⟨fun w' hw' => ?_, hK _ ?_⟩; (first | rfl | exact ⟨rfl, rfl⟩ | ((first | (go_at_call 57; exact (tilted_impl n wd g t s ((bb : Int) - 64) y1 y2 _).mono fun e w'' h => ⟨h.1, hw'.step h.2⟩) | (go_at_call 58; exact (pass_impl n wd g ((bb : Int) - 64) s G.out.1 G.out.2.1 G.out.2.2 y1 y2 h h1 h2 _).mono fun e w'' h => ⟨h.1, hw'.step h.2⟩)))); clear hK K)))
            refine wpQuiet_nil ?_
            intro w2 j3
            have kz := hidd j3
            clear j3
            go_wp2
            go_ret3; exact ⟨by rw [fin.out, HB.out]; rfl, kz.out.below⟩
      · have hb := bne_1 hc
        have fin := hidd (show (tiltAns2 (code2 (blindOk n wd g t s) (inR h 1 64 && isPart wanted)) wd g s h wanted) = (((0 : Int), (0 : Nat)), code2 (blindOk n wd g t s) true) by rw [← hcc]; exact t2_no hc)
        have Hc := hidd hc
        clear hc hcc
        go_enter Try.func19, Try.ntmps19
        go_wp2_with fail
        refine wp_region_in (fun w' => Keep3 w w' (blindCells n wd g (t) s) #[.int .i64 h] #[.float .f32 wanted]) (by kernel_rfl) (by kernel_rfl) kp.out ?_
        repeat (first | (refine wpQuiet_step (fun K hK => ?_); rw [if_pos (by rfl)]; refine quiet_load_all _ _ rfl _ rfl (blindCells n wd g (t) s) _ (agg_blind) (rfl) (fun w' hw' => hw'.row) ?_; go_simp; refine hK _ ?_; clear hK K) | (refine wpQuiet_step (fun K hK => ?_); rw [if_pos (by rfl)]; refine quiet_load_cell _ _ rfl _ rfl (.int .i64 h) (bone64) (fun w' hw' => (by rw [hw'.row2.cell]; rfl)) ?_; go_simp; refine hK _ ?_; clear hK K) | (refine wpQuiet_step (fun K hK => ?_); rw [if_pos (by rfl)]; refine quiet_load_cell _ _ rfl _ rfl (.float .f32 wanted) (bonef) (fun w' hw' => (by rw [hw'.row3.cell]; rfl)) ?_; go_simp; refine hK _ ?_; clear hK K) | (refine wpQuiet_step (fun K hK => ?_); go_simp; first | (refine hK _ ?_; clear hK K) | (apply Exists.intro; refine ⟨fun w' hw' => ?_, hK _ ?_⟩; (first | rfl | exact ⟨rfl, rfl⟩ | ((first | (go_at_call 55; exact (up_impl _ _).mono fun e w'' h => ⟨h.1, h.2 ▸ hw'⟩) | (go_at_call 43; exact (part_impl _ _).mono fun e w'' h => ⟨h.1, h.2 ▸ hw'⟩) | (go_at_call 54; exact (code_blind n wd g t s n1 n2 t1 t2 _ _).mono fun e w'' h => ⟨h.1, hw'.step h.2⟩)))); clear hK K)))
        refine wpQuiet_nil ?_
        intro w1 j1
        have j2 := hidd j1
        clear j1
        go_wp2
        go_ret3; exact ⟨by rw [fin.out]; rfl, j2.out.below⟩
set_option maxHeartbeats 2000000 in
theorem tiltFor_spec (n : Int) (wd g : Nat) (t : Int) (s : Nat) (n1 : -128 ≤ n) (n2 : n ≤ 127) (t1 : -32768 ≤ t) (t2 : t ≤ 32767) (h : Int) (wanted : Nat) (w : World) :
    Calls Try.prog 20 #[.agg #[.int .i8 n, .float .f32 wd, .float .f32 g, .int .i16 t, .float .f32 s], .int .i64 h, .float .f32 wanted] w fun e w' => e = .returned (.tuple #[.int .i64 (tiltAns2 (code2 (blindOk n wd g t s) (inR h 1 64 && isPart wanted)) wd g s h wanted).1.1, .float .f32 (tiltAns2 (code2 (blindOk n wd g t s) (inR h 1 64 && isPart wanted)) wd g s h wanted).1.2, .int .i64 (tiltAns2 (code2 (blindOk n wd g t s) (inR h 1 64 && isPart wanted)) wd g s h wanted).2]) ∧ Below w.heap.size w w' := by
  have kp := hidd (Keep1.start w (blindCells n wd g (t) s) 40)
  have hb := code_f (blindOk n wd g t s)
  rcases bool_or (inR h 1 64) with e1 | e1
  · have fin := hidd (show (tiltAns2 (code2 (blindOk n wd g t s) (inR h 1 64 && isPart wanted)) wd g s h wanted) = (((0 : Int), (0 : Nat)), code2 (blindOk n wd g t s) false) by rw [e1]; exact t2_no (code2_false _))
    go_enter Try.func20, Try.ntmps20
    go_wp2_with (first | (go_at_call 60; refine (up_spec _ _).mono ?_; rintro e w' ⟨rfl, rfl⟩) | (go_at_call 39; refine (part_l01 _ _).mono ?_; rintro e w' ⟨rfl, rfl⟩) | (go_at_call 59; refine (asked_blind _ n wd g t s n1 n2 t1 t2 _ _ kp.out.row).mono ?_; rintro e w' ⟨rfl, rfl⟩))
    go_ret3; exact ⟨by rw [fin.out]; rfl, kp.out.below⟩
  · rcases bool_or (isPart wanted) with e2 | e2
    · have fin := hidd (show (tiltAns2 (code2 (blindOk n wd g t s) (inR h 1 64 && isPart wanted)) wd g s h wanted) = (((0 : Int), (0 : Nat)), code2 (blindOk n wd g t s) false) by rw [e1, e2]; exact t2_no (code2_false _))
      go_enter Try.func20, Try.ntmps20
      go_wp2_with (first | (go_at_call 60; refine (up_spec _ _).mono ?_; rintro e w' ⟨rfl, rfl⟩) | (go_at_call 39; refine (part_l01 _ _).mono ?_; rintro e w' ⟨rfl, rfl⟩) | (go_at_call 59; refine (asked_blind _ n wd g t s n1 n2 t1 t2 _ _ kp.out.row).mono ?_; rintro e w' ⟨rfl, rfl⟩))
      go_ret3; exact ⟨by rw [fin.out]; rfl, kp.out.below⟩
    · clear hb
      have hcc : code2 (blindOk n wd g t s) true = (code2 (blindOk n wd g t s) (inR h 1 64 && isPart wanted)) := by rw [e1, e2]; rfl
      by_cases hc : code2 (blindOk n wd g t s) true = 0
      · have hb := bne_0 hc
        have fin := hidd (show (tiltAns2 (code2 (blindOk n wd g t s) (inR h 1 64 && isPart wanted)) wd g s h wanted) = (((least128 (toff wd g s h wanted) : Int) - 64, pass wd g ((least128 (toff wd g s h wanted) : Int) - 64) s h), 0) by rw [← hcc]; exact t2_ok hc)
        have H := hidd (blindOk_of (code2_zero.1 hc).1)
        have G := hidd (And.intro H.out.2.1 (And.intro H.out.2.2.1 H.out.2.2.2.2))
        have Hc := hidd hc
        have E := hidd (And.intro e1 e2)
        obtain ⟨h1, h2⟩ := inR_iff.1 e1
        clear hc hcc
        have q0 := tdist_steps (-64) G.out.1 G.out.2.1 G.out.2.2 h1 h2 E.out.2
        obtain ⟨q1, q2, q3, q4⟩ := q0
        have Q0 := hidd (And.intro q3 q4)
        clear q3 q4
        have x1 : -64 ≤ (-64 : Int) := by omega
        have x2 : (-64 : Int) ≤ 64 := by omega
        have c3 := bl_3 kp.out.row
        have f3 := kp.out.row.frozen 3
        go_enter Try.func20, Try.ntmps20
        go_wp2_with (first | (go_at_call 60; refine (up_spec _ _).mono ?_; rintro e w' ⟨rfl, rfl⟩) | (go_at_call 39; refine (part_l01 _ _).mono ?_; rintro e w' ⟨rfl, rfl⟩) | (go_at_call 59; refine (asked_blind _ n wd g t s n1 n2 t1 t2 _ _ kp.out.row).mono ?_; rintro e w' ⟨rfl, rfl⟩) | (go_at_call 61; refine (pass_spec w.heap.size n wd g (-64) s G.out.1 G.out.2.1 G.out.2.2 x1 x2 h h1 h2 _ ((Keep1.start w ((blindCells n wd g (t) s).setIfInBounds 3 (.int .i16 (-64))) 40).row)).mono ?_; rintro e w3 ⟨rfl, hb3⟩; have r3 := hidd (((Keep1.start w ((blindCells n wd g (t) s).setIfInBounds 3 (.int .i16 (-64))) 40).row).below hb3 ((Keep1.start w ((blindCells n wd g (t) s).setIfInBounds 3 (.int .i16 (-64))) 40).row).lt); have b3 := hidd ((Keep1.start w ((blindCells n wd g (t) s).setIfInBounds 3 (.int .i16 (-64))) 40).below.trans (hb3.mono (by simp))); clear hb3))
        refine (size_l01 _ Q0.out.1 Q0.out.2 _).mono ?_
        rintro e w' ⟨rfl, rfl⟩
        clear c3 f3 x1 x2 q1
        go_wp2_with fail
        go_loopw [10, 11, 12, 13] (fun bs pl ol i wr => ∃ (k : Nat) (u : Int), k ≤ 128 ∧ i = .int .i64 ((k : Int) - 63) ∧ bs = .int .i64 ((leastOf (toff wd g s h wanted) k : Int) - 64) ∧ pl = .float .f32 (pass wd g ((leastOf (toff wd g s h wanted) k : Int) - 64) s h) ∧ ol = .float .f32 (tdist wd g s h wanted ((leastOf (toff wd g s h wanted) k : Int) - 64)) ∧ Row wr w.heap.size (blindCells n wd g (u) s) ∧ Below w.heap.size w wr) (fun _ _ _ i _ => (65 - intOf i).toNat)
        case atStart => exact ⟨0, -64, by omega, rfl, rfl, rfl, rfl, r3.out, b3.out⟩
        case round =>
          obtain ⟨k, u, hk, rfl, rfl, rfl, rfl, kr, kb⟩ := hrel
          have kq := hidd (And.intro kr kb)
          have c3 := bl_3 kr
          have f3 := kr.frozen 3
          clear kr kb kp r3 b3
          have hle := least_le (toff wd g s h wanted) k
          generalize hbb : leastOf (toff wd g s h wanted) k = bb at *
          have Hbb := hidd hbb
          by_cases hlt : k < 128
          · clear hbb
            have x1 : -64 ≤ (k : Int) - 63 := by omega
            have x2 : (k : Int) - 63 ≤ 64 := by omega
            obtain ⟨o1, o2, o3, o4⟩ := tdist_steps ((k : Int) - 63) G.out.1 G.out.2.1 G.out.2.2 h1 h2 E.out.2
            have O := hidd (And.intro o3 o4)
            clear o3 o4
            rcases bool_or (flt (tdist wd g s h wanted ((k : Int) - 63)) (tdist wd g s h wanted ((bb : Int) - 64))) with t0 | t0
            · have t1 : flt (size (fsub (pass wd g ((k : Int) - 63) s h) wanted)) (tdist wd g s h wanted ((bb : Int) - 64)) = false := t0
              go_wp2_with (go_at_call 61; refine (pass_spec w.heap.size n wd g ((k : Int) - 63) s G.out.1 G.out.2.1 G.out.2.2 x1 x2 h h1 h2 (wr.setCell ⟨w.heap.size, 3, none⟩ (.int .i16 ((k : Int) - 63))) ((kq.out.1.set 3 (.int .i16 ((k : Int) - 63))))).mono ?_; rintro e w3 ⟨rfl, hb3⟩; have r3 := hidd (((kq.out.1.set 3 (.int .i16 ((k : Int) - 63)))).below hb3 ((kq.out.1.set 3 (.int .i16 ((k : Int) - 63)))).lt); have b3 := hidd ((kq.out.2.trans ((Wrote.setCell wr w.heap.size 3 (.int .i16 ((k : Int) - 63))).below (Nat.le_refl _))).trans (hb3.mono (by have := kq.out.1.lt; simp [World.setCell]; omega))); clear hb3)
              refine (size_l01 _ O.out.1 O.out.2 _).mono ?_
              rintro e w' ⟨rfl, rfl⟩
              go_wp2
              go_roundw
              case rel => exact ⟨k + 1, (k : Int) - 63, by omega, by go_num, by rw [step_no Hbb.out t0], by rw [step_no Hbb.out t0], by rw [step_no Hbb.out t0], r3.out, b3.out⟩
              case measure => simp [intOf]; omega
            · have t1 : flt (size (fsub (pass wd g ((k : Int) - 63) s h) wanted)) (tdist wd g s h wanted ((bb : Int) - 64)) = true := t0
              have ec := hidd (show (((k + 1 : Nat) : Int) - 64) = (k : Int) - 63 by omega)
              go_wp2_with (go_at_call 61; refine (pass_spec w.heap.size n wd g ((k : Int) - 63) s G.out.1 G.out.2.1 G.out.2.2 x1 x2 h h1 h2 (wr.setCell ⟨w.heap.size, 3, none⟩ (.int .i16 ((k : Int) - 63))) ((kq.out.1.set 3 (.int .i16 ((k : Int) - 63))))).mono ?_; rintro e w3 ⟨rfl, hb3⟩; have r3 := hidd (((kq.out.1.set 3 (.int .i16 ((k : Int) - 63)))).below hb3 ((kq.out.1.set 3 (.int .i16 ((k : Int) - 63)))).lt); have b3 := hidd ((kq.out.2.trans ((Wrote.setCell wr w.heap.size 3 (.int .i16 ((k : Int) - 63))).below (Nat.le_refl _))).trans (hb3.mono (by have := kq.out.1.lt; simp [World.setCell]; omega))); clear hb3)
              refine (size_l01 _ O.out.1 O.out.2 _).mono ?_
              rintro e w' ⟨rfl, rfl⟩
              go_wp2_with fail
              refine (size_l01 _ O.out.1 O.out.2 _).mono ?_
              rintro e w' ⟨rfl, rfl⟩
              go_wp2
              go_roundw
              case rel => exact ⟨k + 1, (k : Int) - 63, by omega, by go_num, by rw [step_yes Hbb.out t0, ec.out], by rw [step_yes Hbb.out t0, ec.out], by rw [step_yes Hbb.out t0, ec.out]; rfl, r3.out, b3.out⟩
              case measure => simp [intOf]; omega
          · obtain rfl : k = 128 := by omega
            rw [least128_eq] at hbb
            have HB := hidd hbb
            clear hbb Hbb
            go_wp2
            go_ret3; exact ⟨by rw [fin.out, HB.out]; rfl, kq.out.2⟩
      · have hb := bne_1 hc
        have fin := hidd (show (tiltAns2 (code2 (blindOk n wd g t s) (inR h 1 64 && isPart wanted)) wd g s h wanted) = (((0 : Int), (0 : Nat)), code2 (blindOk n wd g t s) true) by rw [← hcc]; exact t2_no hc)
        have Hc := hidd hc
        clear hc hcc
        go_enter Try.func20, Try.ntmps20
        go_wp2_with (first | (go_at_call 60; refine (up_spec _ _).mono ?_; rintro e w' ⟨rfl, rfl⟩) | (go_at_call 39; refine (part_l01 _ _).mono ?_; rintro e w' ⟨rfl, rfl⟩) | (go_at_call 59; refine (asked_blind _ n wd g t s n1 n2 t1 t2 _ _ kp.out.row).mono ?_; rintro e w' ⟨rfl, rfl⟩))
        go_ret3; exact ⟨by rw [fin.out]; rfl, kp.out.below⟩
end Go.Proofs.Ytjbfnbdigaodoaa
