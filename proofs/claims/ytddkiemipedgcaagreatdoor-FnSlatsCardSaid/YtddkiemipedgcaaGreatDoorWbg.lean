/-
  The gap with which so much is open.
-/
import Derived.Test.YtddkiemipedgcaaGreatDoorWbw
namespace Go.Proofs.YtddkiemipedgcaaGreatDoor
open Go.RowKit Go.Proofs.Fl Go.Proofs.Pl
set_option linter.unusedVariables false

def mid (p : Nat × Nat) : Nat := fdiv (fadd p.1 p.2) 1073741824
/-- One cut in two. -/
def halve (wd : Nat) (t h : Int) (wanted : Nat) (p : Nat × Nat) : Nat × Nat := if flt (opn wd (mid p) t h) wanted = true then (mid p, p.2) else (p.1, mid p)
def halves (wd : Nat) (t h : Int) (wanted : Nat) : Nat → Nat × Nat
  | 0 => (1031798784, 1115684864)
  | k + 1 => halve wd t h wanted (halves wd t h wanted k)
def InLen (x : Nat) : Prop := Fnt x ∧ 1031798784 ≤ x ∧ x ≤ 1115684864
theorem inlen_len {x : Nat} (h : InLen x) : isLen x = true := by
  obtain ⟨f, a, b⟩ := h
  have e := rung_id (show x < 2147483648 by omega)
  unfold isLen
  rw [fge_fin f (by decide), fle_fin f (by decide), V_pos e.2, e.1]
  have v1 : V 1031798784 = (M 1031798784 : Int) := by decide +kernel
  have v2 : V 1115684864 = (M 1115684864 : Int) := by decide +kernel
  rw [v1, v2]
  have := M_mono a
  have := M_mono b
  simp; omega
theorem mid_in {p : Nat × Nat} (h1 : InLen p.1) (h2 : InLen p.2) : InLen (mid p) ∧ Fnt (fadd p.1 p.2) := by
  obtain ⟨f1, a1, b1⟩ := h1
  obtain ⟨f2, a2, b2⟩ := h2
  have e1 := rung_id (show p.1 < 2147483648 by omega)
  have e2 := rung_id (show p.2 < 2147483648 by omega)
  have su := fadd_le' (x := p.1) (y := p.2) (a := 1115684864) (b := 1115684864) (by rw [e1.1]; exact b1) (by rw [e2.1]; exact b2) (by decide) (by decide) (c := 1124073472) (by decide) (by decide +kernel)
  have fs := fin_of_le su (by decide)
  have af := (add_fin f1 f2).2
  have v1 := V_pos e1.2
  have v2 := V_pos e2.2
  rw [e1.1] at v1
  rw [e2.1] at v2
  have m1 := M_mono a1
  have m2 := M_mono a2
  have p0 : M 1031798784 + M 1031798784 = M 1040187392 := by decide +kernel
  have sl : 1040187392 ≤ rung (fadd p.1 p.2) := by
    refine rnd_ge af.rnd (by decide) (by decide) ?_
    rw [v1, v2, Nat.mul_one, ← p0]; omega
  have ss : sg (fadd p.1 p.2) = false := by
    rw [af.sg]
    have q : ¬ (V p.1 + V p.2 < 0) := by rw [v1, v2]; omega
    have q2 : ¬ (V p.1 + V p.2 = 0) := by
      have : 0 < M 1031798784 := by decide +kernel
      rw [v1, v2]; omega
    first | (rw [if_neg q2]; simp [q]) | simp [q, q2, e1.2, e2.2]
  have dl := fdiv_le' (y := 1073741824) (b := 1073741824) su (by decide) (by decide) (by decide) (by decide) (c := 1115684864) (by decide) (by decide +kernel)
  have dg := fdiv_ge' (y := 1073741824) (b := 1073741824) sl (by decide) fs (by decide) (by decide) (c := 1031798784) (by decide) (by decide +kernel)
  have df := (div_fin fs (show Fnt 1073741824 by decide) (by decide)).2
  have ds : sg (mid p) = false := by unfold mid; rw [df.sg, ss]; decide
  have dw := word_id df.lt ds
  have dw' : mid p = rung (mid p) := dw
  refine ⟨⟨fin_of_le dl (by decide), ?_, ?_⟩, fs⟩
  · rw [dw']; exact dg
  · rw [dw']; exact dl
theorem halves_in (wd : Nat) (t h : Int) (wanted : Nat) : ∀ k, InLen (halves wd t h wanted k).1 ∧ InLen (halves wd t h wanted k).2
  | 0 => by unfold InLen halves; decide
  | k + 1 => by
    have ih := halves_in wd t h wanted k
    have m := (mid_in ih.1 ih.2).1
    unfold halves halve
    split
    · exact ⟨m, ih.2⟩
    · exact ⟨ih.1, m⟩
def halves30 (wd : Nat) (t h : Int) (wanted : Nat) : Nat × Nat := halves wd t h wanted 30
theorem halves30_eq (wd : Nat) (t h : Int) (wanted : Nat) : halves wd t h wanted 30 = halves30 wd t h wanted := rfl
theorem halves30_in (wd : Nat) (t h : Int) (wanted : Nat) : InLen (halves30 wd t h wanted).2 := (halves_in wd t h wanted 30).2
attribute [irreducible] halves30
theorem halves_yes {wd : Nat} {t h : Int} {wanted k a b : Nat} (e : halves wd t h wanted k = (a, b)) (f : flt (opn wd (fdiv (fadd a b) 1073741824) t h) wanted = true) : halves wd t h wanted (k + 1) = (fdiv (fadd a b) 1073741824, b) := by
  unfold halves; rw [e]; unfold halve; exact if_pos f
theorem halves_no {wd : Nat} {t h : Int} {wanted k a b : Nat} (e : halves wd t h wanted k = (a, b)) (f : flt (opn wd (fdiv (fadd a b) 1073741824) t h) wanted = false) : halves wd t h wanted (k + 1) = (a, fdiv (fadd a b) 1073741824) := by
  unfold halves; rw [e]; unfold halve; exact if_neg (by show ¬ (flt (opn wd (fdiv (fadd a b) 1073741824) t h) wanted = true); rw [f]; exact Bool.false_ne_true)
def gapAns (c : Int) (wd : Nat) (t h : Int) (wanted : Nat) : Nat × Int :=
  if c = 0 then if flt (opn wd 1115684864 t h) wanted = true then (0, 6) else ((halves30 wd t h wanted).2, 0) else (0, c)
theorem ga_no {c : Int} {wd : Nat} {t h : Int} {wanted : Nat} (e : c ≠ 0) : gapAns c wd t h wanted = (0, c) := if_neg e
theorem ga_six {c : Int} {wd : Nat} {t h : Int} {wanted : Nat} (e : c = 0) (f : flt (opn wd 1115684864 t h) wanted = true) : gapAns c wd t h wanted = (0, 6) := by unfold gapAns; rw [if_pos e, if_pos f]
theorem ga_ok {c : Int} {wd : Nat} {t h : Int} {wanted : Nat} (e : c = 0) (f : flt (opn wd 1115684864 t h) wanted = false) : gapAns c wd t h wanted = ((halves30 wd t h wanted).2, 0) := by unfold gapAns; rw [if_pos e, if_neg (by rw [f]; exact Bool.false_ne_true)]
theorem ga_fnt (c : Int) (wd : Nat) (t h : Int) (wanted : Nat) : Fnt (gapAns c wd t h wanted).1 := by
  unfold gapAns; split
  · split
    · show Fnt 0; decide
    · exact (halves30_in wd t h wanted).1
  · show Fnt 0; decide
theorem keep1_set {w0 w : World} {c : Array Value} (h : Keep1 w0 w c) (i : Nat) (v : Value) : Keep1 w0 (w.setCell ⟨w0.heap.size, i, none⟩ v) (c.setIfInBounds i v) :=
  ⟨h.below.trans ((Wrote.setCell w w0.heap.size i v).below (Nat.le_refl _)), h.row.set i v⟩
theorem keep2_set {w0 w : World} {c d : Array Value} (h : Keep2 w0 w c d) (i : Nat) (v : Value) : Keep2 w0 (w.setCell ⟨w0.heap.size, i, none⟩ v) (c.setIfInBounds i v) d :=
  ⟨h.below.trans ((Wrote.setCell w w0.heap.size i v).below (Nat.le_refl _)), h.row.set i v, h.row2.set_other _ _ (by simp)⟩
set_option maxRecDepth 100000 in
theorem gap1 (n : Int) (wd x : Nat) (t : Int) (s : Nat) (hw : isLen wd = true) (t1 : -64 ≤ t) (t2 : t ≤ 64) (h : Int) (h1 : 1 ≤ h) (h2 : h ≤ 64) (y : Nat) (hy : InLen y) (w0 w : World) (kp0 : Keep2 w0 w (blindCells n wd (x) t s) #[.int .i64 h]) :
    Calls Tryz.prog 97 #[.float .f32 y, .pointer (some ⟨w0.heap.size, 0, none⟩), .pointer (some ⟨w0.heap.size + 1, 0, none⟩)] w fun e w' => e = .returned (.float .f32 (opn wd y t h)) ∧ Keep2 w0 w' (blindCells n wd (y) t s) #[.int .i64 h] := by
  have kp : Hid (Keep2 w0 (w.setCell ⟨w0.heap.size, 2, none⟩ (.float .f32 y)) (blindCells n wd (y) t s) #[.int .i64 h]) := keep2_set kp0 2 (.float .f32 y)
  have c2 := bl_2 kp0.row
  have f2 := kp0.row.frozen 2
  have c3 : (w.setCell ⟨w0.heap.size, 2, none⟩ (.float .f32 y)).cell? ⟨w0.heap.size + 1, 0, none⟩ = some (.int .i64 h) := by rw [kp.out.row2.cell]; rfl
  have HY := hidd (And.intro hw (inlen_len hy))
  clear kp0 hw hy
  go_enter Tryz.func97, Tryz.ntmps97
  go_wp2_with (first | (refine wpList_load_all rfl _ _ rfl _ rfl (blindCells n wd (y) t s) 5 agg_blind rfl kp.out.row ?_) | (go_at_call 91; refine (open_impl n wd y t s HY.out.1 HY.out.2 t1 t2 h h1 h2 _).mono ?_; rintro e wn ⟨rfl, hbn⟩; have kn := hidd (kp.out.step hbn); clear kp hbn; have kp := kn; clear kn))
  go_ret; exact ⟨rfl, kp.out⟩
set_option maxHeartbeats 4000000 in
set_option maxRecDepth 100000 in
theorem gapFor_impl (n : Int) (wd g : Nat) (t : Int) (s : Nat) (n1 : -128 ≤ n) (n2 : n ≤ 127) (t1 : -32768 ≤ t) (t2 : t ≤ 32767) (h : Int) (wanted : Nat) (w : World) :
    Calls Tryz.prog 46 #[.agg #[.int .i8 n, .float .f32 wd, .float .f32 g, .int .i16 t, .float .f32 s], .int .i64 h, .float .f32 wanted] w fun e w' => e = .returned (.tuple #[.float .f32 (gapAns (code2 (blindOk n wd g t s) (inR h 1 64 && isPart wanted)) wd t h wanted).1, .int .i64 (gapAns (code2 (blindOk n wd g t s) (inR h 1 64 && isPart wanted)) wd t h wanted).2]) ∧ Below w.heap.size w w' := by
  have kp := hidd (Keep2.start w (blindCells n wd (g) t s) #[.int .i64 h] 56 2).drew
  have hb := code_f (blindOk n wd g t s)
  rcases bool_or (inR h 1 64) with e1 | e1
  · have fin := hidd (show (gapAns (code2 (blindOk n wd g t s) (inR h 1 64 && isPart wanted)) wd t h wanted) = (0, code2 (blindOk n wd g t s) false) by rw [e1]; exact ga_no (code2_false _))
    go_enter Tryz.func46, Tryz.ntmps46
    go_wp2_with fail
    refine wp_region_in (fun w' => Keep2 w w' (blindCells n wd (g) t s) #[.int .i64 h]) (by kernel_rfl) (by kernel_rfl) kp.out ?_
    repeat (first | (refine wpQuiet_step (fun K hK => ?_); rw [if_pos (by rfl)]; refine quiet_load_all _ _ rfl _ rfl (blindCells n wd (g) t s) _ (agg_blind) (rfl) (fun w' hw' => hw'.row) ?_; go_simp; refine hK _ ?_; clear hK K) | (refine wpQuiet_step (fun K hK => ?_); rw [if_pos (by rfl)]; refine quiet_load_cell _ _ rfl _ rfl (.int .i64 h) (bone64) (fun w' hw' => (by rw [hw'.row2.cell]; rfl)) ?_; go_simp; refine hK _ ?_; clear hK K) | (refine wpQuiet_step (fun K hK => ?_); go_simp; first | (refine hK _ ?_; clear hK K) | (apply Exists.intro; refine ⟨fun w' hw' => ?_, hK _ ?_⟩; (first | rfl | exact ⟨rfl, rfl⟩ | ((first | (go_at_call 86; exact (up_impl _ _).mono fun e w'' h => ⟨h.1, h.2 ▸ hw'⟩) | (go_at_call 71; exact (part_impl _ _).mono fun e w'' h => ⟨h.1, h.2 ▸ hw'⟩) | (go_at_call 85; exact (code_blind n wd g t s n1 n2 t1 t2 _ _).mono fun e w'' h => ⟨h.1, hw'.step h.2⟩)))); clear hK K)))
    refine wpQuiet_nil ?_
    intro w1 j1
    have j2 := hidd j1
    clear j1
    go_wp2
    go_ret2; exact ⟨by rw [fin.out]; rfl, j2.out.below⟩
  · rcases bool_or (isPart wanted) with e2 | e2
    · have fin := hidd (show (gapAns (code2 (blindOk n wd g t s) (inR h 1 64 && isPart wanted)) wd t h wanted) = (0, code2 (blindOk n wd g t s) false) by rw [e1, e2]; exact ga_no (code2_false _))
      go_enter Tryz.func46, Tryz.ntmps46
      go_wp2_with fail
      refine wp_region_in (fun w' => Keep2 w w' (blindCells n wd (g) t s) #[.int .i64 h]) (by kernel_rfl) (by kernel_rfl) kp.out ?_
      repeat (first | (refine wpQuiet_step (fun K hK => ?_); rw [if_pos (by rfl)]; refine quiet_load_all _ _ rfl _ rfl (blindCells n wd (g) t s) _ (agg_blind) (rfl) (fun w' hw' => hw'.row) ?_; go_simp; refine hK _ ?_; clear hK K) | (refine wpQuiet_step (fun K hK => ?_); rw [if_pos (by rfl)]; refine quiet_load_cell _ _ rfl _ rfl (.int .i64 h) (bone64) (fun w' hw' => (by rw [hw'.row2.cell]; rfl)) ?_; go_simp; refine hK _ ?_; clear hK K) | (refine wpQuiet_step (fun K hK => ?_); go_simp; first | (refine hK _ ?_; clear hK K) | (apply Exists.intro; refine ⟨fun w' hw' => ?_, hK _ ?_⟩; (first | rfl | exact ⟨rfl, rfl⟩ | ((first | (go_at_call 86; exact (up_impl _ _).mono fun e w'' h => ⟨h.1, h.2 ▸ hw'⟩) | (go_at_call 71; exact (part_impl _ _).mono fun e w'' h => ⟨h.1, h.2 ▸ hw'⟩) | (go_at_call 85; exact (code_blind n wd g t s n1 n2 t1 t2 _ _).mono fun e w'' h => ⟨h.1, hw'.step h.2⟩)))); clear hK K)))
      refine wpQuiet_nil ?_
      intro w1 j1
      have j2 := hidd j1
      clear j1
      go_wp2
      go_ret2; exact ⟨by rw [fin.out]; rfl, j2.out.below⟩
    · clear hb
      have hcc : code2 (blindOk n wd g t s) true = (code2 (blindOk n wd g t s) (inR h 1 64 && isPart wanted)) := by rw [e1, e2]; rfl
      by_cases hc : code2 (blindOk n wd g t s) true = 0
      · have hb := bne_0 hc
        have hc0 := hcc.symm.trans hc
        have HO := hidd hc0
        have H := hidd (blindOk_of (code2_zero.1 hc).1)
        have x1 := H.out.2.2.2.1.1
        have x2 := H.out.2.2.2.1.2
        have Hc := hidd hc
        have E := hidd (And.intro e1 e2)
        obtain ⟨h1, h2⟩ := inR_iff.1 e1
        have HI : InLen 1115684864 := by unfold InLen; decide
        have HJ := hidd HI
        have fo : Fnt (opn wd 1115684864 t h) := (unit_fin (opn_unit H.out.2.1 (inlen_len HI) h1 h2)).1
        have two : Fnt 1073741824 := by decide
        have two' : rung 1073741824 ≠ 0 := by decide
        clear hc hcc hc0 HI
        rcases bool_or (flt (opn wd 1115684864 t h) wanted) with f0 | f0
        · have fin := hidd (ga_ok HO.out f0)
          go_enter Tryz.func46, Tryz.ntmps46
          go_wp2_with fail
          refine wp_region_in (fun w' => Keep2 w w' (blindCells n wd (g) t s) #[.int .i64 h]) (by kernel_rfl) (by kernel_rfl) kp.out ?_
          repeat (first | (refine wpQuiet_step (fun K hK => ?_); rw [if_pos (by rfl)]; refine quiet_load_all _ _ rfl _ rfl (blindCells n wd (g) t s) _ (agg_blind) (rfl) (fun w' hw' => hw'.row) ?_; go_simp; refine hK _ ?_; clear hK K) | (refine wpQuiet_step (fun K hK => ?_); rw [if_pos (by rfl)]; refine quiet_load_cell _ _ rfl _ rfl (.int .i64 h) (bone64) (fun w' hw' => (by rw [hw'.row2.cell]; rfl)) ?_; go_simp; refine hK _ ?_; clear hK K) | (refine wpQuiet_step (fun K hK => ?_); go_simp; first | (refine hK _ ?_; clear hK K) | (apply Exists.intro; refine ⟨fun w' hw' => ?_, hK _ ?_⟩; (first | rfl | exact ⟨rfl, rfl⟩ | ((first | (go_at_call 86; exact (up_impl _ _).mono fun e w'' h => ⟨h.1, h.2 ▸ hw'⟩) | (go_at_call 71; exact (part_impl _ _).mono fun e w'' h => ⟨h.1, h.2 ▸ hw'⟩) | (go_at_call 85; exact (code_blind n wd g t s n1 n2 t1 t2 _ _).mono fun e w'' h => ⟨h.1, hw'.step h.2⟩)))); clear hK K)))
          refine wpQuiet_nil ?_
          intro w1 j1
          have j2 := hidd j1
          clear j1
          go_wp2_with fail
          refine (gap1 n wd g t s H.out.2.1 x1 x2 h h1 h2 1115684864 HJ.out w _ j2.out).mono ?_
          rintro e wz ⟨rfl, hbz⟩
          have kz := hidd hbz
          clear hbz
          go_wp2_with fail
          go_loopw [10, 11, 30] (fun lo hi kk wr => ∃ (k : Nat) (x : Nat), k ≤ 30 ∧ kk = .int .i64 k ∧ lo = .float .f32 (halves wd t h wanted k).1 ∧ hi = .float .f32 (halves wd t h wanted k).2 ∧ Keep2 w wr (blindCells n wd (x) t s) #[.int .i64 h]) (fun _ _ kk _ => (30 - intOf kk).toNat)
          case atStart => exact ⟨0, _, by omega, rfl, rfl, rfl, kz.out⟩
          case round =>
            obtain ⟨k, x, hk, rfl, rfl, rfl, kr⟩ := hrel
            skip
            have kq := hidd kr
            clear kr
            have hin := halves_in wd t h wanted k
            generalize hp : halves wd t h wanted k = p at *
            obtain ⟨a, b⟩ := p
            obtain ⟨m1, m2⟩ := mid_in hin.1 hin.2
            have m3 : Fnt a := hin.1.1
            have m4 : Fnt b := hin.2.1
            have MI : Hid (InLen (fdiv (fadd a b) 1073741824)) := m1
            have m5 : Fnt (fadd a b) := m2
            have m6 : Fnt (opn wd (fdiv (fadd a b) 1073741824) t h) := (unit_fin (opn_unit H.out.2.1 (inlen_len MI.out) h1 h2)).1
            have HP := hidd hp
            clear hin m1 m2
            by_cases hlt : k < 30
            · clear hp
              rcases bool_or (flt (opn wd (fdiv (fadd a b) 1073741824) t h) wanted) with t0 | t0
              · go_wp2_with fail
                refine (gap1 n wd x t s H.out.2.1 x1 x2 h h1 h2 (fdiv (fadd a b) 1073741824) MI.out w _ kq.out).mono ?_
                rintro e wz ⟨rfl, hbz⟩
                have kz := hidd hbz
                clear hbz
                go_wp2
                go_roundw
                case rel => exact ⟨k + 1, _, by omega, by go_num, by rw [halves_no HP.out t0], by rw [halves_no HP.out t0], kz.out⟩
                case measure => simp [intOf]; omega
              · go_wp2_with fail
                refine (gap1 n wd x t s H.out.2.1 x1 x2 h h1 h2 (fdiv (fadd a b) 1073741824) MI.out w _ kq.out).mono ?_
                rintro e wz ⟨rfl, hbz⟩
                have kz := hidd hbz
                clear hbz
                go_wp2
                go_roundw
                case rel => exact ⟨k + 1, _, by omega, by go_num, by rw [halves_yes HP.out t0], by rw [halves_yes HP.out t0], kz.out⟩
                case measure => simp [intOf]; omega
            · obtain rfl : k = 30 := by omega
              rw [halves30_eq] at hp
              have HQ := hidd hp
              clear hp HP
              go_wp2
              go_ret2; exact ⟨by rw [fin.out, HQ.out]; rfl, kq.out.below⟩
        · have fin := hidd (ga_six HO.out f0)
          go_enter Tryz.func46, Tryz.ntmps46
          go_wp2_with fail
          refine wp_region_in (fun w' => Keep2 w w' (blindCells n wd (g) t s) #[.int .i64 h]) (by kernel_rfl) (by kernel_rfl) kp.out ?_
          repeat (first | (refine wpQuiet_step (fun K hK => ?_); rw [if_pos (by rfl)]; refine quiet_load_all _ _ rfl _ rfl (blindCells n wd (g) t s) _ (agg_blind) (rfl) (fun w' hw' => hw'.row) ?_; go_simp; refine hK _ ?_; clear hK K) | (refine wpQuiet_step (fun K hK => ?_); rw [if_pos (by rfl)]; refine quiet_load_cell _ _ rfl _ rfl (.int .i64 h) (bone64) (fun w' hw' => (by rw [hw'.row2.cell]; rfl)) ?_; go_simp; refine hK _ ?_; clear hK K) | (refine wpQuiet_step (fun K hK => ?_); go_simp; first | (refine hK _ ?_; clear hK K) | (apply Exists.intro; refine ⟨fun w' hw' => ?_, hK _ ?_⟩; (first | rfl | exact ⟨rfl, rfl⟩ | ((first | (go_at_call 86; exact (up_impl _ _).mono fun e w'' h => ⟨h.1, h.2 ▸ hw'⟩) | (go_at_call 71; exact (part_impl _ _).mono fun e w'' h => ⟨h.1, h.2 ▸ hw'⟩) | (go_at_call 85; exact (code_blind n wd g t s n1 n2 t1 t2 _ _).mono fun e w'' h => ⟨h.1, hw'.step h.2⟩)))); clear hK K)))
          refine wpQuiet_nil ?_
          intro w1 j1
          have j2 := hidd j1
          clear j1
          go_wp2_with fail
          refine (gap1 n wd g t s H.out.2.1 x1 x2 h h1 h2 1115684864 HJ.out w _ j2.out).mono ?_
          rintro e wz ⟨rfl, hbz⟩
          have kz := hidd hbz
          clear hbz
          go_wp2
          go_ret2; exact ⟨by rw [fin.out]; rfl, kz.out.below⟩
      · have hb := bne_1 hc
        have fin := hidd (show (gapAns (code2 (blindOk n wd g t s) (inR h 1 64 && isPart wanted)) wd t h wanted) = (0, code2 (blindOk n wd g t s) true) by rw [← hcc]; exact ga_no hc)
        have Hc := hidd hc
        clear hc hcc
        go_enter Tryz.func46, Tryz.ntmps46
        go_wp2_with fail
        refine wp_region_in (fun w' => Keep2 w w' (blindCells n wd (g) t s) #[.int .i64 h]) (by kernel_rfl) (by kernel_rfl) kp.out ?_
        repeat (first | (refine wpQuiet_step (fun K hK => ?_); rw [if_pos (by rfl)]; refine quiet_load_all _ _ rfl _ rfl (blindCells n wd (g) t s) _ (agg_blind) (rfl) (fun w' hw' => hw'.row) ?_; go_simp; refine hK _ ?_; clear hK K) | (refine wpQuiet_step (fun K hK => ?_); rw [if_pos (by rfl)]; refine quiet_load_cell _ _ rfl _ rfl (.int .i64 h) (bone64) (fun w' hw' => (by rw [hw'.row2.cell]; rfl)) ?_; go_simp; refine hK _ ?_; clear hK K) | (refine wpQuiet_step (fun K hK => ?_); go_simp; first | (refine hK _ ?_; clear hK K) | (apply Exists.intro; refine ⟨fun w' hw' => ?_, hK _ ?_⟩; (first | rfl | exact ⟨rfl, rfl⟩ | ((first | (go_at_call 86; exact (up_impl _ _).mono fun e w'' h => ⟨h.1, h.2 ▸ hw'⟩) | (go_at_call 71; exact (part_impl _ _).mono fun e w'' h => ⟨h.1, h.2 ▸ hw'⟩) | (go_at_call 85; exact (code_blind n wd g t s n1 n2 t1 t2 _ _).mono fun e w'' h => ⟨h.1, hw'.step h.2⟩)))); clear hK K)))
        refine wpQuiet_nil ?_
        intro w1 j1
        have j2 := hidd j1
        clear j1
        go_wp2
        go_ret2; exact ⟨by rw [fin.out]; rfl, j2.out.below⟩
set_option maxHeartbeats 4000000 in
set_option maxRecDepth 100000 in
theorem gapFor_spec (n : Int) (wd g : Nat) (t : Int) (s : Nat) (n1 : -128 ≤ n) (n2 : n ≤ 127) (t1 : -32768 ≤ t) (t2 : t ≤ 32767) (h : Int) (wanted : Nat) (w : World) :
    Calls Tryz.prog 47 #[.agg #[.int .i8 n, .float .f32 wd, .float .f32 g, .int .i16 t, .float .f32 s], .int .i64 h, .float .f32 wanted] w fun e w' => e = .returned (.tuple #[.float .f32 (gapAns (code2 (blindOk n wd g t s) (inR h 1 64 && isPart wanted)) wd t h wanted).1, .int .i64 (gapAns (code2 (blindOk n wd g t s) (inR h 1 64 && isPart wanted)) wd t h wanted).2]) ∧ Below w.heap.size w w' := by
  have kp := hidd (Keep1.start w (blindCells n wd (g) t s) 56)
  have hb := code_f (blindOk n wd g t s)
  rcases bool_or (inR h 1 64) with e1 | e1
  · have fin := hidd (show (gapAns (code2 (blindOk n wd g t s) (inR h 1 64 && isPart wanted)) wd t h wanted) = (0, code2 (blindOk n wd g t s) false) by rw [e1]; exact ga_no (code2_false _))
    go_enter Tryz.func47, Tryz.ntmps47
    go_wp2_with (first | (go_at_call 89; refine (up_spec _ _).mono ?_; rintro e w' ⟨rfl, rfl⟩) | (go_at_call 72; refine (part_l01 _ _).mono ?_; rintro e w' ⟨rfl, rfl⟩) | (go_at_call 88; refine (asked_blind _ n wd g t s n1 n2 t1 t2 _ _ kp.out.row).mono ?_; rintro e w' ⟨rfl, rfl⟩))
    go_ret2; exact ⟨by rw [fin.out]; rfl, kp.out.below⟩
  · rcases bool_or (isPart wanted) with e2 | e2
    · have fin := hidd (show (gapAns (code2 (blindOk n wd g t s) (inR h 1 64 && isPart wanted)) wd t h wanted) = (0, code2 (blindOk n wd g t s) false) by rw [e1, e2]; exact ga_no (code2_false _))
      go_enter Tryz.func47, Tryz.ntmps47
      go_wp2_with (first | (go_at_call 89; refine (up_spec _ _).mono ?_; rintro e w' ⟨rfl, rfl⟩) | (go_at_call 72; refine (part_l01 _ _).mono ?_; rintro e w' ⟨rfl, rfl⟩) | (go_at_call 88; refine (asked_blind _ n wd g t s n1 n2 t1 t2 _ _ kp.out.row).mono ?_; rintro e w' ⟨rfl, rfl⟩))
      go_ret2; exact ⟨by rw [fin.out]; rfl, kp.out.below⟩
    · clear hb
      have hcc : code2 (blindOk n wd g t s) true = (code2 (blindOk n wd g t s) (inR h 1 64 && isPart wanted)) := by rw [e1, e2]; rfl
      by_cases hc : code2 (blindOk n wd g t s) true = 0
      · have hb := bne_0 hc
        have hc0 := hcc.symm.trans hc
        have HO := hidd hc0
        have H := hidd (blindOk_of (code2_zero.1 hc).1)
        have x1 := H.out.2.2.2.1.1
        have x2 := H.out.2.2.2.1.2
        have Hc := hidd hc
        have E := hidd (And.intro e1 e2)
        obtain ⟨h1, h2⟩ := inR_iff.1 e1
        have HI : InLen 1115684864 := by unfold InLen; decide
        have HJ := hidd HI
        have fo : Fnt (opn wd 1115684864 t h) := (unit_fin (opn_unit H.out.2.1 (inlen_len HI) h1 h2)).1
        have two : Fnt 1073741824 := by decide
        have two' : rung 1073741824 ≠ 0 := by decide
        clear hc hcc hc0 HI
        rcases bool_or (flt (opn wd 1115684864 t h) wanted) with f0 | f0
        · have fin := hidd (ga_ok HO.out f0)
          have c2 := bl_2 kp.out.row
          have f2 := kp.out.row.frozen 2
          go_enter Tryz.func47, Tryz.ntmps47
          go_wp2_with (first | (go_at_call 89; refine (up_spec _ _).mono ?_; rintro e w' ⟨rfl, rfl⟩) | (go_at_call 72; refine (part_l01 _ _).mono ?_; rintro e w' ⟨rfl, rfl⟩) | (go_at_call 88; refine (asked_blind _ n wd g t s n1 n2 t1 t2 _ _ kp.out.row).mono ?_; rintro e w' ⟨rfl, rfl⟩))
          refine (open_spec w.heap.size n wd 1115684864 t s H.out.2.1 (inlen_len HJ.out) x1 x2 h h1 h2 _ (Keep1.start w ((blindCells n wd (g) t s).setIfInBounds 2 (.float .f32 1115684864)) 56).row).mono ?_
          rintro e wz ⟨rfl, hbz⟩
          have kz := hidd ((Keep1.start w ((blindCells n wd (g) t s).setIfInBounds 2 (.float .f32 1115684864)) 56).step hbz)
          clear hbz
          go_wp2_with fail
          go_loopw [9, 10, 11] (fun lo hi kk wr => ∃ (k : Nat) (x : Nat), k ≤ 30 ∧ kk = .int .i64 k ∧ lo = .float .f32 (halves wd t h wanted k).1 ∧ hi = .float .f32 (halves wd t h wanted k).2 ∧ Keep1 w wr (blindCells n wd (x) t s)) (fun _ _ kk _ => (30 - intOf kk).toNat)
          case atStart => exact ⟨0, _, by omega, rfl, rfl, rfl, kz.out⟩
          case round =>
            obtain ⟨k, x, hk, rfl, rfl, rfl, kr⟩ := hrel
            have c2 := bl_2 kr.row
            have f2 := kr.row.frozen 2
            have kq := hidd kr
            clear kr
            have hin := halves_in wd t h wanted k
            generalize hp : halves wd t h wanted k = p at *
            obtain ⟨a, b⟩ := p
            obtain ⟨m1, m2⟩ := mid_in hin.1 hin.2
            have m3 : Fnt a := hin.1.1
            have m4 : Fnt b := hin.2.1
            have MI : Hid (InLen (fdiv (fadd a b) 1073741824)) := m1
            have m5 : Fnt (fadd a b) := m2
            have m6 : Fnt (opn wd (fdiv (fadd a b) 1073741824) t h) := (unit_fin (opn_unit H.out.2.1 (inlen_len MI.out) h1 h2)).1
            have HP := hidd hp
            clear hin m1 m2
            by_cases hlt : k < 30
            · clear hp
              rcases bool_or (flt (opn wd (fdiv (fadd a b) 1073741824) t h) wanted) with t0 | t0
              · go_wp2_with fail
                refine (open_spec w.heap.size n wd (fdiv (fadd a b) 1073741824) t s H.out.2.1 (inlen_len MI.out) x1 x2 h h1 h2 (wr.setCell ⟨w.heap.size, 2, none⟩ (.float .f32 (fdiv (fadd a b) 1073741824))) (keep1_set kq.out 2 (.float .f32 (fdiv (fadd a b) 1073741824))).row).mono ?_
                rintro e wz ⟨rfl, hbz⟩
                have kz := hidd ((keep1_set kq.out 2 (.float .f32 (fdiv (fadd a b) 1073741824))).step hbz)
                clear hbz
                go_wp2
                go_roundw
                case rel => exact ⟨k + 1, _, by omega, by go_num, by rw [halves_no HP.out t0], by rw [halves_no HP.out t0], kz.out⟩
                case measure => simp [intOf]; omega
              · go_wp2_with fail
                refine (open_spec w.heap.size n wd (fdiv (fadd a b) 1073741824) t s H.out.2.1 (inlen_len MI.out) x1 x2 h h1 h2 (wr.setCell ⟨w.heap.size, 2, none⟩ (.float .f32 (fdiv (fadd a b) 1073741824))) (keep1_set kq.out 2 (.float .f32 (fdiv (fadd a b) 1073741824))).row).mono ?_
                rintro e wz ⟨rfl, hbz⟩
                have kz := hidd ((keep1_set kq.out 2 (.float .f32 (fdiv (fadd a b) 1073741824))).step hbz)
                clear hbz
                go_wp2
                go_roundw
                case rel => exact ⟨k + 1, _, by omega, by go_num, by rw [halves_yes HP.out t0], by rw [halves_yes HP.out t0], kz.out⟩
                case measure => simp [intOf]; omega
            · obtain rfl : k = 30 := by omega
              rw [halves30_eq] at hp
              have HQ := hidd hp
              clear hp HP
              go_wp2
              go_ret2; exact ⟨by rw [fin.out, HQ.out]; rfl, kq.out.below⟩
        · have fin := hidd (ga_six HO.out f0)
          have c2 := bl_2 kp.out.row
          have f2 := kp.out.row.frozen 2
          go_enter Tryz.func47, Tryz.ntmps47
          go_wp2_with (first | (go_at_call 89; refine (up_spec _ _).mono ?_; rintro e w' ⟨rfl, rfl⟩) | (go_at_call 72; refine (part_l01 _ _).mono ?_; rintro e w' ⟨rfl, rfl⟩) | (go_at_call 88; refine (asked_blind _ n wd g t s n1 n2 t1 t2 _ _ kp.out.row).mono ?_; rintro e w' ⟨rfl, rfl⟩))
          refine (open_spec w.heap.size n wd 1115684864 t s H.out.2.1 (inlen_len HJ.out) x1 x2 h h1 h2 _ (Keep1.start w ((blindCells n wd (g) t s).setIfInBounds 2 (.float .f32 1115684864)) 56).row).mono ?_
          rintro e wz ⟨rfl, hbz⟩
          have kz := hidd ((Keep1.start w ((blindCells n wd (g) t s).setIfInBounds 2 (.float .f32 1115684864)) 56).step hbz)
          clear hbz
          go_wp2
          go_ret2; exact ⟨by rw [fin.out]; rfl, kz.out.below⟩
      · have hb := bne_1 hc
        have fin := hidd (show (gapAns (code2 (blindOk n wd g t s) (inR h 1 64 && isPart wanted)) wd t h wanted) = (0, code2 (blindOk n wd g t s) true) by rw [← hcc]; exact ga_no hc)
        have Hc := hidd hc
        clear hc hcc
        go_enter Tryz.func47, Tryz.ntmps47
        go_wp2_with (first | (go_at_call 89; refine (up_spec _ _).mono ?_; rintro e w' ⟨rfl, rfl⟩) | (go_at_call 72; refine (part_l01 _ _).mono ?_; rintro e w' ⟨rfl, rfl⟩) | (go_at_call 88; refine (asked_blind _ n wd g t s n1 n2 t1 t2 _ _ kp.out.row).mono ?_; rintro e w' ⟨rfl, rfl⟩))
        go_ret2; exact ⟨by rw [fin.out]; rfl, kp.out.below⟩
end Go.Proofs.YtddkiemipedgcaaGreatDoor
