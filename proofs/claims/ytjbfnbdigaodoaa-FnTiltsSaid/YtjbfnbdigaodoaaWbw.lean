/-
  Tilts with which what passes is within bounds; the first shut tilt.
-/
import Derived.Test.YtjbfnbdigaodoaaWbu
namespace Go.Proofs.Ytjbfnbdigaodoaa
open Go.RowKit Go.Proofs.Fl Go.Proofs.Pl
set_option linter.unusedVariables false

structure Keep4 (w0 w : World) (c d e f : Array Value) : Prop where
  below : Below w0.heap.size w0 w
  row : Row w w0.heap.size c
  row2 : Row w (w0.heap.size + 1) d
  row3 : Row w (w0.heap.size + 1 + 1) e
  row4 : Row w (w0.heap.size + 1 + 1 + 1) f
theorem Keep4.start (w : World) (c d e f : Array Value) (t u v x : TypeId) : Keep4 w ((((w.alloc (.cells c t)).alloc (.cells d u)).alloc (.cells e v)).alloc (.cells f x)) c d e f :=
  ⟨((((Below.refl _ _).alloc (Nat.le_refl _) _).alloc (by simp) _).alloc (by simp; omega) _).alloc (by simp; omega) _, (((Row.new _ _ _).alloc _).alloc _).alloc _, ((Row.new' _ _ _ _ (by simp)).alloc _).alloc _, (Row.new' _ _ _ _ (by simp)).alloc _, Row.new' _ _ _ _ (by simp)⟩
theorem Keep4.step {w0 w w1 : World} {c d e f : Array Value} (h : Keep4 w0 w c d e f) (hb : Below w.heap.size w w1) : Keep4 w0 w1 c d e f :=
  ⟨h.below.trans (hb.mono (by have := h.row.lt; omega)), h.row.below hb h.row.lt, h.row2.below hb h.row2.lt, h.row3.below hb h.row3.lt, h.row4.below hb h.row4.lt⟩
theorem Keep4.drew {w0 w : World} {c d e f : Array Value} (h : Keep4 w0 w c d e f) : Keep4 w0 w.drew c d e f := ⟨h.below.drew, h.row, h.row2, h.row3, h.row4⟩
theorem code_f (b : Bool) : (code2 b false != 0) = true := by cases b <;> rfl
theorem in_no1 {wd g s : Nat} {h : Int} {lo hh : Nat} {u : Int} (e : fge (pass wd g u s h) lo = false) : inSo wd g s h lo hh u = false := by show (fge (pass wd g u s h) lo && fle (pass wd g u s h) hh) = false; rw [e]; rfl
theorem in_no2 {wd g s : Nat} {h : Int} {lo hh : Nat} {u : Int} (e : fle (pass wd g u s h) hh = false) : inSo wd g s h lo hh u = false := by show (fge (pass wd g u s h) lo && fle (pass wd g u s h) hh) = false; rw [e, Bool.and_false]
theorem in_yes {wd g s : Nat} {h : Int} {lo hh : Nat} {u : Int} (e : fge (pass wd g u s h) lo = true) (e2 : fle (pass wd g u s h) hh = true) : inSo wd g s h lo hh u = true := by show (fge (pass wd g u s h) lo && fle (pass wd g u s h) hh) = true; rw [e, e2]; rfl

set_option maxHeartbeats 2000000 in
set_option maxRecDepth 100000 in
theorem tiltsWithin_spec (n : Int) (wd g : Nat) (t : Int) (s : Nat) (n1 : -128 ≤ n) (n2 : n ≤ 127) (t1 : -32768 ≤ t) (t2 : t ≤ 32767) (h : Int) (lo hh : Nat) (w : World) :
    Calls Try.prog 24 #[.agg #[.int .i8 n, .float .f32 wd, .float .f32 g, .int .i16 t, .float .f32 s], .int .i64 h, .float .f32 lo, .float .f32 hh] w fun e w' => ∃ v, e = .returned (.tuple #[v, .int .i64 (listAns (code2 (blindOk n wd g t s) ((inR h 1 64 && isPart lo) && isPart hh)) (inSo wd g s h lo hh)).2]) ∧ Below w.heap.size w w' ∧ w'.ownsRow w.heap.size 2 1 v ((listAns (code2 (blindOk n wd g t s) ((inR h 1 64 && isPart lo) && isPart hh)) (inSo wd g s h lo hh)).1).length (((listAns (code2 (blindOk n wd g t s) ((inR h 1 64 && isPart lo) && isPart hh)) (inSo wd g s h lo hh)).1).map (Value.int .i64)) := by
  have kp := hidd (Keep1.start w (blindCells n wd g (t) s) 40)
  have hb := code_f (blindOk n wd g t s)
  rcases bool_or (inR h 1 64) with e1 | e1
  · have fin := hidd (show (listAns (code2 (blindOk n wd g t s) ((inR h 1 64 && isPart lo) && isPart hh)) (inSo wd g s h lo hh)) = ([], code2 (blindOk n wd g t s) false) by rw [e1]; exact la_no (code2_false _))
    go_enter Try.func24, Try.ntmps24
    go_wp2_with (first | (go_at_call 60; refine (up_spec _ _).mono ?_; rintro e w' ⟨rfl, rfl⟩) | (go_at_call 39; refine (part_l01 _ _).mono ?_; rintro e w' ⟨rfl, rfl⟩) | (go_at_call 59; refine (asked_blind _ n wd g t s n1 n2 t1 t2 _ _ kp.out.row).mono ?_; rintro e w' ⟨rfl, rfl⟩))
    go_ret2; exact ⟨_, by rw [fin.out]; rfl, kp.out.below.alloc (by simp) _, by rw [fin.out]; exact own_mono (own_empty w _ _) (by omega)⟩
  · rcases bool_or (isPart lo) with e2 | e2
    · have fin := hidd (show (listAns (code2 (blindOk n wd g t s) ((inR h 1 64 && isPart lo) && isPart hh)) (inSo wd g s h lo hh)) = ([], code2 (blindOk n wd g t s) false) by rw [e1, e2]; exact la_no (code2_false _))
      go_enter Try.func24, Try.ntmps24
      go_wp2_with (first | (go_at_call 60; refine (up_spec _ _).mono ?_; rintro e w' ⟨rfl, rfl⟩) | (go_at_call 39; refine (part_l01 _ _).mono ?_; rintro e w' ⟨rfl, rfl⟩) | (go_at_call 59; refine (asked_blind _ n wd g t s n1 n2 t1 t2 _ _ kp.out.row).mono ?_; rintro e w' ⟨rfl, rfl⟩))
      go_ret2; exact ⟨_, by rw [fin.out]; rfl, kp.out.below.alloc (by simp) _, by rw [fin.out]; exact own_mono (own_empty w _ _) (by omega)⟩
    · rcases bool_or (isPart hh) with e3 | e3
      · have fin := hidd (show (listAns (code2 (blindOk n wd g t s) ((inR h 1 64 && isPart lo) && isPart hh)) (inSo wd g s h lo hh)) = ([], code2 (blindOk n wd g t s) false) by rw [e1, e2, e3]; exact la_no (code2_false _))
        go_enter Try.func24, Try.ntmps24
        go_wp2_with (first | (go_at_call 60; refine (up_spec _ _).mono ?_; rintro e w' ⟨rfl, rfl⟩) | (go_at_call 39; refine (part_l01 _ _).mono ?_; rintro e w' ⟨rfl, rfl⟩) | (go_at_call 59; refine (asked_blind _ n wd g t s n1 n2 t1 t2 _ _ kp.out.row).mono ?_; rintro e w' ⟨rfl, rfl⟩))
        go_ret2; exact ⟨_, by rw [fin.out]; rfl, kp.out.below.alloc (by simp) _, by rw [fin.out]; exact own_mono (own_empty w _ _) (by omega)⟩
      · clear hb
        have hcc : code2 (blindOk n wd g t s) true = (code2 (blindOk n wd g t s) ((inR h 1 64 && isPart lo) && isPart hh)) := by rw [e1, e2, e3]; rfl
        by_cases hc : code2 (blindOk n wd g t s) true = 0
        · have hb := bne_0 hc
          have fin := hidd (show (listAns (code2 (blindOk n wd g t s) ((inR h 1 64 && isPart lo) && isPart hh)) (inSo wd g s h lo hh)) = (tl129 (inSo wd g s h lo hh), 0) by rw [← hcc]; exact la_ok hc)
          have H := hidd (blindOk_of (code2_zero.1 hc).1)
          have Hc := hidd hc
          have E := hidd (And.intro e1 (And.intro e2 e3))
          obtain ⟨h1, h2⟩ := inR_iff.1 e1
          clear hc hcc
          have G := hidd (And.intro H.out.2.1 (And.intro H.out.2.2.1 H.out.2.2.2.2))
          obtain ⟨i0, hi, hz0, hz1, hz2⟩ := info_parts Try.infoI
          go_enter Try.func24, Try.ntmps24
          go_wp2_with (first | (go_at_call 60; refine (up_spec _ _).mono ?_; rintro e w' ⟨rfl, rfl⟩) | (go_at_call 39; refine (part_l01 _ _).mono ?_; rintro e w' ⟨rfl, rfl⟩) | (go_at_call 59; refine (asked_blind _ n wd g t s n1 n2 t1 t2 _ _ kp.out.row).mono ?_; rintro e w' ⟨rfl, rfl⟩))
          go_loopw [11, 12] (fun v i wr => ∃ (k : Nat) (u : Int), k ≤ 129 ∧ i = .int .i64 ((k : Int) - 64) ∧ wr.ownsRow (w.heap.size + 1) 2 1 v (tl (inSo wd g s h lo hh) k).length ((tl (inSo wd g s h lo hh) k).map (Value.int .i64)) ∧ Row wr w.heap.size (blindCells n wd g (u) s) ∧ Below w.heap.size w wr) (fun _ i _ => 129 - (intOf i + 64).toNat)
          case atStart => exact ⟨0, t, by omega, rfl, own_empty w _ _, kp.out.row.alloc _, kp.out.below.alloc (by simp) _⟩
          case round =>
            obtain ⟨k, u, hk, rfl, ko, kr, kb⟩ := hrel
            have kq := hidd (And.intro ko (And.intro kr kb))
            have c3 := bl_3 kr
            have f3 := kr.frozen 3
            clear ko kr kb
            have hl := tl_len (inSo wd g s h lo hh) k
            by_cases hlt : k < 129
            · have x1 : -64 ≤ ((k : Int) - 64) := by omega
              have x2 : ((k : Int) - 64) ≤ 64 := by omega
              have hf := (pass_fin (t := ((k : Int) - 64)) G.out.1 G.out.2.1 G.out.2.2 h1 h2).2.2.1
              rcases bool_or (fge (pass wd g ((k : Int) - 64) s h) lo) with a1 | a1
              · go_wp2_with (go_at_call 61; refine (pass_spec w.heap.size n wd g ((k : Int) - 64) s G.out.1 G.out.2.1 G.out.2.2 x1 x2 h h1 h2 (wr.setCell ⟨w.heap.size, 3, none⟩ (.int .i16 ((k : Int) - 64))) (kq.out.2.1.set 3 (.int .i16 ((k : Int) - 64)))).mono ?_; rintro e w3 ⟨rfl, hb3⟩; have r3 := hidd ((kq.out.2.1.set 3 (.int .i16 ((k : Int) - 64))).below hb3 (kq.out.2.1.set 3 (.int .i16 ((k : Int) - 64))).lt); have o3 := hidd (own_below (own_wrote kq.out.1 (Wrote.setCell wr w.heap.size 3 (.int .i16 ((k : Int) - 64))) (by omega)) hb3); have b3 := hidd ((kq.out.2.2.trans ((Wrote.setCell wr w.heap.size 3 (.int .i16 ((k : Int) - 64))).below (Nat.le_refl _))).trans (hb3.mono (by have := kq.out.2.1.lt; simp [World.setCell]; omega))); have z3 := hidd r3.out.lt; clear hb3)
                go_roundw
                case rel => exact ⟨k + 1, ((k : Int) - 64), by omega, by go_num, by rw [tl_no (in_no1 a1)]; exact o3.out, r3.out, b3.out⟩
                case measure => simp [intOf]; omega
              · rcases bool_or (fle (pass wd g ((k : Int) - 64) s h) hh) with a2 | a2
                · go_wp2_with (go_at_call 61; refine (pass_spec w.heap.size n wd g ((k : Int) - 64) s G.out.1 G.out.2.1 G.out.2.2 x1 x2 h h1 h2 (wr.setCell ⟨w.heap.size, 3, none⟩ (.int .i16 ((k : Int) - 64))) (kq.out.2.1.set 3 (.int .i16 ((k : Int) - 64)))).mono ?_; rintro e w3 ⟨rfl, hb3⟩; have r3 := hidd ((kq.out.2.1.set 3 (.int .i16 ((k : Int) - 64))).below hb3 (kq.out.2.1.set 3 (.int .i16 ((k : Int) - 64))).lt); have o3 := hidd (own_below (own_wrote kq.out.1 (Wrote.setCell wr w.heap.size 3 (.int .i16 ((k : Int) - 64))) (by omega)) hb3); have b3 := hidd ((kq.out.2.2.trans ((Wrote.setCell wr w.heap.size 3 (.int .i16 ((k : Int) - 64))).below (Nat.le_refl _))).trans (hb3.mono (by have := kq.out.2.1.lt; simp [World.setCell]; omega))); have z3 := hidd r3.out.lt; clear hb3)
                  go_roundw
                  case rel => exact ⟨k + 1, ((k : Int) - 64), by omega, by go_num, by rw [tl_no (in_no2 a2)]; exact o3.out, r3.out, b3.out⟩
                  case measure => simp [intOf]; omega
                · have hso := hidd (in_yes a1 a2)
                  go_wp2_with (first | (go_at_call 61; refine (pass_spec w.heap.size n wd g ((k : Int) - 64) s G.out.1 G.out.2.1 G.out.2.2 x1 x2 h h1 h2 (wr.setCell ⟨w.heap.size, 3, none⟩ (.int .i16 ((k : Int) - 64))) (kq.out.2.1.set 3 (.int .i16 ((k : Int) - 64)))).mono ?_; rintro e w3 ⟨rfl, hb3⟩; have r3 := hidd ((kq.out.2.1.set 3 (.int .i16 ((k : Int) - 64))).below hb3 (kq.out.2.1.set 3 (.int .i16 ((k : Int) - 64))).lt); have o3 := hidd (own_below (own_wrote kq.out.1 (Wrote.setCell wr w.heap.size 3 (.int .i16 ((k : Int) - 64))) (by omega)) hb3); have b3 := hidd ((kq.out.2.2.trans ((Wrote.setCell wr w.heap.size 3 (.int .i16 ((k : Int) - 64))).below (Nat.le_refl _))).trans (hb3.mono (by have := kq.out.2.1.lt; simp [World.setCell]; omega))); have z3 := hidd r3.out.lt; clear hb3) | (at_builtin; refine wpList_append_own _ rfl _ _ 44 rfl (w.heap.size + 1) 2 i0 (.int .i64 0) 1 8 Try.underlying44 hi hz0 hz1 hz2 rfl (by decide) _ _ _ rfl (o3.out.alloc _) ⟨w3.heap.size, 0, none⟩ 1 1 [.int .i64 ((k : Int) - 64)] rfl rfl (cell_one _ _ _) (one_one _) (by unfold maxLen; omega) (by omega) (by have := z3.out; simp; omega) ?_))
                  intro v' w4 own' hg' _
                  have ab := hidd (app_below o3.out hg' (by have := z3.out; omega))
                  have o4 := hidd (own_snoc hso.out own')
                  clear own' hg'
                  go_wp2
                  go_roundw
                  case rel => exact ⟨k + 1, ((k : Int) - 64), by omega, by go_num, o4.out, r3.out.below ab.out (by omega), b3.out.trans (ab.out.mono (by omega))⟩
                  case measure => simp [intOf]; omega
            · obtain rfl : k = 129 := by omega
              rw [tl129_eq] at kq
              go_wp2
              go_ret2; exact ⟨_, by rw [fin.out]; rfl, kq.out.2.2, by rw [fin.out]; exact own_mono kq.out.1 (by omega)⟩
        · have hb := bne_1 hc
          have fin := hidd (show (listAns (code2 (blindOk n wd g t s) ((inR h 1 64 && isPart lo) && isPart hh)) (inSo wd g s h lo hh)) = ([], code2 (blindOk n wd g t s) true) by rw [← hcc]; exact la_no hc)
          have Hc := hidd hc
          clear hc hcc
          go_enter Try.func24, Try.ntmps24
          go_wp2_with (first | (go_at_call 60; refine (up_spec _ _).mono ?_; rintro e w' ⟨rfl, rfl⟩) | (go_at_call 39; refine (part_l01 _ _).mono ?_; rintro e w' ⟨rfl, rfl⟩) | (go_at_call 59; refine (asked_blind _ n wd g t s n1 n2 t1 t2 _ _ kp.out.row).mono ?_; rintro e w' ⟨rfl, rfl⟩))
          go_ret2; exact ⟨_, by rw [fin.out]; rfl, kp.out.below.alloc (by simp) _, by rw [fin.out]; exact own_mono (own_empty w _ _) (by omega)⟩
set_option maxHeartbeats 2000000 in
theorem tiltsWithin_impl (n : Int) (wd g : Nat) (t : Int) (s : Nat) (n1 : -128 ≤ n) (n2 : n ≤ 127) (t1 : -32768 ≤ t) (t2 : t ≤ 32767) (h : Int) (lo hh : Nat) (w : World) :
    Calls Try.prog 23 #[.agg #[.int .i8 n, .float .f32 wd, .float .f32 g, .int .i16 t, .float .f32 s], .int .i64 h, .float .f32 lo, .float .f32 hh] w fun e w' => ∃ v, e = .returned (.tuple #[v, .int .i64 (listAns (code2 (blindOk n wd g t s) ((inR h 1 64 && isPart lo) && isPart hh)) (inSo wd g s h lo hh)).2]) ∧ Below w.heap.size w w' ∧ w'.ownsRow w.heap.size 2 1 v ((listAns (code2 (blindOk n wd g t s) ((inR h 1 64 && isPart lo) && isPart hh)) (inSo wd g s h lo hh)).1).length (((listAns (code2 (blindOk n wd g t s) ((inR h 1 64 && isPart lo) && isPart hh)) (inSo wd g s h lo hh)).1).map (Value.int .i64)) := by
  have kp := hidd (Keep4.start w (blindCells n wd g (t) s) #[.int .i64 h] #[.float .f32 lo] #[.float .f32 hh] 40 2 24 24).drew
  have hb := code_f (blindOk n wd g t s)
  rcases bool_or (inR h 1 64) with e1 | e1
  · have fin := hidd (show (listAns (code2 (blindOk n wd g t s) ((inR h 1 64 && isPart lo) && isPart hh)) (inSo wd g s h lo hh)) = ([], code2 (blindOk n wd g t s) false) by rw [e1]; exact la_no (code2_false _))
    go_enter Try.func23, Try.ntmps23
    go_wp2_with fail
    refine wp_region_in (fun w' => Keep4 w w' (blindCells n wd g (t) s) #[.int .i64 h] #[.float .f32 lo] #[.float .f32 hh]) (by kernel_rfl) (by kernel_rfl) kp.out ?_
    repeat (first | (refine wpQuiet_step (fun K hK => ?_); rw [if_pos (by rfl)]; refine quiet_load_all _ _ rfl _ rfl (blindCells n wd g (t) s) _ (agg_blind) (rfl) (fun w' hw' => hw'.row) ?_; go_simp; refine hK _ ?_; clear hK K) | (refine wpQuiet_step (fun K hK => ?_); rw [if_pos (by rfl)]; refine quiet_load_cell _ _ rfl _ rfl (.int .i64 h) (bone64) (fun w' hw' => (by rw [hw'.row2.cell]; rfl)) ?_; go_simp; refine hK _ ?_; clear hK K) | (refine wpQuiet_step (fun K hK => ?_); rw [if_pos (by rfl)]; refine quiet_load_cell _ _ rfl _ rfl (.float .f32 lo) (bonef) (fun w' hw' => (by rw [hw'.row3.cell]; rfl)) ?_; go_simp; refine hK _ ?_; clear hK K) | (refine wpQuiet_step (fun K hK => ?_); rw [if_pos (by rfl)]; refine quiet_load_cell _ _ rfl _ rfl (.float .f32 hh) (bonef) (fun w' hw' => (by rw [hw'.row4.cell]; rfl)) ?_; go_simp; refine hK _ ?_; clear hK K) | (refine wpQuiet_step (fun K hK => ?_); go_simp; first | (refine hK _ ?_; clear hK K) | (apply Exists.intro; refine ⟨fun w' hw' => ?_, hK _ ?_⟩; (first | rfl | exact ⟨rfl, rfl⟩ | ((first | (go_at_call 55; exact (up_impl _ _).mono fun e w'' h => ⟨h.1, h.2 ▸ hw'⟩) | (go_at_call 43; exact (part_impl _ _).mono fun e w'' h => ⟨h.1, h.2 ▸ hw'⟩) | (go_at_call 54; exact (code_blind n wd g t s n1 n2 t1 t2 _ _).mono fun e w'' h => ⟨h.1, hw'.step h.2⟩)))); clear hK K)))
    refine wpQuiet_nil ?_
    intro w1 j1
    have j2 := hidd j1
    clear j1
    go_wp2
    go_ret2; exact ⟨_, by rw [fin.out]; rfl, j2.out.below, by rw [fin.out]; exact own_none _ _ _⟩
  · rcases bool_or (isPart lo) with e2 | e2
    · have fin := hidd (show (listAns (code2 (blindOk n wd g t s) ((inR h 1 64 && isPart lo) && isPart hh)) (inSo wd g s h lo hh)) = ([], code2 (blindOk n wd g t s) false) by rw [e1, e2]; exact la_no (code2_false _))
      go_enter Try.func23, Try.ntmps23
      go_wp2_with fail
      refine wp_region_in (fun w' => Keep4 w w' (blindCells n wd g (t) s) #[.int .i64 h] #[.float .f32 lo] #[.float .f32 hh]) (by kernel_rfl) (by kernel_rfl) kp.out ?_
      repeat (first | (refine wpQuiet_step (fun K hK => ?_); rw [if_pos (by rfl)]; refine quiet_load_all _ _ rfl _ rfl (blindCells n wd g (t) s) _ (agg_blind) (rfl) (fun w' hw' => hw'.row) ?_; go_simp; refine hK _ ?_; clear hK K) | (refine wpQuiet_step (fun K hK => ?_); rw [if_pos (by rfl)]; refine quiet_load_cell _ _ rfl _ rfl (.int .i64 h) (bone64) (fun w' hw' => (by rw [hw'.row2.cell]; rfl)) ?_; go_simp; refine hK _ ?_; clear hK K) | (refine wpQuiet_step (fun K hK => ?_); rw [if_pos (by rfl)]; refine quiet_load_cell _ _ rfl _ rfl (.float .f32 lo) (bonef) (fun w' hw' => (by rw [hw'.row3.cell]; rfl)) ?_; go_simp; refine hK _ ?_; clear hK K) | (refine wpQuiet_step (fun K hK => ?_); rw [if_pos (by rfl)]; refine quiet_load_cell _ _ rfl _ rfl (.float .f32 hh) (bonef) (fun w' hw' => (by rw [hw'.row4.cell]; rfl)) ?_; go_simp; refine hK _ ?_; clear hK K) | (refine wpQuiet_step (fun K hK => ?_); go_simp; first | (refine hK _ ?_; clear hK K) | (apply Exists.intro; refine ⟨fun w' hw' => ?_, hK _ ?_⟩; (first | rfl | exact ⟨rfl, rfl⟩ | ((first | (go_at_call 55; exact (up_impl _ _).mono fun e w'' h => ⟨h.1, h.2 ▸ hw'⟩) | (go_at_call 43; exact (part_impl _ _).mono fun e w'' h => ⟨h.1, h.2 ▸ hw'⟩) | (go_at_call 54; exact (code_blind n wd g t s n1 n2 t1 t2 _ _).mono fun e w'' h => ⟨h.1, hw'.step h.2⟩)))); clear hK K)))
      refine wpQuiet_nil ?_
      intro w1 j1
      have j2 := hidd j1
      clear j1
      go_wp2
      go_ret2; exact ⟨_, by rw [fin.out]; rfl, j2.out.below, by rw [fin.out]; exact own_none _ _ _⟩
    · rcases bool_or (isPart hh) with e3 | e3
      · have fin := hidd (show (listAns (code2 (blindOk n wd g t s) ((inR h 1 64 && isPart lo) && isPart hh)) (inSo wd g s h lo hh)) = ([], code2 (blindOk n wd g t s) false) by rw [e1, e2, e3]; exact la_no (code2_false _))
        go_enter Try.func23, Try.ntmps23
        go_wp2_with fail
        refine wp_region_in (fun w' => Keep4 w w' (blindCells n wd g (t) s) #[.int .i64 h] #[.float .f32 lo] #[.float .f32 hh]) (by kernel_rfl) (by kernel_rfl) kp.out ?_
        repeat (first | (refine wpQuiet_step (fun K hK => ?_); rw [if_pos (by rfl)]; refine quiet_load_all _ _ rfl _ rfl (blindCells n wd g (t) s) _ (agg_blind) (rfl) (fun w' hw' => hw'.row) ?_; go_simp; refine hK _ ?_; clear hK K) | (refine wpQuiet_step (fun K hK => ?_); rw [if_pos (by rfl)]; refine quiet_load_cell _ _ rfl _ rfl (.int .i64 h) (bone64) (fun w' hw' => (by rw [hw'.row2.cell]; rfl)) ?_; go_simp; refine hK _ ?_; clear hK K) | (refine wpQuiet_step (fun K hK => ?_); rw [if_pos (by rfl)]; refine quiet_load_cell _ _ rfl _ rfl (.float .f32 lo) (bonef) (fun w' hw' => (by rw [hw'.row3.cell]; rfl)) ?_; go_simp; refine hK _ ?_; clear hK K) | (refine wpQuiet_step (fun K hK => ?_); rw [if_pos (by rfl)]; refine quiet_load_cell _ _ rfl _ rfl (.float .f32 hh) (bonef) (fun w' hw' => (by rw [hw'.row4.cell]; rfl)) ?_; go_simp; refine hK _ ?_; clear hK K) | (refine wpQuiet_step (fun K hK => ?_); go_simp; first | (refine hK _ ?_; clear hK K) | (apply Exists.intro; refine ⟨fun w' hw' => ?_, hK _ ?_⟩; (first | rfl | exact ⟨rfl, rfl⟩ | ((first | (go_at_call 55; exact (up_impl _ _).mono fun e w'' h => ⟨h.1, h.2 ▸ hw'⟩) | (go_at_call 43; exact (part_impl _ _).mono fun e w'' h => ⟨h.1, h.2 ▸ hw'⟩) | (go_at_call 54; exact (code_blind n wd g t s n1 n2 t1 t2 _ _).mono fun e w'' h => ⟨h.1, hw'.step h.2⟩)))); clear hK K)))
        refine wpQuiet_nil ?_
        intro w1 j1
        have j2 := hidd j1
        clear j1
        go_wp2
        go_ret2; exact ⟨_, by rw [fin.out]; rfl, j2.out.below, by rw [fin.out]; exact own_none _ _ _⟩
      · clear hb
        have hcc : code2 (blindOk n wd g t s) true = (code2 (blindOk n wd g t s) ((inR h 1 64 && isPart lo) && isPart hh)) := by rw [e1, e2, e3]; rfl
        by_cases hc : code2 (blindOk n wd g t s) true = 0
        · have hb := bne_0 hc
          have fin := hidd (show (listAns (code2 (blindOk n wd g t s) ((inR h 1 64 && isPart lo) && isPart hh)) (inSo wd g s h lo hh)) = (tl129 (inSo wd g s h lo hh), 0) by rw [← hcc]; exact la_ok hc)
          have H := hidd (blindOk_of (code2_zero.1 hc).1)
          have Hc := hidd hc
          have E := hidd (And.intro e1 (And.intro e2 e3))
          obtain ⟨h1, h2⟩ := inR_iff.1 e1
          clear hc hcc
          go_enter Try.func23, Try.ntmps23
          go_wp2_with fail
          refine wp_region_in (fun w' => Keep4 w w' (blindCells n wd g (t) s) #[.int .i64 h] #[.float .f32 lo] #[.float .f32 hh]) (by kernel_rfl) (by kernel_rfl) kp.out ?_
          repeat (first | (refine wpQuiet_step (fun K hK => ?_); rw [if_pos (by rfl)]; refine quiet_load_all _ _ rfl _ rfl (blindCells n wd g (t) s) _ (agg_blind) (rfl) (fun w' hw' => hw'.row) ?_; go_simp; refine hK _ ?_; clear hK K) | (refine wpQuiet_step (fun K hK => ?_); rw [if_pos (by rfl)]; refine quiet_load_cell _ _ rfl _ rfl (.int .i64 h) (bone64) (fun w' hw' => (by rw [hw'.row2.cell]; rfl)) ?_; go_simp; refine hK _ ?_; clear hK K) | (refine wpQuiet_step (fun K hK => ?_); rw [if_pos (by rfl)]; refine quiet_load_cell _ _ rfl _ rfl (.float .f32 lo) (bonef) (fun w' hw' => (by rw [hw'.row3.cell]; rfl)) ?_; go_simp; refine hK _ ?_; clear hK K) | (refine wpQuiet_step (fun K hK => ?_); rw [if_pos (by rfl)]; refine quiet_load_cell _ _ rfl _ rfl (.float .f32 hh) (bonef) (fun w' hw' => (by rw [hw'.row4.cell]; rfl)) ?_; go_simp; refine hK _ ?_; clear hK K) | (refine wpQuiet_step (fun K hK => ?_); go_simp; first | (refine hK _ ?_; clear hK K) | (apply Exists.intro; refine ⟨fun w' hw' => ?_, hK _ ?_⟩; (first | rfl | exact ⟨rfl, rfl⟩ | ((first | (go_at_call 55; exact (up_impl _ _).mono fun e w'' h => ⟨h.1, h.2 ▸ hw'⟩) | (go_at_call 43; exact (part_impl _ _).mono fun e w'' h => ⟨h.1, h.2 ▸ hw'⟩) | (go_at_call 54; exact (code_blind n wd g t s n1 n2 t1 t2 _ _).mono fun e w'' h => ⟨h.1, hw'.step h.2⟩)))); clear hK K)))
          refine wpQuiet_nil ?_
          intro w1 j1
          have j2 := hidd j1
          clear j1
          go_wp2_with (first | (refine wpList_load_all rfl _ _ rfl _ rfl (blindCells n wd g (t) s) 5 agg_blind rfl j2.out.row ?_) | (go_at_call 62; refine (that_within n wd g t s H.out.2.1 H.out.2.2.1 H.out.2.2.2.2 h h1 h2 lo hh (w.heap.size + 1) (w.heap.size + 1 + 1) (w.heap.size + 1 + 1 + 1) _ j2.out.row2 j2.out.row3 j2.out.row4).mono ?_; rintro e w3 ⟨v, rfl, hb3, ho3⟩; have k3 := hidd (j2.out.step hb3); have o3 := hidd (own_mono (c := w.heap.size) ho3 (by have := j2.out.below.size; omega)); clear hb3 ho3))
          go_ret2; exact ⟨v, by rw [fin.out]; rfl, k3.out.below, by rw [fin.out]; exact o3.out⟩
        · have hb := bne_1 hc
          have fin := hidd (show (listAns (code2 (blindOk n wd g t s) ((inR h 1 64 && isPart lo) && isPart hh)) (inSo wd g s h lo hh)) = ([], code2 (blindOk n wd g t s) true) by rw [← hcc]; exact la_no hc)
          have Hc := hidd hc
          clear hc hcc
          go_enter Try.func23, Try.ntmps23
          go_wp2_with fail
          refine wp_region_in (fun w' => Keep4 w w' (blindCells n wd g (t) s) #[.int .i64 h] #[.float .f32 lo] #[.float .f32 hh]) (by kernel_rfl) (by kernel_rfl) kp.out ?_
          repeat (first | (refine wpQuiet_step (fun K hK => ?_); rw [if_pos (by rfl)]; refine quiet_load_all _ _ rfl _ rfl (blindCells n wd g (t) s) _ (agg_blind) (rfl) (fun w' hw' => hw'.row) ?_; go_simp; refine hK _ ?_; clear hK K) | (refine wpQuiet_step (fun K hK => ?_); rw [if_pos (by rfl)]; refine quiet_load_cell _ _ rfl _ rfl (.int .i64 h) (bone64) (fun w' hw' => (by rw [hw'.row2.cell]; rfl)) ?_; go_simp; refine hK _ ?_; clear hK K) | (refine wpQuiet_step (fun K hK => ?_); rw [if_pos (by rfl)]; refine quiet_load_cell _ _ rfl _ rfl (.float .f32 lo) (bonef) (fun w' hw' => (by rw [hw'.row3.cell]; rfl)) ?_; go_simp; refine hK _ ?_; clear hK K) | (refine wpQuiet_step (fun K hK => ?_); rw [if_pos (by rfl)]; refine quiet_load_cell _ _ rfl _ rfl (.float .f32 hh) (bonef) (fun w' hw' => (by rw [hw'.row4.cell]; rfl)) ?_; go_simp; refine hK _ ?_; clear hK K) | (refine wpQuiet_step (fun K hK => ?_); go_simp; first | (refine hK _ ?_; clear hK K) | (apply Exists.intro; refine ⟨fun w' hw' => ?_, hK _ ?_⟩; (first | rfl | exact ⟨rfl, rfl⟩ | ((first | (go_at_call 55; exact (up_impl _ _).mono fun e w'' h => ⟨h.1, h.2 ▸ hw'⟩) | (go_at_call 43; exact (part_impl _ _).mono fun e w'' h => ⟨h.1, h.2 ▸ hw'⟩) | (go_at_call 54; exact (code_blind n wd g t s n1 n2 t1 t2 _ _).mono fun e w'' h => ⟨h.1, hw'.step h.2⟩)))); clear hK K)))
          refine wpQuiet_nil ?_
          intro w1 j1
          have j2 := hidd j1
          clear j1
          go_wp2
          go_ret2; exact ⟨_, by rw [fin.out]; rfl, j2.out.below, by rw [fin.out]; exact own_none _ _ _⟩
/-- The first number of a list that is at least 0; and a code. -/
def cutAns (c : List Int × Int) : Int × Int := if c.2 = 0 then ((c.1.find? fun x => decide (0 ≤ x)).elim (0, 6) fun x => (x, 0)) else (0, c.2)
theorem cut_code {c : List Int × Int} (h : c.2 ≠ 0) : cutAns c = (0, c.2) := by unfold cutAns; rw [if_neg h]
theorem cut_hit {xs : List Int} {k : Nat} {x : Int} (hk : k < xs.length) (hx : x = xs.getD k 0) (h0 : 0 ≤ x) (h : ∀ j, j < k → xs.getD j 0 < 0) : cutAns (xs, 0) = (x, 0) := by
  have : xs.find? (fun x => decide (0 ≤ x)) = some x := by
    rw [List.find?_eq_some_iff_getElem]
    refine ⟨by simpa using h0, k, hk, by rw [hx]; simp [hk], fun j hj => ?_⟩
    have := h j hj
    rw [List.getD_eq_getElem?_getD, List.getElem?_eq_getElem (by omega)] at this
    simpa using this
  unfold cutAns; rw [if_pos rfl, this]; rfl
theorem cut_miss {xs : List Int} (h : ∀ j, j < xs.length → xs.getD j 0 < 0) : cutAns (xs, 0) = (0, 6) := by
  have : xs.find? (fun x => decide (0 ≤ x)) = none := by
    rw [List.find?_eq_none]
    intro x hx
    obtain ⟨j, hj, e⟩ := List.getElem_of_mem hx
    have := h j hj
    rw [List.getD_eq_getElem?_getD, List.getElem?_eq_getElem hj, e] at this
    simpa using this
  unfold cutAns; rw [if_pos rfl, this]; rfl
theorem neg_succ {xs : List Int} {k : Nat} {x : Int} (hx : x = xs.getD k 0) (h0 : x < 0) (h : ∀ j, j < k → xs.getD j 0 < 0) : ∀ j, j < k + 1 → xs.getD j 0 < 0 := by
  intro j hj
  by_cases e : j = k
  · subst e; omega
  · exact h j (by omega)

set_option maxHeartbeats 1000000 in
theorem cutOff_spec (n : Int) (wd g : Nat) (t : Int) (s : Nat) (n1 : -128 ≤ n) (n2 : n ≤ 127) (t1 : -32768 ≤ t) (t2 : t ≤ 32767) (h : Int) (w : World) :
    Calls Try.prog 26 #[.agg #[.int .i8 n, .float .f32 wd, .float .f32 g, .int .i16 t, .float .f32 s], .int .i64 h] w fun e w' => e = .returned (.tuple #[.int .i64 (cutAns (listAns (code2 (blindOk n wd g t s) (inR h 1 64)) (shutSo wd g h))).1, .int .i64 (cutAns (listAns (code2 (blindOk n wd g t s) (inR h 1 64)) (shutSo wd g h))).2]) ∧ Below w.heap.size w w' := by
  have kp := hidd (Keep1.start w (blindCells n wd g (t) s) 40)
  by_cases hc : (code2 (blindOk n wd g t s) (inR h 1 64)) = 0
  · have hb := bne_0 hc
    have fin := hidd (show (cutAns (listAns (code2 (blindOk n wd g t s) (inR h 1 64)) (shutSo wd g h))) = cutAns (tl129 (shutSo wd g h), 0) by rw [la_ok hc])
    have Hc := hidd hc
    clear hc
    obtain ⟨ho, hp⟩ := code2_zero.1 Hc.out
    obtain ⟨h1, h2⟩ := inR_iff.1 hp
    have H := hidd (blindOk_of ho)
    clear ho hp
    have hl := tl129_len (shutSo wd g h)
    go_enter Try.func26, Try.ntmps26
    go_wp2_with (first | (go_at_call 60; refine (up_spec _ _).mono ?_; rintro e w' ⟨rfl, rfl⟩) | (go_at_call 59; refine (asked_blind _ n wd g t s n1 n2 t1 t2 _ _ kp.out.row).mono ?_; rintro e w' ⟨rfl, rfl⟩) | (refine wpList_load_all rfl _ _ rfl _ rfl (blindCells n wd g (t) s) 5 agg_blind rfl kp.out.row ?_) | (go_at_call 65; refine (shut_spec n wd g t s H.out.2.1 H.out.2.2.1 h h1 h2 _).mono ?_; rintro e w3 ⟨v, rfl, hb3, ho3⟩; obtain ⟨ad, c, rfl, i3, _, _⟩ := (made_of ho3).ints; have I0 := hidd i3; have k3 := hidd (kp.out.step hb3); clear hb3 ho3 i3))
    go_loop [8] (fun i => ∃ k : Nat, k ≤ (tl129 (shutSo wd g h)).length ∧ i = .int .i64 k ∧ Hid (∀ j, j < k → (tl129 (shutSo wd g h)).getD j 0 < 0)) (fun i => (tl129 (shutSo wd g h)).length - (intOf i).toNat)
    case atStart => exact ⟨0, by omega, rfl, fun j hj => by omega⟩
    case round =>
      obtain ⟨k, hk, rfl, kn⟩ := hrel
      by_cases hlt : k < (tl129 (shutSo wd g h)).length
      · obtain ⟨gg, rfl, hgg, hcc⟩ := I0.out k hlt
        obtain ⟨x, hx⟩ : ∃ x, x = (tl129 (shutSo wd g h)).getD k 0 := ⟨_, rfl⟩
        rw [← hx] at hcc
        have HX := hidd hx
        clear hx
        have i0 : (0 : Int) ≤ (k : Int) := by omega
        have i1 : (k : Int) < (((tl129 (shutSo wd g h)).length : Nat) : Int) := by omega
        by_cases h0 : 0 ≤ x
        · go_wp2
          go_ret2; exact ⟨by rw [fin.out, cut_hit hlt HX.out h0 kn.out]; rfl, k3.out.below⟩
        · have h0' : x < 0 := by omega
          go_wp2
          go_round
          case rel => exact ⟨k + 1, by omega, by go_num, neg_succ HX.out h0' kn.out⟩
          case measure => simp [intOf]; omega
      · obtain rfl : k = (tl129 (shutSo wd g h)).length := by omega
        go_wp2
        go_ret2; exact ⟨by rw [fin.out, cut_miss kn.out]; rfl, k3.out.below⟩
  · have hb := bne_1 hc
    have fin := hidd (show (cutAns (listAns (code2 (blindOk n wd g t s) (inR h 1 64)) (shutSo wd g h))) = (0, (code2 (blindOk n wd g t s) (inR h 1 64))) by rw [la_no hc]; exact cut_code hc)
    have Hc := hidd hc
    clear hc
    go_enter Try.func26, Try.ntmps26
    go_wp2_with (first | (go_at_call 60; refine (up_spec _ _).mono ?_; rintro e w' ⟨rfl, rfl⟩) | (go_at_call 59; refine (asked_blind _ n wd g t s n1 n2 t1 t2 _ _ kp.out.row).mono ?_; rintro e w' ⟨rfl, rfl⟩))
    go_ret2; exact ⟨by rw [fin.out]; rfl, kp.out.below⟩
set_option maxHeartbeats 1000000 in
theorem cutOff_impl (n : Int) (wd g : Nat) (t : Int) (s : Nat) (n1 : -128 ≤ n) (n2 : n ≤ 127) (t1 : -32768 ≤ t) (t2 : t ≤ 32767) (h : Int) (w : World) :
    Calls Try.prog 25 #[.agg #[.int .i8 n, .float .f32 wd, .float .f32 g, .int .i16 t, .float .f32 s], .int .i64 h] w fun e w' => e = .returned (.tuple #[.int .i64 (cutAns (listAns (code2 (blindOk n wd g t s) (inR h 1 64)) (shutSo wd g h))).1, .int .i64 (cutAns (listAns (code2 (blindOk n wd g t s) (inR h 1 64)) (shutSo wd g h))).2]) ∧ Below w.heap.size w w' := by
  have kp := hidd (Keep1.start w (blindCells n wd g (t) s) 40)
  obtain ⟨A, hA⟩ : ∃ A, A = listAns (code2 (blindOk n wd g t s) (inR h 1 64)) (shutSo wd g h) := ⟨_, rfl⟩
  have hl : A.1.length ≤ 129 := by rw [hA]; exact la_len _ _
  have hA0 : A.2 ≠ 0 → A.1 = [] := by
    rw [hA]; intro h0
    by_cases hc : (code2 (blindOk n wd g t s) (inR h 1 64)) = 0
    · rw [la_ok hc] at h0; exact absurd rfl h0
    · rw [la_no hc]
  have HA := hidd hA
  have HA0 := hidd hA0
  rw [← hA]
  clear hA hA0
  by_cases hc : A.2 = 0
  · have hb := bne_0 hc
    have fin := hidd (show cutAns A = cutAns (A.1, 0) by rw [← hc])
    have Hc := hidd hc
    clear hc
    go_enter Try.func25, Try.ntmps25
    go_wp2_with (first | (refine wpList_load_all rfl _ _ rfl _ rfl (blindCells n wd g (t) s) 5 agg_blind rfl kp.out.row ?_) | (go_at_call 21; refine (shutTilts_impl n wd g t s n1 n2 t1 t2 h _).mono ?_; rw [← HA.out]; rintro e w3 ⟨v, rfl, hb3, ho3⟩; obtain ⟨ad, c, rfl, i3, _, _⟩ := (made_of ho3).ints; have I0 := hidd i3; have k3 := hidd (kp.out.step hb3); clear hb3 ho3 i3))
    go_loop [18] (fun i => ∃ k : Nat, k ≤ (A.1).length ∧ i = .int .i64 k ∧ Hid (∀ j, j < k → (A.1).getD j 0 < 0)) (fun i => (A.1).length - (intOf i).toNat)
    case atStart => exact ⟨0, by omega, rfl, fun j hj => by omega⟩
    case round =>
      obtain ⟨k, hk, rfl, kn⟩ := hrel
      by_cases hlt : k < (A.1).length
      · obtain ⟨gg, rfl, hgg, hcc⟩ := I0.out k hlt
        obtain ⟨x, hx⟩ : ∃ x, x = (A.1).getD k 0 := ⟨_, rfl⟩
        rw [← hx] at hcc
        have HX := hidd hx
        clear hx
        have i0 : (0 : Int) ≤ (k : Int) := by omega
        have i1 : (k : Int) < (((A.1).length : Nat) : Int) := by omega
        by_cases h0 : 0 ≤ x
        · go_wp2
          go_ret2; exact ⟨by rw [fin.out, cut_hit hlt HX.out h0 kn.out]; rfl, k3.out.below⟩
        · have h0' : x < 0 := by omega
          go_wp2
          go_round
          case rel => exact ⟨k + 1, by omega, by go_num, neg_succ HX.out h0' kn.out⟩
          case measure => simp [intOf]; omega
      · obtain rfl : k = (A.1).length := by omega
        go_wp2
        go_ret2; exact ⟨by rw [fin.out, cut_miss kn.out]; rfl, k3.out.below⟩
  · have hb := bne_1 hc
    have fin := hidd (cut_code hc)
    have he := HA0.out hc
    have Hc := hidd hc
    clear hc
    go_enter Try.func25, Try.ntmps25
    go_wp2_with (first | (refine wpList_load_all rfl _ _ rfl _ rfl (blindCells n wd g (t) s) 5 agg_blind rfl kp.out.row ?_) | (go_at_call 21; refine (shutTilts_impl n wd g t s n1 n2 t1 t2 h _).mono ?_; rw [← HA.out]; rintro e w3 ⟨v, rfl, hb3, ho3⟩; obtain ⟨ad, c, rfl, i3, _, _⟩ := (made_of ho3).ints; rw [he]; have k3 := hidd (kp.out.step hb3); clear hb3 ho3 i3))
    refine wp_loop_rounds 1 ?_
    rw [rounds_succ]
    go_wp2
    go_ret2; exact ⟨by rw [fin.out]; rfl, k3.out.below⟩
end Go.Proofs.Ytjbfnbdigaodoaa
