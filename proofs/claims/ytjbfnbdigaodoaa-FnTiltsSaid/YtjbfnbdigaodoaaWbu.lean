/-
  Lists of tilts: the program's side, and the answers.
-/
import Derived.Test.YtjbfnbdigaodoaaWbt
import Derived.Test.YtjbfnbdigaodoaaWbc
namespace Go.Proofs.Ytjbfnbdigaodoaa
open Go.RowKit Go.Proofs.Fl Go.Proofs.Pl
set_option linter.unusedVariables false

def listAns (c : Int) (so : Int → Bool) : List Int × Int := codeRes c [] (tl129 so)
theorem la_ok {c : Int} {so : Int → Bool} (h : c = 0) : listAns c so = (tl129 so, 0) := cr_ok h
theorem la_no {c : Int} {so : Int → Bool} (h : c ≠ 0) : listAns c so = ([], c) := cr_no h
theorem la_len (c : Int) (so : Int → Bool) : (listAns c so).1.length ≤ 129 := by
  by_cases h : c = 0
  · rw [la_ok h]; exact tl129_len so
  · rw [la_no h]; simp
theorem shut1 (n : Int) (wd g : Nat) (u : Int) (s : Nat) (hw : isLen wd = true) (hg : isLen g = true) (u1 : -64 ≤ u) (u2 : u ≤ 64) (h : Int) (h1 : 1 ≤ h) (h2 : h ≤ 64) (c : Nat) (w : World) (hc : Row w c #[.int .i64 h]) :
    Calls Try.prog 63 #[.agg #[.int .i8 n, .float .f32 wd, .float .f32 g, .int .i16 u, .float .f32 s], .pointer (some ⟨c, 0, none⟩)] w fun e w' => e = .returned (.bool (shutSo wd g h u)) ∧ Below w.heap.size w w' := by
  have kp := hidd (Keep1.start w (blindCells n wd g (u) s) 40)
  have c1 : (w.alloc (.cells #[.int .i8 n, .float .f32 wd, .float .f32 g, .int .i16 u, .float .f32 s] 40)).cell? ⟨c, 0, none⟩ = some (.int .i64 h) := by rw [(hc.alloc _).cell]; rfl
  have hf := (unit_fin (opn_unit (t := u) hw hg h1 h2)).1
  have H := hidd (And.intro hw hg)
  have zz : Fnt 0 := by decide
  clear hw hg hc
  go_enter Try.func63, Try.ntmps63
  go_wp2_with (first | (refine wpList_load_all rfl _ _ rfl _ rfl (blindCells n wd g (u) s) 5 agg_blind rfl kp.out.row ?_) | (go_at_call 64; refine (open_impl n wd g u s H.out.1 H.out.2 u1 u2 h h1 h2 _).mono ?_; rintro e wn ⟨rfl, hbn⟩; have kn := hidd (kp.out.step hbn); clear kp hbn; have kp := kn; clear kn))
  go_ret; exact ⟨rfl, kp.out.below⟩
theorem within1 (n : Int) (wd g : Nat) (u : Int) (s : Nat) (hw : isLen wd = true) (hg : isLen g = true) (hq : isPart s = true) (u1 : -64 ≤ u) (u2 : u ≤ 64) (h : Int) (h1 : 1 ≤ h) (h2 : h ≤ 64) (lo hi : Nat) (c c2 c3 : Nat) (w : World) (hc : Row w c #[.int .i64 h]) (hc2 : Row w c2 #[.float .f32 lo]) (hc3 : Row w c3 #[.float .f32 hi]) :
    Calls Try.prog 66 #[.agg #[.int .i8 n, .float .f32 wd, .float .f32 g, .int .i16 u, .float .f32 s], .pointer (some ⟨c, 0, none⟩), .pointer (some ⟨c2, 0, none⟩), .pointer (some ⟨c3, 0, none⟩)] w fun e w' => e = .returned (.bool (inSo wd g s h lo hi u)) ∧ Below w.heap.size w w' := by
  have kp := hidd (Keep1.start w (blindCells n wd g (u) s) 40)
  have d1 : (w.alloc (.cells #[.int .i8 n, .float .f32 wd, .float .f32 g, .int .i16 u, .float .f32 s] 40)).cell? ⟨c, 0, none⟩ = some (.int .i64 h) := by rw [(hc.alloc _).cell]; rfl
  have R2 := hidd (hc2.alloc (.cells (blindCells n wd g (u) s) 40))
  have R3 := hidd (hc3.alloc (.cells (blindCells n wd g (u) s) 40))
  have hf := (pass_fin (t := u) hw hg hq h1 h2).2.2.1
  have H := hidd (And.intro hw (And.intro hg hq))
  clear hw hg hq hc hc2 hc3
  go_enter Try.func66, Try.ntmps66
  go_wp2_with (first | (refine wpList_load_all rfl _ _ rfl _ rfl (blindCells n wd g (u) s) 5 agg_blind rfl kp.out.row ?_) | (go_at_call 58; refine (pass_impl n wd g u s H.out.1 H.out.2.1 H.out.2.2 u1 u2 h h1 h2 _).mono ?_; rintro e w3 ⟨rfl, hb3⟩; have d2 : w3.cell? ⟨c2, 0, none⟩ = some (.float .f32 lo) := (by rw [(R2.out.below hb3 R2.out.lt).cell]; rfl); have d3 : w3.cell? ⟨c3, 0, none⟩ = some (.float .f32 hi) := (by rw [(R3.out.below hb3 R3.out.lt).cell]; rfl); replace kp := hidd (kp.out.step hb3); clear hb3))
  all_goals (go_ret; exact ⟨by simp [inSo, *], kp.out.below⟩)

set_option maxHeartbeats 1000000 in
set_option maxRecDepth 100000 in
theorem that_shut (n : Int) (wd g : Nat) (t : Int) (s : Nat) (hw : isLen wd = true) (hg : isLen g = true) (h : Int) (h1 : 1 ≤ h) (h2 : h ≤ 64) (c : Nat) (w : World) (hc : Row w c #[.int .i64 h]) :
    Calls Try.prog 62 #[.agg #[.int .i8 n, .float .f32 wd, .float .f32 g, .int .i16 t, .float .f32 s], .func (.func 63) #[] #[.pointer (some ⟨c, 0, none⟩)]] w fun e w' => ∃ v, e = .returned v ∧ Below w.heap.size w w' ∧ w'.ownsRow w.heap.size 2 1 v (tl129 (shutSo wd g h)).length ((tl129 (shutSo wd g h)).map (Value.int .i64)) := by
  have kp := hidd (Keep1.start w (blindCells n wd g (t) s) 40)
  have H := hidd (And.intro hw hg)
  have Hc := hidd hc
  clear hw hg hc
  obtain ⟨i0, hi, hz0, hz1, hz2⟩ := info_parts Try.infoI
  go_enter Try.func62, Try.ntmps62
  go_wp2_with fail
  go_loopw [5, 6] (fun v i wr => ∃ k : Nat, k ≤ 129 ∧ i = .int .i64 ((k : Int) - 64) ∧ wr.ownsRow (w.heap.size + 1) 2 1 v (tl (shutSo wd g h) k).length ((tl (shutSo wd g h) k).map (Value.int .i64)) ∧ Keep1 w wr (blindCells n wd g (t) s)) (fun _ i _ => 129 - (intOf i + 64).toNat)
  case atStart => exact ⟨0, by omega, rfl, own_empty w _ _, ⟨kp.out.below.alloc (by simp) _, kp.out.row.alloc _⟩⟩
  case round =>
    obtain ⟨k, hk, rfl, ko, kr⟩ := hrel
    have kq := hidd (And.intro ko kr)
    clear ko kr
    have hl := tl_len (shutSo wd g h) k
    by_cases hlt : k < 129
    · have x1 : -64 ≤ ((k : Int) - 64) := by omega
      have x2 : ((k : Int) - 64) ≤ 64 := by omega
      rcases bool_or ((shutSo wd g h) ((k : Int) - 64)) with hso | hso
      · go_wp2_with (first | (refine wpList_load_all rfl _ _ rfl _ rfl (blindCells n wd g (t) s) 5 agg_blind rfl kq.out.2.row ?_) | (go_at_call 57; refine (tilted_impl n wd g t s ((k : Int) - 64) x1 x2 _).mono ?_; rintro e w2 ⟨rfl, hb2⟩; have k2 := hidd (kq.out.2.step hb2); have o2 := hidd (own_below kq.out.1 hb2); clear hb2) | (go_at_call 63; refine (shut1 n wd g ((k : Int) - 64) s H.out.1 H.out.2 x1 x2 h h1 h2 c _ (Hc.out.below k2.out.below Hc.out.lt)).mono ?_; rintro e w3 ⟨rfl, hb3⟩; have k3 := hidd (k2.out.step hb3); have o3 := hidd (own_below o2.out hb3); have z3 := hidd k3.out.row.lt; clear hb3))
        go_roundw
        case rel => exact ⟨k + 1, by omega, by go_num, by rw [tl_no hso]; exact o3.out, k3.out⟩
        case measure => simp [intOf]; omega
      · go_wp2_with (first | (refine wpList_load_all rfl _ _ rfl _ rfl (blindCells n wd g (t) s) 5 agg_blind rfl kq.out.2.row ?_) | (go_at_call 57; refine (tilted_impl n wd g t s ((k : Int) - 64) x1 x2 _).mono ?_; rintro e w2 ⟨rfl, hb2⟩; have k2 := hidd (kq.out.2.step hb2); have o2 := hidd (own_below kq.out.1 hb2); clear hb2) | (go_at_call 63; refine (shut1 n wd g ((k : Int) - 64) s H.out.1 H.out.2 x1 x2 h h1 h2 c _ (Hc.out.below k2.out.below Hc.out.lt)).mono ?_; rintro e w3 ⟨rfl, hb3⟩; have k3 := hidd (k2.out.step hb3); have o3 := hidd (own_below o2.out hb3); have z3 := hidd k3.out.row.lt; clear hb3) | (at_builtin; refine wpList_append_own _ rfl _ _ 44 rfl (w.heap.size + 1) 2 i0 (.int .i64 0) 1 8 Try.underlying44 hi hz0 hz1 hz2 rfl (by decide) _ _ _ rfl (o3.out.alloc _) ⟨w3.heap.size, 0, none⟩ 1 1 [.int .i64 ((k : Int) - 64)] rfl rfl (cell_one _ _ _) (one_one _) (by unfold maxLen; omega) (by omega) (by have := z3.out; simp; omega) ?_))
        intro v' w4 own' hg' _
        have ab := hidd (app_below o3.out hg' (by have := z3.out; omega))
        have o4 := hidd (own_snoc hso own')
        clear own' hg'
        go_wp2
        go_roundw
        case rel => exact ⟨k + 1, by omega, by go_num, o4.out, ⟨k3.out.below.trans (ab.out.mono (by omega)), k3.out.row.below ab.out (by omega)⟩⟩
        case measure => simp [intOf]; omega
    · obtain rfl : k = 129 := by omega
      rw [tl129_eq] at kq
      go_wp2
      go_ret; exact ⟨_, rfl, kq.out.2.below, own_mono kq.out.1 (by omega)⟩
set_option maxHeartbeats 1000000 in
set_option maxRecDepth 100000 in
theorem that_within (n : Int) (wd g : Nat) (t : Int) (s : Nat) (hw : isLen wd = true) (hg : isLen g = true) (hq : isPart s = true) (h : Int) (h1 : 1 ≤ h) (h2 : h ≤ 64) (lo hh : Nat) (c c2 c3 : Nat) (w : World) (hc : Row w c #[.int .i64 h]) (hc2 : Row w c2 #[.float .f32 lo]) (hc3 : Row w c3 #[.float .f32 hh]) :
    Calls Try.prog 62 #[.agg #[.int .i8 n, .float .f32 wd, .float .f32 g, .int .i16 t, .float .f32 s], .func (.func 66) #[] #[.pointer (some ⟨c, 0, none⟩), .pointer (some ⟨c2, 0, none⟩), .pointer (some ⟨c3, 0, none⟩)]] w fun e w' => ∃ v, e = .returned v ∧ Below w.heap.size w w' ∧ w'.ownsRow w.heap.size 2 1 v (tl129 (inSo wd g s h lo hh)).length ((tl129 (inSo wd g s h lo hh)).map (Value.int .i64)) := by
  have kp := hidd (Keep1.start w (blindCells n wd g (t) s) 40)
  have H := hidd (And.intro hw (And.intro hg hq))
  have Hc := hidd (And.intro hc (And.intro hc2 hc3))
  clear hw hg hq hc hc2 hc3
  obtain ⟨i0, hi, hz0, hz1, hz2⟩ := info_parts Try.infoI
  go_enter Try.func62, Try.ntmps62
  go_wp2_with fail
  go_loopw [5, 6] (fun v i wr => ∃ k : Nat, k ≤ 129 ∧ i = .int .i64 ((k : Int) - 64) ∧ wr.ownsRow (w.heap.size + 1) 2 1 v (tl (inSo wd g s h lo hh) k).length ((tl (inSo wd g s h lo hh) k).map (Value.int .i64)) ∧ Keep1 w wr (blindCells n wd g (t) s)) (fun _ i _ => 129 - (intOf i + 64).toNat)
  case atStart => exact ⟨0, by omega, rfl, own_empty w _ _, ⟨kp.out.below.alloc (by simp) _, kp.out.row.alloc _⟩⟩
  case round =>
    obtain ⟨k, hk, rfl, ko, kr⟩ := hrel
    have kq := hidd (And.intro ko kr)
    clear ko kr
    have hl := tl_len (inSo wd g s h lo hh) k
    by_cases hlt : k < 129
    · have x1 : -64 ≤ ((k : Int) - 64) := by omega
      have x2 : ((k : Int) - 64) ≤ 64 := by omega
      rcases bool_or ((inSo wd g s h lo hh) ((k : Int) - 64)) with hso | hso
      · go_wp2_with (first | (refine wpList_load_all rfl _ _ rfl _ rfl (blindCells n wd g (t) s) 5 agg_blind rfl kq.out.2.row ?_) | (go_at_call 57; refine (tilted_impl n wd g t s ((k : Int) - 64) x1 x2 _).mono ?_; rintro e w2 ⟨rfl, hb2⟩; have k2 := hidd (kq.out.2.step hb2); have o2 := hidd (own_below kq.out.1 hb2); clear hb2) | (go_at_call 66; refine (within1 n wd g ((k : Int) - 64) s H.out.1 H.out.2.1 H.out.2.2 x1 x2 h h1 h2 lo hh c c2 c3 _ (Hc.out.1.below k2.out.below Hc.out.1.lt) (Hc.out.2.1.below k2.out.below Hc.out.2.1.lt) (Hc.out.2.2.below k2.out.below Hc.out.2.2.lt)).mono ?_; rintro e w3 ⟨rfl, hb3⟩; have k3 := hidd (k2.out.step hb3); have o3 := hidd (own_below o2.out hb3); have z3 := hidd k3.out.row.lt; clear hb3))
        go_roundw
        case rel => exact ⟨k + 1, by omega, by go_num, by rw [tl_no hso]; exact o3.out, k3.out⟩
        case measure => simp [intOf]; omega
      · go_wp2_with (first | (refine wpList_load_all rfl _ _ rfl _ rfl (blindCells n wd g (t) s) 5 agg_blind rfl kq.out.2.row ?_) | (go_at_call 57; refine (tilted_impl n wd g t s ((k : Int) - 64) x1 x2 _).mono ?_; rintro e w2 ⟨rfl, hb2⟩; have k2 := hidd (kq.out.2.step hb2); have o2 := hidd (own_below kq.out.1 hb2); clear hb2) | (go_at_call 66; refine (within1 n wd g ((k : Int) - 64) s H.out.1 H.out.2.1 H.out.2.2 x1 x2 h h1 h2 lo hh c c2 c3 _ (Hc.out.1.below k2.out.below Hc.out.1.lt) (Hc.out.2.1.below k2.out.below Hc.out.2.1.lt) (Hc.out.2.2.below k2.out.below Hc.out.2.2.lt)).mono ?_; rintro e w3 ⟨rfl, hb3⟩; have k3 := hidd (k2.out.step hb3); have o3 := hidd (own_below o2.out hb3); have z3 := hidd k3.out.row.lt; clear hb3) | (at_builtin; refine wpList_append_own _ rfl _ _ 44 rfl (w.heap.size + 1) 2 i0 (.int .i64 0) 1 8 Try.underlying44 hi hz0 hz1 hz2 rfl (by decide) _ _ _ rfl (o3.out.alloc _) ⟨w3.heap.size, 0, none⟩ 1 1 [.int .i64 ((k : Int) - 64)] rfl rfl (cell_one _ _ _) (one_one _) (by unfold maxLen; omega) (by omega) (by have := z3.out; simp; omega) ?_))
        intro v' w4 own' hg' _
        have ab := hidd (app_below o3.out hg' (by have := z3.out; omega))
        have o4 := hidd (own_snoc hso own')
        clear own' hg'
        go_wp2
        go_roundw
        case rel => exact ⟨k + 1, by omega, by go_num, o4.out, ⟨k3.out.below.trans (ab.out.mono (by omega)), k3.out.row.below ab.out (by omega)⟩⟩
        case measure => simp [intOf]; omega
    · obtain rfl : k = 129 := by omega
      rw [tl129_eq] at kq
      go_wp2
      go_ret; exact ⟨_, rfl, kq.out.2.below, own_mono kq.out.1 (by omega)⟩
theorem shutTilts_spec (n : Int) (wd g : Nat) (t : Int) (s : Nat) (n1 : -128 ≤ n) (n2 : n ≤ 127) (t1 : -32768 ≤ t) (t2 : t ≤ 32767) (h : Int) (w : World) :
    Calls Try.prog 22 #[.agg #[.int .i8 n, .float .f32 wd, .float .f32 g, .int .i16 t, .float .f32 s], .int .i64 h] w fun e w' => ∃ v, e = .returned (.tuple #[v, .int .i64 (listAns (code2 (blindOk n wd g t s) (inR h 1 64)) (shutSo wd g h)).2]) ∧ Below w.heap.size w w' ∧ w'.ownsRow w.heap.size 2 1 v ((listAns (code2 (blindOk n wd g t s) (inR h 1 64)) (shutSo wd g h)).1).length (((listAns (code2 (blindOk n wd g t s) (inR h 1 64)) (shutSo wd g h)).1).map (Value.int .i64)) := by
  have kp := hidd (Keep1.start w (blindCells n wd g (t) s) 40)
  by_cases hc : (code2 (blindOk n wd g t s) (inR h 1 64)) = 0
  · have hb := bne_0 hc
    have fin := hidd (la_ok (so := shutSo wd g h) hc)
    have Hc := hidd hc
    clear hc
    obtain ⟨ho, hp⟩ := code2_zero.1 Hc.out
    obtain ⟨h1, h2⟩ := inR_iff.1 hp
    have H := hidd (blindOk_of ho)
    clear ho hp
    go_enter Try.func22, Try.ntmps22
    go_wp2_with (first | (go_at_call 60; refine (up_spec _ _).mono ?_; rintro e w' ⟨rfl, rfl⟩) | (go_at_call 59; refine (asked_blind _ n wd g t s n1 n2 t1 t2 _ _ kp.out.row).mono ?_; rintro e w' ⟨rfl, rfl⟩) | (refine wpList_load_all rfl _ _ rfl _ rfl (blindCells n wd g (t) s) 5 agg_blind rfl kp.out.row ?_) | (go_at_call 65; refine (shut_spec n wd g t s H.out.2.1 H.out.2.2.1 h h1 h2 _).mono ?_; rintro e w3 ⟨v, rfl, hb3, ho3⟩; have k3 := hidd (kp.out.step hb3); have o3 := hidd (own_mono (c := w.heap.size) ho3 (by simp)); clear hb3 ho3))
    go_ret2; exact ⟨v, by rw [fin.out]; rfl, k3.out.below, by rw [fin.out]; exact o3.out⟩
  · have hb := bne_1 hc
    have fin := hidd (la_no (so := shutSo wd g h) hc)
    have Hc := hidd hc
    clear hc
    go_enter Try.func22, Try.ntmps22
    go_wp2_with (first | (go_at_call 60; refine (up_spec _ _).mono ?_; rintro e w' ⟨rfl, rfl⟩) | (go_at_call 59; refine (asked_blind _ n wd g t s n1 n2 t1 t2 _ _ kp.out.row).mono ?_; rintro e w' ⟨rfl, rfl⟩))
    go_ret2; exact ⟨_, by rw [fin.out]; rfl, kp.out.below.alloc (by simp) _, by rw [fin.out]; exact own_mono (own_empty w _ _) (by omega)⟩
theorem shutTilts_impl (n : Int) (wd g : Nat) (t : Int) (s : Nat) (n1 : -128 ≤ n) (n2 : n ≤ 127) (t1 : -32768 ≤ t) (t2 : t ≤ 32767) (h : Int) (w : World) :
    Calls Try.prog 21 #[.agg #[.int .i8 n, .float .f32 wd, .float .f32 g, .int .i16 t, .float .f32 s], .int .i64 h] w fun e w' => ∃ v, e = .returned (.tuple #[v, .int .i64 (listAns (code2 (blindOk n wd g t s) (inR h 1 64)) (shutSo wd g h)).2]) ∧ Below w.heap.size w w' ∧ w'.ownsRow w.heap.size 2 1 v ((listAns (code2 (blindOk n wd g t s) (inR h 1 64)) (shutSo wd g h)).1).length (((listAns (code2 (blindOk n wd g t s) (inR h 1 64)) (shutSo wd g h)).1).map (Value.int .i64)) := by
  have kp := hidd (Keep2.start w (blindCells n wd g (t) s) #[.int .i64 h] 40 2).drew
  by_cases hc : (code2 (blindOk n wd g t s) (inR h 1 64)) = 0
  · have hb := bne_0 hc
    have fin := hidd (la_ok (so := shutSo wd g h) hc)
    have Hc := hidd hc
    clear hc
    obtain ⟨ho, hp⟩ := code2_zero.1 Hc.out
    obtain ⟨h1, h2⟩ := inR_iff.1 hp
    have H := hidd (blindOk_of ho)
    clear ho hp
    go_enter Try.func21, Try.ntmps21
    go_wp2_with fail
    refine wp_region_in (fun w' => Keep2 w w' (blindCells n wd g (t) s) #[.int .i64 h]) (by kernel_rfl) (by kernel_rfl) kp.out ?_
    repeat (first | (refine wpQuiet_step (fun K hK => ?_); rw [if_pos (by rfl)]; refine quiet_load_all _ _ rfl _ rfl (blindCells n wd g (t) s) _ (agg_blind) (rfl) (fun w' hw' => hw'.row) ?_; go_simp; refine hK _ ?_; clear hK K) | (refine wpQuiet_step (fun K hK => ?_); rw [if_pos (by rfl)]; refine quiet_load_cell _ _ rfl _ rfl (.int .i64 h) (bone64) (fun w' hw' => (by rw [hw'.row2.cell]; rfl)) ?_; go_simp; refine hK _ ?_; clear hK K) | (refine wpQuiet_step (fun K hK => ?_); go_simp; first | (refine hK _ ?_; clear hK K) | (apply Exists.intro; refine ⟨fun w' hw' => ?_, hK _ ?_⟩; (first | rfl | exact ⟨rfl, rfl⟩ | ((first | (go_at_call 55; exact (up_impl _ _).mono fun e w'' h => ⟨h.1, h.2 ▸ hw'⟩) | (go_at_call 54; exact (code_blind n wd g t s n1 n2 t1 t2 _ _).mono fun e w'' h => ⟨h.1, hw'.step h.2⟩)))); clear hK K)))
    refine wpQuiet_nil ?_
    intro w1 j1
    have j2 := hidd j1
    clear j1
    go_wp2_with (first | (refine wpList_load_all rfl _ _ rfl _ rfl (blindCells n wd g (t) s) 5 agg_blind rfl j2.out.row ?_) | (go_at_call 62; refine (that_shut n wd g t s H.out.2.1 H.out.2.2.1 h h1 h2 (w.heap.size + 1) _ j2.out.row2).mono ?_; rintro e w3 ⟨v, rfl, hb3, ho3⟩; have k3 := hidd (j2.out.step hb3); have o3 := hidd (own_mono (c := w.heap.size) ho3 (by have := j2.out.below.size; omega)); clear hb3 ho3))
    go_ret2; exact ⟨v, by rw [fin.out]; rfl, k3.out.below, by rw [fin.out]; exact o3.out⟩
  · have hb := bne_1 hc
    have fin := hidd (la_no (so := shutSo wd g h) hc)
    have Hc := hidd hc
    clear hc
    go_enter Try.func21, Try.ntmps21
    go_wp2_with fail
    refine wp_region_in (fun w' => Keep2 w w' (blindCells n wd g (t) s) #[.int .i64 h]) (by kernel_rfl) (by kernel_rfl) kp.out ?_
    repeat (first | (refine wpQuiet_step (fun K hK => ?_); rw [if_pos (by rfl)]; refine quiet_load_all _ _ rfl _ rfl (blindCells n wd g (t) s) _ (agg_blind) (rfl) (fun w' hw' => hw'.row) ?_; go_simp; refine hK _ ?_; clear hK K) | (refine wpQuiet_step (fun K hK => ?_); rw [if_pos (by rfl)]; refine quiet_load_cell _ _ rfl _ rfl (.int .i64 h) (bone64) (fun w' hw' => (by rw [hw'.row2.cell]; rfl)) ?_; go_simp; refine hK _ ?_; clear hK K) | (refine wpQuiet_step (fun K hK => ?_); go_simp; first | (refine hK _ ?_; clear hK K) | (apply Exists.intro; refine ⟨fun w' hw' => ?_, hK _ ?_⟩; (first | rfl | exact ⟨rfl, rfl⟩ | ((first | (go_at_call 55; exact (up_impl _ _).mono fun e w'' h => ⟨h.1, h.2 ▸ hw'⟩) | (go_at_call 54; exact (code_blind n wd g t s n1 n2 t1 t2 _ _).mono fun e w'' h => ⟨h.1, hw'.step h.2⟩)))); clear hK K)))
    refine wpQuiet_nil ?_
    intro w1 j1
    have j2 := hidd j1
    clear j1
    go_wp2
    go_ret2; exact ⟨_, by rw [fin.out]; rfl, j2.out.below, by rw [fin.out]; exact own_none _ _ _⟩
end Go.Proofs.Ytjbfnbdigaodoaa
