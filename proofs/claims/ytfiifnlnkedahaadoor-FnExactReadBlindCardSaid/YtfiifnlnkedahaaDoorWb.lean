/-
  Blinds: what the functions of the program and of its reference that take a blind compute.
-/
import Derived.Test.YtfiifnlnkedahaaDoorWa
import Derived.Test.YtfiifnlnkedahaaDoorWe
import Derived.Test.YtfiifnlnkedahaaDoorPb
import Derived.Test.YtfiifnlnkedahaaDoorRw
namespace Go.Proofs.YtfiifnlnkedahaaDoor
open Go.RowKit Go.Proofs.Fl Go.Proofs.Pl
set_option linter.unusedVariables false

theorem agg_blind : IsAgg Tryd.prog 42 5 := isAgg_struct Tryd.underlying42 (by kernel_rfl)
theorem agg_lblind : IsAgg Tryd.prog 40 5 := isAgg_struct Tryd.underlying40 (by kernel_rfl)
theorem bone8 : IsOne Tryd.prog 38 := isOne_int Tryd.underlying38
theorem bone16 : IsOne Tryd.prog 30 := isOne_int Tryd.underlying30
theorem bone64 : IsOne Tryd.prog 2 := isOne_int Tryd.underlying2
theorem bonef : IsOne Tryd.prog 22 := isOne_float Tryd.underlying22
section
variable {w : World} {b : Nat} {n : Int} {wd g : Nat} {t : Int} {s : Nat}
theorem bl_0 (h : Row w b (blindCells n wd g t s)) : w.cell? ⟨b, 0, none⟩ = some (.int .i8 n) := by rw [h.cell]; rfl
theorem bl_1 (h : Row w b (blindCells n wd g t s)) : w.cell? ⟨b, 1, none⟩ = some (.float .f32 wd) := by rw [h.cell]; rfl
theorem bl_2 (h : Row w b (blindCells n wd g t s)) : w.cell? ⟨b, 2, none⟩ = some (.float .f32 g) := by rw [h.cell]; rfl
theorem bl_3 (h : Row w b (blindCells n wd g t s)) : w.cell? ⟨b, 3, none⟩ = some (.int .i16 t) := by rw [h.cell]; rfl
theorem bl_4 (h : Row w b (blindCells n wd g t s)) : w.cell? ⟨b, 4, none⟩ = some (.float .f32 s) := by rw [h.cell]; rfl
end
@[go_sem] theorem run_min32 {P : Program} (w : World) (ts : Array TypeId) (ty : TypeId) {a b : Nat} (ha : Fnt a) (hb : Fnt b) : (Builtin.min_ ts ty #[.float .f32 a, .float .f32 b]).run P w = .ok (.float .f32 (fmin a b)) w := by
  have e := order_fin ha hb
  have e' : FloatKind.f32.format.order a b = some (compare (V a) (V b)) := e
  have hl := flt_fin ha hb
  have hg := fgt_fin ha hb
  have hsg : (FloatKind.f32.decode a).neg = sg a := by
    obtain ⟨m, p, e2, _, _⟩ := read_fin ha
    show (Ieee.single.read a).neg = sg a
    rw [e2]; rfl
  simp only [Builtin.min_, Builtin.min2, List.foldlM, Sem.run_bind, e']
  unfold fmin
  rw [hl, hg]
  rcases Int.lt_trichotomy (V a) (V b) with c | c | c
  · rw [Int.compare_eq_lt.2 c]; simp [c]
  · rw [Int.compare_eq_eq.2 c]; simp [c, hsg]
  · rw [Int.compare_eq_gt.2 c]; simp [c, Int.lt_asymm c]
theorem to_blind (n : Int) (wd g : Nat) (t : Int) (s : Nat) (w : World) :
    Calls Tryd.prog 19 #[.agg #[.int .i8 n, .float .f32 wd, .float .f32 g, .int .i16 t, .float .f32 s]] w fun e w' => e = .returned (.agg #[.int .i8 n, .float .f32 wd, .float .f32 g, .int .i16 t, .float .f32 s]) ∧ Below w.heap.size w w' := by
  go_enter Tryd.func19, Tryd.ntmps19
  go_wp2
  refine bodyPost_ret (v := .agg #[.int .i8 n, .float .f32 wd, .float .f32 g, .int .i16 t, .float .f32 s]) (by simp [results, Tryd.results19, go_sem]) rfl ⟨rfl, ?_⟩
  exact (((Below.refl _ _).alloc (Nat.le_refl _) _).alloc (by simp) _).alloc (by simp; omega) _
theorem tilt_spec (n : Int) (w : World) : Calls Tryd.prog 66 #[.int .i64 n] w fun e w' => e = .returned (.bool (inR n (-64) 64)) ∧ w = w' := by
  go_enter Tryd.func66, Tryd.ntmps66
  go_wp2_with (go_at_call 89; refine (in_spec _ _ _ _).mono ?_; rintro e w' ⟨rfl, rfl⟩)
  go_ret; exact ⟨rfl, rfl⟩
theorem tilt_impl (n : Int) (w : World) : Calls Tryd.prog 67 #[.int .i64 n] w fun e w' => e = .returned (.bool (inR n (-64) 64)) ∧ w = w' := by
  go_enter Tryd.func67, Tryd.ntmps67
  go_wp2_with (go_at_call 64; refine (in_impl _ _ _ _).mono ?_; rintro e w' ⟨rfl, rfl⟩)
  go_ret; exact ⟨rfl, rfl⟩
theorem blind_spec (b : Nat) (n : Int) (wd g : Nat) (t : Int) (s : Nat) (n1 : -128 ≤ n) (n2 : n ≤ 127) (t1 : -32768 ≤ t) (t2 : t ≤ 32767) (w : World) (hs : Row w b (blindCells n wd g t s)) :
    Calls Tryd.prog 53 #[.pointer (some ⟨b, 0, none⟩)] w fun e w' => e = .returned (.bool (blindOk n wd g t s)) ∧ w = w' := by
  have c0 := bl_0 hs
  have c1 := bl_1 hs
  have c2 := bl_2 hs
  have c3 := bl_3 hs
  have c4 := bl_4 hs
  clear hs
  go_enter Tryd.func53, Tryd.ntmps53
  go_wp2_with (first | (go_at_call 90; refine (len_spec _ _).mono ?_; rintro e w' ⟨rfl, rfl⟩) | (go_at_call 75; refine (part_l01 _ _).mono ?_; rintro e w' ⟨rfl, rfl⟩) | (go_at_call 89; refine (in_spec _ _ _ _).mono ?_; rintro e w' ⟨rfl, rfl⟩) | (go_at_call 66; refine (tilt_spec _ _).mono ?_; rintro e w' ⟨rfl, rfl⟩))
  all_goals (go_ret; exact ⟨by simp [blindOk, *], rfl⟩)
theorem blind_impl (n : Int) (wd g : Nat) (t : Int) (s : Nat) (n1 : -128 ≤ n) (n2 : n ≤ 127) (t1 : -32768 ≤ t) (t2 : t ≤ 32767) (w : World) :
    Calls Tryd.prog 55 #[.agg #[.int .i8 n, .float .f32 wd, .float .f32 g, .int .i16 t, .float .f32 s]] w fun e w' => e = .returned (.bool (blindOk n wd g t s)) ∧ Below w.heap.size w w' := by
  have kp := hidd (Keep1.start w (blindCells n wd g t s) 42)
  go_enter Tryd.func55, Tryd.ntmps55
  go_wp2_with (first | (go_at_call 91; refine (len_impl _ _).mono ?_; rintro e w' ⟨rfl, rfl⟩) | (go_at_call 38; refine (part_impl _ _).mono ?_; rintro e w' ⟨rfl, rfl⟩) | (go_at_call 64; refine (in_impl _ _ _ _).mono ?_; rintro e w' ⟨rfl, rfl⟩) | (go_at_call 67; refine (tilt_impl _ _).mono ?_; rintro e w' ⟨rfl, rfl⟩))
  all_goals (go_ret; exact ⟨by simp [blindOk, *], kp.out.below⟩)
end Go.Proofs.YtfiifnlnkedahaaDoor
