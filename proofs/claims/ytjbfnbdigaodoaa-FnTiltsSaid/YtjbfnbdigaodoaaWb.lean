/-
  Blinds: what the functions of the program and of its reference that take a blind compute.
-/
import Derived.Test.YtjbfnbdigaodoaaWa
import Derived.Test.YtjbfnbdigaodoaaWe
import Derived.Test.YtjbfnbdigaodoaaPb
import Derived.Test.YtjbfnbdigaodoaaRw
namespace Go.Proofs.Ytjbfnbdigaodoaa
open Go.RowKit Go.Proofs.Fl Go.Proofs.Pl
set_option linter.unusedVariables false

theorem agg_blind : IsAgg Try.prog 40 5 := isAgg_struct Try.underlying40 (by kernel_rfl)
theorem bone8 : IsOne Try.prog 25 := isOne_int Try.underlying25
theorem bone16 : IsOne Try.prog 38 := isOne_int Try.underlying38
theorem bone64 : IsOne Try.prog 2 := isOne_int Try.underlying2
theorem bonef : IsOne Try.prog 24 := isOne_float Try.underlying24
section
variable {w : World} {b : Nat} {n : Int} {wd g : Nat} {t : Int} {s : Nat}
theorem bl_0 (h : Row w b (blindCells n wd g t s)) : w.cell? ⟨b, 0, none⟩ = some (.int .i8 n) := by rw [h.cell]; rfl
theorem bl_1 (h : Row w b (blindCells n wd g t s)) : w.cell? ⟨b, 1, none⟩ = some (.float .f32 wd) := by rw [h.cell]; rfl
theorem bl_2 (h : Row w b (blindCells n wd g t s)) : w.cell? ⟨b, 2, none⟩ = some (.float .f32 g) := by rw [h.cell]; rfl
theorem bl_3 (h : Row w b (blindCells n wd g t s)) : w.cell? ⟨b, 3, none⟩ = some (.int .i16 t) := by rw [h.cell]; rfl
theorem bl_4 (h : Row w b (blindCells n wd g t s)) : w.cell? ⟨b, 4, none⟩ = some (.float .f32 s) := by rw [h.cell]; rfl
end
@[go_sem] theorem run_min32 {P : Program} (w : World) (ts : Array TypeId) (ty : TypeId) {a b : Nat} (ha : Fnt a) (hb : Fnt b) : (Builtin.min_ ts ty #[.float .f32 a, .float .f32 b]).run P w = .ok (.float .f32 (fmin a b)) w := by
  have e := order_fin ha hb
  have e' : FloatKind.f32.format.order a b = some (compare (V a) (V b)) := e
  have hl := flt_fin ha hb
  have hg := fgt_fin ha hb
  have hsg : (FloatKind.f32.decode a).neg = sg a := by
    obtain ⟨m, p, e2, _, _⟩ := read_fin ha
    show (Ieee.single.read a).neg = sg a
    rw [e2]; rfl
  simp only [Builtin.min_, Builtin.min2, List.foldlM, Sem.run_bind, e']
  unfold fmin
  rw [hl, hg]
  rcases Int.lt_trichotomy (V a) (V b) with c | c | c
  · rw [Int.compare_eq_lt.2 c]; simp [c]
  · rw [Int.compare_eq_eq.2 c]; simp [c, hsg]
  · rw [Int.compare_eq_gt.2 c]; simp [c, Int.lt_asymm c]
theorem tilt_spec (n : Int) (w : World) : Calls Try.prog 83 #[.int .i64 n] w fun e w' => e = .returned (.bool (inR n (-64) 64)) ∧ w = w' := by
  go_enter Try.func83, Try.ntmps83
  go_wp2_with (go_at_call 52; refine (in_spec _ _ _ _).mono ?_; rintro e w' ⟨rfl, rfl⟩)
  go_ret; exact ⟨rfl, rfl⟩
theorem tilt_impl (n : Int) (w : World) : Calls Try.prog 68 #[.int .i64 n] w fun e w' => e = .returned (.bool (inR n (-64) 64)) ∧ w = w' := by
  go_enter Try.func68, Try.ntmps68
  go_wp2_with (go_at_call 44; refine (in_impl _ _ _ _).mono ?_; rintro e w' ⟨rfl, rfl⟩)
  go_ret; exact ⟨rfl, rfl⟩
theorem up_spec (n : Int) (w : World) : Calls Try.prog 60 #[.int .i64 n] w fun e w' => e = .returned (.bool (inR n 1 64)) ∧ w = w' := by
  go_enter Try.func60, Try.ntmps60
  go_wp2_with (go_at_call 52; refine (in_spec _ _ _ _).mono ?_; rintro e w' ⟨rfl, rfl⟩)
  go_ret; exact ⟨rfl, rfl⟩
theorem up_impl (n : Int) (w : World) : Calls Try.prog 55 #[.int .i64 n] w fun e w' => e = .returned (.bool (inR n 1 64)) ∧ w = w' := by
  go_enter Try.func55, Try.ntmps55
  go_wp2_with (go_at_call 44; refine (in_impl _ _ _ _).mono ?_; rintro e w' ⟨rfl, rfl⟩)
  go_ret; exact ⟨rfl, rfl⟩
theorem blind_spec (b : Nat) (n : Int) (wd g : Nat) (t : Int) (s : Nat) (n1 : -128 ≤ n) (n2 : n ≤ 127) (t1 : -32768 ≤ t) (t2 : t ≤ 32767) (w : World) (hs : Row w b (blindCells n wd g t s)) :
    Calls Try.prog 77 #[.pointer (some ⟨b, 0, none⟩)] w fun e w' => e = .returned (.bool (blindOk n wd g t s)) ∧ w = w' := by
  have c0 := bl_0 hs
  have c1 := bl_1 hs
  have c2 := bl_2 hs
  have c3 := bl_3 hs
  have c4 := bl_4 hs
  clear hs
  go_enter Try.func77, Try.ntmps77
  go_wp2_with (first | (go_at_call 80; refine (len_spec _ _).mono ?_; rintro e w' ⟨rfl, rfl⟩) | (go_at_call 39; refine (part_l01 _ _).mono ?_; rintro e w' ⟨rfl, rfl⟩) | (go_at_call 52; refine (in_spec _ _ _ _).mono ?_; rintro e w' ⟨rfl, rfl⟩) | (go_at_call 83; refine (tilt_spec _ _).mono ?_; rintro e w' ⟨rfl, rfl⟩))
  all_goals (go_ret; exact ⟨by simp [blindOk, *], rfl⟩)
theorem blind_impl (n : Int) (wd g : Nat) (t : Int) (s : Nat) (n1 : -128 ≤ n) (n2 : n ≤ 127) (t1 : -32768 ≤ t) (t2 : t ≤ 32767) (w : World) :
    Calls Try.prog 75 #[.agg #[.int .i8 n, .float .f32 wd, .float .f32 g, .int .i16 t, .float .f32 s]] w fun e w' => e = .returned (.bool (blindOk n wd g t s)) ∧ Below w.heap.size w w' := by
  have kp := hidd (Keep1.start w (blindCells n wd g t s) 40)
  go_enter Try.func75, Try.ntmps75
  go_wp2_with (first | (go_at_call 42; refine (len_impl _ _).mono ?_; rintro e w' ⟨rfl, rfl⟩) | (go_at_call 43; refine (part_impl _ _).mono ?_; rintro e w' ⟨rfl, rfl⟩) | (go_at_call 44; refine (in_impl _ _ _ _).mono ?_; rintro e w' ⟨rfl, rfl⟩) | (go_at_call 68; refine (tilt_impl _ _).mono ?_; rintro e w' ⟨rfl, rfl⟩))
  all_goals (go_ret; exact ⟨by simp [blindOk, *], kp.out.below⟩)
theorem asked_blind (b : Nat) (n : Int) (wd g : Nat) (t : Int) (s : Nat) (n1 : -128 ≤ n) (n2 : n ≤ 127) (t1 : -32768 ≤ t) (t2 : t ≤ 32767) (right : Bool) (w : World) (hs : Row w b (blindCells n wd g t s)) :
    Calls Try.prog 59 #[.pointer (some ⟨b, 0, none⟩), .bool right] w fun e w' => e = .returned (.int .i64 (code2 (blindOk n wd g t s) right)) ∧ w = w' := by
  have Hs := hidd hs
  clear hs
  go_enter Try.func59, Try.ntmps59
  go_wp2_with (go_at_call 77; refine (blind_spec _ n wd g t s n1 n2 t1 t2 _ Hs.out).mono ?_; rintro e w' ⟨rfl, rfl⟩)
  all_goals (go_ret; exact ⟨by simp_all [code2], rfl⟩)
theorem code_blind (n : Int) (wd g : Nat) (t : Int) (s : Nat) (n1 : -128 ≤ n) (n2 : n ≤ 127) (t1 : -32768 ≤ t) (t2 : t ≤ 32767) (right : Bool) (w : World) :
    Calls Try.prog 54 #[.agg #[.int .i8 n, .float .f32 wd, .float .f32 g, .int .i16 t, .float .f32 s], .bool right] w fun e w' => e = .returned (.int .i64 (code2 (blindOk n wd g t s) right)) ∧ Below w.heap.size w w' := by
  have kp := hidd (Keep1.start w (blindCells n wd g t s) 40)
  go_enter Try.func54, Try.ntmps54
  go_wp2_with (first | (refine wpList_load_all rfl _ _ rfl _ rfl (blindCells n wd g t s) 5 agg_blind rfl kp.out.row ?_) | (go_at_call 75; refine (blind_impl n wd g t s n1 n2 t1 t2 _).mono ?_; rintro e wn ⟨rfl, hbn⟩; have kn := hidd (kp.out.step hbn); clear kp hbn; have kp := kn; clear kn))
  all_goals (go_ret; exact ⟨by simp_all [code2], kp.out.below⟩)
end Go.Proofs.Ytjbfnbdigaodoaa
