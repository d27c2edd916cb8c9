/-
  Blinds: what the functions of the program and of its reference that take a blind compute.
-/
import Derived.Test.YtddkiemipedgcaaGreatDoorWa
import Derived.Test.YtddkiemipedgcaaGreatDoorWe
import Derived.Test.YtddkiemipedgcaaGreatDoorPb
import Derived.Test.YtddkiemipedgcaaGreatDoorRw
namespace Go.Proofs.YtddkiemipedgcaaGreatDoor
open Go.RowKit Go.Proofs.Fl Go.Proofs.Pl
set_option linter.unusedVariables false

theorem agg_blind : IsAgg Tryz.prog 56 5 := isAgg_struct Tryz.underlying56 (by kernel_rfl)
theorem bone8 : IsOne Tryz.prog 54 := isOne_int Tryz.underlying54
theorem bone16 : IsOne Tryz.prog 24 := isOne_int Tryz.underlying24
theorem bone64 : IsOne Tryz.prog 2 := isOne_int Tryz.underlying2
theorem bonef : IsOne Tryz.prog 30 := isOne_float Tryz.underlying30
section
variable {w : World} {b : Nat} {n : Int} {wd g : Nat} {t : Int} {s : Nat}
theorem bl_0 (h : Row w b (blindCells n wd g t s)) : w.cell? ⟨b, 0, none⟩ = some (.int .i8 n) := by rw [h.cell]; rfl
theorem bl_1 (h : Row w b (blindCells n wd g t s)) : w.cell? ⟨b, 1, none⟩ = some (.float .f32 wd) := by rw [h.cell]; rfl
theorem bl_2 (h : Row w b (blindCells n wd g t s)) : w.cell? ⟨b, 2, none⟩ = some (.float .f32 g) := by rw [h.cell]; rfl
theorem bl_3 (h : Row w b (blindCells n wd g t s)) : w.cell? ⟨b, 3, none⟩ = some (.int .i16 t) := by rw [h.cell]; rfl
theorem bl_4 (h : Row w b (blindCells n wd g t s)) : w.cell? ⟨b, 4, none⟩ = some (.float .f32 s) := by rw [h.cell]; rfl
end
@[go_sem] theorem run_min32 {P : Program} (w : World) (ts : Array TypeId) (ty : TypeId) {a b : Nat} (ha : Fnt a) (hb : Fnt b) : (Builtin.min_ ts ty #[.float .f32 a, .float .f32 b]).run P w = .ok (.float .f32 (fmin a b)) w := by
  have e := order_fin ha hb
  have e' : FloatKind.f32.format.order a b = some (compare (V a) (V b)) := e
  have hl := flt_fin ha hb
  have hg := fgt_fin ha hb
  have hsg : (FloatKind.f32.decode a).neg = sg a := by
    obtain ⟨m, p, e2, _, _⟩ := read_fin ha
    show (Ieee.single.read a).neg = sg a
    rw [e2]; rfl
  simp only [Builtin.min_, Builtin.min2, List.foldlM, Sem.run_bind, e']
  unfold fmin
  rw [hl, hg]
  rcases Int.lt_trichotomy (V a) (V b) with c | c | c
  · rw [Int.compare_eq_lt.2 c]; simp [c]
  · rw [Int.compare_eq_eq.2 c]; simp [c, hsg]
  · rw [Int.compare_eq_gt.2 c]; simp [c, Int.lt_asymm c]
theorem tilt_spec (n : Int) (w : World) : Calls Tryz.prog 143 #[.int .i64 n] w fun e w' => e = .returned (.bool (inR n (-64) 64)) ∧ w = w' := by
  go_enter Tryz.func143, Tryz.ntmps143
  go_wp2_with (go_at_call 113; refine (in_spec _ _ _ _).mono ?_; rintro e w' ⟨rfl, rfl⟩)
  go_ret; exact ⟨rfl, rfl⟩
theorem tilt_impl (n : Int) (w : World) : Calls Tryz.prog 83 #[.int .i64 n] w fun e w' => e = .returned (.bool (inR n (-64) 64)) ∧ w = w' := by
  go_enter Tryz.func83, Tryz.ntmps83
  go_wp2_with (go_at_call 55; refine (in_impl _ _ _ _).mono ?_; rintro e w' ⟨rfl, rfl⟩)
  go_ret; exact ⟨rfl, rfl⟩
theorem up_spec (n : Int) (w : World) : Calls Tryz.prog 89 #[.int .i64 n] w fun e w' => e = .returned (.bool (inR n 1 64)) ∧ w = w' := by
  go_enter Tryz.func89, Tryz.ntmps89
  go_wp2_with (go_at_call 113; refine (in_spec _ _ _ _).mono ?_; rintro e w' ⟨rfl, rfl⟩)
  go_ret; exact ⟨rfl, rfl⟩
theorem up_impl (n : Int) (w : World) : Calls Tryz.prog 86 #[.int .i64 n] w fun e w' => e = .returned (.bool (inR n 1 64)) ∧ w = w' := by
  go_enter Tryz.func86, Tryz.ntmps86
  go_wp2_with (go_at_call 55; refine (in_impl _ _ _ _).mono ?_; rintro e w' ⟨rfl, rfl⟩)
  go_ret; exact ⟨rfl, rfl⟩
theorem blind_spec (b : Nat) (n : Int) (wd g : Nat) (t : Int) (s : Nat) (n1 : -128 ≤ n) (n2 : n ≤ 127) (t1 : -32768 ≤ t) (t2 : t ≤ 32767) (w : World) (hs : Row w b (blindCells n wd g t s)) :
    Calls Tryz.prog 124 #[.pointer (some ⟨b, 0, none⟩)] w fun e w' => e = .returned (.bool (blindOk n wd g t s)) ∧ w = w' := by
  have c0 := bl_0 hs
  have c1 := bl_1 hs
  have c2 := bl_2 hs
  have c3 := bl_3 hs
  have c4 := bl_4 hs
  clear hs
  go_enter Tryz.func124, Tryz.ntmps124
  go_wp2_with (first | (go_at_call 142; refine (len_spec _ _).mono ?_; rintro e w' ⟨rfl, rfl⟩) | (go_at_call 72; refine (part_l01 _ _).mono ?_; rintro e w' ⟨rfl, rfl⟩) | (go_at_call 113; refine (in_spec _ _ _ _).mono ?_; rintro e w' ⟨rfl, rfl⟩) | (go_at_call 143; refine (tilt_spec _ _).mono ?_; rintro e w' ⟨rfl, rfl⟩))
  all_goals (go_ret; exact ⟨by simp [blindOk, *], rfl⟩)
theorem blind_impl (n : Int) (wd g : Nat) (t : Int) (s : Nat) (n1 : -128 ≤ n) (n2 : n ≤ 127) (t1 : -32768 ≤ t) (t2 : t ≤ 32767) (w : World) :
    Calls Tryz.prog 44 #[.agg #[.int .i8 n, .float .f32 wd, .float .f32 g, .int .i16 t, .float .f32 s]] w fun e w' => e = .returned (.bool (blindOk n wd g t s)) ∧ Below w.heap.size w w' := by
  have kp := hidd (Keep1.start w (blindCells n wd g t s) 56)
  go_enter Tryz.func44, Tryz.ntmps44
  go_wp2_with (first | (go_at_call 96; refine (len_impl _ _).mono ?_; rintro e w' ⟨rfl, rfl⟩) | (go_at_call 71; refine (part_impl _ _).mono ?_; rintro e w' ⟨rfl, rfl⟩) | (go_at_call 55; refine (in_impl _ _ _ _).mono ?_; rintro e w' ⟨rfl, rfl⟩) | (go_at_call 83; refine (tilt_impl _ _).mono ?_; rintro e w' ⟨rfl, rfl⟩))
  all_goals (go_ret; exact ⟨by simp [blindOk, *], kp.out.below⟩)
theorem asked_blind (b : Nat) (n : Int) (wd g : Nat) (t : Int) (s : Nat) (n1 : -128 ≤ n) (n2 : n ≤ 127) (t1 : -32768 ≤ t) (t2 : t ≤ 32767) (right : Bool) (w : World) (hs : Row w b (blindCells n wd g t s)) :
    Calls Tryz.prog 88 #[.pointer (some ⟨b, 0, none⟩), .bool right] w fun e w' => e = .returned (.int .i64 (code2 (blindOk n wd g t s) right)) ∧ w = w' := by
  have Hs := hidd hs
  clear hs
  go_enter Tryz.func88, Tryz.ntmps88
  go_wp2_with (go_at_call 124; refine (blind_spec _ n wd g t s n1 n2 t1 t2 _ Hs.out).mono ?_; rintro e w' ⟨rfl, rfl⟩)
  all_goals (go_ret; exact ⟨by simp_all [code2], rfl⟩)
theorem code_blind (n : Int) (wd g : Nat) (t : Int) (s : Nat) (n1 : -128 ≤ n) (n2 : n ≤ 127) (t1 : -32768 ≤ t) (t2 : t ≤ 32767) (right : Bool) (w : World) :
    Calls Tryz.prog 85 #[.agg #[.int .i8 n, .float .f32 wd, .float .f32 g, .int .i16 t, .float .f32 s], .bool right] w fun e w' => e = .returned (.int .i64 (code2 (blindOk n wd g t s) right)) ∧ Below w.heap.size w w' := by
  have kp := hidd (Keep1.start w (blindCells n wd g t s) 56)
  go_enter Tryz.func85, Tryz.ntmps85
  go_wp2_with (first | (refine wpList_load_all rfl _ _ rfl _ rfl (blindCells n wd g t s) 5 agg_blind rfl kp.out.row ?_) | (go_at_call 44; refine (blind_impl n wd g t s n1 n2 t1 t2 _).mono ?_; rintro e wn ⟨rfl, hbn⟩; have kn := hidd (kp.out.step hbn); clear kp hbn; have kp := kn; clear kn))
  all_goals (go_ret; exact ⟨by simp_all [code2], kp.out.below⟩)
def sameBlind (n : Int) (wd g : Nat) (t : Int) (s : Nat) (m : Int) (xd h : Nat) (u : Int) (r : Nat) : Bool := (n == m) && (t == u) && same wd xd && same g h && same s r
theorem same_blind_impl (n : Int) (wd g : Nat) (t : Int) (s : Nat) (m : Int) (xd h : Nat) (u : Int) (r : Nat) (w : World) :
    Calls Tryz.prog 43 #[.agg #[.int .i8 n, .float .f32 wd, .float .f32 g, .int .i16 t, .float .f32 s], .agg #[.int .i8 m, .float .f32 xd, .float .f32 h, .int .i16 u, .float .f32 r]] w
      fun e w' => e = .returned (.bool (sameBlind n wd g t s m xd h u r)) ∧ Below w.heap.size w w' := by
  go_enter Tryz.func43, Tryz.ntmps43
  go_wp2_with (go_at_call 95; refine (same_impl _ _ _).mono ?_; rintro e w' ⟨rfl, rfl⟩)
  all_goals (go_ret; exact ⟨by simp [sameBlind, *], ((Below.refl _ _).alloc (Nat.le_refl _) _).alloc (by simp) _⟩)
theorem same_blind_spec (n : Int) (wd g : Nat) (t : Int) (s : Nat) (m : Int) (xd h : Nat) (u : Int) (r : Nat) (w : World) :
    Calls Tryz.prog 42 #[.agg #[.int .i8 n, .float .f32 wd, .float .f32 g, .int .i16 t, .float .f32 s], .agg #[.int .i8 m, .float .f32 xd, .float .f32 h, .int .i16 u, .float .f32 r]] w
      fun e w' => e = .returned (.bool (sameBlind n wd g t s m xd h u r)) ∧ Below w.heap.size w w' := by
  go_enter Tryz.func42, Tryz.ntmps42
  go_wp2_with (go_at_call 73; refine (same_l01 _ _ _).mono ?_; rintro e w' ⟨rfl, rfl⟩)
  all_goals (go_ret; exact ⟨by simp [sameBlind, *], ((Below.refl _ _).alloc (Nat.le_refl _) _).alloc (by simp) _⟩)
end Go.Proofs.YtddkiemipedgcaaGreatDoor
