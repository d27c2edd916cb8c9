/-
  Blinds: what the functions of the program and of its reference that take a blind compute.
-/
import Derived.Test.YtfkbjkdapfdeeaaWa
import Derived.Test.YtfkbjkdapfdeeaaWe
import Derived.Test.YtfkbjkdapfdeeaaPb
import Derived.Test.YtfkbjkdapfdeeaaRw
namespace Go.Proofs.Ytfkbjkdapfdeeaa
open Go.RowKit Go.Proofs.Fl Go.Proofs.Pl
set_option linter.unusedVariables false

theorem agg_blind : IsAgg Try.prog 28 5 := isAgg_struct Try.underlying28 (by kernel_rfl)
theorem agg_lblind : IsAgg Try.prog 26 5 := isAgg_struct Try.underlying26 (by kernel_rfl)
theorem bone8 : IsOne Try.prog 22 := isOne_int Try.underlying22
theorem bone16 : IsOne Try.prog 24 := isOne_int Try.underlying24
theorem bone64 : IsOne Try.prog 2 := isOne_int Try.underlying2
theorem bonef : IsOne Try.prog 23 := isOne_float Try.underlying23
section
variable {w : World} {b : Nat} {n : Int} {wd g : Nat} {t : Int} {s : Nat}
theorem bl_0 (h : Row w b (blindCells n wd g t s)) : w.cell? ⟨b, 0, none⟩ = some (.int .i8 n) := by rw [h.cell]; rfl
theorem bl_1 (h : Row w b (blindCells n wd g t s)) : w.cell? ⟨b, 1, none⟩ = some (.float .f32 wd) := by rw [h.cell]; rfl
theorem bl_2 (h : Row w b (blindCells n wd g t s)) : w.cell? ⟨b, 2, none⟩ = some (.float .f32 g) := by rw [h.cell]; rfl
theorem bl_3 (h : Row w b (blindCells n wd g t s)) : w.cell? ⟨b, 3, none⟩ = some (.int .i16 t) := by rw [h.cell]; rfl
theorem bl_4 (h : Row w b (blindCells n wd g t s)) : w.cell? ⟨b, 4, none⟩ = some (.float .f32 s) := by rw [h.cell]; rfl
end
@[go_sem] theorem run_min32 {P : Program} (w : World) (ts : Array TypeId) (ty : TypeId) {a b : Nat} (ha : Fnt a) (hb : Fnt b) : (Builtin.min_ ts ty #[.float .f32 a, .float .f32 b]).run P w = .ok (.float .f32 (fmin a b)) w := by
  have e := order_fin ha hb
  have e' : FloatKind.f32.format.order a b = some (compare (V a) (V b)) := e
  have hl := flt_fin ha hb
  have hg := fgt_fin ha hb
  have hsg : (FloatKind.f32.decode a).neg = sg a := by
    obtain ⟨m, p, e2, _, _⟩ := read_fin ha
    show (Ieee.single.read a).neg = sg a
    rw [e2]; rfl
  simp only [Builtin.min_, Builtin.min2, List.foldlM, Sem.run_bind, e']
  unfold fmin
  rw [hl, hg]
  rcases Int.lt_trichotomy (V a) (V b) with c | c | c
  · rw [Int.compare_eq_lt.2 c]; simp [c]
  · rw [Int.compare_eq_eq.2 c]; simp [c, hsg]
  · rw [Int.compare_eq_gt.2 c]; simp [c, Int.lt_asymm c]
theorem to_blind (n : Int) (wd g : Nat) (t : Int) (s : Nat) (w : World) :
    Calls Try.prog 18 #[.agg #[.int .i8 n, .float .f32 wd, .float .f32 g, .int .i16 t, .float .f32 s]] w fun e w' => e = .returned (.agg #[.int .i8 n, .float .f32 wd, .float .f32 g, .int .i16 t, .float .f32 s]) ∧ Below w.heap.size w w' := by
  go_enter Try.func18, Try.ntmps18
  go_wp2
  refine bodyPost_ret (v := .agg #[.int .i8 n, .float .f32 wd, .float .f32 g, .int .i16 t, .float .f32 s]) (by simp [results, Try.results18, go_sem]) rfl ⟨rfl, ?_⟩
  exact (((Below.refl _ _).alloc (Nat.le_refl _) _).alloc (by simp) _).alloc (by simp; omega) _
theorem tilt_spec (n : Int) (w : World) : Calls Try.prog 68 #[.int .i64 n] w fun e w' => e = .returned (.bool (inR n (-64) 64)) ∧ w = w' := by
  go_enter Try.func68, Try.ntmps68
  go_wp2_with (go_at_call 95; refine (in_spec _ _ _ _).mono ?_; rintro e w' ⟨rfl, rfl⟩)
  go_ret; exact ⟨rfl, rfl⟩
theorem tilt_impl (n : Int) (w : World) : Calls Try.prog 66 #[.int .i64 n] w fun e w' => e = .returned (.bool (inR n (-64) 64)) ∧ w = w' := by
  go_enter Try.func66, Try.ntmps66
  go_wp2_with (go_at_call 64; refine (in_impl _ _ _ _).mono ?_; rintro e w' ⟨rfl, rfl⟩)
  go_ret; exact ⟨rfl, rfl⟩
theorem up_spec (n : Int) (w : World) : Calls Try.prog 72 #[.int .i64 n] w fun e w' => e = .returned (.bool (inR n 1 64)) ∧ w = w' := by
  go_enter Try.func72, Try.ntmps72
  go_wp2_with (go_at_call 95; refine (in_spec _ _ _ _).mono ?_; rintro e w' ⟨rfl, rfl⟩)
  go_ret; exact ⟨rfl, rfl⟩
theorem up_impl (n : Int) (w : World) : Calls Try.prog 74 #[.int .i64 n] w fun e w' => e = .returned (.bool (inR n 1 64)) ∧ w = w' := by
  go_enter Try.func74, Try.ntmps74
  go_wp2_with (go_at_call 64; refine (in_impl _ _ _ _).mono ?_; rintro e w' ⟨rfl, rfl⟩)
  go_ret; exact ⟨rfl, rfl⟩
theorem blind_spec (b : Nat) (n : Int) (wd g : Nat) (t : Int) (s : Nat) (n1 : -128 ≤ n) (n2 : n ≤ 127) (t1 : -32768 ≤ t) (t2 : t ≤ 32767) (w : World) (hs : Row w b (blindCells n wd g t s)) :
    Calls Try.prog 63 #[.pointer (some ⟨b, 0, none⟩)] w fun e w' => e = .returned (.bool (blindOk n wd g t s)) ∧ w = w' := by
  have c0 := bl_0 hs
  have c1 := bl_1 hs
  have c2 := bl_2 hs
  have c3 := bl_3 hs
  have c4 := bl_4 hs
  clear hs
  go_enter Try.func63, Try.ntmps63
  go_wp2_with (first | (go_at_call 96; refine (len_spec _ _).mono ?_; rintro e w' ⟨rfl, rfl⟩) | (go_at_call 80; refine (part_l01 _ _).mono ?_; rintro e w' ⟨rfl, rfl⟩) | (go_at_call 95; refine (in_spec _ _ _ _).mono ?_; rintro e w' ⟨rfl, rfl⟩) | (go_at_call 68; refine (tilt_spec _ _).mono ?_; rintro e w' ⟨rfl, rfl⟩))
  all_goals (go_ret; exact ⟨by simp [blindOk, *], rfl⟩)
theorem blind_impl (n : Int) (wd g : Nat) (t : Int) (s : Nat) (n1 : -128 ≤ n) (n2 : n ≤ 127) (t1 : -32768 ≤ t) (t2 : t ≤ 32767) (w : World) :
    Calls Try.prog 21 #[.agg #[.int .i8 n, .float .f32 wd, .float .f32 g, .int .i16 t, .float .f32 s]] w fun e w' => e = .returned (.bool (blindOk n wd g t s)) ∧ Below w.heap.size w w' := by
  have kp := hidd (Keep1.start w (blindCells n wd g t s) 28)
  go_enter Try.func21, Try.ntmps21
  go_wp2_with (first | (go_at_call 65; refine (len_impl _ _).mono ?_; rintro e w' ⟨rfl, rfl⟩) | (go_at_call 67; refine (part_impl _ _).mono ?_; rintro e w' ⟨rfl, rfl⟩) | (go_at_call 64; refine (in_impl _ _ _ _).mono ?_; rintro e w' ⟨rfl, rfl⟩) | (go_at_call 66; refine (tilt_impl _ _).mono ?_; rintro e w' ⟨rfl, rfl⟩))
  all_goals (go_ret; exact ⟨by simp [blindOk, *], kp.out.below⟩)
theorem valid_blind_spec (n : Int) (wd g : Nat) (t : Int) (s : Nat) (n1 : -128 ≤ n) (n2 : n ≤ 127) (t1 : -32768 ≤ t) (t2 : t ≤ 32767) (w : World) :
    Calls Try.prog 20 #[.agg #[.int .i8 n, .float .f32 wd, .float .f32 g, .int .i16 t, .float .f32 s]] w fun e w' => e = .returned (.bool (blindOk n wd g t s)) ∧ Below w.heap.size w w' := by
  have kp := hidd (Keep1.start w (blindCells n wd g t s) 28)
  go_enter Try.func20, Try.ntmps20
  go_wp2_with (go_at_call 63; refine (blind_spec _ n wd g t s n1 n2 t1 t2 _ kp.out.row).mono ?_; rintro e w' ⟨rfl, rfl⟩)
  go_ret; exact ⟨rfl, kp.out.below⟩
theorem asked_blind (b : Nat) (n : Int) (wd g : Nat) (t : Int) (s : Nat) (n1 : -128 ≤ n) (n2 : n ≤ 127) (t1 : -32768 ≤ t) (t2 : t ≤ 32767) (right : Bool) (w : World) (hs : Row w b (blindCells n wd g t s)) :
    Calls Try.prog 71 #[.pointer (some ⟨b, 0, none⟩), .bool right] w fun e w' => e = .returned (.int .i64 (code2 (blindOk n wd g t s) right)) ∧ w = w' := by
  have Hs := hidd hs
  clear hs
  go_enter Try.func71, Try.ntmps71
  go_wp2_with (go_at_call 63; refine (blind_spec _ n wd g t s n1 n2 t1 t2 _ Hs.out).mono ?_; rintro e w' ⟨rfl, rfl⟩)
  all_goals (go_ret; exact ⟨by simp_all [code2], rfl⟩)
theorem code_blind (n : Int) (wd g : Nat) (t : Int) (s : Nat) (n1 : -128 ≤ n) (n2 : n ≤ 127) (t1 : -32768 ≤ t) (t2 : t ≤ 32767) (right : Bool) (w : World) :
    Calls Try.prog 69 #[.agg #[.int .i8 n, .float .f32 wd, .float .f32 g, .int .i16 t, .float .f32 s], .bool right] w fun e w' => e = .returned (.int .i64 (code2 (blindOk n wd g t s) right)) ∧ Below w.heap.size w w' := by
  have kp := hidd (Keep1.start w (blindCells n wd g t s) 28)
  go_enter Try.func69, Try.ntmps69
  go_wp2_with (first | (refine wpList_load_all rfl _ _ rfl _ rfl (blindCells n wd g t s) 5 agg_blind rfl kp.out.row ?_) | (go_at_call 21; refine (blind_impl n wd g t s n1 n2 t1 t2 _).mono ?_; rintro e wn ⟨rfl, hbn⟩; have kn := hidd (kp.out.step hbn); clear kp hbn; have kp := kn; clear kn))
  all_goals (go_ret; exact ⟨by simp_all [code2], kp.out.below⟩)
def sameBlind (n : Int) (wd g : Nat) (t : Int) (s : Nat) (m : Int) (xd h : Nat) (u : Int) (r : Nat) : Bool := (n == m) && (t == u) && same wd xd && same g h && same s r
theorem same_blind_impl (n : Int) (wd g : Nat) (t : Int) (s : Nat) (m : Int) (xd h : Nat) (u : Int) (r : Nat) (w : World) :
    Calls Try.prog 19 #[.agg #[.int .i8 n, .float .f32 wd, .float .f32 g, .int .i16 t, .float .f32 s], .agg #[.int .i8 m, .float .f32 xd, .float .f32 h, .int .i16 u, .float .f32 r]] w
      fun e w' => e = .returned (.bool (sameBlind n wd g t s m xd h u r)) ∧ Below w.heap.size w w' := by
  go_enter Try.func19, Try.ntmps19
  go_wp2_with (go_at_call 62; refine (same_impl _ _ _).mono ?_; rintro e w' ⟨rfl, rfl⟩)
  all_goals (go_ret; exact ⟨by simp [sameBlind, *], ((Below.refl _ _).alloc (Nat.le_refl _) _).alloc (by simp) _⟩)
theorem same_blind_spec (n : Int) (wd g : Nat) (t : Int) (s : Nat) (m : Int) (xd h : Nat) (u : Int) (r : Nat) (w : World) :
    Calls Try.prog 17 #[.agg #[.int .i8 n, .float .f32 wd, .float .f32 g, .int .i16 t, .float .f32 s], .agg #[.int .i8 m, .float .f32 xd, .float .f32 h, .int .i16 u, .float .f32 r]] w
      fun e w' => e = .returned (.bool (sameBlind n wd g t s m xd h u r)) ∧ Below w.heap.size w w' := by
  go_enter Try.func17, Try.ntmps17
  go_wp2_with (go_at_call 61; refine (same_l01 _ _ _).mono ?_; rintro e w' ⟨rfl, rfl⟩)
  all_goals (go_ret; exact ⟨by simp [sameBlind, *], ((Below.refl _ _).alloc (Nat.le_refl _) _).alloc (by simp) _⟩)
end Go.Proofs.Ytfkbjkdapfdeeaa
