/-
  What the smaller functions of the program and of its reference compute: tests of numbers, sizes, angles, sines; two numbers compared by their text's law ('sameFloat').
-/
import Derived.Test.YtjodamgdoodnkaaFw
import Derived.Test.YtjodamgdoodnkaaPl
import Derived.Test.YtjodamgdoodnkaaWd
namespace Go.Proofs.Ytjodamgdoodnkaa
set_option linter.unusedVariables false
open Go.RowKit Go.Proofs.Fl Go.Proofs.Pl

theorem in_spec (n lo hi : Int) (w : World) :
    Calls Try.prog 70 #[.int .i64 n, .int .i64 lo, .int .i64 hi] w fun e w' => e = .returned (.bool (inR n lo hi)) ∧ w = w' := by
  unfold inR
  go_enter Try.func70, Try.ntmps70
  go_wp2
  all_goals (go_ret; exact ⟨by simp [*] <;> omega, rfl⟩)
theorem in_impl (n lo hi : Int) (w : World) :
    Calls Try.prog 47 #[.int .i64 n, .int .i64 lo, .int .i64 hi] w fun e w' => e = .returned (.bool (inR n lo hi)) ∧ w = w' := by
  unfold inR
  go_enter Try.func47, Try.ntmps47
  go_wp2
  all_goals (go_ret; exact ⟨by simp [*] <;> omega, rfl⟩)
theorem part_l01 (a : Nat) (w : World) : Calls Try.prog 67 #[.float .f32 a] w fun e w' => e = .returned (.bool (isPart a)) ∧ w = w' := by
  unfold isPart one
  go_enter Try.func67, Try.ntmps67
  go_wp2
  all_goals (go_ret; exact ⟨by simp [*], rfl⟩)
theorem part_impl (a : Nat) (w : World) : Calls Try.prog 68 #[.float .f32 a] w fun e w' => e = .returned (.bool (isPart a)) ∧ w = w' := by
  unfold isPart one
  go_enter Try.func68, Try.ntmps68
  go_wp2
  all_goals (go_ret; exact ⟨by simp [*], rfl⟩)
theorem angle_spec (n : Int) (w : World) :
    Calls Try.prog 53 #[.int .i64 n] w fun e w' => e = .returned (.int .i64 (n % 256)) ∧ w = w' := by
  have ha := hidd (tmod_by' n 256 (by decide))
  have hb := (tmod_bd n 256 (by decide)).1
  have hc := (tmod_bd n 256 (by decide)).2
  go_enter Try.func53, Try.ntmps53
  go_wp2
  go_ret; exact ⟨by simp [ha.out], rfl⟩
theorem rest_impl (n by_ : Int) (h0 : 0 < by_) (h1 : by_ ≤ 1000) (w : World) :
    Calls Try.prog 54 #[.int .i64 n, .int .i64 by_] w fun e w' => e = .returned (.int .i64 (n % by_)) ∧ w = w' := by
  have ha := hidd (tmod_by' n by_ h0)
  have hb := (tmod_bd n by_ h0).1
  have hc := (tmod_bd n by_ h0).2
  go_enter Try.func54, Try.ntmps54
  go_wp2
  go_ret; exact ⟨by simp [ha.out], rfl⟩
theorem quarter_spec (n : Int) (h0 : 0 ≤ n) (h1 : n ≤ 64) (w : World) :
    Calls Try.prog 77 #[.int .i64 n] w fun e w' => e = .returned (.float .f32 (quarter n)) ∧ w = w' := by
  obtain ⟨k, rfl⟩ := Int.eq_ofNat_of_zero_le h0
  obtain ⟨f1, f2, f3, f4, f5, f6, f7⟩ := quarter_steps k (by omega)
  have c1 : Fnt 1115684864 := by decide
  have c1' : rung 1115684864 ≠ 0 := by decide
  have c2 : Fnt 1059356672 := by decide
  have c3 : Fnt 1070137344 := by decide
  have c4 : Fnt 1033109504 := by decide
  unfold quarter
  go_enter Try.func77, Try.ntmps77
  go_wp2
  go_ret; exact ⟨rfl, rfl⟩
theorem sine_low (n k : Int) (hk : n % 256 = k) (h0 : 0 ≤ k) (h1 : k ≤ 64) (w : World) :
    Calls Try.prog 72 #[.int .i64 n] w fun e w' => e = .returned (.float .f32 (quarter k)) ∧ w = w' := by
  obtain ⟨k, rfl⟩ := Int.eq_ofNat_of_zero_le h0
  obtain ⟨f1, f2, f3, f4, f5, f6, f7⟩ := quarter_steps k (by omega)
  have c1 : Fnt 1115684864 := by decide
  have c1' : rung 1115684864 ≠ 0 := by decide
  have c2 : Fnt 1059356672 := by decide
  have c3 : Fnt 1070137344 := by decide
  have c4 : Fnt 1033109504 := by decide
  have Hm := hidd hk
  clear hk
  unfold quarter
  go_enter Try.func72, Try.ntmps72
  go_wp2_with (go_at_call 54; refine (rest_impl _ _ (by omega) (by omega) _).mono ?_; rintro e w' ⟨rfl, rfl⟩; rw [Hm.out])
  go_ret; exact ⟨rfl, rfl⟩
theorem sine_small (n : Int) (h0 : 0 ≤ n) (h1 : n ≤ 64) (w : World) :
    Calls Try.prog 72 #[.int .i64 n] w fun e w' => e = .returned (.float .f32 (quarter n)) ∧ w = w' := sine_low n n (by omega) h0 h1 w
theorem sine_impl (n : Int) (w : World) :
    Calls Try.prog 72 #[.int .i64 n] w fun e w' => e = .returned (.float .f32 (sine n)) ∧ w = w' := by
  have z : Fnt 0 := by decide
  have g0 := Int.emod_nonneg n (show (256 : Int) ≠ 0 by decide)
  have g1 := Int.emod_lt_of_pos n (show (0 : Int) < 256 by decide)
  generalize hk : n % 256 = k at *
  have Hk := hidd hk
  by_cases a1 : 192 < k
  · have q := (quarter_fin (a := 256 - k) (by omega) (by omega)).1
    have hs := hidd (sine_1 hk a1)
    clear hk
    go_enter Try.func72, Try.ntmps72
    go_wp2_with (first | (go_at_call 54; refine (rest_impl _ _ (by omega) (by omega) _).mono ?_; rintro e w' ⟨rfl, rfl⟩; rw [Hk.out]) | (go_at_call 72; refine (sine_small _ (by omega) (by omega) _).mono ?_; rintro e w' ⟨rfl, rfl⟩))
    go_ret; exact ⟨by rw [hs.out]; rfl, rfl⟩
  · by_cases a2 : 128 < k
    · have q := (quarter_fin (a := k - 128) (by omega) (by omega)).1
      have hs := hidd (sine_2 hk a1 a2)
      clear hk
      go_enter Try.func72, Try.ntmps72
      go_wp2_with (first | (go_at_call 54; refine (rest_impl _ _ (by omega) (by omega) _).mono ?_; rintro e w' ⟨rfl, rfl⟩; rw [Hk.out]) | (go_at_call 72; refine (sine_small _ (by omega) (by omega) _).mono ?_; rintro e w' ⟨rfl, rfl⟩))
      go_ret; exact ⟨by rw [hs.out]; rfl, rfl⟩
    · by_cases a3 : 64 < k
      · have hs := hidd (sine_3 hk a2 a3)
        clear hk
        go_enter Try.func72, Try.ntmps72
        go_wp2_with (first | (go_at_call 54; refine (rest_impl _ _ (by omega) (by omega) _).mono ?_; rintro e w' ⟨rfl, rfl⟩; rw [Hk.out]) | (go_at_call 72; refine (sine_small _ (by omega) (by omega) _).mono ?_; rintro e w' ⟨rfl, rfl⟩))
        go_ret; exact ⟨by rw [hs.out]; rfl, rfl⟩
      · refine (sine_low n k hk g0 (by omega) w).mono fun e w' h => ?_
        rw [sine_4 hk a3]; exact h
theorem cosine_impl (n : Int) (w : World) :
    Calls Try.prog 75 #[.int .i64 n] w fun e w' => e = .returned (.float .f32 (cosine n)) ∧ w = w' := by
  have g0 := Int.emod_nonneg n (show (256 : Int) ≠ 0 by decide)
  have g1 := Int.emod_lt_of_pos n (show (0 : Int) < 256 by decide)
  unfold cosine
  go_enter Try.func75, Try.ntmps75
  go_wp2_with (first | (go_at_call 54; refine (rest_impl _ _ (by omega) (by omega) _).mono ?_; rintro e w' ⟨rfl, rfl⟩) | (go_at_call 72; refine (sine_impl _ _).mono ?_; rintro e w' ⟨rfl, rfl⟩))
  go_ret; exact ⟨rfl, rfl⟩
theorem sine_l01 (n : Int) (w : World) :
    Calls Try.prog 71 #[.int .i64 n] w fun e w' => e = .returned (.float .f32 (sine n)) ∧ w = w' := by
  have z : Fnt 0 := by decide
  have g0 := Int.emod_nonneg n (show (256 : Int) ≠ 0 by decide)
  have g1 := Int.emod_lt_of_pos n (show (0 : Int) < 256 by decide)
  generalize hk : n % 256 = k at *
  have Hk := hidd hk
  by_cases a1 : 192 < k
  · have q := (quarter_fin (a := 256 - k) (by omega) (by omega)).1
    have hs := hidd (sine_1 hk a1)
    clear hk
    go_enter Try.func71, Try.ntmps71
    go_wp2_with (first | (go_at_call 53; refine (angle_spec _ _).mono ?_; rintro e w' ⟨rfl, rfl⟩; rw [Hk.out]) | (go_at_call 77; refine (quarter_spec _ (by omega) (by omega) _).mono ?_; rintro e w' ⟨rfl, rfl⟩))
    go_ret; exact ⟨by rw [hs.out]; rfl, rfl⟩
  · by_cases a2 : 128 < k
    · have q := (quarter_fin (a := k - 128) (by omega) (by omega)).1
      have hs := hidd (sine_2 hk a1 a2)
      clear hk
      go_enter Try.func71, Try.ntmps71
      go_wp2_with (first | (go_at_call 53; refine (angle_spec _ _).mono ?_; rintro e w' ⟨rfl, rfl⟩; rw [Hk.out]) | (go_at_call 77; refine (quarter_spec _ (by omega) (by omega) _).mono ?_; rintro e w' ⟨rfl, rfl⟩))
      go_ret; exact ⟨by rw [hs.out]; rfl, rfl⟩
    · by_cases a3 : 64 < k
      · have hs := hidd (sine_3 hk a2 a3)
        clear hk
        go_enter Try.func71, Try.ntmps71
        go_wp2_with (first | (go_at_call 53; refine (angle_spec _ _).mono ?_; rintro e w' ⟨rfl, rfl⟩; rw [Hk.out]) | (go_at_call 77; refine (quarter_spec _ (by omega) (by omega) _).mono ?_; rintro e w' ⟨rfl, rfl⟩))
        go_ret; exact ⟨by rw [hs.out]; rfl, rfl⟩
      · have hs := hidd (sine_4 hk a3)
        clear hk
        go_enter Try.func71, Try.ntmps71
        go_wp2_with (first | (go_at_call 53; refine (angle_spec _ _).mono ?_; rintro e w' ⟨rfl, rfl⟩; rw [Hk.out]) | (go_at_call 77; refine (quarter_spec _ (by omega) (by omega) _).mono ?_; rintro e w' ⟨rfl, rfl⟩))
        go_ret; exact ⟨by rw [hs.out]; rfl, rfl⟩
theorem cosine_l01 (n : Int) (w : World) :
    Calls Try.prog 73 #[.int .i64 n] w fun e w' => e = .returned (.float .f32 (cosine n)) ∧ w = w' := by
  have g0 := Int.emod_nonneg n (show (256 : Int) ≠ 0 by decide)
  have g1 := Int.emod_lt_of_pos n (show (0 : Int) < 256 by decide)
  unfold cosine
  go_enter Try.func73, Try.ntmps73
  go_wp2_with (first | (go_at_call 53; refine (angle_spec _ _).mono ?_; rintro e w' ⟨rfl, rfl⟩) | (go_at_call 71; refine (sine_l01 _ _).mono ?_; rintro e w' ⟨rfl, rfl⟩))
  go_ret; exact ⟨rfl, rfl⟩
end Go.Proofs.Ytjodamgdoodnkaa
