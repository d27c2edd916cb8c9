/-
  What the smaller functions of the program and of its reference compute: tests of numbers, sizes, angles, sines; two numbers compared by their text's law ('sameFloat').
-/
import Derived.Test.YtfiifnlnkedahaaDoorFw
import Derived.Test.YtfiifnlnkedahaaDoorPl
import Derived.Test.YtfiifnlnkedahaaDoorWd
namespace Go.Proofs.YtfiifnlnkedahaaDoor
open Go.RowKit Go.Proofs.Fl Go.Proofs.Pl

theorem in_spec (n lo hi : Int) (w : World) :
    Calls Tryd.prog 89 #[.int .i64 n, .int .i64 lo, .int .i64 hi] w fun e w' => e = .returned (.bool (inR n lo hi)) ∧ w = w' := by
  unfold inR
  go_enter Tryd.func89, Tryd.ntmps89
  go_wp2
  all_goals (go_ret; exact ⟨by simp [*] <;> omega, rfl⟩)
theorem in_impl (n lo hi : Int) (w : World) :
    Calls Tryd.prog 64 #[.int .i64 n, .int .i64 lo, .int .i64 hi] w fun e w' => e = .returned (.bool (inR n lo hi)) ∧ w = w' := by
  unfold inR
  go_enter Tryd.func64, Tryd.ntmps64
  go_wp2
  all_goals (go_ret; exact ⟨by simp [*] <;> omega, rfl⟩)
theorem part_l01 (a : Nat) (w : World) : Calls Tryd.prog 75 #[.float .f32 a] w fun e w' => e = .returned (.bool (isPart a)) ∧ w = w' := by
  unfold isPart one
  go_enter Tryd.func75, Tryd.ntmps75
  go_wp2
  all_goals (go_ret; exact ⟨by simp [*], rfl⟩)
theorem part_impl (a : Nat) (w : World) : Calls Tryd.prog 38 #[.float .f32 a] w fun e w' => e = .returned (.bool (isPart a)) ∧ w = w' := by
  unfold isPart one
  go_enter Tryd.func38, Tryd.ntmps38
  go_wp2
  all_goals (go_ret; exact ⟨by simp [*], rfl⟩)
theorem part_spec (a : Nat) (w : World) : Calls Tryd.prog 39 #[.float .f32 a] w fun e w' => e = .returned (.bool (isPart a)) ∧ w = w' := by
  go_enter Tryd.func39, Tryd.ntmps39
  go_wp2_with (go_at_call 75; refine (part_l01 _ _).mono ?_; rintro e w' ⟨rfl, rfl⟩)
  go_ret; exact ⟨rfl, rfl⟩
theorem plain_l01 (a : Nat) (w : World) : Calls Tryd.prog 74 #[.float .f32 a] w fun e w' => e = .returned (.bool (isPlain a)) ∧ w = w' := by
  unfold isPlain
  go_enter Tryd.func74, Tryd.ntmps74
  go_wp2
  all_goals (go_ret; exact ⟨by simp [*], rfl⟩)
theorem plain_impl (a : Nat) (w : World) : Calls Tryd.prog 36 #[.float .f32 a] w fun e w' => e = .returned (.bool (isPlain a)) ∧ w = w' := by
  unfold isPlain
  go_enter Tryd.func36, Tryd.ntmps36
  go_wp2
  all_goals (go_ret; exact ⟨by simp [*], rfl⟩)
theorem plain_spec (a : Nat) (w : World) : Calls Tryd.prog 37 #[.float .f32 a] w fun e w' => e = .returned (.bool (isPlain a)) ∧ w = w' := by
  go_enter Tryd.func37, Tryd.ntmps37
  go_wp2_with (go_at_call 74; refine (plain_l01 _ _).mono ?_; rintro e w' ⟨rfl, rfl⟩)
  go_ret; exact ⟨rfl, rfl⟩
theorem len_spec (a : Nat) (w : World) : Calls Tryd.prog 90 #[.float .f32 a] w fun e w' => e = .returned (.bool (isLen a)) ∧ w = w' := by
  unfold isLen
  go_enter Tryd.func90, Tryd.ntmps90
  go_wp2
  all_goals (go_ret; exact ⟨by simp [*], rfl⟩)
theorem len_impl (a : Nat) (w : World) : Calls Tryd.prog 91 #[.float .f32 a] w fun e w' => e = .returned (.bool (isLen a)) ∧ w = w' := by
  unfold isLen
  go_enter Tryd.func91, Tryd.ntmps91
  go_wp2
  all_goals (go_ret; exact ⟨by simp [*], rfl⟩)
theorem same_l01 (a b : Nat) (w : World) : Calls Tryd.prog 71 #[.float .f32 a, .float .f32 b] w fun e w' => e = .returned (.bool (same a b)) ∧ w = w' := by
  unfold same
  go_enter Tryd.func71, Tryd.ntmps71
  go_wp2
  all_goals (go_ret; exact ⟨by simp [*], rfl⟩)
theorem same_impl (a b : Nat) (w : World) : Calls Tryd.prog 35 #[.float .f32 a, .float .f32 b] w fun e w' => e = .returned (.bool (same a b)) ∧ w = w' := by
  unfold same
  go_enter Tryd.func35, Tryd.ntmps35
  go_wp2
  all_goals (go_ret; exact ⟨by simp [*], rfl⟩)
theorem same_spec (a b : Nat) (w : World) : Calls Tryd.prog 33 #[.float .f32 a, .float .f32 b] w fun e w' => e = .returned (.bool (same a b)) ∧ w = w' := by
  go_enter Tryd.func33, Tryd.ntmps33
  go_wp2_with (go_at_call 71; refine (same_l01 _ _ _).mono ?_; rintro e w' ⟨rfl, rfl⟩)
  go_ret; exact ⟨rfl, rfl⟩
theorem angle_spec (n : Int) (w : World) :
    Calls Tryd.prog 95 #[.int .i64 n] w fun e w' => e = .returned (.int .i64 (n % 256)) ∧ w = w' := by
  have ha := hidd (tmod_by' n 256 (by decide))
  have hb := (tmod_bd n 256 (by decide)).1
  have hc := (tmod_bd n 256 (by decide)).2
  go_enter Tryd.func95, Tryd.ntmps95
  go_wp2
  go_ret; exact ⟨by simp [ha.out], rfl⟩
theorem rest_impl (n by_ : Int) (h0 : 0 < by_) (h1 : by_ ≤ 1000) (w : World) :
    Calls Tryd.prog 68 #[.int .i64 n, .int .i64 by_] w fun e w' => e = .returned (.int .i64 (n % by_)) ∧ w = w' := by
  have ha := hidd (tmod_by' n by_ h0)
  have hb := (tmod_bd n by_ h0).1
  have hc := (tmod_bd n by_ h0).2
  go_enter Tryd.func68, Tryd.ntmps68
  go_wp2
  go_ret; exact ⟨by simp [ha.out], rfl⟩
theorem quarter_spec (n : Int) (h0 : 0 ≤ n) (h1 : n ≤ 64) (w : World) :
    Calls Tryd.prog 96 #[.int .i64 n] w fun e w' => e = .returned (.float .f32 (quarter n)) ∧ w = w' := by
  obtain ⟨k, rfl⟩ := Int.eq_ofNat_of_zero_le h0
  obtain ⟨f1, f2, f3, f4, f5, f6, f7⟩ := quarter_steps k (by omega)
  have c1 : Fnt 1115684864 := by decide
  have c1' : rung 1115684864 ≠ 0 := by decide
  have c2 : Fnt 1059356672 := by decide
  have c3 : Fnt 1070137344 := by decide
  have c4 : Fnt 1033109504 := by decide
  unfold quarter
  go_enter Tryd.func96, Tryd.ntmps96
  go_wp2
  go_ret; exact ⟨rfl, rfl⟩
theorem sine_low (n k : Int) (hk : n % 256 = k) (h0 : 0 ≤ k) (h1 : k ≤ 64) (w : World) :
    Calls Tryd.prog 29 #[.int .i64 n] w fun e w' => e = .returned (.float .f32 (quarter k)) ∧ w = w' := by
  obtain ⟨k, rfl⟩ := Int.eq_ofNat_of_zero_le h0
  obtain ⟨f1, f2, f3, f4, f5, f6, f7⟩ := quarter_steps k (by omega)
  have c1 : Fnt 1115684864 := by decide
  have c1' : rung 1115684864 ≠ 0 := by decide
  have c2 : Fnt 1059356672 := by decide
  have c3 : Fnt 1070137344 := by decide
  have c4 : Fnt 1033109504 := by decide
  have Hm := hidd hk
  clear hk
  unfold quarter
  go_enter Tryd.func29, Tryd.ntmps29
  go_wp2_with (go_at_call 68; refine (rest_impl _ _ (by omega) (by omega) _).mono ?_; rintro e w' ⟨rfl, rfl⟩; rw [Hm.out])
  go_ret; exact ⟨rfl, rfl⟩
theorem sine_small (n : Int) (h0 : 0 ≤ n) (h1 : n ≤ 64) (w : World) :
    Calls Tryd.prog 29 #[.int .i64 n] w fun e w' => e = .returned (.float .f32 (quarter n)) ∧ w = w' := sine_low n n (by omega) h0 h1 w
theorem sine_impl (n : Int) (w : World) :
    Calls Tryd.prog 29 #[.int .i64 n] w fun e w' => e = .returned (.float .f32 (sine n)) ∧ w = w' := by
  have z : Fnt 0 := by decide
  have g0 := Int.emod_nonneg n (show (256 : Int) ≠ 0 by decide)
  have g1 := Int.emod_lt_of_pos n (show (0 : Int) < 256 by decide)
  generalize hk : n % 256 = k at *
  have Hk := hidd hk
  by_cases a1 : 192 < k
  · have q := (quarter_fin (a := 256 - k) (by omega) (by omega)).1
    have hs := hidd (sine_1 hk a1)
    clear hk
    go_enter Tryd.func29, Tryd.ntmps29
    go_wp2_with (first | (go_at_call 68; refine (rest_impl _ _ (by omega) (by omega) _).mono ?_; rintro e w' ⟨rfl, rfl⟩; rw [Hk.out]) | (go_at_call 29; refine (sine_small _ (by omega) (by omega) _).mono ?_; rintro e w' ⟨rfl, rfl⟩))
    go_ret; exact ⟨by rw [hs.out]; rfl, rfl⟩
  · by_cases a2 : 128 < k
    · have q := (quarter_fin (a := k - 128) (by omega) (by omega)).1
      have hs := hidd (sine_2 hk a1 a2)
      clear hk
      go_enter Tryd.func29, Tryd.ntmps29
      go_wp2_with (first | (go_at_call 68; refine (rest_impl _ _ (by omega) (by omega) _).mono ?_; rintro e w' ⟨rfl, rfl⟩; rw [Hk.out]) | (go_at_call 29; refine (sine_small _ (by omega) (by omega) _).mono ?_; rintro e w' ⟨rfl, rfl⟩))
      go_ret; exact ⟨by rw [hs.out]; rfl, rfl⟩
    · by_cases a3 : 64 < k
      · have hs := hidd (sine_3 hk a2 a3)
        clear hk
        go_enter Tryd.func29, Tryd.ntmps29
        go_wp2_with (first | (go_at_call 68; refine (rest_impl _ _ (by omega) (by omega) _).mono ?_; rintro e w' ⟨rfl, rfl⟩; rw [Hk.out]) | (go_at_call 29; refine (sine_small _ (by omega) (by omega) _).mono ?_; rintro e w' ⟨rfl, rfl⟩))
        go_ret; exact ⟨by rw [hs.out]; rfl, rfl⟩
      · refine (sine_low n k hk g0 (by omega) w).mono fun e w' h => ?_
        rw [sine_4 hk a3]; exact h
theorem cosine_impl (n : Int) (w : World) :
    Calls Tryd.prog 31 #[.int .i64 n] w fun e w' => e = .returned (.float .f32 (cosine n)) ∧ w = w' := by
  have g0 := Int.emod_nonneg n (show (256 : Int) ≠ 0 by decide)
  have g1 := Int.emod_lt_of_pos n (show (0 : Int) < 256 by decide)
  unfold cosine
  go_enter Tryd.func31, Tryd.ntmps31
  go_wp2_with (first | (go_at_call 68; refine (rest_impl _ _ (by omega) (by omega) _).mono ?_; rintro e w' ⟨rfl, rfl⟩) | (go_at_call 29; refine (sine_impl _ _).mono ?_; rintro e w' ⟨rfl, rfl⟩))
  go_ret; exact ⟨rfl, rfl⟩
theorem sine_l01 (n : Int) (w : World) :
    Calls Tryd.prog 69 #[.int .i64 n] w fun e w' => e = .returned (.float .f32 (sine n)) ∧ w = w' := by
  have z : Fnt 0 := by decide
  have g0 := Int.emod_nonneg n (show (256 : Int) ≠ 0 by decide)
  have g1 := Int.emod_lt_of_pos n (show (0 : Int) < 256 by decide)
  generalize hk : n % 256 = k at *
  have Hk := hidd hk
  by_cases a1 : 192 < k
  · have q := (quarter_fin (a := 256 - k) (by omega) (by omega)).1
    have hs := hidd (sine_1 hk a1)
    clear hk
    go_enter Tryd.func69, Tryd.ntmps69
    go_wp2_with (first | (go_at_call 95; refine (angle_spec _ _).mono ?_; rintro e w' ⟨rfl, rfl⟩; rw [Hk.out]) | (go_at_call 96; refine (quarter_spec _ (by omega) (by omega) _).mono ?_; rintro e w' ⟨rfl, rfl⟩))
    go_ret; exact ⟨by rw [hs.out]; rfl, rfl⟩
  · by_cases a2 : 128 < k
    · have q := (quarter_fin (a := k - 128) (by omega) (by omega)).1
      have hs := hidd (sine_2 hk a1 a2)
      clear hk
      go_enter Tryd.func69, Tryd.ntmps69
      go_wp2_with (first | (go_at_call 95; refine (angle_spec _ _).mono ?_; rintro e w' ⟨rfl, rfl⟩; rw [Hk.out]) | (go_at_call 96; refine (quarter_spec _ (by omega) (by omega) _).mono ?_; rintro e w' ⟨rfl, rfl⟩))
      go_ret; exact ⟨by rw [hs.out]; rfl, rfl⟩
    · by_cases a3 : 64 < k
      · have hs := hidd (sine_3 hk a2 a3)
        clear hk
        go_enter Tryd.func69, Tryd.ntmps69
        go_wp2_with (first | (go_at_call 95; refine (angle_spec _ _).mono ?_; rintro e w' ⟨rfl, rfl⟩; rw [Hk.out]) | (go_at_call 96; refine (quarter_spec _ (by omega) (by omega) _).mono ?_; rintro e w' ⟨rfl, rfl⟩))
        go_ret; exact ⟨by rw [hs.out]; rfl, rfl⟩
      · have hs := hidd (sine_4 hk a3)
        clear hk
        go_enter Tryd.func69, Tryd.ntmps69
        go_wp2_with (first | (go_at_call 95; refine (angle_spec _ _).mono ?_; rintro e w' ⟨rfl, rfl⟩; rw [Hk.out]) | (go_at_call 96; refine (quarter_spec _ (by omega) (by omega) _).mono ?_; rintro e w' ⟨rfl, rfl⟩))
        go_ret; exact ⟨by rw [hs.out]; rfl, rfl⟩
theorem sine_spec (n : Int) (w : World) :
    Calls Tryd.prog 30 #[.int .i64 n] w fun e w' => e = .returned (.float .f32 (sine n)) ∧ w = w' := by
  go_enter Tryd.func30, Tryd.ntmps30
  go_wp2_with (go_at_call 69; refine (sine_l01 _ _).mono ?_; rintro e w' ⟨rfl, rfl⟩)
  go_ret; exact ⟨rfl, rfl⟩
theorem cosine_l01 (n : Int) (w : World) :
    Calls Tryd.prog 70 #[.int .i64 n] w fun e w' => e = .returned (.float .f32 (cosine n)) ∧ w = w' := by
  have g0 := Int.emod_nonneg n (show (256 : Int) ≠ 0 by decide)
  have g1 := Int.emod_lt_of_pos n (show (0 : Int) < 256 by decide)
  unfold cosine
  go_enter Tryd.func70, Tryd.ntmps70
  go_wp2_with (first | (go_at_call 95; refine (angle_spec _ _).mono ?_; rintro e w' ⟨rfl, rfl⟩) | (go_at_call 69; refine (sine_l01 _ _).mono ?_; rintro e w' ⟨rfl, rfl⟩))
  go_ret; exact ⟨rfl, rfl⟩
theorem cosine_spec (n : Int) (w : World) :
    Calls Tryd.prog 32 #[.int .i64 n] w fun e w' => e = .returned (.float .f32 (cosine n)) ∧ w = w' := by
  go_enter Tryd.func32, Tryd.ntmps32
  go_wp2_with (go_at_call 70; refine (cosine_l01 _ _).mono ?_; rintro e w' ⟨rfl, rfl⟩)
  go_ret; exact ⟨rfl, rfl⟩
end Go.Proofs.YtfiifnlnkedahaaDoor
