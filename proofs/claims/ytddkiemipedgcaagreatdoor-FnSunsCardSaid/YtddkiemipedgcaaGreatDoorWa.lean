/-
  What the smaller functions of the program and of its reference compute: tests of numbers, sizes, angles, sines; two numbers compared by their text's law ('sameFloat').
-/
import Derived.Test.YtddkiemipedgcaaGreatDoorFw
import Derived.Test.YtddkiemipedgcaaGreatDoorPl
import Derived.Test.YtddkiemipedgcaaGreatDoorWd
namespace Go.Proofs.YtddkiemipedgcaaGreatDoor
open Go.RowKit Go.Proofs.Fl Go.Proofs.Pl

theorem in_spec (n lo hi : Int) (w : World) :
    Calls Tryz.prog 113 #[.int .i64 n, .int .i64 lo, .int .i64 hi] w fun e w' => e = .returned (.bool (inR n lo hi)) ∧ w = w' := by
  unfold inR
  go_enter Tryz.func113, Tryz.ntmps113
  go_wp2
  all_goals (go_ret; exact ⟨by simp [*] <;> omega, rfl⟩)
theorem in_impl (n lo hi : Int) (w : World) :
    Calls Tryz.prog 55 #[.int .i64 n, .int .i64 lo, .int .i64 hi] w fun e w' => e = .returned (.bool (inR n lo hi)) ∧ w = w' := by
  unfold inR
  go_enter Tryz.func55, Tryz.ntmps55
  go_wp2
  all_goals (go_ret; exact ⟨by simp [*] <;> omega, rfl⟩)
theorem part_l01 (a : Nat) (w : World) : Calls Tryz.prog 72 #[.float .f32 a] w fun e w' => e = .returned (.bool (isPart a)) ∧ w = w' := by
  unfold isPart one
  go_enter Tryz.func72, Tryz.ntmps72
  go_wp2
  all_goals (go_ret; exact ⟨by simp [*], rfl⟩)
theorem part_impl (a : Nat) (w : World) : Calls Tryz.prog 71 #[.float .f32 a] w fun e w' => e = .returned (.bool (isPart a)) ∧ w = w' := by
  unfold isPart one
  go_enter Tryz.func71, Tryz.ntmps71
  go_wp2
  all_goals (go_ret; exact ⟨by simp [*], rfl⟩)
theorem part_spec (a : Nat) (w : World) : Calls Tryz.prog 45 #[.float .f32 a] w fun e w' => e = .returned (.bool (isPart a)) ∧ w = w' := by
  go_enter Tryz.func45, Tryz.ntmps45
  go_wp2_with (go_at_call 72; refine (part_l01 _ _).mono ?_; rintro e w' ⟨rfl, rfl⟩)
  go_ret; exact ⟨rfl, rfl⟩
theorem len_spec (a : Nat) (w : World) : Calls Tryz.prog 142 #[.float .f32 a] w fun e w' => e = .returned (.bool (isLen a)) ∧ w = w' := by
  unfold isLen
  go_enter Tryz.func142, Tryz.ntmps142
  go_wp2
  all_goals (go_ret; exact ⟨by simp [*], rfl⟩)
theorem len_impl (a : Nat) (w : World) : Calls Tryz.prog 96 #[.float .f32 a] w fun e w' => e = .returned (.bool (isLen a)) ∧ w = w' := by
  unfold isLen
  go_enter Tryz.func96, Tryz.ntmps96
  go_wp2
  all_goals (go_ret; exact ⟨by simp [*], rfl⟩)
theorem same_l01 (a b : Nat) (w : World) : Calls Tryz.prog 73 #[.float .f32 a, .float .f32 b] w fun e w' => e = .returned (.bool (same a b)) ∧ w = w' := by
  unfold same
  go_enter Tryz.func73, Tryz.ntmps73
  go_wp2
  all_goals (go_ret; exact ⟨by simp [*], rfl⟩)
theorem same_impl (a b : Nat) (w : World) : Calls Tryz.prog 95 #[.float .f32 a, .float .f32 b] w fun e w' => e = .returned (.bool (same a b)) ∧ w = w' := by
  unfold same
  go_enter Tryz.func95, Tryz.ntmps95
  go_wp2
  all_goals (go_ret; exact ⟨by simp [*], rfl⟩)
theorem same_spec (a b : Nat) (w : World) : Calls Tryz.prog 21 #[.float .f32 a, .float .f32 b] w fun e w' => e = .returned (.bool (same a b)) ∧ w = w' := by
  go_enter Tryz.func21, Tryz.ntmps21
  go_wp2_with (go_at_call 73; refine (same_l01 _ _ _).mono ?_; rintro e w' ⟨rfl, rfl⟩)
  go_ret; exact ⟨rfl, rfl⟩
theorem size_l01 (a : Nat) (ha : Fnt a) (hw : a < 4294967296) (w : World) : Calls Tryz.prog 125 #[.float .f32 a] w fun e w' => e = .returned (.float .f32 (size a)) ∧ w = w' := by
  have hn := neg_size ha hw
  unfold size
  go_enter Tryz.func125, Tryz.ntmps125
  go_wp2
  all_goals (go_ret; exact ⟨by simp [*], rfl⟩)
theorem size_impl (a : Nat) (ha : Fnt a) (w : World) : Calls Tryz.prog 123 #[.float .f32 a] w fun e w' => e = .returned (.float .f32 (size a)) ∧ w = w' := by
  unfold size
  have h0 : Fnt 0 := by decide
  go_enter Tryz.func123, Tryz.ntmps123
  go_wp2
  all_goals (go_ret; exact ⟨by simp [*], rfl⟩)
theorem angle_spec (n : Int) (w : World) :
    Calls Tryz.prog 61 #[.int .i64 n] w fun e w' => e = .returned (.int .i64 (n % 256)) ∧ w = w' := by
  have ha := hidd (tmod_by' n 256 (by decide))
  have hb := (tmod_bd n 256 (by decide)).1
  have hc := (tmod_bd n 256 (by decide)).2
  go_enter Tryz.func61, Tryz.ntmps61
  go_wp2
  go_ret; exact ⟨by simp [ha.out], rfl⟩
theorem rest_impl (n by_ : Int) (h0 : 0 < by_) (h1 : by_ ≤ 1000) (w : World) :
    Calls Tryz.prog 59 #[.int .i64 n, .int .i64 by_] w fun e w' => e = .returned (.int .i64 (n % by_)) ∧ w = w' := by
  have ha := hidd (tmod_by' n by_ h0)
  have hb := (tmod_bd n by_ h0).1
  have hc := (tmod_bd n by_ h0).2
  go_enter Tryz.func59, Tryz.ntmps59
  go_wp2
  go_ret; exact ⟨by simp [ha.out], rfl⟩
theorem quarter_spec (n : Int) (h0 : 0 ≤ n) (h1 : n ≤ 64) (w : World) :
    Calls Tryz.prog 144 #[.int .i64 n] w fun e w' => e = .returned (.float .f32 (quarter n)) ∧ w = w' := by
  obtain ⟨k, rfl⟩ := Int.eq_ofNat_of_zero_le h0
  obtain ⟨f1, f2, f3, f4, f5, f6, f7⟩ := quarter_steps k (by omega)
  have c1 : Fnt 1115684864 := by decide
  have c1' : rung 1115684864 ≠ 0 := by decide
  have c2 : Fnt 1059356672 := by decide
  have c3 : Fnt 1070137344 := by decide
  have c4 : Fnt 1033109504 := by decide
  unfold quarter
  go_enter Tryz.func144, Tryz.ntmps144
  go_wp2
  go_ret; exact ⟨rfl, rfl⟩
theorem sine_low (n k : Int) (hk : n % 256 = k) (h0 : 0 ≤ k) (h1 : k ≤ 64) (w : World) :
    Calls Tryz.prog 117 #[.int .i64 n] w fun e w' => e = .returned (.float .f32 (quarter k)) ∧ w = w' := by
  obtain ⟨k, rfl⟩ := Int.eq_ofNat_of_zero_le h0
  obtain ⟨f1, f2, f3, f4, f5, f6, f7⟩ := quarter_steps k (by omega)
  have c1 : Fnt 1115684864 := by decide
  have c1' : rung 1115684864 ≠ 0 := by decide
  have c2 : Fnt 1059356672 := by decide
  have c3 : Fnt 1070137344 := by decide
  have c4 : Fnt 1033109504 := by decide
  have Hm := hidd hk
  clear hk
  unfold quarter
  go_enter Tryz.func117, Tryz.ntmps117
  go_wp2_with (go_at_call 59; refine (rest_impl _ _ (by omega) (by omega) _).mono ?_; rintro e w' ⟨rfl, rfl⟩; rw [Hm.out])
  go_ret; exact ⟨rfl, rfl⟩
theorem sine_small (n : Int) (h0 : 0 ≤ n) (h1 : n ≤ 64) (w : World) :
    Calls Tryz.prog 117 #[.int .i64 n] w fun e w' => e = .returned (.float .f32 (quarter n)) ∧ w = w' := sine_low n n (by omega) h0 h1 w
theorem sine_impl (n : Int) (w : World) :
    Calls Tryz.prog 117 #[.int .i64 n] w fun e w' => e = .returned (.float .f32 (sine n)) ∧ w = w' := by
  have z : Fnt 0 := by decide
  have g0 := Int.emod_nonneg n (show (256 : Int) ≠ 0 by decide)
  have g1 := Int.emod_lt_of_pos n (show (0 : Int) < 256 by decide)
  generalize hk : n % 256 = k at *
  have Hk := hidd hk
  by_cases a1 : 192 < k
  · have q := (quarter_fin (a := 256 - k) (by omega) (by omega)).1
    have hs := hidd (sine_1 hk a1)
    clear hk
    go_enter Tryz.func117, Tryz.ntmps117
    go_wp2_with (first | (go_at_call 59; refine (rest_impl _ _ (by omega) (by omega) _).mono ?_; rintro e w' ⟨rfl, rfl⟩; rw [Hk.out]) | (go_at_call 117; refine (sine_small _ (by omega) (by omega) _).mono ?_; rintro e w' ⟨rfl, rfl⟩))
    go_ret; exact ⟨by rw [hs.out]; rfl, rfl⟩
  · by_cases a2 : 128 < k
    · have q := (quarter_fin (a := k - 128) (by omega) (by omega)).1
      have hs := hidd (sine_2 hk a1 a2)
      clear hk
      go_enter Tryz.func117, Tryz.ntmps117
      go_wp2_with (first | (go_at_call 59; refine (rest_impl _ _ (by omega) (by omega) _).mono ?_; rintro e w' ⟨rfl, rfl⟩; rw [Hk.out]) | (go_at_call 117; refine (sine_small _ (by omega) (by omega) _).mono ?_; rintro e w' ⟨rfl, rfl⟩))
      go_ret; exact ⟨by rw [hs.out]; rfl, rfl⟩
    · by_cases a3 : 64 < k
      · have hs := hidd (sine_3 hk a2 a3)
        clear hk
        go_enter Tryz.func117, Tryz.ntmps117
        go_wp2_with (first | (go_at_call 59; refine (rest_impl _ _ (by omega) (by omega) _).mono ?_; rintro e w' ⟨rfl, rfl⟩; rw [Hk.out]) | (go_at_call 117; refine (sine_small _ (by omega) (by omega) _).mono ?_; rintro e w' ⟨rfl, rfl⟩))
        go_ret; exact ⟨by rw [hs.out]; rfl, rfl⟩
      · refine (sine_low n k hk g0 (by omega) w).mono fun e w' h => ?_
        rw [sine_4 hk a3]; exact h
theorem cosine_impl (n : Int) (w : World) :
    Calls Tryz.prog 112 #[.int .i64 n] w fun e w' => e = .returned (.float .f32 (cosine n)) ∧ w = w' := by
  have g0 := Int.emod_nonneg n (show (256 : Int) ≠ 0 by decide)
  have g1 := Int.emod_lt_of_pos n (show (0 : Int) < 256 by decide)
  unfold cosine
  go_enter Tryz.func112, Tryz.ntmps112
  go_wp2_with (first | (go_at_call 59; refine (rest_impl _ _ (by omega) (by omega) _).mono ?_; rintro e w' ⟨rfl, rfl⟩) | (go_at_call 117; refine (sine_impl _ _).mono ?_; rintro e w' ⟨rfl, rfl⟩))
  go_ret; exact ⟨rfl, rfl⟩
theorem sine_l01 (n : Int) (w : World) :
    Calls Tryz.prog 126 #[.int .i64 n] w fun e w' => e = .returned (.float .f32 (sine n)) ∧ w = w' := by
  have z : Fnt 0 := by decide
  have g0 := Int.emod_nonneg n (show (256 : Int) ≠ 0 by decide)
  have g1 := Int.emod_lt_of_pos n (show (0 : Int) < 256 by decide)
  generalize hk : n % 256 = k at *
  have Hk := hidd hk
  by_cases a1 : 192 < k
  · have q := (quarter_fin (a := 256 - k) (by omega) (by omega)).1
    have hs := hidd (sine_1 hk a1)
    clear hk
    go_enter Tryz.func126, Tryz.ntmps126
    go_wp2_with (first | (go_at_call 61; refine (angle_spec _ _).mono ?_; rintro e w' ⟨rfl, rfl⟩; rw [Hk.out]) | (go_at_call 144; refine (quarter_spec _ (by omega) (by omega) _).mono ?_; rintro e w' ⟨rfl, rfl⟩))
    go_ret; exact ⟨by rw [hs.out]; rfl, rfl⟩
  · by_cases a2 : 128 < k
    · have q := (quarter_fin (a := k - 128) (by omega) (by omega)).1
      have hs := hidd (sine_2 hk a1 a2)
      clear hk
      go_enter Tryz.func126, Tryz.ntmps126
      go_wp2_with (first | (go_at_call 61; refine (angle_spec _ _).mono ?_; rintro e w' ⟨rfl, rfl⟩; rw [Hk.out]) | (go_at_call 144; refine (quarter_spec _ (by omega) (by omega) _).mono ?_; rintro e w' ⟨rfl, rfl⟩))
      go_ret; exact ⟨by rw [hs.out]; rfl, rfl⟩
    · by_cases a3 : 64 < k
      · have hs := hidd (sine_3 hk a2 a3)
        clear hk
        go_enter Tryz.func126, Tryz.ntmps126
        go_wp2_with (first | (go_at_call 61; refine (angle_spec _ _).mono ?_; rintro e w' ⟨rfl, rfl⟩; rw [Hk.out]) | (go_at_call 144; refine (quarter_spec _ (by omega) (by omega) _).mono ?_; rintro e w' ⟨rfl, rfl⟩))
        go_ret; exact ⟨by rw [hs.out]; rfl, rfl⟩
      · have hs := hidd (sine_4 hk a3)
        clear hk
        go_enter Tryz.func126, Tryz.ntmps126
        go_wp2_with (first | (go_at_call 61; refine (angle_spec _ _).mono ?_; rintro e w' ⟨rfl, rfl⟩; rw [Hk.out]) | (go_at_call 144; refine (quarter_spec _ (by omega) (by omega) _).mono ?_; rintro e w' ⟨rfl, rfl⟩))
        go_ret; exact ⟨by rw [hs.out]; rfl, rfl⟩
theorem cosine_l01 (n : Int) (w : World) :
    Calls Tryz.prog 114 #[.int .i64 n] w fun e w' => e = .returned (.float .f32 (cosine n)) ∧ w = w' := by
  have g0 := Int.emod_nonneg n (show (256 : Int) ≠ 0 by decide)
  have g1 := Int.emod_lt_of_pos n (show (0 : Int) < 256 by decide)
  unfold cosine
  go_enter Tryz.func114, Tryz.ntmps114
  go_wp2_with (first | (go_at_call 61; refine (angle_spec _ _).mono ?_; rintro e w' ⟨rfl, rfl⟩) | (go_at_call 126; refine (sine_l01 _ _).mono ?_; rintro e w' ⟨rfl, rfl⟩))
  go_ret; exact ⟨rfl, rfl⟩
end Go.Proofs.YtddkiemipedgcaaGreatDoor
