/-
  What the smaller functions of the program and of its reference compute: tests of numbers, sizes, angles, sines; two numbers compared by their text's law ('sameFloat').
-/
import Derived.Test.YtgibcikihniimaaFw
import Derived.Test.YtgibcikihniimaaPl
import Derived.Test.YtgibcikihniimaaWd
namespace Go.Proofs.Ytgibcikihniimaa
set_option linter.unusedVariables false
open Go.RowKit Go.Proofs.Fl Go.Proofs.Pl

theorem in_spec (n lo hi : Int) (w : World) :
    Calls Try.prog 38 #[.int .i64 n, .int .i64 lo, .int .i64 hi] w fun e w' => e = .returned (.bool (inR n lo hi)) ∧ w = w' := by
  unfold inR
  go_enter Try.func38, Try.ntmps38
  go_wp2
  all_goals (go_ret; exact ⟨by simp [*] <;> omega, rfl⟩)
theorem in_impl (n lo hi : Int) (w : World) :
    Calls Try.prog 29 #[.int .i64 n, .int .i64 lo, .int .i64 hi] w fun e w' => e = .returned (.bool (inR n lo hi)) ∧ w = w' := by
  unfold inR
  go_enter Try.func29, Try.ntmps29
  go_wp2
  all_goals (go_ret; exact ⟨by simp [*] <;> omega, rfl⟩)
theorem part_l01 (a : Nat) (w : World) : Calls Try.prog 42 #[.float .f32 a] w fun e w' => e = .returned (.bool (isPart a)) ∧ w = w' := by
  unfold isPart one
  go_enter Try.func42, Try.ntmps42
  go_wp2
  all_goals (go_ret; exact ⟨by simp [*], rfl⟩)
theorem part_impl (a : Nat) (w : World) : Calls Try.prog 40 #[.float .f32 a] w fun e w' => e = .returned (.bool (isPart a)) ∧ w = w' := by
  unfold isPart one
  go_enter Try.func40, Try.ntmps40
  go_wp2
  all_goals (go_ret; exact ⟨by simp [*], rfl⟩)
theorem plain_l01 (a : Nat) (w : World) : Calls Try.prog 21 #[.float .f32 a] w fun e w' => e = .returned (.bool (isPlain a)) ∧ w = w' := by
  unfold isPlain
  go_enter Try.func21, Try.ntmps21
  go_wp2
  all_goals (go_ret; exact ⟨by simp [*], rfl⟩)
theorem plain_impl (a : Nat) (w : World) : Calls Try.prog 22 #[.float .f32 a] w fun e w' => e = .returned (.bool (isPlain a)) ∧ w = w' := by
  unfold isPlain
  go_enter Try.func22, Try.ntmps22
  go_wp2
  all_goals (go_ret; exact ⟨by simp [*], rfl⟩)
theorem same_l01 (a b : Nat) (w : World) : Calls Try.prog 24 #[.float .f32 a, .float .f32 b] w fun e w' => e = .returned (.bool (same a b)) ∧ w = w' := by
  unfold same
  go_enter Try.func24, Try.ntmps24
  go_wp2
  all_goals (go_ret; exact ⟨by simp [*], rfl⟩)
theorem same_impl (a b : Nat) (w : World) : Calls Try.prog 26 #[.float .f32 a, .float .f32 b] w fun e w' => e = .returned (.bool (same a b)) ∧ w = w' := by
  unfold same
  go_enter Try.func26, Try.ntmps26
  go_wp2
  all_goals (go_ret; exact ⟨by simp [*], rfl⟩)
end Go.Proofs.Ytgibcikihniimaa
