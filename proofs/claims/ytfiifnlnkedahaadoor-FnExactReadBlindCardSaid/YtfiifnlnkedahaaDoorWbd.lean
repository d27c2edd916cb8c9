/-
  Blinds: whether two blinds are equal.
-/
import Derived.Test.YtfiifnlnkedahaaDoorWbc
namespace Go.Proofs.YtfiifnlnkedahaaDoor
open Go.RowKit Go.Proofs.Fl Go.Proofs.Pl
set_option linter.unusedVariables false

theorem eq_blind (n : Int) (wd g : Nat) (t : Int) (s : Nat) (f1 : Fnt wd) (f2 : Fnt g) (f3 : Fnt s) (w : World) :
    Calls Tryd.prog 26 #[.agg #[.int .i8 n, .float .f32 wd, .float .f32 g, .int .i16 t, .float .f32 s], .agg #[.int .i8 n, .float .f32 wd, .float .f32 g, .int .i16 t, .float .f32 s]] w
      fun e w' => e = .returned (.bool true) ∧ Below w.heap.size w w' := by
  have g1 := hidd (widen_fin f1).2
  have g2 := hidd (widen_fin f2).2
  have g3 := hidd (widen_fin f3).2
  go_enter Tryd.func26, Tryd.ntmps26
  go_wp2_with fail
  refine (sameFloat_same _ g1.out _).mono ?_
  rintro e w3 ⟨rfl, rfl⟩
  go_wp2_with fail
  refine (sameFloat_same _ g2.out _).mono ?_
  rintro e w4 ⟨rfl, rfl⟩
  go_wp2_with fail
  refine (sameFloat_same _ g3.out _).mono ?_
  rintro e w5 ⟨rfl, rfl⟩
  go_wp2
  all_goals (go_ret; exact ⟨by simp, ((Below.refl _ _).alloc (Nat.le_refl _) _).alloc (by simp) _⟩)
theorem ta_cases (n : Int) (wd g : Nat) (t : Int) (s : Nat) (u : Int) : (tiltAns n wd g t s u).1 = zeroBlind ∨ (tiltAns n wd g t s u).1 = blindCells n wd g u s ∧ blindOk n wd g t s = true := by
  by_cases h : code2 (blindOk n wd g t s) (inR u (-64) 64) = 0
  · right; exact ⟨by rw [ta_ok h], (code2_zero.1 h).1⟩
  · left; rw [ta_no h]
theorem ta_one (n : Int) (wd g : Nat) (t : Int) (s : Nat) (u : Int) : ∀ v ∈ (tiltAns n wd g t s u).1.toList, v.oneCell' = true := by
  rcases ta_cases n wd g t s u with e | ⟨e, _⟩ <;> rw [e]
  · exact blind_one 0 0 0 0 0
  · exact blind_one _ _ _ _ _
theorem ta_size (n : Int) (wd g : Nat) (t : Int) (s : Nat) (u : Int) : (tiltAns n wd g t s u).1.size = 5 := by
  rcases ta_cases n wd g t s u with e | ⟨e, _⟩ <;> rw [e] <;> rfl
theorem eq_tilt (n : Int) (wd g : Nat) (t : Int) (s : Nat) (u : Int) (w : World) :
    Calls Tryd.prog 26 #[.agg (tiltAns n wd g t s u).1, .agg (tiltAns n wd g t s u).1] w fun e w' => e = .returned (.bool true) ∧ Below w.heap.size w w' := by
  rcases ta_cases n wd g t s u with e | ⟨e, ho⟩ <;> rw [e]
  · exact eq_blind 0 0 0 0 0 (by decide) (by decide) (by decide) w
  · obtain ⟨_, c2, c3, _, c6⟩ := blindOk_of ho
    exact eq_blind _ _ _ _ _ (len_of c2).1 (len_of c3).1 (part_of c6).1 w
end Go.Proofs.YtfiifnlnkedahaaDoor
