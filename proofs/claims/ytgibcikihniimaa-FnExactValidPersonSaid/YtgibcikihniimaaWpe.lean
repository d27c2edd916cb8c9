/-
  Persons.
-/
import Derived.Test.YtgibcikihniimaaWa
import Derived.Test.YtgibcikihniimaaWe
import Derived.Test.YtgibcikihniimaaRw
namespace Go.Proofs.Ytgibcikihniimaa
open Go.RowKit Go.Proofs.Fl Go.Proofs.Pl
set_option linter.unusedVariables false

def personCells (a b c : Nat) : Array Value := #[.float .f32 a, .float .f32 b, .float .f32 c]
def personOk (a b c : Nat) : Bool := isPlain a && isPlain b && isPlain c && fle a b
theorem agg_lperson : IsAgg Try.prog 24 3 := isAgg_struct Try.underlying24 (by kernel_rfl)
theorem to_person (a b c : Nat) (w : World) :
    Calls Try.prog 8 #[.agg #[.float .f32 a, .float .f32 b, .float .f32 c]] w fun e w' => e = .returned (.agg #[.float .f32 a, .float .f32 b, .float .f32 c]) ∧ Below w.heap.size w w' := by
  go_enter Try.func8, Try.ntmps8
  go_wp2
  refine bodyPost_ret (v := .agg #[.float .f32 a, .float .f32 b, .float .f32 c]) (by simp [results, Try.results8, go_sem]) rfl ⟨rfl, ?_⟩
  exact (((Below.refl _ _).alloc (Nat.le_refl _) _).alloc (by simp) _).alloc (by simp; omega) _
theorem person_impl (a b c : Nat) (w : World) :
    Calls Try.prog 9 #[.agg #[.float .f32 a, .float .f32 b, .float .f32 c]] w fun e w' => e = .returned (.bool (personOk a b c)) ∧ Below w.heap.size w w' := by
  have hb := (Below.refl w.heap.size w).alloc (Nat.le_refl _) (.cells (personCells a b c) 26)
  go_enter Try.func9, Try.ntmps9
  go_wp2_with (go_at_call 22; refine (plain_impl _ _).mono ?_; rintro e w' ⟨rfl, rfl⟩)
  all_goals (go_ret; exact ⟨by simp [personOk, *], hb⟩)
theorem person_spec (a b c : Nat) (w : World) :
    Calls Try.prog 7 #[.agg #[.float .f32 a, .float .f32 b, .float .f32 c]] w fun e w' => e = .returned (.bool (personOk a b c)) ∧ Below w.heap.size w w' := by
  have hb := (Below.refl w.heap.size w).alloc (Nat.le_refl _) (.cells (personCells a b c) 26)
  go_enter Try.func7, Try.ntmps7
  go_wp2_with (go_at_call 21; refine (plain_l01 _ _).mono ?_; rintro e w' ⟨rfl, rfl⟩)
  all_goals (go_ret; exact ⟨by simp [personOk, *], hb⟩)
end Go.Proofs.Ytgibcikihniimaa
