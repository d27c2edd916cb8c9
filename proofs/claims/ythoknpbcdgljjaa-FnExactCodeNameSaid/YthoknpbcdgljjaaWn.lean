/-
  The names of codes.
-/
import Derived.Test.YthoknpbcdgljjaaWa
namespace Go.Proofs.Ythoknpbcdgljjaa
open Go.RowKit Go.Proofs.Fl Go.Proofs.Pl
set_option linter.unusedVariables false

def codeName (c : Int) : ByteArray :=
  if inR c 0 8 then #[(⟨#[111, 107]⟩ : ByteArray), ⟨#[105, 110, 118, 97, 108, 105, 100]⟩, ⟨#[114, 97, 110, 103, 101]⟩, ⟨#[108, 105, 109, 105, 116]⟩, ⟨#[115, 116, 97, 116, 101]⟩, ⟨#[115, 121, 110, 116, 97, 120]⟩, ⟨#[110, 111, 116, 102, 111, 117, 110, 100]⟩, ⟨#[98, 117, 100, 103, 101, 116]⟩, ⟨#[112, 114, 111, 111, 102]⟩].getD c.toNat ⟨#[]⟩
  else ⟨#[]⟩
theorem codeName_out {c : Int} (h : inR c 0 8 = false) : codeName c = ⟨#[]⟩ := by unfold codeName; rw [h]; rfl
theorem nine {c : Int} (h : inR c 0 8 = true) : c = 0 ∨ c = 1 ∨ c = 2 ∨ c = 3 ∨ c = 4 ∨ c = 5 ∨ c = 6 ∨ c = 7 ∨ c = 8 := by rw [inR_iff] at h; omega

set_option maxHeartbeats 1000000 in
theorem name_spec (c : Int) (w : World) : Calls Try.prog 21 #[.int .i64 c] w fun e w' => e = .returned (.string (codeName c)) ∧ Below w.heap.size w w' := by
  rcases bool_or (inR c 0 8) with h | h
  · have fin := hidd (codeName_out h)
    go_enter Try.func21, Try.ntmps21
    go_wp2_with (go_at_call 45; refine (in_spec _ _ _ _).mono ?_; rintro e w' ⟨rfl, rfl⟩)
    go_ret; exact ⟨by rw [fin.out]; rfl, (Below.refl _ _).alloc (Nat.le_refl _) _⟩
  · rcases nine h with rfl | rfl | rfl | rfl | rfl | rfl | rfl | rfl | rfl
    all_goals
      go_enter Try.func21, Try.ntmps21
      go_wp2_with (go_at_call 45; refine (in_spec _ _ _ _).mono ?_; rintro e w' ⟨rfl, rfl⟩)
      go_ret; exact ⟨rfl, (Below.refl _ _).alloc (Nat.le_refl _) _⟩
set_option maxHeartbeats 1000000 in
theorem name_impl (c : Int) (w : World) : Calls Try.prog 22 #[.int .i64 c] w fun e w' => e = .returned (.string (codeName c)) ∧ Below w.heap.size w w' := by
  rcases bool_or (inR c 0 8) with h | h
  · have fin := hidd (codeName_out h)
    rw [inR_false] at h
    by_cases h0 : c < 0
    · go_enter Try.func22, Try.ntmps22
      go_wp2
      go_ret; exact ⟨by rw [fin.out]; rfl, (Below.refl _ _).alloc (Nat.le_refl _) _⟩
    · have h1 : 9 ≤ c := by omega
      go_enter Try.func22, Try.ntmps22
      go_wp2
      go_ret; exact ⟨by rw [fin.out]; rfl, (Below.refl _ _).alloc (Nat.le_refl _) _⟩
  · rcases nine h with rfl | rfl | rfl | rfl | rfl | rfl | rfl | rfl | rfl
    all_goals
      go_enter Try.func22, Try.ntmps22
      go_wp2
      go_ret; exact ⟨rfl, (Below.refl _ _).alloc (Nat.le_refl _) _⟩
end Go.Proofs.Ythoknpbcdgljjaa
