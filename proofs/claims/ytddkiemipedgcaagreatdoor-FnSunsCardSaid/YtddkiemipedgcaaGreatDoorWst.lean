/-
  A sun's text: the reference's.
-/
import Derived.Test.YtddkiemipedgcaaGreatDoorWi
import Derived.Test.YtddkiemipedgcaaGreatDoorWs
namespace Go.Proofs.Hx
open Go Go.Proofs.Fl Go.Proofs.Pl
open Go.Lib hiding intOf
set_option linter.unusedVariables false
/-- The text of an hour. -/
def wordL (L : List Int) (k : Nat) : List UInt8 := itoa (hgt L k) ++ [64] ++ decDigits (trn L k).toNat
def sepL (k : Nat) : List UInt8 := if k = 0 then [] else [32]
/-- The text of the first k hours. -/
def textL (L : List Int) : Nat → List UInt8
  | 0 => []
  | k + 1 => textL L k ++ sepL k ++ wordL L k
theorem sepL_len (k : Nat) : (sepL k).length ≤ 1 := by unfold sepL; split <;> simp
theorem wordL_len {L : List Int} (hok : sunOk L = true) {k : Nat} (hk : k < 24) : (itoa (hgt L k)).length ≤ 10 ∧ (decDigits (trn L k).toNat).length ≤ 9 ∧ (wordL L k).length ≤ 20 := by
  obtain ⟨h1, h2, h3, h4⟩ := sunOk_at hok hk
  have a := itoa_short (a := hgt L k) ⟨by omega, by omega⟩
  have b := dec_small (u := (trn L k).toNat) (by omega)
  refine ⟨a, b, ?_⟩
  unfold wordL
  simp
  omega
theorem textL_len {L : List Int} (hok : sunOk L = true) : ∀ {k : Nat}, k ≤ 24 → (textL L k).length ≤ 21 * k
  | 0, _ => by simp [textL]
  | k + 1, h => by
    have a := textL_len hok (k := k) (by omega)
    have b := (wordL_len hok (k := k) (by omega)).2.2
    have c := sepL_len k
    unfold textL
    simp
    omega
theorem textL_join (L : List Int) : ∀ k, textL L k = [32].intercalate ((List.range k).map (wordL L))
  | 0 => rfl
  | k + 1 => by
    rw [textL, textL_join L k, List.range_succ, List.map_append]
    cases k with
    | zero => simp [sepL, List.intercalate]
    | succ k =>
      have key : ∀ (xs : List (List UInt8)) (y : List UInt8), xs ≠ [] → [32].intercalate (xs ++ [y]) = [32].intercalate xs ++ [32] ++ y := by
        intro xs
        induction xs with
        | nil => intro y h; exact absurd rfl h
        | cons x t ih =>
          intro y _
          cases t with
          | nil => simp [List.intercalate]
          | cons z t =>
            have := ih y (by simp)
            simp only [List.intercalate, List.cons_append, List.intersperse, List.flatten] at this ⊢
            rw [this]
            simp [List.append_assoc]
      rw [List.map_cons, List.map_nil, key _ _ (by simp)]
      rfl
/-- What 'SunText' answers. -/
def sunT (L : List Int) : ByteArray := if sunOk L = true then ⟨(textL L 24).toArray⟩ else ⟨#[]⟩
theorem sunT_yes {L : List Int} (h : sunOk L = true) : sunT L = ⟨(textL L 24).toArray⟩ := if_pos h
theorem sunT_no {L : List Int} (h : sunOk L = false) : sunT L = ⟨#[]⟩ := if_neg (by rw [h]; decide)
end Go.Proofs.Hx
namespace Go.Proofs.YtddkiemipedgcaaGreatDoor
open Go.RowKit Go.Proofs.Fl Go.Proofs.Pl Go.Proofs.Hx
open Go.Lib hiding intOf
set_option linter.unusedVariables false
end Go.Proofs.YtddkiemipedgcaaGreatDoor
