/-
  A float32 made a float64; 'sameFloat' of two equal numbers.
-/
import Derived.Test.YtddkiemipedgcaaGreatDoorWd
namespace Go.Proofs.Fl
open Ieee

theorem read_fin2 {w : Nat} (h : Fnt w) : ∃ mag place, single.read w = .number (sg w) mag place ∧ mag < 16777216 ∧ -149 ≤ place ∧ place ≤ 105 := by
  have e1 : single.signWeight = 2147483648 := by decide
  have e2 : single.binade = 8388608 := by decide
  have e3 : single.infRung = 2139095040 := by decide
  have e4 : single.leastPlace = -149 := by decide
  unfold Fnt at h
  have hr : w % 2147483648 = rung w := rfl
  have hs : (w / 2147483648 % 2 == 1) = sg w := rfl
  unfold Format.read
  simp only [e1, e2, e3, e4, hr, hs]
  by_cases c : rung w < 8388608
  · rw [if_pos c]
    exact ⟨_, _, rfl, by omega, by omega, by omega⟩
  · rw [if_neg c, if_pos h]
    exact ⟨_, _, rfl, by omega, by omega, by omega⟩

/-- A float64 that is a number. -/
def Num (x : Nat) : Prop := ∃ s m e, double.read x = .number s m e

theorem num_word (neg : Bool) {r : Nat} (h : r < 9218868437227405312) : Num (double.word neg r) := by
  have e1 : double.signWeight = 9223372036854775808 := by decide
  have e3 : double.infRung = 9218868437227405312 := by decide
  have hw : double.word neg r % 9223372036854775808 = r := by
    unfold Format.word; rw [e1]; split <;> omega
  unfold Num Format.read
  simp only [e1, e3, hw]
  split
  · exact ⟨_, _, _, rfl⟩
  · first | exact ⟨_, _, _, rfl⟩ | (rw [if_pos h]; exact ⟨_, _, _, rfl⟩)

theorem num_nearest (neg : Bool) (mag : Nat) (place : Int) (h1 : mag < 16777216) (h2 : -149 ≤ place) (h3 : place ≤ 105) : Num (double.nearest neg mag place) := by
  unfold Format.nearest
  by_cases hm : mag = 0
  · rw [if_pos hm]; exact num_word _ (by omega)
  · rw [if_neg hm]
    have ef : double.fractionBits = 52 := rfl
    have el : double.leastPlace = -1074 := by decide
    have eb : double.binade = 4503599627370496 := by decide
    have hl : mag.log2 < 24 := (Nat.log2_lt hm).2 (by omega)
    simp only [ef, el, eb]
    have hlast : max (place + (mag.log2 : Int) - (52 : Nat)) (-1074) = place + (mag.log2 : Int) - 52 := by omega
    rw [hlast]
    have hd : (place + (mag.log2 : Int) - 52 - place).toNat = 0 := by omega
    have hu : (place - (place + (mag.log2 : Int) - 52)).toNat = 52 - mag.log2 := by omega
    rw [hd, hu, cut_even, Nat.shiftLeft_eq]
    have hb : mag * 2 ^ (52 - mag.log2) < 9007199254740992 := by
      have a : mag < 2 ^ (mag.log2 + 1) := Nat.lt_log2_self
      calc mag * 2 ^ (52 - mag.log2) < 2 ^ (mag.log2 + 1) * 2 ^ (52 - mag.log2) := (Nat.mul_lt_mul_right (Nat.two_pow_pos _)).2 a
        _ = 2 ^ (mag.log2 + 1 + (52 - mag.log2)) := (Nat.pow_add ..).symm
        _ = 2 ^ 53 := by congr 1; omega
        _ = 9007199254740992 := by decide
    rw [Nat.pow_zero, Nat.mod_one, Nat.div_one]
    refine num_word _ ?_
    have : (if 1 < 2 * 0 ∨ 1 = 2 * 0 ∧ mag * 2 ^ (52 - mag.log2) % 2 = 1 then 1 else 0) = 0 := by simp
    rw [this]
    generalize mag * 2 ^ (52 - mag.log2) = n at *
    have := (place + (mag.log2 : Int) - 52 - -1074).toNat
    refine Nat.lt_of_le_of_lt (Nat.min_le_left _ _) ?_
    omega

def widen (b : Nat) : Nat := (floatToFloatBits .f32 b .f64).getD 0
theorem widen_fin {b : Nat} (h : Fnt b) : floatToFloatBits .f32 b .f64 = some (widen b) ∧ Num (widen b) := by
  obtain ⟨m, p, e, h1, h2, h3⟩ := read_fin2 h
  have hn := num_nearest (sg b) m p h1 h2 h3
  have e2 : floatToFloatBits .f32 b .f64 = some (double.nearest (sg b) m p) := by
    unfold floatToFloatBits
    have d : FloatKind.f32.decode b = .number (sg b) m p := e
    rw [d]
    have i : (FloatKind.f64.decode (FloatKind.f64.encode (.number (sg b) m p))).isInfinity = false := by
      obtain ⟨s, m', e', hh⟩ := hn
      show (double.read (double.nearest (sg b) m p)).isInfinity = false
      rw [hh]; rfl
    simp [i]; rfl
  have e3 : widen b = double.nearest (sg b) m p := by unfold widen; rw [e2]; rfl
  rw [e3]; exact ⟨e2, hn⟩

theorem num_order {x : Nat} (h : Num x) : double.order x x = some .eq := by
  obtain ⟨s, m, e, hh⟩ := h
  unfold Format.order; rw [hh]; simp [Datum.order]

theorem num_div {x : Nat} (h : Num x) : ∃ r, floatBits .quo .f64 4607182418800017408 x = some r := by
  obtain ⟨s, m, e, hh⟩ := h
  have e1 : ∃ t n j, double.read 4607182418800017408 = .number t n j ∧ n ≠ 0 := ⟨false, 4503599627370496, -52, by decide +kernel, by decide⟩
  obtain ⟨t, n, j, e1, hn⟩ := e1
  show ∃ r, double.div 4607182418800017408 x = some r
  unfold Format.div
  rw [hh, e1]
  simp only [Datum.quotient]
  by_cases c : m = 0
  · rw [if_pos c, if_neg hn]; exact ⟨_, rfl⟩
  · rw [if_neg c]; exact ⟨_, rfl⟩

end Go.Proofs.Fl

namespace Go.Proofs.YtddkiemipedgcaaGreatDoor
open Go.RowKit Go.Proofs.Fl Go.Proofs.Pl
end Go.Proofs.YtddkiemipedgcaaGreatDoor
