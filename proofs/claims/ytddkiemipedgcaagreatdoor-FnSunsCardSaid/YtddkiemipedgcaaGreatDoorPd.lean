/-
  Numbers that are drawn: parts and lengths. No program and no memory here.
-/
import Derived.Test.YtddkiemipedgcaaGreatDoorPc
namespace Go.Proofs.Pl
open Go.Proofs.Fl

theorem big_is {n : Int} (h0 : 0 ≤ n) : Is (floatOfInt .f32 n) false (n.toNat * 2 ^ 149) 1 := by
  obtain ⟨R, e, h⟩ := nearest_rnd (decide (n < 0)) n.natAbs 0
  have e1 : floatOfInt .f32 n = Ieee.single.word (decide (n < 0)) R := e
  have e2 : decide (n < 0) = false := by simp; omega
  have e3 : n.natAbs = n.toNat := by omega
  rw [e2] at e1
  rw [e3] at h
  rw [e1]
  exact is_word false h
theorem big_fin {n : Int} (h0 : 0 ≤ n) (h1 : n ≤ 16777216) : Fnt (floatOfInt .f32 n) ∧ sg (floatOfInt .f32 n) = false ∧ rung (floatOfInt .f32 n) ≤ 1266679808 := by
  have h := big_is h0
  have m : M 1266679808 = 16777216 * 2 ^ 149 := by decide +kernel
  have hn : n.toNat ≤ 16777216 := by omega
  have hp : n.toNat * 2 ^ 149 ≤ M 1266679808 * 1 := by
    rw [m, Nat.mul_one]; exact Nat.mul_le_mul_right _ hn
  have r := rnd_le h.rnd (by decide) (r := 1266679808) (by decide) hp
  exact ⟨fin_of_le r (by decide), h.sg, r⟩
/-- A number from 0 to 1, not -0. -/
def Tone (a : Nat) : Prop := Fnt a ∧ sg a = false ∧ rung a ≤ one
theorem Tone.part {a : Nat} (h : Tone a) : isPart a = true := by
  obtain ⟨h1, h2, h3⟩ := h
  have v0 : V 0 = 0 := by decide
  have v1 : V one = (M one : Int) := by decide +kernel
  have p := V_pos h2
  unfold isPart
  rw [between_iff h1 (by decide) (by decide), v0, v1, p]
  simp
  exact M_mono h3
theorem quo_tone {x y : Nat} {a b : Nat} (hx : Fnt x) (sx : sg x = false) (hy : Fnt y) (sy : sg y = false) (ha : rung x ≤ a) (hb : b ≤ rung y) (ha' : a < 2139095040) (hb' : 0 < b) (h : M a * 2 ^ 149 ≤ M one * M b) : Tone (fdiv x y) := by
  have c := fdiv_le' ha hb hy ha' hb' (c := one) (by decide) h
  have d := (div_fin hx hy (by omega)).2.sg
  exact ⟨fin_of_le c (by decide), by rw [d, sx, sy]; rfl, c⟩
theorem whole_rung : ∀ k : Nat, k < 1002 → rung (floatOfInt .f32 (k : Int)) ≤ 1148878848 := by decide +kernel
theorem tone_16 {n : Int} (h0 : 0 ≤ n) (h1 : n ≤ 16) : Tone (fdiv (floatOfInt .f32 n) 1098907648) := by
  have h := big_fin h0 (by omega)
  obtain ⟨k, rfl⟩ := Int.eq_ofNat_of_zero_le h0
  have q : ∀ k : Nat, k < 17 → rung (floatOfInt .f32 (k : Int)) ≤ 1098907648 := by decide +kernel
  exact quo_tone h.1 h.2.1 (by decide) (by decide) (q k (by omega)) (b := 1098907648) (by decide) (by decide) (by decide) (by decide +kernel)
theorem tone_1000 {n : Int} (h0 : 0 ≤ n) (h1 : n ≤ 1000) : Tone (fdiv (floatOfInt .f32 n) 1148846080) := by
  have h := big_fin h0 (by omega)
  obtain ⟨k, rfl⟩ := Int.eq_ofNat_of_zero_le h0
  have q : ∀ k : Nat, k < 1001 → rung (floatOfInt .f32 (k : Int)) ≤ 1148846080 := by decide +kernel
  exact quo_tone h.1 h.2.1 (by decide) (by decide) (q k (by omega)) (b := 1148846080) (by decide) (by decide) (by decide) (by decide +kernel)
theorem tone_24 {n : Int} (h0 : 0 ≤ n) (h1 : n ≤ 16777215) : Tone (fdiv (floatOfInt .f32 n) 1266679808) := by
  have h := big_fin h0 (by omega)
  exact quo_tone h.1 h.2.1 (by decide) (by decide) h.2.2 (b := 1266679808) (by decide) (by decide) (by decide) (by decide +kernel)
theorem isLen_of {a : Nat} (hf : Fnt a) (hs : sg a = false) (h1 : 1031798784 ≤ rung a) (h2 : rung a ≤ 1115684864) : isLen a = true := by
  have v0 : V 1031798784 = (M 1031798784 : Int) := by decide +kernel
  have v1 : V 1115684864 = (M 1115684864 : Int) := by decide +kernel
  unfold isLen
  rw [between_iff hf (by decide) (by decide), v0, v1, V_pos hs]
  simp
  exact ⟨M_mono h1, M_mono h2⟩
theorem sized_1 {n : Int} (h0 : 1 ≤ n) (h1 : n ≤ 64) : isLen (fdiv (floatOfInt .f32 n) 1098907648) = true := by
  obtain ⟨k, rfl⟩ := Int.eq_ofNat_of_zero_le (show 0 ≤ n by omega)
  have q : ∀ k : Nat, k < 65 → 1 ≤ k → isLen (fdiv (floatOfInt .f32 (k : Int)) 1098907648) = true := by decide +kernel
  exact q k (by omega) (by omega)
theorem sized_2 {n : Int} (h0 : 0 ≤ n) (h1 : n ≤ 16777215) : Fnt (floatOfInt .f32 n) ∧ Fnt (fdiv (floatOfInt .f32 n) 1241513984) ∧ isLen (fadd 1031798784 (fdiv (floatOfInt .f32 n) 1241513984)) = true := by
  have h := big_fin h0 (by omega)
  have c := fdiv_le' h.2.2 (Nat.le_refl (rung 1241513984)) (by decide) (by decide) (by decide) (c := 1090519040) (by decide) (by decide +kernel)
  have d := (div_fin h.1 (y := 1241513984) (by decide) (by decide)).2.sg
  have f := fin_of_le c (by decide)
  have sd : sg (fdiv (floatOfInt .f32 n) 1241513984) = false := by rw [d, h.2.1]; decide
  have e := (add_fin (x := 1031798784) (by decide) f).2
  have v0 : V 1031798784 = (M 1031798784 : Int) := by decide +kernel
  have v1 := V_pos sd
  have p := M_pos (r := 1031798784) (by omega)
  have g := fadd_le' (x := 1031798784) (a := 1031798784) (by decide) c (by decide) (by decide) (c := 1115684864) (by decide) (by decide +kernel)
  refine ⟨h.1, f, isLen_of (fin_of_le g (by decide)) ?_ ?_ g⟩
  · rw [e.sg, if_neg (by rw [v0, v1]; omega)]
    rw [v0, v1]; simp; omega
  · refine rnd_ge e.rnd (by decide) (by decide) ?_
    rw [v0, v1]; omega
end Go.Proofs.Pl
