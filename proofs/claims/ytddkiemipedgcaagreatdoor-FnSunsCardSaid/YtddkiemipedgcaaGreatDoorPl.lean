/-
  The plain functions that the program and its reference compute, and plain facts on them: no program and no memory here.
-/
import Derived.Test.YtddkiemipedgcaaGreatDoorFl
namespace Go.Proofs.Pl
open Go.Proofs.Fl

/-- The word of 1, of 64, of 1/16, of 2, of 1048576 and of -1048576. -/
abbrev one : Nat := 1065353216

def inR (n lo hi : Int) : Bool := decide (lo ≤ n) && decide (n ≤ hi)
theorem inR_iff {n lo hi : Int} : inR n lo hi = true ↔ lo ≤ n ∧ n ≤ hi := by unfold inR; simp
theorem inR_false {n lo hi : Int} : inR n lo hi = false ↔ ¬ (lo ≤ n ∧ n ≤ hi) := by rw [← inR_iff]; simp

theorem bool_or (b : Bool) : b = false ∨ b = true := by cases b <;> simp
def ang (n : Int) : Int := n % 256
theorem tmod_by (n m : Int) (hm : 0 < m) : (n.tmod m + m).tmod m = n % m := by
  have h1 := Int.tmod_eq_emod (a := n) (b := m)
  have h2 := Int.emod_nonneg n (show m ≠ 0 by omega)
  have h3 := Int.emod_lt_of_pos n hm
  have hnm : (m.natAbs : Int) = m := by omega
  split at h1
  · have e : n.tmod m + m = n % m + m := by omega
    rw [e, Int.tmod_eq_emod_of_nonneg (by omega), Int.add_emod_right, Int.emod_emod]
  · rename_i c
    have e : n.tmod m + m = n % m := by omega
    rw [e, Int.tmod_eq_emod_of_nonneg h2, Int.emod_emod]
theorem tmod_by' (n m : Int) (hm : 0 < m) : (n.tmod m + m) % m = n % m := by
  have h := tmod_by n m hm
  have h1 := Int.tmod_eq_emod (a := n) (b := m)
  have h3 := Int.emod_nonneg n (show m ≠ 0 by omega)
  have h4 := Int.emod_lt_of_pos n hm
  have hnm : (m.natAbs : Int) = m := by omega
  split at h1
  · rw [show n.tmod m + m = n % m + m by omega, Int.add_emod_right, Int.emod_emod]
  · rw [show n.tmod m + m = n % m by omega, Int.emod_emod]
theorem tmod_bd (n m : Int) (hm : 0 < m) : -m < n.tmod m ∧ n.tmod m < m := by
  have h1 := Int.tmod_eq_emod (a := n) (b := m)
  have h2 := Int.emod_nonneg n (show m ≠ 0 by omega)
  have h3 := Int.emod_lt_of_pos n hm
  by_cases h0 : 0 ≤ n
  · rw [if_pos (.inl h0)] at h1; omega
  · have h4 : (-n).tmod m = -(n.tmod m) := Int.neg_tmod n m
    rw [Int.tmod_eq_emod_of_nonneg (by omega)] at h4
    clear h1
    have h5 := Int.emod_nonneg (-n) (show m ≠ 0 by omega)
    have h6 := Int.emod_lt_of_pos (-n) hm
    omega

def isPart (a : Nat) : Bool := fge a 0 && fle a one
def isLen (a : Nat) : Bool := fge a 1031798784 && fle a 1115684864
def isPlain (a : Nat) : Bool := fge a 3380609024 && fle a 1233125376

theorem part_of {a : Nat} (h : isPart a = true) : Fnt a ∧ 0 ≤ V a ∧ rung a ≤ one := by
  obtain ⟨h1, h2, h3⟩ := between (by decide) (by decide) h
  have v0 : V 0 = 0 := by decide
  have v1 : V one = (M one : Int) := by decide +kernel
  rw [v0] at h2; rw [v1] at h3
  exact ⟨h1, h2, rung_le_of_V (by omega) h3⟩
theorem len_of {a : Nat} (h : isLen a = true) : Fnt a ∧ sg a = false ∧ 1031798784 ≤ rung a ∧ rung a ≤ 1115684864 := by
  obtain ⟨h1, h2, h3⟩ := between (by decide) (by decide) h
  have v0 : V 1031798784 = (M 1031798784 : Int) := by decide +kernel
  have v1 : V 1115684864 = (M 1115684864 : Int) := by decide +kernel
  have p := M_pos (r := 1031798784) (by omega)
  rw [v0] at h2; rw [v1] at h3
  have s := sg_of_pos (a := a) (by omega)
  exact ⟨h1, s, (V_rung_ge s).1 h2, (V_rung_lt s).1 h3⟩
theorem plain_of {a : Nat} (h : isPlain a = true) : Fnt a ∧ rung a ≤ 1233125376 := by
  obtain ⟨h1, h2, h3⟩ := between (by decide) (by decide) h
  have v0 : V 3380609024 = -(M 1233125376 : Int) := by decide +kernel
  have v1 : V 1233125376 = (M 1233125376 : Int) := by decide +kernel
  rw [v0] at h2; rw [v1] at h3
  exact ⟨h1, rung_le_of_V (by omega) h3⟩

/-- Two numbers are the same: both are NaN, or they have the same bits. -/
def same (a b : Nat) : Bool := if fne a a || fne b b then fne a a && fne b b else ((a : Int) == (b : Int))

/-- The size of a number. -/
def size (a : Nat) : Nat := if flt a 0 then fsub 0 a else a
theorem size_spec {a : Nat} (ha : Fnt a) : Fnt (size a) ∧ sg (size a) = (sg a && !flt a 0) ∧ rung (size a) = rung a := by
  have v0 : V 0 = 0 := by decide
  unfold size
  rw [flt_fin ha (by decide), v0]
  by_cases c : V a < 0
  · simp only [c, decide_true, if_true]
    rw [fsub_zero ha c]
    have hr : rung a < 2147483648 := Nat.mod_lt _ (by decide)
    have e1 : rung (rung a) = rung a := by unfold rung at *; omega
    have e2 : sg (rung a) = false := by unfold sg; simp; omega
    unfold Fnt at ha ⊢
    rw [e1, e2]; simp [ha]
  · simp [c, ha]

/-! ### sines -/
def quarter (a : Int) : Nat :=
  fmul (fdiv (floatOfInt .f32 a) 1115684864)
    (fsub 1070137344 (fmul (fmul (fdiv (floatOfInt .f32 a) 1115684864) (fdiv (floatOfInt .f32 a) 1115684864))
      (fsub 1059356672 (fmul (fmul (fdiv (floatOfInt .f32 a) 1115684864) (fdiv (floatOfInt .f32 a) 1115684864)) 1033109504))))
def sine (n : Int) : Nat :=
  if 192 < n % 256 then fsub 0 (quarter (256 - n % 256)) else if 128 < n % 256 then fsub 0 (quarter (n % 256 - 128)) else if 64 < n % 256 then quarter (128 - n % 256) else quarter (n % 256)
def cosine (n : Int) : Nat := sine (n % 256 + 64)

theorem sine_1 {n k : Int} (hk : n % 256 = k) (h : 192 < k) : sine n = fsub 0 (quarter (256 - k)) := by unfold sine; rw [hk, if_pos h]
theorem sine_2 {n k : Int} (hk : n % 256 = k) (h1 : ¬ 192 < k) (h2 : 128 < k) : sine n = fsub 0 (quarter (k - 128)) := by unfold sine; rw [hk, if_neg h1, if_pos h2]
theorem sine_3 {n k : Int} (hk : n % 256 = k) (h1 : ¬ 128 < k) (h2 : 64 < k) : sine n = quarter (128 - k) := by unfold sine; rw [hk, if_neg (by omega), if_neg h1, if_pos h2]
theorem sine_4 {n k : Int} (hk : n % 256 = k) (h1 : ¬ 64 < k) : sine n = quarter k := by unfold sine; rw [hk, if_neg (by omega), if_neg (by omega), if_neg h1]

/-- The steps of 'quarter' are finite. -/
theorem quarter_steps : ∀ k : Nat, k < 65 → Fnt (floatOfInt .f32 (k : Int)) ∧ Fnt (fdiv (floatOfInt .f32 (k : Int)) 1115684864) ∧
    Fnt (fmul (fdiv (floatOfInt .f32 (k : Int)) 1115684864) (fdiv (floatOfInt .f32 (k : Int)) 1115684864)) ∧
    Fnt (fmul (fmul (fdiv (floatOfInt .f32 (k : Int)) 1115684864) (fdiv (floatOfInt .f32 (k : Int)) 1115684864)) 1033109504) ∧
    Fnt (fsub 1059356672 (fmul (fmul (fdiv (floatOfInt .f32 (k : Int)) 1115684864) (fdiv (floatOfInt .f32 (k : Int)) 1115684864)) 1033109504)) ∧
    Fnt (fmul (fmul (fdiv (floatOfInt .f32 (k : Int)) 1115684864) (fdiv (floatOfInt .f32 (k : Int)) 1115684864)) (fsub 1059356672 (fmul (fmul (fdiv (floatOfInt .f32 (k : Int)) 1115684864) (fdiv (floatOfInt .f32 (k : Int)) 1115684864)) 1033109504))) ∧
    Fnt (fsub 1070137344 (fmul (fmul (fdiv (floatOfInt .f32 (k : Int)) 1115684864) (fdiv (floatOfInt .f32 (k : Int)) 1115684864)) (fsub 1059356672 (fmul (fmul (fdiv (floatOfInt .f32 (k : Int)) 1115684864) (fdiv (floatOfInt .f32 (k : Int)) 1115684864)) 1033109504)))) := by
  decide +kernel
theorem quarter_fin0 : ∀ k : Nat, k < 65 → sg (quarter (k : Int)) = false ∧ rung (quarter (k : Int)) ≤ one ∧ quarter (k : Int) < 4294967296 := by decide +kernel
theorem quarter_fin {a : Int} (h0 : 0 ≤ a) (h1 : a ≤ 64) : Fnt (quarter a) ∧ sg (quarter a) = false ∧ rung (quarter a) ≤ one := by
  obtain ⟨k, rfl⟩ := Int.eq_ofNat_of_zero_le h0
  have := quarter_fin0 k (by omega)
  exact ⟨fin_of_le this.2.1 (by decide), this.1, this.2.1⟩
theorem sine_all : ∀ k : Nat, k < 256 → rung (sine (k : Int)) ≤ one ∧ sine (k : Int) < 4294967296 ∧ (sine ((k : Int)) = 2147483648 ∨ sg (sine (k : Int)) = decide (128 < k)) := by decide +kernel
theorem sine_mod (n : Int) : sine n = sine (n % 256) := by unfold sine; rw [Int.emod_emod]
theorem sine_nat (n : Int) : ∃ k : Nat, k < 256 ∧ (k : Int) = n % 256 ∧ sine n = sine (k : Int) := by
  have h1 := Int.emod_nonneg n (show (256 : Int) ≠ 0 by decide)
  have h2 := Int.emod_lt_of_pos n (show (0 : Int) < 256 by decide)
  obtain ⟨k, hk⟩ := Int.eq_ofNat_of_zero_le h1
  exact ⟨k, by omega, by omega, by rw [sine_mod, hk]⟩
theorem sine_fin (n : Int) : Fnt (sine n) ∧ rung (sine n) ≤ one ∧ sine n < 4294967296 := by
  obtain ⟨k, hk, _, e⟩ := sine_nat n
  rw [e]
  have := sine_all k hk
  exact ⟨fin_of_le this.1 (by decide), this.1, this.2.1⟩
theorem cosine_fin (n : Int) : Fnt (cosine n) ∧ rung (cosine n) ≤ one ∧ cosine n < 4294967296 := sine_fin _
end Go.Proofs.Pl
