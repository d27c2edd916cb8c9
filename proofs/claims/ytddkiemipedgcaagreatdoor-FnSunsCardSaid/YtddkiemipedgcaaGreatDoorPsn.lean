/-
  Sines: what the law on sines says of all angles. No program and no memory here.
-/
import Derived.Test.YtddkiemipedgcaaGreatDoorPl
import Derived.Test.YtddkiemipedgcaaGreatDoorPs
namespace Go.Proofs.Pl
open Go.Proofs.Fl
set_option linter.unusedVariables false
theorem sn_1 : ∀ k : Nat, k < 256 → (fle (sine (k : Int)) one && fge (sine (k : Int)) 3212836864) = true := by decide +kernel
theorem sn_2 : ∀ k : Nat, k < 256 → fne (sine ((k : Int) + 128)) (fsub 0 (sine (k : Int))) = false := by decide +kernel
theorem sn_3 : ∀ k : Nat, k < 256 → fne (cosine (-(k : Int))) (cosine (k : Int)) = false := by decide +kernel
theorem sn_4 : ∀ k : Nat, k < 256 → (fgt (fadd (fmul (sine (k : Int)) (sine (k : Int))) (fmul (cosine (k : Int)) (cosine (k : Int)))) 1065319662 && flt (fadd (fmul (sine (k : Int)) (sine (k : Int))) (fmul (cosine (k : Int)) (cosine (k : Int)))) 1065369993) = true := by decide +kernel
theorem sn_5 : ∀ k : Nat, k < 64 → (flt (sine (k : Int)) (sine ((k : Int) + 1)) && fge (sine (k : Int)) 0 && fle (sine ((k : Int) + 1)) one) = true := by decide +kernel
theorem sine_eq {a b : Int} (h : a % 256 = b % 256) : sine a = sine b := by rw [sine_mod a, sine_mod b, h]
theorem cosine_eq {a b : Int} (h : a % 256 = b % 256) : cosine a = cosine b := by unfold cosine; rw [h]
theorem ang_nat (a : Int) : ∃ k : Nat, k < 256 ∧ (k : Int) % 256 = a % 256 := by
  have h1 := Int.emod_nonneg a (show (256 : Int) ≠ 0 by decide)
  have h2 := Int.emod_lt_of_pos a (show (0 : Int) < 256 by decide)
  exact ⟨(a % 256).toNat, by omega, by omega⟩
theorem fne_self {x : Nat} (h : Fnt x) : fne x x = false := by rw [fne_not, feq_fin h h]; simp
/-- What the law asks of an angle. -/
theorem sines_of (a : Int) : fle (sine a) one = true ∧ fge (sine a) 3212836864 = true ∧ fne (sine (a + 128)) (fsub 0 (sine a)) = false ∧ fne (sine (a + 256)) (sine a) = false ∧ fne (cosine a) (sine (a + 64)) = false ∧ fne (cosine (-a)) (cosine a) = false ∧
    fgt (fadd (fmul (sine a) (sine a)) (fmul (cosine a) (cosine a))) 1065319662 = true ∧ flt (fadd (fmul (sine a) (sine a)) (fmul (cosine a) (cosine a))) 1065369993 = true := by
  obtain ⟨k, hk, e⟩ := ang_nat a
  have e1 : sine a = sine (k : Int) := sine_eq e.symm
  have e2 : cosine a = cosine (k : Int) := cosine_eq e.symm
  have e3 : sine (a + 128) = sine ((k : Int) + 128) := sine_eq (by omega)
  have e4 : sine (a + 256) = sine a := sine_eq (by omega)
  have e5 : cosine (-a) = cosine (-(k : Int)) := cosine_eq (by omega)
  have e6 : cosine a = sine (a + 64) := by unfold cosine; exact sine_eq (by omega)
  have a1 := sn_1 k hk
  have a4 := sn_4 k hk
  rw [Bool.and_eq_true] at a1 a4
  refine ⟨by rw [e1]; exact a1.1, by rw [e1]; exact a1.2, by rw [e3, e1]; exact sn_2 k hk, by rw [e4]; exact fne_self (sine_fin a).1, by rw [e6]; exact fne_self (sine_fin _).1, by rw [e5, e2]; exact sn_3 k hk, by rw [e1, e2]; exact a4.1, by rw [e1, e2]; exact a4.2⟩
theorem rises_of {k : Int} (h0 : 0 ≤ k) (h1 : k < 64) : flt (sine k) (sine (k + 1)) = true ∧ fge (sine k) 0 = true ∧ fle (sine (k + 1)) one = true := by
  obtain ⟨m, rfl⟩ := Int.eq_ofNat_of_zero_le h0
  have a := sn_5 m (by omega)
  rw [Bool.and_eq_true, Bool.and_eq_true] at a
  exact ⟨a.1.1, a.1.2, a.2⟩
/-- The steps of the sum of squares are finite. -/
theorem square_fin (a : Int) : Fnt (fmul (sine a) (sine a)) ∧ Fnt (fmul (cosine a) (cosine a)) ∧ Fnt (fadd (fmul (sine a) (sine a)) (fmul (cosine a) (cosine a))) := by
  have s := sine_fin a
  have c := cosine_fin a
  have h1 := fmul_le' s.2.1 s.2.1 (by decide) (by decide) (c := one) (by decide) (by decide +kernel)
  have h2 := fmul_le' c.2.1 c.2.1 (by decide) (by decide) (c := one) (by decide) (by decide +kernel)
  have h3 := fadd_le' h1 h2 (by decide) (by decide) (c := 1073741824) (by decide) (by decide +kernel)
  exact ⟨fin_of_le h1 (by decide), fin_of_le h2 (by decide), fin_of_le h3 (by decide)⟩
end Go.Proofs.Pl
