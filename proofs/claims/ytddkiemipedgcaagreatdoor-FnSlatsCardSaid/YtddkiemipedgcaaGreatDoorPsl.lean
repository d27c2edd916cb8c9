/-
  Slats: what the law on slats says of all blinds. No program and no memory here.
-/
import Derived.Test.YtddkiemipedgcaaGreatDoorPb
import Derived.Test.YtddkiemipedgcaaGreatDoorPd
namespace Go.Proofs.Pl
open Go.Proofs.Fl
set_option linter.unusedVariables false
theorem M_one : M one = 2 ^ 149 := by decide +kernel
theorem M_two : M 1073741824 = 2 ^ 150 := by decide +kernel
theorem V_one : V one = (M one : Int) := by decide +kernel
theorem unit_part {x : Nat} (h : Unit' x) : isPart x = true := by
  have u := unit_fin h
  have v0 : V 0 = 0 := by decide
  unfold isPart
  rw [between_iff u.1 (by decide) (by decide), v0, V_one, V_unit h]
  have h' : x ≤ one := h
  have := M_mono h'
  simp; omega
theorem fne_same {x : Nat} (h : Fnt x) : fne x x = false := by rw [fne_not, feq_fin h h]; simp
theorem M_step {r e : Nat} (h : (r - 1) / 8388608 ≤ e) (h1 : 1 ≤ r) : M r ≤ M (r - 1) + 2 ^ (e - 1) := by
  have := M_succ (r - 1)
  rw [show r - 1 + 1 = r by omega] at this
  rw [this]
  have : 2 ^ ((r - 1) / 8388608 - 1) ≤ 2 ^ (e - 1) := Nat.pow_le_pow_right (by decide) (by omega)
  omega
/-- A sum that is rounded lies within half a step of the sum. -/
theorem rnd_half {R P e : Nat} (h : Rnd R P 1) (hR : (R - 1) / 8388608 ≤ e) : 2 * M R ≤ 2 * P + 2 ^ (e - 1) := by
  by_cases c : R = 0
  · subst c; simp [M_zero]
  · have a := rnd_low h (by omega)
    have b := M_step hR (by omega)
    unfold Tr at a
    omega
variable {wd g s : Nat} {t h : Int}
theorem opn_is (hw : isLen wd = true) (hg : isLen g = true) (h1 : 1 ≤ h) (h2 : h ≤ 64) : Rnd (opn wd g t h) (M one - M (blk wd g t h)) 1 ∧ M (blk wd g t h) ≤ M one := by
  have b := blocked_unit (t := t) hw hg h1 h2
  have bf := unit_fin b
  have i := (sub_fin (x := one) (by decide) bf.1).2
  have vb := V_unit b
  have hm : M (blk wd g t h) ≤ M one := M_mono b
  have o := opn_unit (t := t) hw hg h1 h2
  have o' : opn wd g t h ≤ 1065353216 := o
  have e := (rung_id (x := opn wd g t h) (by omega)).1
  have r := i.rnd
  rw [V_one, vb] at r
  have e2 : ((M one : Int) - (M (blk wd g t h) : Int)).natAbs = M one - M (blk wd g t h) := by omega
  rw [e2] at r
  have e3 : rung (fsub one (blk wd g t h)) = opn wd g t h := e
  rw [e3] at r
  exact ⟨r, hm⟩
theorem bounce_le (hw : isLen wd = true) (hg : isLen g = true) (hs : Tone s) (h1 : 1 ≤ h) (h2 : h ≤ 64) : sg (bounce wd g t s h) = false ∧ rung (bounce wd g t s h) ≤ blk wd g t h := by
  have b := blocked_unit (t := t) hw hg h1 h2
  have bu := unit_fin b
  have b' : blk wd g t h ≤ 1065353216 := b
  have eb := (rung_id (x := blk wd g t h) (by omega)).1
  have o := unit_fin (opn_unit (t := t) hw hg (show 1 ≤ (1 : Int) by omega) (by omega))
  have k : M (blk wd g t h) * M one ≤ M (blk wd g t h) * 2 ^ 149 := by rw [M_one]; exact Nat.le_refl _
  have a := fmul_le' (x := blk wd g t h) (y := s) (Nat.le_of_eq eb) hs.2.2 (by omega) (by decide) (c := blk wd g t h) (by omega) k
  have af := fin_of_le a (by omega)
  have c := fmul_le' a o.2.1 (by omega) (by decide) (c := blk wd g t h) (by omega) k
  have cf := fin_of_le c (by omega)
  have d := fdiv_le' (y := 1073741824) (b := 1073741824) c (by decide) (by decide) (by omega) (by decide) (c := blk wd g t h) (by omega) (Nat.mul_le_mul_left _ (by rw [M_two]; decide +kernel))
  refine ⟨?_, d⟩
  unfold bounce
  rw [(div_fin cf (by decide) (by decide)).2.sg, (mul_fin af o.1).2.sg, (mul_fin bu.1 hs.1).2.sg, bu.2.2.1, hs.2.1, o.2.2.1]
  decide
theorem pass_laws (hw : isLen wd = true) (hg : isLen g = true) (hs : Tone s) (h1 : 1 ≤ h) (h2 : h ≤ 64) : Fnt (pass wd g t s h) ∧ fle (pass wd g t s h) one = true ∧ fge (pass wd g t s h) (opn wd g t h) = true := by
  obtain ⟨pf, bf, f, _, lt⟩ := pass_fin (t := t) hw hg hs.part h1 h2
  obtain ⟨bs, bl⟩ := bounce_le (t := t) hw hg hs h1 h2
  obtain ⟨oR, om⟩ := opn_is (t := t) hw hg h1 h2
  have o := opn_unit (t := t) hw hg h1 h2
  have o' : opn wd g t h ≤ 1065353216 := o
  have b := blocked_unit (t := t) hw hg h1 h2
  have b' : blk wd g t h ≤ 1065353216 := b
  have vo := V_unit o
  have vb := V_pos bs
  have i := (add_fin pf bf).2
  have r := i.rnd
  have e : (V (opn wd g t h) + V (bounce wd g t s h)).natAbs = M (opn wd g t h) + M (rung (bounce wd g t s h)) := by rw [vo, vb]; omega
  rw [e] at r
  have ps : sg (pass wd g t s h) = false := by
    unfold pass
    rw [i.sg, vo, vb]
    have o2 := (unit_fin o).2.2.1
    split
    · rw [o2, bs]; rfl
    · simp only [decide_eq_false_iff_not]; omega
  have r' : Rnd (rung (pass wd g t s h)) (M (opn wd g t h) + M (rung (bounce wd g t s h))) 1 := r
  have hh := rnd_half (e := 126) oR (by omega)
  have mb := M_mono bl
  have up : rung (pass wd g t s h) ≤ one := by
    by_cases c : rung (pass wd g t s h) ≤ one
    · exact c
    · exfalso
      have t1 := (r'.2 (one + 1) (by decide) (by decide)).1 (by omega)
      have e1 : Tr (one + 1) = 2 * M one + 2 ^ 126 := by decide +kernel
      have e2 : (2 : Nat) ^ 126 = 2 * 2 ^ (126 - 1) := by decide +kernel
      unfold Thr at t1
      rw [e1, e2] at t1
      have p : 0 < 2 ^ (126 - 1) := Nat.two_pow_pos _
      omega
  have lo : opn wd g t h ≤ rung (pass wd g t s h) := rnd_ge r' (by decide) (by omega) (by omega)
  refine ⟨f, ?_, ?_⟩
  · rw [fle_fin f (by decide), V_pos ps, V_one]
    have := M_mono up
    simp; omega
  · rw [fge_fin f pf, V_pos ps, vo]
    have := M_mono lo
    simp; omega
theorem opn_64 : fne (opn wd g t 64) 0 = false := by
  have hc : feq (cosine 64) 0 = true := by decide +kernel
  unfold opn
  rw [blocked_1 hc]
  decide +kernel
/-- A greater gap lets in no less. -/
theorem opn_mono {k : Nat} (hw : isLen wd = true) (hg : isLen g = true) (hk : isLen k = true) (h1 : 1 ≤ h) (h2 : h ≤ 64) (hle : rung g ≤ rung k) : fge (opn wd k t h) (opn wd g t h) = true := by
  have og := opn_unit (t := t) hw hg h1 h2
  have ok := opn_unit (t := t) hw hk h1 h2
  have hb : blk wd k t h ≤ blk wd g t h := by
    cases hc : feq (cosine h) 0
    · obtain ⟨w1, g1, s1, c1, x1, y1, z1, p1, p2, p3⟩ := part_steps (t := t) hw hg h1 h2 hc
      obtain ⟨_, k1, _, _, _, y2, z2, q1, q2, q3⟩ := part_steps (t := t) hw hk h1 h2 hc
      have my := rnd_mono (mul_fin g1 c1).2.rnd (mul_fin k1 c1).2.rnd (Nat.two_pow_pos _) (Nat.two_pow_pos _) (Nat.mul_le_mul_right _ (Nat.mul_le_mul_right _ (M_mono hle)))
      have mp := rnd_mono (div_fin x1 y2 z2).2.rnd (div_fin x1 y1 z1).2.rnd (M_pos (by omega)) (M_pos (by omega)) (Nat.mul_le_mul_left _ (M_mono my))
      have mp' : part wd k t h ≤ part wd g t h := by
        have e1 := (rung_id p3).1
        have e2 := (rung_id q3).1
        have : rung (part wd k t h) ≤ rung (part wd g t h) := mp
        omega
      have f1 : part wd g t h < 2139095040 := by have := (rung_id p3).1; unfold Fnt at p1; omega
      have f2 : part wd k t h < 2139095040 := by have := (rung_id q3).1; unfold Fnt at q1; omega
      have g1' := gt_one f1
      have g2' := gt_one f2
      by_cases a : one < part wd g t h
      · rw [blocked_2 (wd := wd) (g := g) (t := t) hc (by rw [g1']; simp [a])]
        exact blocked_unit (t := t) hw hk h1 h2
      · rw [blocked_3 (wd := wd) (g := g) (t := t) hc (by rw [g1']; simp; omega), blocked_3 (wd := wd) (g := k) (t := t) hc (by rw [g2']; simp; omega)]
        exact mp'
    · rw [blocked_1 (wd := wd) (g := g) (t := t) hc, blocked_1 (wd := wd) (g := k) (t := t) hc]; exact Nat.le_refl _
  obtain ⟨r1, m1⟩ := opn_is (t := t) hw hg h1 h2
  obtain ⟨r2, m2⟩ := opn_is (t := t) hw hk h1 h2
  have mb := M_mono hb
  have hr := rnd_mono r1 r2 (by decide) (by decide) (by omega)
  rw [fge_fin (unit_fin ok).1 (unit_fin og).1, V_unit ok, V_unit og]
  have := M_mono hr
  simp; omega
/-- A gap that is wider by half of what is left. -/
def wide (g : Nat) : Nat := fadd g (fdiv (fsub 1115684864 g) 1073741824)
theorem wide_laws (hg : isLen g = true) : Fnt g ∧ Fnt (fsub 1115684864 g) ∧ Fnt (fdiv (fsub 1115684864 g) 1073741824) ∧ isLen (wide g) = true ∧ rung g ≤ rung (wide g) := by
  obtain ⟨g1, g2, g3, g4⟩ := len_of hg
  have v64 : V 1115684864 = (M 1115684864 : Int) := by decide +kernel
  have vg := V_pos g2
  have mg := M_mono g4
  have i := (sub_fin (x := 1115684864) (by decide) g1).2
  have r := i.rnd
  have e : (V 1115684864 - V g).natAbs = M 1115684864 - M (rung g) := by rw [v64, vg]; omega
  rw [e] at r
  have xs : sg (fsub 1115684864 g) = false := by
    rw [i.sg, v64, vg]
    split
    · have : sg 1115684864 = false := by decide
      rw [this]; rfl
    · simp only [decide_eq_false_iff_not]; omega
  have xr : rung (fsub 1115684864 g) ≤ 1115684864 := rnd_le r (by decide) (by decide) (by omega)
  have xf := fin_of_le xr (by decide)
  have hh := rnd_half (e := 132) r (by omega)
  have yr := fdiv_le' (y := 1073741824) (b := 1073741824) (Nat.le_refl (rung (fsub 1115684864 g))) (by decide) (by decide) (by omega) (by decide) (c := rung (fsub 1115684864 g)) (by omega) (Nat.mul_le_mul_left _ (by rw [M_two]; decide +kernel))
  have yf := fin_of_le yr (by omega)
  have ys : sg (fdiv (fsub 1115684864 g) 1073741824) = false := by rw [(div_fin xf (by decide) (by decide)).2.sg, xs]; decide
  have my := M_mono yr
  have j := (add_fin g1 yf).2
  have rz := j.rnd
  have vy := V_pos ys
  have e2 : (V g + V (fdiv (fsub 1115684864 g) 1073741824)).natAbs = M (rung g) + M (rung (fdiv (fsub 1115684864 g) 1073741824)) := by rw [vg, vy]; omega
  rw [e2] at rz
  have zr : Rnd (rung (wide g)) (M (rung g) + M (rung (fdiv (fsub 1115684864 g) 1073741824))) 1 := rz
  have lo : rung g ≤ rung (wide g) := rnd_ge zr (by decide) (by omega) (by omega)
  have up : rung (wide g) ≤ 1115684864 := by
    by_cases c : rung (wide g) ≤ 1115684864
    · exact c
    · exfalso
      have t1 := (zr.2 (1115684864 + 1) (by decide) (by decide)).1 (by omega)
      have e1 : Tr (1115684864 + 1) = 2 * M 1115684864 + 2 ^ 132 := by decide +kernel
      have e2 : (2 : Nat) ^ 132 = 2 * 2 ^ (132 - 1) := by decide +kernel
      unfold Thr at t1
      rw [e1, e2] at t1
      have p : 0 < 2 ^ (132 - 1) := Nat.two_pow_pos _
      omega
  have zs : sg (wide g) = false := by
    have p := M_pos (r := rung g) (by omega)
    show sg (fadd _ _) = false
    rw [j.sg, vg, vy, if_neg (by omega)]
    simp only [decide_eq_false_iff_not]; omega
  exact ⟨g1, xf, yf, isLen_of (fin_of_le up (by decide)) zs (by omega) up, lo⟩
end Go.Proofs.Pl
