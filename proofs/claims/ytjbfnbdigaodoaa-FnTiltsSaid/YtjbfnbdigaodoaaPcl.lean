/-
  The law of the cords, in plain numbers: a greater load makes no shorter cord; stops lie in their order; the stop that is found is the first of the nearest. No program and no memory here.
-/
import Derived.Test.YtjbfnbdigaodoaaPd
namespace Go.Proofs.Pl
set_option linter.unusedVariables false
open Go.Proofs.Fl

/-- What one step of rungs is. -/
theorem M_gap {R : Nat} (h : 8388608 ≤ R) : ∃ g, 0 < g ∧ M (R + 1) = M R + g ∧ M R ≤ M (R - 1) + g ∧ 8388608 * g ≤ M R := by
  refine ⟨2 ^ (R / 8388608 - 1), Nat.two_pow_pos _, M_succ R, ?_, ?_⟩
  · obtain ⟨r, rfl⟩ : ∃ r, R = r + 1 := ⟨R - 1, by omega⟩
    have e := M_succ r
    rw [e, Nat.add_sub_cancel]
    have : 2 ^ (r / 8388608 - 1) ≤ 2 ^ ((r + 1) / 8388608 - 1) := Nat.pow_le_pow_right (by decide) (by omega)
    omega
  · unfold M; rw [if_neg (by omega)]
    exact Nat.mul_le_mul_right _ (by omega)
theorem Tr_mono {a b : Nat} (h : a ≤ b) : Tr a ≤ Tr b := by
  unfold Tr
  have := M_mono (show a - 1 ≤ b - 1 by omega)
  have := M_mono h
  omega
/-- A hundredth more is a greater rounded number. -/
theorem rnd_strict {R P Q R' P' Q' : Nat} (h : Rnd R P Q) (h' : Rnd R' P' Q') (hQ : 0 < Q) (hQ' : 0 < Q') (hR : 8388608 ≤ R) (hR' : R' < 2139095040) (hp : 101 * (P * Q') ≤ 100 * (P' * Q)) : R < R' := by
  by_cases c : R < R'
  · exact c
  exfalso
  have hl := rnd_low h (by omega)
  have hh := rnd_high h' hR'
  have ht : Tr (R' + 1) ≤ Tr (R + 1) := Tr_mono (by omega)
  obtain ⟨g, g0, g1, g2, g3⟩ := M_gap hR
  have a1 : Tr R * Q * Q' ≤ 2 * P * Q' := Nat.mul_le_mul_right _ hl
  have a2 : 2 * P' * Q ≤ Tr (R' + 1) * Q' * Q := Nat.mul_le_mul_right _ hh
  have a3 : Tr (R' + 1) * Q' * Q ≤ Tr (R + 1) * Q' * Q := Nat.mul_le_mul_right _ (Nat.mul_le_mul_right _ ht)
  have e1 : Tr R * Q * Q' = Tr R * (Q * Q') := Nat.mul_assoc _ _ _
  have e2 : Tr (R + 1) * Q' * Q = Tr (R + 1) * (Q * Q') := by rw [Nat.mul_assoc, Nat.mul_comm Q' Q]
  have e3 : 2 * P * Q' = 2 * (P * Q') := Nat.mul_assoc _ _ _
  have e4 : 2 * P' * Q = 2 * (P' * Q) := Nat.mul_assoc _ _ _
  have hqq : 0 < Q * Q' := Nat.mul_pos hQ hQ'
  generalize Q * Q' = q at *
  have b : 101 * (Tr R * q) ≤ 100 * (Tr (R + 1) * q) := by omega
  have b2 : 101 * Tr R ≤ 100 * Tr (R + 1) := by
    refine Nat.le_of_mul_le_mul_right ?_ hqq
    rw [Nat.mul_assoc, Nat.mul_assoc]; exact b
  unfold Tr at b2
  have e5 : R + 1 - 1 = R := by omega
  rw [e5] at b2
  omega
theorem rnd_near {R P Q : Nat} (h : Rnd R P Q) (hR : 8388608 ≤ R) (hR' : R < 2139095040) : 1000 * (M R * Q) ≤ 1001 * P ∧ 999 * P ≤ 1000 * (M R * Q) := by
  have hl := rnd_low h (by omega)
  have hh := rnd_high h hR'
  obtain ⟨g, g0, g1, g2, g3⟩ := M_gap hR
  unfold Tr at hl hh
  have e5 : R + 1 - 1 = R := by omega
  rw [e5, g1] at hh
  have l1 : (M R + M R) * Q ≤ (M (R - 1) + M R + g) * Q := Nat.mul_le_mul_right _ (by omega)
  rw [Nat.add_mul (M (R - 1) + M R) g Q] at l1
  have h1 : (M R + (M R + g)) * Q = (M R + M R) * Q + g * Q := by rw [← Nat.add_assoc, Nat.add_mul]
  have g4 : 8388608 * (g * Q) ≤ M R * Q := by rw [← Nat.mul_assoc]; exact Nat.mul_le_mul_right _ g3
  have e : (M R + M R) * Q = M R * Q + M R * Q := Nat.add_mul _ _ _
  rw [h1, e] at hh
  rw [e] at l1
  generalize M R * Q = x at *
  generalize g * Q = y at *
  omega

section
variable {l s load : Nat} {n : Int}
theorem str_pos (hl : isLen l = true) (hs : Tone s) (hp : Tone load) : sg (fmul load s) = false ∧ sg (fadd one (fmul load s)) = false ∧ sg (stretched l s load) = false ∧ one ≤ rung (fadd one (fmul load s)) ∧ 1031798784 ≤ rung (stretched l s load) := by
  obtain ⟨f1, f2, f3, f4, f5, f6, f7⟩ := stretched_steps hl hs.part hp.part
  obtain ⟨_, l2, l3, _⟩ := len_of hl
  have a := (mul_fin f3 f2).2.sg
  have a' : sg (fmul load s) = false := by rw [a, hp.2.1, hs.2.1]; rfl
  have v1 : V one = (M one : Int) := by decide +kernel
  have va := V_pos a'
  have b := (add_fin (x := one) (by decide) f4).2
  have p := M_pos (r := one) (by decide)
  have b' : sg (fadd one (fmul load s)) = false := by
    rw [b.sg, v1, va, if_neg (by omega)]; simp; omega
  have b2 : one ≤ rung (fadd one (fmul load s)) := rnd_ge b.rnd (by decide) (by decide) (by rw [v1, va]; omega)
  have c := (mul_fin f1 f5).2.sg
  have c' : sg (stretched l s load) = false := by
    have : sg (stretched l s load) = (sg l ^^ sg (fadd one (fmul load s))) := c
    rw [this, l2, b']; rfl
  exact ⟨a', b', c', b2, fmul_ge' l3 b2 f1 f5 (by decide) (by decide +kernel)⟩
theorem str_mono {load2 : Nat} (hl : isLen l = true) (hs : Tone s) (hp : Tone load) (hq : Tone load2) (h : rung load ≤ rung load2) : rung (stretched l s load) ≤ rung (stretched l s load2) := by
  obtain ⟨f1, f2, f3, f4, f5, f6, f7⟩ := stretched_steps hl hs.part hp.part
  obtain ⟨g1, g2, g3, g4, g5, g6, g7⟩ := stretched_steps hl hs.part hq.part
  obtain ⟨p1, p2, p3, p4, _⟩ := str_pos hl hs hp
  obtain ⟨q1, q2, q3, q4, _⟩ := str_pos hl hs hq
  have v1 : V one = (M one : Int) := by decide +kernel
  have a := rnd_mono (mul_fin f3 f2).2.rnd (mul_fin g3 g2).2.rnd (by decide) (by decide) (Nat.mul_le_mul_right _ (Nat.mul_le_mul_right _ (M_mono h)))
  have b := rnd_mono (add_fin (x := one) (by decide) f4).2.rnd (add_fin (x := one) (by decide) g4).2.rnd (by decide) (by decide) (by
    rw [v1, V_pos p1, V_pos q1]
    have := M_mono a
    omega)
  exact rnd_mono (mul_fin f1 f5).2.rnd (mul_fin g1 g5).2.rnd (by decide) (by decide) (Nat.mul_le_mul_right _ (Nat.mul_le_mul_left _ (M_mono b)))
theorem tone_0 : Tone 0 := ⟨by decide, by decide, by decide⟩
theorem tone_one : Tone one := ⟨by decide, by decide, by decide⟩
theorem str_ge (hl : isLen l = true) (hs : Tone s) (hp : Tone load) : fge (stretched l s load) (stretched l s 0) = true := by
  obtain ⟨_, _, _, _, _, f6, _⟩ := stretched_steps hl hs.part hp.part
  obtain ⟨_, _, _, _, _, g6, _⟩ := stretched_steps hl hs.part tone_0.part
  have m := M_mono (str_mono hl hs tone_0 hp (by have : rung 0 = 0 := by decide
                                                 omega))
  rw [fge_fin f6 g6, V_pos (str_pos hl hs hp).2.2.1, V_pos (str_pos hl hs tone_0).2.2.1]
  simp; exact m
theorem str_le (hl : isLen l = true) (hs : Tone s) (hp : Tone load) : fle (stretched l s load) (stretched l s one) = true := by
  obtain ⟨_, _, _, _, _, f6, _⟩ := stretched_steps hl hs.part hp.part
  obtain ⟨_, _, _, _, _, g6, _⟩ := stretched_steps hl hs.part tone_one.part
  have m := M_mono (str_mono hl hs hp tone_one (by have : rung one = one := by decide
                                                   have := hp.2.2
                                                   omega))
  rw [fle_fin f6 g6, V_pos (str_pos hl hs hp).2.2.1, V_pos (str_pos hl hs tone_one).2.2.1]
  simp; exact m
theorem str_0 (hl : isLen l = true) (hs : Tone s) : fne (stretched l s 0) l = false := by
  obtain ⟨f1, f2, f3, f4, f5, f6, f7⟩ := stretched_steps hl hs.part tone_0.part
  obtain ⟨p1, p2, p3, p4, _⟩ := str_pos hl hs tone_0
  have v1 : V one = (M one : Int) := by decide +kernel
  have a : rung (fmul 0 s) = 0 := rnd_exact (mul_fin f3 f2).2.rnd (by decide) (by decide) (by
    have m0 : M (rung 0) = 0 := by decide
    rw [m0, M_zero]; omega)
  have b : rung (fadd one (fmul 0 s)) = one := rnd_exact (add_fin (x := one) (by decide) f4).2.rnd (by decide) (by decide) (by
    rw [v1, V_pos p1, a, M_zero]; omega)
  obtain ⟨_, l2, l3, l4⟩ := len_of hl
  have c : rung (stretched l s 0) = rung l := rnd_exact (mul_fin f1 f5).2.rnd (by decide) (by omega) (by
    have m1 : M one = 2 ^ 149 := by decide +kernel
    rw [b, m1])
  rw [fne_not, feq_fin f6 f1, V_pos p3, V_pos l2, c]
  simp
theorem whole_M0 : ((List.range 101).all fun k => (M (rung (floatOfInt .f32 (k : Int))) == k * 713623846352979940529142984724747568191373312) && !sg (floatOfInt .f32 (k : Int))) = true := by decide +kernel
theorem pow149 : 2 ^ 149 = 713623846352979940529142984724747568191373312 := by decide +kernel
theorem whole_M (k : Nat) (h : k < 101) : M (rung (floatOfInt .f32 (k : Int))) = k * 2 ^ 149 ∧ sg (floatOfInt .f32 (k : Int)) = false := by
  have a := List.all_eq_true.1 whole_M0 k (List.mem_range.2 h)
  rw [Bool.and_eq_true] at a
  rw [pow149]
  exact ⟨eq_of_beq a.1, by simpa using a.2⟩
/-- A stop's place: how it lies. -/
theorem place_at (hl : isLen l = true) (hs : Tone s) (hp : Tone load) {m k : Nat} (h1 : 1 ≤ m) (h2 : m ≤ 20) (k1 : 1 ≤ k) (k2 : k ≤ m) :
    8388608 ≤ rung (fmul (stretched l s load) (floatOfInt .f32 (k : Int))) ∧ 8388608 ≤ rung (place l s (m : Int) load (k : Int)) ∧ sg (place l s (m : Int) load (k : Int)) = false := by
  obtain ⟨q1, q2, q3, q4, q5, q6⟩ := place_steps (n := (m : Int)) (stop := (k : Int)) hl hs.part hp.part (by omega) (by omega) (by omega) (by omega)
  obtain ⟨_, _, _, _, _, f6, _⟩ := stretched_steps hl hs.part hp.part
  obtain ⟨_, _, p3, _, p5⟩ := str_pos hl hs hp
  have w := whole_pos (n := (k : Int)) (by omega) (by omega)
  have a := fmul_ge' p5 w f6 q1 (c := 1031798784) (by decide) (by decide +kernel)
  have u := (whole_fin (n := (m : Int)) (by omega) (by omega)).2
  have b := fdiv_ge' a u q2 (by decide) (by omega) (c := 8388608) (by decide) (by decide +kernel)
  have c := (div_fin q2 q3 q4).2.sg
  have d := (mul_fin f6 q1).2.sg
  refine ⟨by omega, b, ?_⟩
  have e : sg (place l s (m : Int) load (k : Int)) = (sg (fmul (stretched l s load) (floatOfInt .f32 (k : Int))) ^^ sg (floatOfInt .f32 (m : Int))) := c
  rw [e, d, p3, (whole_M k (by omega)).2, (whole_M m (by omega)).2]; rfl
theorem place_0 (hl : isLen l = true) (hs : Tone s) (hp : Tone load) {m : Nat} (h1 : 1 ≤ m) (h2 : m ≤ 20) : V (place l s (m : Int) load 0) = 0 := by
  obtain ⟨q1, q2, q3, q4, q5, q6⟩ := place_steps (n := (m : Int)) (stop := 0) hl hs.part hp.part (by omega) (by omega) (by omega) (by omega)
  obtain ⟨_, _, _, _, _, f6, _⟩ := stretched_steps hl hs.part hp.part
  have m0 : M (rung (floatOfInt .f32 0)) = 0 := by decide +kernel
  have a : rung (fmul (stretched l s load) (floatOfInt .f32 0)) = 0 := rnd_exact (mul_fin f6 q1).2.rnd (by decide) (by decide) (by rw [m0, M_zero]; omega)
  have b : rung (place l s (m : Int) load 0) = 0 := rnd_exact (div_fin q2 q3 q4).2.rnd (M_pos (by omega)) (by decide) (by rw [a, M_zero, Nat.zero_mul, Nat.zero_mul])
  have e := V_abs (place l s (m : Int) load 0)
  rw [b, M_zero] at e
  omega
theorem place_lt (hl : isLen l = true) (hs : Tone s) (hp : Tone load) {m k : Nat} (h1 : 1 ≤ m) (h2 : m ≤ 20) (hk : k + 1 ≤ m) : V (place l s (m : Int) load (k : Int)) < V (place l s (m : Int) load ((k + 1 : Nat) : Int)) := by
  obtain ⟨r1, r2, r3⟩ := place_at hl hs hp h1 h2 (show 1 ≤ k + 1 by omega) hk
  by_cases h0 : k = 0
  · subst h0
    have e : V (place l s (m : Int) load ((0 : Nat) : Int)) = 0 := place_0 hl hs hp h1 h2
    rw [e, V_pos r3]
    have := M_pos (show 0 < rung (place l s (m : Int) load ((0 + 1 : Nat) : Int)) by omega)
    omega
  · obtain ⟨t1, t2, t3⟩ := place_at hl hs hp h1 h2 (show 1 ≤ k by omega) (show k ≤ m by omega)
    obtain ⟨q1, q2, q3, q4, q5, q6⟩ := place_steps (n := (m : Int)) (stop := (k : Int)) hl hs.part hp.part (by omega) (by omega) (by omega) (by omega)
    obtain ⟨u1, u2, u3, u4, u5, u6⟩ := place_steps (n := (m : Int)) (stop := ((k + 1 : Nat) : Int)) hl hs.part hp.part (by omega) (by omega) (by omega) (by omega)
    obtain ⟨_, _, _, _, _, f6, _⟩ := stretched_steps hl hs.part hp.part
    have z1 := (mul_fin f6 q1).2.rnd
    have z2 := (mul_fin f6 u1).2.rnd
    rw [(whole_M k (by omega)).1] at z1
    rw [(whole_M (k + 1) (by omega)).1] at z2
    have n1 := (rnd_near z1 t1 q2).1
    have n2 := (rnd_near z2 r1 u2).2
    have lt : rung (place l s (m : Int) load (k : Int)) < rung (place l s (m : Int) load ((k + 1 : Nat) : Int)) := by
      refine rnd_strict (div_fin q2 q3 q4).2.rnd (div_fin u2 u3 u4).2.rnd (M_pos (by omega)) (M_pos (by omega)) t2 (by unfold Fnt at u5; omega) ?_
      generalize M (rung (fmul (stretched l s load) (floatOfInt .f32 (k : Int)))) = a at *
      generalize M (rung (fmul (stretched l s load) (floatOfInt .f32 ((k + 1 : Nat) : Int)))) = b at *
      generalize M (rung (floatOfInt .f32 (m : Int))) = c at *
      generalize M (rung (stretched l s load)) = x at *
      have hab : 101 * a ≤ 100 * b := by
        have p : (0 : Nat) < 2 ^ 149 := Nat.two_pow_pos _
        refine Nat.le_of_mul_le_mul_right ?_ p
        generalize (2 : Nat) ^ 149 = y at *
        have e1 : x * (k * y) = k * (x * y) := by rw [← Nat.mul_assoc, Nat.mul_comm x k, Nat.mul_assoc]
        have e2 : x * ((k + 1) * y) = (k + 1) * (x * y) := by rw [← Nat.mul_assoc, Nat.mul_comm x (k + 1), Nat.mul_assoc]
        rw [e1] at n1
        rw [e2] at n2
        rw [Nat.mul_assoc, Nat.mul_assoc]
        generalize x * y = z at *
        generalize a * y = a' at *
        generalize b * y = b' at *
        have hk20 : k ≤ 20 := by omega
        have e3 : (k + 1) * z = k * z + z := Nat.succ_mul k z
        have e4 : k * z ≤ 20 * z := Nat.mul_le_mul_right _ hk20
        rw [e3] at n2
        generalize k * z = kz at *
        omega
      calc 101 * (a * 2 ^ 149 * c) = 101 * a * (2 ^ 149 * c) := by rw [Nat.mul_assoc a, Nat.mul_assoc]
        _ ≤ 100 * b * (2 ^ 149 * c) := Nat.mul_le_mul_right _ hab
        _ = 100 * (b * 2 ^ 149 * c) := by rw [Nat.mul_assoc b, Nat.mul_assoc]
    rw [V_pos t3, V_pos r3]
    have := M_strict lt
    omega
end
/-- The first of the least. -/
theorem least_spec {f : Nat → Nat} : ∀ (m : Nat), (∀ k, k ≤ m → Fnt (f k)) → ∀ k, k ≤ m → V (f (leastOf f m)) ≤ V (f k) ∧ (k < leastOf f m → V (f (leastOf f m)) < V (f k))
  | 0, hf, k, hk => by
    have : k = 0 := by omega
    subst this
    exact ⟨by unfold leastOf; omega, fun h => by unfold leastOf at h; omega⟩
  | m + 1, hf, k, hk => by
    have ih := least_spec m fun j hj => hf j (by omega)
    have hl := least_le f m
    have f1 := hf (m + 1) (Nat.le_refl _)
    have f2 := hf (leastOf f m) (by omega)
    cases c : flt (f (m + 1)) (f (leastOf f m))
    · rw [least_no c]
      rw [flt_fin f1 f2] at c
      simp at c
      by_cases e : k = m + 1
      · subst e; exact ⟨c, fun h => by omega⟩
      · exact ih k (by omega)
    · rw [least_yes c]
      rw [flt_fin f1 f2] at c
      simp at c
      by_cases e : k = m + 1
      · subst e; exact ⟨by omega, fun h => by omega⟩
      · have := ih k (by omega)
        exact ⟨by omega, fun h => by omega⟩
end Go.Proofs.Pl
