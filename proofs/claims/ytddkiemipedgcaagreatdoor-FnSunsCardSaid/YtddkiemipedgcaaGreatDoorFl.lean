/-
  Plain facts on the numbers of IEEE single precision: a finite word is a whole number of units 2^-149; rounding is told by its thresholds (between two rungs). No program here.
-/
import Derived.Laws.FloatArith
namespace Go.Proofs.Fl
open Ieee

/-- The magnitude of a rung, in units of 2^-149. -/
def M (r : Nat) : Nat := if r < 8388608 then r else (8388608 + r % 8388608) * 2 ^ (r / 8388608 - 1)

theorem M_lo {r : Nat} (h : r ≤ 16777216) : M r = r := by
  unfold M
  split
  · rfl
  · by_cases e : r = 16777216
    · subst e; decide
    · have h1 : r / 8388608 = 1 := by omega
      rw [h1]; simp; omega

theorem M_hi (e k : Nat) (h1 : 8388608 ≤ k) (h2 : k ≤ 16777216) : M (e * 8388608 + k) = k * 2 ^ e := by
  unfold M
  rw [if_neg (by omega)]
  by_cases hk : k = 16777216
  · subst hk
    have a : (e * 8388608 + 16777216) / 8388608 = e + 2 := by omega
    have b : (e * 8388608 + 16777216) % 8388608 = 0 := by omega
    rw [a, b]
    have c : e + 2 - 1 = e + 1 := by omega
    rw [c, Nat.pow_succ]; omega
  · have a : (e * 8388608 + k) / 8388608 = e + 1 := by omega
    have b : (e * 8388608 + k) % 8388608 = k - 8388608 := by omega
    rw [a, b]
    have c : e + 1 - 1 = e := by omega
    have d : 8388608 + (k - 8388608) = k := by omega
    rw [c, d]

theorem M_succ (r : Nat) : M (r + 1) = M r + 2 ^ (r / 8388608 - 1) := by
  by_cases h : r < 8388608
  · rw [M_lo (by omega), M_lo (by omega)]
    have : r / 8388608 - 1 = 0 := by omega
    rw [this]
  · obtain ⟨e, k, hk1, hk2, rfl⟩ : ∃ e k, 8388608 ≤ k ∧ k < 16777216 ∧ r = e * 8388608 + k :=
      ⟨r / 8388608 - 1, r - (r / 8388608 - 1) * 8388608, by omega, by omega, by omega⟩
    have a : e * 8388608 + k + 1 = e * 8388608 + (k + 1) := by omega
    have b : (e * 8388608 + k) / 8388608 - 1 = e := by omega
    rw [a, b, M_hi e (k + 1) (by omega) (by omega), M_hi e k (by omega) (by omega), Nat.add_mul]; simp

theorem M_lt_succ (r : Nat) : M r < M (r + 1) := by
  rw [M_succ]; have := Nat.two_pow_pos (r / 8388608 - 1); omega

theorem M_mono {a b : Nat} (h : a ≤ b) : M a ≤ M b := by
  induction b with
  | zero => have : a = 0 := by omega
            subst this; exact Nat.le_refl _
  | succ n ih =>
    by_cases e : a = n + 1
    · subst e; exact Nat.le_refl _
    · exact Nat.le_trans (ih (by omega)) (Nat.le_of_lt (M_lt_succ n))

theorem M_strict {a b : Nat} (h : a < b) : M a < M b := Nat.lt_of_lt_of_le (M_lt_succ a) (M_mono h)

theorem M_le_iff {a b : Nat} : M a ≤ M b ↔ a ≤ b :=
  ⟨fun h => by by_cases c : a ≤ b; exact c; have := M_strict (show b < a by omega); omega, M_mono⟩

theorem M_inj {a b : Nat} (h : M a = M b) : a = b := by
  have h1 := (M_le_iff (a := a) (b := b)).1 (by omega)
  have h2 := (M_le_iff (a := b) (b := a)).1 (by omega)
  omega

theorem M_zero : M 0 = 0 := by decide
theorem M_pos {r : Nat} (h : 0 < r) : 0 < M r := by have := M_strict h; omega

/-- Twice the border between the rungs r - 1 and r. -/
def Tr (r : Nat) : Nat := M (r - 1) + M r

theorem Tr_pos {r : Nat} (h : 1 ≤ r) : 0 < Tr r := by have := M_pos (r := r) (by omega); unfold Tr; omega

/-- P / Q lies at the border below rung r or above it (at the border itself: where r is even). -/
def Thr (r P Q : Nat) : Prop := Tr r * Q < 2 * P ∨ (Tr r * Q = 2 * P ∧ r % 2 = 0)

/-- The number n / 2^drop, to the nearest. -/
theorem cut_even (neg : Bool) (n drop : Nat) : Toward.even.cut neg n drop = n / 2 ^ drop + (if 2 ^ drop < 2 * (n % 2 ^ drop) ∨ (2 ^ drop = 2 * (n % 2 ^ drop) ∧ n / 2 ^ drop % 2 = 1) then 1 else 0) := by
  unfold Toward.cut
  simp only [Nat.shiftLeft_eq, Nat.one_mul]
  by_cases h : drop ≤ n.log2 + 2
  · rw [Nat.min_eq_left h]
    congr 1
    by_cases c : 2 ^ drop < 2 * (n % 2 ^ drop) ∨ (2 ^ drop = 2 * (n % 2 ^ drop) ∧ n / 2 ^ drop % 2 = 1)
    · rw [if_pos c]
      have : (decide (2 ^ drop < 2 * (n % 2 ^ drop)) || (2 ^ drop == 2 * (n % 2 ^ drop) && n / 2 ^ drop % 2 == 1)) = true := by
        simp only [Bool.or_eq_true, Bool.and_eq_true, decide_eq_true_eq, beq_iff_eq]; exact c
      rw [this]; rfl
    · rw [if_neg c]
      have : (decide (2 ^ drop < 2 * (n % 2 ^ drop)) || (2 ^ drop == 2 * (n % 2 ^ drop) && n / 2 ^ drop % 2 == 1)) = false := by
        rw [← Bool.not_eq_true]
        simp only [Bool.or_eq_true, Bool.and_eq_true, decide_eq_true_eq, beq_iff_eq]; exact c
      rw [this]; rfl
  · have hn : n < 2 ^ (n.log2 + 1) := Nat.lt_log2_self
    have h1 : 2 ^ (n.log2 + 2) = 2 * 2 ^ (n.log2 + 1) := by rw [Nat.pow_succ]; omega
    have h2 : 2 ^ (n.log2 + 2) ≤ 2 ^ drop := Nat.pow_le_pow_right (by omega) (by omega)
    rw [Nat.min_eq_right (by omega)]
    rw [Nat.div_eq_of_lt (by omega), Nat.mod_eq_of_lt (by omega), Nat.div_eq_of_lt (show n < 2 ^ drop by omega), Nat.mod_eq_of_lt (show n < 2 ^ drop by omega)]
    rw [if_neg (by omega)]
    have : (decide (2 ^ (n.log2 + 2) < 2 * n) || (2 ^ (n.log2 + 2) == 2 * n && 0 % 2 == 1)) = false := by
      rw [← Bool.not_eq_true]
      simp only [Bool.or_eq_true, Bool.and_eq_true, decide_eq_true_eq, beq_iff_eq]; omega
    rw [this]; rfl

/-- The thresholds of that rounding. -/
theorem cut_thr (neg : Bool) (n drop k : Nat) (hk : 1 ≤ k) : k ≤ Toward.even.cut neg n drop ↔ ((2 * k - 1) * 2 ^ drop < 2 * n ∨ ((2 * k - 1) * 2 ^ drop = 2 * n ∧ k % 2 = 0)) := by
  rw [cut_even]
  have g := Nat.two_pow_pos drop
  generalize 2 ^ drop = G at *
  have hn := Nat.div_add_mod n G
  have hs := Nat.mod_lt n g
  generalize hq : n / G = q at *
  generalize n % G = s at *
  have cmp : k ≤ q ∨ k = q + 1 ∨ q + 2 ≤ k := by omega
  rcases cmp with h | h | h
  · obtain ⟨j, rfl⟩ : ∃ j, q = k + j := ⟨q - k, by omega⟩
    have e1 : (2 * k - 1) * G = 2 * (G * k) - G := by
      rw [Nat.sub_mul, Nat.mul_assoc, Nat.mul_comm k G]; omega
    have e2 : G * (k + j) = G * k + G * j := Nat.mul_add ..
    have e3 : G ≤ G * k := Nat.le_mul_of_pos_right _ (by omega)
    constructor
    · intro _; left; omega
    · intro _; omega
  · subst h
    have e1 : (2 * (q + 1) - 1) * G = 2 * (G * q) + G := by
      have : 2 * (q + 1) - 1 = 2 * q + 1 := by omega
      rw [this, Nat.add_mul, Nat.mul_assoc, Nat.mul_comm q G]; omega
    rw [e1]
    split
    · rename_i c
      constructor
      · intro _; rcases c with c | c
        · left; omega
        · right; omega
      · intro _; omega
    · rename_i c
      constructor
      · intro c'; omega
      · intro c'
        exfalso; apply c
        rcases c' with c' | c'
        · left; omega
        · right; omega
  · obtain ⟨j, rfl⟩ : ∃ j, k = q + 2 + j := ⟨k - (q + 2), by omega⟩
    have e1 : (2 * (q + 2 + j) - 1) * G = 2 * (G * q) + 3 * G + 2 * (G * j) := by
      have : 2 * (q + 2 + j) - 1 = 2 * q + 3 + 2 * j := by omega
      rw [this, Nat.add_mul, Nat.add_mul, Nat.mul_assoc, Nat.mul_comm q G, Nat.mul_assoc, Nat.mul_comm j G]
    constructor
    · intro c; split at c <;> omega
    · intro c; omega

theorem pow_split (a b : Nat) (h : a ≤ b) : 2 ^ b = 2 ^ a * 2 ^ (b - a) := by rw [← Nat.pow_add]; congr 1; omega

/-- The rung that a number is rounded to, ahead of the cut at infinity. -/
def rawRung (neg : Bool) (mag : Nat) (place : Int) : Nat :=
  let last := max (place + mag.log2 - 23) (-149)
  (last + 149).toNat * 8388608 + Toward.even.cut neg (mag <<< (place - last).toNat) (last - place).toNat

theorem nearest_raw (neg : Bool) (mag : Nat) (place : Int) (h : mag ≠ 0) : single.nearest neg mag place = single.word neg (min (rawRung neg mag place) 2139095040) := by
  unfold Format.nearest
  rw [if_neg h]
  rfl

theorem raw_thr (neg : Bool) (mag : Nat) (place : Int) (hm : mag ≠ 0) (r : Nat) (hr : 1 ≤ r) :
    r ≤ rawRung neg mag place ↔ Thr r (mag * 2 ^ (place + 149).toNat) (2 ^ (-149 - place).toNat) := by
  unfold rawRung
  generalize hL : mag.log2 = L
  have hlo : 2 ^ L ≤ mag := by rw [← hL]; exact Nat.log2_self_le hm
  have hhi : mag < 2 ^ (L + 1) := by rw [← hL]; exact Nat.lt_log2_self
  generalize hlast : max (place + (L : Int) - 23) (-149) = last
  simp only [Nat.shiftLeft_eq]
  generalize he : (last + 149).toNat = e
  generalize hup : (place - last).toNat = up
  generalize hdr : (last - place).toNat = dr
  generalize ha : (place + 149).toNat = a
  generalize hd : (-149 - place).toNat = d
  have hex : e + d + up = dr + a := by omega
  -- the cut's thresholds, in units
  have key : ∀ k, 1 ≤ k → (k ≤ Toward.even.cut neg (mag * 2 ^ up) dr ↔ ((2 * k - 1) * 2 ^ e * 2 ^ d < 2 * (mag * 2 ^ a) ∨ ((2 * k - 1) * 2 ^ e * 2 ^ d = 2 * (mag * 2 ^ a) ∧ k % 2 = 0))) := by
    intro k hk
    rw [cut_thr _ _ _ _ hk]
    have p1 : (2 * k - 1) * 2 ^ dr * 2 ^ a = (2 * k - 1) * 2 ^ e * 2 ^ d * 2 ^ up := by
      rw [Nat.mul_assoc, Nat.mul_assoc, Nat.mul_assoc, ← Nat.pow_add, ← Nat.pow_add, ← Nat.pow_add]
      congr 2; omega
    have p2 : 2 * (mag * 2 ^ up) * 2 ^ a = 2 * (mag * 2 ^ a) * 2 ^ up := by
      rw [Nat.mul_assoc, Nat.mul_assoc, Nat.mul_assoc, Nat.mul_assoc, Nat.mul_comm (2 ^ up) (2 ^ a)]
    have ga := Nat.two_pow_pos a
    have gu := Nat.two_pow_pos up
    generalize 2 ^ a = A at *
    generalize 2 ^ up = U at *
    generalize (2 * k - 1) * 2 ^ dr = x at *
    generalize (2 * k - 1) * 2 ^ e * 2 ^ d = y at *
    generalize 2 * (mag * U) = z at *
    generalize 2 * (mag * A) = t at *
    have lt : x < z ↔ y < t := (Nat.mul_lt_mul_right ga).symm.trans (by rw [p1, p2]; exact Nat.mul_lt_mul_right gu)
    have eq : x = z ↔ y = t := by
      constructor
      · intro h; subst h; exact Nat.eq_of_mul_eq_mul_right gu (by omega)
      · intro h; subst h; exact Nat.eq_of_mul_eq_mul_right ga (by omega)
    rw [lt, eq]
  have gd := Nat.two_pow_pos d
  have ge := Nat.two_pow_pos e
  -- the number against the binade's ends
  have up24 : mag * 2 ^ a < 16777216 * 2 ^ e * 2 ^ d := by
    have h1 : 16777216 * 2 ^ e * 2 ^ d = 2 ^ (24 + e + d) := by rw [Nat.pow_add, Nat.pow_add]
    rw [h1]
    calc mag * 2 ^ a < 2 ^ (L + 1) * 2 ^ a := (Nat.mul_lt_mul_right (Nat.two_pow_pos a)).2 hhi
      _ = 2 ^ (L + 1 + a) := (Nat.pow_add ..).symm
      _ ≤ 2 ^ (24 + e + d) := Nat.pow_le_pow_right (by omega) (by omega)
  have c24 : Toward.even.cut neg (mag * 2 ^ up) dr ≤ 16777216 := by
    by_cases c : Toward.even.cut neg (mag * 2 ^ up) dr ≤ 16777216
    · exact c
    · exfalso
      have := (key 16777217 (by omega)).1 (by omega)
      have h2 : (2 * 16777217 - 1) * 2 ^ e * 2 ^ d = 2 * (16777216 * 2 ^ e * 2 ^ d) + 2 ^ e * 2 ^ d := by
        rw [Nat.mul_assoc, Nat.mul_assoc]; omega
      rw [h2] at this
      omega
  by_cases hz : e = 0
  · -- the lowest binade and the subnormal numbers
    subst hz
    simp only [Nat.zero_mul, Nat.zero_add, Nat.pow_zero, Nat.mul_one] at *
    by_cases h : r ≤ 16777216
    · rw [key r hr]
      unfold Thr Tr
      rw [M_lo (by omega), M_lo h]
      have : r - 1 + r = 2 * r - 1 := by omega
      rw [this]
    · constructor
      · intro c; omega
      · intro c
        exfalso
        have t : 16777216 + 16777216 ≤ Tr r := by
          unfold Tr
          have a1 : M 16777216 ≤ M (r - 1) := M_mono (by omega)
          have a2 : M 16777216 ≤ M r := M_mono (by omega)
          rw [M_lo (by omega)] at a1 a2
          omega
        have t2 := Nat.mul_le_mul_right (2 ^ d) t
        rcases c with c | c <;> omega
  · have lo23 : 8388608 * 2 ^ e * 2 ^ d ≤ mag * 2 ^ a := by
      have h1 : 8388608 * 2 ^ e * 2 ^ d = 2 ^ (23 + e + d) := by rw [Nat.pow_add, Nat.pow_add]
      rw [h1]
      calc 2 ^ (23 + e + d) ≤ 2 ^ (L + a) := Nat.pow_le_pow_right (by omega) (by omega)
        _ = 2 ^ L * 2 ^ a := Nat.pow_add ..
        _ ≤ mag * 2 ^ a := Nat.mul_le_mul_right _ hlo
    have c23 : 8388608 ≤ Toward.even.cut neg (mag * 2 ^ up) dr := by
      rw [key 8388608 (by omega)]
      left
      have h2 : (2 * 8388608 - 1) * 2 ^ e * 2 ^ d + 2 ^ e * 2 ^ d = 2 * (8388608 * 2 ^ e * 2 ^ d) := by
        rw [Nat.mul_assoc, Nat.mul_assoc]; omega
      have := Nat.mul_pos ge gd
      omega
    by_cases h1 : r ≤ e * 8388608 + 8388608
    · constructor
      · intro _
        left
        have : Tr r < 2 * (8388608 * 2 ^ e) := by
          unfold Tr
          have a1 : M r ≤ M (e * 8388608 + 8388608) := M_mono h1
          rw [M_hi e _ (by omega) (by omega)] at a1
          have a2 := M_strict (show r - 1 < r by omega)
          omega
        have := (Nat.mul_lt_mul_right gd).2 this
        have e1 : 2 * (8388608 * 2 ^ e) * 2 ^ d = 2 * (8388608 * 2 ^ e * 2 ^ d) := by rw [Nat.mul_assoc]
        omega
      · intro _; omega
    · by_cases h2 : r ≤ e * 8388608 + 16777216
      · obtain ⟨k, rfl⟩ : ∃ k, r = e * 8388608 + k := ⟨r - e * 8388608, by omega⟩
        have hk1 : 8388608 < k := by omega
        have hk2 : k ≤ 16777216 := by omega
        rw [Nat.add_le_add_iff_left, key k (by omega)]
        unfold Thr Tr
        have s1 : e * 8388608 + k - 1 = e * 8388608 + (k - 1) := by omega
        rw [s1, M_hi e (k - 1) (by omega) (by omega), M_hi e k (by omega) hk2, ← Nat.add_mul]
        have s2 : k - 1 + k = 2 * k - 1 := by omega
        have s3 : (e * 8388608 + k) % 2 = k % 2 := by omega
        rw [s2, s3]
      · constructor
        · intro c; omega
        · intro c
          exfalso
          have : 2 * (16777216 * 2 ^ e) ≤ Tr r := by
            unfold Tr
            have a1 : M (e * 8388608 + 16777216) ≤ M (r - 1) := M_mono (by omega)
            have a2 : M (e * 8388608 + 16777216) ≤ M r := M_mono (by omega)
            rw [M_hi e _ (by omega) (by omega)] at a1 a2
            omega
          have t2 := Nat.mul_le_mul_right (2 ^ d) this
          have e1 : 2 * (16777216 * 2 ^ e) * 2 ^ d = 2 * (16777216 * 2 ^ e * 2 ^ d) := by rw [Nat.mul_assoc]
          rcases c with c | c <;> omega

/-- R is the rung that P / Q (in units of 2^-149) is rounded to. -/
def Rnd (R P Q : Nat) : Prop := R ≤ 2139095040 ∧ ∀ r, 1 ≤ r → r ≤ 2139095040 → (r ≤ R ↔ Thr r P Q)

theorem not_thr_zero {r Q : Nat} (hr : 1 ≤ r) (hQ : 0 < Q) : ¬ Thr r 0 Q := by
  have := Nat.mul_pos (Tr_pos hr) hQ
  unfold Thr; omega

theorem nearest_rnd (neg : Bool) (mag : Nat) (place : Int) : ∃ R, single.nearest neg mag place = single.word neg R ∧ Rnd R (mag * 2 ^ (place + 149).toNat) (2 ^ (-149 - place).toNat) := by
  by_cases hm : mag = 0
  · subst hm
    refine ⟨0, by simp [Format.nearest], by omega, fun r h1 h2 => ?_⟩
    rw [Nat.zero_mul]
    constructor
    · intro h; omega
    · intro h; exact absurd h (not_thr_zero h1 (Nat.two_pow_pos _))
  · refine ⟨_, nearest_raw neg mag place hm, Nat.min_le_right _ _, fun r h1 h2 => ?_⟩
    rw [← raw_thr neg mag place hm r h1]
    omega

def rung (w : Nat) : Nat := w % 2147483648
def sg (w : Nat) : Bool := w / 2147483648 % 2 == 1
/-- A finite number. -/
def Fnt (w : Nat) : Prop := rung w < 2139095040
instance (w : Nat) : Decidable (Fnt w) := inferInstanceAs (Decidable (_ < _))
/-- A number in units of 2^-149. -/
def V (w : Nat) : Int := if sg w then -(M (rung w) : Int) else (M (rung w) : Int)

theorem word_rung (s : Bool) {R : Nat} (h : R < 2147483648) : rung (single.word s R) = R := by
  have e : single.word s R = if s then 2147483648 + R else R := rfl
  rw [e]; unfold rung; split <;> omega

theorem word_sg (s : Bool) {R : Nat} (h : R < 2147483648) : sg (single.word s R) = s := by
  have e : single.word s R = if s then 2147483648 + R else R := rfl
  rw [e]; unfold sg
  cases s
  · simp; omega
  · simp; omega

theorem read_fin {w : Nat} (h : Fnt w) : ∃ mag place, single.read w = .number (sg w) mag place ∧ -149 ≤ place ∧ mag * 2 ^ (place + 149).toNat = M (rung w) := by
  have e1 : single.signWeight = 2147483648 := by decide
  have e2 : single.binade = 8388608 := by decide
  have e3 : single.infRung = 2139095040 := by decide
  have e4 : single.leastPlace = -149 := by decide
  unfold Fnt at h
  have hr : w % 2147483648 = rung w := rfl
  have hs : (w / 2147483648 % 2 == 1) = sg w := rfl
  unfold Format.read
  simp only [e1, e2, e3, e4, hr, hs]
  by_cases c : rung w < 8388608
  · rw [if_pos c]
    exact ⟨_, _, rfl, by omega, by rw [M_lo (by omega)]; simp⟩
  · rw [if_neg c, if_pos h]
    refine ⟨_, _, rfl, by omega, ?_⟩
    unfold M
    rw [if_neg c]
    congr 2
    omega

theorem signed_eq (s : Bool) (m k : Nat) : signed s m k = if s then -((m * 2 ^ k : Nat) : Int) else ((m * 2 ^ k : Nat) : Int) := by
  unfold signed; simp only [Nat.shiftLeft_eq]

theorem signed_base {w mag : Nat} {place base : Int} (hb : -149 ≤ base) (hp : base ≤ place) (he : mag * 2 ^ (place + 149).toNat = M (rung w)) :
    signed (sg w) mag (place - base).toNat * ((2 ^ (base + 149).toNat : Nat) : Int) = V w := by
  rw [signed_eq]
  unfold V
  have e : mag * 2 ^ (place - base).toNat * 2 ^ (base + 149).toNat = M (rung w) := by
    rw [← he, Nat.mul_assoc, ← Nat.pow_add]; congr 2; omega
  cases sg w
  · simp only [Bool.false_eq_true, if_false]
    rw [← e]; simp
  · simp only [if_true]
    rw [← e]; simp [Int.neg_mul]

theorem order_fin {x y : Nat} (hx : Fnt x) (hy : Fnt y) : single.order x y = some (compare (V x) (V y)) := by
  obtain ⟨m, i, h1, h2, h3⟩ := read_fin hx
  obtain ⟨n, j, k1, k2, k3⟩ := read_fin hy
  unfold Format.order
  rw [h1, k1]
  simp only [Datum.order]
  have a := signed_base (w := x) (base := min i j) (by omega) (by omega) h3
  have b := signed_base (w := y) (base := min i j) (by omega) (by omega) k3
  have g : (0 : Int) < ((2 ^ (min i j + 149).toNat : Nat) : Int) := by have := Nat.two_pow_pos (min i j + 149).toNat; omega
  generalize ((2 ^ (min i j + 149).toNat : Nat) : Int) = G at *
  congr 1
  rw [← a, ← b]
  generalize signed (sg x) m (i - min i j).toNat = p
  generalize signed (sg y) n (j - min i j).toNat = q
  rcases Int.lt_trichotomy p q with c | c | c
  · rw [Int.compare_eq_lt.2 c, Int.compare_eq_lt.2 (Int.mul_lt_mul_of_pos_right c g)]
  · subst c; simp
  · rw [Int.compare_eq_gt.2 c, Int.compare_eq_gt.2 (Int.mul_lt_mul_of_pos_right c g)]

/-- What a word is that stands for a rounded number. -/
structure Is (w : Nat) (s : Bool) (P Q : Nat) : Prop where
  lt : w < 4294967296
  sg : Fl.sg w = s
  rnd : Rnd (rung w) P Q

theorem word_lt32 (s : Bool) {R : Nat} (h : R < 2147483648) : single.word s R < 4294967296 := by
  have e : single.word s R = if s then 2147483648 + R else R := rfl
  rw [e]; split <;> omega

theorem is_word (s : Bool) {R P Q : Nat} (h : Rnd R P Q) : Is (single.word s R) s P Q :=
  have hR : R < 2147483648 := by have := h.1; omega
  ⟨word_lt32 s hR, word_sg s hR, by rw [word_rung s hR]; exact h⟩

theorem rnd_one {R P : Nat} {p : Int} (h : Rnd R P (2 ^ (-149 - p).toNat)) (hp : -149 ≤ p) : Rnd R P 1 := by
  have : (-149 - p).toNat = 0 := by omega
  rw [this] at h; exact h

def fadd (x y : Nat) : Nat := (single.add x y).getD 0
def fsub (x y : Nat) : Nat := (single.sub x y).getD 0
def fmul (x y : Nat) : Nat := (single.mul x y).getD 0
def fdiv (x y : Nat) : Nat := (single.div x y).getD 0

theorem natAbs_scale (s : Int) (g : Nat) : s.natAbs * g = (s * (g : Int)).natAbs := by
  rw [Int.natAbs_mul]; simp

theorem sum_core {s t : Bool} {m n : Nat} {i j : Int} {X Y : Int} (hi : -149 ≤ i) (hj : -149 ≤ j)
    (a : signed s m (i - min i j).toNat * ((2 ^ (min i j + 149).toNat : Nat) : Int) = X) (b : signed t n (j - min i j).toNat * ((2 ^ (min i j + 149).toNat : Nat) : Int) = Y) :
    ∃ r, (Datum.sum (.number s m i) (.number t n j)).map single.write = some r ∧ Is r (if X + Y = 0 then s && t else decide (X + Y < 0)) (X + Y).natAbs 1 := by
  have g : (0 : Int) < ((2 ^ (min i j + 149).toNat : Nat) : Int) := by have := Nat.two_pow_pos (min i j + 149).toNat; omega
  simp only [Datum.sum, Option.map, Format.write]
  generalize hp : signed s m (i - min i j).toNat = p at *
  generalize hq : signed t n (j - min i j).toNat = q at *
  refine ⟨_, rfl, ?_⟩
  obtain ⟨R, hw, hR⟩ := nearest_rnd (if p + q = 0 then s && t else decide (p + q < 0)) (p + q).natAbs (min i j)
  rw [hw]
  have hs : (p + q) * ((2 ^ (min i j + 149).toNat : Nat) : Int) = X + Y := by rw [Int.add_mul, a, b]
  rw [natAbs_scale, hs] at hR
  have hR := rnd_one hR (by omega)
  have z : (p + q = 0) ↔ (X + Y = 0) := by
    rw [← hs]
    constructor
    · intro h; rw [h]; simp
    · intro h; rcases Int.mul_eq_zero.1 h with h | h
      · exact h
      · omega
  have l : (p + q < 0) ↔ (X + Y < 0) := by
    rw [← hs]
    constructor
    · intro h; exact Int.mul_neg_of_neg_of_pos h g
    · intro h
      rcases Int.lt_trichotomy (p + q) 0 with c | c | c
      · exact c
      · rw [c] at h; simp at h
      · have := Int.mul_pos c g; omega
  have e : (if p + q = 0 then s && t else decide (p + q < 0)) = (if X + Y = 0 then s && t else decide (X + Y < 0)) := by
    simp only [z, l]
  rw [e]
  exact is_word _ hR

theorem add_fin {x y : Nat} (hx : Fnt x) (hy : Fnt y) :
    single.add x y = some (fadd x y) ∧ Is (fadd x y) (if V x + V y = 0 then sg x && sg y else decide (V x + V y < 0)) (V x + V y).natAbs 1 := by
  obtain ⟨m, i, h1, h2, h3⟩ := read_fin hx
  obtain ⟨n, j, k1, k2, k3⟩ := read_fin hy
  obtain ⟨r, hr, hi⟩ := sum_core h2 k2 (signed_base (w := x) (base := min i j) (by omega) (by omega) h3) (signed_base (w := y) (base := min i j) (by omega) (by omega) k3)
  have e : single.add x y = some r := by unfold Format.add; rw [h1, k1]; exact hr
  have e2 : fadd x y = r := by unfold fadd; rw [e]; rfl
  rw [e2]; exact ⟨e, hi⟩

theorem signed_not (s : Bool) (m k : Nat) : signed (!s) m k = - signed s m k := by
  rw [signed_eq, signed_eq]; cases s <;> simp

theorem sub_fin {x y : Nat} (hx : Fnt x) (hy : Fnt y) :
    single.sub x y = some (fsub x y) ∧ Is (fsub x y) (if V x - V y = 0 then sg x && !sg y else decide (V x - V y < 0)) (V x - V y).natAbs 1 := by
  obtain ⟨m, i, h1, h2, h3⟩ := read_fin hx
  obtain ⟨n, j, k1, k2, k3⟩ := read_fin hy
  have b : signed (!sg y) n (j - min i j).toNat * ((2 ^ (min i j + 149).toNat : Nat) : Int) = - V y := by
    rw [signed_not, Int.neg_mul, signed_base (w := y) (base := min i j) (by omega) (by omega) k3]
  obtain ⟨r, hr, hi⟩ := sum_core h2 k2 (signed_base (w := x) (base := min i j) (by omega) (by omega) h3) b
  have e : single.sub x y = some r := by unfold Format.sub; rw [h1, k1]; exact hr
  have e2 : fsub x y = r := by unfold fsub; rw [e]; rfl
  rw [e2]; refine ⟨e, ?_⟩
  rw [← Int.sub_eq_add_neg] at hi; exact hi

/-- The same number at another scale. -/
theorem rnd_scale {R P Q : Nat} (g : Nat) (hg : 0 < g) : Rnd R (P * g) (Q * g) ↔ Rnd R P Q := by
  unfold Rnd
  have t : ∀ r, Thr r (P * g) (Q * g) ↔ Thr r P Q := by
    intro r
    unfold Thr
    rw [← Nat.mul_assoc, ← Nat.mul_assoc, Nat.mul_lt_mul_right hg]
    constructor
    · rintro (h | ⟨h, k⟩)
      · exact .inl h
      · exact .inr ⟨Nat.eq_of_mul_eq_mul_right hg h, k⟩
    · rintro (h | ⟨h, k⟩)
      · exact .inl h
      · exact .inr ⟨by rw [h], k⟩
  simp only [t]

theorem mul_fin {x y : Nat} (hx : Fnt x) (hy : Fnt y) :
    single.mul x y = some (fmul x y) ∧ Is (fmul x y) (sg x ^^ sg y) (M (rung x) * M (rung y)) (2 ^ 149) := by
  obtain ⟨m, i, h1, h2, h3⟩ := read_fin hx
  obtain ⟨n, j, k1, k2, k3⟩ := read_fin hy
  have e0 : single.mul x y = some (single.nearest (sg x ^^ sg y) (m * n) (i + j)) := by
    unfold Format.mul; rw [h1, k1]; rfl
  have e2 : fmul x y = single.nearest (sg x ^^ sg y) (m * n) (i + j) := by unfold fmul; rw [e0]; rfl
  rw [e2]; refine ⟨e0, ?_⟩
  obtain ⟨R, hw, hR⟩ := nearest_rnd (sg x ^^ sg y) (m * n) (i + j)
  rw [hw]
  refine is_word _ ?_
  rw [← h3, ← k3]
  -- both at one scale
  rw [← rnd_scale (2 ^ (-149 - (i + j)).toNat) (Nat.two_pow_pos _)]
  rw [← rnd_scale (2 ^ 149) (Nat.two_pow_pos _)] at hR
  have p : m * n * 2 ^ (i + j + 149).toNat * 2 ^ 149 = m * 2 ^ (i + 149).toNat * (n * 2 ^ (j + 149).toNat) * 2 ^ (-149 - (i + j)).toNat := by
    have : m * 2 ^ (i + 149).toNat * (n * 2 ^ (j + 149).toNat) = m * n * (2 ^ (i + 149).toNat * 2 ^ (j + 149).toNat) := by
      simp only [Nat.mul_assoc, Nat.mul_left_comm]
    rw [this, ← Nat.pow_add, Nat.mul_assoc (m * n), Nat.mul_assoc (m * n), ← Nat.pow_add, ← Nat.pow_add]
    congr 2; omega
  have q : 2 ^ (-149 - (i + j)).toNat * 2 ^ 149 = 2 ^ 149 * 2 ^ (-149 - (i + j)).toNat := Nat.mul_comm _ _
  rw [p, q] at hR
  exact hR

theorem Tr_form {r : Nat} (h : 1 ≤ r) : ∃ k e, 1 ≤ k ∧ k ≤ 16777216 ∧ Tr r = (2 * k - 1) * 2 ^ e := by
  by_cases c : r ≤ 16777216
  · refine ⟨r, 0, h, c, ?_⟩
    unfold Tr
    rw [M_lo (by omega), M_lo c]
    simp; omega
  · obtain ⟨e, k, hk1, hk2, hr⟩ : ∃ e k, 8388608 ≤ k ∧ k < 16777216 ∧ r - 1 = e * 8388608 + k :=
      ⟨(r - 1) / 8388608 - 1, (r - 1) - ((r - 1) / 8388608 - 1) * 8388608, by omega, by omega, by omega⟩
    refine ⟨k + 1, e, by omega, by omega, ?_⟩
    have e2 : r = e * 8388608 + (k + 1) := by omega
    unfold Tr
    rw [hr, M_hi e k (by omega) (by omega), e2, M_hi e (k + 1) (by omega) (by omega), ← Nat.add_mul]
    congr 1
    omega

theorem sticky (U q s n : Nat) (hU : U % 2 = 0) (hs : s < n) :
    (U < 2 * q + (if s = 0 then 0 else 1) ↔ U * n < 2 * (q * n + s)) ∧ (U = 2 * q + (if s = 0 then 0 else 1) ↔ U * n = 2 * (q * n + s)) := by
  obtain ⟨u, rfl⟩ : ∃ u, U = 2 * u := ⟨U / 2, by omega⟩
  have e : 2 * u * n = 2 * (u * n) := Nat.mul_assoc _ _ _
  rw [e]
  rcases Nat.lt_trichotomy u q with c | c | c
  · have : u * n + n ≤ q * n := by rw [← Nat.succ_mul]; exact Nat.mul_le_mul_right n c
    split <;> constructor <;> constructor <;> intro h <;> omega
  · subst c
    split <;> constructor <;> constructor <;> intro h <;> omega
  · have : q * n + n ≤ u * n := by rw [← Nat.succ_mul]; exact Nat.mul_le_mul_right n c
    split <;> constructor <;> constructor <;> intro h <;> omega

theorem mul_lt_iff {a b g : Nat} (hg : 0 < g) : a * g < b * g ↔ a < b := Nat.mul_lt_mul_right hg
theorem mul_eq_iff {a b g : Nat} (hg : 0 < g) : a * g = b * g ↔ a = b := ⟨fun h => Nat.eq_of_mul_eq_mul_right hg h, fun h => by rw [h]⟩

/-- Two numbers that stand the same way to each border round to one rung. -/
theorem rnd_congr {R P Q P' Q' : Nat} (h : ∀ r, 1 ≤ r → (Thr r P Q ↔ Thr r P' Q')) (hr : Rnd R P Q) : Rnd R P' Q' :=
  ⟨hr.1, fun r h1 h2 => (hr.2 r h1 h2).trans (h r h1)⟩

theorem quo_thr (m n : Nat) (i j : Int) (hi : -149 ≤ i) (hj : -149 ≤ j) (hm : m ≠ 0) (hn : n ≠ 0) (more : Nat) (hmore : 25 + n.log2 ≤ m.log2 + more) (r : Nat) (hr : 1 ≤ r) :
    Thr r ((2 * (m * 2 ^ more / n) + (if m * 2 ^ more % n = 0 then 0 else 1)) * 2 ^ (i - j - more - 1 + 149).toNat) (2 ^ (-149 - (i - j - more - 1)).toNat) ↔
      Thr r (m * 2 ^ (i + 149).toNat * 2 ^ 149) (n * 2 ^ (j + 149).toNat) := by
  obtain ⟨k, e, hk1, hk2, hT⟩ := Tr_form hr
  have hq : 16777216 ≤ m * 2 ^ more / n := by
    rw [Nat.le_div_iff_mul_le (by omega)]
    have h1 : n < 2 ^ (n.log2 + 1) := Nat.lt_log2_self
    have h2 : 2 ^ m.log2 ≤ m := Nat.log2_self_le hm
    calc 16777216 * n ≤ 16777216 * 2 ^ (n.log2 + 1) := Nat.mul_le_mul_left _ (by omega)
      _ = 2 ^ 24 * 2 ^ (n.log2 + 1) := by rfl
      _ = 2 ^ (24 + (n.log2 + 1)) := (Nat.pow_add ..).symm
      _ ≤ 2 ^ (m.log2 + more) := Nat.pow_le_pow_right (by omega) (by omega)
      _ = 2 ^ m.log2 * 2 ^ more := Nat.pow_add ..
      _ ≤ m * 2 ^ more := Nat.mul_le_mul_right _ h2
  have hn0 : 0 < n := by omega
  have hD := Nat.div_add_mod (m * 2 ^ more) n
  have hs := Nat.mod_lt (m * 2 ^ more) hn0
  have hDm : m * 2 ^ more = m * 2 ^ more := rfl
  generalize hDD : m * 2 ^ more = D at hD hs hq hDm ⊢
  generalize D / n = q at *
  generalize D % n = s at *
  have hD2 : D = q * n + s := by rw [Nat.mul_comm] at hD; omega
  generalize hp0 : i - j - (more : Int) = p0
  unfold Thr
  generalize Tr r = T at *
  generalize ha1 : (p0 + 149).toNat = a1
  generalize hd1 : (-149 - p0).toNat = d1
  -- the true test, at the dividend's scale
  have tl : T * (n * 2 ^ (j + 149).toNat) * 2 ^ (a1 + more) = T * n * 2 ^ a1 * 2 ^ ((j + 149).toNat + more) := by
    rw [Nat.pow_add, Nat.pow_add]; simp only [Nat.mul_assoc, Nat.mul_left_comm, Nat.mul_comm]
  have true1 : (T * (n * 2 ^ (j + 149).toNat) < 2 * (m * 2 ^ (i + 149).toNat * 2 ^ 149) ↔ T * n * 2 ^ d1 < 2 * D * 2 ^ a1) ∧
      (T * (n * 2 ^ (j + 149).toNat) = 2 * (m * 2 ^ (i + 149).toNat * 2 ^ 149) ↔ T * n * 2 ^ d1 = 2 * D * 2 ^ a1) := by
    have g1 := Nat.two_pow_pos (more + d1)
    have g2 := Nat.two_pow_pos ((j + 149).toNat + more)
    have l : T * (n * 2 ^ (j + 149).toNat) * 2 ^ (more + d1) = T * n * 2 ^ d1 * 2 ^ ((j + 149).toNat + more) := by
      rw [← Nat.mul_assoc, Nat.mul_assoc (T * n), Nat.mul_assoc (T * n), ← Nat.pow_add, ← Nat.pow_add]
      congr 2; omega
    have rr : 2 * (m * 2 ^ (i + 149).toNat * 2 ^ 149) * 2 ^ (more + d1) = 2 * D * 2 ^ a1 * 2 ^ ((j + 149).toNat + more) := by
      rw [← hDD]
      have x1 : 2 * (m * 2 ^ (i + 149).toNat * 2 ^ 149) * 2 ^ (more + d1) = 2 * m * (2 ^ (i + 149).toNat * 2 ^ 149 * 2 ^ (more + d1)) := by simp only [Nat.mul_assoc]
      have x2 : 2 * (m * 2 ^ more) * 2 ^ a1 * 2 ^ ((j + 149).toNat + more) = 2 * m * (2 ^ more * 2 ^ a1 * 2 ^ ((j + 149).toNat + more)) := by simp only [Nat.mul_assoc]
      rw [x1, x2, ← Nat.pow_add, ← Nat.pow_add, ← Nat.pow_add, ← Nat.pow_add]
      congr 2; omega
    rw [← mul_lt_iff g1, l, rr, mul_lt_iff g2, ← mul_eq_iff g1, l, rr, mul_eq_iff g2]
    exact ⟨Iff.rfl, Iff.rfl⟩
  rw [true1.1, true1.2]
  clear true1 tl
  by_cases hp : p0 ≤ -150
  · -- every border lies on the quotient's grid
    have a1z : a1 = 0 := by omega
    have az : (p0 - 1 + 149).toNat = 0 := by omega
    have dz : (-149 - (p0 - 1)).toNat = d1 + 1 := by omega
    obtain ⟨d2, rfl⟩ : ∃ d2, d1 = d2 + 1 := ⟨d1 - 1, by omega⟩
    rw [a1z, az, dz, Nat.pow_zero, Nat.mul_one, Nat.mul_one]
    have ev : T * 2 ^ (d2 + 1) % 2 = 0 := by rw [Nat.pow_succ, ← Nat.mul_assoc]; omega
    have st := sticky (T * 2 ^ (d2 + 1)) q s n ev hs
    have c1 : T * n * 2 ^ (d2 + 1) = T * 2 ^ (d2 + 1) * n := by simp only [Nat.mul_assoc, Nat.mul_comm n]
    have c2 : T * 2 ^ (d2 + 1 + 1) = 2 * (T * 2 ^ (d2 + 1)) := by rw [Nat.pow_succ _ (d2 + 1), ← Nat.mul_assoc]; omega
    rw [c1, c2, hD2, ← st.1, ← st.2]
    constructor
    · rintro (h | ⟨h, h'⟩)
      · exact .inl (by omega)
      · exact .inr ⟨by omega, h'⟩
    · rintro (h | ⟨h, h'⟩)
      · exact .inl (by omega)
      · exact .inr ⟨by omega, h'⟩
  · have d1z : d1 = 0 := by omega
    have half : ∀ x, T * 2 ^ (-149 - (p0 - 1)).toNat < 2 * (x * 2 ^ (p0 - 1 + 149).toNat) ↔ T < x * 2 ^ a1 := by
      intro x
      by_cases h : p0 = -149
      · have q1 : (-149 - (p0 - 1)).toNat = 1 := by omega
        have q2 : (p0 - 1 + 149).toNat = 0 := by omega
        have q3 : a1 = 0 := by omega
        rw [q1, q2, q3]; simp; omega
      · have q1 : (-149 - (p0 - 1)).toNat = 0 := by omega
        obtain ⟨a2, rfl⟩ : ∃ a2, a1 = a2 + 1 := ⟨a1 - 1, by omega⟩
        have q2 : (p0 - 1 + 149).toNat = a2 := by omega
        rw [q1, q2, Nat.pow_succ, ← Nat.mul_assoc x]; simp; omega
    have halfe : ∀ x, T * 2 ^ (-149 - (p0 - 1)).toNat = 2 * (x * 2 ^ (p0 - 1 + 149).toNat) ↔ T = x * 2 ^ a1 := by
      intro x
      by_cases h : p0 = -149
      · have q1 : (-149 - (p0 - 1)).toNat = 1 := by omega
        have q2 : (p0 - 1 + 149).toNat = 0 := by omega
        have q3 : a1 = 0 := by omega
        rw [q1, q2, q3]; simp; omega
      · have q1 : (-149 - (p0 - 1)).toNat = 0 := by omega
        obtain ⟨a2, rfl⟩ : ∃ a2, a1 = a2 + 1 := ⟨a1 - 1, by omega⟩
        have q2 : (p0 - 1 + 149).toNat = a2 := by omega
        rw [q1, q2, Nat.pow_succ, ← Nat.mul_assoc x]; simp; omega
    rw [half, halfe, d1z, Nat.pow_zero, Nat.mul_one]
    have ga := Nat.two_pow_pos a1
    by_cases he : a1 + 1 ≤ e
    · obtain ⟨f, rfl⟩ : ∃ f, e = a1 + 1 + f := ⟨e - (a1 + 1), by omega⟩
      have hU : T = (2 * k - 1) * 2 ^ f * 2 * 2 ^ a1 := by
        rw [hT, Nat.pow_add, Nat.pow_succ]; simp only [Nat.mul_assoc, Nat.mul_left_comm, Nat.mul_comm]
      generalize (2 * k - 1) * 2 ^ f = u at hU
      subst hU
      have st := sticky (u * 2) q s n (by omega) hs
      have c1 : u * 2 * 2 ^ a1 * n = u * 2 * n * 2 ^ a1 := by simp only [Nat.mul_assoc, Nat.mul_comm n]
      rw [c1, mul_lt_iff ga, mul_eq_iff ga, mul_lt_iff ga, mul_eq_iff ga, hD2, st.1, st.2]
    · have hlt : T < 2 * q * 2 ^ a1 := by
        rw [hT]
        have : 2 ^ e ≤ 2 ^ a1 := Nat.pow_le_pow_right (by omega) (by omega)
        calc (2 * k - 1) * 2 ^ e ≤ (2 * k - 1) * 2 ^ a1 := Nat.mul_le_mul_left _ this
          _ < 2 * q * 2 ^ a1 := (Nat.mul_lt_mul_right ga).2 (by omega)
      have l1 : T < (2 * q + (if s = 0 then 0 else 1)) * 2 ^ a1 := by
        have := Nat.mul_le_mul_right (2 ^ a1) (show 2 * q ≤ 2 * q + (if s = 0 then 0 else 1) by omega)
        omega
      have l2 : T * n < 2 * D * 2 ^ a1 := by
        have h1 := (Nat.mul_lt_mul_right hn0).2 hlt
        have h2 : 2 * q * 2 ^ a1 * n = 2 * (q * n) * 2 ^ a1 := by simp only [Nat.mul_assoc, Nat.mul_comm n]
        have h3 : 2 * (q * n) * 2 ^ a1 ≤ 2 * D * 2 ^ a1 := Nat.mul_le_mul_right _ (by omega)
        omega
      exact ⟨fun _ => .inl l2, fun _ => .inl l1⟩

theorem div_fin {x y : Nat} (hx : Fnt x) (hy : Fnt y) (h0 : rung y ≠ 0) :
    single.div x y = some (fdiv x y) ∧ Is (fdiv x y) (sg x ^^ sg y) (M (rung x) * 2 ^ 149) (M (rung y)) := by
  obtain ⟨m, i, h1, h2, h3⟩ := read_fin hx
  obtain ⟨n, j, k1, k2, k3⟩ := read_fin hy
  have hn : n ≠ 0 := by
    intro h; subst h
    have := M_pos (r := rung y) (by omega)
    omega
  have ef : single.fractionBits + 2 = 25 := rfl
  have e0 : single.div x y = some (single.nearest (sg x ^^ sg y) (2 * (m <<< (25 + n.log2 - m.log2) / n) + (m <<< (25 + n.log2 - m.log2) % n != 0).toNat) (i - j - (25 + n.log2 - m.log2 : Nat) - 1)) := by
    unfold Format.div; rw [h1, k1, ef]
    simp only [Datum.quotient, if_neg hn, Option.map, Format.write]
  have e2 : fdiv x y = single.nearest (sg x ^^ sg y) (2 * (m <<< (25 + n.log2 - m.log2) / n) + (m <<< (25 + n.log2 - m.log2) % n != 0).toNat) (i - j - (25 + n.log2 - m.log2 : Nat) - 1) := by unfold fdiv; rw [e0]; rfl
  rw [e2]; refine ⟨e0, ?_⟩
  obtain ⟨R, hw, hR⟩ := nearest_rnd (sg x ^^ sg y) (2 * (m <<< (25 + n.log2 - m.log2) / n) + (m <<< (25 + n.log2 - m.log2) % n != 0).toNat) (i - j - (25 + n.log2 - m.log2 : Nat) - 1)
  rw [hw]
  refine is_word _ ?_
  rw [← h3, ← k3]
  simp only [Nat.shiftLeft_eq] at hR
  by_cases hm : m = 0
  · subst hm
    simp only [Nat.zero_mul, Nat.zero_div, Nat.zero_mod, Nat.mul_zero, Nat.zero_add] at hR ⊢
    refine rnd_congr (fun r hr => ?_) hR
    have g : 0 < n * 2 ^ (j + 149).toNat := Nat.mul_pos (by omega) (Nat.two_pow_pos _)
    have z : (0 != (0 : Nat)).toNat = 0 := rfl
    rw [z, Nat.zero_mul]
    exact ⟨fun h => absurd h (not_thr_zero hr (Nat.two_pow_pos _)), fun h => absurd h (not_thr_zero hr g)⟩
  · have hb : ∀ s : Nat, (s != 0).toNat = if s = 0 then 0 else 1 := by
      intro s; by_cases h : s = 0
      · simp [h]
      · simp [h]
    rw [hb] at hR
    exact rnd_congr (fun r hr => quo_thr m n i j h2 k2 hm hn (25 + n.log2 - m.log2) (by omega) r hr) hR

theorem rnd_le {R P Q r : Nat} (h : Rnd R P Q) (hQ : 0 < Q) (hr : r ≤ 2139095040) (hp : P ≤ M r * Q) : R ≤ r := by
  by_cases c : R ≤ r
  · exact c
  · exfalso
    have hR := h.1
    have t := (h.2 (r + 1) (by omega) (by omega)).1 (by omega)
    have e : Tr (r + 1) = M r + M (r + 1) := rfl
    have l := M_lt_succ r
    have l2 : (M r + M r) * Q < Tr (r + 1) * Q := (Nat.mul_lt_mul_right hQ).2 (by omega)
    rw [Nat.add_mul] at l2
    unfold Thr at t
    omega

theorem rnd_ge {R P Q r : Nat} (h : Rnd R P Q) (hQ : 0 < Q) (hr : r ≤ 2139095040) (hp : M r * Q ≤ P) : r ≤ R := by
  by_cases c : r = 0
  · omega
  · rw [h.2 r (by omega) hr]
    left
    have l := M_strict (show r - 1 < r by omega)
    have l2 : Tr r * Q < (M r + M r) * Q := (Nat.mul_lt_mul_right hQ).2 (by unfold Tr; omega)
    rw [Nat.add_mul] at l2
    omega

theorem rnd_exact {R P Q r : Nat} (h : Rnd R P Q) (hQ : 0 < Q) (hr : r ≤ 2139095040) (hp : P = M r * Q) : R = r := by
  have a := rnd_le h hQ hr (by omega)
  have b := rnd_ge h hQ hr (by omega)
  omega

theorem rnd_mono {R P Q R' P' Q' : Nat} (h : Rnd R P Q) (h' : Rnd R' P' Q') (hQ : 0 < Q) (hQ' : 0 < Q') (hp : P * Q' ≤ P' * Q) : R ≤ R' := by
  by_cases c : R = 0
  · omega
  · have hR := h.1
    rw [h'.2 R (by omega) hR]
    have t := (h.2 R (by omega) hR).1 (Nat.le_refl _)
    unfold Thr at t ⊢
    have e1 : Tr R * Q' * Q = Tr R * Q * Q' := by simp only [Nat.mul_assoc, Nat.mul_comm Q']
    have e2 : 2 * P' * Q = 2 * (P' * Q) := Nat.mul_assoc _ _ _
    have e3 : 2 * P * Q' = 2 * (P * Q') := Nat.mul_assoc _ _ _
    rcases t with t | ⟨t, k⟩
    · left
      have := (Nat.mul_lt_mul_right hQ').2 t
      rw [← mul_lt_iff hQ, e1, e2]; omega
    · have : Tr R * Q * Q' = 2 * P * Q' := by rw [t]
      by_cases e : P * Q' = P' * Q
      · right; refine ⟨?_, k⟩
        rw [← mul_eq_iff hQ, e1, e2]; omega
      · left
        rw [← mul_lt_iff hQ, e1, e2]; omega

theorem rnd_unique {R R' P Q : Nat} (h : Rnd R P Q) (h' : Rnd R' P Q) (hQ : 0 < Q) : R = R' := by
  have a := rnd_mono h h' hQ hQ (Nat.le_refl _)
  have b := rnd_mono h' h hQ hQ (Nat.le_refl _)
  omega

/-- How far the rounded number may lie off. -/
theorem rnd_low {R P Q : Nat} (h : Rnd R P Q) (h1 : 1 ≤ R) : Tr R * Q ≤ 2 * P := by
  have t := (h.2 R h1 h.1).1 (Nat.le_refl _)
  unfold Thr at t; omega
theorem rnd_high {R P Q : Nat} (h : Rnd R P Q) (h1 : R < 2139095040) : 2 * P ≤ Tr (R + 1) * Q := by
  have t : ¬ Thr (R + 1) P Q := fun c => Nat.not_succ_le_self R ((h.2 (R + 1) (by omega) (by omega)).2 c)
  unfold Thr at t; omega

/-! ### words -/
theorem word_eq {w : Nat} (h : w < 4294967296) : w = if sg w then 2147483648 + rung w else rung w := by
  unfold sg rung
  by_cases c : w < 2147483648
  · have : (w / 2147483648 % 2 == 1) = false := by simp; omega
    rw [this]; simp; omega
  · have : (w / 2147483648 % 2 == 1) = true := by simp; omega
    rw [this]; simp; omega

theorem word_ext {w v : Nat} (hw : w < 4294967296) (hv : v < 4294967296) (hs : sg w = sg v) (hr : rung w = rung v) : w = v := by
  rw [word_eq hw, word_eq hv, hs, hr]

theorem V_abs (w : Nat) : (V w).natAbs = M (rung w) := by unfold V; split <;> simp
theorem V_pos {w : Nat} (h : sg w = false) : V w = M (rung w) := by unfold V; simp [h]
theorem V_neg {w : Nat} (h : sg w = true) : V w = -(M (rung w) : Int) := by unfold V; simp [h]

theorem fin_of_le {w r : Nat} (h : rung w ≤ r) (hr : r < 2139095040) : Fnt w := by unfold Fnt; omega

theorem fadd_le {x y c : Nat} (hx : Fnt x) (hy : Fnt y) (hc : c ≤ 2139095040) (h : M (rung x) + M (rung y) ≤ M c) : rung (fadd x y) ≤ c := by
  refine rnd_le (add_fin hx hy).2.rnd (by omega) hc ?_
  have a := V_abs x
  have b := V_abs y
  omega

theorem fsub_le {x y c : Nat} (hx : Fnt x) (hy : Fnt y) (hc : c ≤ 2139095040) (h : M (rung x) + M (rung y) ≤ M c) : rung (fsub x y) ≤ c := by
  refine rnd_le (sub_fin hx hy).2.rnd (by omega) hc ?_
  have a := V_abs x
  have b := V_abs y
  omega

theorem fmul_le {x y c : Nat} (hx : Fnt x) (hy : Fnt y) (hc : c ≤ 2139095040) (h : M (rung x) * M (rung y) ≤ M c * 2 ^ 149) : rung (fmul x y) ≤ c :=
  rnd_le (mul_fin hx hy).2.rnd (by decide) hc h

/-- By bounds on the rungs. -/
theorem fmul_le' {x y a b c : Nat} (ha : rung x ≤ a) (hb : rung y ≤ b) (ha' : a < 2139095040) (hb' : b < 2139095040) (hc : c ≤ 2139095040) (h : M a * M b ≤ M c * 2 ^ 149) : rung (fmul x y) ≤ c :=
  fmul_le (fin_of_le ha ha') (fin_of_le hb hb') hc (Nat.le_trans (Nat.mul_le_mul (M_mono ha) (M_mono hb)) h)
theorem fadd_le' {x y a b c : Nat} (ha : rung x ≤ a) (hb : rung y ≤ b) (ha' : a < 2139095040) (hb' : b < 2139095040) (hc : c ≤ 2139095040) (h : M a + M b ≤ M c) : rung (fadd x y) ≤ c :=
  fadd_le (fin_of_le ha ha') (fin_of_le hb hb') hc (by have := M_mono ha; have := M_mono hb; omega)
theorem fsub_le' {x y a b c : Nat} (ha : rung x ≤ a) (hb : rung y ≤ b) (ha' : a < 2139095040) (hb' : b < 2139095040) (hc : c ≤ 2139095040) (h : M a + M b ≤ M c) : rung (fsub x y) ≤ c :=
  fsub_le (fin_of_le ha ha') (fin_of_le hb hb') hc (by have := M_mono ha; have := M_mono hb; omega)
theorem fdiv_le' {x y a b c : Nat} (ha : rung x ≤ a) (hb : b ≤ rung y) (hy : Fnt y) (ha' : a < 2139095040) (hb' : 0 < b) (hc : c ≤ 2139095040) (h : M a * 2 ^ 149 ≤ M c * M b) : rung (fdiv x y) ≤ c := by
  refine rnd_le (div_fin (fin_of_le ha ha') hy (by omega)).2.rnd (M_pos (by omega)) hc ?_
  exact Nat.le_trans (Nat.mul_le_mul_right _ (M_mono ha)) (Nat.le_trans h (Nat.mul_le_mul_left _ (M_mono hb)))
theorem fmul_ge' {x y a b c : Nat} (ha : a ≤ rung x) (hb : b ≤ rung y) (hx : Fnt x) (hy : Fnt y) (hc : c ≤ 2139095040) (h : M c * 2 ^ 149 ≤ M a * M b) : c ≤ rung (fmul x y) :=
  rnd_ge (mul_fin hx hy).2.rnd (by decide) hc (Nat.le_trans h (Nat.mul_le_mul (M_mono ha) (M_mono hb)))
theorem fdiv_ge' {x y a b c : Nat} (ha : a ≤ rung x) (hb : rung y ≤ b) (hx : Fnt x) (hb' : b < 2139095040) (hy : 0 < rung y) (hc : c ≤ 2139095040) (h : M c * M b ≤ M a * 2 ^ 149) : c ≤ rung (fdiv x y) := by
  refine rnd_ge (div_fin hx (fin_of_le hb hb') (by omega)).2.rnd (M_pos (by omega)) hc ?_
  exact Nat.le_trans (Nat.mul_le_mul_left _ (M_mono hb)) (Nat.le_trans h (Nat.mul_le_mul_right _ (M_mono ha)))

/-- '0 - a' of a number less than 0 is '-a'. -/
theorem fsub_zero {a : Nat} (ha : Fnt a) (hn : V a < 0) : fsub 0 a = rung a := by
  have i := (sub_fin (x := 0) (y := a) (by decide) ha).2
  have v0 : V 0 = 0 := by decide
  rw [v0] at i
  have hne : (0 : Int) - V a ≠ 0 := by omega
  rw [if_neg hne] at i
  have hr : rung (fsub 0 a) = rung a := by
    refine rnd_exact i.rnd (by omega) (by unfold Fnt at ha; omega) ?_
    have := V_abs a; omega
  have hs : sg (fsub 0 a) = false := by rw [i.sg]; simp; omega
  rw [word_eq i.lt, hs, hr]; simp

/-! ### comparisons -/
def feq (a b : Nat) : Bool := single.order a b == some .eq
def fne (a b : Nat) : Bool := single.order a b != some .eq
def flt (a b : Nat) : Bool := single.order a b == some .lt
def fle (a b : Nat) : Bool := single.order a b == some .lt || single.order a b == some .eq
def fgt (a b : Nat) : Bool := single.order a b == some .gt
def fge (a b : Nat) : Bool := single.order a b == some .gt || single.order a b == some .eq

theorem flt_fin {a b : Nat} (ha : Fnt a) (hb : Fnt b) : flt a b = decide (V a < V b) := by
  unfold flt; rw [order_fin ha hb]
  rcases Int.lt_trichotomy (V a) (V b) with c | c | c
  · rw [Int.compare_eq_lt.2 c]; simp [c]
  · rw [Int.compare_eq_eq.2 c]; simp [c]
  · rw [Int.compare_eq_gt.2 c]; simp; omega
theorem fgt_fin {a b : Nat} (ha : Fnt a) (hb : Fnt b) : fgt a b = decide (V b < V a) := by
  unfold fgt; rw [order_fin ha hb]
  rcases Int.lt_trichotomy (V a) (V b) with c | c | c
  · rw [Int.compare_eq_lt.2 c]; simp; omega
  · rw [Int.compare_eq_eq.2 c]; simp [c]
  · rw [Int.compare_eq_gt.2 c]; simp [c]
theorem feq_fin {a b : Nat} (ha : Fnt a) (hb : Fnt b) : feq a b = decide (V a = V b) := by
  unfold feq; rw [order_fin ha hb]
  rcases Int.lt_trichotomy (V a) (V b) with c | c | c
  · rw [Int.compare_eq_lt.2 c]; simp; omega
  · rw [Int.compare_eq_eq.2 c]; simp [c]
  · rw [Int.compare_eq_gt.2 c]; simp; omega
theorem fle_fin {a b : Nat} (ha : Fnt a) (hb : Fnt b) : fle a b = decide (V a ≤ V b) := by
  unfold fle; rw [order_fin ha hb]
  rcases Int.lt_trichotomy (V a) (V b) with c | c | c
  · rw [Int.compare_eq_lt.2 c]; simp; omega
  · rw [Int.compare_eq_eq.2 c]; simp [c]
  · rw [Int.compare_eq_gt.2 c]; simp; omega
theorem fge_fin {a b : Nat} (ha : Fnt a) (hb : Fnt b) : fge a b = decide (V b ≤ V a) := by
  unfold fge; rw [order_fin ha hb]
  rcases Int.lt_trichotomy (V a) (V b) with c | c | c
  · rw [Int.compare_eq_lt.2 c]; simp; omega
  · rw [Int.compare_eq_eq.2 c]; simp [c]
  · rw [Int.compare_eq_gt.2 c]; simp; omega
theorem fne_not (a b : Nat) : fne a b = !feq a b := rfl

/-- A word that is no finite number: an infinity or a NaN. -/
theorem read_inf {w : Nat} (h : ¬ Fnt w) : single.read w = .infinity (sg w) ∨ ∃ f, single.read w = .nan (sg w) f := by
  have e1 : single.signWeight = 2147483648 := by decide
  have e2 : single.binade = 8388608 := by decide
  have e3 : single.infRung = 2139095040 := by decide
  unfold Fnt at h
  have hr : w % 2147483648 = rung w := rfl
  have hs : (w / 2147483648 % 2 == 1) = sg w := rfl
  unfold Format.read
  simp only [e1, e2, e3, hr, hs]
  rw [if_neg (by omega), if_neg (by omega)]
  split
  · exact .inl rfl
  · exact .inr ⟨_, rfl⟩

/-- Between two finite numbers lie finite numbers alone. -/
theorem fin_of_between {a lo hi : Nat} (hlo : Fnt lo) (hhi : Fnt hi) (h1 : fge a lo = true) (h2 : fle a hi = true) : Fnt a := by
  by_cases c : Fnt a
  · exact c
  · exfalso
    obtain ⟨m, i, k1, _, _⟩ := read_fin hlo
    obtain ⟨n, j, l1, _, _⟩ := read_fin hhi
    unfold fge Format.order at h1
    unfold fle Format.order at h2
    rcases read_inf c with e | ⟨f, e⟩
    · rw [e, k1] at h1
      rw [e, l1] at h2
      cases hs : sg a <;> simp [Datum.order, hs] at h1 h2
    · rw [e, k1] at h1
      simp [Datum.order] at h1

theorem between {a lo hi : Nat} (hlo : Fnt lo) (hhi : Fnt hi) (h : (fge a lo && fle a hi) = true) : Fnt a ∧ V lo ≤ V a ∧ V a ≤ V hi := by
  rw [Bool.and_eq_true] at h
  have hf := fin_of_between hlo hhi h.1 h.2
  have h1 := h.1; have h2 := h.2
  rw [fge_fin hf hlo, decide_eq_true_eq] at h1
  rw [fle_fin hf hhi, decide_eq_true_eq] at h2
  exact ⟨hf, h1, h2⟩

theorem between_iff {a lo hi : Nat} (hf : Fnt a) (hlo : Fnt lo) (hhi : Fnt hi) : (fge a lo && fle a hi) = decide (V lo ≤ V a ∧ V a ≤ V hi) := by
  rw [fge_fin hf hlo, fle_fin hf hhi]; simp

theorem rung_le_of_V {a r : Nat} (h0 : -(M r : Int) ≤ V a) (h1 : V a ≤ M r) : rung a ≤ r := by
  rw [← M_le_iff, ← V_abs]; omega

theorem sg_of_pos {a : Nat} (h : 0 < V a) : sg a = false := by
  cases hs : sg a
  · rfl
  · rw [V_neg hs] at h; omega
theorem V_rung_lt {a : Nat} (h : sg a = false) {r : Nat} : V a ≤ M r ↔ rung a ≤ r := by
  rw [V_pos h, ← M_le_iff]; omega
theorem V_rung_ge {a : Nat} (h : sg a = false) {r : Nat} : (M r : Int) ≤ V a ↔ r ≤ rung a := by
  rw [V_pos h, ← M_le_iff]; omega
end Go.Proofs.Fl
